/- Functions that give a list of numbers, or none. No conditions. -/
import Derived.Test.YtnajffjobgeenaaMark
import Derived.Test.YtnajffjobgeenaaSpan
namespace Go.Ab
open Go.Proofs

theorem fnh_drop {X : Type} {P : Program} {f : FuncId} {A : World → List AV} {mk : X → AV} {post : X → List Ent} {good : X → Prop} {r : AV} (h : FnH P f A [] mk post good) (hr : ∀ y, mk y = r) : FnH (X := Unit) P f A [] (fun _ => r) (fun _ => []) (fun _ => True) :=
  fun w vs h1 h2 h3 => (h w vs h1 h2 h3).mono fun x w' ⟨v, y, e, _, hv, hm, _, _⟩ => ⟨v, (), e, trivial, by rw [← hr y]; exact hv, hm, (fun _ h => by cases h), List.Pairwise.nil⟩
attribute [local irreducible] WS RS Done OpJ Then InBlock Round Ret Env.sub FnH

theorem ifNumbers_yes (n c g : Nat) (f : Int → FV) (hn : n < 2 ^ 40 ∧ n ≤ c ∧ c ≤ maxLen) (hf : (tab n f).all finB = true) : FnH (X := Unit) Try.prog 78 (fun _ => [.raw (.slice (some ⟨g, 0, none⟩) n c)]) [entF g 26 n f c]
    (fun _ => .tup [.raw (.slice (some ⟨g, 0, none⟩) n c), .raw (.bool true)]) (fun _ => [entF g 26 n f c]) (fun _ => True) := by
  have hA : Fn Try.prog 64 (fun w => [slF w (tab n f)]) (.raw (.bool true)) := hf ▸ areFinite_fn (tab n f) (by simp; omega)
  refine fn_intro Try.func78 rfl Try.ntmps78 (fun _ => Nat.le_of_ble_eq_true rfl) fun w0 => ?_
  repeat
    first
        | refine rs_op rfl (opj_move rfl) ?_
        | refine rs_op rfl (opj_assign rfl) ?_
        | (refine rs_idb ?_; first | refine rs_op rfl (opj_fbin rfl rfl rfl) ?_ | refine rs_op rfl (opj_add rfl rfl (by omega)) ?_ | refine rs_op rfl (opj_sub rfl rfl (by omega)) ?_ | refine rs_op rfl (opj_fcmp rfl rfl rfl) ?_ | refine rs_op rfl (opj_lss rfl rfl) ?_ | refine rs_op rfl (opj_leq rfl rfl) ?_ | refine rs_op rfl (opj_gtr rfl rfl) ?_ | refine rs_op rfl (opj_geq rfl rfl) ?_ | refine rs_op rfl (opj_ieq rfl rfl) ?_ | refine rs_op rfl (opj_ine rfl rfl) ?_ | refine rs_op rfl (opj_beq rfl rfl) ?_ | refine rs_op rfl (opj_bne rfl rfl) ?_)
        | (refine rs_idc ?_; first | refine rs_op rfl (opj_lenT rfl) ?_ | refine rs_op rfl (opj_len_m rfl) ?_ | refine rs_op rfl (opj_len_raw rfl) ?_ | refine rs_op rfl (opj_real rfl) ?_ | refine rs_op rfl (opj_imag rfl) ?_ | refine rs_op rfl (opj_complex rfl rfl) ?_)
        | (refine rs_idl ?_; first | refine rs_op rfl (opj_loadT rfl rfl (by first | exact List.Mem.head _ | exact List.Mem.tail _ (List.Mem.head _) | exact List.Mem.tail _ (List.Mem.tail _ (List.Mem.head _)) | exact List.Mem.tail _ (List.Mem.tail _ (List.Mem.tail _ (List.Mem.head _))) | exact List.Mem.tail _ (List.Mem.tail _ (List.Mem.tail _ (List.Mem.tail _ (List.Mem.head _)))) | exact List.Mem.tail _ (List.Mem.tail _ (List.Mem.tail _ (List.Mem.tail _ (List.Mem.tail _ (List.Mem.head _))))) | exact List.Mem.tail _ (List.Mem.tail _ (List.Mem.tail _ (List.Mem.tail _ (List.Mem.tail _ (List.Mem.tail _ (List.Mem.head _)))))) | exact List.Mem.tail _ (List.Mem.tail _ (List.Mem.tail _ (List.Mem.tail _ (List.Mem.tail _ (List.Mem.tail _ (List.Mem.tail _ (List.Mem.head _))))))) | exact List.Mem.tail _ (List.Mem.tail _ (List.Mem.tail _ (List.Mem.tail _ (List.Mem.tail _ (List.Mem.tail _ (List.Mem.tail _ (List.Mem.tail _ (List.Mem.head _)))))))) | exact List.Mem.tail _ (List.Mem.tail _ (List.Mem.tail _ (List.Mem.tail _ (List.Mem.tail _ (List.Mem.tail _ (List.Mem.tail _ (List.Mem.tail _ (List.Mem.tail _ (List.Mem.head _))))))))) | exact List.Mem.tail _ (List.Mem.tail _ (List.Mem.tail _ (List.Mem.tail _ (List.Mem.tail _ (List.Mem.tail _ (List.Mem.tail _ (List.Mem.tail _ (List.Mem.tail _ (List.Mem.tail _ (List.Mem.head _)))))))))) | exact List.Mem.tail _ (List.Mem.tail _ (List.Mem.tail _ (List.Mem.tail _ (List.Mem.tail _ (List.Mem.tail _ (List.Mem.tail _ (List.Mem.tail _ (List.Mem.tail _ (List.Mem.tail _ (List.Mem.tail _ (List.Mem.head _))))))))))) | exact List.Mem.tail _ (List.Mem.tail _ (List.Mem.tail _ (List.Mem.tail _ (List.Mem.tail _ (List.Mem.tail _ (List.Mem.tail _ (List.Mem.tail _ (List.Mem.tail _ (List.Mem.tail _ (List.Mem.tail _ (List.Mem.tail _ (List.Mem.head _)))))))))))) | exact List.Mem.tail _ (List.Mem.tail _ (List.Mem.tail _ (List.Mem.tail _ (List.Mem.tail _ (List.Mem.tail _ (List.Mem.tail _ (List.Mem.tail _ (List.Mem.tail _ (List.Mem.tail _ (List.Mem.tail _ (List.Mem.tail _ (List.Mem.tail _ (List.Mem.head _)))))))))))))) (by omega)) ?_ | refine rs_op rfl (opj_load1 rfl rfl) ?_)
        | (refine rs_ida ?_; first | refine rs_op rfl (opj_indexT rfl rfl (by omega) (by omega)) ?_ | refine rs_op rfl (opj_index_m rfl rfl (by omega) (by omega)) ?_ | refine rs_op rfl (opj_index_own rfl rfl (by omega) (by omega)) ?_)
        | refine rs_op rfl (opj_wide rfl) ?_
        | refine rs_op rfl (opj_iconv rfl) ?_
        | refine rs_op rfl (opj_extract rfl rfl) ?_
        | refine rs_op rfl (opj_pick_t rfl rfl) ?_
        | refine rs_op rfl (opj_pick_f rfl rfl) ?_
        | refine rs_op rfl (opj_not rfl) ?_
        | refine rs_nil ?_
        | (refine done_id ?_; first | refine done_normal_then ?_ | refine done_ret_then ?_ | refine done_exit_then ?_ | refine done_normal_block ?_ | refine done_ret_block ?_ | refine done_exit_here ?_ | refine done_exit_on rfl ?_ | refine done_ret_round ?_ | refine done_exit_round ?_)
        | (refine ws_id ?_; first | refine ws_seq ?_ | refine ws_region ?_ | refine ws_block ?_ | refine ws_skip ?_ | refine ws_ret ?_ | refine ws_exit ?_ | refine ws_cond_t rfl ?_ | refine ws_cond_f rfl ?_)
        | refine rs_gy rfl rfl ?_
        | refine rs_no rfl rfl rfl rfl ?_
        | (refine rs_op rfl (opj_call rfl rfl hA ?_) ?_; (focus (exact Takes.own (List.Mem.head _) (by simp) hn.2.1 hn.2.2 Takes.nil)))
  exact done_ret2 rfl () rfl rfl rfl trivial (List.Sublist.refl _)
theorem ifNumbers_no (n c g : Nat) (f : Int → FV) (hn : n < 2 ^ 40 ∧ n ≤ c ∧ c ≤ maxLen) (hf : (tab n f).all finB = false) : FnH (X := Unit) Try.prog 78 (fun _ => [.raw (.slice (some ⟨g, 0, none⟩) n c)]) [entF g 26 n f c]
    (fun _ => .tup [.raw (.slice none 0 0), .raw (.bool false)]) (fun _ => [entF g 26 n f c]) (fun _ => True) := by
  have hA : Fn Try.prog 64 (fun w => [slF w (tab n f)]) (.raw (.bool false)) := hf ▸ areFinite_fn (tab n f) (by simp; omega)
  refine fn_intro Try.func78 rfl Try.ntmps78 (fun _ => Nat.le_of_ble_eq_true rfl) fun w0 => ?_
  repeat
    first
        | refine rs_op rfl (opj_move rfl) ?_
        | refine rs_op rfl (opj_assign rfl) ?_
        | (refine rs_idb ?_; first | refine rs_op rfl (opj_fbin rfl rfl rfl) ?_ | refine rs_op rfl (opj_add rfl rfl (by omega)) ?_ | refine rs_op rfl (opj_sub rfl rfl (by omega)) ?_ | refine rs_op rfl (opj_fcmp rfl rfl rfl) ?_ | refine rs_op rfl (opj_lss rfl rfl) ?_ | refine rs_op rfl (opj_leq rfl rfl) ?_ | refine rs_op rfl (opj_gtr rfl rfl) ?_ | refine rs_op rfl (opj_geq rfl rfl) ?_ | refine rs_op rfl (opj_ieq rfl rfl) ?_ | refine rs_op rfl (opj_ine rfl rfl) ?_ | refine rs_op rfl (opj_beq rfl rfl) ?_ | refine rs_op rfl (opj_bne rfl rfl) ?_)
        | (refine rs_idc ?_; first | refine rs_op rfl (opj_lenT rfl) ?_ | refine rs_op rfl (opj_len_m rfl) ?_ | refine rs_op rfl (opj_len_raw rfl) ?_ | refine rs_op rfl (opj_real rfl) ?_ | refine rs_op rfl (opj_imag rfl) ?_ | refine rs_op rfl (opj_complex rfl rfl) ?_)
        | (refine rs_idl ?_; first | refine rs_op rfl (opj_loadT rfl rfl (by first | exact List.Mem.head _ | exact List.Mem.tail _ (List.Mem.head _) | exact List.Mem.tail _ (List.Mem.tail _ (List.Mem.head _)) | exact List.Mem.tail _ (List.Mem.tail _ (List.Mem.tail _ (List.Mem.head _))) | exact List.Mem.tail _ (List.Mem.tail _ (List.Mem.tail _ (List.Mem.tail _ (List.Mem.head _)))) | exact List.Mem.tail _ (List.Mem.tail _ (List.Mem.tail _ (List.Mem.tail _ (List.Mem.tail _ (List.Mem.head _))))) | exact List.Mem.tail _ (List.Mem.tail _ (List.Mem.tail _ (List.Mem.tail _ (List.Mem.tail _ (List.Mem.tail _ (List.Mem.head _)))))) | exact List.Mem.tail _ (List.Mem.tail _ (List.Mem.tail _ (List.Mem.tail _ (List.Mem.tail _ (List.Mem.tail _ (List.Mem.tail _ (List.Mem.head _))))))) | exact List.Mem.tail _ (List.Mem.tail _ (List.Mem.tail _ (List.Mem.tail _ (List.Mem.tail _ (List.Mem.tail _ (List.Mem.tail _ (List.Mem.tail _ (List.Mem.head _)))))))) | exact List.Mem.tail _ (List.Mem.tail _ (List.Mem.tail _ (List.Mem.tail _ (List.Mem.tail _ (List.Mem.tail _ (List.Mem.tail _ (List.Mem.tail _ (List.Mem.tail _ (List.Mem.head _))))))))) | exact List.Mem.tail _ (List.Mem.tail _ (List.Mem.tail _ (List.Mem.tail _ (List.Mem.tail _ (List.Mem.tail _ (List.Mem.tail _ (List.Mem.tail _ (List.Mem.tail _ (List.Mem.tail _ (List.Mem.head _)))))))))) | exact List.Mem.tail _ (List.Mem.tail _ (List.Mem.tail _ (List.Mem.tail _ (List.Mem.tail _ (List.Mem.tail _ (List.Mem.tail _ (List.Mem.tail _ (List.Mem.tail _ (List.Mem.tail _ (List.Mem.tail _ (List.Mem.head _))))))))))) | exact List.Mem.tail _ (List.Mem.tail _ (List.Mem.tail _ (List.Mem.tail _ (List.Mem.tail _ (List.Mem.tail _ (List.Mem.tail _ (List.Mem.tail _ (List.Mem.tail _ (List.Mem.tail _ (List.Mem.tail _ (List.Mem.tail _ (List.Mem.head _)))))))))))) | exact List.Mem.tail _ (List.Mem.tail _ (List.Mem.tail _ (List.Mem.tail _ (List.Mem.tail _ (List.Mem.tail _ (List.Mem.tail _ (List.Mem.tail _ (List.Mem.tail _ (List.Mem.tail _ (List.Mem.tail _ (List.Mem.tail _ (List.Mem.tail _ (List.Mem.head _)))))))))))))) (by omega)) ?_ | refine rs_op rfl (opj_load1 rfl rfl) ?_)
        | (refine rs_ida ?_; first | refine rs_op rfl (opj_indexT rfl rfl (by omega) (by omega)) ?_ | refine rs_op rfl (opj_index_m rfl rfl (by omega) (by omega)) ?_ | refine rs_op rfl (opj_index_own rfl rfl (by omega) (by omega)) ?_)
        | refine rs_op rfl (opj_wide rfl) ?_
        | refine rs_op rfl (opj_iconv rfl) ?_
        | refine rs_op rfl (opj_extract rfl rfl) ?_
        | refine rs_op rfl (opj_pick_t rfl rfl) ?_
        | refine rs_op rfl (opj_pick_f rfl rfl) ?_
        | refine rs_op rfl (opj_not rfl) ?_
        | refine rs_nil ?_
        | (refine done_id ?_; first | refine done_normal_then ?_ | refine done_ret_then ?_ | refine done_exit_then ?_ | refine done_normal_block ?_ | refine done_ret_block ?_ | refine done_exit_here ?_ | refine done_exit_on rfl ?_ | refine done_ret_round ?_ | refine done_exit_round ?_)
        | (refine ws_id ?_; first | refine ws_seq ?_ | refine ws_region ?_ | refine ws_block ?_ | refine ws_skip ?_ | refine ws_ret ?_ | refine ws_exit ?_ | refine ws_cond_t rfl ?_ | refine ws_cond_f rfl ?_)
        | refine rs_gy rfl rfl ?_
        | refine rs_no rfl rfl rfl rfl ?_
        | (refine rs_op rfl (opj_call rfl rfl hA ?_) ?_; (focus (exact Takes.own (List.Mem.head _) (by simp) hn.2.1 hn.2.2 Takes.nil)))
  exact done_ret2 rfl () rfl rfl rfl trivial (List.Sublist.refl _)

/-- What a function that makes a list tells: the list, or none. -/
def lstT (g n : Nat) : AV := .tup [.raw (.slice (some ⟨g, 0, none⟩) n n), .raw (.bool true)]
def noT : AV := .tup [.raw (.slice none 0 0), .raw (.bool false)]

theorem graph_tab {n m : Nat} {f g : Int → FV} (h : graphB (tab n f) (tab m g) = true) : 2 ≤ n ∧ n ≤ 48 ∧ m = n := by
  have := graph_len h
  simpa using this
/-- The list if it is finite, else none. -/
def numsT (b : Bool) (g n : Nat) : AV := .tup [.raw (match b with | true => .slice (some ⟨g, 0, none⟩) n n | false => .slice none 0 0), .raw (.bool b)]
theorem ifNumbers_any (n g : Nat) (f : Int → FV) (b : Bool) (hn : n < 2 ^ 40) (hf : (tab n f).all finB = b) : FnH (X := Unit) Try.prog 78 (fun _ => [.raw (.slice (some ⟨g, 0, none⟩) n n)]) [entF g 26 n f n]
    (fun _ => numsT b g n) (fun _ => [entF g 26 n f n]) (fun _ => True) := by
  cases b
  · exact ifNumbers_no n n g f (by simp only [maxLen]; omega) hf
  · exact ifNumbers_yes n n g f (by simp only [maxLen]; omega) hf
theorem toFloatT_fn (n : Nat) (f : Int → FV) (h : n < 2 ^ 46) : FnH (X := Nat) Try.prog 19 (fun w => [slF w (tab n f)]) [] (fun g => .raw (.slice (some ⟨g, 0, none⟩) n n)) (fun g => [entF g 26 n f n]) (fun _ => True) := by
  have h := toFloat_fn (tab n f) (by simpa using h)
  simp only [tab_length] at h
  exact h
end Go.Ab
