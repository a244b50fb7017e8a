/- The steps of a graph and the slopes between its points: what the program's stepsOf makes, and what the reference's l05Slope tells. No conditions. -/
import Derived.Test.YtnajffjobgeenaaMark
import Derived.Test.YtnajffjobgeenaaGraph
namespace Go.Ab
open Go.Proofs
attribute [local irreducible] WS RS Done OpJ Then InBlock Round Ret Env.sub FnH

def hT (f : Int → FV) (i : Int) : FV := if i < 1 then fv .f32 0 else fbin .sub .f32 (f i) (f (i - 1))
def sT (f g : Int → FV) (i : Int) : FV := if i < 1 then fv .f32 0 else fbin .quo .f32 (fbin .sub .f32 (g i) (g (i - 1))) (hT f i)
theorem hT_pos (f : Int → FV) {i : Int} (h : 1 ≤ i) : hT f i = fbin .sub .f32 (f i) (f (i - 1)) := if_neg (by omega)
theorem sT_pos (f g : Int → FV) {i : Int} (h : 1 ≤ i) : sT f g i = fbin .quo .f32 (fbin .sub .f32 (g i) (g (i - 1))) (hT f i) := if_neg (by omega)

theorem stepsOf_fn (n : Nat) (f g : Int → FV) (hn : 2 ≤ n) (hn' : n < 2 ^ 40) : FnH (X := (Nat × Nat) × (Nat × Nat)) Try.prog 109 (fun w => [slF w (tab n f), slF w (tab n g)]) []
    (fun y => .tup [.raw (.slice (some ⟨y.1.1, 0, none⟩) n y.1.2), .raw (.slice (some ⟨y.2.1, 0, none⟩) n y.2.2)])
    (fun y => [entF y.2.1 26 n (sT f g) y.2.2, entF y.1.1 26 n (hT f) y.1.2]) (fun y => n ≤ y.1.2 ∧ n ≤ y.2.2) := by
  refine fn_intro Try.func109 rfl Try.ntmps109 (fun _ => Nat.le_of_ble_eq_true rfl) fun w0 => ?_
  repeat
    first
        | refine rs_op rfl (opj_move rfl) ?_
        | refine rs_op rfl (opj_assign rfl) ?_
        | (refine rs_idb ?_; first | refine rs_op rfl (opj_fbin rfl rfl rfl) ?_ | refine rs_op rfl (opj_add rfl rfl (by omega)) ?_ | refine rs_op rfl (opj_sub rfl rfl (by omega)) ?_ | refine rs_op rfl (opj_fcmp rfl rfl rfl) ?_ | refine rs_op rfl (opj_lss rfl rfl) ?_ | refine rs_op rfl (opj_leq rfl rfl) ?_ | refine rs_op rfl (opj_gtr rfl rfl) ?_ | refine rs_op rfl (opj_geq rfl rfl) ?_ | refine rs_op rfl (opj_ieq rfl rfl) ?_ | refine rs_op rfl (opj_ine rfl rfl) ?_ | refine rs_op rfl (opj_beq rfl rfl) ?_ | refine rs_op rfl (opj_bne rfl rfl) ?_)
        | (refine rs_idc ?_; first | refine rs_op rfl (opj_lenT rfl) ?_ | refine rs_op rfl (opj_len_m rfl) ?_ | refine rs_op rfl (opj_len_raw rfl) ?_ | refine rs_op rfl (opj_real rfl) ?_ | refine rs_op rfl (opj_imag rfl) ?_ | refine rs_op rfl (opj_complex rfl rfl) ?_)
        | (refine rs_idl ?_; first | refine rs_op rfl (opj_loadT rfl rfl (by first | exact List.Mem.head _ | exact List.Mem.tail _ (List.Mem.head _) | exact List.Mem.tail _ (List.Mem.tail _ (List.Mem.head _)) | exact List.Mem.tail _ (List.Mem.tail _ (List.Mem.tail _ (List.Mem.head _))) | exact List.Mem.tail _ (List.Mem.tail _ (List.Mem.tail _ (List.Mem.tail _ (List.Mem.head _)))) | exact List.Mem.tail _ (List.Mem.tail _ (List.Mem.tail _ (List.Mem.tail _ (List.Mem.tail _ (List.Mem.head _))))) | exact List.Mem.tail _ (List.Mem.tail _ (List.Mem.tail _ (List.Mem.tail _ (List.Mem.tail _ (List.Mem.tail _ (List.Mem.head _)))))) | exact List.Mem.tail _ (List.Mem.tail _ (List.Mem.tail _ (List.Mem.tail _ (List.Mem.tail _ (List.Mem.tail _ (List.Mem.tail _ (List.Mem.head _))))))) | exact List.Mem.tail _ (List.Mem.tail _ (List.Mem.tail _ (List.Mem.tail _ (List.Mem.tail _ (List.Mem.tail _ (List.Mem.tail _ (List.Mem.tail _ (List.Mem.head _)))))))) | exact List.Mem.tail _ (List.Mem.tail _ (List.Mem.tail _ (List.Mem.tail _ (List.Mem.tail _ (List.Mem.tail _ (List.Mem.tail _ (List.Mem.tail _ (List.Mem.tail _ (List.Mem.head _))))))))) | exact List.Mem.tail _ (List.Mem.tail _ (List.Mem.tail _ (List.Mem.tail _ (List.Mem.tail _ (List.Mem.tail _ (List.Mem.tail _ (List.Mem.tail _ (List.Mem.tail _ (List.Mem.tail _ (List.Mem.head _)))))))))) | exact List.Mem.tail _ (List.Mem.tail _ (List.Mem.tail _ (List.Mem.tail _ (List.Mem.tail _ (List.Mem.tail _ (List.Mem.tail _ (List.Mem.tail _ (List.Mem.tail _ (List.Mem.tail _ (List.Mem.tail _ (List.Mem.head _))))))))))) | exact List.Mem.tail _ (List.Mem.tail _ (List.Mem.tail _ (List.Mem.tail _ (List.Mem.tail _ (List.Mem.tail _ (List.Mem.tail _ (List.Mem.tail _ (List.Mem.tail _ (List.Mem.tail _ (List.Mem.tail _ (List.Mem.tail _ (List.Mem.head _)))))))))))) | exact List.Mem.tail _ (List.Mem.tail _ (List.Mem.tail _ (List.Mem.tail _ (List.Mem.tail _ (List.Mem.tail _ (List.Mem.tail _ (List.Mem.tail _ (List.Mem.tail _ (List.Mem.tail _ (List.Mem.tail _ (List.Mem.tail _ (List.Mem.tail _ (List.Mem.head _)))))))))))))) (by omega)) ?_ | refine rs_op rfl (opj_load1 rfl rfl) ?_)
        | (refine rs_ida ?_; first | refine rs_op rfl (opj_indexT rfl rfl (by omega) (by omega)) ?_ | refine rs_op rfl (opj_index_m rfl rfl (by omega) (by omega)) ?_ | refine rs_op rfl (opj_index_own rfl rfl (by omega) (by omega)) ?_)
        | refine rs_op rfl (opj_wide rfl) ?_
        | refine rs_op rfl (opj_iconv rfl) ?_
        | refine rs_op rfl (opj_extract rfl rfl) ?_
        | refine rs_op rfl (opj_pick_t rfl rfl) ?_
        | refine rs_op rfl (opj_pick_f rfl rfl) ?_
        | refine rs_op rfl (opj_not rfl) ?_
        | refine rs_nil ?_
        | (refine done_id ?_; first | refine done_normal_then ?_ | refine done_ret_then ?_ | refine done_exit_then ?_ | refine done_normal_block ?_ | refine done_ret_block ?_ | refine done_exit_here ?_ | refine done_exit_on rfl ?_ | refine done_ret_round ?_ | refine done_exit_round ?_)
        | (refine ws_id ?_; first | refine ws_seq ?_ | refine ws_region ?_ | refine ws_block ?_ | refine ws_skip ?_ | refine ws_ret ?_ | refine ws_exit ?_ | refine ws_cond_t rfl ?_ | refine ws_cond_f rfl ?_)
        | refine rs_gy rfl rfl ?_
        | refine rs_no rfl rfl rfl rfl ?_
  refine rs_litP rfl rfl rfl rfl rfl rfl fun g1 => ?_
  refine rs_litP rfl rfl rfl rfl rfl rfl fun g2 => ?_
  repeat
    first
        | refine rs_op rfl (opj_move rfl) ?_
        | refine rs_op rfl (opj_assign rfl) ?_
        | (refine rs_idb ?_; first | refine rs_op rfl (opj_fbin rfl rfl rfl) ?_ | refine rs_op rfl (opj_add rfl rfl (by omega)) ?_ | refine rs_op rfl (opj_sub rfl rfl (by omega)) ?_ | refine rs_op rfl (opj_fcmp rfl rfl rfl) ?_ | refine rs_op rfl (opj_lss rfl rfl) ?_ | refine rs_op rfl (opj_leq rfl rfl) ?_ | refine rs_op rfl (opj_gtr rfl rfl) ?_ | refine rs_op rfl (opj_geq rfl rfl) ?_ | refine rs_op rfl (opj_ieq rfl rfl) ?_ | refine rs_op rfl (opj_ine rfl rfl) ?_ | refine rs_op rfl (opj_beq rfl rfl) ?_ | refine rs_op rfl (opj_bne rfl rfl) ?_)
        | (refine rs_idc ?_; first | refine rs_op rfl (opj_lenT rfl) ?_ | refine rs_op rfl (opj_len_m rfl) ?_ | refine rs_op rfl (opj_len_raw rfl) ?_ | refine rs_op rfl (opj_real rfl) ?_ | refine rs_op rfl (opj_imag rfl) ?_ | refine rs_op rfl (opj_complex rfl rfl) ?_)
        | (refine rs_idl ?_; first | refine rs_op rfl (opj_loadT rfl rfl (by first | exact List.Mem.head _ | exact List.Mem.tail _ (List.Mem.head _) | exact List.Mem.tail _ (List.Mem.tail _ (List.Mem.head _)) | exact List.Mem.tail _ (List.Mem.tail _ (List.Mem.tail _ (List.Mem.head _))) | exact List.Mem.tail _ (List.Mem.tail _ (List.Mem.tail _ (List.Mem.tail _ (List.Mem.head _)))) | exact List.Mem.tail _ (List.Mem.tail _ (List.Mem.tail _ (List.Mem.tail _ (List.Mem.tail _ (List.Mem.head _))))) | exact List.Mem.tail _ (List.Mem.tail _ (List.Mem.tail _ (List.Mem.tail _ (List.Mem.tail _ (List.Mem.tail _ (List.Mem.head _)))))) | exact List.Mem.tail _ (List.Mem.tail _ (List.Mem.tail _ (List.Mem.tail _ (List.Mem.tail _ (List.Mem.tail _ (List.Mem.tail _ (List.Mem.head _))))))) | exact List.Mem.tail _ (List.Mem.tail _ (List.Mem.tail _ (List.Mem.tail _ (List.Mem.tail _ (List.Mem.tail _ (List.Mem.tail _ (List.Mem.tail _ (List.Mem.head _)))))))) | exact List.Mem.tail _ (List.Mem.tail _ (List.Mem.tail _ (List.Mem.tail _ (List.Mem.tail _ (List.Mem.tail _ (List.Mem.tail _ (List.Mem.tail _ (List.Mem.tail _ (List.Mem.head _))))))))) | exact List.Mem.tail _ (List.Mem.tail _ (List.Mem.tail _ (List.Mem.tail _ (List.Mem.tail _ (List.Mem.tail _ (List.Mem.tail _ (List.Mem.tail _ (List.Mem.tail _ (List.Mem.tail _ (List.Mem.head _)))))))))) | exact List.Mem.tail _ (List.Mem.tail _ (List.Mem.tail _ (List.Mem.tail _ (List.Mem.tail _ (List.Mem.tail _ (List.Mem.tail _ (List.Mem.tail _ (List.Mem.tail _ (List.Mem.tail _ (List.Mem.tail _ (List.Mem.head _))))))))))) | exact List.Mem.tail _ (List.Mem.tail _ (List.Mem.tail _ (List.Mem.tail _ (List.Mem.tail _ (List.Mem.tail _ (List.Mem.tail _ (List.Mem.tail _ (List.Mem.tail _ (List.Mem.tail _ (List.Mem.tail _ (List.Mem.tail _ (List.Mem.head _)))))))))))) | exact List.Mem.tail _ (List.Mem.tail _ (List.Mem.tail _ (List.Mem.tail _ (List.Mem.tail _ (List.Mem.tail _ (List.Mem.tail _ (List.Mem.tail _ (List.Mem.tail _ (List.Mem.tail _ (List.Mem.tail _ (List.Mem.tail _ (List.Mem.tail _ (List.Mem.head _)))))))))))))) (by omega)) ?_ | refine rs_op rfl (opj_load1 rfl rfl) ?_)
        | (refine rs_ida ?_; first | refine rs_op rfl (opj_indexT rfl rfl (by omega) (by omega)) ?_ | refine rs_op rfl (opj_index_m rfl rfl (by omega) (by omega)) ?_ | refine rs_op rfl (opj_index_own rfl rfl (by omega) (by omega)) ?_)
        | refine rs_op rfl (opj_wide rfl) ?_
        | refine rs_op rfl (opj_iconv rfl) ?_
        | refine rs_op rfl (opj_extract rfl rfl) ?_
        | refine rs_op rfl (opj_pick_t rfl rfl) ?_
        | refine rs_op rfl (opj_pick_f rfl rfl) ?_
        | refine rs_op rfl (opj_not rfl) ?_
        | refine rs_nil ?_
        | (refine done_id ?_; first | refine done_normal_then ?_ | refine done_ret_then ?_ | refine done_exit_then ?_ | refine done_normal_block ?_ | refine done_ret_block ?_ | refine done_exit_here ?_ | refine done_exit_on rfl ?_ | refine done_ret_round ?_ | refine done_exit_round ?_)
        | (refine ws_id ?_; first | refine ws_seq ?_ | refine ws_region ?_ | refine ws_block ?_ | refine ws_skip ?_ | refine ws_ret ?_ | refine ws_exit ?_ | refine ws_cond_t rfl ?_ | refine ws_cond_f rfl ?_)
        | refine rs_gy rfl rfl ?_
        | refine rs_no rfl rfl rfl rfl ?_
  refine ws_loop (ι := Nat × (Nat × Nat) × (Nat × Nat)) (fun y => [(0, slF w0 (tab n f)), (1, slF w0 (tab n g)), (6, .raw (.slice (some ⟨y.2.1.1, 0, none⟩) (y.1 + 1) y.2.1.2)), (7, .raw (.slice (some ⟨y.2.2.1, 0, none⟩) (y.1 + 1) y.2.2.2)), (8, .raw (.int .i64 ((y.1 : Int) + 1)))])
    (fun y => St w0 [] [entF y.2.2.1 26 (y.1 + 1) (sT f g) y.2.2.2, entF y.2.1.1 26 (y.1 + 1) (hT f) y.2.1.2])
    (fun y => y.1 + 1 ≤ n ∧ y.1 + 1 ≤ y.2.1.2 ∧ y.1 + 1 ≤ y.2.2.2 ∧ y.2.1.2 ≤ maxLen ∧ y.2.2.2 ≤ maxLen) (fun y => n - y.1) (0, (g1, 1), (g2, 1)) (by simp only [maxLen]; omega) ?_ (fun _ h => h) (fun y hy => ?_)
  · (repeat (first | exact Env.sub_nil _ | refine Env.sub_cons rfl ?_))
  · obtain ⟨k, ⟨a1, c1⟩, ⟨a2, c2⟩⟩ := y
    simp only at hy ⊢
    obtain ⟨hk, hc1, hc2, hm1, hm2⟩ := hy
    repeat
      first
          | refine rs_op rfl (opj_move rfl) ?_
          | refine rs_op rfl (opj_assign rfl) ?_
          | (refine rs_idb ?_; first | refine rs_op rfl (opj_fbin rfl rfl rfl) ?_ | refine rs_op rfl (opj_add rfl rfl (by omega)) ?_ | refine rs_op rfl (opj_sub rfl rfl (by omega)) ?_ | refine rs_op rfl (opj_fcmp rfl rfl rfl) ?_ | refine rs_op rfl (opj_lss rfl rfl) ?_ | refine rs_op rfl (opj_leq rfl rfl) ?_ | refine rs_op rfl (opj_gtr rfl rfl) ?_ | refine rs_op rfl (opj_geq rfl rfl) ?_ | refine rs_op rfl (opj_ieq rfl rfl) ?_ | refine rs_op rfl (opj_ine rfl rfl) ?_ | refine rs_op rfl (opj_beq rfl rfl) ?_ | refine rs_op rfl (opj_bne rfl rfl) ?_)
          | (refine rs_idc ?_; first | refine rs_op rfl (opj_lenT rfl) ?_ | refine rs_op rfl (opj_len_m rfl) ?_ | refine rs_op rfl (opj_len_raw rfl) ?_ | refine rs_op rfl (opj_real rfl) ?_ | refine rs_op rfl (opj_imag rfl) ?_ | refine rs_op rfl (opj_complex rfl rfl) ?_)
          | (refine rs_idl ?_; first | refine rs_op rfl (opj_loadT rfl rfl (by first | exact List.Mem.head _ | exact List.Mem.tail _ (List.Mem.head _) | exact List.Mem.tail _ (List.Mem.tail _ (List.Mem.head _)) | exact List.Mem.tail _ (List.Mem.tail _ (List.Mem.tail _ (List.Mem.head _))) | exact List.Mem.tail _ (List.Mem.tail _ (List.Mem.tail _ (List.Mem.tail _ (List.Mem.head _)))) | exact List.Mem.tail _ (List.Mem.tail _ (List.Mem.tail _ (List.Mem.tail _ (List.Mem.tail _ (List.Mem.head _))))) | exact List.Mem.tail _ (List.Mem.tail _ (List.Mem.tail _ (List.Mem.tail _ (List.Mem.tail _ (List.Mem.tail _ (List.Mem.head _)))))) | exact List.Mem.tail _ (List.Mem.tail _ (List.Mem.tail _ (List.Mem.tail _ (List.Mem.tail _ (List.Mem.tail _ (List.Mem.tail _ (List.Mem.head _))))))) | exact List.Mem.tail _ (List.Mem.tail _ (List.Mem.tail _ (List.Mem.tail _ (List.Mem.tail _ (List.Mem.tail _ (List.Mem.tail _ (List.Mem.tail _ (List.Mem.head _)))))))) | exact List.Mem.tail _ (List.Mem.tail _ (List.Mem.tail _ (List.Mem.tail _ (List.Mem.tail _ (List.Mem.tail _ (List.Mem.tail _ (List.Mem.tail _ (List.Mem.tail _ (List.Mem.head _))))))))) | exact List.Mem.tail _ (List.Mem.tail _ (List.Mem.tail _ (List.Mem.tail _ (List.Mem.tail _ (List.Mem.tail _ (List.Mem.tail _ (List.Mem.tail _ (List.Mem.tail _ (List.Mem.tail _ (List.Mem.head _)))))))))) | exact List.Mem.tail _ (List.Mem.tail _ (List.Mem.tail _ (List.Mem.tail _ (List.Mem.tail _ (List.Mem.tail _ (List.Mem.tail _ (List.Mem.tail _ (List.Mem.tail _ (List.Mem.tail _ (List.Mem.tail _ (List.Mem.head _))))))))))) | exact List.Mem.tail _ (List.Mem.tail _ (List.Mem.tail _ (List.Mem.tail _ (List.Mem.tail _ (List.Mem.tail _ (List.Mem.tail _ (List.Mem.tail _ (List.Mem.tail _ (List.Mem.tail _ (List.Mem.tail _ (List.Mem.tail _ (List.Mem.head _)))))))))))) | exact List.Mem.tail _ (List.Mem.tail _ (List.Mem.tail _ (List.Mem.tail _ (List.Mem.tail _ (List.Mem.tail _ (List.Mem.tail _ (List.Mem.tail _ (List.Mem.tail _ (List.Mem.tail _ (List.Mem.tail _ (List.Mem.tail _ (List.Mem.tail _ (List.Mem.head _)))))))))))))) (by omega)) ?_ | refine rs_op rfl (opj_load1 rfl rfl) ?_)
          | (refine rs_ida ?_; first | refine rs_op rfl (opj_indexT rfl rfl (by omega) (by omega)) ?_ | refine rs_op rfl (opj_index_m rfl rfl (by omega) (by omega)) ?_ | refine rs_op rfl (opj_index_own rfl rfl (by omega) (by omega)) ?_)
          | refine rs_op rfl (opj_wide rfl) ?_
          | refine rs_op rfl (opj_iconv rfl) ?_
          | refine rs_op rfl (opj_extract rfl rfl) ?_
          | refine rs_op rfl (opj_pick_t rfl rfl) ?_
          | refine rs_op rfl (opj_pick_f rfl rfl) ?_
          | refine rs_op rfl (opj_not rfl) ?_
          | refine rs_nil ?_
          | (refine done_id ?_; first | refine done_normal_then ?_ | refine done_ret_then ?_ | refine done_exit_then ?_ | refine done_normal_block ?_ | refine done_ret_block ?_ | refine done_exit_here ?_ | refine done_exit_on rfl ?_ | refine done_ret_round ?_ | refine done_exit_round ?_)
          | (refine ws_id ?_; first | refine ws_seq ?_ | refine ws_region ?_ | refine ws_block ?_ | refine ws_skip ?_ | refine ws_ret ?_ | refine ws_exit ?_ | refine ws_cond_t rfl ?_ | refine ws_cond_f rfl ?_)
          | refine rs_gy rfl rfl ?_
          | refine rs_no rfl rfl rfl rfl ?_
    refine ws_cond rfl (fun hc => ?_) (fun hc => ?_)
    · have hlt : (k : Int) + 1 < n := of_decide_eq_true hc
      repeat
        first
            | refine rs_op rfl (opj_move rfl) ?_
            | refine rs_op rfl (opj_assign rfl) ?_
            | (refine rs_idb ?_; first | refine rs_op rfl (opj_fbin rfl rfl rfl) ?_ | refine rs_op rfl (opj_add rfl rfl (by omega)) ?_ | refine rs_op rfl (opj_sub rfl rfl (by omega)) ?_ | refine rs_op rfl (opj_fcmp rfl rfl rfl) ?_ | refine rs_op rfl (opj_lss rfl rfl) ?_ | refine rs_op rfl (opj_leq rfl rfl) ?_ | refine rs_op rfl (opj_gtr rfl rfl) ?_ | refine rs_op rfl (opj_geq rfl rfl) ?_ | refine rs_op rfl (opj_ieq rfl rfl) ?_ | refine rs_op rfl (opj_ine rfl rfl) ?_ | refine rs_op rfl (opj_beq rfl rfl) ?_ | refine rs_op rfl (opj_bne rfl rfl) ?_)
            | (refine rs_idc ?_; first | refine rs_op rfl (opj_lenT rfl) ?_ | refine rs_op rfl (opj_len_m rfl) ?_ | refine rs_op rfl (opj_len_raw rfl) ?_ | refine rs_op rfl (opj_real rfl) ?_ | refine rs_op rfl (opj_imag rfl) ?_ | refine rs_op rfl (opj_complex rfl rfl) ?_)
            | (refine rs_idl ?_; first | refine rs_op rfl (opj_loadT rfl rfl (by first | exact List.Mem.head _ | exact List.Mem.tail _ (List.Mem.head _) | exact List.Mem.tail _ (List.Mem.tail _ (List.Mem.head _)) | exact List.Mem.tail _ (List.Mem.tail _ (List.Mem.tail _ (List.Mem.head _))) | exact List.Mem.tail _ (List.Mem.tail _ (List.Mem.tail _ (List.Mem.tail _ (List.Mem.head _)))) | exact List.Mem.tail _ (List.Mem.tail _ (List.Mem.tail _ (List.Mem.tail _ (List.Mem.tail _ (List.Mem.head _))))) | exact List.Mem.tail _ (List.Mem.tail _ (List.Mem.tail _ (List.Mem.tail _ (List.Mem.tail _ (List.Mem.tail _ (List.Mem.head _)))))) | exact List.Mem.tail _ (List.Mem.tail _ (List.Mem.tail _ (List.Mem.tail _ (List.Mem.tail _ (List.Mem.tail _ (List.Mem.tail _ (List.Mem.head _))))))) | exact List.Mem.tail _ (List.Mem.tail _ (List.Mem.tail _ (List.Mem.tail _ (List.Mem.tail _ (List.Mem.tail _ (List.Mem.tail _ (List.Mem.tail _ (List.Mem.head _)))))))) | exact List.Mem.tail _ (List.Mem.tail _ (List.Mem.tail _ (List.Mem.tail _ (List.Mem.tail _ (List.Mem.tail _ (List.Mem.tail _ (List.Mem.tail _ (List.Mem.tail _ (List.Mem.head _))))))))) | exact List.Mem.tail _ (List.Mem.tail _ (List.Mem.tail _ (List.Mem.tail _ (List.Mem.tail _ (List.Mem.tail _ (List.Mem.tail _ (List.Mem.tail _ (List.Mem.tail _ (List.Mem.tail _ (List.Mem.head _)))))))))) | exact List.Mem.tail _ (List.Mem.tail _ (List.Mem.tail _ (List.Mem.tail _ (List.Mem.tail _ (List.Mem.tail _ (List.Mem.tail _ (List.Mem.tail _ (List.Mem.tail _ (List.Mem.tail _ (List.Mem.tail _ (List.Mem.head _))))))))))) | exact List.Mem.tail _ (List.Mem.tail _ (List.Mem.tail _ (List.Mem.tail _ (List.Mem.tail _ (List.Mem.tail _ (List.Mem.tail _ (List.Mem.tail _ (List.Mem.tail _ (List.Mem.tail _ (List.Mem.tail _ (List.Mem.tail _ (List.Mem.head _)))))))))))) | exact List.Mem.tail _ (List.Mem.tail _ (List.Mem.tail _ (List.Mem.tail _ (List.Mem.tail _ (List.Mem.tail _ (List.Mem.tail _ (List.Mem.tail _ (List.Mem.tail _ (List.Mem.tail _ (List.Mem.tail _ (List.Mem.tail _ (List.Mem.tail _ (List.Mem.head _)))))))))))))) (by omega)) ?_ | refine rs_op rfl (opj_load1 rfl rfl) ?_)
            | (refine rs_ida ?_; first | refine rs_op rfl (opj_indexT rfl rfl (by omega) (by omega)) ?_ | refine rs_op rfl (opj_index_m rfl rfl (by omega) (by omega)) ?_ | refine rs_op rfl (opj_index_own rfl rfl (by omega) (by omega)) ?_)
            | refine rs_op rfl (opj_wide rfl) ?_
            | refine rs_op rfl (opj_iconv rfl) ?_
            | refine rs_op rfl (opj_extract rfl rfl) ?_
            | refine rs_op rfl (opj_pick_t rfl rfl) ?_
            | refine rs_op rfl (opj_pick_f rfl rfl) ?_
            | refine rs_op rfl (opj_not rfl) ?_
            | refine rs_nil ?_
            | (refine done_id ?_; first | refine done_normal_then ?_ | refine done_ret_then ?_ | refine done_exit_then ?_ | refine done_normal_block ?_ | refine done_ret_block ?_ | refine done_exit_here ?_ | refine done_exit_on rfl ?_ | refine done_ret_round ?_ | refine done_exit_round ?_)
            | (refine ws_id ?_; first | refine ws_seq ?_ | refine ws_region ?_ | refine ws_block ?_ | refine ws_skip ?_ | refine ws_ret ?_ | refine ws_exit ?_ | refine ws_cond_t rfl ?_ | refine ws_cond_f rfl ?_)
            | refine rs_gy rfl rfl ?_
            | refine rs_no rfl rfl rfl rfl ?_
      refine ws_draw (n := 12) mixed (by decide +kernel) ?_
      repeat
        first
            | refine r1_op rfl (opj_move rfl) ?_
            | refine r1_op rfl (opj_assign rfl) ?_
            | (refine r1_idb ?_; first | refine r1_op rfl (opj_fbin rfl rfl rfl) ?_ | refine r1_op rfl (opj_add rfl rfl (by omega)) ?_ | refine r1_op rfl (opj_sub rfl rfl (by omega)) ?_ | refine r1_op rfl (opj_fcmp rfl rfl rfl) ?_ | refine r1_op rfl (opj_lss rfl rfl) ?_ | refine r1_op rfl (opj_leq rfl rfl) ?_ | refine r1_op rfl (opj_gtr rfl rfl) ?_ | refine r1_op rfl (opj_geq rfl rfl) ?_ | refine r1_op rfl (opj_ieq rfl rfl) ?_ | refine r1_op rfl (opj_ine rfl rfl) ?_ | refine r1_op rfl (opj_beq rfl rfl) ?_ | refine r1_op rfl (opj_bne rfl rfl) ?_)
            | (refine r1_idc ?_; first | refine r1_op rfl (opj_lenT rfl) ?_ | refine r1_op rfl (opj_len_m rfl) ?_ | refine r1_op rfl (opj_len_raw rfl) ?_ | refine r1_op rfl (opj_real rfl) ?_ | refine r1_op rfl (opj_imag rfl) ?_ | refine r1_op rfl (opj_complex rfl rfl) ?_)
            | (refine r1_idl ?_; first | refine r1_op rfl (opj_loadT rfl rfl (by first | exact List.Mem.head _ | exact List.Mem.tail _ (List.Mem.head _) | exact List.Mem.tail _ (List.Mem.tail _ (List.Mem.head _)) | exact List.Mem.tail _ (List.Mem.tail _ (List.Mem.tail _ (List.Mem.head _))) | exact List.Mem.tail _ (List.Mem.tail _ (List.Mem.tail _ (List.Mem.tail _ (List.Mem.head _)))) | exact List.Mem.tail _ (List.Mem.tail _ (List.Mem.tail _ (List.Mem.tail _ (List.Mem.tail _ (List.Mem.head _))))) | exact List.Mem.tail _ (List.Mem.tail _ (List.Mem.tail _ (List.Mem.tail _ (List.Mem.tail _ (List.Mem.tail _ (List.Mem.head _)))))) | exact List.Mem.tail _ (List.Mem.tail _ (List.Mem.tail _ (List.Mem.tail _ (List.Mem.tail _ (List.Mem.tail _ (List.Mem.tail _ (List.Mem.head _))))))) | exact List.Mem.tail _ (List.Mem.tail _ (List.Mem.tail _ (List.Mem.tail _ (List.Mem.tail _ (List.Mem.tail _ (List.Mem.tail _ (List.Mem.tail _ (List.Mem.head _)))))))) | exact List.Mem.tail _ (List.Mem.tail _ (List.Mem.tail _ (List.Mem.tail _ (List.Mem.tail _ (List.Mem.tail _ (List.Mem.tail _ (List.Mem.tail _ (List.Mem.tail _ (List.Mem.head _))))))))) | exact List.Mem.tail _ (List.Mem.tail _ (List.Mem.tail _ (List.Mem.tail _ (List.Mem.tail _ (List.Mem.tail _ (List.Mem.tail _ (List.Mem.tail _ (List.Mem.tail _ (List.Mem.tail _ (List.Mem.head _)))))))))) | exact List.Mem.tail _ (List.Mem.tail _ (List.Mem.tail _ (List.Mem.tail _ (List.Mem.tail _ (List.Mem.tail _ (List.Mem.tail _ (List.Mem.tail _ (List.Mem.tail _ (List.Mem.tail _ (List.Mem.tail _ (List.Mem.head _))))))))))) | exact List.Mem.tail _ (List.Mem.tail _ (List.Mem.tail _ (List.Mem.tail _ (List.Mem.tail _ (List.Mem.tail _ (List.Mem.tail _ (List.Mem.tail _ (List.Mem.tail _ (List.Mem.tail _ (List.Mem.tail _ (List.Mem.tail _ (List.Mem.head _)))))))))))) | exact List.Mem.tail _ (List.Mem.tail _ (List.Mem.tail _ (List.Mem.tail _ (List.Mem.tail _ (List.Mem.tail _ (List.Mem.tail _ (List.Mem.tail _ (List.Mem.tail _ (List.Mem.tail _ (List.Mem.tail _ (List.Mem.tail _ (List.Mem.tail _ (List.Mem.head _)))))))))))))) (by omega)) ?_ | refine r1_op rfl (opj_load1 rfl rfl) ?_)
            | (refine r1_ida ?_; first | refine r1_op rfl (opj_indexT rfl rfl (by omega) (by omega)) ?_ | refine r1_op rfl (opj_index_m rfl rfl (by omega) (by omega)) ?_ | refine r1_op rfl (opj_index_own rfl rfl (by omega) (by omega)) ?_)
            | refine r1_op rfl (opj_wide rfl) ?_
            | refine r1_op rfl (opj_iconv rfl) ?_
            | refine r1_op rfl (opj_extract rfl rfl) ?_
            | refine r1_op rfl (opj_pick_t rfl rfl) ?_
            | refine r1_op rfl (opj_pick_f rfl rfl) ?_
            | refine r1_op rfl (opj_not rfl) ?_
            | refine r1_nil ?_
            | refine r1_gy rfl rfl ?_
            | refine r1_no rfl rfl rfl rfl ?_
            | refine r1_op rfl (opj_litP rfl rfl rfl rfl rfl rfl) ?_
      refine rs_appendT 1 (hT f) rfl rfl rfl rfl ⟨hc1, hm1⟩ (by omega) rfl rfl (hT_pos f (by omega)) (fun _ _ _ => rfl) fun b1 d1 hd1 hx1 => ?_
      repeat
        first
            | refine rs_op rfl (opj_move rfl) ?_
            | refine rs_op rfl (opj_assign rfl) ?_
            | (refine rs_idb ?_; first | refine rs_op rfl (opj_fbin rfl rfl rfl) ?_ | refine rs_op rfl (opj_add rfl rfl (by omega)) ?_ | refine rs_op rfl (opj_sub rfl rfl (by omega)) ?_ | refine rs_op rfl (opj_fcmp rfl rfl rfl) ?_ | refine rs_op rfl (opj_lss rfl rfl) ?_ | refine rs_op rfl (opj_leq rfl rfl) ?_ | refine rs_op rfl (opj_gtr rfl rfl) ?_ | refine rs_op rfl (opj_geq rfl rfl) ?_ | refine rs_op rfl (opj_ieq rfl rfl) ?_ | refine rs_op rfl (opj_ine rfl rfl) ?_ | refine rs_op rfl (opj_beq rfl rfl) ?_ | refine rs_op rfl (opj_bne rfl rfl) ?_)
            | (refine rs_idc ?_; first | refine rs_op rfl (opj_lenT rfl) ?_ | refine rs_op rfl (opj_len_m rfl) ?_ | refine rs_op rfl (opj_len_raw rfl) ?_ | refine rs_op rfl (opj_real rfl) ?_ | refine rs_op rfl (opj_imag rfl) ?_ | refine rs_op rfl (opj_complex rfl rfl) ?_)
            | (refine rs_idl ?_; first | refine rs_op rfl (opj_loadT rfl rfl (by first | exact List.Mem.head _ | exact List.Mem.tail _ (List.Mem.head _) | exact List.Mem.tail _ (List.Mem.tail _ (List.Mem.head _)) | exact List.Mem.tail _ (List.Mem.tail _ (List.Mem.tail _ (List.Mem.head _))) | exact List.Mem.tail _ (List.Mem.tail _ (List.Mem.tail _ (List.Mem.tail _ (List.Mem.head _)))) | exact List.Mem.tail _ (List.Mem.tail _ (List.Mem.tail _ (List.Mem.tail _ (List.Mem.tail _ (List.Mem.head _))))) | exact List.Mem.tail _ (List.Mem.tail _ (List.Mem.tail _ (List.Mem.tail _ (List.Mem.tail _ (List.Mem.tail _ (List.Mem.head _)))))) | exact List.Mem.tail _ (List.Mem.tail _ (List.Mem.tail _ (List.Mem.tail _ (List.Mem.tail _ (List.Mem.tail _ (List.Mem.tail _ (List.Mem.head _))))))) | exact List.Mem.tail _ (List.Mem.tail _ (List.Mem.tail _ (List.Mem.tail _ (List.Mem.tail _ (List.Mem.tail _ (List.Mem.tail _ (List.Mem.tail _ (List.Mem.head _)))))))) | exact List.Mem.tail _ (List.Mem.tail _ (List.Mem.tail _ (List.Mem.tail _ (List.Mem.tail _ (List.Mem.tail _ (List.Mem.tail _ (List.Mem.tail _ (List.Mem.tail _ (List.Mem.head _))))))))) | exact List.Mem.tail _ (List.Mem.tail _ (List.Mem.tail _ (List.Mem.tail _ (List.Mem.tail _ (List.Mem.tail _ (List.Mem.tail _ (List.Mem.tail _ (List.Mem.tail _ (List.Mem.tail _ (List.Mem.head _)))))))))) | exact List.Mem.tail _ (List.Mem.tail _ (List.Mem.tail _ (List.Mem.tail _ (List.Mem.tail _ (List.Mem.tail _ (List.Mem.tail _ (List.Mem.tail _ (List.Mem.tail _ (List.Mem.tail _ (List.Mem.tail _ (List.Mem.head _))))))))))) | exact List.Mem.tail _ (List.Mem.tail _ (List.Mem.tail _ (List.Mem.tail _ (List.Mem.tail _ (List.Mem.tail _ (List.Mem.tail _ (List.Mem.tail _ (List.Mem.tail _ (List.Mem.tail _ (List.Mem.tail _ (List.Mem.tail _ (List.Mem.head _)))))))))))) | exact List.Mem.tail _ (List.Mem.tail _ (List.Mem.tail _ (List.Mem.tail _ (List.Mem.tail _ (List.Mem.tail _ (List.Mem.tail _ (List.Mem.tail _ (List.Mem.tail _ (List.Mem.tail _ (List.Mem.tail _ (List.Mem.tail _ (List.Mem.tail _ (List.Mem.head _)))))))))))))) (by omega)) ?_ | refine rs_op rfl (opj_load1 rfl rfl) ?_)
            | (refine rs_ida ?_; first | refine rs_op rfl (opj_indexT rfl rfl (by omega) (by omega)) ?_ | refine rs_op rfl (opj_index_m rfl rfl (by omega) (by omega)) ?_ | refine rs_op rfl (opj_index_own rfl rfl (by omega) (by omega)) ?_)
            | refine rs_op rfl (opj_wide rfl) ?_
            | refine rs_op rfl (opj_iconv rfl) ?_
            | refine rs_op rfl (opj_extract rfl rfl) ?_
            | refine rs_op rfl (opj_pick_t rfl rfl) ?_
            | refine rs_op rfl (opj_pick_f rfl rfl) ?_
            | refine rs_op rfl (opj_not rfl) ?_
            | refine rs_nil ?_
            | (refine done_id ?_; first | refine done_normal_then ?_ | refine done_ret_then ?_ | refine done_exit_then ?_ | refine done_normal_block ?_ | refine done_ret_block ?_ | refine done_exit_here ?_ | refine done_exit_on rfl ?_ | refine done_ret_round ?_ | refine done_exit_round ?_)
            | (refine ws_id ?_; first | refine ws_seq ?_ | refine ws_region ?_ | refine ws_block ?_ | refine ws_skip ?_ | refine ws_ret ?_ | refine ws_exit ?_ | refine ws_cond_t rfl ?_ | refine ws_cond_f rfl ?_)
            | refine rs_gy rfl rfl ?_
            | refine rs_no rfl rfl rfl rfl ?_
      refine ws_draw (n := 17) mixed (by decide +kernel) ?_
      repeat
        first
            | refine r1_op rfl (opj_move rfl) ?_
            | refine r1_op rfl (opj_assign rfl) ?_
            | (refine r1_idb ?_; first | refine r1_op rfl (opj_fbin rfl rfl rfl) ?_ | refine r1_op rfl (opj_add rfl rfl (by omega)) ?_ | refine r1_op rfl (opj_sub rfl rfl (by omega)) ?_ | refine r1_op rfl (opj_fcmp rfl rfl rfl) ?_ | refine r1_op rfl (opj_lss rfl rfl) ?_ | refine r1_op rfl (opj_leq rfl rfl) ?_ | refine r1_op rfl (opj_gtr rfl rfl) ?_ | refine r1_op rfl (opj_geq rfl rfl) ?_ | refine r1_op rfl (opj_ieq rfl rfl) ?_ | refine r1_op rfl (opj_ine rfl rfl) ?_ | refine r1_op rfl (opj_beq rfl rfl) ?_ | refine r1_op rfl (opj_bne rfl rfl) ?_)
            | (refine r1_idc ?_; first | refine r1_op rfl (opj_lenT rfl) ?_ | refine r1_op rfl (opj_len_m rfl) ?_ | refine r1_op rfl (opj_len_raw rfl) ?_ | refine r1_op rfl (opj_real rfl) ?_ | refine r1_op rfl (opj_imag rfl) ?_ | refine r1_op rfl (opj_complex rfl rfl) ?_)
            | (refine r1_idl ?_; first | refine r1_op rfl (opj_loadT rfl rfl (by first | exact List.Mem.head _ | exact List.Mem.tail _ (List.Mem.head _) | exact List.Mem.tail _ (List.Mem.tail _ (List.Mem.head _)) | exact List.Mem.tail _ (List.Mem.tail _ (List.Mem.tail _ (List.Mem.head _))) | exact List.Mem.tail _ (List.Mem.tail _ (List.Mem.tail _ (List.Mem.tail _ (List.Mem.head _)))) | exact List.Mem.tail _ (List.Mem.tail _ (List.Mem.tail _ (List.Mem.tail _ (List.Mem.tail _ (List.Mem.head _))))) | exact List.Mem.tail _ (List.Mem.tail _ (List.Mem.tail _ (List.Mem.tail _ (List.Mem.tail _ (List.Mem.tail _ (List.Mem.head _)))))) | exact List.Mem.tail _ (List.Mem.tail _ (List.Mem.tail _ (List.Mem.tail _ (List.Mem.tail _ (List.Mem.tail _ (List.Mem.tail _ (List.Mem.head _))))))) | exact List.Mem.tail _ (List.Mem.tail _ (List.Mem.tail _ (List.Mem.tail _ (List.Mem.tail _ (List.Mem.tail _ (List.Mem.tail _ (List.Mem.tail _ (List.Mem.head _)))))))) | exact List.Mem.tail _ (List.Mem.tail _ (List.Mem.tail _ (List.Mem.tail _ (List.Mem.tail _ (List.Mem.tail _ (List.Mem.tail _ (List.Mem.tail _ (List.Mem.tail _ (List.Mem.head _))))))))) | exact List.Mem.tail _ (List.Mem.tail _ (List.Mem.tail _ (List.Mem.tail _ (List.Mem.tail _ (List.Mem.tail _ (List.Mem.tail _ (List.Mem.tail _ (List.Mem.tail _ (List.Mem.tail _ (List.Mem.head _)))))))))) | exact List.Mem.tail _ (List.Mem.tail _ (List.Mem.tail _ (List.Mem.tail _ (List.Mem.tail _ (List.Mem.tail _ (List.Mem.tail _ (List.Mem.tail _ (List.Mem.tail _ (List.Mem.tail _ (List.Mem.tail _ (List.Mem.head _))))))))))) | exact List.Mem.tail _ (List.Mem.tail _ (List.Mem.tail _ (List.Mem.tail _ (List.Mem.tail _ (List.Mem.tail _ (List.Mem.tail _ (List.Mem.tail _ (List.Mem.tail _ (List.Mem.tail _ (List.Mem.tail _ (List.Mem.tail _ (List.Mem.head _)))))))))))) | exact List.Mem.tail _ (List.Mem.tail _ (List.Mem.tail _ (List.Mem.tail _ (List.Mem.tail _ (List.Mem.tail _ (List.Mem.tail _ (List.Mem.tail _ (List.Mem.tail _ (List.Mem.tail _ (List.Mem.tail _ (List.Mem.tail _ (List.Mem.tail _ (List.Mem.head _)))))))))))))) (by omega)) ?_ | refine r1_op rfl (opj_load1 rfl rfl) ?_)
            | (refine r1_ida ?_; first | refine r1_op rfl (opj_indexT rfl rfl (by omega) (by omega)) ?_ | refine r1_op rfl (opj_index_m rfl rfl (by omega) (by omega)) ?_ | refine r1_op rfl (opj_index_own rfl rfl (by omega) (by omega)) ?_)
            | refine r1_op rfl (opj_wide rfl) ?_
            | refine r1_op rfl (opj_iconv rfl) ?_
            | refine r1_op rfl (opj_extract rfl rfl) ?_
            | refine r1_op rfl (opj_pick_t rfl rfl) ?_
            | refine r1_op rfl (opj_pick_f rfl rfl) ?_
            | refine r1_op rfl (opj_not rfl) ?_
            | refine r1_nil ?_
            | refine r1_gy rfl rfl ?_
            | refine r1_no rfl rfl rfl rfl ?_
            | refine r1_op rfl (opj_litP rfl rfl rfl rfl rfl rfl) ?_
      refine rs_appendT 0 (sT f g) rfl rfl rfl rfl ⟨hc2, hm2⟩ (by omega) rfl rfl (sT_pos f g (by omega)) (fun _ _ _ => rfl) fun b2 d2 hd2 hx2 => ?_
      repeat
        first
            | refine rs_op rfl (opj_move rfl) ?_
            | refine rs_op rfl (opj_assign rfl) ?_
            | (refine rs_idb ?_; first | refine rs_op rfl (opj_fbin rfl rfl rfl) ?_ | refine rs_op rfl (opj_add rfl rfl (by omega)) ?_ | refine rs_op rfl (opj_sub rfl rfl (by omega)) ?_ | refine rs_op rfl (opj_fcmp rfl rfl rfl) ?_ | refine rs_op rfl (opj_lss rfl rfl) ?_ | refine rs_op rfl (opj_leq rfl rfl) ?_ | refine rs_op rfl (opj_gtr rfl rfl) ?_ | refine rs_op rfl (opj_geq rfl rfl) ?_ | refine rs_op rfl (opj_ieq rfl rfl) ?_ | refine rs_op rfl (opj_ine rfl rfl) ?_ | refine rs_op rfl (opj_beq rfl rfl) ?_ | refine rs_op rfl (opj_bne rfl rfl) ?_)
            | (refine rs_idc ?_; first | refine rs_op rfl (opj_lenT rfl) ?_ | refine rs_op rfl (opj_len_m rfl) ?_ | refine rs_op rfl (opj_len_raw rfl) ?_ | refine rs_op rfl (opj_real rfl) ?_ | refine rs_op rfl (opj_imag rfl) ?_ | refine rs_op rfl (opj_complex rfl rfl) ?_)
            | (refine rs_idl ?_; first | refine rs_op rfl (opj_loadT rfl rfl (by first | exact List.Mem.head _ | exact List.Mem.tail _ (List.Mem.head _) | exact List.Mem.tail _ (List.Mem.tail _ (List.Mem.head _)) | exact List.Mem.tail _ (List.Mem.tail _ (List.Mem.tail _ (List.Mem.head _))) | exact List.Mem.tail _ (List.Mem.tail _ (List.Mem.tail _ (List.Mem.tail _ (List.Mem.head _)))) | exact List.Mem.tail _ (List.Mem.tail _ (List.Mem.tail _ (List.Mem.tail _ (List.Mem.tail _ (List.Mem.head _))))) | exact List.Mem.tail _ (List.Mem.tail _ (List.Mem.tail _ (List.Mem.tail _ (List.Mem.tail _ (List.Mem.tail _ (List.Mem.head _)))))) | exact List.Mem.tail _ (List.Mem.tail _ (List.Mem.tail _ (List.Mem.tail _ (List.Mem.tail _ (List.Mem.tail _ (List.Mem.tail _ (List.Mem.head _))))))) | exact List.Mem.tail _ (List.Mem.tail _ (List.Mem.tail _ (List.Mem.tail _ (List.Mem.tail _ (List.Mem.tail _ (List.Mem.tail _ (List.Mem.tail _ (List.Mem.head _)))))))) | exact List.Mem.tail _ (List.Mem.tail _ (List.Mem.tail _ (List.Mem.tail _ (List.Mem.tail _ (List.Mem.tail _ (List.Mem.tail _ (List.Mem.tail _ (List.Mem.tail _ (List.Mem.head _))))))))) | exact List.Mem.tail _ (List.Mem.tail _ (List.Mem.tail _ (List.Mem.tail _ (List.Mem.tail _ (List.Mem.tail _ (List.Mem.tail _ (List.Mem.tail _ (List.Mem.tail _ (List.Mem.tail _ (List.Mem.head _)))))))))) | exact List.Mem.tail _ (List.Mem.tail _ (List.Mem.tail _ (List.Mem.tail _ (List.Mem.tail _ (List.Mem.tail _ (List.Mem.tail _ (List.Mem.tail _ (List.Mem.tail _ (List.Mem.tail _ (List.Mem.tail _ (List.Mem.head _))))))))))) | exact List.Mem.tail _ (List.Mem.tail _ (List.Mem.tail _ (List.Mem.tail _ (List.Mem.tail _ (List.Mem.tail _ (List.Mem.tail _ (List.Mem.tail _ (List.Mem.tail _ (List.Mem.tail _ (List.Mem.tail _ (List.Mem.tail _ (List.Mem.head _)))))))))))) | exact List.Mem.tail _ (List.Mem.tail _ (List.Mem.tail _ (List.Mem.tail _ (List.Mem.tail _ (List.Mem.tail _ (List.Mem.tail _ (List.Mem.tail _ (List.Mem.tail _ (List.Mem.tail _ (List.Mem.tail _ (List.Mem.tail _ (List.Mem.tail _ (List.Mem.head _)))))))))))))) (by omega)) ?_ | refine rs_op rfl (opj_load1 rfl rfl) ?_)
            | (refine rs_ida ?_; first | refine rs_op rfl (opj_indexT rfl rfl (by omega) (by omega)) ?_ | refine rs_op rfl (opj_index_m rfl rfl (by omega) (by omega)) ?_ | refine rs_op rfl (opj_index_own rfl rfl (by omega) (by omega)) ?_)
            | refine rs_op rfl (opj_wide rfl) ?_
            | refine rs_op rfl (opj_iconv rfl) ?_
            | refine rs_op rfl (opj_extract rfl rfl) ?_
            | refine rs_op rfl (opj_pick_t rfl rfl) ?_
            | refine rs_op rfl (opj_pick_f rfl rfl) ?_
            | refine rs_op rfl (opj_not rfl) ?_
            | refine rs_nil ?_
            | (refine done_id ?_; first | refine done_normal_then ?_ | refine done_ret_then ?_ | refine done_exit_then ?_ | refine done_normal_block ?_ | refine done_ret_block ?_ | refine done_exit_here ?_ | refine done_exit_on rfl ?_ | refine done_ret_round ?_ | refine done_exit_round ?_)
            | (refine ws_id ?_; first | refine ws_seq ?_ | refine ws_region ?_ | refine ws_block ?_ | refine ws_skip ?_ | refine ws_ret ?_ | refine ws_exit ?_ | refine ws_cond_t rfl ?_ | refine ws_cond_f rfl ?_)
            | refine rs_gy rfl rfl ?_
            | refine rs_no rfl rfl rfl rfl ?_
      refine done_round (k + 1, (b1, d1), (b2, d2)) ⟨by omega, hd1, hd2, hx1, hx2⟩ (by simp only; omega) ?_ (fun _ h => h)
      (repeat (first | exact Env.sub_nil _ | refine Env.sub_cons rfl ?_))
    · have hge : ¬ (k : Int) + 1 < n := of_decide_eq_false hc
      obtain rfl : n = k + 1 := by omega
      repeat
        first
            | refine rs_op rfl (opj_move rfl) ?_
            | refine rs_op rfl (opj_assign rfl) ?_
            | (refine rs_idb ?_; first | refine rs_op rfl (opj_fbin rfl rfl rfl) ?_ | refine rs_op rfl (opj_add rfl rfl (by omega)) ?_ | refine rs_op rfl (opj_sub rfl rfl (by omega)) ?_ | refine rs_op rfl (opj_fcmp rfl rfl rfl) ?_ | refine rs_op rfl (opj_lss rfl rfl) ?_ | refine rs_op rfl (opj_leq rfl rfl) ?_ | refine rs_op rfl (opj_gtr rfl rfl) ?_ | refine rs_op rfl (opj_geq rfl rfl) ?_ | refine rs_op rfl (opj_ieq rfl rfl) ?_ | refine rs_op rfl (opj_ine rfl rfl) ?_ | refine rs_op rfl (opj_beq rfl rfl) ?_ | refine rs_op rfl (opj_bne rfl rfl) ?_)
            | (refine rs_idc ?_; first | refine rs_op rfl (opj_lenT rfl) ?_ | refine rs_op rfl (opj_len_m rfl) ?_ | refine rs_op rfl (opj_len_raw rfl) ?_ | refine rs_op rfl (opj_real rfl) ?_ | refine rs_op rfl (opj_imag rfl) ?_ | refine rs_op rfl (opj_complex rfl rfl) ?_)
            | (refine rs_idl ?_; first | refine rs_op rfl (opj_loadT rfl rfl (by first | exact List.Mem.head _ | exact List.Mem.tail _ (List.Mem.head _) | exact List.Mem.tail _ (List.Mem.tail _ (List.Mem.head _)) | exact List.Mem.tail _ (List.Mem.tail _ (List.Mem.tail _ (List.Mem.head _))) | exact List.Mem.tail _ (List.Mem.tail _ (List.Mem.tail _ (List.Mem.tail _ (List.Mem.head _)))) | exact List.Mem.tail _ (List.Mem.tail _ (List.Mem.tail _ (List.Mem.tail _ (List.Mem.tail _ (List.Mem.head _))))) | exact List.Mem.tail _ (List.Mem.tail _ (List.Mem.tail _ (List.Mem.tail _ (List.Mem.tail _ (List.Mem.tail _ (List.Mem.head _)))))) | exact List.Mem.tail _ (List.Mem.tail _ (List.Mem.tail _ (List.Mem.tail _ (List.Mem.tail _ (List.Mem.tail _ (List.Mem.tail _ (List.Mem.head _))))))) | exact List.Mem.tail _ (List.Mem.tail _ (List.Mem.tail _ (List.Mem.tail _ (List.Mem.tail _ (List.Mem.tail _ (List.Mem.tail _ (List.Mem.tail _ (List.Mem.head _)))))))) | exact List.Mem.tail _ (List.Mem.tail _ (List.Mem.tail _ (List.Mem.tail _ (List.Mem.tail _ (List.Mem.tail _ (List.Mem.tail _ (List.Mem.tail _ (List.Mem.tail _ (List.Mem.head _))))))))) | exact List.Mem.tail _ (List.Mem.tail _ (List.Mem.tail _ (List.Mem.tail _ (List.Mem.tail _ (List.Mem.tail _ (List.Mem.tail _ (List.Mem.tail _ (List.Mem.tail _ (List.Mem.tail _ (List.Mem.head _)))))))))) | exact List.Mem.tail _ (List.Mem.tail _ (List.Mem.tail _ (List.Mem.tail _ (List.Mem.tail _ (List.Mem.tail _ (List.Mem.tail _ (List.Mem.tail _ (List.Mem.tail _ (List.Mem.tail _ (List.Mem.tail _ (List.Mem.head _))))))))))) | exact List.Mem.tail _ (List.Mem.tail _ (List.Mem.tail _ (List.Mem.tail _ (List.Mem.tail _ (List.Mem.tail _ (List.Mem.tail _ (List.Mem.tail _ (List.Mem.tail _ (List.Mem.tail _ (List.Mem.tail _ (List.Mem.tail _ (List.Mem.head _)))))))))))) | exact List.Mem.tail _ (List.Mem.tail _ (List.Mem.tail _ (List.Mem.tail _ (List.Mem.tail _ (List.Mem.tail _ (List.Mem.tail _ (List.Mem.tail _ (List.Mem.tail _ (List.Mem.tail _ (List.Mem.tail _ (List.Mem.tail _ (List.Mem.tail _ (List.Mem.head _)))))))))))))) (by omega)) ?_ | refine rs_op rfl (opj_load1 rfl rfl) ?_)
            | (refine rs_ida ?_; first | refine rs_op rfl (opj_indexT rfl rfl (by omega) (by omega)) ?_ | refine rs_op rfl (opj_index_m rfl rfl (by omega) (by omega)) ?_ | refine rs_op rfl (opj_index_own rfl rfl (by omega) (by omega)) ?_)
            | refine rs_op rfl (opj_wide rfl) ?_
            | refine rs_op rfl (opj_iconv rfl) ?_
            | refine rs_op rfl (opj_extract rfl rfl) ?_
            | refine rs_op rfl (opj_pick_t rfl rfl) ?_
            | refine rs_op rfl (opj_pick_f rfl rfl) ?_
            | refine rs_op rfl (opj_not rfl) ?_
            | refine rs_nil ?_
            | (refine done_id ?_; first | refine done_normal_then ?_ | refine done_ret_then ?_ | refine done_exit_then ?_ | refine done_normal_block ?_ | refine done_ret_block ?_ | refine done_exit_here ?_ | refine done_exit_on rfl ?_ | refine done_ret_round ?_ | refine done_exit_round ?_)
            | (refine ws_id ?_; first | refine ws_seq ?_ | refine ws_region ?_ | refine ws_block ?_ | refine ws_skip ?_ | refine ws_ret ?_ | refine ws_exit ?_ | refine ws_cond_t rfl ?_ | refine ws_cond_f rfl ?_)
            | refine rs_gy rfl rfl ?_
            | refine rs_no rfl rfl rfl rfl ?_
      exact done_ret2 rfl ((a1, c1), (a2, c2)) rfl rfl rfl ⟨hc1, hc2⟩ (List.Sublist.refl _)
theorem l05Slope_fn (n : Nat) (f g : Int → FV) (i : Int) (h0 : 0 ≤ i) (h1 : i + 1 < n) (hn : n < 2 ^ 40) : Fn Try.prog 134 (fun w => [slF w (tab n f), slF w (tab n g), .raw (.int .i64 i)]) (.f .f32 (sT f g (i + 1))) := by
  refine fn_intro Try.func134 rfl Try.ntmps134 (fun _ => Nat.le_of_ble_eq_true rfl) fun w0 => ?_
  repeat
    first
        | refine rs_op rfl (opj_move rfl) ?_
        | refine rs_op rfl (opj_assign rfl) ?_
        | (refine rs_idb ?_; first | refine rs_op rfl (opj_fbin rfl rfl rfl) ?_ | refine rs_op rfl (opj_add rfl rfl (by omega)) ?_ | refine rs_op rfl (opj_sub rfl rfl (by omega)) ?_ | refine rs_op rfl (opj_fcmp rfl rfl rfl) ?_ | refine rs_op rfl (opj_lss rfl rfl) ?_ | refine rs_op rfl (opj_leq rfl rfl) ?_ | refine rs_op rfl (opj_gtr rfl rfl) ?_ | refine rs_op rfl (opj_geq rfl rfl) ?_ | refine rs_op rfl (opj_ieq rfl rfl) ?_ | refine rs_op rfl (opj_ine rfl rfl) ?_ | refine rs_op rfl (opj_beq rfl rfl) ?_ | refine rs_op rfl (opj_bne rfl rfl) ?_)
        | (refine rs_idc ?_; first | refine rs_op rfl (opj_lenT rfl) ?_ | refine rs_op rfl (opj_len_m rfl) ?_ | refine rs_op rfl (opj_len_raw rfl) ?_ | refine rs_op rfl (opj_real rfl) ?_ | refine rs_op rfl (opj_imag rfl) ?_ | refine rs_op rfl (opj_complex rfl rfl) ?_)
        | (refine rs_idl ?_; first | refine rs_op rfl (opj_loadT rfl rfl (by first | exact List.Mem.head _ | exact List.Mem.tail _ (List.Mem.head _) | exact List.Mem.tail _ (List.Mem.tail _ (List.Mem.head _)) | exact List.Mem.tail _ (List.Mem.tail _ (List.Mem.tail _ (List.Mem.head _))) | exact List.Mem.tail _ (List.Mem.tail _ (List.Mem.tail _ (List.Mem.tail _ (List.Mem.head _)))) | exact List.Mem.tail _ (List.Mem.tail _ (List.Mem.tail _ (List.Mem.tail _ (List.Mem.tail _ (List.Mem.head _))))) | exact List.Mem.tail _ (List.Mem.tail _ (List.Mem.tail _ (List.Mem.tail _ (List.Mem.tail _ (List.Mem.tail _ (List.Mem.head _)))))) | exact List.Mem.tail _ (List.Mem.tail _ (List.Mem.tail _ (List.Mem.tail _ (List.Mem.tail _ (List.Mem.tail _ (List.Mem.tail _ (List.Mem.head _))))))) | exact List.Mem.tail _ (List.Mem.tail _ (List.Mem.tail _ (List.Mem.tail _ (List.Mem.tail _ (List.Mem.tail _ (List.Mem.tail _ (List.Mem.tail _ (List.Mem.head _)))))))) | exact List.Mem.tail _ (List.Mem.tail _ (List.Mem.tail _ (List.Mem.tail _ (List.Mem.tail _ (List.Mem.tail _ (List.Mem.tail _ (List.Mem.tail _ (List.Mem.tail _ (List.Mem.head _))))))))) | exact List.Mem.tail _ (List.Mem.tail _ (List.Mem.tail _ (List.Mem.tail _ (List.Mem.tail _ (List.Mem.tail _ (List.Mem.tail _ (List.Mem.tail _ (List.Mem.tail _ (List.Mem.tail _ (List.Mem.head _)))))))))) | exact List.Mem.tail _ (List.Mem.tail _ (List.Mem.tail _ (List.Mem.tail _ (List.Mem.tail _ (List.Mem.tail _ (List.Mem.tail _ (List.Mem.tail _ (List.Mem.tail _ (List.Mem.tail _ (List.Mem.tail _ (List.Mem.head _))))))))))) | exact List.Mem.tail _ (List.Mem.tail _ (List.Mem.tail _ (List.Mem.tail _ (List.Mem.tail _ (List.Mem.tail _ (List.Mem.tail _ (List.Mem.tail _ (List.Mem.tail _ (List.Mem.tail _ (List.Mem.tail _ (List.Mem.tail _ (List.Mem.head _)))))))))))) | exact List.Mem.tail _ (List.Mem.tail _ (List.Mem.tail _ (List.Mem.tail _ (List.Mem.tail _ (List.Mem.tail _ (List.Mem.tail _ (List.Mem.tail _ (List.Mem.tail _ (List.Mem.tail _ (List.Mem.tail _ (List.Mem.tail _ (List.Mem.tail _ (List.Mem.head _)))))))))))))) (by omega)) ?_ | refine rs_op rfl (opj_load1 rfl rfl) ?_)
        | (refine rs_ida ?_; first | refine rs_op rfl (opj_indexT rfl rfl (by omega) (by omega)) ?_ | refine rs_op rfl (opj_index_m rfl rfl (by omega) (by omega)) ?_ | refine rs_op rfl (opj_index_own rfl rfl (by omega) (by omega)) ?_)
        | refine rs_op rfl (opj_wide rfl) ?_
        | refine rs_op rfl (opj_iconv rfl) ?_
        | refine rs_op rfl (opj_extract rfl rfl) ?_
        | refine rs_op rfl (opj_pick_t rfl rfl) ?_
        | refine rs_op rfl (opj_pick_f rfl rfl) ?_
        | refine rs_op rfl (opj_not rfl) ?_
        | refine rs_nil ?_
        | (refine done_id ?_; first | refine done_normal_then ?_ | refine done_ret_then ?_ | refine done_exit_then ?_ | refine done_normal_block ?_ | refine done_ret_block ?_ | refine done_exit_here ?_ | refine done_exit_on rfl ?_ | refine done_ret_round ?_ | refine done_exit_round ?_)
        | (refine ws_id ?_; first | refine ws_seq ?_ | refine ws_region ?_ | refine ws_block ?_ | refine ws_skip ?_ | refine ws_ret ?_ | refine ws_exit ?_ | refine ws_cond_t rfl ?_ | refine ws_cond_f rfl ?_)
        | refine rs_gy rfl rfl ?_
        | refine rs_no rfl rfl rfl rfl ?_
  refine ws_draw (n := 22) mixed (by decide +kernel) ?_
  repeat
    first
        | refine r1_op rfl (opj_move rfl) ?_
        | refine r1_op rfl (opj_assign rfl) ?_
        | (refine r1_idb ?_; first | refine r1_op rfl (opj_fbin rfl rfl rfl) ?_ | refine r1_op rfl (opj_add rfl rfl (by omega)) ?_ | refine r1_op rfl (opj_sub rfl rfl (by omega)) ?_ | refine r1_op rfl (opj_fcmp rfl rfl rfl) ?_ | refine r1_op rfl (opj_lss rfl rfl) ?_ | refine r1_op rfl (opj_leq rfl rfl) ?_ | refine r1_op rfl (opj_gtr rfl rfl) ?_ | refine r1_op rfl (opj_geq rfl rfl) ?_ | refine r1_op rfl (opj_ieq rfl rfl) ?_ | refine r1_op rfl (opj_ine rfl rfl) ?_ | refine r1_op rfl (opj_beq rfl rfl) ?_ | refine r1_op rfl (opj_bne rfl rfl) ?_)
        | (refine r1_idc ?_; first | refine r1_op rfl (opj_lenT rfl) ?_ | refine r1_op rfl (opj_len_m rfl) ?_ | refine r1_op rfl (opj_len_raw rfl) ?_ | refine r1_op rfl (opj_real rfl) ?_ | refine r1_op rfl (opj_imag rfl) ?_ | refine r1_op rfl (opj_complex rfl rfl) ?_)
        | (refine r1_idl ?_; first | refine r1_op rfl (opj_loadT rfl rfl (by first | exact List.Mem.head _ | exact List.Mem.tail _ (List.Mem.head _) | exact List.Mem.tail _ (List.Mem.tail _ (List.Mem.head _)) | exact List.Mem.tail _ (List.Mem.tail _ (List.Mem.tail _ (List.Mem.head _))) | exact List.Mem.tail _ (List.Mem.tail _ (List.Mem.tail _ (List.Mem.tail _ (List.Mem.head _)))) | exact List.Mem.tail _ (List.Mem.tail _ (List.Mem.tail _ (List.Mem.tail _ (List.Mem.tail _ (List.Mem.head _))))) | exact List.Mem.tail _ (List.Mem.tail _ (List.Mem.tail _ (List.Mem.tail _ (List.Mem.tail _ (List.Mem.tail _ (List.Mem.head _)))))) | exact List.Mem.tail _ (List.Mem.tail _ (List.Mem.tail _ (List.Mem.tail _ (List.Mem.tail _ (List.Mem.tail _ (List.Mem.tail _ (List.Mem.head _))))))) | exact List.Mem.tail _ (List.Mem.tail _ (List.Mem.tail _ (List.Mem.tail _ (List.Mem.tail _ (List.Mem.tail _ (List.Mem.tail _ (List.Mem.tail _ (List.Mem.head _)))))))) | exact List.Mem.tail _ (List.Mem.tail _ (List.Mem.tail _ (List.Mem.tail _ (List.Mem.tail _ (List.Mem.tail _ (List.Mem.tail _ (List.Mem.tail _ (List.Mem.tail _ (List.Mem.head _))))))))) | exact List.Mem.tail _ (List.Mem.tail _ (List.Mem.tail _ (List.Mem.tail _ (List.Mem.tail _ (List.Mem.tail _ (List.Mem.tail _ (List.Mem.tail _ (List.Mem.tail _ (List.Mem.tail _ (List.Mem.head _)))))))))) | exact List.Mem.tail _ (List.Mem.tail _ (List.Mem.tail _ (List.Mem.tail _ (List.Mem.tail _ (List.Mem.tail _ (List.Mem.tail _ (List.Mem.tail _ (List.Mem.tail _ (List.Mem.tail _ (List.Mem.tail _ (List.Mem.head _))))))))))) | exact List.Mem.tail _ (List.Mem.tail _ (List.Mem.tail _ (List.Mem.tail _ (List.Mem.tail _ (List.Mem.tail _ (List.Mem.tail _ (List.Mem.tail _ (List.Mem.tail _ (List.Mem.tail _ (List.Mem.tail _ (List.Mem.tail _ (List.Mem.head _)))))))))))) | exact List.Mem.tail _ (List.Mem.tail _ (List.Mem.tail _ (List.Mem.tail _ (List.Mem.tail _ (List.Mem.tail _ (List.Mem.tail _ (List.Mem.tail _ (List.Mem.tail _ (List.Mem.tail _ (List.Mem.tail _ (List.Mem.tail _ (List.Mem.tail _ (List.Mem.head _)))))))))))))) (by omega)) ?_ | refine r1_op rfl (opj_load1 rfl rfl) ?_)
        | (refine r1_ida ?_; first | refine r1_op rfl (opj_indexT rfl rfl (by omega) (by omega)) ?_ | refine r1_op rfl (opj_index_m rfl rfl (by omega) (by omega)) ?_ | refine r1_op rfl (opj_index_own rfl rfl (by omega) (by omega)) ?_)
        | refine r1_op rfl (opj_wide rfl) ?_
        | refine r1_op rfl (opj_iconv rfl) ?_
        | refine r1_op rfl (opj_extract rfl rfl) ?_
        | refine r1_op rfl (opj_pick_t rfl rfl) ?_
        | refine r1_op rfl (opj_pick_f rfl rfl) ?_
        | refine r1_op rfl (opj_not rfl) ?_
        | refine r1_nil ?_
        | refine r1_gy rfl rfl ?_
        | refine r1_no rfl rfl rfl rfl ?_
  repeat
    first
        | refine rs_op rfl (opj_move rfl) ?_
        | refine rs_op rfl (opj_assign rfl) ?_
        | (refine rs_idb ?_; first | refine rs_op rfl (opj_fbin rfl rfl rfl) ?_ | refine rs_op rfl (opj_add rfl rfl (by omega)) ?_ | refine rs_op rfl (opj_sub rfl rfl (by omega)) ?_ | refine rs_op rfl (opj_fcmp rfl rfl rfl) ?_ | refine rs_op rfl (opj_lss rfl rfl) ?_ | refine rs_op rfl (opj_leq rfl rfl) ?_ | refine rs_op rfl (opj_gtr rfl rfl) ?_ | refine rs_op rfl (opj_geq rfl rfl) ?_ | refine rs_op rfl (opj_ieq rfl rfl) ?_ | refine rs_op rfl (opj_ine rfl rfl) ?_ | refine rs_op rfl (opj_beq rfl rfl) ?_ | refine rs_op rfl (opj_bne rfl rfl) ?_)
        | (refine rs_idc ?_; first | refine rs_op rfl (opj_lenT rfl) ?_ | refine rs_op rfl (opj_len_m rfl) ?_ | refine rs_op rfl (opj_len_raw rfl) ?_ | refine rs_op rfl (opj_real rfl) ?_ | refine rs_op rfl (opj_imag rfl) ?_ | refine rs_op rfl (opj_complex rfl rfl) ?_)
        | (refine rs_idl ?_; first | refine rs_op rfl (opj_loadT rfl rfl (by first | exact List.Mem.head _ | exact List.Mem.tail _ (List.Mem.head _) | exact List.Mem.tail _ (List.Mem.tail _ (List.Mem.head _)) | exact List.Mem.tail _ (List.Mem.tail _ (List.Mem.tail _ (List.Mem.head _))) | exact List.Mem.tail _ (List.Mem.tail _ (List.Mem.tail _ (List.Mem.tail _ (List.Mem.head _)))) | exact List.Mem.tail _ (List.Mem.tail _ (List.Mem.tail _ (List.Mem.tail _ (List.Mem.tail _ (List.Mem.head _))))) | exact List.Mem.tail _ (List.Mem.tail _ (List.Mem.tail _ (List.Mem.tail _ (List.Mem.tail _ (List.Mem.tail _ (List.Mem.head _)))))) | exact List.Mem.tail _ (List.Mem.tail _ (List.Mem.tail _ (List.Mem.tail _ (List.Mem.tail _ (List.Mem.tail _ (List.Mem.tail _ (List.Mem.head _))))))) | exact List.Mem.tail _ (List.Mem.tail _ (List.Mem.tail _ (List.Mem.tail _ (List.Mem.tail _ (List.Mem.tail _ (List.Mem.tail _ (List.Mem.tail _ (List.Mem.head _)))))))) | exact List.Mem.tail _ (List.Mem.tail _ (List.Mem.tail _ (List.Mem.tail _ (List.Mem.tail _ (List.Mem.tail _ (List.Mem.tail _ (List.Mem.tail _ (List.Mem.tail _ (List.Mem.head _))))))))) | exact List.Mem.tail _ (List.Mem.tail _ (List.Mem.tail _ (List.Mem.tail _ (List.Mem.tail _ (List.Mem.tail _ (List.Mem.tail _ (List.Mem.tail _ (List.Mem.tail _ (List.Mem.tail _ (List.Mem.head _)))))))))) | exact List.Mem.tail _ (List.Mem.tail _ (List.Mem.tail _ (List.Mem.tail _ (List.Mem.tail _ (List.Mem.tail _ (List.Mem.tail _ (List.Mem.tail _ (List.Mem.tail _ (List.Mem.tail _ (List.Mem.tail _ (List.Mem.head _))))))))))) | exact List.Mem.tail _ (List.Mem.tail _ (List.Mem.tail _ (List.Mem.tail _ (List.Mem.tail _ (List.Mem.tail _ (List.Mem.tail _ (List.Mem.tail _ (List.Mem.tail _ (List.Mem.tail _ (List.Mem.tail _ (List.Mem.tail _ (List.Mem.head _)))))))))))) | exact List.Mem.tail _ (List.Mem.tail _ (List.Mem.tail _ (List.Mem.tail _ (List.Mem.tail _ (List.Mem.tail _ (List.Mem.tail _ (List.Mem.tail _ (List.Mem.tail _ (List.Mem.tail _ (List.Mem.tail _ (List.Mem.tail _ (List.Mem.tail _ (List.Mem.head _)))))))))))))) (by omega)) ?_ | refine rs_op rfl (opj_load1 rfl rfl) ?_)
        | (refine rs_ida ?_; first | refine rs_op rfl (opj_indexT rfl rfl (by omega) (by omega)) ?_ | refine rs_op rfl (opj_index_m rfl rfl (by omega) (by omega)) ?_ | refine rs_op rfl (opj_index_own rfl rfl (by omega) (by omega)) ?_)
        | refine rs_op rfl (opj_wide rfl) ?_
        | refine rs_op rfl (opj_iconv rfl) ?_
        | refine rs_op rfl (opj_extract rfl rfl) ?_
        | refine rs_op rfl (opj_pick_t rfl rfl) ?_
        | refine rs_op rfl (opj_pick_f rfl rfl) ?_
        | refine rs_op rfl (opj_not rfl) ?_
        | refine rs_nil ?_
        | (refine done_id ?_; first | refine done_normal_then ?_ | refine done_ret_then ?_ | refine done_exit_then ?_ | refine done_normal_block ?_ | refine done_ret_block ?_ | refine done_exit_here ?_ | refine done_exit_on rfl ?_ | refine done_ret_round ?_ | refine done_exit_round ?_)
        | (refine ws_id ?_; first | refine ws_seq ?_ | refine ws_region ?_ | refine ws_block ?_ | refine ws_skip ?_ | refine ws_ret ?_ | refine ws_exit ?_ | refine ws_cond_t rfl ?_ | refine ws_cond_f rfl ?_)
        | refine rs_gy rfl rfl ?_
        | refine rs_no rfl rfl rfl rfl ?_
  have e : i + 1 - 1 = i := by omega
  rw [show sT f g (i + 1) = fbin .quo .f32 (fbin .sub .f32 (g (i + 1)) (g i)) (fbin .sub .f32 (f (i + 1)) (f i)) from by rw [sT_pos f g (by omega), hT_pos f (by omega), e]]
  exact done_ret1 rfl () rfl trivial (List.nil_sublist _)
end Go.Ab
