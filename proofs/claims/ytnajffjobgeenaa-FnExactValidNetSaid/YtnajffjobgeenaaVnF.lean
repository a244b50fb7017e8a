/- Nets: what the reference tells of a facet, and of a side. No conditions. -/
import Derived.Test.YtnajffjobgeenaaVnE
namespace Go.Ab
open Go.Proofs
noncomputable def facB (n : Nat) (L : List Int) : Bool := @decide (FacOk n L) (Classical.propDecidable _)
theorem facB_true {n : Nat} {L : List Int} (h : FacOk n L) : facB n L = true := @decide_eq_true _ (Classical.propDecidable _) h
theorem facB_false {n : Nat} {L : List Int} (h : ¬ FacOk n L) : facB n L = false := @decide_eq_false _ (Classical.propDecidable _) h
theorem facOk_of {n : Nat} {L : List Int} (h : facB n L = true) : FacOk n L := @of_decide_eq_true _ (Classical.propDecidable _) h
abbrev facPt (w : World) (L : List Int) : AV := AV.pt w [slI w L]
def fromL (l : List Sd) : List Int := l.map (·.2.1)
def toL (l : List Sd) : List Int := l.map (·.2.2)
def facL (l : List Sd) : List Int := l.map fun x => (x.1 : Int)
@[simp] theorem fromL_length (l : List Sd) : (fromL l).length = l.length := by simp [fromL]
@[simp] theorem toL_length (l : List Sd) : (toL l).length = l.length := by simp [toL]
@[simp] theorem facL_length (l : List Sd) : (facL l).length = l.length := by simp [facL]
theorem fromL_get (l : List Sd) {k : Nat} (h : k < l.length) : (fromL l).getD k default = (l.getD k default).2.1 := by
  simp [fromL, List.getD, h]
theorem toL_get (l : List Sd) {k : Nat} (h : k < l.length) : (toL l).getD k default = (l.getD k default).2.2 := by
  simp [toL, List.getD, h]
theorem fromL_snoc (l : List Sd) (x : Sd) : fromL (l ++ [x]) = fromL l ++ [x.2.1] := by simp [fromL]
theorem toL_snoc (l : List Sd) (x : Sd) : toL (l ++ [x]) = toL l ++ [x.2.2] := by simp [toL]
theorem facL_snoc (l : List Sd) (x : Sd) : facL (l ++ [x]) = facL l ++ [(x.1 : Int)] := by simp [facL]
attribute [local irreducible] WS RS Done OpJ Then InBlock Round Ret Env.sub FnH
attribute [local irreducible] tab tabA corners

set_option maxHeartbeats 4000000 in
theorem l06Facet_fn (n : Nat) (L : List Int) (hn : n < 2 ^ 60) (hL : L.length < 2 ^ 60) : Fn Try.prog 156 (fun w => [facPt w L, intA n]) (.raw (.bool (facB n L))) := by
  refine fn_intro Try.func156 rfl Try.ntmps156 (fun _ => Nat.le_of_ble_eq_true rfl) fun w0 => ?_
  repeat'
    first
        | refine rs_op rfl (opj_move rfl) ?_
        | refine rs_op rfl (opj_assign rfl) ?_
        | (refine rs_idb ?_; first | refine rs_op rfl (opj_fbin rfl rfl rfl) ?_ | refine rs_op rfl (opj_add rfl rfl (by omega)) ?_ | refine rs_op rfl (opj_sub rfl rfl (by omega)) ?_ | (refine rs_opB rfl (opj_fcmp rfl rfl rfl) ?_; intro c hc) | (refine rs_opB rfl (opj_lss rfl rfl) ?_; intro c hc) | (refine rs_opB rfl (opj_leq rfl rfl) ?_; intro c hc) | (refine rs_opB rfl (opj_gtr rfl rfl) ?_; intro c hc) | (refine rs_opB rfl (opj_geq rfl rfl) ?_; intro c hc) | (refine rs_opB rfl (opj_ieq rfl rfl) ?_; intro c hc) | (refine rs_opB rfl (opj_ine rfl rfl) ?_; intro c hc) | (refine rs_opB rfl (opj_beq rfl rfl) ?_; intro c hc) | (refine rs_opB rfl (opj_bne rfl rfl) ?_; intro c hc))
        | (refine rs_idc ?_; first | refine rs_op rfl (opj_len_m rfl) ?_ | refine rs_op rfl (opj_len_raw rfl) ?_ | refine rs_op rfl (opj_real rfl) ?_ | refine rs_op rfl (opj_imag rfl) ?_ | refine rs_op rfl (opj_complex rfl rfl) ?_)
        | (refine rs_idl ?_; first | refine rs_op rfl (opj_loadX rfl rfl (by (repeat (first | exact List.Mem.head _ | refine List.Mem.tail _ ?_)); done) rfl) ?_ | refine rs_op rfl (opj_loadAX rfl rfl (by (repeat (first | exact List.Mem.head _ | refine List.Mem.tail _ ?_)); done) rfl rfl) ?_ | refine rs_op rfl (opj_loadAP rfl rfl rfl rfl) ?_ | refine rs_op rfl (opj_load1 rfl rfl) ?_)
        | (refine rs_ida ?_; first | refine rs_op rfl (opj_index_m rfl rfl (by omega) (by omega)) ?_ | refine rs_op rfl (opj_index_own rfl rfl (by omega) (by omega)) ?_)
        | refine rs_op rfl (opj_field_own rfl) ?_
        | refine rs_op rfl (opj_field_ptr rfl) ?_
        | refine rs_op rfl (opj_wide rfl) ?_
        | refine rs_op rfl (opj_iconv rfl) ?_
        | refine rs_op rfl (opj_extract rfl rfl) ?_
        | refine rs_op rfl (opj_pick_t rfl rfl) ?_
        | refine rs_op rfl (opj_pick_f rfl rfl) ?_
        | refine rs_op rfl (opj_not rfl) ?_
        | refine rs_nil ?_
        | (refine done_id ?_; first | refine done_normal_then ?_ | refine done_ret_then ?_ | refine done_exit_then ?_ | refine done_normal_block ?_ | refine done_ret_block ?_ | refine done_exit_here ?_ | refine done_exit_on rfl ?_ | refine done_ret_round ?_ | refine done_exit_round ?_)
        | (refine ws_id ?_; first | refine ws_seq ?_ | refine ws_region ?_ | refine ws_block ?_ | refine ws_skip ?_ | refine ws_ret ?_ | refine ws_exit ?_ | refine ws_cond_t rfl ?_ | refine ws_cond_f rfl ?_)
        | refine rs_gy rfl rfl ?_
        | refine rs_no rfl rfl rfl rfl ?_
        | (refine rs_boxA rfl rfl rfl ?_; intro g)
        | (refine rs_alloc rfl rfl ?_; intro g)
        | (refine rs_idst ?_; first | refine rs_storeX 0 rfl rfl rfl rfl rfl rfl ?_ | refine rs_storeX 1 rfl rfl rfl rfl rfl rfl ?_ | refine rs_storeX 2 rfl rfl rfl rfl rfl rfl ?_ | refine rs_storeX 3 rfl rfl rfl rfl rfl rfl ?_ | refine rs_storeX 4 rfl rfl rfl rfl rfl rfl ?_ | refine rs_storeX 5 rfl rfl rfl rfl rfl rfl ?_ | refine rs_storeAX 0 rfl rfl rfl rfl rfl rfl rfl rfl rfl ?_ | refine rs_storeAX 1 rfl rfl rfl rfl rfl rfl rfl rfl rfl ?_ | refine rs_storeAX 2 rfl rfl rfl rfl rfl rfl rfl rfl rfl ?_ | refine rs_storeAX 3 rfl rfl rfl rfl rfl rfl rfl rfl rfl ?_ | refine rs_storeAX 4 rfl rfl rfl rfl rfl rfl rfl rfl rfl ?_ | refine rs_storeAX 5 rfl rfl rfl rfl rfl rfl rfl rfl rfl ?_ | refine rs_storeAS 0 rfl rfl rfl rfl rfl rfl ?_ | refine rs_storeAS 1 rfl rfl rfl rfl rfl rfl ?_ | refine rs_storeAS 2 rfl rfl rfl rfl rfl rfl ?_ | refine rs_storeAS 3 rfl rfl rfl rfl rfl rfl ?_)
        | refine rs_op rfl (opj_nilP rfl) ?_
        | refine rs_op rfl (opj_fieldP rfl) ?_
        | refine rs_op rfl (opj_loadP rfl rfl rfl) ?_
        | cases c
  rotate_left
  · refine done_ret1B rfl () rfl rfl (facB_false fun h => ?_).symm trivial (List.nil_sublist _)
    have := h.len; have := of_decide_eq_true hc; omega
  · refine done_ret1B rfl () rfl rfl (facB_false fun h => ?_).symm trivial (List.nil_sublist _)
    have := h.len; have := of_decide_eq_true hc; omega
  rename_i hl3
  have hlen : 3 ≤ L.length ∧ L.length ≤ 8 := by
    have h1 := of_decide_eq_false hl3
    have h2 := of_decide_eq_false hc
    omega
  clear hl3 hc
  refine ws_loop (ι := Nat) (fun i => [(0, facPt w0 L), (1, intA n), (5, .raw (.int .i64 i))]) (fun _ => St w0 [] []) (fun i => i ≤ L.length ∧ (∀ c ∈ L.take i, 0 ≤ c ∧ c ≤ (n : Int) - 1) ∧ (L.take i).Nodup) (fun i => L.length - i) 0 ⟨Nat.zero_le _, (fun c hc => by simp at hc), by simp⟩ ?_ (fun _ h => h) (fun i hi => ?_)
  · (repeat (first | exact Env.sub_nil _ | refine Env.sub_cons rfl ?_))
  obtain ⟨hi, hmem, hnd⟩ := hi
  repeat
    first
        | refine rs_op rfl (opj_move rfl) ?_
        | refine rs_op rfl (opj_assign rfl) ?_
        | (refine rs_idb ?_; first | refine rs_op rfl (opj_fbin rfl rfl rfl) ?_ | refine rs_op rfl (opj_add rfl rfl (by omega)) ?_ | refine rs_op rfl (opj_sub rfl rfl (by omega)) ?_ | refine rs_op rfl (opj_fcmp rfl rfl rfl) ?_ | refine rs_op rfl (opj_lss rfl rfl) ?_ | refine rs_op rfl (opj_leq rfl rfl) ?_ | refine rs_op rfl (opj_gtr rfl rfl) ?_ | refine rs_op rfl (opj_geq rfl rfl) ?_ | refine rs_op rfl (opj_ieq rfl rfl) ?_ | refine rs_op rfl (opj_ine rfl rfl) ?_ | refine rs_op rfl (opj_beq rfl rfl) ?_ | refine rs_op rfl (opj_bne rfl rfl) ?_)
        | (refine rs_idc ?_; first | refine rs_op rfl (opj_len_m rfl) ?_ | refine rs_op rfl (opj_len_raw rfl) ?_ | refine rs_op rfl (opj_real rfl) ?_ | refine rs_op rfl (opj_imag rfl) ?_ | refine rs_op rfl (opj_complex rfl rfl) ?_)
        | (refine rs_idl ?_; first | refine rs_op rfl (opj_loadX rfl rfl (by (repeat (first | exact List.Mem.head _ | refine List.Mem.tail _ ?_)); done) rfl) ?_ | refine rs_op rfl (opj_loadAX rfl rfl (by (repeat (first | exact List.Mem.head _ | refine List.Mem.tail _ ?_)); done) rfl rfl) ?_ | refine rs_op rfl (opj_loadAP rfl rfl rfl rfl) ?_ | refine rs_op rfl (opj_load1 rfl rfl) ?_)
        | (refine rs_ida ?_; first | refine rs_op rfl (opj_index_m rfl rfl (by omega) (by omega)) ?_ | refine rs_op rfl (opj_index_own rfl rfl (by omega) (by omega)) ?_)
        | refine rs_op rfl (opj_field_own rfl) ?_
        | refine rs_op rfl (opj_field_ptr rfl) ?_
        | refine rs_op rfl (opj_wide rfl) ?_
        | refine rs_op rfl (opj_iconv rfl) ?_
        | refine rs_op rfl (opj_extract rfl rfl) ?_
        | refine rs_op rfl (opj_pick_t rfl rfl) ?_
        | refine rs_op rfl (opj_pick_f rfl rfl) ?_
        | refine rs_op rfl (opj_not rfl) ?_
        | refine rs_nil ?_
        | (refine done_id ?_; first | refine done_normal_then ?_ | refine done_ret_then ?_ | refine done_exit_then ?_ | refine done_normal_block ?_ | refine done_ret_block ?_ | refine done_exit_here ?_ | refine done_exit_on rfl ?_ | refine done_ret_round ?_ | refine done_exit_round ?_)
        | (refine ws_id ?_; first | refine ws_seq ?_ | refine ws_region ?_ | refine ws_block ?_ | refine ws_skip ?_ | refine ws_ret ?_ | refine ws_exit ?_ | refine ws_cond_t rfl ?_ | refine ws_cond_f rfl ?_)
        | refine rs_gy rfl rfl ?_
        | refine rs_no rfl rfl rfl rfl ?_
        | (refine rs_boxA rfl rfl rfl ?_; intro g)
        | (refine rs_alloc rfl rfl ?_; intro g)
        | (refine rs_idst ?_; first | refine rs_storeX 0 rfl rfl rfl rfl rfl rfl ?_ | refine rs_storeX 1 rfl rfl rfl rfl rfl rfl ?_ | refine rs_storeX 2 rfl rfl rfl rfl rfl rfl ?_ | refine rs_storeX 3 rfl rfl rfl rfl rfl rfl ?_ | refine rs_storeX 4 rfl rfl rfl rfl rfl rfl ?_ | refine rs_storeX 5 rfl rfl rfl rfl rfl rfl ?_ | refine rs_storeAX 0 rfl rfl rfl rfl rfl rfl rfl rfl rfl ?_ | refine rs_storeAX 1 rfl rfl rfl rfl rfl rfl rfl rfl rfl ?_ | refine rs_storeAX 2 rfl rfl rfl rfl rfl rfl rfl rfl rfl ?_ | refine rs_storeAX 3 rfl rfl rfl rfl rfl rfl rfl rfl rfl ?_ | refine rs_storeAX 4 rfl rfl rfl rfl rfl rfl rfl rfl rfl ?_ | refine rs_storeAX 5 rfl rfl rfl rfl rfl rfl rfl rfl rfl ?_ | refine rs_storeAS 0 rfl rfl rfl rfl rfl rfl ?_ | refine rs_storeAS 1 rfl rfl rfl rfl rfl rfl ?_ | refine rs_storeAS 2 rfl rfl rfl rfl rfl rfl ?_ | refine rs_storeAS 3 rfl rfl rfl rfl rfl rfl ?_)
        | refine rs_op rfl (opj_nilP rfl) ?_
        | refine rs_op rfl (opj_fieldP rfl) ?_
        | refine rs_op rfl (opj_loadP rfl rfl rfl) ?_
  refine ws_cond rfl (fun hd => ?_) (fun hd => ?_)
  · have hil : (i : Int) < L.length := of_decide_eq_true hd
    have hgi : L.getD (i : Int).toNat default = L.getD i default := by rw [Int.toNat_natCast]
    have hin : L.getD i default ∈ L := getD_mem (by omega)
    repeat
      first
          | refine rs_op rfl (opj_move rfl) ?_
          | refine rs_op rfl (opj_assign rfl) ?_
          | (refine rs_idb ?_; first | refine rs_op rfl (opj_fbin rfl rfl rfl) ?_ | refine rs_op rfl (opj_add rfl rfl (by omega)) ?_ | refine rs_op rfl (opj_sub rfl rfl (by omega)) ?_ | refine rs_op rfl (opj_fcmp rfl rfl rfl) ?_ | refine rs_op rfl (opj_lss rfl rfl) ?_ | refine rs_op rfl (opj_leq rfl rfl) ?_ | refine rs_op rfl (opj_gtr rfl rfl) ?_ | refine rs_op rfl (opj_geq rfl rfl) ?_ | refine rs_op rfl (opj_ieq rfl rfl) ?_ | refine rs_op rfl (opj_ine rfl rfl) ?_ | refine rs_op rfl (opj_beq rfl rfl) ?_ | refine rs_op rfl (opj_bne rfl rfl) ?_)
          | (refine rs_idc ?_; first | refine rs_op rfl (opj_len_m rfl) ?_ | refine rs_op rfl (opj_len_raw rfl) ?_ | refine rs_op rfl (opj_real rfl) ?_ | refine rs_op rfl (opj_imag rfl) ?_ | refine rs_op rfl (opj_complex rfl rfl) ?_ | (refine rs_op rfl (opj_call rfl rfl (l00In_fn (L.getD (i : Int).toNat default) 0 ((n : Int) - 1)) ?_) ?_; (focus ((repeat (first | exact Takes.nil | refine Takes.sl ?_ | refine Takes.fa ?_ | refine Takes.fc ?_ | refine Takes.net ?_ | (refine Takes.ownE ?_ ?_ ?_ ?_ ?_; (focus (exact ⟨_, _, (by (repeat (first | exact List.Mem.head _ | refine List.Mem.tail _ ?_)); done)⟩)); (focus (simp; done)); (focus omega); (focus (simp only [maxLen]; omega))) | refine Takes.same ?_)); done))))
          | (refine rs_idl ?_; first | refine rs_op rfl (opj_loadX rfl rfl (by (repeat (first | exact List.Mem.head _ | refine List.Mem.tail _ ?_)); done) rfl) ?_ | refine rs_op rfl (opj_loadAX rfl rfl (by (repeat (first | exact List.Mem.head _ | refine List.Mem.tail _ ?_)); done) rfl rfl) ?_ | refine rs_op rfl (opj_loadAP rfl rfl rfl rfl) ?_ | refine rs_op rfl (opj_load1 rfl rfl) ?_)
          | (refine rs_ida ?_; first | refine rs_op rfl (opj_index_m rfl rfl (by omega) (by omega)) ?_ | refine rs_op rfl (opj_index_own rfl rfl (by omega) (by omega)) ?_)
          | refine rs_op rfl (opj_field_own rfl) ?_
          | refine rs_op rfl (opj_field_ptr rfl) ?_
          | refine rs_op rfl (opj_wide rfl) ?_
          | refine rs_op rfl (opj_iconv rfl) ?_
          | refine rs_op rfl (opj_extract rfl rfl) ?_
          | refine rs_op rfl (opj_pick_t rfl rfl) ?_
          | refine rs_op rfl (opj_pick_f rfl rfl) ?_
          | refine rs_op rfl (opj_not rfl) ?_
          | refine rs_nil ?_
          | (refine done_id ?_; first | refine done_normal_then ?_ | refine done_ret_then ?_ | refine done_exit_then ?_ | refine done_normal_block ?_ | refine done_ret_block ?_ | refine done_exit_here ?_ | refine done_exit_on rfl ?_ | refine done_ret_round ?_ | refine done_exit_round ?_)
          | (refine ws_id ?_; first | refine ws_seq ?_ | refine ws_region ?_ | refine ws_block ?_ | refine ws_skip ?_ | refine ws_ret ?_ | refine ws_exit ?_ | refine ws_cond_t rfl ?_ | refine ws_cond_f rfl ?_)
          | refine rs_gy rfl rfl ?_
          | refine rs_no rfl rfl rfl rfl ?_
          | (refine rs_boxA rfl rfl rfl ?_; intro g)
          | (refine rs_alloc rfl rfl ?_; intro g)
          | (refine rs_idst ?_; first | refine rs_storeX 0 rfl rfl rfl rfl rfl rfl ?_ | refine rs_storeX 1 rfl rfl rfl rfl rfl rfl ?_ | refine rs_storeX 2 rfl rfl rfl rfl rfl rfl ?_ | refine rs_storeX 3 rfl rfl rfl rfl rfl rfl ?_ | refine rs_storeX 4 rfl rfl rfl rfl rfl rfl ?_ | refine rs_storeX 5 rfl rfl rfl rfl rfl rfl ?_ | refine rs_storeAX 0 rfl rfl rfl rfl rfl rfl rfl rfl rfl ?_ | refine rs_storeAX 1 rfl rfl rfl rfl rfl rfl rfl rfl rfl ?_ | refine rs_storeAX 2 rfl rfl rfl rfl rfl rfl rfl rfl rfl ?_ | refine rs_storeAX 3 rfl rfl rfl rfl rfl rfl rfl rfl rfl ?_ | refine rs_storeAX 4 rfl rfl rfl rfl rfl rfl rfl rfl rfl ?_ | refine rs_storeAX 5 rfl rfl rfl rfl rfl rfl rfl rfl rfl ?_ | refine rs_storeAS 0 rfl rfl rfl rfl rfl rfl ?_ | refine rs_storeAS 1 rfl rfl rfl rfl rfl rfl ?_ | refine rs_storeAS 2 rfl rfl rfl rfl rfl rfl ?_ | refine rs_storeAS 3 rfl rfl rfl rfl rfl rfl ?_)
          | refine rs_op rfl (opj_nilP rfl) ?_
          | refine rs_op rfl (opj_fieldP rfl) ?_
          | refine rs_op rfl (opj_loadP rfl rfl rfl) ?_
    rw [hgi]
    refine ws_cond rfl (fun he => ?_) (fun he => ?_)
    · repeat
        first
            | refine rs_op rfl (opj_move rfl) ?_
            | refine rs_op rfl (opj_assign rfl) ?_
            | (refine rs_idb ?_; first | refine rs_op rfl (opj_fbin rfl rfl rfl) ?_ | refine rs_op rfl (opj_add rfl rfl (by omega)) ?_ | refine rs_op rfl (opj_sub rfl rfl (by omega)) ?_ | refine rs_op rfl (opj_fcmp rfl rfl rfl) ?_ | refine rs_op rfl (opj_lss rfl rfl) ?_ | refine rs_op rfl (opj_leq rfl rfl) ?_ | refine rs_op rfl (opj_gtr rfl rfl) ?_ | refine rs_op rfl (opj_geq rfl rfl) ?_ | refine rs_op rfl (opj_ieq rfl rfl) ?_ | refine rs_op rfl (opj_ine rfl rfl) ?_ | refine rs_op rfl (opj_beq rfl rfl) ?_ | refine rs_op rfl (opj_bne rfl rfl) ?_)
            | (refine rs_idc ?_; first | refine rs_op rfl (opj_len_m rfl) ?_ | refine rs_op rfl (opj_len_raw rfl) ?_ | refine rs_op rfl (opj_real rfl) ?_ | refine rs_op rfl (opj_imag rfl) ?_ | refine rs_op rfl (opj_complex rfl rfl) ?_)
            | (refine rs_idl ?_; first | refine rs_op rfl (opj_loadX rfl rfl (by (repeat (first | exact List.Mem.head _ | refine List.Mem.tail _ ?_)); done) rfl) ?_ | refine rs_op rfl (opj_loadAX rfl rfl (by (repeat (first | exact List.Mem.head _ | refine List.Mem.tail _ ?_)); done) rfl rfl) ?_ | refine rs_op rfl (opj_loadAP rfl rfl rfl rfl) ?_ | refine rs_op rfl (opj_load1 rfl rfl) ?_)
            | (refine rs_ida ?_; first | refine rs_op rfl (opj_index_m rfl rfl (by omega) (by omega)) ?_ | refine rs_op rfl (opj_index_own rfl rfl (by omega) (by omega)) ?_)
            | refine rs_op rfl (opj_field_own rfl) ?_
            | refine rs_op rfl (opj_field_ptr rfl) ?_
            | refine rs_op rfl (opj_wide rfl) ?_
            | refine rs_op rfl (opj_iconv rfl) ?_
            | refine rs_op rfl (opj_extract rfl rfl) ?_
            | refine rs_op rfl (opj_pick_t rfl rfl) ?_
            | refine rs_op rfl (opj_pick_f rfl rfl) ?_
            | refine rs_op rfl (opj_not rfl) ?_
            | refine rs_nil ?_
            | (refine done_id ?_; first | refine done_normal_then ?_ | refine done_ret_then ?_ | refine done_exit_then ?_ | refine done_normal_block ?_ | refine done_ret_block ?_ | refine done_exit_here ?_ | refine done_exit_on rfl ?_ | refine done_ret_round ?_ | refine done_exit_round ?_)
            | (refine ws_id ?_; first | refine ws_seq ?_ | refine ws_region ?_ | refine ws_block ?_ | refine ws_skip ?_ | refine ws_ret ?_ | refine ws_exit ?_ | refine ws_cond_t rfl ?_ | refine ws_cond_f rfl ?_)
            | refine rs_gy rfl rfl ?_
            | refine rs_no rfl rfl rfl rfl ?_
            | (refine rs_boxA rfl rfl rfl ?_; intro g)
            | (refine rs_alloc rfl rfl ?_; intro g)
            | (refine rs_idst ?_; first | refine rs_storeX 0 rfl rfl rfl rfl rfl rfl ?_ | refine rs_storeX 1 rfl rfl rfl rfl rfl rfl ?_ | refine rs_storeX 2 rfl rfl rfl rfl rfl rfl ?_ | refine rs_storeX 3 rfl rfl rfl rfl rfl rfl ?_ | refine rs_storeX 4 rfl rfl rfl rfl rfl rfl ?_ | refine rs_storeX 5 rfl rfl rfl rfl rfl rfl ?_ | refine rs_storeAX 0 rfl rfl rfl rfl rfl rfl rfl rfl rfl ?_ | refine rs_storeAX 1 rfl rfl rfl rfl rfl rfl rfl rfl rfl ?_ | refine rs_storeAX 2 rfl rfl rfl rfl rfl rfl rfl rfl rfl ?_ | refine rs_storeAX 3 rfl rfl rfl rfl rfl rfl rfl rfl rfl ?_ | refine rs_storeAX 4 rfl rfl rfl rfl rfl rfl rfl rfl rfl ?_ | refine rs_storeAX 5 rfl rfl rfl rfl rfl rfl rfl rfl rfl ?_ | refine rs_storeAS 0 rfl rfl rfl rfl rfl rfl ?_ | refine rs_storeAS 1 rfl rfl rfl rfl rfl rfl ?_ | refine rs_storeAS 2 rfl rfl rfl rfl rfl rfl ?_ | refine rs_storeAS 3 rfl rfl rfl rfl rfl rfl ?_)
      refine done_ret1B rfl () rfl rfl (facB_false fun h => ?_).symm trivial (List.nil_sublist _)
      have h1 := inB_iff.2 (h.mem _ hin)
      rw [h1] at he
      cases he
    have hw := inB_iff.1 (show inB (L.getD i default) 0 ((n : Int) - 1) = true by simpa only [Bool.not_eq_false'] using he)
    clear he
    repeat
      first
          | refine rs_op rfl (opj_move rfl) ?_
          | refine rs_op rfl (opj_assign rfl) ?_
          | (refine rs_idb ?_; first | refine rs_op rfl (opj_fbin rfl rfl rfl) ?_ | refine rs_op rfl (opj_add rfl rfl (by omega)) ?_ | refine rs_op rfl (opj_sub rfl rfl (by omega)) ?_ | refine rs_op rfl (opj_fcmp rfl rfl rfl) ?_ | refine rs_op rfl (opj_lss rfl rfl) ?_ | refine rs_op rfl (opj_leq rfl rfl) ?_ | refine rs_op rfl (opj_gtr rfl rfl) ?_ | refine rs_op rfl (opj_geq rfl rfl) ?_ | refine rs_op rfl (opj_ieq rfl rfl) ?_ | refine rs_op rfl (opj_ine rfl rfl) ?_ | refine rs_op rfl (opj_beq rfl rfl) ?_ | refine rs_op rfl (opj_bne rfl rfl) ?_)
          | (refine rs_idc ?_; first | refine rs_op rfl (opj_len_m rfl) ?_ | refine rs_op rfl (opj_len_raw rfl) ?_ | refine rs_op rfl (opj_real rfl) ?_ | refine rs_op rfl (opj_imag rfl) ?_ | refine rs_op rfl (opj_complex rfl rfl) ?_)
          | (refine rs_idl ?_; first | refine rs_op rfl (opj_loadX rfl rfl (by (repeat (first | exact List.Mem.head _ | refine List.Mem.tail _ ?_)); done) rfl) ?_ | refine rs_op rfl (opj_loadAX rfl rfl (by (repeat (first | exact List.Mem.head _ | refine List.Mem.tail _ ?_)); done) rfl rfl) ?_ | refine rs_op rfl (opj_loadAP rfl rfl rfl rfl) ?_ | refine rs_op rfl (opj_load1 rfl rfl) ?_)
          | (refine rs_ida ?_; first | refine rs_op rfl (opj_index_m rfl rfl (by omega) (by omega)) ?_ | refine rs_op rfl (opj_index_own rfl rfl (by omega) (by omega)) ?_)
          | refine rs_op rfl (opj_field_own rfl) ?_
          | refine rs_op rfl (opj_field_ptr rfl) ?_
          | refine rs_op rfl (opj_wide rfl) ?_
          | refine rs_op rfl (opj_iconv rfl) ?_
          | refine rs_op rfl (opj_extract rfl rfl) ?_
          | refine rs_op rfl (opj_pick_t rfl rfl) ?_
          | refine rs_op rfl (opj_pick_f rfl rfl) ?_
          | refine rs_op rfl (opj_not rfl) ?_
          | refine rs_nil ?_
          | (refine done_id ?_; first | refine done_normal_then ?_ | refine done_ret_then ?_ | refine done_exit_then ?_ | refine done_normal_block ?_ | refine done_ret_block ?_ | refine done_exit_here ?_ | refine done_exit_on rfl ?_ | refine done_ret_round ?_ | refine done_exit_round ?_)
          | (refine ws_id ?_; first | refine ws_seq ?_ | refine ws_region ?_ | refine ws_block ?_ | refine ws_skip ?_ | refine ws_ret ?_ | refine ws_exit ?_ | refine ws_cond_t rfl ?_ | refine ws_cond_f rfl ?_)
          | refine rs_gy rfl rfl ?_
          | refine rs_no rfl rfl rfl rfl ?_
          | (refine rs_boxA rfl rfl rfl ?_; intro g)
          | (refine rs_alloc rfl rfl ?_; intro g)
          | (refine rs_idst ?_; first | refine rs_storeX 0 rfl rfl rfl rfl rfl rfl ?_ | refine rs_storeX 1 rfl rfl rfl rfl rfl rfl ?_ | refine rs_storeX 2 rfl rfl rfl rfl rfl rfl ?_ | refine rs_storeX 3 rfl rfl rfl rfl rfl rfl ?_ | refine rs_storeX 4 rfl rfl rfl rfl rfl rfl ?_ | refine rs_storeX 5 rfl rfl rfl rfl rfl rfl ?_ | refine rs_storeAX 0 rfl rfl rfl rfl rfl rfl rfl rfl rfl ?_ | refine rs_storeAX 1 rfl rfl rfl rfl rfl rfl rfl rfl rfl ?_ | refine rs_storeAX 2 rfl rfl rfl rfl rfl rfl rfl rfl rfl ?_ | refine rs_storeAX 3 rfl rfl rfl rfl rfl rfl rfl rfl rfl ?_ | refine rs_storeAX 4 rfl rfl rfl rfl rfl rfl rfl rfl rfl ?_ | refine rs_storeAX 5 rfl rfl rfl rfl rfl rfl rfl rfl rfl ?_ | refine rs_storeAS 0 rfl rfl rfl rfl rfl rfl ?_ | refine rs_storeAS 1 rfl rfl rfl rfl rfl rfl ?_ | refine rs_storeAS 2 rfl rfl rfl rfl rfl rfl ?_ | refine rs_storeAS 3 rfl rfl rfl rfl rfl rfl ?_)
    refine ws_loop (ι := Nat) (fun k => [(0, facPt w0 L), (1, intA n), (5, .raw (.int .i64 i)), (6, .raw (.int .i64 k))]) (fun _ => St w0 [] []) (fun k => k ≤ i ∧ ∀ j, j < k → L.getD j default ≠ L.getD i default) (fun k => i - k) 0 ⟨Nat.zero_le _, fun j h => by omega⟩ ?_ (fun _ h => h) (fun k hk => ?_)
    · (repeat (first | exact Env.sub_nil _ | refine Env.sub_cons rfl ?_))
    obtain ⟨hk, hall⟩ := hk
    repeat
      first
          | refine rs_op rfl (opj_move rfl) ?_
          | refine rs_op rfl (opj_assign rfl) ?_
          | (refine rs_idb ?_; first | refine rs_op rfl (opj_fbin rfl rfl rfl) ?_ | refine rs_op rfl (opj_add rfl rfl (by omega)) ?_ | refine rs_op rfl (opj_sub rfl rfl (by omega)) ?_ | refine rs_op rfl (opj_fcmp rfl rfl rfl) ?_ | refine rs_op rfl (opj_lss rfl rfl) ?_ | refine rs_op rfl (opj_leq rfl rfl) ?_ | refine rs_op rfl (opj_gtr rfl rfl) ?_ | refine rs_op rfl (opj_geq rfl rfl) ?_ | refine rs_op rfl (opj_ieq rfl rfl) ?_ | refine rs_op rfl (opj_ine rfl rfl) ?_ | refine rs_op rfl (opj_beq rfl rfl) ?_ | refine rs_op rfl (opj_bne rfl rfl) ?_)
          | (refine rs_idc ?_; first | refine rs_op rfl (opj_len_m rfl) ?_ | refine rs_op rfl (opj_len_raw rfl) ?_ | refine rs_op rfl (opj_real rfl) ?_ | refine rs_op rfl (opj_imag rfl) ?_ | refine rs_op rfl (opj_complex rfl rfl) ?_)
          | (refine rs_idl ?_; first | refine rs_op rfl (opj_loadX rfl rfl (by (repeat (first | exact List.Mem.head _ | refine List.Mem.tail _ ?_)); done) rfl) ?_ | refine rs_op rfl (opj_loadAX rfl rfl (by (repeat (first | exact List.Mem.head _ | refine List.Mem.tail _ ?_)); done) rfl rfl) ?_ | refine rs_op rfl (opj_loadAP rfl rfl rfl rfl) ?_ | refine rs_op rfl (opj_load1 rfl rfl) ?_)
          | (refine rs_ida ?_; first | refine rs_op rfl (opj_index_m rfl rfl (by omega) (by omega)) ?_ | refine rs_op rfl (opj_index_own rfl rfl (by omega) (by omega)) ?_)
          | refine rs_op rfl (opj_field_own rfl) ?_
          | refine rs_op rfl (opj_field_ptr rfl) ?_
          | refine rs_op rfl (opj_wide rfl) ?_
          | refine rs_op rfl (opj_iconv rfl) ?_
          | refine rs_op rfl (opj_extract rfl rfl) ?_
          | refine rs_op rfl (opj_pick_t rfl rfl) ?_
          | refine rs_op rfl (opj_pick_f rfl rfl) ?_
          | refine rs_op rfl (opj_not rfl) ?_
          | refine rs_nil ?_
          | (refine done_id ?_; first | refine done_normal_then ?_ | refine done_ret_then ?_ | refine done_exit_then ?_ | refine done_normal_block ?_ | refine done_ret_block ?_ | refine done_exit_here ?_ | refine done_exit_on rfl ?_ | refine done_ret_round ?_ | refine done_exit_round ?_)
          | (refine ws_id ?_; first | refine ws_seq ?_ | refine ws_region ?_ | refine ws_block ?_ | refine ws_skip ?_ | refine ws_ret ?_ | refine ws_exit ?_ | refine ws_cond_t rfl ?_ | refine ws_cond_f rfl ?_)
          | refine rs_gy rfl rfl ?_
          | refine rs_no rfl rfl rfl rfl ?_
          | (refine rs_boxA rfl rfl rfl ?_; intro g)
          | (refine rs_alloc rfl rfl ?_; intro g)
          | (refine rs_idst ?_; first | refine rs_storeX 0 rfl rfl rfl rfl rfl rfl ?_ | refine rs_storeX 1 rfl rfl rfl rfl rfl rfl ?_ | refine rs_storeX 2 rfl rfl rfl rfl rfl rfl ?_ | refine rs_storeX 3 rfl rfl rfl rfl rfl rfl ?_ | refine rs_storeX 4 rfl rfl rfl rfl rfl rfl ?_ | refine rs_storeX 5 rfl rfl rfl rfl rfl rfl ?_ | refine rs_storeAX 0 rfl rfl rfl rfl rfl rfl rfl rfl rfl ?_ | refine rs_storeAX 1 rfl rfl rfl rfl rfl rfl rfl rfl rfl ?_ | refine rs_storeAX 2 rfl rfl rfl rfl rfl rfl rfl rfl rfl ?_ | refine rs_storeAX 3 rfl rfl rfl rfl rfl rfl rfl rfl rfl ?_ | refine rs_storeAX 4 rfl rfl rfl rfl rfl rfl rfl rfl rfl ?_ | refine rs_storeAX 5 rfl rfl rfl rfl rfl rfl rfl rfl rfl ?_ | refine rs_storeAS 0 rfl rfl rfl rfl rfl rfl ?_ | refine rs_storeAS 1 rfl rfl rfl rfl rfl rfl ?_ | refine rs_storeAS 2 rfl rfl rfl rfl rfl rfl ?_ | refine rs_storeAS 3 rfl rfl rfl rfl rfl rfl ?_)
    refine ws_cond rfl (fun he => ?_) (fun he => ?_)
    · have hki : (k : Int) < i := of_decide_eq_true he
      have hgk : L.getD (k : Int).toNat default = L.getD k default := by rw [Int.toNat_natCast]
      repeat
        first
            | refine rs_op rfl (opj_move rfl) ?_
            | refine rs_op rfl (opj_assign rfl) ?_
            | (refine rs_idb ?_; first | refine rs_op rfl (opj_fbin rfl rfl rfl) ?_ | refine rs_op rfl (opj_add rfl rfl (by omega)) ?_ | refine rs_op rfl (opj_sub rfl rfl (by omega)) ?_ | refine rs_op rfl (opj_fcmp rfl rfl rfl) ?_ | refine rs_op rfl (opj_lss rfl rfl) ?_ | refine rs_op rfl (opj_leq rfl rfl) ?_ | refine rs_op rfl (opj_gtr rfl rfl) ?_ | refine rs_op rfl (opj_geq rfl rfl) ?_ | refine rs_op rfl (opj_ieq rfl rfl) ?_ | refine rs_op rfl (opj_ine rfl rfl) ?_ | refine rs_op rfl (opj_beq rfl rfl) ?_ | refine rs_op rfl (opj_bne rfl rfl) ?_)
            | (refine rs_idc ?_; first | refine rs_op rfl (opj_len_m rfl) ?_ | refine rs_op rfl (opj_len_raw rfl) ?_ | refine rs_op rfl (opj_real rfl) ?_ | refine rs_op rfl (opj_imag rfl) ?_ | refine rs_op rfl (opj_complex rfl rfl) ?_)
            | (refine rs_idl ?_; first | refine rs_op rfl (opj_loadX rfl rfl (by (repeat (first | exact List.Mem.head _ | refine List.Mem.tail _ ?_)); done) rfl) ?_ | refine rs_op rfl (opj_loadAX rfl rfl (by (repeat (first | exact List.Mem.head _ | refine List.Mem.tail _ ?_)); done) rfl rfl) ?_ | refine rs_op rfl (opj_loadAP rfl rfl rfl rfl) ?_ | refine rs_op rfl (opj_load1 rfl rfl) ?_)
            | (refine rs_ida ?_; first | refine rs_op rfl (opj_index_m rfl rfl (by omega) (by omega)) ?_ | refine rs_op rfl (opj_index_own rfl rfl (by omega) (by omega)) ?_)
            | refine rs_op rfl (opj_field_own rfl) ?_
            | refine rs_op rfl (opj_field_ptr rfl) ?_
            | refine rs_op rfl (opj_wide rfl) ?_
            | refine rs_op rfl (opj_iconv rfl) ?_
            | refine rs_op rfl (opj_extract rfl rfl) ?_
            | refine rs_op rfl (opj_pick_t rfl rfl) ?_
            | refine rs_op rfl (opj_pick_f rfl rfl) ?_
            | refine rs_op rfl (opj_not rfl) ?_
            | refine rs_nil ?_
            | (refine done_id ?_; first | refine done_normal_then ?_ | refine done_ret_then ?_ | refine done_exit_then ?_ | refine done_normal_block ?_ | refine done_ret_block ?_ | refine done_exit_here ?_ | refine done_exit_on rfl ?_ | refine done_ret_round ?_ | refine done_exit_round ?_)
            | (refine ws_id ?_; first | refine ws_seq ?_ | refine ws_region ?_ | refine ws_block ?_ | refine ws_skip ?_ | refine ws_ret ?_ | refine ws_exit ?_ | refine ws_cond_t rfl ?_ | refine ws_cond_f rfl ?_)
            | refine rs_gy rfl rfl ?_
            | refine rs_no rfl rfl rfl rfl ?_
            | (refine rs_boxA rfl rfl rfl ?_; intro g)
            | (refine rs_alloc rfl rfl ?_; intro g)
            | (refine rs_idst ?_; first | refine rs_storeX 0 rfl rfl rfl rfl rfl rfl ?_ | refine rs_storeX 1 rfl rfl rfl rfl rfl rfl ?_ | refine rs_storeX 2 rfl rfl rfl rfl rfl rfl ?_ | refine rs_storeX 3 rfl rfl rfl rfl rfl rfl ?_ | refine rs_storeX 4 rfl rfl rfl rfl rfl rfl ?_ | refine rs_storeX 5 rfl rfl rfl rfl rfl rfl ?_ | refine rs_storeAX 0 rfl rfl rfl rfl rfl rfl rfl rfl rfl ?_ | refine rs_storeAX 1 rfl rfl rfl rfl rfl rfl rfl rfl rfl ?_ | refine rs_storeAX 2 rfl rfl rfl rfl rfl rfl rfl rfl rfl ?_ | refine rs_storeAX 3 rfl rfl rfl rfl rfl rfl rfl rfl rfl ?_ | refine rs_storeAX 4 rfl rfl rfl rfl rfl rfl rfl rfl rfl ?_ | refine rs_storeAX 5 rfl rfl rfl rfl rfl rfl rfl rfl rfl ?_ | refine rs_storeAS 0 rfl rfl rfl rfl rfl rfl ?_ | refine rs_storeAS 1 rfl rfl rfl rfl rfl rfl ?_ | refine rs_storeAS 2 rfl rfl rfl rfl rfl rfl ?_ | refine rs_storeAS 3 rfl rfl rfl rfl rfl rfl ?_)
      refine ws_draw (n := 15) mixed (by decide +kernel) ?_
      repeat
        first
            | refine r1_op rfl (opj_move rfl) ?_
            | refine r1_op rfl (opj_assign rfl) ?_
            | (refine r1_idb ?_; first | refine r1_op rfl (opj_fbin rfl rfl rfl) ?_ | refine r1_op rfl (opj_add rfl rfl (by omega)) ?_ | refine r1_op rfl (opj_sub rfl rfl (by omega)) ?_ | refine r1_op rfl (opj_fcmp rfl rfl rfl) ?_ | refine r1_op rfl (opj_lss rfl rfl) ?_ | refine r1_op rfl (opj_leq rfl rfl) ?_ | refine r1_op rfl (opj_gtr rfl rfl) ?_ | refine r1_op rfl (opj_geq rfl rfl) ?_ | refine r1_op rfl (opj_ieq rfl rfl) ?_ | refine r1_op rfl (opj_ine rfl rfl) ?_ | refine r1_op rfl (opj_beq rfl rfl) ?_ | refine r1_op rfl (opj_bne rfl rfl) ?_)
            | (refine r1_idc ?_; first | refine r1_op rfl (opj_len_m rfl) ?_ | refine r1_op rfl (opj_len_raw rfl) ?_ | refine r1_op rfl (opj_real rfl) ?_ | refine r1_op rfl (opj_imag rfl) ?_ | refine r1_op rfl (opj_complex rfl rfl) ?_)
            | (refine r1_idl ?_; first | refine r1_op rfl (opj_loadX rfl rfl (by (repeat (first | exact List.Mem.head _ | refine List.Mem.tail _ ?_)); done) rfl) ?_ | refine r1_op rfl (opj_loadAX rfl rfl (by (repeat (first | exact List.Mem.head _ | refine List.Mem.tail _ ?_)); done) rfl rfl) ?_ | refine r1_op rfl (opj_loadAP rfl rfl rfl rfl) ?_ | refine r1_op rfl (opj_load1 rfl rfl) ?_)
            | (refine r1_ida ?_; first | refine r1_op rfl (opj_index_m rfl rfl (by omega) (by omega)) ?_ | refine r1_op rfl (opj_index_own rfl rfl (by omega) (by omega)) ?_)
            | refine r1_op rfl (opj_field_own rfl) ?_
            | refine r1_op rfl (opj_field_ptr rfl) ?_
            | refine r1_op rfl (opj_wide rfl) ?_
            | refine r1_op rfl (opj_iconv rfl) ?_
            | refine r1_op rfl (opj_extract rfl rfl) ?_
            | refine r1_op rfl (opj_pick_t rfl rfl) ?_
            | refine r1_op rfl (opj_pick_f rfl rfl) ?_
            | refine r1_op rfl (opj_not rfl) ?_
            | refine r1_nil ?_
            | refine r1_gy rfl rfl ?_
            | refine r1_no rfl rfl rfl rfl ?_
            | refine r1_op rfl (opj_nilP rfl) ?_
            | refine r1_op rfl (opj_fieldP rfl) ?_
            | refine r1_op rfl (opj_loadP rfl rfl rfl) ?_
      repeat
        first
            | refine rs_op rfl (opj_move rfl) ?_
            | refine rs_op rfl (opj_assign rfl) ?_
            | (refine rs_idb ?_; first | refine rs_op rfl (opj_fbin rfl rfl rfl) ?_ | refine rs_op rfl (opj_add rfl rfl (by omega)) ?_ | refine rs_op rfl (opj_sub rfl rfl (by omega)) ?_ | refine rs_op rfl (opj_fcmp rfl rfl rfl) ?_ | refine rs_op rfl (opj_lss rfl rfl) ?_ | refine rs_op rfl (opj_leq rfl rfl) ?_ | refine rs_op rfl (opj_gtr rfl rfl) ?_ | refine rs_op rfl (opj_geq rfl rfl) ?_ | refine rs_op rfl (opj_ieq rfl rfl) ?_ | refine rs_op rfl (opj_ine rfl rfl) ?_ | refine rs_op rfl (opj_beq rfl rfl) ?_ | refine rs_op rfl (opj_bne rfl rfl) ?_)
            | (refine rs_idc ?_; first | refine rs_op rfl (opj_len_m rfl) ?_ | refine rs_op rfl (opj_len_raw rfl) ?_ | refine rs_op rfl (opj_real rfl) ?_ | refine rs_op rfl (opj_imag rfl) ?_ | refine rs_op rfl (opj_complex rfl rfl) ?_)
            | (refine rs_idl ?_; first | refine rs_op rfl (opj_loadX rfl rfl (by (repeat (first | exact List.Mem.head _ | refine List.Mem.tail _ ?_)); done) rfl) ?_ | refine rs_op rfl (opj_loadAX rfl rfl (by (repeat (first | exact List.Mem.head _ | refine List.Mem.tail _ ?_)); done) rfl rfl) ?_ | refine rs_op rfl (opj_loadAP rfl rfl rfl rfl) ?_ | refine rs_op rfl (opj_load1 rfl rfl) ?_)
            | (refine rs_ida ?_; first | refine rs_op rfl (opj_index_m rfl rfl (by omega) (by omega)) ?_ | refine rs_op rfl (opj_index_own rfl rfl (by omega) (by omega)) ?_)
            | refine rs_op rfl (opj_field_own rfl) ?_
            | refine rs_op rfl (opj_field_ptr rfl) ?_
            | refine rs_op rfl (opj_wide rfl) ?_
            | refine rs_op rfl (opj_iconv rfl) ?_
            | refine rs_op rfl (opj_extract rfl rfl) ?_
            | refine rs_op rfl (opj_pick_t rfl rfl) ?_
            | refine rs_op rfl (opj_pick_f rfl rfl) ?_
            | refine rs_op rfl (opj_not rfl) ?_
            | refine rs_nil ?_
            | (refine done_id ?_; first | refine done_normal_then ?_ | refine done_ret_then ?_ | refine done_exit_then ?_ | refine done_normal_block ?_ | refine done_ret_block ?_ | refine done_exit_here ?_ | refine done_exit_on rfl ?_ | refine done_ret_round ?_ | refine done_exit_round ?_)
            | (refine ws_id ?_; first | refine ws_seq ?_ | refine ws_region ?_ | refine ws_block ?_ | refine ws_skip ?_ | refine ws_ret ?_ | refine ws_exit ?_ | refine ws_cond_t rfl ?_ | refine ws_cond_f rfl ?_)
            | refine rs_gy rfl rfl ?_
            | refine rs_no rfl rfl rfl rfl ?_
            | (refine rs_boxA rfl rfl rfl ?_; intro g)
            | (refine rs_alloc rfl rfl ?_; intro g)
            | (refine rs_idst ?_; first | refine rs_storeX 0 rfl rfl rfl rfl rfl rfl ?_ | refine rs_storeX 1 rfl rfl rfl rfl rfl rfl ?_ | refine rs_storeX 2 rfl rfl rfl rfl rfl rfl ?_ | refine rs_storeX 3 rfl rfl rfl rfl rfl rfl ?_ | refine rs_storeX 4 rfl rfl rfl rfl rfl rfl ?_ | refine rs_storeX 5 rfl rfl rfl rfl rfl rfl ?_ | refine rs_storeAX 0 rfl rfl rfl rfl rfl rfl rfl rfl rfl ?_ | refine rs_storeAX 1 rfl rfl rfl rfl rfl rfl rfl rfl rfl ?_ | refine rs_storeAX 2 rfl rfl rfl rfl rfl rfl rfl rfl rfl ?_ | refine rs_storeAX 3 rfl rfl rfl rfl rfl rfl rfl rfl rfl ?_ | refine rs_storeAX 4 rfl rfl rfl rfl rfl rfl rfl rfl rfl ?_ | refine rs_storeAX 5 rfl rfl rfl rfl rfl rfl rfl rfl rfl ?_ | refine rs_storeAS 0 rfl rfl rfl rfl rfl rfl ?_ | refine rs_storeAS 1 rfl rfl rfl rfl rfl rfl ?_ | refine rs_storeAS 2 rfl rfl rfl rfl rfl rfl ?_ | refine rs_storeAS 3 rfl rfl rfl rfl rfl rfl ?_)
      rw [hgi, hgk]
      refine ws_cond rfl (fun hf => ?_) (fun hf => ?_)
      · have heq : L.getD k default = L.getD i default := of_decide_eq_true hf
        repeat
          first
              | refine rs_op rfl (opj_move rfl) ?_
              | refine rs_op rfl (opj_assign rfl) ?_
              | (refine rs_idb ?_; first | refine rs_op rfl (opj_fbin rfl rfl rfl) ?_ | refine rs_op rfl (opj_add rfl rfl (by omega)) ?_ | refine rs_op rfl (opj_sub rfl rfl (by omega)) ?_ | refine rs_op rfl (opj_fcmp rfl rfl rfl) ?_ | refine rs_op rfl (opj_lss rfl rfl) ?_ | refine rs_op rfl (opj_leq rfl rfl) ?_ | refine rs_op rfl (opj_gtr rfl rfl) ?_ | refine rs_op rfl (opj_geq rfl rfl) ?_ | refine rs_op rfl (opj_ieq rfl rfl) ?_ | refine rs_op rfl (opj_ine rfl rfl) ?_ | refine rs_op rfl (opj_beq rfl rfl) ?_ | refine rs_op rfl (opj_bne rfl rfl) ?_)
              | (refine rs_idc ?_; first | refine rs_op rfl (opj_len_m rfl) ?_ | refine rs_op rfl (opj_len_raw rfl) ?_ | refine rs_op rfl (opj_real rfl) ?_ | refine rs_op rfl (opj_imag rfl) ?_ | refine rs_op rfl (opj_complex rfl rfl) ?_)
              | (refine rs_idl ?_; first | refine rs_op rfl (opj_loadX rfl rfl (by (repeat (first | exact List.Mem.head _ | refine List.Mem.tail _ ?_)); done) rfl) ?_ | refine rs_op rfl (opj_loadAX rfl rfl (by (repeat (first | exact List.Mem.head _ | refine List.Mem.tail _ ?_)); done) rfl rfl) ?_ | refine rs_op rfl (opj_loadAP rfl rfl rfl rfl) ?_ | refine rs_op rfl (opj_load1 rfl rfl) ?_)
              | (refine rs_ida ?_; first | refine rs_op rfl (opj_index_m rfl rfl (by omega) (by omega)) ?_ | refine rs_op rfl (opj_index_own rfl rfl (by omega) (by omega)) ?_)
              | refine rs_op rfl (opj_field_own rfl) ?_
              | refine rs_op rfl (opj_field_ptr rfl) ?_
              | refine rs_op rfl (opj_wide rfl) ?_
              | refine rs_op rfl (opj_iconv rfl) ?_
              | refine rs_op rfl (opj_extract rfl rfl) ?_
              | refine rs_op rfl (opj_pick_t rfl rfl) ?_
              | refine rs_op rfl (opj_pick_f rfl rfl) ?_
              | refine rs_op rfl (opj_not rfl) ?_
              | refine rs_nil ?_
              | (refine done_id ?_; first | refine done_normal_then ?_ | refine done_ret_then ?_ | refine done_exit_then ?_ | refine done_normal_block ?_ | refine done_ret_block ?_ | refine done_exit_here ?_ | refine done_exit_on rfl ?_ | refine done_ret_round ?_ | refine done_exit_round ?_)
              | (refine ws_id ?_; first | refine ws_seq ?_ | refine ws_region ?_ | refine ws_block ?_ | refine ws_skip ?_ | refine ws_ret ?_ | refine ws_exit ?_ | refine ws_cond_t rfl ?_ | refine ws_cond_f rfl ?_)
              | refine rs_gy rfl rfl ?_
              | refine rs_no rfl rfl rfl rfl ?_
              | (refine rs_boxA rfl rfl rfl ?_; intro g)
              | (refine rs_alloc rfl rfl ?_; intro g)
              | (refine rs_idst ?_; first | refine rs_storeX 0 rfl rfl rfl rfl rfl rfl ?_ | refine rs_storeX 1 rfl rfl rfl rfl rfl rfl ?_ | refine rs_storeX 2 rfl rfl rfl rfl rfl rfl ?_ | refine rs_storeX 3 rfl rfl rfl rfl rfl rfl ?_ | refine rs_storeX 4 rfl rfl rfl rfl rfl rfl ?_ | refine rs_storeX 5 rfl rfl rfl rfl rfl rfl ?_ | refine rs_storeAX 0 rfl rfl rfl rfl rfl rfl rfl rfl rfl ?_ | refine rs_storeAX 1 rfl rfl rfl rfl rfl rfl rfl rfl rfl ?_ | refine rs_storeAX 2 rfl rfl rfl rfl rfl rfl rfl rfl rfl ?_ | refine rs_storeAX 3 rfl rfl rfl rfl rfl rfl rfl rfl rfl ?_ | refine rs_storeAX 4 rfl rfl rfl rfl rfl rfl rfl rfl rfl ?_ | refine rs_storeAX 5 rfl rfl rfl rfl rfl rfl rfl rfl rfl ?_ | refine rs_storeAS 0 rfl rfl rfl rfl rfl rfl ?_ | refine rs_storeAS 1 rfl rfl rfl rfl rfl rfl ?_ | refine rs_storeAS 2 rfl rfl rfl rfl rfl rfl ?_ | refine rs_storeAS 3 rfl rfl rfl rfl rfl rfl ?_)
        refine done_ret1B rfl () rfl rfl (facB_false fun h => ?_).symm trivial (List.nil_sublist _)
        have hnd' : (L.take (i + 1)).Nodup := h.nd.sublist (List.take_sublist _ _)
        refine ((nodup_take_succ (by omega)).1 hnd').2 ?_
        rw [← heq, List.getD_eq_getElem?_getD, List.getElem?_eq_getElem (show k < L.length by omega)]
        exact List.mem_take_iff_getElem.2 ⟨k, by omega, rfl⟩
      · have hne : ¬ L.getD k default = L.getD i default := of_decide_eq_false hf
        repeat
          first
              | refine rs_op rfl (opj_move rfl) ?_
              | refine rs_op rfl (opj_assign rfl) ?_
              | (refine rs_idb ?_; first | refine rs_op rfl (opj_fbin rfl rfl rfl) ?_ | refine rs_op rfl (opj_add rfl rfl (by omega)) ?_ | refine rs_op rfl (opj_sub rfl rfl (by omega)) ?_ | refine rs_op rfl (opj_fcmp rfl rfl rfl) ?_ | refine rs_op rfl (opj_lss rfl rfl) ?_ | refine rs_op rfl (opj_leq rfl rfl) ?_ | refine rs_op rfl (opj_gtr rfl rfl) ?_ | refine rs_op rfl (opj_geq rfl rfl) ?_ | refine rs_op rfl (opj_ieq rfl rfl) ?_ | refine rs_op rfl (opj_ine rfl rfl) ?_ | refine rs_op rfl (opj_beq rfl rfl) ?_ | refine rs_op rfl (opj_bne rfl rfl) ?_)
              | (refine rs_idc ?_; first | refine rs_op rfl (opj_len_m rfl) ?_ | refine rs_op rfl (opj_len_raw rfl) ?_ | refine rs_op rfl (opj_real rfl) ?_ | refine rs_op rfl (opj_imag rfl) ?_ | refine rs_op rfl (opj_complex rfl rfl) ?_)
              | (refine rs_idl ?_; first | refine rs_op rfl (opj_loadX rfl rfl (by (repeat (first | exact List.Mem.head _ | refine List.Mem.tail _ ?_)); done) rfl) ?_ | refine rs_op rfl (opj_loadAX rfl rfl (by (repeat (first | exact List.Mem.head _ | refine List.Mem.tail _ ?_)); done) rfl rfl) ?_ | refine rs_op rfl (opj_loadAP rfl rfl rfl rfl) ?_ | refine rs_op rfl (opj_load1 rfl rfl) ?_)
              | (refine rs_ida ?_; first | refine rs_op rfl (opj_index_m rfl rfl (by omega) (by omega)) ?_ | refine rs_op rfl (opj_index_own rfl rfl (by omega) (by omega)) ?_)
              | refine rs_op rfl (opj_field_own rfl) ?_
              | refine rs_op rfl (opj_field_ptr rfl) ?_
              | refine rs_op rfl (opj_wide rfl) ?_
              | refine rs_op rfl (opj_iconv rfl) ?_
              | refine rs_op rfl (opj_extract rfl rfl) ?_
              | refine rs_op rfl (opj_pick_t rfl rfl) ?_
              | refine rs_op rfl (opj_pick_f rfl rfl) ?_
              | refine rs_op rfl (opj_not rfl) ?_
              | refine rs_nil ?_
              | (refine done_id ?_; first | refine done_normal_then ?_ | refine done_ret_then ?_ | refine done_exit_then ?_ | refine done_normal_block ?_ | refine done_ret_block ?_ | refine done_exit_here ?_ | refine done_exit_on rfl ?_ | refine done_ret_round ?_ | refine done_exit_round ?_)
              | (refine ws_id ?_; first | refine ws_seq ?_ | refine ws_region ?_ | refine ws_block ?_ | refine ws_skip ?_ | refine ws_ret ?_ | refine ws_exit ?_ | refine ws_cond_t rfl ?_ | refine ws_cond_f rfl ?_)
              | refine rs_gy rfl rfl ?_
              | refine rs_no rfl rfl rfl rfl ?_
              | (refine rs_boxA rfl rfl rfl ?_; intro g)
              | (refine rs_alloc rfl rfl ?_; intro g)
              | (refine rs_idst ?_; first | refine rs_storeX 0 rfl rfl rfl rfl rfl rfl ?_ | refine rs_storeX 1 rfl rfl rfl rfl rfl rfl ?_ | refine rs_storeX 2 rfl rfl rfl rfl rfl rfl ?_ | refine rs_storeX 3 rfl rfl rfl rfl rfl rfl ?_ | refine rs_storeX 4 rfl rfl rfl rfl rfl rfl ?_ | refine rs_storeX 5 rfl rfl rfl rfl rfl rfl ?_ | refine rs_storeAX 0 rfl rfl rfl rfl rfl rfl rfl rfl rfl ?_ | refine rs_storeAX 1 rfl rfl rfl rfl rfl rfl rfl rfl rfl ?_ | refine rs_storeAX 2 rfl rfl rfl rfl rfl rfl rfl rfl rfl ?_ | refine rs_storeAX 3 rfl rfl rfl rfl rfl rfl rfl rfl rfl ?_ | refine rs_storeAX 4 rfl rfl rfl rfl rfl rfl rfl rfl rfl ?_ | refine rs_storeAX 5 rfl rfl rfl rfl rfl rfl rfl rfl rfl ?_ | refine rs_storeAS 0 rfl rfl rfl rfl rfl rfl ?_ | refine rs_storeAS 1 rfl rfl rfl rfl rfl rfl ?_ | refine rs_storeAS 2 rfl rfl rfl rfl rfl rfl ?_ | refine rs_storeAS 3 rfl rfl rfl rfl rfl rfl ?_)
        refine done_round (k + 1) ⟨by omega, fun j hj => ?_⟩ (by omega) ?_ (fun _ h => h)
        · rcases Nat.lt_or_ge j k with h | h
          · exact hall j h
          · obtain rfl : j = k := by omega
            exact hne
        · (repeat (first | exact Env.sub_nil _ | refine Env.sub_cons rfl ?_))
    · have hge : ¬ (k : Int) < i := of_decide_eq_false he
      obtain rfl : k = i := by omega
      repeat
        first
            | refine rs_op rfl (opj_move rfl) ?_
            | refine rs_op rfl (opj_assign rfl) ?_
            | (refine rs_idb ?_; first | refine rs_op rfl (opj_fbin rfl rfl rfl) ?_ | refine rs_op rfl (opj_add rfl rfl (by omega)) ?_ | refine rs_op rfl (opj_sub rfl rfl (by omega)) ?_ | refine rs_op rfl (opj_fcmp rfl rfl rfl) ?_ | refine rs_op rfl (opj_lss rfl rfl) ?_ | refine rs_op rfl (opj_leq rfl rfl) ?_ | refine rs_op rfl (opj_gtr rfl rfl) ?_ | refine rs_op rfl (opj_geq rfl rfl) ?_ | refine rs_op rfl (opj_ieq rfl rfl) ?_ | refine rs_op rfl (opj_ine rfl rfl) ?_ | refine rs_op rfl (opj_beq rfl rfl) ?_ | refine rs_op rfl (opj_bne rfl rfl) ?_)
            | (refine rs_idc ?_; first | refine rs_op rfl (opj_len_m rfl) ?_ | refine rs_op rfl (opj_len_raw rfl) ?_ | refine rs_op rfl (opj_real rfl) ?_ | refine rs_op rfl (opj_imag rfl) ?_ | refine rs_op rfl (opj_complex rfl rfl) ?_)
            | (refine rs_idl ?_; first | refine rs_op rfl (opj_loadX rfl rfl (by (repeat (first | exact List.Mem.head _ | refine List.Mem.tail _ ?_)); done) rfl) ?_ | refine rs_op rfl (opj_loadAX rfl rfl (by (repeat (first | exact List.Mem.head _ | refine List.Mem.tail _ ?_)); done) rfl rfl) ?_ | refine rs_op rfl (opj_loadAP rfl rfl rfl rfl) ?_ | refine rs_op rfl (opj_load1 rfl rfl) ?_)
            | (refine rs_ida ?_; first | refine rs_op rfl (opj_index_m rfl rfl (by omega) (by omega)) ?_ | refine rs_op rfl (opj_index_own rfl rfl (by omega) (by omega)) ?_)
            | refine rs_op rfl (opj_field_own rfl) ?_
            | refine rs_op rfl (opj_field_ptr rfl) ?_
            | refine rs_op rfl (opj_wide rfl) ?_
            | refine rs_op rfl (opj_iconv rfl) ?_
            | refine rs_op rfl (opj_extract rfl rfl) ?_
            | refine rs_op rfl (opj_pick_t rfl rfl) ?_
            | refine rs_op rfl (opj_pick_f rfl rfl) ?_
            | refine rs_op rfl (opj_not rfl) ?_
            | refine rs_nil ?_
            | (refine done_id ?_; first | refine done_normal_then ?_ | refine done_ret_then ?_ | refine done_exit_then ?_ | refine done_normal_block ?_ | refine done_ret_block ?_ | refine done_exit_here ?_ | refine done_exit_on rfl ?_ | refine done_ret_round ?_ | refine done_exit_round ?_)
            | (refine ws_id ?_; first | refine ws_seq ?_ | refine ws_region ?_ | refine ws_block ?_ | refine ws_skip ?_ | refine ws_ret ?_ | refine ws_exit ?_ | refine ws_cond_t rfl ?_ | refine ws_cond_f rfl ?_)
            | refine rs_gy rfl rfl ?_
            | refine rs_no rfl rfl rfl rfl ?_
            | (refine rs_boxA rfl rfl rfl ?_; intro g)
            | (refine rs_alloc rfl rfl ?_; intro g)
            | (refine rs_idst ?_; first | refine rs_storeX 0 rfl rfl rfl rfl rfl rfl ?_ | refine rs_storeX 1 rfl rfl rfl rfl rfl rfl ?_ | refine rs_storeX 2 rfl rfl rfl rfl rfl rfl ?_ | refine rs_storeX 3 rfl rfl rfl rfl rfl rfl ?_ | refine rs_storeX 4 rfl rfl rfl rfl rfl rfl ?_ | refine rs_storeX 5 rfl rfl rfl rfl rfl rfl ?_ | refine rs_storeAX 0 rfl rfl rfl rfl rfl rfl rfl rfl rfl ?_ | refine rs_storeAX 1 rfl rfl rfl rfl rfl rfl rfl rfl rfl ?_ | refine rs_storeAX 2 rfl rfl rfl rfl rfl rfl rfl rfl rfl ?_ | refine rs_storeAX 3 rfl rfl rfl rfl rfl rfl rfl rfl rfl ?_ | refine rs_storeAX 4 rfl rfl rfl rfl rfl rfl rfl rfl rfl ?_ | refine rs_storeAX 5 rfl rfl rfl rfl rfl rfl rfl rfl rfl ?_ | refine rs_storeAS 0 rfl rfl rfl rfl rfl rfl ?_ | refine rs_storeAS 1 rfl rfl rfl rfl rfl rfl ?_ | refine rs_storeAS 2 rfl rfl rfl rfl rfl rfl ?_ | refine rs_storeAS 3 rfl rfl rfl rfl rfl rfl ?_)
      refine done_round (k + 1) ⟨by omega, fun d hd' => ?_, ?_⟩ (by omega) ?_ (fun _ h => h)
      · rcases (mem_take_succ (by omega)).1 hd' with h | h
        · exact hmem d h
        · rw [h]; exact hw
      · rw [nodup_take_succ (by omega)]
        refine ⟨hnd, fun hm => ?_⟩
        obtain ⟨j, hj, he'⟩ := List.mem_take_iff_getElem.1 hm
        refine hall j (by omega) ?_
        rw [← he', List.getD_eq_getElem?_getD, List.getElem?_eq_getElem (show j < L.length by omega)]
        rfl
      · (repeat (first | exact Env.sub_nil _ | refine Env.sub_cons rfl ?_))
  · have hge : ¬ (i : Int) < L.length := of_decide_eq_false hd
    obtain rfl : i = L.length := by omega
    rw [List.take_length] at hmem hnd
    repeat
      first
          | refine rs_op rfl (opj_move rfl) ?_
          | refine rs_op rfl (opj_assign rfl) ?_
          | (refine rs_idb ?_; first | refine rs_op rfl (opj_fbin rfl rfl rfl) ?_ | refine rs_op rfl (opj_add rfl rfl (by omega)) ?_ | refine rs_op rfl (opj_sub rfl rfl (by omega)) ?_ | refine rs_op rfl (opj_fcmp rfl rfl rfl) ?_ | refine rs_op rfl (opj_lss rfl rfl) ?_ | refine rs_op rfl (opj_leq rfl rfl) ?_ | refine rs_op rfl (opj_gtr rfl rfl) ?_ | refine rs_op rfl (opj_geq rfl rfl) ?_ | refine rs_op rfl (opj_ieq rfl rfl) ?_ | refine rs_op rfl (opj_ine rfl rfl) ?_ | refine rs_op rfl (opj_beq rfl rfl) ?_ | refine rs_op rfl (opj_bne rfl rfl) ?_)
          | (refine rs_idc ?_; first | refine rs_op rfl (opj_len_m rfl) ?_ | refine rs_op rfl (opj_len_raw rfl) ?_ | refine rs_op rfl (opj_real rfl) ?_ | refine rs_op rfl (opj_imag rfl) ?_ | refine rs_op rfl (opj_complex rfl rfl) ?_)
          | (refine rs_idl ?_; first | refine rs_op rfl (opj_loadX rfl rfl (by (repeat (first | exact List.Mem.head _ | refine List.Mem.tail _ ?_)); done) rfl) ?_ | refine rs_op rfl (opj_loadAX rfl rfl (by (repeat (first | exact List.Mem.head _ | refine List.Mem.tail _ ?_)); done) rfl rfl) ?_ | refine rs_op rfl (opj_loadAP rfl rfl rfl rfl) ?_ | refine rs_op rfl (opj_load1 rfl rfl) ?_)
          | (refine rs_ida ?_; first | refine rs_op rfl (opj_index_m rfl rfl (by omega) (by omega)) ?_ | refine rs_op rfl (opj_index_own rfl rfl (by omega) (by omega)) ?_)
          | refine rs_op rfl (opj_field_own rfl) ?_
          | refine rs_op rfl (opj_field_ptr rfl) ?_
          | refine rs_op rfl (opj_wide rfl) ?_
          | refine rs_op rfl (opj_iconv rfl) ?_
          | refine rs_op rfl (opj_extract rfl rfl) ?_
          | refine rs_op rfl (opj_pick_t rfl rfl) ?_
          | refine rs_op rfl (opj_pick_f rfl rfl) ?_
          | refine rs_op rfl (opj_not rfl) ?_
          | refine rs_nil ?_
          | (refine done_id ?_; first | refine done_normal_then ?_ | refine done_ret_then ?_ | refine done_exit_then ?_ | refine done_normal_block ?_ | refine done_ret_block ?_ | refine done_exit_here ?_ | refine done_exit_on rfl ?_ | refine done_ret_round ?_ | refine done_exit_round ?_)
          | (refine ws_id ?_; first | refine ws_seq ?_ | refine ws_region ?_ | refine ws_block ?_ | refine ws_skip ?_ | refine ws_ret ?_ | refine ws_exit ?_ | refine ws_cond_t rfl ?_ | refine ws_cond_f rfl ?_)
          | refine rs_gy rfl rfl ?_
          | refine rs_no rfl rfl rfl rfl ?_
          | (refine rs_boxA rfl rfl rfl ?_; intro g)
          | (refine rs_alloc rfl rfl ?_; intro g)
          | (refine rs_idst ?_; first | refine rs_storeX 0 rfl rfl rfl rfl rfl rfl ?_ | refine rs_storeX 1 rfl rfl rfl rfl rfl rfl ?_ | refine rs_storeX 2 rfl rfl rfl rfl rfl rfl ?_ | refine rs_storeX 3 rfl rfl rfl rfl rfl rfl ?_ | refine rs_storeX 4 rfl rfl rfl rfl rfl rfl ?_ | refine rs_storeX 5 rfl rfl rfl rfl rfl rfl ?_ | refine rs_storeAX 0 rfl rfl rfl rfl rfl rfl rfl rfl rfl ?_ | refine rs_storeAX 1 rfl rfl rfl rfl rfl rfl rfl rfl rfl ?_ | refine rs_storeAX 2 rfl rfl rfl rfl rfl rfl rfl rfl rfl ?_ | refine rs_storeAX 3 rfl rfl rfl rfl rfl rfl rfl rfl rfl ?_ | refine rs_storeAX 4 rfl rfl rfl rfl rfl rfl rfl rfl rfl ?_ | refine rs_storeAX 5 rfl rfl rfl rfl rfl rfl rfl rfl rfl ?_ | refine rs_storeAS 0 rfl rfl rfl rfl rfl rfl ?_ | refine rs_storeAS 1 rfl rfl rfl rfl rfl rfl ?_ | refine rs_storeAS 2 rfl rfl rfl rfl rfl rfl ?_ | refine rs_storeAS 3 rfl rfl rfl rfl rfl rfl ?_)
    exact done_ret1B rfl () rfl rfl (facB_true ⟨hlen, hmem, hnd⟩).symm trivial (List.nil_sublist _)

/-- The place of the first side between two corners. -/
def sideP (a b : Int) (x : Sd) : Bool := decide (x.2.1 = a) && decide (x.2.2 = b)
set_option maxHeartbeats 2000000 in
theorem l06Side_fn (l : List Sd) (hl : l.length < 2 ^ 60) (a b : Int) : Fn Try.prog 158 (fun w => [slI w (fromL l), slI w (toL l), intA a, intA b]) (intA (idxOf (sideP a b) l)) := by
  refine fn_intro Try.func158 rfl Try.ntmps158 (fun _ => Nat.le_of_ble_eq_true rfl) fun w0 => ?_
  repeat
    first
        | refine rs_op rfl (opj_move rfl) ?_
        | refine rs_op rfl (opj_assign rfl) ?_
        | (refine rs_idb ?_; first | refine rs_op rfl (opj_fbin rfl rfl rfl) ?_ | refine rs_op rfl (opj_add rfl rfl (by omega)) ?_ | refine rs_op rfl (opj_sub rfl rfl (by omega)) ?_ | refine rs_op rfl (opj_fcmp rfl rfl rfl) ?_ | refine rs_op rfl (opj_lss rfl rfl) ?_ | refine rs_op rfl (opj_leq rfl rfl) ?_ | refine rs_op rfl (opj_gtr rfl rfl) ?_ | refine rs_op rfl (opj_geq rfl rfl) ?_ | refine rs_op rfl (opj_ieq rfl rfl) ?_ | refine rs_op rfl (opj_ine rfl rfl) ?_ | refine rs_op rfl (opj_beq rfl rfl) ?_ | refine rs_op rfl (opj_bne rfl rfl) ?_)
        | (refine rs_idc ?_; first | refine rs_op rfl (opj_len_m rfl) ?_ | refine rs_op rfl (opj_len_raw rfl) ?_ | refine rs_op rfl (opj_real rfl) ?_ | refine rs_op rfl (opj_imag rfl) ?_ | refine rs_op rfl (opj_complex rfl rfl) ?_)
        | (refine rs_idl ?_; first | refine rs_op rfl (opj_loadX rfl rfl (by (repeat (first | exact List.Mem.head _ | refine List.Mem.tail _ ?_)); done) rfl) ?_ | refine rs_op rfl (opj_loadAX rfl rfl (by (repeat (first | exact List.Mem.head _ | refine List.Mem.tail _ ?_)); done) rfl rfl) ?_ | refine rs_op rfl (opj_loadAP rfl rfl rfl rfl) ?_ | refine rs_op rfl (opj_load1 rfl rfl) ?_)
        | (refine rs_ida ?_; first | refine rs_op rfl (opj_index_m rfl rfl (by omega) (by omega)) ?_ | refine rs_op rfl (opj_index_own rfl rfl (by omega) (by omega)) ?_)
        | refine rs_op rfl (opj_field_own rfl) ?_
        | refine rs_op rfl (opj_field_ptr rfl) ?_
        | refine rs_op rfl (opj_wide rfl) ?_
        | refine rs_op rfl (opj_iconv rfl) ?_
        | refine rs_op rfl (opj_extract rfl rfl) ?_
        | refine rs_op rfl (opj_pick_t rfl rfl) ?_
        | refine rs_op rfl (opj_pick_f rfl rfl) ?_
        | refine rs_op rfl (opj_not rfl) ?_
        | refine rs_nil ?_
        | (refine done_id ?_; first | refine done_normal_then ?_ | refine done_ret_then ?_ | refine done_exit_then ?_ | refine done_normal_block ?_ | refine done_ret_block ?_ | refine done_exit_here ?_ | refine done_exit_on rfl ?_ | refine done_ret_round ?_ | refine done_exit_round ?_)
        | (refine ws_id ?_; first | refine ws_seq ?_ | refine ws_region ?_ | refine ws_block ?_ | refine ws_skip ?_ | refine ws_ret ?_ | refine ws_exit ?_ | refine ws_cond_t rfl ?_ | refine ws_cond_f rfl ?_)
        | refine rs_gy rfl rfl ?_
        | refine rs_no rfl rfl rfl rfl ?_
        | (refine rs_boxA rfl rfl rfl ?_; intro g)
        | (refine rs_alloc rfl rfl ?_; intro g)
        | (refine rs_idst ?_; first | refine rs_storeX 0 rfl rfl rfl rfl rfl rfl ?_ | refine rs_storeX 1 rfl rfl rfl rfl rfl rfl ?_ | refine rs_storeX 2 rfl rfl rfl rfl rfl rfl ?_ | refine rs_storeX 3 rfl rfl rfl rfl rfl rfl ?_ | refine rs_storeX 4 rfl rfl rfl rfl rfl rfl ?_ | refine rs_storeX 5 rfl rfl rfl rfl rfl rfl ?_ | refine rs_storeAX 0 rfl rfl rfl rfl rfl rfl rfl rfl rfl ?_ | refine rs_storeAX 1 rfl rfl rfl rfl rfl rfl rfl rfl rfl ?_ | refine rs_storeAX 2 rfl rfl rfl rfl rfl rfl rfl rfl rfl ?_ | refine rs_storeAX 3 rfl rfl rfl rfl rfl rfl rfl rfl rfl ?_ | refine rs_storeAX 4 rfl rfl rfl rfl rfl rfl rfl rfl rfl ?_ | refine rs_storeAX 5 rfl rfl rfl rfl rfl rfl rfl rfl rfl ?_ | refine rs_storeAS 0 rfl rfl rfl rfl rfl rfl ?_ | refine rs_storeAS 1 rfl rfl rfl rfl rfl rfl ?_ | refine rs_storeAS 2 rfl rfl rfl rfl rfl rfl ?_ | refine rs_storeAS 3 rfl rfl rfl rfl rfl rfl ?_)
  have h1 := fromL_length l
  have h2 := toL_length l
  refine ws_loop (ι := Nat) (fun k => [(0, slI w0 (fromL l)), (1, slI w0 (toL l)), (2, intA a), (3, intA b), (9, .raw (.int .i64 k))]) (fun _ => St w0 [] []) (fun k => k ≤ l.length ∧ ∀ i, i < k → sideP a b (l.getD i default) = false) (fun k => l.length - k) 0 ⟨Nat.zero_le _, fun i hi => by omega⟩ ?_ (fun _ h => h) (fun k hk => ?_)
  · (repeat (first | exact Env.sub_nil _ | refine Env.sub_cons rfl ?_))
  obtain ⟨hk, hall⟩ := hk
  repeat
    first
        | refine rs_op rfl (opj_move rfl) ?_
        | refine rs_op rfl (opj_assign rfl) ?_
        | (refine rs_idb ?_; first | refine rs_op rfl (opj_fbin rfl rfl rfl) ?_ | refine rs_op rfl (opj_add rfl rfl (by omega)) ?_ | refine rs_op rfl (opj_sub rfl rfl (by omega)) ?_ | refine rs_op rfl (opj_fcmp rfl rfl rfl) ?_ | refine rs_op rfl (opj_lss rfl rfl) ?_ | refine rs_op rfl (opj_leq rfl rfl) ?_ | refine rs_op rfl (opj_gtr rfl rfl) ?_ | refine rs_op rfl (opj_geq rfl rfl) ?_ | refine rs_op rfl (opj_ieq rfl rfl) ?_ | refine rs_op rfl (opj_ine rfl rfl) ?_ | refine rs_op rfl (opj_beq rfl rfl) ?_ | refine rs_op rfl (opj_bne rfl rfl) ?_)
        | (refine rs_idc ?_; first | refine rs_op rfl (opj_len_m rfl) ?_ | refine rs_op rfl (opj_len_raw rfl) ?_ | refine rs_op rfl (opj_real rfl) ?_ | refine rs_op rfl (opj_imag rfl) ?_ | refine rs_op rfl (opj_complex rfl rfl) ?_)
        | (refine rs_idl ?_; first | refine rs_op rfl (opj_loadX rfl rfl (by (repeat (first | exact List.Mem.head _ | refine List.Mem.tail _ ?_)); done) rfl) ?_ | refine rs_op rfl (opj_loadAX rfl rfl (by (repeat (first | exact List.Mem.head _ | refine List.Mem.tail _ ?_)); done) rfl rfl) ?_ | refine rs_op rfl (opj_loadAP rfl rfl rfl rfl) ?_ | refine rs_op rfl (opj_load1 rfl rfl) ?_)
        | (refine rs_ida ?_; first | refine rs_op rfl (opj_index_m rfl rfl (by omega) (by omega)) ?_ | refine rs_op rfl (opj_index_own rfl rfl (by omega) (by omega)) ?_)
        | refine rs_op rfl (opj_field_own rfl) ?_
        | refine rs_op rfl (opj_field_ptr rfl) ?_
        | refine rs_op rfl (opj_wide rfl) ?_
        | refine rs_op rfl (opj_iconv rfl) ?_
        | refine rs_op rfl (opj_extract rfl rfl) ?_
        | refine rs_op rfl (opj_pick_t rfl rfl) ?_
        | refine rs_op rfl (opj_pick_f rfl rfl) ?_
        | refine rs_op rfl (opj_not rfl) ?_
        | refine rs_nil ?_
        | (refine done_id ?_; first | refine done_normal_then ?_ | refine done_ret_then ?_ | refine done_exit_then ?_ | refine done_normal_block ?_ | refine done_ret_block ?_ | refine done_exit_here ?_ | refine done_exit_on rfl ?_ | refine done_ret_round ?_ | refine done_exit_round ?_)
        | (refine ws_id ?_; first | refine ws_seq ?_ | refine ws_region ?_ | refine ws_block ?_ | refine ws_skip ?_ | refine ws_ret ?_ | refine ws_exit ?_ | refine ws_cond_t rfl ?_ | refine ws_cond_f rfl ?_)
        | refine rs_gy rfl rfl ?_
        | refine rs_no rfl rfl rfl rfl ?_
        | (refine rs_boxA rfl rfl rfl ?_; intro g)
        | (refine rs_alloc rfl rfl ?_; intro g)
        | (refine rs_idst ?_; first | refine rs_storeX 0 rfl rfl rfl rfl rfl rfl ?_ | refine rs_storeX 1 rfl rfl rfl rfl rfl rfl ?_ | refine rs_storeX 2 rfl rfl rfl rfl rfl rfl ?_ | refine rs_storeX 3 rfl rfl rfl rfl rfl rfl ?_ | refine rs_storeX 4 rfl rfl rfl rfl rfl rfl ?_ | refine rs_storeX 5 rfl rfl rfl rfl rfl rfl ?_ | refine rs_storeAX 0 rfl rfl rfl rfl rfl rfl rfl rfl rfl ?_ | refine rs_storeAX 1 rfl rfl rfl rfl rfl rfl rfl rfl rfl ?_ | refine rs_storeAX 2 rfl rfl rfl rfl rfl rfl rfl rfl rfl ?_ | refine rs_storeAX 3 rfl rfl rfl rfl rfl rfl rfl rfl rfl ?_ | refine rs_storeAX 4 rfl rfl rfl rfl rfl rfl rfl rfl rfl ?_ | refine rs_storeAX 5 rfl rfl rfl rfl rfl rfl rfl rfl rfl ?_ | refine rs_storeAS 0 rfl rfl rfl rfl rfl rfl ?_ | refine rs_storeAS 1 rfl rfl rfl rfl rfl rfl ?_ | refine rs_storeAS 2 rfl rfl rfl rfl rfl rfl ?_ | refine rs_storeAS 3 rfl rfl rfl rfl rfl rfl ?_)
  refine ws_cond rfl (fun hd => ?_) (fun hd => ?_)
  · have hlt : (k : Int) < (fromL l).length := of_decide_eq_true hd
    have hga : (fromL l).getD (k : Int).toNat default = (l.getD k default).2.1 := by rw [Int.toNat_natCast]; exact fromL_get l (by omega)
    have hgb : (toL l).getD (k : Int).toNat default = (l.getD k default).2.2 := by rw [Int.toNat_natCast]; exact toL_get l (by omega)
    repeat'
      first
          | refine rs_op rfl (opj_move rfl) ?_
          | refine rs_op rfl (opj_assign rfl) ?_
          | (refine rs_idb ?_; first | refine rs_op rfl (opj_fbin rfl rfl rfl) ?_ | refine rs_op rfl (opj_add rfl rfl (by omega)) ?_ | refine rs_op rfl (opj_sub rfl rfl (by omega)) ?_ | (refine rs_opB rfl (opj_fcmp rfl rfl rfl) ?_; intro c hc) | (refine rs_opB rfl (opj_lss rfl rfl) ?_; intro c hc) | (refine rs_opB rfl (opj_leq rfl rfl) ?_; intro c hc) | (refine rs_opB rfl (opj_gtr rfl rfl) ?_; intro c hc) | (refine rs_opB rfl (opj_geq rfl rfl) ?_; intro c hc) | (refine rs_opB rfl (opj_ieq rfl rfl) ?_; intro c hc) | (refine rs_opB rfl (opj_ine rfl rfl) ?_; intro c hc) | (refine rs_opB rfl (opj_beq rfl rfl) ?_; intro c hc) | (refine rs_opB rfl (opj_bne rfl rfl) ?_; intro c hc))
          | (refine rs_idc ?_; first | refine rs_op rfl (opj_len_m rfl) ?_ | refine rs_op rfl (opj_len_raw rfl) ?_ | refine rs_op rfl (opj_real rfl) ?_ | refine rs_op rfl (opj_imag rfl) ?_ | refine rs_op rfl (opj_complex rfl rfl) ?_)
          | (refine rs_idl ?_; first | refine rs_op rfl (opj_loadX rfl rfl (by (repeat (first | exact List.Mem.head _ | refine List.Mem.tail _ ?_)); done) rfl) ?_ | refine rs_op rfl (opj_loadAX rfl rfl (by (repeat (first | exact List.Mem.head _ | refine List.Mem.tail _ ?_)); done) rfl rfl) ?_ | refine rs_op rfl (opj_loadAP rfl rfl rfl rfl) ?_ | refine rs_op rfl (opj_load1 rfl rfl) ?_)
          | (refine rs_ida ?_; first | refine rs_op rfl (opj_index_m rfl rfl (by omega) (by omega)) ?_ | refine rs_op rfl (opj_index_own rfl rfl (by omega) (by omega)) ?_)
          | refine rs_op rfl (opj_field_own rfl) ?_
          | refine rs_op rfl (opj_field_ptr rfl) ?_
          | refine rs_op rfl (opj_wide rfl) ?_
          | refine rs_op rfl (opj_iconv rfl) ?_
          | refine rs_op rfl (opj_extract rfl rfl) ?_
          | refine rs_op rfl (opj_pick_t rfl rfl) ?_
          | refine rs_op rfl (opj_pick_f rfl rfl) ?_
          | refine rs_op rfl (opj_not rfl) ?_
          | refine rs_nil ?_
          | (refine done_id ?_; first | refine done_normal_then ?_ | refine done_ret_then ?_ | refine done_exit_then ?_ | refine done_normal_block ?_ | refine done_ret_block ?_ | refine done_exit_here ?_ | refine done_exit_on rfl ?_ | refine done_ret_round ?_ | refine done_exit_round ?_)
          | (refine ws_id ?_; first | refine ws_seq ?_ | refine ws_region ?_ | refine ws_block ?_ | refine ws_skip ?_ | refine ws_ret ?_ | refine ws_exit ?_ | refine ws_cond_t rfl ?_ | refine ws_cond_f rfl ?_)
          | refine rs_gy rfl rfl ?_
          | refine rs_no rfl rfl rfl rfl ?_
          | (refine rs_boxA rfl rfl rfl ?_; intro g)
          | (refine rs_alloc rfl rfl ?_; intro g)
          | (refine rs_idst ?_; first | refine rs_storeX 0 rfl rfl rfl rfl rfl rfl ?_ | refine rs_storeX 1 rfl rfl rfl rfl rfl rfl ?_ | refine rs_storeX 2 rfl rfl rfl rfl rfl rfl ?_ | refine rs_storeX 3 rfl rfl rfl rfl rfl rfl ?_ | refine rs_storeX 4 rfl rfl rfl rfl rfl rfl ?_ | refine rs_storeX 5 rfl rfl rfl rfl rfl rfl ?_ | refine rs_storeAX 0 rfl rfl rfl rfl rfl rfl rfl rfl rfl ?_ | refine rs_storeAX 1 rfl rfl rfl rfl rfl rfl rfl rfl rfl ?_ | refine rs_storeAX 2 rfl rfl rfl rfl rfl rfl rfl rfl rfl ?_ | refine rs_storeAX 3 rfl rfl rfl rfl rfl rfl rfl rfl rfl ?_ | refine rs_storeAX 4 rfl rfl rfl rfl rfl rfl rfl rfl rfl ?_ | refine rs_storeAX 5 rfl rfl rfl rfl rfl rfl rfl rfl rfl ?_ | refine rs_storeAS 0 rfl rfl rfl rfl rfl rfl ?_ | refine rs_storeAS 1 rfl rfl rfl rfl rfl rfl ?_ | refine rs_storeAS 2 rfl rfl rfl rfl rfl rfl ?_ | refine rs_storeAS 3 rfl rfl rfl rfl rfl rfl ?_)
          | cases c
    · rw [hga] at hc
      refine done_round (k + 1) ⟨by omega, fun i hi => ?_⟩ (by omega) ?_ (fun _ h => h)
      · rcases Nat.lt_or_ge i k with h | h
        · exact hall i h
        · obtain rfl : i = k := by omega
          unfold sideP; rw [hc, Bool.false_and]
      · (repeat (first | exact Env.sub_nil _ | refine Env.sub_cons rfl ?_))
    · rename_i hc1
      rw [hgb] at hc
      rw [hga] at hc1
      refine done_round (k + 1) ⟨by omega, fun i hi => ?_⟩ (by omega) ?_ (fun _ h => h)
      · rcases Nat.lt_or_ge i k with h | h
        · exact hall i h
        · obtain rfl : i = k := by omega
          unfold sideP; rw [hc, Bool.and_false]
      · (repeat (first | exact Env.sub_nil _ | refine Env.sub_cons rfl ?_))
    · rename_i hc1
      rw [hgb] at hc
      rw [hga] at hc1
      exact done_ret1 rfl () (by rw [idxOf_found (k := k) (by omega) hall (by unfold sideP; rw [hc, hc1]; rfl)]; rfl) trivial (List.nil_sublist _)
  · have hge : ¬ (k : Int) < (fromL l).length := of_decide_eq_false hd
    repeat
      first
          | refine rs_op rfl (opj_move rfl) ?_
          | refine rs_op rfl (opj_assign rfl) ?_
          | (refine rs_idb ?_; first | refine rs_op rfl (opj_fbin rfl rfl rfl) ?_ | refine rs_op rfl (opj_add rfl rfl (by omega)) ?_ | refine rs_op rfl (opj_sub rfl rfl (by omega)) ?_ | refine rs_op rfl (opj_fcmp rfl rfl rfl) ?_ | refine rs_op rfl (opj_lss rfl rfl) ?_ | refine rs_op rfl (opj_leq rfl rfl) ?_ | refine rs_op rfl (opj_gtr rfl rfl) ?_ | refine rs_op rfl (opj_geq rfl rfl) ?_ | refine rs_op rfl (opj_ieq rfl rfl) ?_ | refine rs_op rfl (opj_ine rfl rfl) ?_ | refine rs_op rfl (opj_beq rfl rfl) ?_ | refine rs_op rfl (opj_bne rfl rfl) ?_)
          | (refine rs_idc ?_; first | refine rs_op rfl (opj_len_m rfl) ?_ | refine rs_op rfl (opj_len_raw rfl) ?_ | refine rs_op rfl (opj_real rfl) ?_ | refine rs_op rfl (opj_imag rfl) ?_ | refine rs_op rfl (opj_complex rfl rfl) ?_)
          | (refine rs_idl ?_; first | refine rs_op rfl (opj_loadX rfl rfl (by (repeat (first | exact List.Mem.head _ | refine List.Mem.tail _ ?_)); done) rfl) ?_ | refine rs_op rfl (opj_loadAX rfl rfl (by (repeat (first | exact List.Mem.head _ | refine List.Mem.tail _ ?_)); done) rfl rfl) ?_ | refine rs_op rfl (opj_loadAP rfl rfl rfl rfl) ?_ | refine rs_op rfl (opj_load1 rfl rfl) ?_)
          | (refine rs_ida ?_; first | refine rs_op rfl (opj_index_m rfl rfl (by omega) (by omega)) ?_ | refine rs_op rfl (opj_index_own rfl rfl (by omega) (by omega)) ?_)
          | refine rs_op rfl (opj_field_own rfl) ?_
          | refine rs_op rfl (opj_field_ptr rfl) ?_
          | refine rs_op rfl (opj_wide rfl) ?_
          | refine rs_op rfl (opj_iconv rfl) ?_
          | refine rs_op rfl (opj_extract rfl rfl) ?_
          | refine rs_op rfl (opj_pick_t rfl rfl) ?_
          | refine rs_op rfl (opj_pick_f rfl rfl) ?_
          | refine rs_op rfl (opj_not rfl) ?_
          | refine rs_nil ?_
          | (refine done_id ?_; first | refine done_normal_then ?_ | refine done_ret_then ?_ | refine done_exit_then ?_ | refine done_normal_block ?_ | refine done_ret_block ?_ | refine done_exit_here ?_ | refine done_exit_on rfl ?_ | refine done_ret_round ?_ | refine done_exit_round ?_)
          | (refine ws_id ?_; first | refine ws_seq ?_ | refine ws_region ?_ | refine ws_block ?_ | refine ws_skip ?_ | refine ws_ret ?_ | refine ws_exit ?_ | refine ws_cond_t rfl ?_ | refine ws_cond_f rfl ?_)
          | refine rs_gy rfl rfl ?_
          | refine rs_no rfl rfl rfl rfl ?_
          | (refine rs_boxA rfl rfl rfl ?_; intro g)
          | (refine rs_alloc rfl rfl ?_; intro g)
          | (refine rs_idst ?_; first | refine rs_storeX 0 rfl rfl rfl rfl rfl rfl ?_ | refine rs_storeX 1 rfl rfl rfl rfl rfl rfl ?_ | refine rs_storeX 2 rfl rfl rfl rfl rfl rfl ?_ | refine rs_storeX 3 rfl rfl rfl rfl rfl rfl ?_ | refine rs_storeX 4 rfl rfl rfl rfl rfl rfl ?_ | refine rs_storeX 5 rfl rfl rfl rfl rfl rfl ?_ | refine rs_storeAX 0 rfl rfl rfl rfl rfl rfl rfl rfl rfl ?_ | refine rs_storeAX 1 rfl rfl rfl rfl rfl rfl rfl rfl rfl ?_ | refine rs_storeAX 2 rfl rfl rfl rfl rfl rfl rfl rfl rfl ?_ | refine rs_storeAX 3 rfl rfl rfl rfl rfl rfl rfl rfl rfl ?_ | refine rs_storeAX 4 rfl rfl rfl rfl rfl rfl rfl rfl rfl ?_ | refine rs_storeAX 5 rfl rfl rfl rfl rfl rfl rfl rfl rfl ?_ | refine rs_storeAS 0 rfl rfl rfl rfl rfl rfl ?_ | refine rs_storeAS 1 rfl rfl rfl rfl rfl rfl ?_ | refine rs_storeAS 2 rfl rfl rfl rfl rfl rfl ?_ | refine rs_storeAS 3 rfl rfl rfl rfl rfl rfl ?_)
    exact done_ret1 rfl () (by rw [idxOf_none (fun i hi => hall i (by omega))]; rfl) trivial (List.nil_sublist _)
end Go.Ab
