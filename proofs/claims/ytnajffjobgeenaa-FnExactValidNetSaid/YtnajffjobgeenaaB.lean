/- Copies of lists of 32-bit floats, and that a list is the same as itself. No conditions. -/
import Derived.Test.YtnajffjobgeenaaA
namespace Go.Ab
open Go.Proofs
attribute [local irreducible] WS RS Done OpJ Then InBlock Round Ret Env.sub FnH

theorem l02Finite_fn (L : List FV) (hL : L.length < 2 ^ 62) : Fn Try.prog 70 (fun w => [slF w L]) (.raw (.bool (L.all finB))) := by
  refine fn_intro Try.func70 rfl Try.ntmps70 (fun _ => Nat.le_of_ble_eq_true rfl) fun w0 => ?_
  repeat
    first
        | refine rs_op rfl (opj_move rfl) ?_
        | refine rs_op rfl (opj_assign rfl) ?_
        | (refine rs_idb ?_; first | refine rs_op rfl (opj_fbin rfl rfl rfl) ?_ | refine rs_op rfl (opj_add rfl rfl (by omega)) ?_ | refine rs_op rfl (opj_sub rfl rfl (by omega)) ?_ | refine rs_op rfl (opj_fcmp rfl rfl rfl) ?_ | refine rs_op rfl (opj_lss rfl rfl) ?_ | refine rs_op rfl (opj_leq rfl rfl) ?_ | refine rs_op rfl (opj_gtr rfl rfl) ?_ | refine rs_op rfl (opj_geq rfl rfl) ?_ | refine rs_op rfl (opj_ieq rfl rfl) ?_ | refine rs_op rfl (opj_ine rfl rfl) ?_ | refine rs_op rfl (opj_beq rfl rfl) ?_ | refine rs_op rfl (opj_bne rfl rfl) ?_)
        | (refine rs_idc ?_; first | refine rs_op rfl (opj_len_m rfl) ?_ | refine rs_op rfl (opj_len_raw rfl) ?_ | refine rs_op rfl (opj_real rfl) ?_ | refine rs_op rfl (opj_imag rfl) ?_ | refine rs_op rfl (opj_complex rfl rfl) ?_)
        | refine rs_op rfl (opj_load1 rfl rfl) ?_
        | refine rs_op rfl (opj_index_m rfl rfl (by omega) (by omega)) ?_
        | refine rs_op rfl (opj_index_own rfl rfl (by omega) (by omega)) ?_
        | refine rs_op rfl (opj_wide rfl) ?_
        | refine rs_op rfl (opj_iconv rfl) ?_
        | refine rs_op rfl (opj_extract rfl rfl) ?_
        | refine rs_op rfl (opj_pick_t rfl rfl) ?_
        | refine rs_op rfl (opj_pick_f rfl rfl) ?_
        | refine rs_op rfl (opj_not rfl) ?_
        | refine rs_nil ?_
        | (refine done_id ?_; first | refine done_normal_then ?_ | refine done_ret_then ?_ | refine done_exit_then ?_ | refine done_normal_block ?_ | refine done_ret_block ?_ | refine done_exit_here ?_ | refine done_exit_on rfl ?_ | refine done_ret_round ?_ | refine done_exit_round ?_)
        | (refine ws_id ?_; first | refine ws_seq ?_ | refine ws_region ?_ | refine ws_block ?_ | refine ws_skip ?_ | refine ws_ret ?_ | refine ws_exit ?_ | refine ws_cond_t rfl ?_ | refine ws_cond_f rfl ?_)
        | refine rs_gy rfl rfl ?_
        | refine rs_no rfl rfl rfl rfl ?_
  refine ws_loop (ι := Nat) (fun k => [(0, slF w0 L), (3, .raw (.int .i64 k))]) (fun _ => St w0 [] []) (fun k => k ≤ L.length ∧ ∀ i, i < k → finB (L.getD i default) = true) (fun k => L.length - k) 0 ⟨Nat.zero_le _, fun i hi => by omega⟩ ?_ (fun _ h => h) (fun k hk => ?_)
  · (repeat (first | exact Env.sub_nil _ | refine Env.sub_cons rfl ?_))
  · obtain ⟨hk, hall⟩ := hk
    repeat
      first
          | refine rs_op rfl (opj_move rfl) ?_
          | refine rs_op rfl (opj_assign rfl) ?_
          | (refine rs_idb ?_; first | refine rs_op rfl (opj_fbin rfl rfl rfl) ?_ | refine rs_op rfl (opj_add rfl rfl (by omega)) ?_ | refine rs_op rfl (opj_sub rfl rfl (by omega)) ?_ | refine rs_op rfl (opj_fcmp rfl rfl rfl) ?_ | refine rs_op rfl (opj_lss rfl rfl) ?_ | refine rs_op rfl (opj_leq rfl rfl) ?_ | refine rs_op rfl (opj_gtr rfl rfl) ?_ | refine rs_op rfl (opj_geq rfl rfl) ?_ | refine rs_op rfl (opj_ieq rfl rfl) ?_ | refine rs_op rfl (opj_ine rfl rfl) ?_ | refine rs_op rfl (opj_beq rfl rfl) ?_ | refine rs_op rfl (opj_bne rfl rfl) ?_)
          | (refine rs_idc ?_; first | refine rs_op rfl (opj_len_m rfl) ?_ | refine rs_op rfl (opj_len_raw rfl) ?_ | refine rs_op rfl (opj_real rfl) ?_ | refine rs_op rfl (opj_imag rfl) ?_ | refine rs_op rfl (opj_complex rfl rfl) ?_)
          | refine rs_op rfl (opj_load1 rfl rfl) ?_
          | refine rs_op rfl (opj_index_m rfl rfl (by omega) (by omega)) ?_
          | refine rs_op rfl (opj_index_own rfl rfl (by omega) (by omega)) ?_
          | refine rs_op rfl (opj_wide rfl) ?_
          | refine rs_op rfl (opj_iconv rfl) ?_
          | refine rs_op rfl (opj_extract rfl rfl) ?_
          | refine rs_op rfl (opj_pick_t rfl rfl) ?_
          | refine rs_op rfl (opj_pick_f rfl rfl) ?_
          | refine rs_op rfl (opj_not rfl) ?_
          | refine rs_nil ?_
          | (refine done_id ?_; first | refine done_normal_then ?_ | refine done_ret_then ?_ | refine done_exit_then ?_ | refine done_normal_block ?_ | refine done_ret_block ?_ | refine done_exit_here ?_ | refine done_exit_on rfl ?_ | refine done_ret_round ?_ | refine done_exit_round ?_)
          | (refine ws_id ?_; first | refine ws_seq ?_ | refine ws_region ?_ | refine ws_block ?_ | refine ws_skip ?_ | refine ws_ret ?_ | refine ws_exit ?_ | refine ws_cond_t rfl ?_ | refine ws_cond_f rfl ?_)
          | refine rs_gy rfl rfl ?_
          | refine rs_no rfl rfl rfl rfl ?_
    refine ws_cond rfl (fun hc => ?_) (fun hc => ?_)
    · have hlt : (k : Int) < L.length := of_decide_eq_true hc
      repeat
        first
            | refine rs_op rfl (opj_move rfl) ?_
            | refine rs_op rfl (opj_assign rfl) ?_
            | (refine rs_idb ?_; first | refine rs_op rfl (opj_fbin rfl rfl rfl) ?_ | refine rs_op rfl (opj_add rfl rfl (by omega)) ?_ | refine rs_op rfl (opj_sub rfl rfl (by omega)) ?_ | refine rs_op rfl (opj_fcmp rfl rfl rfl) ?_ | refine rs_op rfl (opj_lss rfl rfl) ?_ | refine rs_op rfl (opj_leq rfl rfl) ?_ | refine rs_op rfl (opj_gtr rfl rfl) ?_ | refine rs_op rfl (opj_geq rfl rfl) ?_ | refine rs_op rfl (opj_ieq rfl rfl) ?_ | refine rs_op rfl (opj_ine rfl rfl) ?_ | refine rs_op rfl (opj_beq rfl rfl) ?_ | refine rs_op rfl (opj_bne rfl rfl) ?_)
            | (refine rs_idc ?_; first | refine rs_op rfl (opj_len_m rfl) ?_ | refine rs_op rfl (opj_len_raw rfl) ?_ | refine rs_op rfl (opj_real rfl) ?_ | refine rs_op rfl (opj_imag rfl) ?_ | refine rs_op rfl (opj_complex rfl rfl) ?_ | refine rs_op rfl (opj_call rfl rfl (l01Finite_fn _) (by (repeat (first | exact Takes.nil | refine Takes.sl ?_ | refine Takes.own (by (repeat (first | exact List.Mem.head _ | refine List.Mem.tail _ ?_)); done) (by simp) (by omega) (by simp only [maxLen]; omega) ?_ | refine Takes.same ?_)); done)) ?_)
            | refine rs_op rfl (opj_load1 rfl rfl) ?_
            | refine rs_op rfl (opj_index_m rfl rfl (by omega) (by omega)) ?_
            | refine rs_op rfl (opj_index_own rfl rfl (by omega) (by omega)) ?_
            | refine rs_op rfl (opj_wide rfl) ?_
            | refine rs_op rfl (opj_iconv rfl) ?_
            | refine rs_op rfl (opj_extract rfl rfl) ?_
            | refine rs_op rfl (opj_pick_t rfl rfl) ?_
            | refine rs_op rfl (opj_pick_f rfl rfl) ?_
            | refine rs_op rfl (opj_not rfl) ?_
            | refine rs_nil ?_
            | (refine done_id ?_; first | refine done_normal_then ?_ | refine done_ret_then ?_ | refine done_exit_then ?_ | refine done_normal_block ?_ | refine done_ret_block ?_ | refine done_exit_here ?_ | refine done_exit_on rfl ?_ | refine done_ret_round ?_ | refine done_exit_round ?_)
            | (refine ws_id ?_; first | refine ws_seq ?_ | refine ws_region ?_ | refine ws_block ?_ | refine ws_skip ?_ | refine ws_ret ?_ | refine ws_exit ?_ | refine ws_cond_t rfl ?_ | refine ws_cond_f rfl ?_)
            | refine rs_gy rfl rfl ?_
            | refine rs_no rfl rfl rfl rfl ?_
      have hkl : k < L.length := by omega
      have hg : L.getD k default = L[k] := by simp [List.getD, hkl]
      refine ws_cond rfl (fun hd => ?_) (fun hd => ?_)
      · repeat
          first
              | refine rs_op rfl (opj_move rfl) ?_
              | refine rs_op rfl (opj_assign rfl) ?_
              | (refine rs_idb ?_; first | refine rs_op rfl (opj_fbin rfl rfl rfl) ?_ | refine rs_op rfl (opj_add rfl rfl (by omega)) ?_ | refine rs_op rfl (opj_sub rfl rfl (by omega)) ?_ | refine rs_op rfl (opj_fcmp rfl rfl rfl) ?_ | refine rs_op rfl (opj_lss rfl rfl) ?_ | refine rs_op rfl (opj_leq rfl rfl) ?_ | refine rs_op rfl (opj_gtr rfl rfl) ?_ | refine rs_op rfl (opj_geq rfl rfl) ?_ | refine rs_op rfl (opj_ieq rfl rfl) ?_ | refine rs_op rfl (opj_ine rfl rfl) ?_ | refine rs_op rfl (opj_beq rfl rfl) ?_ | refine rs_op rfl (opj_bne rfl rfl) ?_)
              | (refine rs_idc ?_; first | refine rs_op rfl (opj_len_m rfl) ?_ | refine rs_op rfl (opj_len_raw rfl) ?_ | refine rs_op rfl (opj_real rfl) ?_ | refine rs_op rfl (opj_imag rfl) ?_ | refine rs_op rfl (opj_complex rfl rfl) ?_)
              | refine rs_op rfl (opj_load1 rfl rfl) ?_
              | refine rs_op rfl (opj_index_m rfl rfl (by omega) (by omega)) ?_
              | refine rs_op rfl (opj_index_own rfl rfl (by omega) (by omega)) ?_
              | refine rs_op rfl (opj_wide rfl) ?_
              | refine rs_op rfl (opj_iconv rfl) ?_
              | refine rs_op rfl (opj_extract rfl rfl) ?_
              | refine rs_op rfl (opj_pick_t rfl rfl) ?_
              | refine rs_op rfl (opj_pick_f rfl rfl) ?_
              | refine rs_op rfl (opj_not rfl) ?_
              | refine rs_nil ?_
              | (refine done_id ?_; first | refine done_normal_then ?_ | refine done_ret_then ?_ | refine done_exit_then ?_ | refine done_normal_block ?_ | refine done_ret_block ?_ | refine done_exit_here ?_ | refine done_exit_on rfl ?_ | refine done_ret_round ?_ | refine done_exit_round ?_)
              | (refine ws_id ?_; first | refine ws_seq ?_ | refine ws_region ?_ | refine ws_block ?_ | refine ws_skip ?_ | refine ws_ret ?_ | refine ws_exit ?_ | refine ws_cond_t rfl ?_ | refine ws_cond_f rfl ?_)
              | refine rs_gy rfl rfl ?_
              | refine rs_no rfl rfl rfl rfl ?_
        refine done_ret1B rfl () rfl rfl ?_ trivial (List.nil_sublist _)
        symm
        rw [List.all_eq_false]
        refine ⟨L[k], List.getElem_mem hkl, ?_⟩
        rw [← hg]; simpa using hd
      · repeat
          first
              | refine rs_op rfl (opj_move rfl) ?_
              | refine rs_op rfl (opj_assign rfl) ?_
              | (refine rs_idb ?_; first | refine rs_op rfl (opj_fbin rfl rfl rfl) ?_ | refine rs_op rfl (opj_add rfl rfl (by omega)) ?_ | refine rs_op rfl (opj_sub rfl rfl (by omega)) ?_ | refine rs_op rfl (opj_fcmp rfl rfl rfl) ?_ | refine rs_op rfl (opj_lss rfl rfl) ?_ | refine rs_op rfl (opj_leq rfl rfl) ?_ | refine rs_op rfl (opj_gtr rfl rfl) ?_ | refine rs_op rfl (opj_geq rfl rfl) ?_ | refine rs_op rfl (opj_ieq rfl rfl) ?_ | refine rs_op rfl (opj_ine rfl rfl) ?_ | refine rs_op rfl (opj_beq rfl rfl) ?_ | refine rs_op rfl (opj_bne rfl rfl) ?_)
              | (refine rs_idc ?_; first | refine rs_op rfl (opj_len_m rfl) ?_ | refine rs_op rfl (opj_len_raw rfl) ?_ | refine rs_op rfl (opj_real rfl) ?_ | refine rs_op rfl (opj_imag rfl) ?_ | refine rs_op rfl (opj_complex rfl rfl) ?_)
              | refine rs_op rfl (opj_load1 rfl rfl) ?_
              | refine rs_op rfl (opj_index_m rfl rfl (by omega) (by omega)) ?_
              | refine rs_op rfl (opj_index_own rfl rfl (by omega) (by omega)) ?_
              | refine rs_op rfl (opj_wide rfl) ?_
              | refine rs_op rfl (opj_iconv rfl) ?_
              | refine rs_op rfl (opj_extract rfl rfl) ?_
              | refine rs_op rfl (opj_pick_t rfl rfl) ?_
              | refine rs_op rfl (opj_pick_f rfl rfl) ?_
              | refine rs_op rfl (opj_not rfl) ?_
              | refine rs_nil ?_
              | (refine done_id ?_; first | refine done_normal_then ?_ | refine done_ret_then ?_ | refine done_exit_then ?_ | refine done_normal_block ?_ | refine done_ret_block ?_ | refine done_exit_here ?_ | refine done_exit_on rfl ?_ | refine done_ret_round ?_ | refine done_exit_round ?_)
              | (refine ws_id ?_; first | refine ws_seq ?_ | refine ws_region ?_ | refine ws_block ?_ | refine ws_skip ?_ | refine ws_ret ?_ | refine ws_exit ?_ | refine ws_cond_t rfl ?_ | refine ws_cond_f rfl ?_)
              | refine rs_gy rfl rfl ?_
              | refine rs_no rfl rfl rfl rfl ?_
        refine done_round (k + 1) ⟨by omega, fun i hi => ?_⟩ (by omega) ?_ (fun _ h => h)
        · rcases Nat.lt_or_ge i k with h | h
          · exact hall i h
          · obtain rfl : i = k := by omega
            simpa using hd
        · (repeat (first | exact Env.sub_nil _ | refine Env.sub_cons rfl ?_))
    · have hge : ¬ (k : Int) < L.length := of_decide_eq_false hc
      repeat
        first
            | refine rs_op rfl (opj_move rfl) ?_
            | refine rs_op rfl (opj_assign rfl) ?_
            | (refine rs_idb ?_; first | refine rs_op rfl (opj_fbin rfl rfl rfl) ?_ | refine rs_op rfl (opj_add rfl rfl (by omega)) ?_ | refine rs_op rfl (opj_sub rfl rfl (by omega)) ?_ | refine rs_op rfl (opj_fcmp rfl rfl rfl) ?_ | refine rs_op rfl (opj_lss rfl rfl) ?_ | refine rs_op rfl (opj_leq rfl rfl) ?_ | refine rs_op rfl (opj_gtr rfl rfl) ?_ | refine rs_op rfl (opj_geq rfl rfl) ?_ | refine rs_op rfl (opj_ieq rfl rfl) ?_ | refine rs_op rfl (opj_ine rfl rfl) ?_ | refine rs_op rfl (opj_beq rfl rfl) ?_ | refine rs_op rfl (opj_bne rfl rfl) ?_)
            | (refine rs_idc ?_; first | refine rs_op rfl (opj_len_m rfl) ?_ | refine rs_op rfl (opj_len_raw rfl) ?_ | refine rs_op rfl (opj_real rfl) ?_ | refine rs_op rfl (opj_imag rfl) ?_ | refine rs_op rfl (opj_complex rfl rfl) ?_)
            | refine rs_op rfl (opj_load1 rfl rfl) ?_
            | refine rs_op rfl (opj_index_m rfl rfl (by omega) (by omega)) ?_
            | refine rs_op rfl (opj_index_own rfl rfl (by omega) (by omega)) ?_
            | refine rs_op rfl (opj_wide rfl) ?_
            | refine rs_op rfl (opj_iconv rfl) ?_
            | refine rs_op rfl (opj_extract rfl rfl) ?_
            | refine rs_op rfl (opj_pick_t rfl rfl) ?_
            | refine rs_op rfl (opj_pick_f rfl rfl) ?_
            | refine rs_op rfl (opj_not rfl) ?_
            | refine rs_nil ?_
            | (refine done_id ?_; first | refine done_normal_then ?_ | refine done_ret_then ?_ | refine done_exit_then ?_ | refine done_normal_block ?_ | refine done_ret_block ?_ | refine done_exit_here ?_ | refine done_exit_on rfl ?_ | refine done_ret_round ?_ | refine done_exit_round ?_)
            | (refine ws_id ?_; first | refine ws_seq ?_ | refine ws_region ?_ | refine ws_block ?_ | refine ws_skip ?_ | refine ws_ret ?_ | refine ws_exit ?_ | refine ws_cond_t rfl ?_ | refine ws_cond_f rfl ?_)
            | refine rs_gy rfl rfl ?_
            | refine rs_no rfl rfl rfl rfl ?_
      refine done_ret1B rfl () rfl rfl ?_ trivial (List.nil_sublist _)
      symm
      rw [List.all_eq_true]
      intro x hx
      obtain ⟨i, hi, rfl⟩ := List.mem_iff_getElem.1 hx
      have := hall i (by omega)
      simpa [List.getD, hi] using this

theorem sameFloat_self (x : FV) : Fn Try.prog 26 (fun _ => [.f .f64 x, .f .f64 x]) (.raw (.bool true)) := by
  refine fn_intro Try.func26 rfl Try.ntmps26 (fun _ => Nat.le_of_ble_eq_true rfl) fun w0 => ?_
  repeat'
    first
        | refine rs_op rfl (opj_move rfl) ?_
        | refine rs_op rfl (opj_assign rfl) ?_
        | (refine rs_idb ?_; first | refine rs_op rfl (opj_fbin rfl rfl rfl) ?_ | refine rs_op rfl (opj_add rfl rfl (by omega)) ?_ | refine rs_op rfl (opj_sub rfl rfl (by omega)) ?_ | (refine rs_opB rfl (opj_fcmp rfl rfl rfl) ?_; intro c hc) | (refine rs_opB rfl (opj_lss rfl rfl) ?_; intro c hc) | (refine rs_opB rfl (opj_leq rfl rfl) ?_; intro c hc) | (refine rs_opB rfl (opj_gtr rfl rfl) ?_; intro c hc) | (refine rs_opB rfl (opj_geq rfl rfl) ?_; intro c hc) | (refine rs_opB rfl (opj_ieq rfl rfl) ?_; intro c hc) | (refine rs_opB rfl (opj_ine rfl rfl) ?_; intro c hc) | (refine rs_opB rfl (opj_beq rfl rfl) ?_; intro c hc) | (refine rs_opB rfl (opj_bne rfl rfl) ?_; intro c hc))
        | (refine rs_idc ?_; first | refine rs_op rfl (opj_len_m rfl) ?_ | refine rs_op rfl (opj_len_raw rfl) ?_ | refine rs_op rfl (opj_real rfl) ?_ | refine rs_op rfl (opj_imag rfl) ?_ | refine rs_op rfl (opj_complex rfl rfl) ?_)
        | refine rs_op rfl (opj_load1 rfl rfl) ?_
        | refine rs_op rfl (opj_index_m rfl rfl (by omega) (by omega)) ?_
        | refine rs_op rfl (opj_index_own rfl rfl (by omega) (by omega)) ?_
        | refine rs_op rfl (opj_wide rfl) ?_
        | refine rs_op rfl (opj_iconv rfl) ?_
        | refine rs_op rfl (opj_extract rfl rfl) ?_
        | refine rs_op rfl (opj_pick_t rfl rfl) ?_
        | refine rs_op rfl (opj_pick_f rfl rfl) ?_
        | refine rs_op rfl (opj_not rfl) ?_
        | refine rs_nil ?_
        | (refine done_id ?_; first | refine done_normal_then ?_ | refine done_ret_then ?_ | refine done_exit_then ?_ | refine done_normal_block ?_ | refine done_ret_block ?_ | refine done_exit_here ?_ | refine done_exit_on rfl ?_ | refine done_ret_round ?_ | refine done_exit_round ?_)
        | (refine ws_id ?_; first | refine ws_seq ?_ | refine ws_region ?_ | refine ws_block ?_ | refine ws_skip ?_ | refine ws_ret ?_ | refine ws_exit ?_ | refine ws_cond_t rfl ?_ | refine ws_cond_f rfl ?_)
        | refine rs_gy rfl rfl ?_
        | refine rs_no rfl rfl rfl rfl ?_
        | cases c
  all_goals
    refine done_ret1B rfl () rfl rfl ?_ trivial (List.nil_sublist _)
    have hn : cmpB .neq (fcmp .f64 x x) = !(cmpB .eql (fcmp .f64 x x)) := rfl
    try simp only [hn] at *
    all_goals
      clear hn
      generalize cmpB .eql (fcmp .f64 x x) = E at *
      generalize cmpB .eql (fcmp .f64 x (fv .f64 0)) = Z at *
      generalize cmpB .gtr (fcmp .f64 (fbin .quo .f64 (fv .f64 4607182418800017408) x) (fv .f64 0)) = G at *
      cases E <;> cases Z <;> cases G <;> first | rfl | contradiction

/-- A float slice is as itself. -/
theorem eqFloat_self (L : List FV) (hL : L.length < 2 ^ 62) : Fn Try.prog 21 (fun w => [slF w L, slF w L]) (.raw (.bool true)) := by
  refine fn_intro Try.func21 rfl Try.ntmps21 (fun _ => Nat.le_of_ble_eq_true rfl) fun w0 => ?_
  repeat
    first
        | refine rs_op rfl (opj_move rfl) ?_
        | refine rs_op rfl (opj_assign rfl) ?_
        | (refine rs_idb ?_; first | refine rs_op rfl (opj_fbin rfl rfl rfl) ?_ | refine rs_op rfl (opj_add rfl rfl (by omega)) ?_ | refine rs_op rfl (opj_sub rfl rfl (by omega)) ?_ | refine rs_op rfl (opj_fcmp rfl rfl rfl) ?_ | refine rs_op rfl (opj_lss rfl rfl) ?_ | refine rs_op rfl (opj_leq rfl rfl) ?_ | refine rs_op rfl (opj_gtr rfl rfl) ?_ | refine rs_op rfl (opj_geq rfl rfl) ?_ | refine rs_op rfl (opj_ieq rfl rfl) ?_ | refine rs_op rfl (opj_ine rfl rfl) ?_ | refine rs_op rfl (opj_beq rfl rfl) ?_ | refine rs_op rfl (opj_bne rfl rfl) ?_)
        | (refine rs_idc ?_; first | refine rs_op rfl (opj_len_m rfl) ?_ | refine rs_op rfl (opj_len_raw rfl) ?_ | refine rs_op rfl (opj_real rfl) ?_ | refine rs_op rfl (opj_imag rfl) ?_ | refine rs_op rfl (opj_complex rfl rfl) ?_)
        | refine rs_op rfl (opj_load1 rfl rfl) ?_
        | refine rs_op rfl (opj_index_m rfl rfl (by omega) (by omega)) ?_
        | refine rs_op rfl (opj_index_own rfl rfl (by omega) (by omega)) ?_
        | refine rs_op rfl (opj_wide rfl) ?_
        | refine rs_op rfl (opj_iconv rfl) ?_
        | refine rs_op rfl (opj_extract rfl rfl) ?_
        | refine rs_op rfl (opj_pick_t rfl rfl) ?_
        | refine rs_op rfl (opj_pick_f rfl rfl) ?_
        | refine rs_op rfl (opj_not rfl) ?_
        | refine rs_nil ?_
        | (refine done_id ?_; first | refine done_normal_then ?_ | refine done_ret_then ?_ | refine done_exit_then ?_ | refine done_normal_block ?_ | refine done_ret_block ?_ | refine done_exit_here ?_ | refine done_exit_on rfl ?_ | refine done_ret_round ?_ | refine done_exit_round ?_)
        | (refine ws_id ?_; first | refine ws_seq ?_ | refine ws_region ?_ | refine ws_block ?_ | refine ws_skip ?_ | refine ws_ret ?_ | refine ws_exit ?_ | refine ws_cond_t rfl ?_ | refine ws_cond_f rfl ?_)
        | refine rs_gy rfl rfl ?_
        | refine rs_no rfl rfl rfl rfl ?_
  refine ws_cond rfl (fun hc => ?_) (fun hc => ?_)
  · simp at hc
  repeat
    first
        | refine rs_op rfl (opj_move rfl) ?_
        | refine rs_op rfl (opj_assign rfl) ?_
        | (refine rs_idb ?_; first | refine rs_op rfl (opj_fbin rfl rfl rfl) ?_ | refine rs_op rfl (opj_add rfl rfl (by omega)) ?_ | refine rs_op rfl (opj_sub rfl rfl (by omega)) ?_ | refine rs_op rfl (opj_fcmp rfl rfl rfl) ?_ | refine rs_op rfl (opj_lss rfl rfl) ?_ | refine rs_op rfl (opj_leq rfl rfl) ?_ | refine rs_op rfl (opj_gtr rfl rfl) ?_ | refine rs_op rfl (opj_geq rfl rfl) ?_ | refine rs_op rfl (opj_ieq rfl rfl) ?_ | refine rs_op rfl (opj_ine rfl rfl) ?_ | refine rs_op rfl (opj_beq rfl rfl) ?_ | refine rs_op rfl (opj_bne rfl rfl) ?_)
        | (refine rs_idc ?_; first | refine rs_op rfl (opj_len_m rfl) ?_ | refine rs_op rfl (opj_len_raw rfl) ?_ | refine rs_op rfl (opj_real rfl) ?_ | refine rs_op rfl (opj_imag rfl) ?_ | refine rs_op rfl (opj_complex rfl rfl) ?_)
        | refine rs_op rfl (opj_load1 rfl rfl) ?_
        | refine rs_op rfl (opj_index_m rfl rfl (by omega) (by omega)) ?_
        | refine rs_op rfl (opj_index_own rfl rfl (by omega) (by omega)) ?_
        | refine rs_op rfl (opj_wide rfl) ?_
        | refine rs_op rfl (opj_iconv rfl) ?_
        | refine rs_op rfl (opj_extract rfl rfl) ?_
        | refine rs_op rfl (opj_pick_t rfl rfl) ?_
        | refine rs_op rfl (opj_pick_f rfl rfl) ?_
        | refine rs_op rfl (opj_not rfl) ?_
        | refine rs_nil ?_
        | (refine done_id ?_; first | refine done_normal_then ?_ | refine done_ret_then ?_ | refine done_exit_then ?_ | refine done_normal_block ?_ | refine done_ret_block ?_ | refine done_exit_here ?_ | refine done_exit_on rfl ?_ | refine done_ret_round ?_ | refine done_exit_round ?_)
        | (refine ws_id ?_; first | refine ws_seq ?_ | refine ws_region ?_ | refine ws_block ?_ | refine ws_skip ?_ | refine ws_ret ?_ | refine ws_exit ?_ | refine ws_cond_t rfl ?_ | refine ws_cond_f rfl ?_)
        | refine rs_gy rfl rfl ?_
        | refine rs_no rfl rfl rfl rfl ?_
  refine ws_loop (ι := Nat) (fun k => [(0, slF w0 L), (1, slF w0 L), (5, .raw (.int .i64 k))]) (fun _ => St w0 [] []) (fun k => k ≤ L.length) (fun k => L.length - k) 0 (Nat.zero_le _) ?_ (fun _ h => h) (fun k hk => ?_)
  · (repeat (first | exact Env.sub_nil _ | refine Env.sub_cons rfl ?_))
  · repeat
      first
          | refine rs_op rfl (opj_move rfl) ?_
          | refine rs_op rfl (opj_assign rfl) ?_
          | (refine rs_idb ?_; first | refine rs_op rfl (opj_fbin rfl rfl rfl) ?_ | refine rs_op rfl (opj_add rfl rfl (by omega)) ?_ | refine rs_op rfl (opj_sub rfl rfl (by omega)) ?_ | refine rs_op rfl (opj_fcmp rfl rfl rfl) ?_ | refine rs_op rfl (opj_lss rfl rfl) ?_ | refine rs_op rfl (opj_leq rfl rfl) ?_ | refine rs_op rfl (opj_gtr rfl rfl) ?_ | refine rs_op rfl (opj_geq rfl rfl) ?_ | refine rs_op rfl (opj_ieq rfl rfl) ?_ | refine rs_op rfl (opj_ine rfl rfl) ?_ | refine rs_op rfl (opj_beq rfl rfl) ?_ | refine rs_op rfl (opj_bne rfl rfl) ?_)
          | (refine rs_idc ?_; first | refine rs_op rfl (opj_len_m rfl) ?_ | refine rs_op rfl (opj_len_raw rfl) ?_ | refine rs_op rfl (opj_real rfl) ?_ | refine rs_op rfl (opj_imag rfl) ?_ | refine rs_op rfl (opj_complex rfl rfl) ?_)
          | refine rs_op rfl (opj_load1 rfl rfl) ?_
          | refine rs_op rfl (opj_index_m rfl rfl (by omega) (by omega)) ?_
          | refine rs_op rfl (opj_index_own rfl rfl (by omega) (by omega)) ?_
          | refine rs_op rfl (opj_wide rfl) ?_
          | refine rs_op rfl (opj_iconv rfl) ?_
          | refine rs_op rfl (opj_extract rfl rfl) ?_
          | refine rs_op rfl (opj_pick_t rfl rfl) ?_
          | refine rs_op rfl (opj_pick_f rfl rfl) ?_
          | refine rs_op rfl (opj_not rfl) ?_
          | refine rs_nil ?_
          | (refine done_id ?_; first | refine done_normal_then ?_ | refine done_ret_then ?_ | refine done_exit_then ?_ | refine done_normal_block ?_ | refine done_ret_block ?_ | refine done_exit_here ?_ | refine done_exit_on rfl ?_ | refine done_ret_round ?_ | refine done_exit_round ?_)
          | (refine ws_id ?_; first | refine ws_seq ?_ | refine ws_region ?_ | refine ws_block ?_ | refine ws_skip ?_ | refine ws_ret ?_ | refine ws_exit ?_ | refine ws_cond_t rfl ?_ | refine ws_cond_f rfl ?_)
          | refine rs_gy rfl rfl ?_
          | refine rs_no rfl rfl rfl rfl ?_
    refine ws_cond rfl (fun hc => ?_) (fun hc => ?_)
    · have hlt : (k : Int) < L.length := of_decide_eq_true hc
      repeat
        first
            | refine rs_op rfl (opj_move rfl) ?_
            | refine rs_op rfl (opj_assign rfl) ?_
            | (refine rs_idb ?_; first | refine rs_op rfl (opj_fbin rfl rfl rfl) ?_ | refine rs_op rfl (opj_add rfl rfl (by omega)) ?_ | refine rs_op rfl (opj_sub rfl rfl (by omega)) ?_ | refine rs_op rfl (opj_fcmp rfl rfl rfl) ?_ | refine rs_op rfl (opj_lss rfl rfl) ?_ | refine rs_op rfl (opj_leq rfl rfl) ?_ | refine rs_op rfl (opj_gtr rfl rfl) ?_ | refine rs_op rfl (opj_geq rfl rfl) ?_ | refine rs_op rfl (opj_ieq rfl rfl) ?_ | refine rs_op rfl (opj_ine rfl rfl) ?_ | refine rs_op rfl (opj_beq rfl rfl) ?_ | refine rs_op rfl (opj_bne rfl rfl) ?_)
            | (refine rs_idc ?_; first | refine rs_op rfl (opj_len_m rfl) ?_ | refine rs_op rfl (opj_len_raw rfl) ?_ | refine rs_op rfl (opj_real rfl) ?_ | refine rs_op rfl (opj_imag rfl) ?_ | refine rs_op rfl (opj_complex rfl rfl) ?_)
            | refine rs_op rfl (opj_load1 rfl rfl) ?_
            | refine rs_op rfl (opj_index_m rfl rfl (by omega) (by omega)) ?_
            | refine rs_op rfl (opj_index_own rfl rfl (by omega) (by omega)) ?_
            | refine rs_op rfl (opj_wide rfl) ?_
            | refine rs_op rfl (opj_iconv rfl) ?_
            | refine rs_op rfl (opj_extract rfl rfl) ?_
            | refine rs_op rfl (opj_pick_t rfl rfl) ?_
            | refine rs_op rfl (opj_pick_f rfl rfl) ?_
            | refine rs_op rfl (opj_not rfl) ?_
            | refine rs_nil ?_
            | (refine done_id ?_; first | refine done_normal_then ?_ | refine done_ret_then ?_ | refine done_exit_then ?_ | refine done_normal_block ?_ | refine done_ret_block ?_ | refine done_exit_here ?_ | refine done_exit_on rfl ?_ | refine done_ret_round ?_ | refine done_exit_round ?_)
            | (refine ws_id ?_; first | refine ws_seq ?_ | refine ws_region ?_ | refine ws_block ?_ | refine ws_skip ?_ | refine ws_ret ?_ | refine ws_exit ?_ | refine ws_cond_t rfl ?_ | refine ws_cond_f rfl ?_)
            | refine rs_gy rfl rfl ?_
            | refine rs_no rfl rfl rfl rfl ?_
      refine ws_draw (n := 12) mixed (by decide +kernel) ?_
      repeat
        first
            | refine r1_op rfl (opj_move rfl) ?_
            | refine r1_op rfl (opj_assign rfl) ?_
            | (refine r1_idb ?_; first | refine r1_op rfl (opj_fbin rfl rfl rfl) ?_ | refine r1_op rfl (opj_add rfl rfl (by omega)) ?_ | refine r1_op rfl (opj_sub rfl rfl (by omega)) ?_ | refine r1_op rfl (opj_fcmp rfl rfl rfl) ?_ | refine r1_op rfl (opj_lss rfl rfl) ?_ | refine r1_op rfl (opj_leq rfl rfl) ?_ | refine r1_op rfl (opj_gtr rfl rfl) ?_ | refine r1_op rfl (opj_geq rfl rfl) ?_ | refine r1_op rfl (opj_ieq rfl rfl) ?_ | refine r1_op rfl (opj_ine rfl rfl) ?_ | refine r1_op rfl (opj_beq rfl rfl) ?_ | refine r1_op rfl (opj_bne rfl rfl) ?_)
            | (refine r1_idc ?_; first | refine r1_op rfl (opj_len_m rfl) ?_ | refine r1_op rfl (opj_len_raw rfl) ?_ | refine r1_op rfl (opj_real rfl) ?_ | refine r1_op rfl (opj_imag rfl) ?_ | refine r1_op rfl (opj_complex rfl rfl) ?_ | refine r1_op rfl (opj_call rfl rfl (sameFloat_self _) (by (repeat (first | exact Takes.nil | refine Takes.sl ?_ | refine Takes.own (by (repeat (first | exact List.Mem.head _ | refine List.Mem.tail _ ?_)); done) (by simp) (by omega) (by simp only [maxLen]; omega) ?_ | refine Takes.same ?_)); done)) ?_)
            | refine r1_op rfl (opj_load1 rfl rfl) ?_
            | refine r1_op rfl (opj_index_m rfl rfl (by omega) (by omega)) ?_
            | refine r1_op rfl (opj_index_own rfl rfl (by omega) (by omega)) ?_
            | refine r1_op rfl (opj_wide rfl) ?_
            | refine r1_op rfl (opj_iconv rfl) ?_
            | refine r1_op rfl (opj_extract rfl rfl) ?_
            | refine r1_op rfl (opj_pick_t rfl rfl) ?_
            | refine r1_op rfl (opj_pick_f rfl rfl) ?_
            | refine r1_op rfl (opj_not rfl) ?_
            | refine r1_nil ?_
            | refine r1_gy rfl rfl ?_
            | refine r1_no rfl rfl rfl rfl ?_
      repeat
        first
            | refine rs_op rfl (opj_move rfl) ?_
            | refine rs_op rfl (opj_assign rfl) ?_
            | (refine rs_idb ?_; first | refine rs_op rfl (opj_fbin rfl rfl rfl) ?_ | refine rs_op rfl (opj_add rfl rfl (by omega)) ?_ | refine rs_op rfl (opj_sub rfl rfl (by omega)) ?_ | refine rs_op rfl (opj_fcmp rfl rfl rfl) ?_ | refine rs_op rfl (opj_lss rfl rfl) ?_ | refine rs_op rfl (opj_leq rfl rfl) ?_ | refine rs_op rfl (opj_gtr rfl rfl) ?_ | refine rs_op rfl (opj_geq rfl rfl) ?_ | refine rs_op rfl (opj_ieq rfl rfl) ?_ | refine rs_op rfl (opj_ine rfl rfl) ?_ | refine rs_op rfl (opj_beq rfl rfl) ?_ | refine rs_op rfl (opj_bne rfl rfl) ?_)
            | (refine rs_idc ?_; first | refine rs_op rfl (opj_len_m rfl) ?_ | refine rs_op rfl (opj_len_raw rfl) ?_ | refine rs_op rfl (opj_real rfl) ?_ | refine rs_op rfl (opj_imag rfl) ?_ | refine rs_op rfl (opj_complex rfl rfl) ?_)
            | refine rs_op rfl (opj_load1 rfl rfl) ?_
            | refine rs_op rfl (opj_index_m rfl rfl (by omega) (by omega)) ?_
            | refine rs_op rfl (opj_index_own rfl rfl (by omega) (by omega)) ?_
            | refine rs_op rfl (opj_wide rfl) ?_
            | refine rs_op rfl (opj_iconv rfl) ?_
            | refine rs_op rfl (opj_extract rfl rfl) ?_
            | refine rs_op rfl (opj_pick_t rfl rfl) ?_
            | refine rs_op rfl (opj_pick_f rfl rfl) ?_
            | refine rs_op rfl (opj_not rfl) ?_
            | refine rs_nil ?_
            | (refine done_id ?_; first | refine done_normal_then ?_ | refine done_ret_then ?_ | refine done_exit_then ?_ | refine done_normal_block ?_ | refine done_ret_block ?_ | refine done_exit_here ?_ | refine done_exit_on rfl ?_ | refine done_ret_round ?_ | refine done_exit_round ?_)
            | (refine ws_id ?_; first | refine ws_seq ?_ | refine ws_region ?_ | refine ws_block ?_ | refine ws_skip ?_ | refine ws_ret ?_ | refine ws_exit ?_ | refine ws_cond_t rfl ?_ | refine ws_cond_f rfl ?_)
            | refine rs_gy rfl rfl ?_
            | refine rs_no rfl rfl rfl rfl ?_
      refine done_round (k + 1) (by omega) (by omega) ?_ (fun _ h => h)
      (repeat (first | exact Env.sub_nil _ | refine Env.sub_cons rfl ?_))
    · repeat
        first
            | refine rs_op rfl (opj_move rfl) ?_
            | refine rs_op rfl (opj_assign rfl) ?_
            | (refine rs_idb ?_; first | refine rs_op rfl (opj_fbin rfl rfl rfl) ?_ | refine rs_op rfl (opj_add rfl rfl (by omega)) ?_ | refine rs_op rfl (opj_sub rfl rfl (by omega)) ?_ | refine rs_op rfl (opj_fcmp rfl rfl rfl) ?_ | refine rs_op rfl (opj_lss rfl rfl) ?_ | refine rs_op rfl (opj_leq rfl rfl) ?_ | refine rs_op rfl (opj_gtr rfl rfl) ?_ | refine rs_op rfl (opj_geq rfl rfl) ?_ | refine rs_op rfl (opj_ieq rfl rfl) ?_ | refine rs_op rfl (opj_ine rfl rfl) ?_ | refine rs_op rfl (opj_beq rfl rfl) ?_ | refine rs_op rfl (opj_bne rfl rfl) ?_)
            | (refine rs_idc ?_; first | refine rs_op rfl (opj_len_m rfl) ?_ | refine rs_op rfl (opj_len_raw rfl) ?_ | refine rs_op rfl (opj_real rfl) ?_ | refine rs_op rfl (opj_imag rfl) ?_ | refine rs_op rfl (opj_complex rfl rfl) ?_)
            | refine rs_op rfl (opj_load1 rfl rfl) ?_
            | refine rs_op rfl (opj_index_m rfl rfl (by omega) (by omega)) ?_
            | refine rs_op rfl (opj_index_own rfl rfl (by omega) (by omega)) ?_
            | refine rs_op rfl (opj_wide rfl) ?_
            | refine rs_op rfl (opj_iconv rfl) ?_
            | refine rs_op rfl (opj_extract rfl rfl) ?_
            | refine rs_op rfl (opj_pick_t rfl rfl) ?_
            | refine rs_op rfl (opj_pick_f rfl rfl) ?_
            | refine rs_op rfl (opj_not rfl) ?_
            | refine rs_nil ?_
            | (refine done_id ?_; first | refine done_normal_then ?_ | refine done_ret_then ?_ | refine done_exit_then ?_ | refine done_normal_block ?_ | refine done_ret_block ?_ | refine done_exit_here ?_ | refine done_exit_on rfl ?_ | refine done_ret_round ?_ | refine done_exit_round ?_)
            | (refine ws_id ?_; first | refine ws_seq ?_ | refine ws_region ?_ | refine ws_block ?_ | refine ws_skip ?_ | refine ws_ret ?_ | refine ws_exit ?_ | refine ws_cond_t rfl ?_ | refine ws_cond_f rfl ?_)
            | refine rs_gy rfl rfl ?_
            | refine rs_no rfl rfl rfl rfl ?_
      exact done_ret1 rfl () rfl trivial (List.nil_sublist _)

theorem copy_step {α : Type} [Inhabited α] (L : List α) (z : α) {k : Nat} (hk : k < L.length) :
    (L.take k ++ List.replicate (L.length - k) z).set ((k : Int).toNat * 1) (L.getD (k : Int).toNat default) = L.take (k + 1) ++ List.replicate (L.length - (k + 1)) z := by
  have hl : (L.take k).length = k := by simp; omega
  have hr : L.length - k = (L.length - (k + 1)) + 1 := by omega
  have e1 : (k : Int).toNat * 1 = k := by omega
  have e2 : (k : Int).toNat = k := by omega
  rw [e1, e2, hr, List.replicate_succ, List.set_append_right k _ (Nat.le_of_eq hl), hl, Nat.sub_self, List.set_cons_zero]
  have hg : L.getD k default = L[k] := by simp [List.getD, hk]
  rw [hg, List.take_succ_eq_append_getElem hk, List.append_assoc]
  rfl
theorem copy_end {α : Type} (L : List α) (z : α) : L.take L.length ++ List.replicate (L.length - L.length) z = L := by simp

/-- A copy. -/
theorem toFloat_fn (L : List FV) (hL : L.length < 2 ^ 46) : FnH (X := Nat) Try.prog 19 (fun w => [slF w L]) [] (fun g => .raw (.slice (some ⟨g, 0, none⟩) L.length L.length)) (fun g => [⟨g, 26, L.map (AV.f .f32), L.length⟩]) (fun _ => True) := by
  refine fn_intro Try.func19 rfl Try.ntmps19 (fun _ => Nat.le_of_ble_eq_true rfl) fun w0 => ?_
  repeat
    first
        | refine rs_op rfl (opj_move rfl) ?_
        | refine rs_op rfl (opj_assign rfl) ?_
        | (refine rs_idb ?_; first | refine rs_op rfl (opj_fbin rfl rfl rfl) ?_ | refine rs_op rfl (opj_add rfl rfl (by omega)) ?_ | refine rs_op rfl (opj_sub rfl rfl (by omega)) ?_ | refine rs_op rfl (opj_fcmp rfl rfl rfl) ?_ | refine rs_op rfl (opj_lss rfl rfl) ?_ | refine rs_op rfl (opj_leq rfl rfl) ?_ | refine rs_op rfl (opj_gtr rfl rfl) ?_ | refine rs_op rfl (opj_geq rfl rfl) ?_ | refine rs_op rfl (opj_ieq rfl rfl) ?_ | refine rs_op rfl (opj_ine rfl rfl) ?_ | refine rs_op rfl (opj_beq rfl rfl) ?_ | refine rs_op rfl (opj_bne rfl rfl) ?_)
        | (refine rs_idc ?_; first | refine rs_op rfl (opj_len_m rfl) ?_ | refine rs_op rfl (opj_len_raw rfl) ?_ | refine rs_op rfl (opj_real rfl) ?_ | refine rs_op rfl (opj_imag rfl) ?_ | refine rs_op rfl (opj_complex rfl rfl) ?_)
        | refine rs_op rfl (opj_load1 rfl rfl) ?_
        | refine rs_op rfl (opj_index_m rfl rfl (by omega) (by omega)) ?_
        | refine rs_op rfl (opj_index_own rfl rfl (by omega) (by omega)) ?_
        | refine rs_op rfl (opj_wide rfl) ?_
        | refine rs_op rfl (opj_iconv rfl) ?_
        | refine rs_op rfl (opj_extract rfl rfl) ?_
        | refine rs_op rfl (opj_pick_t rfl rfl) ?_
        | refine rs_op rfl (opj_pick_f rfl rfl) ?_
        | refine rs_op rfl (opj_not rfl) ?_
        | refine rs_nil ?_
        | (refine done_id ?_; first | refine done_normal_then ?_ | refine done_ret_then ?_ | refine done_exit_then ?_ | refine done_normal_block ?_ | refine done_ret_block ?_ | refine done_exit_here ?_ | refine done_exit_on rfl ?_ | refine done_ret_round ?_ | refine done_exit_round ?_)
        | (refine ws_id ?_; first | refine ws_seq ?_ | refine ws_region ?_ | refine ws_block ?_ | refine ws_skip ?_ | refine ws_ret ?_ | refine ws_exit ?_ | refine ws_cond_t rfl ?_ | refine ws_cond_f rfl ?_)
        | refine rs_gy rfl rfl ?_
        | refine rs_no rfl rfl rfl rfl ?_
  refine rs_make (m := AV.f .f32) (zx := fv .f32 0) rfl rfl rfl rfl rfl rfl (by omega) (by simp only [maxLen]; omega) fun g => ?_
  repeat
    first
        | refine rs_op rfl (opj_move rfl) ?_
        | refine rs_op rfl (opj_assign rfl) ?_
        | (refine rs_idb ?_; first | refine rs_op rfl (opj_fbin rfl rfl rfl) ?_ | refine rs_op rfl (opj_add rfl rfl (by omega)) ?_ | refine rs_op rfl (opj_sub rfl rfl (by omega)) ?_ | refine rs_op rfl (opj_fcmp rfl rfl rfl) ?_ | refine rs_op rfl (opj_lss rfl rfl) ?_ | refine rs_op rfl (opj_leq rfl rfl) ?_ | refine rs_op rfl (opj_gtr rfl rfl) ?_ | refine rs_op rfl (opj_geq rfl rfl) ?_ | refine rs_op rfl (opj_ieq rfl rfl) ?_ | refine rs_op rfl (opj_ine rfl rfl) ?_ | refine rs_op rfl (opj_beq rfl rfl) ?_ | refine rs_op rfl (opj_bne rfl rfl) ?_)
        | (refine rs_idc ?_; first | refine rs_op rfl (opj_len_m rfl) ?_ | refine rs_op rfl (opj_len_raw rfl) ?_ | refine rs_op rfl (opj_real rfl) ?_ | refine rs_op rfl (opj_imag rfl) ?_ | refine rs_op rfl (opj_complex rfl rfl) ?_)
        | refine rs_op rfl (opj_load1 rfl rfl) ?_
        | refine rs_op rfl (opj_index_m rfl rfl (by omega) (by omega)) ?_
        | refine rs_op rfl (opj_index_own rfl rfl (by omega) (by omega)) ?_
        | refine rs_op rfl (opj_wide rfl) ?_
        | refine rs_op rfl (opj_iconv rfl) ?_
        | refine rs_op rfl (opj_extract rfl rfl) ?_
        | refine rs_op rfl (opj_pick_t rfl rfl) ?_
        | refine rs_op rfl (opj_pick_f rfl rfl) ?_
        | refine rs_op rfl (opj_not rfl) ?_
        | refine rs_nil ?_
        | (refine done_id ?_; first | refine done_normal_then ?_ | refine done_ret_then ?_ | refine done_exit_then ?_ | refine done_normal_block ?_ | refine done_ret_block ?_ | refine done_exit_here ?_ | refine done_exit_on rfl ?_ | refine done_ret_round ?_ | refine done_exit_round ?_)
        | (refine ws_id ?_; first | refine ws_seq ?_ | refine ws_region ?_ | refine ws_block ?_ | refine ws_skip ?_ | refine ws_ret ?_ | refine ws_exit ?_ | refine ws_cond_t rfl ?_ | refine ws_cond_f rfl ?_)
        | refine rs_gy rfl rfl ?_
        | refine rs_no rfl rfl rfl rfl ?_
  refine ws_loop (ι := Nat) (fun k => [(0, slF w0 L), (3, .raw (.slice (some ⟨g, 0, none⟩) L.length L.length)), (4, .raw (.int .i64 k))])
    (fun k => St w0 [] [⟨g, 26, (L.take k ++ List.replicate (L.length - k) (fv .f32 0)).map (AV.f .f32), L.length⟩]) (fun k => k ≤ L.length) (fun k => L.length - k) 0 (Nat.zero_le _) ?_ (fun _ h => by simpa using h) (fun k hk => ?_)
  · (repeat (first | exact Env.sub_nil _ | refine Env.sub_cons rfl ?_))
  · repeat
      first
          | refine rs_op rfl (opj_move rfl) ?_
          | refine rs_op rfl (opj_assign rfl) ?_
          | (refine rs_idb ?_; first | refine rs_op rfl (opj_fbin rfl rfl rfl) ?_ | refine rs_op rfl (opj_add rfl rfl (by omega)) ?_ | refine rs_op rfl (opj_sub rfl rfl (by omega)) ?_ | refine rs_op rfl (opj_fcmp rfl rfl rfl) ?_ | refine rs_op rfl (opj_lss rfl rfl) ?_ | refine rs_op rfl (opj_leq rfl rfl) ?_ | refine rs_op rfl (opj_gtr rfl rfl) ?_ | refine rs_op rfl (opj_geq rfl rfl) ?_ | refine rs_op rfl (opj_ieq rfl rfl) ?_ | refine rs_op rfl (opj_ine rfl rfl) ?_ | refine rs_op rfl (opj_beq rfl rfl) ?_ | refine rs_op rfl (opj_bne rfl rfl) ?_)
          | (refine rs_idc ?_; first | refine rs_op rfl (opj_len_m rfl) ?_ | refine rs_op rfl (opj_len_raw rfl) ?_ | refine rs_op rfl (opj_real rfl) ?_ | refine rs_op rfl (opj_imag rfl) ?_ | refine rs_op rfl (opj_complex rfl rfl) ?_)
          | refine rs_op rfl (opj_load1 rfl rfl) ?_
          | refine rs_op rfl (opj_index_m rfl rfl (by omega) (by omega)) ?_
          | refine rs_op rfl (opj_index_own rfl rfl (by omega) (by omega)) ?_
          | refine rs_op rfl (opj_wide rfl) ?_
          | refine rs_op rfl (opj_iconv rfl) ?_
          | refine rs_op rfl (opj_extract rfl rfl) ?_
          | refine rs_op rfl (opj_pick_t rfl rfl) ?_
          | refine rs_op rfl (opj_pick_f rfl rfl) ?_
          | refine rs_op rfl (opj_not rfl) ?_
          | refine rs_nil ?_
          | (refine done_id ?_; first | refine done_normal_then ?_ | refine done_ret_then ?_ | refine done_exit_then ?_ | refine done_normal_block ?_ | refine done_ret_block ?_ | refine done_exit_here ?_ | refine done_exit_on rfl ?_ | refine done_ret_round ?_ | refine done_exit_round ?_)
          | (refine ws_id ?_; first | refine ws_seq ?_ | refine ws_region ?_ | refine ws_block ?_ | refine ws_skip ?_ | refine ws_ret ?_ | refine ws_exit ?_ | refine ws_cond_t rfl ?_ | refine ws_cond_f rfl ?_)
          | refine rs_gy rfl rfl ?_
          | refine rs_no rfl rfl rfl rfl ?_
    refine ws_cond rfl (fun hc => ?_) (fun hc => ?_)
    · have hlt : (k : Int) < L.length := of_decide_eq_true hc
      repeat
        first
            | refine rs_op rfl (opj_move rfl) ?_
            | refine rs_op rfl (opj_assign rfl) ?_
            | (refine rs_idb ?_; first | refine rs_op rfl (opj_fbin rfl rfl rfl) ?_ | refine rs_op rfl (opj_add rfl rfl (by omega)) ?_ | refine rs_op rfl (opj_sub rfl rfl (by omega)) ?_ | refine rs_op rfl (opj_fcmp rfl rfl rfl) ?_ | refine rs_op rfl (opj_lss rfl rfl) ?_ | refine rs_op rfl (opj_leq rfl rfl) ?_ | refine rs_op rfl (opj_gtr rfl rfl) ?_ | refine rs_op rfl (opj_geq rfl rfl) ?_ | refine rs_op rfl (opj_ieq rfl rfl) ?_ | refine rs_op rfl (opj_ine rfl rfl) ?_ | refine rs_op rfl (opj_beq rfl rfl) ?_ | refine rs_op rfl (opj_bne rfl rfl) ?_)
            | (refine rs_idc ?_; first | refine rs_op rfl (opj_len_m rfl) ?_ | refine rs_op rfl (opj_len_raw rfl) ?_ | refine rs_op rfl (opj_real rfl) ?_ | refine rs_op rfl (opj_imag rfl) ?_ | refine rs_op rfl (opj_complex rfl rfl) ?_)
            | refine rs_op rfl (opj_load1 rfl rfl) ?_
            | refine rs_op rfl (opj_index_m rfl rfl (by omega) (by omega)) ?_
            | refine rs_op rfl (opj_index_own rfl rfl (by omega) (by omega)) ?_
            | refine rs_op rfl (opj_wide rfl) ?_
            | refine rs_op rfl (opj_iconv rfl) ?_
            | refine rs_op rfl (opj_extract rfl rfl) ?_
            | refine rs_op rfl (opj_pick_t rfl rfl) ?_
            | refine rs_op rfl (opj_pick_f rfl rfl) ?_
            | refine rs_op rfl (opj_not rfl) ?_
            | refine rs_nil ?_
            | (refine done_id ?_; first | refine done_normal_then ?_ | refine done_ret_then ?_ | refine done_exit_then ?_ | refine done_normal_block ?_ | refine done_ret_block ?_ | refine done_exit_here ?_ | refine done_exit_on rfl ?_ | refine done_ret_round ?_ | refine done_exit_round ?_)
            | (refine ws_id ?_; first | refine ws_seq ?_ | refine ws_region ?_ | refine ws_block ?_ | refine ws_skip ?_ | refine ws_ret ?_ | refine ws_exit ?_ | refine ws_cond_t rfl ?_ | refine ws_cond_f rfl ?_)
            | refine rs_gy rfl rfl ?_
            | refine rs_no rfl rfl rfl rfl ?_
      refine rs_store (m := AV.f .f32) rfl rfl rfl (by omega) ?_
      repeat
        first
            | refine rs_op rfl (opj_move rfl) ?_
            | refine rs_op rfl (opj_assign rfl) ?_
            | (refine rs_idb ?_; first | refine rs_op rfl (opj_fbin rfl rfl rfl) ?_ | refine rs_op rfl (opj_add rfl rfl (by omega)) ?_ | refine rs_op rfl (opj_sub rfl rfl (by omega)) ?_ | refine rs_op rfl (opj_fcmp rfl rfl rfl) ?_ | refine rs_op rfl (opj_lss rfl rfl) ?_ | refine rs_op rfl (opj_leq rfl rfl) ?_ | refine rs_op rfl (opj_gtr rfl rfl) ?_ | refine rs_op rfl (opj_geq rfl rfl) ?_ | refine rs_op rfl (opj_ieq rfl rfl) ?_ | refine rs_op rfl (opj_ine rfl rfl) ?_ | refine rs_op rfl (opj_beq rfl rfl) ?_ | refine rs_op rfl (opj_bne rfl rfl) ?_)
            | (refine rs_idc ?_; first | refine rs_op rfl (opj_len_m rfl) ?_ | refine rs_op rfl (opj_len_raw rfl) ?_ | refine rs_op rfl (opj_real rfl) ?_ | refine rs_op rfl (opj_imag rfl) ?_ | refine rs_op rfl (opj_complex rfl rfl) ?_)
            | refine rs_op rfl (opj_load1 rfl rfl) ?_
            | refine rs_op rfl (opj_index_m rfl rfl (by omega) (by omega)) ?_
            | refine rs_op rfl (opj_index_own rfl rfl (by omega) (by omega)) ?_
            | refine rs_op rfl (opj_wide rfl) ?_
            | refine rs_op rfl (opj_iconv rfl) ?_
            | refine rs_op rfl (opj_extract rfl rfl) ?_
            | refine rs_op rfl (opj_pick_t rfl rfl) ?_
            | refine rs_op rfl (opj_pick_f rfl rfl) ?_
            | refine rs_op rfl (opj_not rfl) ?_
            | refine rs_nil ?_
            | (refine done_id ?_; first | refine done_normal_then ?_ | refine done_ret_then ?_ | refine done_exit_then ?_ | refine done_normal_block ?_ | refine done_ret_block ?_ | refine done_exit_here ?_ | refine done_exit_on rfl ?_ | refine done_ret_round ?_ | refine done_exit_round ?_)
            | (refine ws_id ?_; first | refine ws_seq ?_ | refine ws_region ?_ | refine ws_block ?_ | refine ws_skip ?_ | refine ws_ret ?_ | refine ws_exit ?_ | refine ws_cond_t rfl ?_ | refine ws_cond_f rfl ?_)
            | refine rs_gy rfl rfl ?_
            | refine rs_no rfl rfl rfl rfl ?_
      refine done_round (k + 1) (by omega) (by omega) ?_ (fun _ h => ?_)
      · (repeat (first | exact Env.sub_nil _ | refine Env.sub_cons rfl ?_))
      · rw [copy_step L _ (by omega)] at h; exact h
    · have hge : ¬ (k : Int) < L.length := of_decide_eq_false hc
      have hkl : k = L.length := by omega
      subst hkl
      rw [copy_end]
      repeat
        first
            | refine rs_op rfl (opj_move rfl) ?_
            | refine rs_op rfl (opj_assign rfl) ?_
            | (refine rs_idb ?_; first | refine rs_op rfl (opj_fbin rfl rfl rfl) ?_ | refine rs_op rfl (opj_add rfl rfl (by omega)) ?_ | refine rs_op rfl (opj_sub rfl rfl (by omega)) ?_ | refine rs_op rfl (opj_fcmp rfl rfl rfl) ?_ | refine rs_op rfl (opj_lss rfl rfl) ?_ | refine rs_op rfl (opj_leq rfl rfl) ?_ | refine rs_op rfl (opj_gtr rfl rfl) ?_ | refine rs_op rfl (opj_geq rfl rfl) ?_ | refine rs_op rfl (opj_ieq rfl rfl) ?_ | refine rs_op rfl (opj_ine rfl rfl) ?_ | refine rs_op rfl (opj_beq rfl rfl) ?_ | refine rs_op rfl (opj_bne rfl rfl) ?_)
            | (refine rs_idc ?_; first | refine rs_op rfl (opj_len_m rfl) ?_ | refine rs_op rfl (opj_len_raw rfl) ?_ | refine rs_op rfl (opj_real rfl) ?_ | refine rs_op rfl (opj_imag rfl) ?_ | refine rs_op rfl (opj_complex rfl rfl) ?_)
            | refine rs_op rfl (opj_load1 rfl rfl) ?_
            | refine rs_op rfl (opj_index_m rfl rfl (by omega) (by omega)) ?_
            | refine rs_op rfl (opj_index_own rfl rfl (by omega) (by omega)) ?_
            | refine rs_op rfl (opj_wide rfl) ?_
            | refine rs_op rfl (opj_iconv rfl) ?_
            | refine rs_op rfl (opj_extract rfl rfl) ?_
            | refine rs_op rfl (opj_pick_t rfl rfl) ?_
            | refine rs_op rfl (opj_pick_f rfl rfl) ?_
            | refine rs_op rfl (opj_not rfl) ?_
            | refine rs_nil ?_
            | (refine done_id ?_; first | refine done_normal_then ?_ | refine done_ret_then ?_ | refine done_exit_then ?_ | refine done_normal_block ?_ | refine done_ret_block ?_ | refine done_exit_here ?_ | refine done_exit_on rfl ?_ | refine done_ret_round ?_ | refine done_exit_round ?_)
            | (refine ws_id ?_; first | refine ws_seq ?_ | refine ws_region ?_ | refine ws_block ?_ | refine ws_skip ?_ | refine ws_ret ?_ | refine ws_exit ?_ | refine ws_cond_t rfl ?_ | refine ws_cond_f rfl ?_)
            | refine rs_gy rfl rfl ?_
            | refine rs_no rfl rfl rfl rfl ?_
      exact done_ret1 rfl g rfl trivial (List.Sublist.refl _)
end Go.Ab
