/- The law FnExactValidNet: the program's ValidNet and the reference's tell the same of any net. No conditions beyond that lengths are lengths. -/
import Derived.Test.YtnajffjobgeenaaVnH
import Derived.Test.YtnajffjobgeenaaNetS
namespace Go.Ab
open Go.Proofs
attribute [local irreducible] WS RS Done OpJ Then InBlock Round Ret Env.sub FnH
attribute [local irreducible] tab tabA corners

theorem specValid_fn (n : Nat) (s : Int → FV) (F : List (List Int)) (hn : n < 2 ^ 60) (hF : ∀ L ∈ F, L.length < 2 ^ 60) : Fn Try.prog 49 (fun w => [netA w n s F]) (.raw (.bool (validB n s F))) := by
  have h := l06Is_fn n s F hn hF
  generalize validB n s F = p at *
  refine fn_intro Try.func49 rfl Try.ntmps49 (fun _ => Nat.le_of_ble_eq_true rfl) fun w0 => ?_
  repeat
    first
        | refine rs_op rfl (opj_move rfl) ?_
        | refine rs_op rfl (opj_assign rfl) ?_
        | (refine rs_idb ?_; first | refine rs_op rfl (opj_fbin rfl rfl rfl) ?_ | refine rs_op rfl (opj_add rfl rfl (by omega)) ?_ | refine rs_op rfl (opj_sub rfl rfl (by omega)) ?_ | refine rs_op rfl (opj_fcmp rfl rfl rfl) ?_ | refine rs_op rfl (opj_lss rfl rfl) ?_ | refine rs_op rfl (opj_leq rfl rfl) ?_ | refine rs_op rfl (opj_gtr rfl rfl) ?_ | refine rs_op rfl (opj_geq rfl rfl) ?_ | refine rs_op rfl (opj_ieq rfl rfl) ?_ | refine rs_op rfl (opj_ine rfl rfl) ?_ | refine rs_op rfl (opj_beq rfl rfl) ?_ | refine rs_op rfl (opj_bne rfl rfl) ?_)
        | (refine rs_idc ?_; first | refine rs_op rfl (opj_len_m rfl) ?_ | refine rs_op rfl (opj_len_raw rfl) ?_ | refine rs_op rfl (opj_real rfl) ?_ | refine rs_op rfl (opj_imag rfl) ?_ | refine rs_op rfl (opj_complex rfl rfl) ?_)
        | (refine rs_idl ?_; first | refine rs_op rfl (opj_loadX rfl rfl (by (repeat (first | exact List.Mem.head _ | refine List.Mem.tail _ ?_)); done) rfl) ?_ | refine rs_op rfl (opj_loadAX rfl rfl (by (repeat (first | exact List.Mem.head _ | refine List.Mem.tail _ ?_)); done) rfl rfl) ?_ | refine rs_op rfl (opj_loadAP rfl rfl rfl rfl) ?_ | refine rs_op rfl (opj_load1 rfl rfl) ?_)
        | (refine rs_ida ?_; first | refine rs_op rfl (opj_index_m rfl rfl (by omega) (by omega)) ?_ | refine rs_op rfl (opj_index_own rfl rfl (by omega) (by omega)) ?_)
        | refine rs_op rfl (opj_field_own rfl) ?_
        | refine rs_op rfl (opj_field_ptr rfl) ?_
        | refine rs_op rfl (opj_wide rfl) ?_
        | refine rs_op rfl (opj_iconv rfl) ?_
        | refine rs_op rfl (opj_extract rfl rfl) ?_
        | refine rs_op rfl (opj_pick_t rfl rfl) ?_
        | refine rs_op rfl (opj_pick_f rfl rfl) ?_
        | refine rs_op rfl (opj_not rfl) ?_
        | refine rs_nil ?_
        | (refine done_id ?_; first | refine done_normal_then ?_ | refine done_ret_then ?_ | refine done_exit_then ?_ | refine done_normal_block ?_ | refine done_ret_block ?_ | refine done_exit_here ?_ | refine done_exit_on rfl ?_ | refine done_ret_round ?_ | refine done_exit_round ?_)
        | (refine ws_id ?_; first | refine ws_seq ?_ | refine ws_region ?_ | refine ws_block ?_ | refine ws_skip ?_ | refine ws_ret ?_ | refine ws_exit ?_ | refine ws_cond_t rfl ?_ | refine ws_cond_f rfl ?_)
        | refine rs_gy rfl rfl ?_
        | refine rs_no rfl rfl rfl rfl ?_
        | (refine rs_boxA rfl rfl rfl ?_; intro g)
        | (refine rs_alloc rfl rfl ?_; intro g)
        | (refine rs_idst ?_; first | refine rs_storeX 0 rfl rfl rfl rfl rfl rfl ?_ | refine rs_storeX 1 rfl rfl rfl rfl rfl rfl ?_ | refine rs_storeX 2 rfl rfl rfl rfl rfl rfl ?_ | refine rs_storeX 3 rfl rfl rfl rfl rfl rfl ?_ | refine rs_storeX 4 rfl rfl rfl rfl rfl rfl ?_ | refine rs_storeX 5 rfl rfl rfl rfl rfl rfl ?_ | refine rs_storeAX 0 rfl rfl rfl rfl rfl rfl rfl rfl rfl ?_ | refine rs_storeAX 1 rfl rfl rfl rfl rfl rfl rfl rfl rfl ?_ | refine rs_storeAX 2 rfl rfl rfl rfl rfl rfl rfl rfl rfl ?_ | refine rs_storeAX 3 rfl rfl rfl rfl rfl rfl rfl rfl rfl ?_ | refine rs_storeAX 4 rfl rfl rfl rfl rfl rfl rfl rfl rfl ?_ | refine rs_storeAX 5 rfl rfl rfl rfl rfl rfl rfl rfl rfl ?_ | refine rs_storeAS 0 rfl rfl rfl rfl rfl rfl ?_ | refine rs_storeAS 1 rfl rfl rfl rfl rfl rfl ?_ | refine rs_storeAS 2 rfl rfl rfl rfl rfl rfl ?_ | refine rs_storeAS 3 rfl rfl rfl rfl rfl rfl ?_)
        | refine rs_op rfl (opj_call rfl rfl h (Takes.netPt (List.Mem.head _) Takes.nil)) ?_
  exact done_ret1 rfl () rfl trivial (List.nil_sublist _)
set_option maxHeartbeats 8000000 in
theorem law_validNet (n : Nat) (s : Int → FV) (F : List (List Int)) (_ : ∀ t, Ok32 (s t)) (hn : n ≤ maxLen) (hF0 : F.length ≤ maxLen) (hF : ∀ L ∈ F, L.length ≤ maxLen) :
    Fn Try.prog 13 (fun w => [netA w n s F]) (.raw (.bool true)) := by
  have h1 := szNet_fn n s F 1048576 hn hF0 hF (by omega)
  refine fn_intro Try.func13 rfl Try.ntmps13 (fun _ => Nat.le_of_ble_eq_true rfl) fun w0 => ?_
  repeat
    first
        | refine rs_op rfl (opj_move rfl) ?_
        | refine rs_op rfl (opj_assign rfl) ?_
        | (refine rs_idb ?_; first | refine rs_op rfl (opj_fbin rfl rfl rfl) ?_ | refine rs_op rfl (opj_add rfl rfl (by omega)) ?_ | refine rs_op rfl (opj_sub rfl rfl (by omega)) ?_ | refine rs_op rfl (opj_fcmp rfl rfl rfl) ?_ | refine rs_op rfl (opj_lss rfl rfl) ?_ | refine rs_op rfl (opj_leq rfl rfl) ?_ | refine rs_op rfl (opj_gtr rfl rfl) ?_ | refine rs_op rfl (opj_geq rfl rfl) ?_ | refine rs_op rfl (opj_ieq rfl rfl) ?_ | refine rs_op rfl (opj_ine rfl rfl) ?_ | refine rs_op rfl (opj_beq rfl rfl) ?_ | refine rs_op rfl (opj_bne rfl rfl) ?_)
        | (refine rs_idc ?_; first | refine rs_op rfl (opj_len_m rfl) ?_ | refine rs_op rfl (opj_len_raw rfl) ?_ | refine rs_op rfl (opj_real rfl) ?_ | refine rs_op rfl (opj_imag rfl) ?_ | refine rs_op rfl (opj_complex rfl rfl) ?_)
        | (refine rs_idl ?_; first | refine rs_op rfl (opj_loadX rfl rfl (by (repeat (first | exact List.Mem.head _ | refine List.Mem.tail _ ?_)); done) rfl) ?_ | refine rs_op rfl (opj_loadAX rfl rfl (by (repeat (first | exact List.Mem.head _ | refine List.Mem.tail _ ?_)); done) rfl rfl) ?_ | refine rs_op rfl (opj_loadAP rfl rfl rfl rfl) ?_ | refine rs_op rfl (opj_load1 rfl rfl) ?_)
        | (refine rs_ida ?_; first | refine rs_op rfl (opj_index_m rfl rfl (by omega) (by omega)) ?_ | refine rs_op rfl (opj_index_own rfl rfl (by omega) (by omega)) ?_)
        | refine rs_op rfl (opj_field_own rfl) ?_
        | refine rs_op rfl (opj_field_ptr rfl) ?_
        | refine rs_op rfl (opj_wide rfl) ?_
        | refine rs_op rfl (opj_iconv rfl) ?_
        | refine rs_op rfl (opj_extract rfl rfl) ?_
        | refine rs_op rfl (opj_pick_t rfl rfl) ?_
        | refine rs_op rfl (opj_pick_f rfl rfl) ?_
        | refine rs_op rfl (opj_not rfl) ?_
        | refine rs_nil ?_
        | (refine done_id ?_; first | refine done_normal_then ?_ | refine done_ret_then ?_ | refine done_exit_then ?_ | refine done_normal_block ?_ | refine done_ret_block ?_ | refine done_exit_here ?_ | refine done_exit_on rfl ?_ | refine done_ret_round ?_ | refine done_exit_round ?_)
        | (refine ws_id ?_; first | refine ws_seq ?_ | refine ws_region ?_ | refine ws_block ?_ | refine ws_skip ?_ | refine ws_ret ?_ | refine ws_exit ?_ | refine ws_cond_t rfl ?_ | refine ws_cond_f rfl ?_)
        | refine rs_gy rfl rfl ?_
        | refine rs_no rfl rfl rfl rfl ?_
        | (refine rs_boxA rfl rfl rfl ?_; intro g)
        | (refine rs_alloc rfl rfl ?_; intro g)
        | (refine rs_idst ?_; first | refine rs_storeX 0 rfl rfl rfl rfl rfl rfl ?_ | refine rs_storeX 1 rfl rfl rfl rfl rfl rfl ?_ | refine rs_storeX 2 rfl rfl rfl rfl rfl rfl ?_ | refine rs_storeX 3 rfl rfl rfl rfl rfl rfl ?_ | refine rs_storeX 4 rfl rfl rfl rfl rfl rfl ?_ | refine rs_storeX 5 rfl rfl rfl rfl rfl rfl ?_ | refine rs_storeAX 0 rfl rfl rfl rfl rfl rfl rfl rfl rfl ?_ | refine rs_storeAX 1 rfl rfl rfl rfl rfl rfl rfl rfl rfl ?_ | refine rs_storeAX 2 rfl rfl rfl rfl rfl rfl rfl rfl rfl ?_ | refine rs_storeAX 3 rfl rfl rfl rfl rfl rfl rfl rfl rfl ?_ | refine rs_storeAX 4 rfl rfl rfl rfl rfl rfl rfl rfl rfl ?_ | refine rs_storeAX 5 rfl rfl rfl rfl rfl rfl rfl rfl rfl ?_ | refine rs_storeAS 0 rfl rfl rfl rfl rfl rfl ?_ | refine rs_storeAS 1 rfl rfl rfl rfl rfl rfl ?_ | refine rs_storeAS 2 rfl rfl rfl rfl rfl rfl ?_ | refine rs_storeAS 3 rfl rfl rfl rfl rfl rfl ?_)
        | (refine rs_call0 h1 rfl rfl (Takes.net (Takes.same Takes.nil)) rfl ?_; rintro r hr)
  refine ws_cond rfl (fun hc => ?_) (fun hc => ?_)
  · repeat
      first
          | refine rs_op rfl (opj_move rfl) ?_
          | refine rs_op rfl (opj_assign rfl) ?_
          | (refine rs_idb ?_; first | refine rs_op rfl (opj_fbin rfl rfl rfl) ?_ | refine rs_op rfl (opj_add rfl rfl (by omega)) ?_ | refine rs_op rfl (opj_sub rfl rfl (by omega)) ?_ | refine rs_op rfl (opj_fcmp rfl rfl rfl) ?_ | refine rs_op rfl (opj_lss rfl rfl) ?_ | refine rs_op rfl (opj_leq rfl rfl) ?_ | refine rs_op rfl (opj_gtr rfl rfl) ?_ | refine rs_op rfl (opj_geq rfl rfl) ?_ | refine rs_op rfl (opj_ieq rfl rfl) ?_ | refine rs_op rfl (opj_ine rfl rfl) ?_ | refine rs_op rfl (opj_beq rfl rfl) ?_ | refine rs_op rfl (opj_bne rfl rfl) ?_)
          | (refine rs_idc ?_; first | refine rs_op rfl (opj_len_m rfl) ?_ | refine rs_op rfl (opj_len_raw rfl) ?_ | refine rs_op rfl (opj_real rfl) ?_ | refine rs_op rfl (opj_imag rfl) ?_ | refine rs_op rfl (opj_complex rfl rfl) ?_)
          | (refine rs_idl ?_; first | refine rs_op rfl (opj_loadX rfl rfl (by (repeat (first | exact List.Mem.head _ | refine List.Mem.tail _ ?_)); done) rfl) ?_ | refine rs_op rfl (opj_loadAX rfl rfl (by (repeat (first | exact List.Mem.head _ | refine List.Mem.tail _ ?_)); done) rfl rfl) ?_ | refine rs_op rfl (opj_loadAP rfl rfl rfl rfl) ?_ | refine rs_op rfl (opj_load1 rfl rfl) ?_)
          | (refine rs_ida ?_; first | refine rs_op rfl (opj_index_m rfl rfl (by omega) (by omega)) ?_ | refine rs_op rfl (opj_index_own rfl rfl (by omega) (by omega)) ?_)
          | refine rs_op rfl (opj_field_own rfl) ?_
          | refine rs_op rfl (opj_field_ptr rfl) ?_
          | refine rs_op rfl (opj_wide rfl) ?_
          | refine rs_op rfl (opj_iconv rfl) ?_
          | refine rs_op rfl (opj_extract rfl rfl) ?_
          | refine rs_op rfl (opj_pick_t rfl rfl) ?_
          | refine rs_op rfl (opj_pick_f rfl rfl) ?_
          | refine rs_op rfl (opj_not rfl) ?_
          | refine rs_nil ?_
          | (refine done_id ?_; first | refine done_normal_then ?_ | refine done_ret_then ?_ | refine done_exit_then ?_ | refine done_normal_block ?_ | refine done_ret_block ?_ | refine done_exit_here ?_ | refine done_exit_on rfl ?_ | refine done_ret_round ?_ | refine done_exit_round ?_)
          | (refine ws_id ?_; first | refine ws_seq ?_ | refine ws_region ?_ | refine ws_block ?_ | refine ws_skip ?_ | refine ws_ret ?_ | refine ws_exit ?_ | refine ws_cond_t rfl ?_ | refine ws_cond_f rfl ?_)
          | refine rs_gy rfl rfl ?_
          | refine rs_no rfl rfl rfl rfl ?_
          | (refine rs_boxA rfl rfl rfl ?_; intro g)
          | (refine rs_alloc rfl rfl ?_; intro g)
          | (refine rs_idst ?_; first | refine rs_storeX 0 rfl rfl rfl rfl rfl rfl ?_ | refine rs_storeX 1 rfl rfl rfl rfl rfl rfl ?_ | refine rs_storeX 2 rfl rfl rfl rfl rfl rfl ?_ | refine rs_storeX 3 rfl rfl rfl rfl rfl rfl ?_ | refine rs_storeX 4 rfl rfl rfl rfl rfl rfl ?_ | refine rs_storeX 5 rfl rfl rfl rfl rfl rfl ?_ | refine rs_storeAX 0 rfl rfl rfl rfl rfl rfl rfl rfl rfl ?_ | refine rs_storeAX 1 rfl rfl rfl rfl rfl rfl rfl rfl rfl ?_ | refine rs_storeAX 2 rfl rfl rfl rfl rfl rfl rfl rfl rfl ?_ | refine rs_storeAX 3 rfl rfl rfl rfl rfl rfl rfl rfl rfl ?_ | refine rs_storeAX 4 rfl rfl rfl rfl rfl rfl rfl rfl rfl ?_ | refine rs_storeAX 5 rfl rfl rfl rfl rfl rfl rfl rfl rfl ?_ | refine rs_storeAS 0 rfl rfl rfl rfl rfl rfl ?_ | refine rs_storeAS 1 rfl rfl rfl rfl rfl rfl ?_ | refine rs_storeAS 2 rfl rfl rfl rfl rfl rfl ?_ | refine rs_storeAS 3 rfl rfl rfl rfl rfl rfl ?_)
    exact done_ret1 rfl () rfl trivial (List.nil_sublist _)
  obtain ⟨ha, hb, hn', hF0', hF'⟩ := hr.resolve_left (of_decide_eq_false hc)
  clear hc h1
  have mF : ∀ b : Nat, 2 ^ 20 < b → ∀ L ∈ F, L.length < b := fun b hb L hL => by have := hF' L hL; omega
  have t0 := toNet_fn n s F (by omega) (by omega) (mF _ (by decide))
  have p0 := toNet_p n s F (by omega) (by omega) (mF _ (by decide))
  have hS := specValid_fn n s F (by omega) (mF _ (by decide))
  have hI := implValid_fn n s F (by omega) (by omega) (mF _ (by decide))
  have q0 := eqNet_self n s F (by omega) (by omega) (mF _ (by decide))
  generalize validB n s F = p at *
  cases p
  all_goals
    repeat
      first
          | refine rs_op rfl (opj_move rfl) ?_
          | refine rs_op rfl (opj_assign rfl) ?_
          | (refine rs_idb ?_; first | refine rs_op rfl (opj_fbin rfl rfl rfl) ?_ | refine rs_op rfl (opj_add rfl rfl (by omega)) ?_ | refine rs_op rfl (opj_sub rfl rfl (by omega)) ?_ | refine rs_op rfl (opj_fcmp rfl rfl rfl) ?_ | refine rs_op rfl (opj_lss rfl rfl) ?_ | refine rs_op rfl (opj_leq rfl rfl) ?_ | refine rs_op rfl (opj_gtr rfl rfl) ?_ | refine rs_op rfl (opj_geq rfl rfl) ?_ | refine rs_op rfl (opj_ieq rfl rfl) ?_ | refine rs_op rfl (opj_ine rfl rfl) ?_ | refine rs_op rfl (opj_beq rfl rfl) ?_ | refine rs_op rfl (opj_bne rfl rfl) ?_)
          | (refine rs_idc ?_; first | refine rs_op rfl (opj_len_m rfl) ?_ | refine rs_op rfl (opj_len_raw rfl) ?_ | refine rs_op rfl (opj_real rfl) ?_ | refine rs_op rfl (opj_imag rfl) ?_ | refine rs_op rfl (opj_complex rfl rfl) ?_)
          | (refine rs_idl ?_; first | refine rs_op rfl (opj_loadX rfl rfl (by (repeat (first | exact List.Mem.head _ | refine List.Mem.tail _ ?_)); done) rfl) ?_ | refine rs_op rfl (opj_loadAX rfl rfl (by (repeat (first | exact List.Mem.head _ | refine List.Mem.tail _ ?_)); done) rfl rfl) ?_ | refine rs_op rfl (opj_loadAP rfl rfl rfl rfl) ?_ | refine rs_op rfl (opj_load1 rfl rfl) ?_)
          | (refine rs_ida ?_; first | refine rs_op rfl (opj_index_m rfl rfl (by omega) (by omega)) ?_ | refine rs_op rfl (opj_index_own rfl rfl (by omega) (by omega)) ?_)
          | refine rs_op rfl (opj_field_own rfl) ?_
          | refine rs_op rfl (opj_field_ptr rfl) ?_
          | refine rs_op rfl (opj_wide rfl) ?_
          | refine rs_op rfl (opj_iconv rfl) ?_
          | refine rs_op rfl (opj_extract rfl rfl) ?_
          | refine rs_op rfl (opj_pick_t rfl rfl) ?_
          | refine rs_op rfl (opj_pick_f rfl rfl) ?_
          | refine rs_op rfl (opj_not rfl) ?_
          | refine rs_nil ?_
          | (refine done_id ?_; first | refine done_normal_then ?_ | refine done_ret_then ?_ | refine done_exit_then ?_ | refine done_normal_block ?_ | refine done_ret_block ?_ | refine done_exit_here ?_ | refine done_exit_on rfl ?_ | refine done_ret_round ?_ | refine done_exit_round ?_)
          | (refine ws_id ?_; first | refine ws_seq ?_ | refine ws_region ?_ | refine ws_block ?_ | refine ws_skip ?_ | refine ws_ret ?_ | refine ws_exit ?_ | refine ws_cond_t rfl ?_ | refine ws_cond_f rfl ?_)
          | refine rs_gy rfl rfl ?_
          | refine rs_no rfl rfl rfl rfl ?_
          | (refine rs_boxA rfl rfl rfl ?_; intro g)
          | (refine rs_alloc rfl rfl ?_; intro g)
          | (refine rs_idst ?_; first | refine rs_storeX 0 rfl rfl rfl rfl rfl rfl ?_ | refine rs_storeX 1 rfl rfl rfl rfl rfl rfl ?_ | refine rs_storeX 2 rfl rfl rfl rfl rfl rfl ?_ | refine rs_storeX 3 rfl rfl rfl rfl rfl rfl ?_ | refine rs_storeX 4 rfl rfl rfl rfl rfl rfl ?_ | refine rs_storeX 5 rfl rfl rfl rfl rfl rfl ?_ | refine rs_storeAX 0 rfl rfl rfl rfl rfl rfl rfl rfl rfl ?_ | refine rs_storeAX 1 rfl rfl rfl rfl rfl rfl rfl rfl rfl ?_ | refine rs_storeAX 2 rfl rfl rfl rfl rfl rfl rfl rfl rfl ?_ | refine rs_storeAX 3 rfl rfl rfl rfl rfl rfl rfl rfl rfl ?_ | refine rs_storeAX 4 rfl rfl rfl rfl rfl rfl rfl rfl rfl ?_ | refine rs_storeAX 5 rfl rfl rfl rfl rfl rfl rfl rfl rfl ?_ | refine rs_storeAS 0 rfl rfl rfl rfl rfl rfl ?_ | refine rs_storeAS 1 rfl rfl rfl rfl rfl rfl ?_ | refine rs_storeAS 2 rfl rfl rfl rfl rfl rfl ?_ | refine rs_storeAS 3 rfl rfl rfl rfl rfl rfl ?_)
          | (refine rs_callN t0 rfl rfl (Takes.net Takes.nil) rfl ?_; rintro ⟨a, b, G⟩ -; refine RS.net ?_)
          | refine rs_op rfl (opj_call rfl rfl hS (Takes.netO (by (repeat (first | exact List.Mem.head _ | refine List.Mem.tail _ ?_)); done) (by (repeat (first | exact List.Mem.head _ | refine List.Mem.tail _ ?_)); done) (fun e he => by repeat (first | exact he | exact List.mem_append_right _ he | exact List.mem_append_left _ he | refine List.Mem.tail _ ?_)) (by simp only [maxLen]; omega) (by simp only [maxLen]; omega) (fun L hL => by have := mF _ (by decide : 2 ^ 20 < 2 ^ 21) L hL; simp only [maxLen]; omega) Takes.nil)) ?_
          | refine rs_op rfl (opj_call rfl rfl hI (Takes.netO (by (repeat (first | exact List.Mem.head _ | refine List.Mem.tail _ ?_)); done) (by (repeat (first | exact List.Mem.head _ | refine List.Mem.tail _ ?_)); done) (fun e he => by repeat (first | exact he | exact List.mem_append_right _ he | exact List.mem_append_left _ he | refine List.Mem.tail _ ?_)) (by simp only [maxLen]; omega) (by simp only [maxLen]; omega) (fun L hL => by have := mF _ (by decide : 2 ^ 20 < 2 ^ 21) L hL; simp only [maxLen]; omega) Takes.nil)) ?_
    refine ws_draw (n := 5) mixed (by decide +kernel) ?_
    repeat
      first
          | refine r1_op rfl (opj_move rfl) ?_
          | refine r1_op rfl (opj_assign rfl) ?_
          | (refine r1_idb ?_; first | refine r1_op rfl (opj_fbin rfl rfl rfl) ?_ | refine r1_op rfl (opj_add rfl rfl (by omega)) ?_ | refine r1_op rfl (opj_sub rfl rfl (by omega)) ?_ | refine r1_op rfl (opj_fcmp rfl rfl rfl) ?_ | refine r1_op rfl (opj_lss rfl rfl) ?_ | refine r1_op rfl (opj_leq rfl rfl) ?_ | refine r1_op rfl (opj_gtr rfl rfl) ?_ | refine r1_op rfl (opj_geq rfl rfl) ?_ | refine r1_op rfl (opj_ieq rfl rfl) ?_ | refine r1_op rfl (opj_ine rfl rfl) ?_ | refine r1_op rfl (opj_beq rfl rfl) ?_ | refine r1_op rfl (opj_bne rfl rfl) ?_)
          | (refine r1_idc ?_; first | refine r1_op rfl (opj_len_m rfl) ?_ | refine r1_op rfl (opj_len_raw rfl) ?_ | refine r1_op rfl (opj_real rfl) ?_ | refine r1_op rfl (opj_imag rfl) ?_ | refine r1_op rfl (opj_complex rfl rfl) ?_)
          | (refine r1_idl ?_; first | refine r1_op rfl (opj_loadX rfl rfl (by (repeat (first | exact List.Mem.head _ | refine List.Mem.tail _ ?_)); done) rfl) ?_ | refine r1_op rfl (opj_loadAX rfl rfl (by (repeat (first | exact List.Mem.head _ | refine List.Mem.tail _ ?_)); done) rfl rfl) ?_ | refine r1_op rfl (opj_loadAP rfl rfl rfl rfl) ?_ | refine r1_op rfl (opj_load1 rfl rfl) ?_)
          | (refine r1_ida ?_; first | refine r1_op rfl (opj_index_m rfl rfl (by omega) (by omega)) ?_ | refine r1_op rfl (opj_index_own rfl rfl (by omega) (by omega)) ?_)
          | refine r1_op rfl (opj_field_own rfl) ?_
          | refine r1_op rfl (opj_field_ptr rfl) ?_
          | refine r1_op rfl (opj_wide rfl) ?_
          | refine r1_op rfl (opj_iconv rfl) ?_
          | refine r1_op rfl (opj_extract rfl rfl) ?_
          | refine r1_op rfl (opj_pick_t rfl rfl) ?_
          | refine r1_op rfl (opj_pick_f rfl rfl) ?_
          | refine r1_op rfl (opj_not rfl) ?_
          | refine r1_nil ?_
          | refine r1_gy rfl rfl ?_
          | refine r1_no rfl rfl rfl rfl ?_
          | refine r1_op rfl (opj_call rfl rfl p0 (Takes.net Takes.nil)) ?_
          | refine r1_op rfl (opj_call rfl rfl q0 (Takes.netO (by (repeat (first | exact List.Mem.head _ | refine List.Mem.tail _ ?_)); done) (by (repeat (first | exact List.Mem.head _ | refine List.Mem.tail _ ?_)); done) (fun e he => by repeat (first | exact he | exact List.mem_append_right _ he | exact List.mem_append_left _ he | refine List.Mem.tail _ ?_)) (by simp only [maxLen]; omega) (by simp only [maxLen]; omega) (fun L hL => by have := mF _ (by decide : 2 ^ 20 < 2 ^ 21) L hL; simp only [maxLen]; omega) (Takes.netP Takes.nil))) ?_
    repeat
      first
          | refine rs_op rfl (opj_move rfl) ?_
          | refine rs_op rfl (opj_assign rfl) ?_
          | (refine rs_idb ?_; first | refine rs_op rfl (opj_fbin rfl rfl rfl) ?_ | refine rs_op rfl (opj_add rfl rfl (by omega)) ?_ | refine rs_op rfl (opj_sub rfl rfl (by omega)) ?_ | refine rs_op rfl (opj_fcmp rfl rfl rfl) ?_ | refine rs_op rfl (opj_lss rfl rfl) ?_ | refine rs_op rfl (opj_leq rfl rfl) ?_ | refine rs_op rfl (opj_gtr rfl rfl) ?_ | refine rs_op rfl (opj_geq rfl rfl) ?_ | refine rs_op rfl (opj_ieq rfl rfl) ?_ | refine rs_op rfl (opj_ine rfl rfl) ?_ | refine rs_op rfl (opj_beq rfl rfl) ?_ | refine rs_op rfl (opj_bne rfl rfl) ?_)
          | (refine rs_idc ?_; first | refine rs_op rfl (opj_len_m rfl) ?_ | refine rs_op rfl (opj_len_raw rfl) ?_ | refine rs_op rfl (opj_real rfl) ?_ | refine rs_op rfl (opj_imag rfl) ?_ | refine rs_op rfl (opj_complex rfl rfl) ?_)
          | (refine rs_idl ?_; first | refine rs_op rfl (opj_loadX rfl rfl (by (repeat (first | exact List.Mem.head _ | refine List.Mem.tail _ ?_)); done) rfl) ?_ | refine rs_op rfl (opj_loadAX rfl rfl (by (repeat (first | exact List.Mem.head _ | refine List.Mem.tail _ ?_)); done) rfl rfl) ?_ | refine rs_op rfl (opj_loadAP rfl rfl rfl rfl) ?_ | refine rs_op rfl (opj_load1 rfl rfl) ?_)
          | (refine rs_ida ?_; first | refine rs_op rfl (opj_index_m rfl rfl (by omega) (by omega)) ?_ | refine rs_op rfl (opj_index_own rfl rfl (by omega) (by omega)) ?_)
          | refine rs_op rfl (opj_field_own rfl) ?_
          | refine rs_op rfl (opj_field_ptr rfl) ?_
          | refine rs_op rfl (opj_wide rfl) ?_
          | refine rs_op rfl (opj_iconv rfl) ?_
          | refine rs_op rfl (opj_extract rfl rfl) ?_
          | refine rs_op rfl (opj_pick_t rfl rfl) ?_
          | refine rs_op rfl (opj_pick_f rfl rfl) ?_
          | refine rs_op rfl (opj_not rfl) ?_
          | refine rs_nil ?_
          | (refine done_id ?_; first | refine done_normal_then ?_ | refine done_ret_then ?_ | refine done_exit_then ?_ | refine done_normal_block ?_ | refine done_ret_block ?_ | refine done_exit_here ?_ | refine done_exit_on rfl ?_ | refine done_ret_round ?_ | refine done_exit_round ?_)
          | (refine ws_id ?_; first | refine ws_seq ?_ | refine ws_region ?_ | refine ws_block ?_ | refine ws_skip ?_ | refine ws_ret ?_ | refine ws_exit ?_ | refine ws_cond_t rfl ?_ | refine ws_cond_f rfl ?_)
          | refine rs_gy rfl rfl ?_
          | refine rs_no rfl rfl rfl rfl ?_
          | (refine rs_boxA rfl rfl rfl ?_; intro g)
          | (refine rs_alloc rfl rfl ?_; intro g)
          | (refine rs_idst ?_; first | refine rs_storeX 0 rfl rfl rfl rfl rfl rfl ?_ | refine rs_storeX 1 rfl rfl rfl rfl rfl rfl ?_ | refine rs_storeX 2 rfl rfl rfl rfl rfl rfl ?_ | refine rs_storeX 3 rfl rfl rfl rfl rfl rfl ?_ | refine rs_storeX 4 rfl rfl rfl rfl rfl rfl ?_ | refine rs_storeX 5 rfl rfl rfl rfl rfl rfl ?_ | refine rs_storeAX 0 rfl rfl rfl rfl rfl rfl rfl rfl rfl ?_ | refine rs_storeAX 1 rfl rfl rfl rfl rfl rfl rfl rfl rfl ?_ | refine rs_storeAX 2 rfl rfl rfl rfl rfl rfl rfl rfl rfl ?_ | refine rs_storeAX 3 rfl rfl rfl rfl rfl rfl rfl rfl rfl ?_ | refine rs_storeAX 4 rfl rfl rfl rfl rfl rfl rfl rfl rfl ?_ | refine rs_storeAX 5 rfl rfl rfl rfl rfl rfl rfl rfl rfl ?_ | refine rs_storeAS 0 rfl rfl rfl rfl rfl rfl ?_ | refine rs_storeAS 1 rfl rfl rfl rfl rfl rfl ?_ | refine rs_storeAS 2 rfl rfl rfl rfl rfl rfl ?_ | refine rs_storeAS 3 rfl rfl rfl rfl rfl rfl ?_)
    exact done_ret1 rfl () rfl trivial (List.nil_sublist _)
end Go.Ab
