/- Nets: the law's own functions that copy and compare their parts. No conditions. -/
import Derived.Test.YtnajffjobgeenaaNetA
namespace Go.Ab
open Go.Proofs
attribute [local irreducible] WS RS Done OpJ Then InBlock Round Ret Env.sub FnH
attribute [local irreducible] tab

theorem toInt64S_fn (L : List Int) (hL : L.length < 2 ^ 44) : FnH (X := Nat) Try.prog 176 (fun w => [slI w L]) [] (fun g => slv g L.length) (fun g => [entI g L]) (fun _ => True) := by
  refine fn_intro Try.func176 rfl Try.ntmps176 (fun _ => Nat.le_of_ble_eq_true rfl) fun w0 => ?_
  repeat
    first
        | refine rs_op rfl (opj_move rfl) ?_
        | refine rs_op rfl (opj_assign rfl) ?_
        | (refine rs_idb ?_; first | refine rs_op rfl (opj_fbin rfl rfl rfl) ?_ | refine rs_op rfl (opj_add rfl rfl (by omega)) ?_ | refine rs_op rfl (opj_sub rfl rfl (by omega)) ?_ | refine rs_op rfl (opj_fcmp rfl rfl rfl) ?_ | refine rs_op rfl (opj_lss rfl rfl) ?_ | refine rs_op rfl (opj_leq rfl rfl) ?_ | refine rs_op rfl (opj_gtr rfl rfl) ?_ | refine rs_op rfl (opj_geq rfl rfl) ?_ | refine rs_op rfl (opj_ieq rfl rfl) ?_ | refine rs_op rfl (opj_ine rfl rfl) ?_ | refine rs_op rfl (opj_beq rfl rfl) ?_ | refine rs_op rfl (opj_bne rfl rfl) ?_)
        | (refine rs_idc ?_; first | refine rs_op rfl (opj_len_m rfl) ?_ | refine rs_op rfl (opj_len_raw rfl) ?_ | refine rs_op rfl (opj_real rfl) ?_ | refine rs_op rfl (opj_imag rfl) ?_ | refine rs_op rfl (opj_complex rfl rfl) ?_)
        | (refine rs_idl ?_; first | refine rs_op rfl (opj_loadX rfl rfl (by (repeat (first | exact List.Mem.head _ | refine List.Mem.tail _ ?_)); done) rfl) ?_ | refine rs_op rfl (opj_loadAX rfl rfl (by (repeat (first | exact List.Mem.head _ | refine List.Mem.tail _ ?_)); done) rfl rfl) ?_ | refine rs_op rfl (opj_loadAP rfl rfl rfl rfl) ?_ | refine rs_op rfl (opj_load1 rfl rfl) ?_)
        | (refine rs_ida ?_; first | refine rs_op rfl (opj_index_m rfl rfl (by omega) (by omega)) ?_ | refine rs_op rfl (opj_index_own rfl rfl (by omega) (by omega)) ?_)
        | refine rs_op rfl (opj_field_own rfl) ?_
        | refine rs_op rfl (opj_field_ptr rfl) ?_
        | refine rs_op rfl (opj_wide rfl) ?_
        | refine rs_op rfl (opj_iconv rfl) ?_
        | refine rs_op rfl (opj_extract rfl rfl) ?_
        | refine rs_op rfl (opj_pick_t rfl rfl) ?_
        | refine rs_op rfl (opj_pick_f rfl rfl) ?_
        | refine rs_op rfl (opj_not rfl) ?_
        | refine rs_nil ?_
        | (refine done_id ?_; first | refine done_normal_then ?_ | refine done_ret_then ?_ | refine done_exit_then ?_ | refine done_normal_block ?_ | refine done_ret_block ?_ | refine done_exit_here ?_ | refine done_exit_on rfl ?_ | refine done_ret_round ?_ | refine done_exit_round ?_)
        | (refine ws_id ?_; first | refine ws_seq ?_ | refine ws_region ?_ | refine ws_block ?_ | refine ws_skip ?_ | refine ws_ret ?_ | refine ws_exit ?_ | refine ws_cond_t rfl ?_ | refine ws_cond_f rfl ?_)
        | refine rs_gy rfl rfl ?_
        | refine rs_no rfl rfl rfl rfl ?_
        | (refine rs_boxA rfl rfl rfl ?_; intro g)
        | (refine rs_alloc rfl rfl ?_; intro g)
        | (refine rs_idst ?_; first | refine rs_storeX 0 rfl rfl rfl rfl rfl rfl ?_ | refine rs_storeX 1 rfl rfl rfl rfl rfl rfl ?_ | refine rs_storeX 2 rfl rfl rfl rfl rfl rfl ?_ | refine rs_storeX 3 rfl rfl rfl rfl rfl rfl ?_ | refine rs_storeX 4 rfl rfl rfl rfl rfl rfl ?_ | refine rs_storeX 5 rfl rfl rfl rfl rfl rfl ?_ | refine rs_storeAX 0 rfl rfl rfl rfl rfl rfl rfl rfl rfl ?_ | refine rs_storeAX 1 rfl rfl rfl rfl rfl rfl rfl rfl rfl ?_ | refine rs_storeAX 2 rfl rfl rfl rfl rfl rfl rfl rfl rfl ?_ | refine rs_storeAX 3 rfl rfl rfl rfl rfl rfl rfl rfl rfl ?_ | refine rs_storeAX 4 rfl rfl rfl rfl rfl rfl rfl rfl rfl ?_ | refine rs_storeAX 5 rfl rfl rfl rfl rfl rfl rfl rfl rfl ?_ | refine rs_storeAS 0 rfl rfl rfl rfl rfl rfl ?_ | refine rs_storeAS 1 rfl rfl rfl rfl rfl rfl ?_ | refine rs_storeAS 2 rfl rfl rfl rfl rfl rfl ?_ | refine rs_storeAS 3 rfl rfl rfl rfl rfl rfl ?_)
  refine rs_make (m := intA) (zx := 0) rfl rfl rfl rfl rfl rfl (by omega) (by simp only [maxLen]; omega) fun g => ?_
  repeat
    first
        | refine rs_op rfl (opj_move rfl) ?_
        | refine rs_op rfl (opj_assign rfl) ?_
        | (refine rs_idb ?_; first | refine rs_op rfl (opj_fbin rfl rfl rfl) ?_ | refine rs_op rfl (opj_add rfl rfl (by omega)) ?_ | refine rs_op rfl (opj_sub rfl rfl (by omega)) ?_ | refine rs_op rfl (opj_fcmp rfl rfl rfl) ?_ | refine rs_op rfl (opj_lss rfl rfl) ?_ | refine rs_op rfl (opj_leq rfl rfl) ?_ | refine rs_op rfl (opj_gtr rfl rfl) ?_ | refine rs_op rfl (opj_geq rfl rfl) ?_ | refine rs_op rfl (opj_ieq rfl rfl) ?_ | refine rs_op rfl (opj_ine rfl rfl) ?_ | refine rs_op rfl (opj_beq rfl rfl) ?_ | refine rs_op rfl (opj_bne rfl rfl) ?_)
        | (refine rs_idc ?_; first | refine rs_op rfl (opj_len_m rfl) ?_ | refine rs_op rfl (opj_len_raw rfl) ?_ | refine rs_op rfl (opj_real rfl) ?_ | refine rs_op rfl (opj_imag rfl) ?_ | refine rs_op rfl (opj_complex rfl rfl) ?_)
        | (refine rs_idl ?_; first | refine rs_op rfl (opj_loadX rfl rfl (by (repeat (first | exact List.Mem.head _ | refine List.Mem.tail _ ?_)); done) rfl) ?_ | refine rs_op rfl (opj_loadAX rfl rfl (by (repeat (first | exact List.Mem.head _ | refine List.Mem.tail _ ?_)); done) rfl rfl) ?_ | refine rs_op rfl (opj_loadAP rfl rfl rfl rfl) ?_ | refine rs_op rfl (opj_load1 rfl rfl) ?_)
        | (refine rs_ida ?_; first | refine rs_op rfl (opj_index_m rfl rfl (by omega) (by omega)) ?_ | refine rs_op rfl (opj_index_own rfl rfl (by omega) (by omega)) ?_)
        | refine rs_op rfl (opj_field_own rfl) ?_
        | refine rs_op rfl (opj_field_ptr rfl) ?_
        | refine rs_op rfl (opj_wide rfl) ?_
        | refine rs_op rfl (opj_iconv rfl) ?_
        | refine rs_op rfl (opj_extract rfl rfl) ?_
        | refine rs_op rfl (opj_pick_t rfl rfl) ?_
        | refine rs_op rfl (opj_pick_f rfl rfl) ?_
        | refine rs_op rfl (opj_not rfl) ?_
        | refine rs_nil ?_
        | (refine done_id ?_; first | refine done_normal_then ?_ | refine done_ret_then ?_ | refine done_exit_then ?_ | refine done_normal_block ?_ | refine done_ret_block ?_ | refine done_exit_here ?_ | refine done_exit_on rfl ?_ | refine done_ret_round ?_ | refine done_exit_round ?_)
        | (refine ws_id ?_; first | refine ws_seq ?_ | refine ws_region ?_ | refine ws_block ?_ | refine ws_skip ?_ | refine ws_ret ?_ | refine ws_exit ?_ | refine ws_cond_t rfl ?_ | refine ws_cond_f rfl ?_)
        | refine rs_gy rfl rfl ?_
        | refine rs_no rfl rfl rfl rfl ?_
        | (refine rs_boxA rfl rfl rfl ?_; intro g)
        | (refine rs_alloc rfl rfl ?_; intro g)
        | (refine rs_idst ?_; first | refine rs_storeX 0 rfl rfl rfl rfl rfl rfl ?_ | refine rs_storeX 1 rfl rfl rfl rfl rfl rfl ?_ | refine rs_storeX 2 rfl rfl rfl rfl rfl rfl ?_ | refine rs_storeX 3 rfl rfl rfl rfl rfl rfl ?_ | refine rs_storeX 4 rfl rfl rfl rfl rfl rfl ?_ | refine rs_storeX 5 rfl rfl rfl rfl rfl rfl ?_ | refine rs_storeAX 0 rfl rfl rfl rfl rfl rfl rfl rfl rfl ?_ | refine rs_storeAX 1 rfl rfl rfl rfl rfl rfl rfl rfl rfl ?_ | refine rs_storeAX 2 rfl rfl rfl rfl rfl rfl rfl rfl rfl ?_ | refine rs_storeAX 3 rfl rfl rfl rfl rfl rfl rfl rfl rfl ?_ | refine rs_storeAX 4 rfl rfl rfl rfl rfl rfl rfl rfl rfl ?_ | refine rs_storeAX 5 rfl rfl rfl rfl rfl rfl rfl rfl rfl ?_ | refine rs_storeAS 0 rfl rfl rfl rfl rfl rfl ?_ | refine rs_storeAS 1 rfl rfl rfl rfl rfl rfl ?_ | refine rs_storeAS 2 rfl rfl rfl rfl rfl rfl ?_ | refine rs_storeAS 3 rfl rfl rfl rfl rfl rfl ?_)
  refine ws_loop (ι := Nat) (fun k => [(0, slI w0 L), (3, slv g L.length), (4, .raw (.int .i64 k))])
    (fun k => St w0 [] [⟨g, 2, (L.take k ++ List.replicate (L.length - k) 0).map intA, L.length⟩]) (fun k => k ≤ L.length) (fun k => L.length - k) 0 (Nat.zero_le _) ?_ (fun _ h => by simpa using h) (fun k hk => ?_)
  · (repeat (first | exact Env.sub_nil _ | refine Env.sub_cons rfl ?_))
  · repeat
      first
          | refine rs_op rfl (opj_move rfl) ?_
          | refine rs_op rfl (opj_assign rfl) ?_
          | (refine rs_idb ?_; first | refine rs_op rfl (opj_fbin rfl rfl rfl) ?_ | refine rs_op rfl (opj_add rfl rfl (by omega)) ?_ | refine rs_op rfl (opj_sub rfl rfl (by omega)) ?_ | refine rs_op rfl (opj_fcmp rfl rfl rfl) ?_ | refine rs_op rfl (opj_lss rfl rfl) ?_ | refine rs_op rfl (opj_leq rfl rfl) ?_ | refine rs_op rfl (opj_gtr rfl rfl) ?_ | refine rs_op rfl (opj_geq rfl rfl) ?_ | refine rs_op rfl (opj_ieq rfl rfl) ?_ | refine rs_op rfl (opj_ine rfl rfl) ?_ | refine rs_op rfl (opj_beq rfl rfl) ?_ | refine rs_op rfl (opj_bne rfl rfl) ?_)
          | (refine rs_idc ?_; first | refine rs_op rfl (opj_len_m rfl) ?_ | refine rs_op rfl (opj_len_raw rfl) ?_ | refine rs_op rfl (opj_real rfl) ?_ | refine rs_op rfl (opj_imag rfl) ?_ | refine rs_op rfl (opj_complex rfl rfl) ?_)
          | (refine rs_idl ?_; first | refine rs_op rfl (opj_loadX rfl rfl (by (repeat (first | exact List.Mem.head _ | refine List.Mem.tail _ ?_)); done) rfl) ?_ | refine rs_op rfl (opj_loadAX rfl rfl (by (repeat (first | exact List.Mem.head _ | refine List.Mem.tail _ ?_)); done) rfl rfl) ?_ | refine rs_op rfl (opj_loadAP rfl rfl rfl rfl) ?_ | refine rs_op rfl (opj_load1 rfl rfl) ?_)
          | (refine rs_ida ?_; first | refine rs_op rfl (opj_index_m rfl rfl (by omega) (by omega)) ?_ | refine rs_op rfl (opj_index_own rfl rfl (by omega) (by omega)) ?_)
          | refine rs_op rfl (opj_field_own rfl) ?_
          | refine rs_op rfl (opj_field_ptr rfl) ?_
          | refine rs_op rfl (opj_wide rfl) ?_
          | refine rs_op rfl (opj_iconv rfl) ?_
          | refine rs_op rfl (opj_extract rfl rfl) ?_
          | refine rs_op rfl (opj_pick_t rfl rfl) ?_
          | refine rs_op rfl (opj_pick_f rfl rfl) ?_
          | refine rs_op rfl (opj_not rfl) ?_
          | refine rs_nil ?_
          | (refine done_id ?_; first | refine done_normal_then ?_ | refine done_ret_then ?_ | refine done_exit_then ?_ | refine done_normal_block ?_ | refine done_ret_block ?_ | refine done_exit_here ?_ | refine done_exit_on rfl ?_ | refine done_ret_round ?_ | refine done_exit_round ?_)
          | (refine ws_id ?_; first | refine ws_seq ?_ | refine ws_region ?_ | refine ws_block ?_ | refine ws_skip ?_ | refine ws_ret ?_ | refine ws_exit ?_ | refine ws_cond_t rfl ?_ | refine ws_cond_f rfl ?_)
          | refine rs_gy rfl rfl ?_
          | refine rs_no rfl rfl rfl rfl ?_
          | (refine rs_boxA rfl rfl rfl ?_; intro g)
          | (refine rs_alloc rfl rfl ?_; intro g)
          | (refine rs_idst ?_; first | refine rs_storeX 0 rfl rfl rfl rfl rfl rfl ?_ | refine rs_storeX 1 rfl rfl rfl rfl rfl rfl ?_ | refine rs_storeX 2 rfl rfl rfl rfl rfl rfl ?_ | refine rs_storeX 3 rfl rfl rfl rfl rfl rfl ?_ | refine rs_storeX 4 rfl rfl rfl rfl rfl rfl ?_ | refine rs_storeX 5 rfl rfl rfl rfl rfl rfl ?_ | refine rs_storeAX 0 rfl rfl rfl rfl rfl rfl rfl rfl rfl ?_ | refine rs_storeAX 1 rfl rfl rfl rfl rfl rfl rfl rfl rfl ?_ | refine rs_storeAX 2 rfl rfl rfl rfl rfl rfl rfl rfl rfl ?_ | refine rs_storeAX 3 rfl rfl rfl rfl rfl rfl rfl rfl rfl ?_ | refine rs_storeAX 4 rfl rfl rfl rfl rfl rfl rfl rfl rfl ?_ | refine rs_storeAX 5 rfl rfl rfl rfl rfl rfl rfl rfl rfl ?_ | refine rs_storeAS 0 rfl rfl rfl rfl rfl rfl ?_ | refine rs_storeAS 1 rfl rfl rfl rfl rfl rfl ?_ | refine rs_storeAS 2 rfl rfl rfl rfl rfl rfl ?_ | refine rs_storeAS 3 rfl rfl rfl rfl rfl rfl ?_)
    refine ws_cond rfl (fun hc => ?_) (fun hc => ?_)
    · have hlt : (k : Int) < L.length := of_decide_eq_true hc
      repeat
        first
            | refine rs_op rfl (opj_move rfl) ?_
            | refine rs_op rfl (opj_assign rfl) ?_
            | (refine rs_idb ?_; first | refine rs_op rfl (opj_fbin rfl rfl rfl) ?_ | refine rs_op rfl (opj_add rfl rfl (by omega)) ?_ | refine rs_op rfl (opj_sub rfl rfl (by omega)) ?_ | refine rs_op rfl (opj_fcmp rfl rfl rfl) ?_ | refine rs_op rfl (opj_lss rfl rfl) ?_ | refine rs_op rfl (opj_leq rfl rfl) ?_ | refine rs_op rfl (opj_gtr rfl rfl) ?_ | refine rs_op rfl (opj_geq rfl rfl) ?_ | refine rs_op rfl (opj_ieq rfl rfl) ?_ | refine rs_op rfl (opj_ine rfl rfl) ?_ | refine rs_op rfl (opj_beq rfl rfl) ?_ | refine rs_op rfl (opj_bne rfl rfl) ?_)
            | (refine rs_idc ?_; first | refine rs_op rfl (opj_len_m rfl) ?_ | refine rs_op rfl (opj_len_raw rfl) ?_ | refine rs_op rfl (opj_real rfl) ?_ | refine rs_op rfl (opj_imag rfl) ?_ | refine rs_op rfl (opj_complex rfl rfl) ?_)
            | (refine rs_idl ?_; first | refine rs_op rfl (opj_loadX rfl rfl (by (repeat (first | exact List.Mem.head _ | refine List.Mem.tail _ ?_)); done) rfl) ?_ | refine rs_op rfl (opj_loadAX rfl rfl (by (repeat (first | exact List.Mem.head _ | refine List.Mem.tail _ ?_)); done) rfl rfl) ?_ | refine rs_op rfl (opj_loadAP rfl rfl rfl rfl) ?_ | refine rs_op rfl (opj_load1 rfl rfl) ?_)
            | (refine rs_ida ?_; first | refine rs_op rfl (opj_index_m rfl rfl (by omega) (by omega)) ?_ | refine rs_op rfl (opj_index_own rfl rfl (by omega) (by omega)) ?_)
            | refine rs_op rfl (opj_field_own rfl) ?_
            | refine rs_op rfl (opj_field_ptr rfl) ?_
            | refine rs_op rfl (opj_wide rfl) ?_
            | refine rs_op rfl (opj_iconv rfl) ?_
            | refine rs_op rfl (opj_extract rfl rfl) ?_
            | refine rs_op rfl (opj_pick_t rfl rfl) ?_
            | refine rs_op rfl (opj_pick_f rfl rfl) ?_
            | refine rs_op rfl (opj_not rfl) ?_
            | refine rs_nil ?_
            | (refine done_id ?_; first | refine done_normal_then ?_ | refine done_ret_then ?_ | refine done_exit_then ?_ | refine done_normal_block ?_ | refine done_ret_block ?_ | refine done_exit_here ?_ | refine done_exit_on rfl ?_ | refine done_ret_round ?_ | refine done_exit_round ?_)
            | (refine ws_id ?_; first | refine ws_seq ?_ | refine ws_region ?_ | refine ws_block ?_ | refine ws_skip ?_ | refine ws_ret ?_ | refine ws_exit ?_ | refine ws_cond_t rfl ?_ | refine ws_cond_f rfl ?_)
            | refine rs_gy rfl rfl ?_
            | refine rs_no rfl rfl rfl rfl ?_
            | (refine rs_boxA rfl rfl rfl ?_; intro g)
            | (refine rs_alloc rfl rfl ?_; intro g)
            | (refine rs_idst ?_; first | refine rs_storeX 0 rfl rfl rfl rfl rfl rfl ?_ | refine rs_storeX 1 rfl rfl rfl rfl rfl rfl ?_ | refine rs_storeX 2 rfl rfl rfl rfl rfl rfl ?_ | refine rs_storeX 3 rfl rfl rfl rfl rfl rfl ?_ | refine rs_storeX 4 rfl rfl rfl rfl rfl rfl ?_ | refine rs_storeX 5 rfl rfl rfl rfl rfl rfl ?_ | refine rs_storeAX 0 rfl rfl rfl rfl rfl rfl rfl rfl rfl ?_ | refine rs_storeAX 1 rfl rfl rfl rfl rfl rfl rfl rfl rfl ?_ | refine rs_storeAX 2 rfl rfl rfl rfl rfl rfl rfl rfl rfl ?_ | refine rs_storeAX 3 rfl rfl rfl rfl rfl rfl rfl rfl rfl ?_ | refine rs_storeAX 4 rfl rfl rfl rfl rfl rfl rfl rfl rfl ?_ | refine rs_storeAX 5 rfl rfl rfl rfl rfl rfl rfl rfl rfl ?_ | refine rs_storeAS 0 rfl rfl rfl rfl rfl rfl ?_ | refine rs_storeAS 1 rfl rfl rfl rfl rfl rfl ?_ | refine rs_storeAS 2 rfl rfl rfl rfl rfl rfl ?_ | refine rs_storeAS 3 rfl rfl rfl rfl rfl rfl ?_)
      refine rs_store (m := intA) rfl rfl rfl (by omega) ?_
      repeat
        first
            | refine rs_op rfl (opj_move rfl) ?_
            | refine rs_op rfl (opj_assign rfl) ?_
            | (refine rs_idb ?_; first | refine rs_op rfl (opj_fbin rfl rfl rfl) ?_ | refine rs_op rfl (opj_add rfl rfl (by omega)) ?_ | refine rs_op rfl (opj_sub rfl rfl (by omega)) ?_ | refine rs_op rfl (opj_fcmp rfl rfl rfl) ?_ | refine rs_op rfl (opj_lss rfl rfl) ?_ | refine rs_op rfl (opj_leq rfl rfl) ?_ | refine rs_op rfl (opj_gtr rfl rfl) ?_ | refine rs_op rfl (opj_geq rfl rfl) ?_ | refine rs_op rfl (opj_ieq rfl rfl) ?_ | refine rs_op rfl (opj_ine rfl rfl) ?_ | refine rs_op rfl (opj_beq rfl rfl) ?_ | refine rs_op rfl (opj_bne rfl rfl) ?_)
            | (refine rs_idc ?_; first | refine rs_op rfl (opj_len_m rfl) ?_ | refine rs_op rfl (opj_len_raw rfl) ?_ | refine rs_op rfl (opj_real rfl) ?_ | refine rs_op rfl (opj_imag rfl) ?_ | refine rs_op rfl (opj_complex rfl rfl) ?_)
            | (refine rs_idl ?_; first | refine rs_op rfl (opj_loadX rfl rfl (by (repeat (first | exact List.Mem.head _ | refine List.Mem.tail _ ?_)); done) rfl) ?_ | refine rs_op rfl (opj_loadAX rfl rfl (by (repeat (first | exact List.Mem.head _ | refine List.Mem.tail _ ?_)); done) rfl rfl) ?_ | refine rs_op rfl (opj_loadAP rfl rfl rfl rfl) ?_ | refine rs_op rfl (opj_load1 rfl rfl) ?_)
            | (refine rs_ida ?_; first | refine rs_op rfl (opj_index_m rfl rfl (by omega) (by omega)) ?_ | refine rs_op rfl (opj_index_own rfl rfl (by omega) (by omega)) ?_)
            | refine rs_op rfl (opj_field_own rfl) ?_
            | refine rs_op rfl (opj_field_ptr rfl) ?_
            | refine rs_op rfl (opj_wide rfl) ?_
            | refine rs_op rfl (opj_iconv rfl) ?_
            | refine rs_op rfl (opj_extract rfl rfl) ?_
            | refine rs_op rfl (opj_pick_t rfl rfl) ?_
            | refine rs_op rfl (opj_pick_f rfl rfl) ?_
            | refine rs_op rfl (opj_not rfl) ?_
            | refine rs_nil ?_
            | (refine done_id ?_; first | refine done_normal_then ?_ | refine done_ret_then ?_ | refine done_exit_then ?_ | refine done_normal_block ?_ | refine done_ret_block ?_ | refine done_exit_here ?_ | refine done_exit_on rfl ?_ | refine done_ret_round ?_ | refine done_exit_round ?_)
            | (refine ws_id ?_; first | refine ws_seq ?_ | refine ws_region ?_ | refine ws_block ?_ | refine ws_skip ?_ | refine ws_ret ?_ | refine ws_exit ?_ | refine ws_cond_t rfl ?_ | refine ws_cond_f rfl ?_)
            | refine rs_gy rfl rfl ?_
            | refine rs_no rfl rfl rfl rfl ?_
            | (refine rs_boxA rfl rfl rfl ?_; intro g)
            | (refine rs_alloc rfl rfl ?_; intro g)
            | (refine rs_idst ?_; first | refine rs_storeX 0 rfl rfl rfl rfl rfl rfl ?_ | refine rs_storeX 1 rfl rfl rfl rfl rfl rfl ?_ | refine rs_storeX 2 rfl rfl rfl rfl rfl rfl ?_ | refine rs_storeX 3 rfl rfl rfl rfl rfl rfl ?_ | refine rs_storeX 4 rfl rfl rfl rfl rfl rfl ?_ | refine rs_storeX 5 rfl rfl rfl rfl rfl rfl ?_ | refine rs_storeAX 0 rfl rfl rfl rfl rfl rfl rfl rfl rfl ?_ | refine rs_storeAX 1 rfl rfl rfl rfl rfl rfl rfl rfl rfl ?_ | refine rs_storeAX 2 rfl rfl rfl rfl rfl rfl rfl rfl rfl ?_ | refine rs_storeAX 3 rfl rfl rfl rfl rfl rfl rfl rfl rfl ?_ | refine rs_storeAX 4 rfl rfl rfl rfl rfl rfl rfl rfl rfl ?_ | refine rs_storeAX 5 rfl rfl rfl rfl rfl rfl rfl rfl rfl ?_ | refine rs_storeAS 0 rfl rfl rfl rfl rfl rfl ?_ | refine rs_storeAS 1 rfl rfl rfl rfl rfl rfl ?_ | refine rs_storeAS 2 rfl rfl rfl rfl rfl rfl ?_ | refine rs_storeAS 3 rfl rfl rfl rfl rfl rfl ?_)
      refine done_round (k + 1) (by omega) (by omega) ?_ (fun _ h => ?_)
      · (repeat (first | exact Env.sub_nil _ | refine Env.sub_cons rfl ?_))
      · rw [copy_step L _ (by omega)] at h; exact h
    · have hge : ¬ (k : Int) < L.length := of_decide_eq_false hc
      have hkl : k = L.length := by omega
      subst hkl
      rw [copy_end]
      repeat
        first
            | refine rs_op rfl (opj_move rfl) ?_
            | refine rs_op rfl (opj_assign rfl) ?_
            | (refine rs_idb ?_; first | refine rs_op rfl (opj_fbin rfl rfl rfl) ?_ | refine rs_op rfl (opj_add rfl rfl (by omega)) ?_ | refine rs_op rfl (opj_sub rfl rfl (by omega)) ?_ | refine rs_op rfl (opj_fcmp rfl rfl rfl) ?_ | refine rs_op rfl (opj_lss rfl rfl) ?_ | refine rs_op rfl (opj_leq rfl rfl) ?_ | refine rs_op rfl (opj_gtr rfl rfl) ?_ | refine rs_op rfl (opj_geq rfl rfl) ?_ | refine rs_op rfl (opj_ieq rfl rfl) ?_ | refine rs_op rfl (opj_ine rfl rfl) ?_ | refine rs_op rfl (opj_beq rfl rfl) ?_ | refine rs_op rfl (opj_bne rfl rfl) ?_)
            | (refine rs_idc ?_; first | refine rs_op rfl (opj_len_m rfl) ?_ | refine rs_op rfl (opj_len_raw rfl) ?_ | refine rs_op rfl (opj_real rfl) ?_ | refine rs_op rfl (opj_imag rfl) ?_ | refine rs_op rfl (opj_complex rfl rfl) ?_)
            | (refine rs_idl ?_; first | refine rs_op rfl (opj_loadX rfl rfl (by (repeat (first | exact List.Mem.head _ | refine List.Mem.tail _ ?_)); done) rfl) ?_ | refine rs_op rfl (opj_loadAX rfl rfl (by (repeat (first | exact List.Mem.head _ | refine List.Mem.tail _ ?_)); done) rfl rfl) ?_ | refine rs_op rfl (opj_loadAP rfl rfl rfl rfl) ?_ | refine rs_op rfl (opj_load1 rfl rfl) ?_)
            | (refine rs_ida ?_; first | refine rs_op rfl (opj_index_m rfl rfl (by omega) (by omega)) ?_ | refine rs_op rfl (opj_index_own rfl rfl (by omega) (by omega)) ?_)
            | refine rs_op rfl (opj_field_own rfl) ?_
            | refine rs_op rfl (opj_field_ptr rfl) ?_
            | refine rs_op rfl (opj_wide rfl) ?_
            | refine rs_op rfl (opj_iconv rfl) ?_
            | refine rs_op rfl (opj_extract rfl rfl) ?_
            | refine rs_op rfl (opj_pick_t rfl rfl) ?_
            | refine rs_op rfl (opj_pick_f rfl rfl) ?_
            | refine rs_op rfl (opj_not rfl) ?_
            | refine rs_nil ?_
            | (refine done_id ?_; first | refine done_normal_then ?_ | refine done_ret_then ?_ | refine done_exit_then ?_ | refine done_normal_block ?_ | refine done_ret_block ?_ | refine done_exit_here ?_ | refine done_exit_on rfl ?_ | refine done_ret_round ?_ | refine done_exit_round ?_)
            | (refine ws_id ?_; first | refine ws_seq ?_ | refine ws_region ?_ | refine ws_block ?_ | refine ws_skip ?_ | refine ws_ret ?_ | refine ws_exit ?_ | refine ws_cond_t rfl ?_ | refine ws_cond_f rfl ?_)
            | refine rs_gy rfl rfl ?_
            | refine rs_no rfl rfl rfl rfl ?_
            | (refine rs_boxA rfl rfl rfl ?_; intro g)
            | (refine rs_alloc rfl rfl ?_; intro g)
            | (refine rs_idst ?_; first | refine rs_storeX 0 rfl rfl rfl rfl rfl rfl ?_ | refine rs_storeX 1 rfl rfl rfl rfl rfl rfl ?_ | refine rs_storeX 2 rfl rfl rfl rfl rfl rfl ?_ | refine rs_storeX 3 rfl rfl rfl rfl rfl rfl ?_ | refine rs_storeX 4 rfl rfl rfl rfl rfl rfl ?_ | refine rs_storeX 5 rfl rfl rfl rfl rfl rfl ?_ | refine rs_storeAX 0 rfl rfl rfl rfl rfl rfl rfl rfl rfl ?_ | refine rs_storeAX 1 rfl rfl rfl rfl rfl rfl rfl rfl rfl ?_ | refine rs_storeAX 2 rfl rfl rfl rfl rfl rfl rfl rfl rfl ?_ | refine rs_storeAX 3 rfl rfl rfl rfl rfl rfl rfl rfl rfl ?_ | refine rs_storeAX 4 rfl rfl rfl rfl rfl rfl rfl rfl rfl ?_ | refine rs_storeAX 5 rfl rfl rfl rfl rfl rfl rfl rfl rfl ?_ | refine rs_storeAS 0 rfl rfl rfl rfl rfl rfl ?_ | refine rs_storeAS 1 rfl rfl rfl rfl rfl rfl ?_ | refine rs_storeAS 2 rfl rfl rfl rfl rfl rfl ?_ | refine rs_storeAS 3 rfl rfl rfl rfl rfl rfl ?_)
      exact done_ret1 rfl g rfl trivial (List.Sublist.refl _)
theorem toSpot_fn (x y z : FV) : FnH (X := Unit) Try.prog 137 (fun _ => [.agg [.f .f32 x, .f .f32 y, .f .f32 z]]) [] (fun _ => .agg [.f .f32 x, .f .f32 y, .f .f32 z]) (fun _ => []) (fun _ => True) := by
  refine fn_intro Try.func137 rfl Try.ntmps137 (fun _ => Nat.le_of_ble_eq_true rfl) fun w0 => ?_
  repeat
    first
        | refine rs_op rfl (opj_move rfl) ?_
        | refine rs_op rfl (opj_assign rfl) ?_
        | (refine rs_idb ?_; first | refine rs_op rfl (opj_fbin rfl rfl rfl) ?_ | refine rs_op rfl (opj_add rfl rfl (by omega)) ?_ | refine rs_op rfl (opj_sub rfl rfl (by omega)) ?_ | refine rs_op rfl (opj_fcmp rfl rfl rfl) ?_ | refine rs_op rfl (opj_lss rfl rfl) ?_ | refine rs_op rfl (opj_leq rfl rfl) ?_ | refine rs_op rfl (opj_gtr rfl rfl) ?_ | refine rs_op rfl (opj_geq rfl rfl) ?_ | refine rs_op rfl (opj_ieq rfl rfl) ?_ | refine rs_op rfl (opj_ine rfl rfl) ?_ | refine rs_op rfl (opj_beq rfl rfl) ?_ | refine rs_op rfl (opj_bne rfl rfl) ?_)
        | (refine rs_idc ?_; first | refine rs_op rfl (opj_len_m rfl) ?_ | refine rs_op rfl (opj_len_raw rfl) ?_ | refine rs_op rfl (opj_real rfl) ?_ | refine rs_op rfl (opj_imag rfl) ?_ | refine rs_op rfl (opj_complex rfl rfl) ?_)
        | (refine rs_idl ?_; first | refine rs_op rfl (opj_loadX rfl rfl (by (repeat (first | exact List.Mem.head _ | refine List.Mem.tail _ ?_)); done) rfl) ?_ | refine rs_op rfl (opj_loadAX rfl rfl (by (repeat (first | exact List.Mem.head _ | refine List.Mem.tail _ ?_)); done) rfl rfl) ?_ | refine rs_op rfl (opj_loadAP rfl rfl rfl rfl) ?_ | refine rs_op rfl (opj_load1 rfl rfl) ?_)
        | (refine rs_ida ?_; first | refine rs_op rfl (opj_index_m rfl rfl (by omega) (by omega)) ?_ | refine rs_op rfl (opj_index_own rfl rfl (by omega) (by omega)) ?_)
        | refine rs_op rfl (opj_field_own rfl) ?_
        | refine rs_op rfl (opj_field_ptr rfl) ?_
        | refine rs_op rfl (opj_wide rfl) ?_
        | refine rs_op rfl (opj_iconv rfl) ?_
        | refine rs_op rfl (opj_extract rfl rfl) ?_
        | refine rs_op rfl (opj_pick_t rfl rfl) ?_
        | refine rs_op rfl (opj_pick_f rfl rfl) ?_
        | refine rs_op rfl (opj_not rfl) ?_
        | refine rs_nil ?_
        | (refine done_id ?_; first | refine done_normal_then ?_ | refine done_ret_then ?_ | refine done_exit_then ?_ | refine done_normal_block ?_ | refine done_ret_block ?_ | refine done_exit_here ?_ | refine done_exit_on rfl ?_ | refine done_ret_round ?_ | refine done_exit_round ?_)
        | (refine ws_id ?_; first | refine ws_seq ?_ | refine ws_region ?_ | refine ws_block ?_ | refine ws_skip ?_ | refine ws_ret ?_ | refine ws_exit ?_ | refine ws_cond_t rfl ?_ | refine ws_cond_f rfl ?_)
        | refine rs_gy rfl rfl ?_
        | refine rs_no rfl rfl rfl rfl ?_
        | (refine rs_boxA rfl rfl rfl ?_; intro g)
        | (refine rs_alloc rfl rfl ?_; intro g)
        | (refine rs_idst ?_; first | refine rs_storeX 0 rfl rfl rfl rfl rfl rfl ?_ | refine rs_storeX 1 rfl rfl rfl rfl rfl rfl ?_ | refine rs_storeX 2 rfl rfl rfl rfl rfl rfl ?_ | refine rs_storeX 3 rfl rfl rfl rfl rfl rfl ?_ | refine rs_storeX 4 rfl rfl rfl rfl rfl rfl ?_ | refine rs_storeX 5 rfl rfl rfl rfl rfl rfl ?_ | refine rs_storeAX 0 rfl rfl rfl rfl rfl rfl rfl rfl rfl ?_ | refine rs_storeAX 1 rfl rfl rfl rfl rfl rfl rfl rfl rfl ?_ | refine rs_storeAX 2 rfl rfl rfl rfl rfl rfl rfl rfl rfl ?_ | refine rs_storeAX 3 rfl rfl rfl rfl rfl rfl rfl rfl rfl ?_ | refine rs_storeAX 4 rfl rfl rfl rfl rfl rfl rfl rfl rfl ?_ | refine rs_storeAX 5 rfl rfl rfl rfl rfl rfl rfl rfl rfl ?_ | refine rs_storeAS 0 rfl rfl rfl rfl rfl rfl ?_ | refine rs_storeAS 1 rfl rfl rfl rfl rfl rfl ?_ | refine rs_storeAS 2 rfl rfl rfl rfl rfl rfl ?_ | refine rs_storeAS 3 rfl rfl rfl rfl rfl rfl ?_)
  exact done_retX rfl rfl () rfl (by (repeat (first | exact List.Mem.head _ | refine List.Mem.tail _ ?_)); done) rfl rfl rfl trivial (List.nil_sublist _)
theorem toFacet_fn (L : List Int) (hL : L.length < 2 ^ 44) : FnH (X := Nat) Try.prog 138 (fun w => [.agg [facA w L]]) [] (fun g => .agg [slv g L.length]) (fun g => [entI g L]) (fun _ => True) := by
  refine fn_intro Try.func138 rfl Try.ntmps138 (fun _ => Nat.le_of_ble_eq_true rfl) fun w0 => ?_
  repeat
    first
        | refine rs_op rfl (opj_move rfl) ?_
        | refine rs_op rfl (opj_assign rfl) ?_
        | (refine rs_idb ?_; first | refine rs_op rfl (opj_fbin rfl rfl rfl) ?_ | refine rs_op rfl (opj_add rfl rfl (by omega)) ?_ | refine rs_op rfl (opj_sub rfl rfl (by omega)) ?_ | refine rs_op rfl (opj_fcmp rfl rfl rfl) ?_ | refine rs_op rfl (opj_lss rfl rfl) ?_ | refine rs_op rfl (opj_leq rfl rfl) ?_ | refine rs_op rfl (opj_gtr rfl rfl) ?_ | refine rs_op rfl (opj_geq rfl rfl) ?_ | refine rs_op rfl (opj_ieq rfl rfl) ?_ | refine rs_op rfl (opj_ine rfl rfl) ?_ | refine rs_op rfl (opj_beq rfl rfl) ?_ | refine rs_op rfl (opj_bne rfl rfl) ?_)
        | (refine rs_idc ?_; first | refine rs_op rfl (opj_len_m rfl) ?_ | refine rs_op rfl (opj_len_raw rfl) ?_ | refine rs_op rfl (opj_real rfl) ?_ | refine rs_op rfl (opj_imag rfl) ?_ | refine rs_op rfl (opj_complex rfl rfl) ?_ | (refine rs_call1 (toInt64S_fn L hL) rfl rfl ?_ rfl ?_; (focus ((repeat (first | exact Takes.nil | refine Takes.sl ?_ | refine Takes.fa ?_ | refine Takes.fc ?_ | refine Takes.net ?_ | (refine Takes.ownE ?_ ?_ ?_ ?_ ?_; (focus (exact ⟨_, _, (by (repeat (first | exact List.Mem.head _ | refine List.Mem.tail _ ?_)); done)⟩)); (focus (simp; done)); (focus omega); (focus (simp only [maxLen]; omega))) | refine Takes.same ?_)); done)); rintro g -))
        | (refine rs_idl ?_; first | refine rs_op rfl (opj_loadX rfl rfl (by (repeat (first | exact List.Mem.head _ | refine List.Mem.tail _ ?_)); done) rfl) ?_ | refine rs_op rfl (opj_loadAX rfl rfl (by (repeat (first | exact List.Mem.head _ | refine List.Mem.tail _ ?_)); done) rfl rfl) ?_ | refine rs_op rfl (opj_loadAP rfl rfl rfl rfl) ?_ | refine rs_op rfl (opj_load1 rfl rfl) ?_)
        | (refine rs_ida ?_; first | refine rs_op rfl (opj_index_m rfl rfl (by omega) (by omega)) ?_ | refine rs_op rfl (opj_index_own rfl rfl (by omega) (by omega)) ?_)
        | refine rs_op rfl (opj_field_own rfl) ?_
        | refine rs_op rfl (opj_field_ptr rfl) ?_
        | refine rs_op rfl (opj_wide rfl) ?_
        | refine rs_op rfl (opj_iconv rfl) ?_
        | refine rs_op rfl (opj_extract rfl rfl) ?_
        | refine rs_op rfl (opj_pick_t rfl rfl) ?_
        | refine rs_op rfl (opj_pick_f rfl rfl) ?_
        | refine rs_op rfl (opj_not rfl) ?_
        | refine rs_nil ?_
        | (refine done_id ?_; first | refine done_normal_then ?_ | refine done_ret_then ?_ | refine done_exit_then ?_ | refine done_normal_block ?_ | refine done_ret_block ?_ | refine done_exit_here ?_ | refine done_exit_on rfl ?_ | refine done_ret_round ?_ | refine done_exit_round ?_)
        | (refine ws_id ?_; first | refine ws_seq ?_ | refine ws_region ?_ | refine ws_block ?_ | refine ws_skip ?_ | refine ws_ret ?_ | refine ws_exit ?_ | refine ws_cond_t rfl ?_ | refine ws_cond_f rfl ?_)
        | refine rs_gy rfl rfl ?_
        | refine rs_no rfl rfl rfl rfl ?_
        | (refine rs_boxA rfl rfl rfl ?_; intro g)
        | (refine rs_alloc rfl rfl ?_; intro g)
        | (refine rs_idst ?_; first | refine rs_storeX 0 rfl rfl rfl rfl rfl rfl ?_ | refine rs_storeX 1 rfl rfl rfl rfl rfl rfl ?_ | refine rs_storeX 2 rfl rfl rfl rfl rfl rfl ?_ | refine rs_storeX 3 rfl rfl rfl rfl rfl rfl ?_ | refine rs_storeX 4 rfl rfl rfl rfl rfl rfl ?_ | refine rs_storeX 5 rfl rfl rfl rfl rfl rfl ?_ | refine rs_storeAX 0 rfl rfl rfl rfl rfl rfl rfl rfl rfl ?_ | refine rs_storeAX 1 rfl rfl rfl rfl rfl rfl rfl rfl rfl ?_ | refine rs_storeAX 2 rfl rfl rfl rfl rfl rfl rfl rfl rfl ?_ | refine rs_storeAX 3 rfl rfl rfl rfl rfl rfl rfl rfl rfl ?_ | refine rs_storeAX 4 rfl rfl rfl rfl rfl rfl rfl rfl rfl ?_ | refine rs_storeAX 5 rfl rfl rfl rfl rfl rfl rfl rfl rfl ?_ | refine rs_storeAS 0 rfl rfl rfl rfl rfl rfl ?_ | refine rs_storeAS 1 rfl rfl rfl rfl rfl rfl ?_ | refine rs_storeAS 2 rfl rfl rfl rfl rfl rfl ?_ | refine rs_storeAS 3 rfl rfl rfl rfl rfl rfl ?_)
  refine done_retX rfl rfl g rfl (by (repeat (first | exact List.Mem.head _ | refine List.Mem.tail _ ?_)); done) rfl rfl rfl trivial ?_
  exact List.Sublist.cons_cons _ (List.nil_sublist _)
end Go.Ab
