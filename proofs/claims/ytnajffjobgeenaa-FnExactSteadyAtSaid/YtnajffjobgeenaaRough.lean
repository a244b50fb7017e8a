/- What RoughOf computes, and the law FnExactRoughOf: what the program's RoughOf and the reference's tell of any list is the same. No conditions. -/
import Derived.Test.YtnajffjobgeenaaB
import Derived.Test.YtnajffjobgeenaaRows
namespace Go.Ab
open Go.Proofs
attribute [local irreducible] WS RS Done OpJ Then InBlock Round Ret Env.sub FnH

/-- A number, if it is finite; else zero. -/
def numF (x : FV) : FV := if finB x then x else fv .f32 0
def numT (x : FV) : AV := .tup [.f .f32 (numF x), .raw (.bool (finB x))]

theorem ifNumber_fn (x : FV) : Fn Try.prog 69 (fun _ => [.f .f32 x]) (numT x) := by
  refine fn_intro Try.func69 rfl Try.ntmps69 (fun _ => Nat.le_of_ble_eq_true rfl) fun w0 => ?_
  repeat
    first
        | refine rs_op rfl (opj_move rfl) ?_
        | refine rs_op rfl (opj_assign rfl) ?_
        | (refine rs_idb ?_; first | refine rs_op rfl (opj_fbin rfl rfl rfl) ?_ | refine rs_op rfl (opj_add rfl rfl (by omega)) ?_ | refine rs_op rfl (opj_sub rfl rfl (by omega)) ?_ | refine rs_op rfl (opj_fcmp rfl rfl rfl) ?_ | refine rs_op rfl (opj_lss rfl rfl) ?_ | refine rs_op rfl (opj_leq rfl rfl) ?_ | refine rs_op rfl (opj_gtr rfl rfl) ?_ | refine rs_op rfl (opj_geq rfl rfl) ?_ | refine rs_op rfl (opj_ieq rfl rfl) ?_ | refine rs_op rfl (opj_ine rfl rfl) ?_ | refine rs_op rfl (opj_beq rfl rfl) ?_ | refine rs_op rfl (opj_bne rfl rfl) ?_)
        | (refine rs_idc ?_; first | refine rs_op rfl (opj_len_m rfl) ?_ | refine rs_op rfl (opj_len_raw rfl) ?_ | refine rs_op rfl (opj_real rfl) ?_ | refine rs_op rfl (opj_imag rfl) ?_ | refine rs_op rfl (opj_complex rfl rfl) ?_ | refine rs_op rfl (opj_call rfl rfl (isFinite_fn _) (by (repeat (first | exact Takes.nil | refine Takes.sl ?_ | refine Takes.own (by first | exact List.Mem.head _ | exact List.Mem.tail _ (List.Mem.head _) | exact List.Mem.tail _ (List.Mem.tail _ (List.Mem.head _)) | exact List.Mem.tail _ (List.Mem.tail _ (List.Mem.tail _ (List.Mem.head _))) | exact List.Mem.tail _ (List.Mem.tail _ (List.Mem.tail _ (List.Mem.tail _ (List.Mem.head _)))) | exact List.Mem.tail _ (List.Mem.tail _ (List.Mem.tail _ (List.Mem.tail _ (List.Mem.tail _ (List.Mem.head _)))))) (by simp) (by omega) (by simp only [maxLen]; omega) ?_ | refine Takes.same ?_)); done)) ?_)
        | refine rs_op rfl (opj_load1 rfl rfl) ?_
        | refine rs_op rfl (opj_index_m rfl rfl (by omega) (by omega)) ?_
        | refine rs_op rfl (opj_index_own rfl rfl (by omega) (by omega)) ?_
        | refine rs_op rfl (opj_wide rfl) ?_
        | refine rs_op rfl (opj_iconv rfl) ?_
        | refine rs_op rfl (opj_extract rfl rfl) ?_
        | refine rs_op rfl (opj_pick_t rfl rfl) ?_
        | refine rs_op rfl (opj_pick_f rfl rfl) ?_
        | refine rs_op rfl (opj_not rfl) ?_
        | refine rs_nil ?_
        | (refine done_id ?_; first | refine done_normal_then ?_ | refine done_ret_then ?_ | refine done_exit_then ?_ | refine done_normal_block ?_ | refine done_ret_block ?_ | refine done_exit_here ?_ | refine done_exit_on rfl ?_ | refine done_ret_round ?_ | refine done_exit_round ?_)
        | (refine ws_id ?_; first | refine ws_seq ?_ | refine ws_region ?_ | refine ws_block ?_ | refine ws_skip ?_ | refine ws_ret ?_ | refine ws_exit ?_ | refine ws_cond_t rfl ?_ | refine ws_cond_f rfl ?_)
        | refine rs_gy rfl rfl ?_
        | refine rs_no rfl rfl rfl rfl ?_
  refine ws_cond rfl (fun hc => ?_) (fun hc => ?_)
  · have hf : finB x = false := by simpa using hc
    repeat
      first
          | refine rs_op rfl (opj_move rfl) ?_
          | refine rs_op rfl (opj_assign rfl) ?_
          | (refine rs_idb ?_; first | refine rs_op rfl (opj_fbin rfl rfl rfl) ?_ | refine rs_op rfl (opj_add rfl rfl (by omega)) ?_ | refine rs_op rfl (opj_sub rfl rfl (by omega)) ?_ | refine rs_op rfl (opj_fcmp rfl rfl rfl) ?_ | refine rs_op rfl (opj_lss rfl rfl) ?_ | refine rs_op rfl (opj_leq rfl rfl) ?_ | refine rs_op rfl (opj_gtr rfl rfl) ?_ | refine rs_op rfl (opj_geq rfl rfl) ?_ | refine rs_op rfl (opj_ieq rfl rfl) ?_ | refine rs_op rfl (opj_ine rfl rfl) ?_ | refine rs_op rfl (opj_beq rfl rfl) ?_ | refine rs_op rfl (opj_bne rfl rfl) ?_)
          | (refine rs_idc ?_; first | refine rs_op rfl (opj_len_m rfl) ?_ | refine rs_op rfl (opj_len_raw rfl) ?_ | refine rs_op rfl (opj_real rfl) ?_ | refine rs_op rfl (opj_imag rfl) ?_ | refine rs_op rfl (opj_complex rfl rfl) ?_)
          | refine rs_op rfl (opj_load1 rfl rfl) ?_
          | refine rs_op rfl (opj_index_m rfl rfl (by omega) (by omega)) ?_
          | refine rs_op rfl (opj_index_own rfl rfl (by omega) (by omega)) ?_
          | refine rs_op rfl (opj_wide rfl) ?_
          | refine rs_op rfl (opj_iconv rfl) ?_
          | refine rs_op rfl (opj_extract rfl rfl) ?_
          | refine rs_op rfl (opj_pick_t rfl rfl) ?_
          | refine rs_op rfl (opj_pick_f rfl rfl) ?_
          | refine rs_op rfl (opj_not rfl) ?_
          | refine rs_nil ?_
          | (refine done_id ?_; first | refine done_normal_then ?_ | refine done_ret_then ?_ | refine done_exit_then ?_ | refine done_normal_block ?_ | refine done_ret_block ?_ | refine done_exit_here ?_ | refine done_exit_on rfl ?_ | refine done_ret_round ?_ | refine done_exit_round ?_)
          | (refine ws_id ?_; first | refine ws_seq ?_ | refine ws_region ?_ | refine ws_block ?_ | refine ws_skip ?_ | refine ws_ret ?_ | refine ws_exit ?_ | refine ws_cond_t rfl ?_ | refine ws_cond_f rfl ?_)
          | refine rs_gy rfl rfl ?_
          | refine rs_no rfl rfl rfl rfl ?_
    exact done_ret2 rfl () (by simp only [numT, numF, hf]; rfl) rfl rfl trivial (List.nil_sublist _)
  · have hf : finB x = true := by simpa using hc
    repeat
      first
          | refine rs_op rfl (opj_move rfl) ?_
          | refine rs_op rfl (opj_assign rfl) ?_
          | (refine rs_idb ?_; first | refine rs_op rfl (opj_fbin rfl rfl rfl) ?_ | refine rs_op rfl (opj_add rfl rfl (by omega)) ?_ | refine rs_op rfl (opj_sub rfl rfl (by omega)) ?_ | refine rs_op rfl (opj_fcmp rfl rfl rfl) ?_ | refine rs_op rfl (opj_lss rfl rfl) ?_ | refine rs_op rfl (opj_leq rfl rfl) ?_ | refine rs_op rfl (opj_gtr rfl rfl) ?_ | refine rs_op rfl (opj_geq rfl rfl) ?_ | refine rs_op rfl (opj_ieq rfl rfl) ?_ | refine rs_op rfl (opj_ine rfl rfl) ?_ | refine rs_op rfl (opj_beq rfl rfl) ?_ | refine rs_op rfl (opj_bne rfl rfl) ?_)
          | (refine rs_idc ?_; first | refine rs_op rfl (opj_len_m rfl) ?_ | refine rs_op rfl (opj_len_raw rfl) ?_ | refine rs_op rfl (opj_real rfl) ?_ | refine rs_op rfl (opj_imag rfl) ?_ | refine rs_op rfl (opj_complex rfl rfl) ?_)
          | refine rs_op rfl (opj_load1 rfl rfl) ?_
          | refine rs_op rfl (opj_index_m rfl rfl (by omega) (by omega)) ?_
          | refine rs_op rfl (opj_index_own rfl rfl (by omega) (by omega)) ?_
          | refine rs_op rfl (opj_wide rfl) ?_
          | refine rs_op rfl (opj_iconv rfl) ?_
          | refine rs_op rfl (opj_extract rfl rfl) ?_
          | refine rs_op rfl (opj_pick_t rfl rfl) ?_
          | refine rs_op rfl (opj_pick_f rfl rfl) ?_
          | refine rs_op rfl (opj_not rfl) ?_
          | refine rs_nil ?_
          | (refine done_id ?_; first | refine done_normal_then ?_ | refine done_ret_then ?_ | refine done_exit_then ?_ | refine done_normal_block ?_ | refine done_ret_block ?_ | refine done_exit_here ?_ | refine done_exit_on rfl ?_ | refine done_ret_round ?_ | refine done_exit_round ?_)
          | (refine ws_id ?_; first | refine ws_seq ?_ | refine ws_region ?_ | refine ws_block ?_ | refine ws_skip ?_ | refine ws_ret ?_ | refine ws_exit ?_ | refine ws_cond_t rfl ?_ | refine ws_cond_f rfl ?_)
          | refine rs_gy rfl rfl ?_
          | refine rs_no rfl rfl rfl rfl ?_
    exact done_ret2 rfl () (by simp only [numT, numF, hf]; rfl) rfl rfl trivial (List.nil_sublist _)
theorem l02Number_fn (x : FV) : Fn Try.prog 67 (fun _ => [.f .f32 x]) (numT x) := by
  refine fn_intro Try.func67 rfl Try.ntmps67 (fun _ => Nat.le_of_ble_eq_true rfl) fun w0 => ?_
  repeat
    first
        | refine rs_op rfl (opj_move rfl) ?_
        | refine rs_op rfl (opj_assign rfl) ?_
        | (refine rs_idb ?_; first | refine rs_op rfl (opj_fbin rfl rfl rfl) ?_ | refine rs_op rfl (opj_add rfl rfl (by omega)) ?_ | refine rs_op rfl (opj_sub rfl rfl (by omega)) ?_ | refine rs_op rfl (opj_fcmp rfl rfl rfl) ?_ | refine rs_op rfl (opj_lss rfl rfl) ?_ | refine rs_op rfl (opj_leq rfl rfl) ?_ | refine rs_op rfl (opj_gtr rfl rfl) ?_ | refine rs_op rfl (opj_geq rfl rfl) ?_ | refine rs_op rfl (opj_ieq rfl rfl) ?_ | refine rs_op rfl (opj_ine rfl rfl) ?_ | refine rs_op rfl (opj_beq rfl rfl) ?_ | refine rs_op rfl (opj_bne rfl rfl) ?_)
        | (refine rs_idc ?_; first | refine rs_op rfl (opj_len_m rfl) ?_ | refine rs_op rfl (opj_len_raw rfl) ?_ | refine rs_op rfl (opj_real rfl) ?_ | refine rs_op rfl (opj_imag rfl) ?_ | refine rs_op rfl (opj_complex rfl rfl) ?_ | refine rs_op rfl (opj_call rfl rfl (l01Finite_fn _) (by (repeat (first | exact Takes.nil | refine Takes.sl ?_ | refine Takes.own (by first | exact List.Mem.head _ | exact List.Mem.tail _ (List.Mem.head _) | exact List.Mem.tail _ (List.Mem.tail _ (List.Mem.head _)) | exact List.Mem.tail _ (List.Mem.tail _ (List.Mem.tail _ (List.Mem.head _))) | exact List.Mem.tail _ (List.Mem.tail _ (List.Mem.tail _ (List.Mem.tail _ (List.Mem.head _)))) | exact List.Mem.tail _ (List.Mem.tail _ (List.Mem.tail _ (List.Mem.tail _ (List.Mem.tail _ (List.Mem.head _)))))) (by simp) (by omega) (by simp only [maxLen]; omega) ?_ | refine Takes.same ?_)); done)) ?_)
        | refine rs_op rfl (opj_load1 rfl rfl) ?_
        | refine rs_op rfl (opj_index_m rfl rfl (by omega) (by omega)) ?_
        | refine rs_op rfl (opj_index_own rfl rfl (by omega) (by omega)) ?_
        | refine rs_op rfl (opj_wide rfl) ?_
        | refine rs_op rfl (opj_iconv rfl) ?_
        | refine rs_op rfl (opj_extract rfl rfl) ?_
        | refine rs_op rfl (opj_pick_t rfl rfl) ?_
        | refine rs_op rfl (opj_pick_f rfl rfl) ?_
        | refine rs_op rfl (opj_not rfl) ?_
        | refine rs_nil ?_
        | (refine done_id ?_; first | refine done_normal_then ?_ | refine done_ret_then ?_ | refine done_exit_then ?_ | refine done_normal_block ?_ | refine done_ret_block ?_ | refine done_exit_here ?_ | refine done_exit_on rfl ?_ | refine done_ret_round ?_ | refine done_exit_round ?_)
        | (refine ws_id ?_; first | refine ws_seq ?_ | refine ws_region ?_ | refine ws_block ?_ | refine ws_skip ?_ | refine ws_ret ?_ | refine ws_exit ?_ | refine ws_cond_t rfl ?_ | refine ws_cond_f rfl ?_)
        | refine rs_gy rfl rfl ?_
        | refine rs_no rfl rfl rfl rfl ?_
  refine ws_cond rfl (fun hc => ?_) (fun hc => ?_)
  · have hf : finB x = false := by simpa using hc
    repeat
      first
          | refine rs_op rfl (opj_move rfl) ?_
          | refine rs_op rfl (opj_assign rfl) ?_
          | (refine rs_idb ?_; first | refine rs_op rfl (opj_fbin rfl rfl rfl) ?_ | refine rs_op rfl (opj_add rfl rfl (by omega)) ?_ | refine rs_op rfl (opj_sub rfl rfl (by omega)) ?_ | refine rs_op rfl (opj_fcmp rfl rfl rfl) ?_ | refine rs_op rfl (opj_lss rfl rfl) ?_ | refine rs_op rfl (opj_leq rfl rfl) ?_ | refine rs_op rfl (opj_gtr rfl rfl) ?_ | refine rs_op rfl (opj_geq rfl rfl) ?_ | refine rs_op rfl (opj_ieq rfl rfl) ?_ | refine rs_op rfl (opj_ine rfl rfl) ?_ | refine rs_op rfl (opj_beq rfl rfl) ?_ | refine rs_op rfl (opj_bne rfl rfl) ?_)
          | (refine rs_idc ?_; first | refine rs_op rfl (opj_len_m rfl) ?_ | refine rs_op rfl (opj_len_raw rfl) ?_ | refine rs_op rfl (opj_real rfl) ?_ | refine rs_op rfl (opj_imag rfl) ?_ | refine rs_op rfl (opj_complex rfl rfl) ?_)
          | refine rs_op rfl (opj_load1 rfl rfl) ?_
          | refine rs_op rfl (opj_index_m rfl rfl (by omega) (by omega)) ?_
          | refine rs_op rfl (opj_index_own rfl rfl (by omega) (by omega)) ?_
          | refine rs_op rfl (opj_wide rfl) ?_
          | refine rs_op rfl (opj_iconv rfl) ?_
          | refine rs_op rfl (opj_extract rfl rfl) ?_
          | refine rs_op rfl (opj_pick_t rfl rfl) ?_
          | refine rs_op rfl (opj_pick_f rfl rfl) ?_
          | refine rs_op rfl (opj_not rfl) ?_
          | refine rs_nil ?_
          | (refine done_id ?_; first | refine done_normal_then ?_ | refine done_ret_then ?_ | refine done_exit_then ?_ | refine done_normal_block ?_ | refine done_ret_block ?_ | refine done_exit_here ?_ | refine done_exit_on rfl ?_ | refine done_ret_round ?_ | refine done_exit_round ?_)
          | (refine ws_id ?_; first | refine ws_seq ?_ | refine ws_region ?_ | refine ws_block ?_ | refine ws_skip ?_ | refine ws_ret ?_ | refine ws_exit ?_ | refine ws_cond_t rfl ?_ | refine ws_cond_f rfl ?_)
          | refine rs_gy rfl rfl ?_
          | refine rs_no rfl rfl rfl rfl ?_
    exact done_ret2 rfl () (by simp only [numT, numF, hf]; rfl) rfl rfl trivial (List.nil_sublist _)
  · have hf : finB x = true := by simpa using hc
    repeat
      first
          | refine rs_op rfl (opj_move rfl) ?_
          | refine rs_op rfl (opj_assign rfl) ?_
          | (refine rs_idb ?_; first | refine rs_op rfl (opj_fbin rfl rfl rfl) ?_ | refine rs_op rfl (opj_add rfl rfl (by omega)) ?_ | refine rs_op rfl (opj_sub rfl rfl (by omega)) ?_ | refine rs_op rfl (opj_fcmp rfl rfl rfl) ?_ | refine rs_op rfl (opj_lss rfl rfl) ?_ | refine rs_op rfl (opj_leq rfl rfl) ?_ | refine rs_op rfl (opj_gtr rfl rfl) ?_ | refine rs_op rfl (opj_geq rfl rfl) ?_ | refine rs_op rfl (opj_ieq rfl rfl) ?_ | refine rs_op rfl (opj_ine rfl rfl) ?_ | refine rs_op rfl (opj_beq rfl rfl) ?_ | refine rs_op rfl (opj_bne rfl rfl) ?_)
          | (refine rs_idc ?_; first | refine rs_op rfl (opj_len_m rfl) ?_ | refine rs_op rfl (opj_len_raw rfl) ?_ | refine rs_op rfl (opj_real rfl) ?_ | refine rs_op rfl (opj_imag rfl) ?_ | refine rs_op rfl (opj_complex rfl rfl) ?_)
          | refine rs_op rfl (opj_load1 rfl rfl) ?_
          | refine rs_op rfl (opj_index_m rfl rfl (by omega) (by omega)) ?_
          | refine rs_op rfl (opj_index_own rfl rfl (by omega) (by omega)) ?_
          | refine rs_op rfl (opj_wide rfl) ?_
          | refine rs_op rfl (opj_iconv rfl) ?_
          | refine rs_op rfl (opj_extract rfl rfl) ?_
          | refine rs_op rfl (opj_pick_t rfl rfl) ?_
          | refine rs_op rfl (opj_pick_f rfl rfl) ?_
          | refine rs_op rfl (opj_not rfl) ?_
          | refine rs_nil ?_
          | (refine done_id ?_; first | refine done_normal_then ?_ | refine done_ret_then ?_ | refine done_exit_then ?_ | refine done_normal_block ?_ | refine done_ret_block ?_ | refine done_exit_here ?_ | refine done_exit_on rfl ?_ | refine done_ret_round ?_ | refine done_exit_round ?_)
          | (refine ws_id ?_; first | refine ws_seq ?_ | refine ws_region ?_ | refine ws_block ?_ | refine ws_skip ?_ | refine ws_ret ?_ | refine ws_exit ?_ | refine ws_cond_t rfl ?_ | refine ws_cond_f rfl ?_)
          | refine rs_gy rfl rfl ?_
          | refine rs_no rfl rfl rfl rfl ?_
    exact done_ret2 rfl () (by simp only [numT, numF, hf]; rfl) rfl rfl trivial (List.nil_sublist _)

def quietB (L : List FV) : Bool := decide ((3 : Int) ≤ L.length) && decide ((L.length : Int) ≤ 48) && L.all finB
theorem isQuiet_fn (L : List FV) (hL : L.length < 2 ^ 62) : Fn Try.prog 68 (fun w => [slF w L]) (.raw (.bool (quietB L))) := by
  refine fn_intro Try.func68 rfl Try.ntmps68 (fun _ => Nat.le_of_ble_eq_true rfl) fun w0 => ?_
  repeat'
    first
        | refine rs_op rfl (opj_move rfl) ?_
        | refine rs_op rfl (opj_assign rfl) ?_
        | (refine rs_idb ?_; first | refine rs_op rfl (opj_fbin rfl rfl rfl) ?_ | refine rs_op rfl (opj_add rfl rfl (by omega)) ?_ | refine rs_op rfl (opj_sub rfl rfl (by omega)) ?_ | (refine rs_opB rfl (opj_fcmp rfl rfl rfl) ?_; intro c hc) | (refine rs_opB rfl (opj_lss rfl rfl) ?_; intro c hc) | (refine rs_opB rfl (opj_leq rfl rfl) ?_; intro c hc) | (refine rs_opB rfl (opj_gtr rfl rfl) ?_; intro c hc) | (refine rs_opB rfl (opj_geq rfl rfl) ?_; intro c hc) | (refine rs_opB rfl (opj_ieq rfl rfl) ?_; intro c hc) | (refine rs_opB rfl (opj_ine rfl rfl) ?_; intro c hc) | (refine rs_opB rfl (opj_beq rfl rfl) ?_; intro c hc) | (refine rs_opB rfl (opj_bne rfl rfl) ?_; intro c hc))
        | (refine rs_idc ?_; first | refine rs_op rfl (opj_len_m rfl) ?_ | refine rs_op rfl (opj_len_raw rfl) ?_ | refine rs_op rfl (opj_real rfl) ?_ | refine rs_op rfl (opj_imag rfl) ?_ | refine rs_op rfl (opj_complex rfl rfl) ?_ | (refine rs_opB rfl (opj_call rfl rfl (areFinite_fn _ hL) ?_) ?_; (focus ((repeat (first | exact Takes.nil | refine Takes.sl ?_ | refine Takes.own (by first | exact List.Mem.head _ | exact List.Mem.tail _ (List.Mem.head _) | exact List.Mem.tail _ (List.Mem.tail _ (List.Mem.head _)) | exact List.Mem.tail _ (List.Mem.tail _ (List.Mem.tail _ (List.Mem.head _))) | exact List.Mem.tail _ (List.Mem.tail _ (List.Mem.tail _ (List.Mem.tail _ (List.Mem.head _)))) | exact List.Mem.tail _ (List.Mem.tail _ (List.Mem.tail _ (List.Mem.tail _ (List.Mem.tail _ (List.Mem.head _)))))) (by simp) (by omega) (by simp only [maxLen]; omega) ?_ | refine Takes.same ?_)); done)); intro c hc))
        | refine rs_op rfl (opj_load1 rfl rfl) ?_
        | refine rs_op rfl (opj_index_m rfl rfl (by omega) (by omega)) ?_
        | refine rs_op rfl (opj_index_own rfl rfl (by omega) (by omega)) ?_
        | refine rs_op rfl (opj_wide rfl) ?_
        | refine rs_op rfl (opj_iconv rfl) ?_
        | refine rs_op rfl (opj_extract rfl rfl) ?_
        | refine rs_op rfl (opj_pick_t rfl rfl) ?_
        | refine rs_op rfl (opj_pick_f rfl rfl) ?_
        | refine rs_op rfl (opj_not rfl) ?_
        | refine rs_nil ?_
        | (refine done_id ?_; first | refine done_normal_then ?_ | refine done_ret_then ?_ | refine done_exit_then ?_ | refine done_normal_block ?_ | refine done_ret_block ?_ | refine done_exit_here ?_ | refine done_exit_on rfl ?_ | refine done_ret_round ?_ | refine done_exit_round ?_)
        | (refine ws_id ?_; first | refine ws_seq ?_ | refine ws_region ?_ | refine ws_block ?_ | refine ws_skip ?_ | refine ws_ret ?_ | refine ws_exit ?_ | refine ws_cond_t rfl ?_ | refine ws_cond_f rfl ?_)
        | refine rs_gy rfl rfl ?_
        | refine rs_no rfl rfl rfl rfl ?_
        | cases c
  all_goals
    refine done_ret1B rfl () rfl rfl ?_ trivial (List.nil_sublist _)
    simp only [quietB, *, Bool.and_false, Bool.false_and, Bool.and_true, Bool.true_and, Bool.or_true, Bool.true_or, Bool.false_or, Bool.or_false, Bool.not_true, Bool.not_false]
theorem l05List_fn (L : List FV) (hL : L.length < 2 ^ 62) : Fn Try.prog 66 (fun w => [slF w L]) (.raw (.bool (quietB L))) := by
  refine fn_intro Try.func66 rfl Try.ntmps66 (fun _ => Nat.le_of_ble_eq_true rfl) fun w0 => ?_
  repeat'
    first
        | refine rs_op rfl (opj_move rfl) ?_
        | refine rs_op rfl (opj_assign rfl) ?_
        | (refine rs_idb ?_; first | refine rs_op rfl (opj_fbin rfl rfl rfl) ?_ | refine rs_op rfl (opj_add rfl rfl (by omega)) ?_ | refine rs_op rfl (opj_sub rfl rfl (by omega)) ?_ | (refine rs_opB rfl (opj_fcmp rfl rfl rfl) ?_; intro c hc) | (refine rs_opB rfl (opj_lss rfl rfl) ?_; intro c hc) | (refine rs_opB rfl (opj_leq rfl rfl) ?_; intro c hc) | (refine rs_opB rfl (opj_gtr rfl rfl) ?_; intro c hc) | (refine rs_opB rfl (opj_geq rfl rfl) ?_; intro c hc) | (refine rs_opB rfl (opj_ieq rfl rfl) ?_; intro c hc) | (refine rs_opB rfl (opj_ine rfl rfl) ?_; intro c hc) | (refine rs_opB rfl (opj_beq rfl rfl) ?_; intro c hc) | (refine rs_opB rfl (opj_bne rfl rfl) ?_; intro c hc))
        | (refine rs_idc ?_; first | refine rs_op rfl (opj_len_m rfl) ?_ | refine rs_op rfl (opj_len_raw rfl) ?_ | refine rs_op rfl (opj_real rfl) ?_ | refine rs_op rfl (opj_imag rfl) ?_ | refine rs_op rfl (opj_complex rfl rfl) ?_ | (refine rs_opB rfl (opj_call rfl rfl (l02Finite_fn _ hL) ?_) ?_; (focus ((repeat (first | exact Takes.nil | refine Takes.sl ?_ | refine Takes.own (by first | exact List.Mem.head _ | exact List.Mem.tail _ (List.Mem.head _) | exact List.Mem.tail _ (List.Mem.tail _ (List.Mem.head _)) | exact List.Mem.tail _ (List.Mem.tail _ (List.Mem.tail _ (List.Mem.head _))) | exact List.Mem.tail _ (List.Mem.tail _ (List.Mem.tail _ (List.Mem.tail _ (List.Mem.head _)))) | exact List.Mem.tail _ (List.Mem.tail _ (List.Mem.tail _ (List.Mem.tail _ (List.Mem.tail _ (List.Mem.head _)))))) (by simp) (by omega) (by simp only [maxLen]; omega) ?_ | refine Takes.same ?_)); done)); intro c hc))
        | refine rs_op rfl (opj_load1 rfl rfl) ?_
        | refine rs_op rfl (opj_index_m rfl rfl (by omega) (by omega)) ?_
        | refine rs_op rfl (opj_index_own rfl rfl (by omega) (by omega)) ?_
        | refine rs_op rfl (opj_wide rfl) ?_
        | refine rs_op rfl (opj_iconv rfl) ?_
        | refine rs_op rfl (opj_extract rfl rfl) ?_
        | refine rs_op rfl (opj_pick_t rfl rfl) ?_
        | refine rs_op rfl (opj_pick_f rfl rfl) ?_
        | refine rs_op rfl (opj_not rfl) ?_
        | refine rs_nil ?_
        | (refine done_id ?_; first | refine done_normal_then ?_ | refine done_ret_then ?_ | refine done_exit_then ?_ | refine done_normal_block ?_ | refine done_ret_block ?_ | refine done_exit_here ?_ | refine done_exit_on rfl ?_ | refine done_ret_round ?_ | refine done_exit_round ?_)
        | (refine ws_id ?_; first | refine ws_seq ?_ | refine ws_region ?_ | refine ws_block ?_ | refine ws_skip ?_ | refine ws_ret ?_ | refine ws_exit ?_ | refine ws_cond_t rfl ?_ | refine ws_cond_f rfl ?_)
        | refine rs_gy rfl rfl ?_
        | refine rs_no rfl rfl rfl rfl ?_
        | cases c
  all_goals
    refine done_ret1B rfl () rfl rfl ?_ trivial (List.nil_sublist _)
    simp only [quietB, *, Bool.and_false, Bool.false_and, Bool.and_true, Bool.true_and, Bool.or_true, Bool.true_or, Bool.false_or, Bool.or_false, Bool.not_true, Bool.not_false]

/-- The sum over the first j inner places. -/
def roughTo (L : List FV) : Nat → FV
  | 0 => fv .f32 0
  | j + 1 =>
    fbin .add .f32 (roughTo L j) (fbin .mul .f32
      (fbin .add .f32 (fbin .sub .f32 (L.getD ((j : Int) + 1 - 1).toNat default) (fbin .mul .f32 (fv .f32 1073741824) (L.getD ((j : Int) + 1).toNat default))) (L.getD ((j : Int) + 1 + 1).toNat default))
      (fbin .add .f32 (fbin .sub .f32 (L.getD ((j : Int) + 1 - 1).toNat default) (fbin .mul .f32 (fv .f32 1073741824) (L.getD ((j : Int) + 1).toNat default))) (L.getD ((j : Int) + 1 + 1).toNat default)))
theorem roughTo_succ (L : List FV) (j : Nat) : roughTo L (j + 1) =
    fbin .add .f32 (roughTo L j) (fbin .mul .f32
      (fbin .add .f32 (fbin .sub .f32 (L.getD ((j : Int) + 1 - 1).toNat default) (fbin .mul .f32 (fv .f32 1073741824) (L.getD ((j : Int) + 1).toNat default))) (L.getD ((j : Int) + 1 + 1).toNat default))
      (fbin .add .f32 (fbin .sub .f32 (L.getD ((j : Int) + 1 - 1).toNat default) (fbin .mul .f32 (fv .f32 1073741824) (L.getD ((j : Int) + 1).toNat default))) (L.getD ((j : Int) + 1 + 1).toNat default))) := rfl
def roughOk (L : List FV) : Bool := quietB L && finB (roughTo L (L.length - 2))
def roughF (L : List FV) : FV := if roughOk L then roughTo L (L.length - 2) else fv .f32 0
def roughT (L : List FV) : AV := .tup [.f .f32 (roughF L), .raw (.bool (roughOk L))]
theorem roughT_quiet {L : List FV} (h : quietB L = true) : roughT L = .tup [.f .f32 (numF (roughTo L (L.length - 2))), .raw (.bool (finB (roughTo L (L.length - 2))))] := by
  simp only [roughT, roughF, roughOk, numF, h, Bool.true_and]
theorem roughT_not {L : List FV} (h : quietB L = false) : roughT L = .tup [.f .f32 (fv .f32 0), .raw (.bool false)] := by
  simp [roughT, roughF, roughOk, h]
theorem quiet_len {L : List FV} (h : quietB L = true) : 3 ≤ L.length ∧ L.length ≤ 48 := by
  simp only [quietB, Bool.and_eq_true, decide_eq_true_eq] at h
  omega

theorem implRough_fn (L : List FV) (hL : L.length < 2 ^ 62) : Fn Try.prog 25 (fun w => [slF w L]) (roughT L) := by
  refine fn_intro Try.func25 rfl Try.ntmps25 (fun _ => Nat.le_of_ble_eq_true rfl) fun w0 => ?_
  repeat
    first
        | refine rs_op rfl (opj_move rfl) ?_
        | refine rs_op rfl (opj_assign rfl) ?_
        | (refine rs_idb ?_; first | refine rs_op rfl (opj_fbin rfl rfl rfl) ?_ | refine rs_op rfl (opj_add rfl rfl (by omega)) ?_ | refine rs_op rfl (opj_sub rfl rfl (by omega)) ?_ | refine rs_op rfl (opj_fcmp rfl rfl rfl) ?_ | refine rs_op rfl (opj_lss rfl rfl) ?_ | refine rs_op rfl (opj_leq rfl rfl) ?_ | refine rs_op rfl (opj_gtr rfl rfl) ?_ | refine rs_op rfl (opj_geq rfl rfl) ?_ | refine rs_op rfl (opj_ieq rfl rfl) ?_ | refine rs_op rfl (opj_ine rfl rfl) ?_ | refine rs_op rfl (opj_beq rfl rfl) ?_ | refine rs_op rfl (opj_bne rfl rfl) ?_)
        | (refine rs_idc ?_; first | refine rs_op rfl (opj_len_m rfl) ?_ | refine rs_op rfl (opj_len_raw rfl) ?_ | refine rs_op rfl (opj_real rfl) ?_ | refine rs_op rfl (opj_imag rfl) ?_ | refine rs_op rfl (opj_complex rfl rfl) ?_ | (refine rs_op rfl (opj_call rfl rfl (isQuiet_fn _ hL) ?_) ?_; (focus ((repeat (first | exact Takes.nil | refine Takes.sl ?_ | refine Takes.own (by first | exact List.Mem.head _ | exact List.Mem.tail _ (List.Mem.head _) | exact List.Mem.tail _ (List.Mem.tail _ (List.Mem.head _)) | exact List.Mem.tail _ (List.Mem.tail _ (List.Mem.tail _ (List.Mem.head _))) | exact List.Mem.tail _ (List.Mem.tail _ (List.Mem.tail _ (List.Mem.tail _ (List.Mem.head _)))) | exact List.Mem.tail _ (List.Mem.tail _ (List.Mem.tail _ (List.Mem.tail _ (List.Mem.tail _ (List.Mem.head _)))))) (by simp) (by omega) (by simp only [maxLen]; omega) ?_ | refine Takes.same ?_)); done))))
        | refine rs_op rfl (opj_load1 rfl rfl) ?_
        | refine rs_op rfl (opj_index_m rfl rfl (by omega) (by omega)) ?_
        | refine rs_op rfl (opj_index_own rfl rfl (by omega) (by omega)) ?_
        | refine rs_op rfl (opj_wide rfl) ?_
        | refine rs_op rfl (opj_iconv rfl) ?_
        | refine rs_op rfl (opj_extract rfl rfl) ?_
        | refine rs_op rfl (opj_pick_t rfl rfl) ?_
        | refine rs_op rfl (opj_pick_f rfl rfl) ?_
        | refine rs_op rfl (opj_not rfl) ?_
        | refine rs_nil ?_
        | (refine done_id ?_; first | refine done_normal_then ?_ | refine done_ret_then ?_ | refine done_exit_then ?_ | refine done_normal_block ?_ | refine done_ret_block ?_ | refine done_exit_here ?_ | refine done_exit_on rfl ?_ | refine done_ret_round ?_ | refine done_exit_round ?_)
        | (refine ws_id ?_; first | refine ws_seq ?_ | refine ws_region ?_ | refine ws_block ?_ | refine ws_skip ?_ | refine ws_ret ?_ | refine ws_exit ?_ | refine ws_cond_t rfl ?_ | refine ws_cond_f rfl ?_)
        | refine rs_gy rfl rfl ?_
        | refine rs_no rfl rfl rfl rfl ?_
  refine ws_cond rfl (fun hc => ?_) (fun hc => ?_)
  · have hq : quietB L = false := by simpa using hc
    repeat
      first
          | refine rs_op rfl (opj_move rfl) ?_
          | refine rs_op rfl (opj_assign rfl) ?_
          | (refine rs_idb ?_; first | refine rs_op rfl (opj_fbin rfl rfl rfl) ?_ | refine rs_op rfl (opj_add rfl rfl (by omega)) ?_ | refine rs_op rfl (opj_sub rfl rfl (by omega)) ?_ | refine rs_op rfl (opj_fcmp rfl rfl rfl) ?_ | refine rs_op rfl (opj_lss rfl rfl) ?_ | refine rs_op rfl (opj_leq rfl rfl) ?_ | refine rs_op rfl (opj_gtr rfl rfl) ?_ | refine rs_op rfl (opj_geq rfl rfl) ?_ | refine rs_op rfl (opj_ieq rfl rfl) ?_ | refine rs_op rfl (opj_ine rfl rfl) ?_ | refine rs_op rfl (opj_beq rfl rfl) ?_ | refine rs_op rfl (opj_bne rfl rfl) ?_)
          | (refine rs_idc ?_; first | refine rs_op rfl (opj_len_m rfl) ?_ | refine rs_op rfl (opj_len_raw rfl) ?_ | refine rs_op rfl (opj_real rfl) ?_ | refine rs_op rfl (opj_imag rfl) ?_ | refine rs_op rfl (opj_complex rfl rfl) ?_)
          | refine rs_op rfl (opj_load1 rfl rfl) ?_
          | refine rs_op rfl (opj_index_m rfl rfl (by omega) (by omega)) ?_
          | refine rs_op rfl (opj_index_own rfl rfl (by omega) (by omega)) ?_
          | refine rs_op rfl (opj_wide rfl) ?_
          | refine rs_op rfl (opj_iconv rfl) ?_
          | refine rs_op rfl (opj_extract rfl rfl) ?_
          | refine rs_op rfl (opj_pick_t rfl rfl) ?_
          | refine rs_op rfl (opj_pick_f rfl rfl) ?_
          | refine rs_op rfl (opj_not rfl) ?_
          | refine rs_nil ?_
          | (refine done_id ?_; first | refine done_normal_then ?_ | refine done_ret_then ?_ | refine done_exit_then ?_ | refine done_normal_block ?_ | refine done_ret_block ?_ | refine done_exit_here ?_ | refine done_exit_on rfl ?_ | refine done_ret_round ?_ | refine done_exit_round ?_)
          | (refine ws_id ?_; first | refine ws_seq ?_ | refine ws_region ?_ | refine ws_block ?_ | refine ws_skip ?_ | refine ws_ret ?_ | refine ws_exit ?_ | refine ws_cond_t rfl ?_ | refine ws_cond_f rfl ?_)
          | refine rs_gy rfl rfl ?_
          | refine rs_no rfl rfl rfl rfl ?_
    exact done_ret2 rfl () (roughT_not hq) rfl rfl trivial (List.nil_sublist _)
  · have hq : quietB L = true := by simpa using hc
    obtain ⟨h3, h48⟩ := quiet_len hq
    repeat
      first
          | refine rs_op rfl (opj_move rfl) ?_
          | refine rs_op rfl (opj_assign rfl) ?_
          | (refine rs_idb ?_; first | refine rs_op rfl (opj_fbin rfl rfl rfl) ?_ | refine rs_op rfl (opj_add rfl rfl (by omega)) ?_ | refine rs_op rfl (opj_sub rfl rfl (by omega)) ?_ | refine rs_op rfl (opj_fcmp rfl rfl rfl) ?_ | refine rs_op rfl (opj_lss rfl rfl) ?_ | refine rs_op rfl (opj_leq rfl rfl) ?_ | refine rs_op rfl (opj_gtr rfl rfl) ?_ | refine rs_op rfl (opj_geq rfl rfl) ?_ | refine rs_op rfl (opj_ieq rfl rfl) ?_ | refine rs_op rfl (opj_ine rfl rfl) ?_ | refine rs_op rfl (opj_beq rfl rfl) ?_ | refine rs_op rfl (opj_bne rfl rfl) ?_)
          | (refine rs_idc ?_; first | refine rs_op rfl (opj_len_m rfl) ?_ | refine rs_op rfl (opj_len_raw rfl) ?_ | refine rs_op rfl (opj_real rfl) ?_ | refine rs_op rfl (opj_imag rfl) ?_ | refine rs_op rfl (opj_complex rfl rfl) ?_)
          | refine rs_op rfl (opj_load1 rfl rfl) ?_
          | refine rs_op rfl (opj_index_m rfl rfl (by omega) (by omega)) ?_
          | refine rs_op rfl (opj_index_own rfl rfl (by omega) (by omega)) ?_
          | refine rs_op rfl (opj_wide rfl) ?_
          | refine rs_op rfl (opj_iconv rfl) ?_
          | refine rs_op rfl (opj_extract rfl rfl) ?_
          | refine rs_op rfl (opj_pick_t rfl rfl) ?_
          | refine rs_op rfl (opj_pick_f rfl rfl) ?_
          | refine rs_op rfl (opj_not rfl) ?_
          | refine rs_nil ?_
          | (refine done_id ?_; first | refine done_normal_then ?_ | refine done_ret_then ?_ | refine done_exit_then ?_ | refine done_normal_block ?_ | refine done_ret_block ?_ | refine done_exit_here ?_ | refine done_exit_on rfl ?_ | refine done_ret_round ?_ | refine done_exit_round ?_)
          | (refine ws_id ?_; first | refine ws_seq ?_ | refine ws_region ?_ | refine ws_block ?_ | refine ws_skip ?_ | refine ws_ret ?_ | refine ws_exit ?_ | refine ws_cond_t rfl ?_ | refine ws_cond_f rfl ?_)
          | refine rs_gy rfl rfl ?_
          | refine rs_no rfl rfl rfl rfl ?_
    refine ws_loop (ι := Nat) (fun j => [(0, slF w0 L), (4, .f .f32 (roughTo L j)), (5, .raw (.int .i64 ((j : Int) + 1)))]) (fun _ => St w0 [] []) (fun j => j ≤ L.length - 2) (fun j => L.length - j) 0 (Nat.zero_le _) ?_ (fun _ h => h) (fun j hj => ?_)
    · (repeat (first | exact Env.sub_nil _ | refine Env.sub_cons rfl ?_))
    · repeat
        first
            | refine rs_op rfl (opj_move rfl) ?_
            | refine rs_op rfl (opj_assign rfl) ?_
            | (refine rs_idb ?_; first | refine rs_op rfl (opj_fbin rfl rfl rfl) ?_ | refine rs_op rfl (opj_add rfl rfl (by omega)) ?_ | refine rs_op rfl (opj_sub rfl rfl (by omega)) ?_ | refine rs_op rfl (opj_fcmp rfl rfl rfl) ?_ | refine rs_op rfl (opj_lss rfl rfl) ?_ | refine rs_op rfl (opj_leq rfl rfl) ?_ | refine rs_op rfl (opj_gtr rfl rfl) ?_ | refine rs_op rfl (opj_geq rfl rfl) ?_ | refine rs_op rfl (opj_ieq rfl rfl) ?_ | refine rs_op rfl (opj_ine rfl rfl) ?_ | refine rs_op rfl (opj_beq rfl rfl) ?_ | refine rs_op rfl (opj_bne rfl rfl) ?_)
            | (refine rs_idc ?_; first | refine rs_op rfl (opj_len_m rfl) ?_ | refine rs_op rfl (opj_len_raw rfl) ?_ | refine rs_op rfl (opj_real rfl) ?_ | refine rs_op rfl (opj_imag rfl) ?_ | refine rs_op rfl (opj_complex rfl rfl) ?_)
            | refine rs_op rfl (opj_load1 rfl rfl) ?_
            | refine rs_op rfl (opj_index_m rfl rfl (by omega) (by omega)) ?_
            | refine rs_op rfl (opj_index_own rfl rfl (by omega) (by omega)) ?_
            | refine rs_op rfl (opj_wide rfl) ?_
            | refine rs_op rfl (opj_iconv rfl) ?_
            | refine rs_op rfl (opj_extract rfl rfl) ?_
            | refine rs_op rfl (opj_pick_t rfl rfl) ?_
            | refine rs_op rfl (opj_pick_f rfl rfl) ?_
            | refine rs_op rfl (opj_not rfl) ?_
            | refine rs_nil ?_
            | (refine done_id ?_; first | refine done_normal_then ?_ | refine done_ret_then ?_ | refine done_exit_then ?_ | refine done_normal_block ?_ | refine done_ret_block ?_ | refine done_exit_here ?_ | refine done_exit_on rfl ?_ | refine done_ret_round ?_ | refine done_exit_round ?_)
            | (refine ws_id ?_; first | refine ws_seq ?_ | refine ws_region ?_ | refine ws_block ?_ | refine ws_skip ?_ | refine ws_ret ?_ | refine ws_exit ?_ | refine ws_cond_t rfl ?_ | refine ws_cond_f rfl ?_)
            | refine rs_gy rfl rfl ?_
            | refine rs_no rfl rfl rfl rfl ?_
      refine ws_cond rfl (fun hc => ?_) (fun hc => ?_)
      · have hlt : (j : Int) + 1 < L.length - 1 := of_decide_eq_true hc
        repeat
          first
              | refine rs_op rfl (opj_move rfl) ?_
              | refine rs_op rfl (opj_assign rfl) ?_
              | (refine rs_idb ?_; first | refine rs_op rfl (opj_fbin rfl rfl rfl) ?_ | refine rs_op rfl (opj_add rfl rfl (by omega)) ?_ | refine rs_op rfl (opj_sub rfl rfl (by omega)) ?_ | refine rs_op rfl (opj_fcmp rfl rfl rfl) ?_ | refine rs_op rfl (opj_lss rfl rfl) ?_ | refine rs_op rfl (opj_leq rfl rfl) ?_ | refine rs_op rfl (opj_gtr rfl rfl) ?_ | refine rs_op rfl (opj_geq rfl rfl) ?_ | refine rs_op rfl (opj_ieq rfl rfl) ?_ | refine rs_op rfl (opj_ine rfl rfl) ?_ | refine rs_op rfl (opj_beq rfl rfl) ?_ | refine rs_op rfl (opj_bne rfl rfl) ?_)
              | (refine rs_idc ?_; first | refine rs_op rfl (opj_len_m rfl) ?_ | refine rs_op rfl (opj_len_raw rfl) ?_ | refine rs_op rfl (opj_real rfl) ?_ | refine rs_op rfl (opj_imag rfl) ?_ | refine rs_op rfl (opj_complex rfl rfl) ?_)
              | refine rs_op rfl (opj_load1 rfl rfl) ?_
              | refine rs_op rfl (opj_index_m rfl rfl (by omega) (by omega)) ?_
              | refine rs_op rfl (opj_index_own rfl rfl (by omega) (by omega)) ?_
              | refine rs_op rfl (opj_wide rfl) ?_
              | refine rs_op rfl (opj_iconv rfl) ?_
              | refine rs_op rfl (opj_extract rfl rfl) ?_
              | refine rs_op rfl (opj_pick_t rfl rfl) ?_
              | refine rs_op rfl (opj_pick_f rfl rfl) ?_
              | refine rs_op rfl (opj_not rfl) ?_
              | refine rs_nil ?_
              | (refine done_id ?_; first | refine done_normal_then ?_ | refine done_ret_then ?_ | refine done_exit_then ?_ | refine done_normal_block ?_ | refine done_ret_block ?_ | refine done_exit_here ?_ | refine done_exit_on rfl ?_ | refine done_ret_round ?_ | refine done_exit_round ?_)
              | (refine ws_id ?_; first | refine ws_seq ?_ | refine ws_region ?_ | refine ws_block ?_ | refine ws_skip ?_ | refine ws_ret ?_ | refine ws_exit ?_ | refine ws_cond_t rfl ?_ | refine ws_cond_f rfl ?_)
              | refine rs_gy rfl rfl ?_
              | refine rs_no rfl rfl rfl rfl ?_
        refine ws_draw (n := 18) mixed (by decide +kernel) ?_
        repeat
          first
              | refine r1_op rfl (opj_move rfl) ?_
              | refine r1_op rfl (opj_assign rfl) ?_
              | (refine r1_idb ?_; first | refine r1_op rfl (opj_fbin rfl rfl rfl) ?_ | refine r1_op rfl (opj_add rfl rfl (by omega)) ?_ | refine r1_op rfl (opj_sub rfl rfl (by omega)) ?_ | refine r1_op rfl (opj_fcmp rfl rfl rfl) ?_ | refine r1_op rfl (opj_lss rfl rfl) ?_ | refine r1_op rfl (opj_leq rfl rfl) ?_ | refine r1_op rfl (opj_gtr rfl rfl) ?_ | refine r1_op rfl (opj_geq rfl rfl) ?_ | refine r1_op rfl (opj_ieq rfl rfl) ?_ | refine r1_op rfl (opj_ine rfl rfl) ?_ | refine r1_op rfl (opj_beq rfl rfl) ?_ | refine r1_op rfl (opj_bne rfl rfl) ?_)
              | (refine r1_idc ?_; first | refine r1_op rfl (opj_len_m rfl) ?_ | refine r1_op rfl (opj_len_raw rfl) ?_ | refine r1_op rfl (opj_real rfl) ?_ | refine r1_op rfl (opj_imag rfl) ?_ | refine r1_op rfl (opj_complex rfl rfl) ?_)
              | refine r1_op rfl (opj_load1 rfl rfl) ?_
              | refine r1_op rfl (opj_index_m rfl rfl (by omega) (by omega)) ?_
              | refine r1_op rfl (opj_index_own rfl rfl (by omega) (by omega)) ?_
              | refine r1_op rfl (opj_wide rfl) ?_
              | refine r1_op rfl (opj_iconv rfl) ?_
              | refine r1_op rfl (opj_extract rfl rfl) ?_
              | refine r1_op rfl (opj_pick_t rfl rfl) ?_
              | refine r1_op rfl (opj_pick_f rfl rfl) ?_
              | refine r1_op rfl (opj_not rfl) ?_
              | refine r1_nil ?_
              | refine r1_gy rfl rfl ?_
              | refine r1_no rfl rfl rfl rfl ?_
        repeat
          first
              | refine rs_op rfl (opj_move rfl) ?_
              | refine rs_op rfl (opj_assign rfl) ?_
              | (refine rs_idb ?_; first | refine rs_op rfl (opj_fbin rfl rfl rfl) ?_ | refine rs_op rfl (opj_add rfl rfl (by omega)) ?_ | refine rs_op rfl (opj_sub rfl rfl (by omega)) ?_ | refine rs_op rfl (opj_fcmp rfl rfl rfl) ?_ | refine rs_op rfl (opj_lss rfl rfl) ?_ | refine rs_op rfl (opj_leq rfl rfl) ?_ | refine rs_op rfl (opj_gtr rfl rfl) ?_ | refine rs_op rfl (opj_geq rfl rfl) ?_ | refine rs_op rfl (opj_ieq rfl rfl) ?_ | refine rs_op rfl (opj_ine rfl rfl) ?_ | refine rs_op rfl (opj_beq rfl rfl) ?_ | refine rs_op rfl (opj_bne rfl rfl) ?_)
              | (refine rs_idc ?_; first | refine rs_op rfl (opj_len_m rfl) ?_ | refine rs_op rfl (opj_len_raw rfl) ?_ | refine rs_op rfl (opj_real rfl) ?_ | refine rs_op rfl (opj_imag rfl) ?_ | refine rs_op rfl (opj_complex rfl rfl) ?_)
              | refine rs_op rfl (opj_load1 rfl rfl) ?_
              | refine rs_op rfl (opj_index_m rfl rfl (by omega) (by omega)) ?_
              | refine rs_op rfl (opj_index_own rfl rfl (by omega) (by omega)) ?_
              | refine rs_op rfl (opj_wide rfl) ?_
              | refine rs_op rfl (opj_iconv rfl) ?_
              | refine rs_op rfl (opj_extract rfl rfl) ?_
              | refine rs_op rfl (opj_pick_t rfl rfl) ?_
              | refine rs_op rfl (opj_pick_f rfl rfl) ?_
              | refine rs_op rfl (opj_not rfl) ?_
              | refine rs_nil ?_
              | (refine done_id ?_; first | refine done_normal_then ?_ | refine done_ret_then ?_ | refine done_exit_then ?_ | refine done_normal_block ?_ | refine done_ret_block ?_ | refine done_exit_here ?_ | refine done_exit_on rfl ?_ | refine done_ret_round ?_ | refine done_exit_round ?_)
              | (refine ws_id ?_; first | refine ws_seq ?_ | refine ws_region ?_ | refine ws_block ?_ | refine ws_skip ?_ | refine ws_ret ?_ | refine ws_exit ?_ | refine ws_cond_t rfl ?_ | refine ws_cond_f rfl ?_)
              | refine rs_gy rfl rfl ?_
              | refine rs_no rfl rfl rfl rfl ?_
        refine done_round (j + 1) (by omega) (by omega) ?_ (fun _ h => h)
        rw [roughTo_succ L j]
        (repeat (first | exact Env.sub_nil _ | refine Env.sub_cons rfl ?_))
      · have hge : ¬ (j : Int) + 1 < L.length - 1 := of_decide_eq_false hc
        obtain rfl : j = L.length - 2 := by omega
        repeat
          first
              | refine rs_op rfl (opj_move rfl) ?_
              | refine rs_op rfl (opj_assign rfl) ?_
              | (refine rs_idb ?_; first | refine rs_op rfl (opj_fbin rfl rfl rfl) ?_ | refine rs_op rfl (opj_add rfl rfl (by omega)) ?_ | refine rs_op rfl (opj_sub rfl rfl (by omega)) ?_ | refine rs_op rfl (opj_fcmp rfl rfl rfl) ?_ | refine rs_op rfl (opj_lss rfl rfl) ?_ | refine rs_op rfl (opj_leq rfl rfl) ?_ | refine rs_op rfl (opj_gtr rfl rfl) ?_ | refine rs_op rfl (opj_geq rfl rfl) ?_ | refine rs_op rfl (opj_ieq rfl rfl) ?_ | refine rs_op rfl (opj_ine rfl rfl) ?_ | refine rs_op rfl (opj_beq rfl rfl) ?_ | refine rs_op rfl (opj_bne rfl rfl) ?_)
              | (refine rs_idc ?_; first | refine rs_op rfl (opj_len_m rfl) ?_ | refine rs_op rfl (opj_len_raw rfl) ?_ | refine rs_op rfl (opj_real rfl) ?_ | refine rs_op rfl (opj_imag rfl) ?_ | refine rs_op rfl (opj_complex rfl rfl) ?_ | refine rs_op rfl (opj_call rfl rfl (ifNumber_fn _) (by (repeat (first | exact Takes.nil | refine Takes.sl ?_ | refine Takes.own (by first | exact List.Mem.head _ | exact List.Mem.tail _ (List.Mem.head _) | exact List.Mem.tail _ (List.Mem.tail _ (List.Mem.head _)) | exact List.Mem.tail _ (List.Mem.tail _ (List.Mem.tail _ (List.Mem.head _))) | exact List.Mem.tail _ (List.Mem.tail _ (List.Mem.tail _ (List.Mem.tail _ (List.Mem.head _)))) | exact List.Mem.tail _ (List.Mem.tail _ (List.Mem.tail _ (List.Mem.tail _ (List.Mem.tail _ (List.Mem.head _)))))) (by simp) (by omega) (by simp only [maxLen]; omega) ?_ | refine Takes.same ?_)); done)) ?_)
              | refine rs_op rfl (opj_load1 rfl rfl) ?_
              | refine rs_op rfl (opj_index_m rfl rfl (by omega) (by omega)) ?_
              | refine rs_op rfl (opj_index_own rfl rfl (by omega) (by omega)) ?_
              | refine rs_op rfl (opj_wide rfl) ?_
              | refine rs_op rfl (opj_iconv rfl) ?_
              | refine rs_op rfl (opj_extract rfl rfl) ?_
              | refine rs_op rfl (opj_pick_t rfl rfl) ?_
              | refine rs_op rfl (opj_pick_f rfl rfl) ?_
              | refine rs_op rfl (opj_not rfl) ?_
              | refine rs_nil ?_
              | (refine done_id ?_; first | refine done_normal_then ?_ | refine done_ret_then ?_ | refine done_exit_then ?_ | refine done_normal_block ?_ | refine done_ret_block ?_ | refine done_exit_here ?_ | refine done_exit_on rfl ?_ | refine done_ret_round ?_ | refine done_exit_round ?_)
              | (refine ws_id ?_; first | refine ws_seq ?_ | refine ws_region ?_ | refine ws_block ?_ | refine ws_skip ?_ | refine ws_ret ?_ | refine ws_exit ?_ | refine ws_cond_t rfl ?_ | refine ws_cond_f rfl ?_)
              | refine rs_gy rfl rfl ?_
              | refine rs_no rfl rfl rfl rfl ?_
        exact done_ret2 rfl () (roughT_quiet hq) rfl rfl trivial (List.nil_sublist _)
theorem specRough_fn (L : List FV) (hL : L.length < 2 ^ 62) : Fn Try.prog 24 (fun w => [slF w L]) (roughT L) := by
  refine fn_intro Try.func24 rfl Try.ntmps24 (fun _ => Nat.le_of_ble_eq_true rfl) fun w0 => ?_
  repeat
    first
        | refine rs_op rfl (opj_move rfl) ?_
        | refine rs_op rfl (opj_assign rfl) ?_
        | (refine rs_idb ?_; first | refine rs_op rfl (opj_fbin rfl rfl rfl) ?_ | refine rs_op rfl (opj_add rfl rfl (by omega)) ?_ | refine rs_op rfl (opj_sub rfl rfl (by omega)) ?_ | refine rs_op rfl (opj_fcmp rfl rfl rfl) ?_ | refine rs_op rfl (opj_lss rfl rfl) ?_ | refine rs_op rfl (opj_leq rfl rfl) ?_ | refine rs_op rfl (opj_gtr rfl rfl) ?_ | refine rs_op rfl (opj_geq rfl rfl) ?_ | refine rs_op rfl (opj_ieq rfl rfl) ?_ | refine rs_op rfl (opj_ine rfl rfl) ?_ | refine rs_op rfl (opj_beq rfl rfl) ?_ | refine rs_op rfl (opj_bne rfl rfl) ?_)
        | (refine rs_idc ?_; first | refine rs_op rfl (opj_len_m rfl) ?_ | refine rs_op rfl (opj_len_raw rfl) ?_ | refine rs_op rfl (opj_real rfl) ?_ | refine rs_op rfl (opj_imag rfl) ?_ | refine rs_op rfl (opj_complex rfl rfl) ?_ | (refine rs_op rfl (opj_call rfl rfl (l05List_fn _ hL) ?_) ?_; (focus ((repeat (first | exact Takes.nil | refine Takes.sl ?_ | refine Takes.own (by first | exact List.Mem.head _ | exact List.Mem.tail _ (List.Mem.head _) | exact List.Mem.tail _ (List.Mem.tail _ (List.Mem.head _)) | exact List.Mem.tail _ (List.Mem.tail _ (List.Mem.tail _ (List.Mem.head _))) | exact List.Mem.tail _ (List.Mem.tail _ (List.Mem.tail _ (List.Mem.tail _ (List.Mem.head _)))) | exact List.Mem.tail _ (List.Mem.tail _ (List.Mem.tail _ (List.Mem.tail _ (List.Mem.tail _ (List.Mem.head _)))))) (by simp) (by omega) (by simp only [maxLen]; omega) ?_ | refine Takes.same ?_)); done))))
        | refine rs_op rfl (opj_load1 rfl rfl) ?_
        | refine rs_op rfl (opj_index_m rfl rfl (by omega) (by omega)) ?_
        | refine rs_op rfl (opj_index_own rfl rfl (by omega) (by omega)) ?_
        | refine rs_op rfl (opj_wide rfl) ?_
        | refine rs_op rfl (opj_iconv rfl) ?_
        | refine rs_op rfl (opj_extract rfl rfl) ?_
        | refine rs_op rfl (opj_pick_t rfl rfl) ?_
        | refine rs_op rfl (opj_pick_f rfl rfl) ?_
        | refine rs_op rfl (opj_not rfl) ?_
        | refine rs_nil ?_
        | (refine done_id ?_; first | refine done_normal_then ?_ | refine done_ret_then ?_ | refine done_exit_then ?_ | refine done_normal_block ?_ | refine done_ret_block ?_ | refine done_exit_here ?_ | refine done_exit_on rfl ?_ | refine done_ret_round ?_ | refine done_exit_round ?_)
        | (refine ws_id ?_; first | refine ws_seq ?_ | refine ws_region ?_ | refine ws_block ?_ | refine ws_skip ?_ | refine ws_ret ?_ | refine ws_exit ?_ | refine ws_cond_t rfl ?_ | refine ws_cond_f rfl ?_)
        | refine rs_gy rfl rfl ?_
        | refine rs_no rfl rfl rfl rfl ?_
  refine ws_cond rfl (fun hc => ?_) (fun hc => ?_)
  · have hq : quietB L = false := by simpa using hc
    repeat
      first
          | refine rs_op rfl (opj_move rfl) ?_
          | refine rs_op rfl (opj_assign rfl) ?_
          | (refine rs_idb ?_; first | refine rs_op rfl (opj_fbin rfl rfl rfl) ?_ | refine rs_op rfl (opj_add rfl rfl (by omega)) ?_ | refine rs_op rfl (opj_sub rfl rfl (by omega)) ?_ | refine rs_op rfl (opj_fcmp rfl rfl rfl) ?_ | refine rs_op rfl (opj_lss rfl rfl) ?_ | refine rs_op rfl (opj_leq rfl rfl) ?_ | refine rs_op rfl (opj_gtr rfl rfl) ?_ | refine rs_op rfl (opj_geq rfl rfl) ?_ | refine rs_op rfl (opj_ieq rfl rfl) ?_ | refine rs_op rfl (opj_ine rfl rfl) ?_ | refine rs_op rfl (opj_beq rfl rfl) ?_ | refine rs_op rfl (opj_bne rfl rfl) ?_)
          | (refine rs_idc ?_; first | refine rs_op rfl (opj_len_m rfl) ?_ | refine rs_op rfl (opj_len_raw rfl) ?_ | refine rs_op rfl (opj_real rfl) ?_ | refine rs_op rfl (opj_imag rfl) ?_ | refine rs_op rfl (opj_complex rfl rfl) ?_)
          | refine rs_op rfl (opj_load1 rfl rfl) ?_
          | refine rs_op rfl (opj_index_m rfl rfl (by omega) (by omega)) ?_
          | refine rs_op rfl (opj_index_own rfl rfl (by omega) (by omega)) ?_
          | refine rs_op rfl (opj_wide rfl) ?_
          | refine rs_op rfl (opj_iconv rfl) ?_
          | refine rs_op rfl (opj_extract rfl rfl) ?_
          | refine rs_op rfl (opj_pick_t rfl rfl) ?_
          | refine rs_op rfl (opj_pick_f rfl rfl) ?_
          | refine rs_op rfl (opj_not rfl) ?_
          | refine rs_nil ?_
          | (refine done_id ?_; first | refine done_normal_then ?_ | refine done_ret_then ?_ | refine done_exit_then ?_ | refine done_normal_block ?_ | refine done_ret_block ?_ | refine done_exit_here ?_ | refine done_exit_on rfl ?_ | refine done_ret_round ?_ | refine done_exit_round ?_)
          | (refine ws_id ?_; first | refine ws_seq ?_ | refine ws_region ?_ | refine ws_block ?_ | refine ws_skip ?_ | refine ws_ret ?_ | refine ws_exit ?_ | refine ws_cond_t rfl ?_ | refine ws_cond_f rfl ?_)
          | refine rs_gy rfl rfl ?_
          | refine rs_no rfl rfl rfl rfl ?_
    exact done_ret2 rfl () (roughT_not hq) rfl rfl trivial (List.nil_sublist _)
  · have hq : quietB L = true := by simpa using hc
    obtain ⟨h3, h48⟩ := quiet_len hq
    repeat
      first
          | refine rs_op rfl (opj_move rfl) ?_
          | refine rs_op rfl (opj_assign rfl) ?_
          | (refine rs_idb ?_; first | refine rs_op rfl (opj_fbin rfl rfl rfl) ?_ | refine rs_op rfl (opj_add rfl rfl (by omega)) ?_ | refine rs_op rfl (opj_sub rfl rfl (by omega)) ?_ | refine rs_op rfl (opj_fcmp rfl rfl rfl) ?_ | refine rs_op rfl (opj_lss rfl rfl) ?_ | refine rs_op rfl (opj_leq rfl rfl) ?_ | refine rs_op rfl (opj_gtr rfl rfl) ?_ | refine rs_op rfl (opj_geq rfl rfl) ?_ | refine rs_op rfl (opj_ieq rfl rfl) ?_ | refine rs_op rfl (opj_ine rfl rfl) ?_ | refine rs_op rfl (opj_beq rfl rfl) ?_ | refine rs_op rfl (opj_bne rfl rfl) ?_)
          | (refine rs_idc ?_; first | refine rs_op rfl (opj_len_m rfl) ?_ | refine rs_op rfl (opj_len_raw rfl) ?_ | refine rs_op rfl (opj_real rfl) ?_ | refine rs_op rfl (opj_imag rfl) ?_ | refine rs_op rfl (opj_complex rfl rfl) ?_)
          | refine rs_op rfl (opj_load1 rfl rfl) ?_
          | refine rs_op rfl (opj_index_m rfl rfl (by omega) (by omega)) ?_
          | refine rs_op rfl (opj_index_own rfl rfl (by omega) (by omega)) ?_
          | refine rs_op rfl (opj_wide rfl) ?_
          | refine rs_op rfl (opj_iconv rfl) ?_
          | refine rs_op rfl (opj_extract rfl rfl) ?_
          | refine rs_op rfl (opj_pick_t rfl rfl) ?_
          | refine rs_op rfl (opj_pick_f rfl rfl) ?_
          | refine rs_op rfl (opj_not rfl) ?_
          | refine rs_nil ?_
          | (refine done_id ?_; first | refine done_normal_then ?_ | refine done_ret_then ?_ | refine done_exit_then ?_ | refine done_normal_block ?_ | refine done_ret_block ?_ | refine done_exit_here ?_ | refine done_exit_on rfl ?_ | refine done_ret_round ?_ | refine done_exit_round ?_)
          | (refine ws_id ?_; first | refine ws_seq ?_ | refine ws_region ?_ | refine ws_block ?_ | refine ws_skip ?_ | refine ws_ret ?_ | refine ws_exit ?_ | refine ws_cond_t rfl ?_ | refine ws_cond_f rfl ?_)
          | refine rs_gy rfl rfl ?_
          | refine rs_no rfl rfl rfl rfl ?_
    refine ws_loop (ι := Nat) (fun j => [(0, slF w0 L), (4, .f .f32 (roughTo L j)), (5, .raw (.int .i64 ((j : Int) + 1)))]) (fun _ => St w0 [] []) (fun j => j ≤ L.length - 2) (fun j => L.length - j) 0 (Nat.zero_le _) ?_ (fun _ h => h) (fun j hj => ?_)
    · (repeat (first | exact Env.sub_nil _ | refine Env.sub_cons rfl ?_))
    · repeat
        first
            | refine rs_op rfl (opj_move rfl) ?_
            | refine rs_op rfl (opj_assign rfl) ?_
            | (refine rs_idb ?_; first | refine rs_op rfl (opj_fbin rfl rfl rfl) ?_ | refine rs_op rfl (opj_add rfl rfl (by omega)) ?_ | refine rs_op rfl (opj_sub rfl rfl (by omega)) ?_ | refine rs_op rfl (opj_fcmp rfl rfl rfl) ?_ | refine rs_op rfl (opj_lss rfl rfl) ?_ | refine rs_op rfl (opj_leq rfl rfl) ?_ | refine rs_op rfl (opj_gtr rfl rfl) ?_ | refine rs_op rfl (opj_geq rfl rfl) ?_ | refine rs_op rfl (opj_ieq rfl rfl) ?_ | refine rs_op rfl (opj_ine rfl rfl) ?_ | refine rs_op rfl (opj_beq rfl rfl) ?_ | refine rs_op rfl (opj_bne rfl rfl) ?_)
            | (refine rs_idc ?_; first | refine rs_op rfl (opj_len_m rfl) ?_ | refine rs_op rfl (opj_len_raw rfl) ?_ | refine rs_op rfl (opj_real rfl) ?_ | refine rs_op rfl (opj_imag rfl) ?_ | refine rs_op rfl (opj_complex rfl rfl) ?_)
            | refine rs_op rfl (opj_load1 rfl rfl) ?_
            | refine rs_op rfl (opj_index_m rfl rfl (by omega) (by omega)) ?_
            | refine rs_op rfl (opj_index_own rfl rfl (by omega) (by omega)) ?_
            | refine rs_op rfl (opj_wide rfl) ?_
            | refine rs_op rfl (opj_iconv rfl) ?_
            | refine rs_op rfl (opj_extract rfl rfl) ?_
            | refine rs_op rfl (opj_pick_t rfl rfl) ?_
            | refine rs_op rfl (opj_pick_f rfl rfl) ?_
            | refine rs_op rfl (opj_not rfl) ?_
            | refine rs_nil ?_
            | (refine done_id ?_; first | refine done_normal_then ?_ | refine done_ret_then ?_ | refine done_exit_then ?_ | refine done_normal_block ?_ | refine done_ret_block ?_ | refine done_exit_here ?_ | refine done_exit_on rfl ?_ | refine done_ret_round ?_ | refine done_exit_round ?_)
            | (refine ws_id ?_; first | refine ws_seq ?_ | refine ws_region ?_ | refine ws_block ?_ | refine ws_skip ?_ | refine ws_ret ?_ | refine ws_exit ?_ | refine ws_cond_t rfl ?_ | refine ws_cond_f rfl ?_)
            | refine rs_gy rfl rfl ?_
            | refine rs_no rfl rfl rfl rfl ?_
      refine ws_cond rfl (fun hc => ?_) (fun hc => ?_)
      · have hlt : (j : Int) + 1 + 1 < L.length := of_decide_eq_true hc
        repeat
          first
              | refine rs_op rfl (opj_move rfl) ?_
              | refine rs_op rfl (opj_assign rfl) ?_
              | (refine rs_idb ?_; first | refine rs_op rfl (opj_fbin rfl rfl rfl) ?_ | refine rs_op rfl (opj_add rfl rfl (by omega)) ?_ | refine rs_op rfl (opj_sub rfl rfl (by omega)) ?_ | refine rs_op rfl (opj_fcmp rfl rfl rfl) ?_ | refine rs_op rfl (opj_lss rfl rfl) ?_ | refine rs_op rfl (opj_leq rfl rfl) ?_ | refine rs_op rfl (opj_gtr rfl rfl) ?_ | refine rs_op rfl (opj_geq rfl rfl) ?_ | refine rs_op rfl (opj_ieq rfl rfl) ?_ | refine rs_op rfl (opj_ine rfl rfl) ?_ | refine rs_op rfl (opj_beq rfl rfl) ?_ | refine rs_op rfl (opj_bne rfl rfl) ?_)
              | (refine rs_idc ?_; first | refine rs_op rfl (opj_len_m rfl) ?_ | refine rs_op rfl (opj_len_raw rfl) ?_ | refine rs_op rfl (opj_real rfl) ?_ | refine rs_op rfl (opj_imag rfl) ?_ | refine rs_op rfl (opj_complex rfl rfl) ?_)
              | refine rs_op rfl (opj_load1 rfl rfl) ?_
              | refine rs_op rfl (opj_index_m rfl rfl (by omega) (by omega)) ?_
              | refine rs_op rfl (opj_index_own rfl rfl (by omega) (by omega)) ?_
              | refine rs_op rfl (opj_wide rfl) ?_
              | refine rs_op rfl (opj_iconv rfl) ?_
              | refine rs_op rfl (opj_extract rfl rfl) ?_
              | refine rs_op rfl (opj_pick_t rfl rfl) ?_
              | refine rs_op rfl (opj_pick_f rfl rfl) ?_
              | refine rs_op rfl (opj_not rfl) ?_
              | refine rs_nil ?_
              | (refine done_id ?_; first | refine done_normal_then ?_ | refine done_ret_then ?_ | refine done_exit_then ?_ | refine done_normal_block ?_ | refine done_ret_block ?_ | refine done_exit_here ?_ | refine done_exit_on rfl ?_ | refine done_ret_round ?_ | refine done_exit_round ?_)
              | (refine ws_id ?_; first | refine ws_seq ?_ | refine ws_region ?_ | refine ws_block ?_ | refine ws_skip ?_ | refine ws_ret ?_ | refine ws_exit ?_ | refine ws_cond_t rfl ?_ | refine ws_cond_f rfl ?_)
              | refine rs_gy rfl rfl ?_
              | refine rs_no rfl rfl rfl rfl ?_
        refine ws_draw (n := 18) mixed (by decide +kernel) ?_
        repeat
          first
              | refine r1_op rfl (opj_move rfl) ?_
              | refine r1_op rfl (opj_assign rfl) ?_
              | (refine r1_idb ?_; first | refine r1_op rfl (opj_fbin rfl rfl rfl) ?_ | refine r1_op rfl (opj_add rfl rfl (by omega)) ?_ | refine r1_op rfl (opj_sub rfl rfl (by omega)) ?_ | refine r1_op rfl (opj_fcmp rfl rfl rfl) ?_ | refine r1_op rfl (opj_lss rfl rfl) ?_ | refine r1_op rfl (opj_leq rfl rfl) ?_ | refine r1_op rfl (opj_gtr rfl rfl) ?_ | refine r1_op rfl (opj_geq rfl rfl) ?_ | refine r1_op rfl (opj_ieq rfl rfl) ?_ | refine r1_op rfl (opj_ine rfl rfl) ?_ | refine r1_op rfl (opj_beq rfl rfl) ?_ | refine r1_op rfl (opj_bne rfl rfl) ?_)
              | (refine r1_idc ?_; first | refine r1_op rfl (opj_len_m rfl) ?_ | refine r1_op rfl (opj_len_raw rfl) ?_ | refine r1_op rfl (opj_real rfl) ?_ | refine r1_op rfl (opj_imag rfl) ?_ | refine r1_op rfl (opj_complex rfl rfl) ?_)
              | refine r1_op rfl (opj_load1 rfl rfl) ?_
              | refine r1_op rfl (opj_index_m rfl rfl (by omega) (by omega)) ?_
              | refine r1_op rfl (opj_index_own rfl rfl (by omega) (by omega)) ?_
              | refine r1_op rfl (opj_wide rfl) ?_
              | refine r1_op rfl (opj_iconv rfl) ?_
              | refine r1_op rfl (opj_extract rfl rfl) ?_
              | refine r1_op rfl (opj_pick_t rfl rfl) ?_
              | refine r1_op rfl (opj_pick_f rfl rfl) ?_
              | refine r1_op rfl (opj_not rfl) ?_
              | refine r1_nil ?_
              | refine r1_gy rfl rfl ?_
              | refine r1_no rfl rfl rfl rfl ?_
        repeat
          first
              | refine rs_op rfl (opj_move rfl) ?_
              | refine rs_op rfl (opj_assign rfl) ?_
              | (refine rs_idb ?_; first | refine rs_op rfl (opj_fbin rfl rfl rfl) ?_ | refine rs_op rfl (opj_add rfl rfl (by omega)) ?_ | refine rs_op rfl (opj_sub rfl rfl (by omega)) ?_ | refine rs_op rfl (opj_fcmp rfl rfl rfl) ?_ | refine rs_op rfl (opj_lss rfl rfl) ?_ | refine rs_op rfl (opj_leq rfl rfl) ?_ | refine rs_op rfl (opj_gtr rfl rfl) ?_ | refine rs_op rfl (opj_geq rfl rfl) ?_ | refine rs_op rfl (opj_ieq rfl rfl) ?_ | refine rs_op rfl (opj_ine rfl rfl) ?_ | refine rs_op rfl (opj_beq rfl rfl) ?_ | refine rs_op rfl (opj_bne rfl rfl) ?_)
              | (refine rs_idc ?_; first | refine rs_op rfl (opj_len_m rfl) ?_ | refine rs_op rfl (opj_len_raw rfl) ?_ | refine rs_op rfl (opj_real rfl) ?_ | refine rs_op rfl (opj_imag rfl) ?_ | refine rs_op rfl (opj_complex rfl rfl) ?_)
              | refine rs_op rfl (opj_load1 rfl rfl) ?_
              | refine rs_op rfl (opj_index_m rfl rfl (by omega) (by omega)) ?_
              | refine rs_op rfl (opj_index_own rfl rfl (by omega) (by omega)) ?_
              | refine rs_op rfl (opj_wide rfl) ?_
              | refine rs_op rfl (opj_iconv rfl) ?_
              | refine rs_op rfl (opj_extract rfl rfl) ?_
              | refine rs_op rfl (opj_pick_t rfl rfl) ?_
              | refine rs_op rfl (opj_pick_f rfl rfl) ?_
              | refine rs_op rfl (opj_not rfl) ?_
              | refine rs_nil ?_
              | (refine done_id ?_; first | refine done_normal_then ?_ | refine done_ret_then ?_ | refine done_exit_then ?_ | refine done_normal_block ?_ | refine done_ret_block ?_ | refine done_exit_here ?_ | refine done_exit_on rfl ?_ | refine done_ret_round ?_ | refine done_exit_round ?_)
              | (refine ws_id ?_; first | refine ws_seq ?_ | refine ws_region ?_ | refine ws_block ?_ | refine ws_skip ?_ | refine ws_ret ?_ | refine ws_exit ?_ | refine ws_cond_t rfl ?_ | refine ws_cond_f rfl ?_)
              | refine rs_gy rfl rfl ?_
              | refine rs_no rfl rfl rfl rfl ?_
        refine done_round (j + 1) (by omega) (by omega) ?_ (fun _ h => h)
        rw [roughTo_succ L j]
        (repeat (first | exact Env.sub_nil _ | refine Env.sub_cons rfl ?_))
      · have hge : ¬ (j : Int) + 1 + 1 < L.length := of_decide_eq_false hc
        obtain rfl : j = L.length - 2 := by omega
        repeat
          first
              | refine rs_op rfl (opj_move rfl) ?_
              | refine rs_op rfl (opj_assign rfl) ?_
              | (refine rs_idb ?_; first | refine rs_op rfl (opj_fbin rfl rfl rfl) ?_ | refine rs_op rfl (opj_add rfl rfl (by omega)) ?_ | refine rs_op rfl (opj_sub rfl rfl (by omega)) ?_ | refine rs_op rfl (opj_fcmp rfl rfl rfl) ?_ | refine rs_op rfl (opj_lss rfl rfl) ?_ | refine rs_op rfl (opj_leq rfl rfl) ?_ | refine rs_op rfl (opj_gtr rfl rfl) ?_ | refine rs_op rfl (opj_geq rfl rfl) ?_ | refine rs_op rfl (opj_ieq rfl rfl) ?_ | refine rs_op rfl (opj_ine rfl rfl) ?_ | refine rs_op rfl (opj_beq rfl rfl) ?_ | refine rs_op rfl (opj_bne rfl rfl) ?_)
              | (refine rs_idc ?_; first | refine rs_op rfl (opj_len_m rfl) ?_ | refine rs_op rfl (opj_len_raw rfl) ?_ | refine rs_op rfl (opj_real rfl) ?_ | refine rs_op rfl (opj_imag rfl) ?_ | refine rs_op rfl (opj_complex rfl rfl) ?_ | refine rs_op rfl (opj_call rfl rfl (l02Number_fn _) (by (repeat (first | exact Takes.nil | refine Takes.sl ?_ | refine Takes.own (by first | exact List.Mem.head _ | exact List.Mem.tail _ (List.Mem.head _) | exact List.Mem.tail _ (List.Mem.tail _ (List.Mem.head _)) | exact List.Mem.tail _ (List.Mem.tail _ (List.Mem.tail _ (List.Mem.head _))) | exact List.Mem.tail _ (List.Mem.tail _ (List.Mem.tail _ (List.Mem.tail _ (List.Mem.head _)))) | exact List.Mem.tail _ (List.Mem.tail _ (List.Mem.tail _ (List.Mem.tail _ (List.Mem.tail _ (List.Mem.head _)))))) (by simp) (by omega) (by simp only [maxLen]; omega) ?_ | refine Takes.same ?_)); done)) ?_)
              | refine rs_op rfl (opj_load1 rfl rfl) ?_
              | refine rs_op rfl (opj_index_m rfl rfl (by omega) (by omega)) ?_
              | refine rs_op rfl (opj_index_own rfl rfl (by omega) (by omega)) ?_
              | refine rs_op rfl (opj_wide rfl) ?_
              | refine rs_op rfl (opj_iconv rfl) ?_
              | refine rs_op rfl (opj_extract rfl rfl) ?_
              | refine rs_op rfl (opj_pick_t rfl rfl) ?_
              | refine rs_op rfl (opj_pick_f rfl rfl) ?_
              | refine rs_op rfl (opj_not rfl) ?_
              | refine rs_nil ?_
              | (refine done_id ?_; first | refine done_normal_then ?_ | refine done_ret_then ?_ | refine done_exit_then ?_ | refine done_normal_block ?_ | refine done_ret_block ?_ | refine done_exit_here ?_ | refine done_exit_on rfl ?_ | refine done_ret_round ?_ | refine done_exit_round ?_)
              | (refine ws_id ?_; first | refine ws_seq ?_ | refine ws_region ?_ | refine ws_block ?_ | refine ws_skip ?_ | refine ws_ret ?_ | refine ws_exit ?_ | refine ws_cond_t rfl ?_ | refine ws_cond_f rfl ?_)
              | refine rs_gy rfl rfl ?_
              | refine rs_no rfl rfl rfl rfl ?_
        exact done_ret2 rfl () (roughT_quiet hq) rfl rfl trivial (List.nil_sublist _)
theorem law_roughOf (L : List FV) : Fn Try.prog 5 (fun w => [slF w L]) (.raw (.bool true)) := by
  refine fn_intro Try.func5 rfl Try.ntmps5 (fun _ => Nat.le_of_ble_eq_true rfl) fun w0 => ?_
  repeat
    first
        | refine rs_op rfl (opj_move rfl) ?_
        | refine rs_op rfl (opj_assign rfl) ?_
        | (refine rs_idb ?_; first | refine rs_op rfl (opj_fbin rfl rfl rfl) ?_ | refine rs_op rfl (opj_add rfl rfl (by omega)) ?_ | refine rs_op rfl (opj_sub rfl rfl (by omega)) ?_ | refine rs_op rfl (opj_fcmp rfl rfl rfl) ?_ | refine rs_op rfl (opj_lss rfl rfl) ?_ | refine rs_op rfl (opj_leq rfl rfl) ?_ | refine rs_op rfl (opj_gtr rfl rfl) ?_ | refine rs_op rfl (opj_geq rfl rfl) ?_ | refine rs_op rfl (opj_ieq rfl rfl) ?_ | refine rs_op rfl (opj_ine rfl rfl) ?_ | refine rs_op rfl (opj_beq rfl rfl) ?_ | refine rs_op rfl (opj_bne rfl rfl) ?_)
        | (refine rs_idc ?_; first | refine rs_op rfl (opj_len_m rfl) ?_ | refine rs_op rfl (opj_len_raw rfl) ?_ | refine rs_op rfl (opj_real rfl) ?_ | refine rs_op rfl (opj_imag rfl) ?_ | refine rs_op rfl (opj_complex rfl rfl) ?_)
        | refine rs_op rfl (opj_load1 rfl rfl) ?_
        | refine rs_op rfl (opj_index_m rfl rfl (by omega) (by omega)) ?_
        | refine rs_op rfl (opj_index_own rfl rfl (by omega) (by omega)) ?_
        | refine rs_op rfl (opj_wide rfl) ?_
        | refine rs_op rfl (opj_iconv rfl) ?_
        | refine rs_op rfl (opj_extract rfl rfl) ?_
        | refine rs_op rfl (opj_pick_t rfl rfl) ?_
        | refine rs_op rfl (opj_pick_f rfl rfl) ?_
        | refine rs_op rfl (opj_not rfl) ?_
        | refine rs_nil ?_
        | (refine done_id ?_; first | refine done_normal_then ?_ | refine done_ret_then ?_ | refine done_exit_then ?_ | refine done_normal_block ?_ | refine done_ret_block ?_ | refine done_exit_here ?_ | refine done_exit_on rfl ?_ | refine done_ret_round ?_ | refine done_exit_round ?_)
        | (refine ws_id ?_; first | refine ws_seq ?_ | refine ws_region ?_ | refine ws_block ?_ | refine ws_skip ?_ | refine ws_ret ?_ | refine ws_exit ?_ | refine ws_cond_t rfl ?_ | refine ws_cond_f rfl ?_)
        | refine rs_gy rfl rfl ?_
        | refine rs_no rfl rfl rfl rfl ?_
  refine ws_cond rfl (fun hc => ?_) (fun hc => ?_)
  · repeat
      first
          | refine rs_op rfl (opj_move rfl) ?_
          | refine rs_op rfl (opj_assign rfl) ?_
          | (refine rs_idb ?_; first | refine rs_op rfl (opj_fbin rfl rfl rfl) ?_ | refine rs_op rfl (opj_add rfl rfl (by omega)) ?_ | refine rs_op rfl (opj_sub rfl rfl (by omega)) ?_ | refine rs_op rfl (opj_fcmp rfl rfl rfl) ?_ | refine rs_op rfl (opj_lss rfl rfl) ?_ | refine rs_op rfl (opj_leq rfl rfl) ?_ | refine rs_op rfl (opj_gtr rfl rfl) ?_ | refine rs_op rfl (opj_geq rfl rfl) ?_ | refine rs_op rfl (opj_ieq rfl rfl) ?_ | refine rs_op rfl (opj_ine rfl rfl) ?_ | refine rs_op rfl (opj_beq rfl rfl) ?_ | refine rs_op rfl (opj_bne rfl rfl) ?_)
          | (refine rs_idc ?_; first | refine rs_op rfl (opj_len_m rfl) ?_ | refine rs_op rfl (opj_len_raw rfl) ?_ | refine rs_op rfl (opj_real rfl) ?_ | refine rs_op rfl (opj_imag rfl) ?_ | refine rs_op rfl (opj_complex rfl rfl) ?_)
          | refine rs_op rfl (opj_load1 rfl rfl) ?_
          | refine rs_op rfl (opj_index_m rfl rfl (by omega) (by omega)) ?_
          | refine rs_op rfl (opj_index_own rfl rfl (by omega) (by omega)) ?_
          | refine rs_op rfl (opj_wide rfl) ?_
          | refine rs_op rfl (opj_iconv rfl) ?_
          | refine rs_op rfl (opj_extract rfl rfl) ?_
          | refine rs_op rfl (opj_pick_t rfl rfl) ?_
          | refine rs_op rfl (opj_pick_f rfl rfl) ?_
          | refine rs_op rfl (opj_not rfl) ?_
          | refine rs_nil ?_
          | (refine done_id ?_; first | refine done_normal_then ?_ | refine done_ret_then ?_ | refine done_exit_then ?_ | refine done_normal_block ?_ | refine done_ret_block ?_ | refine done_exit_here ?_ | refine done_exit_on rfl ?_ | refine done_ret_round ?_ | refine done_exit_round ?_)
          | (refine ws_id ?_; first | refine ws_seq ?_ | refine ws_region ?_ | refine ws_block ?_ | refine ws_skip ?_ | refine ws_ret ?_ | refine ws_exit ?_ | refine ws_cond_t rfl ?_ | refine ws_cond_f rfl ?_)
          | refine rs_gy rfl rfl ?_
          | refine rs_no rfl rfl rfl rfl ?_
    exact done_ret1 rfl () rfl trivial (List.nil_sublist _)
  · have hlen : L.length ≤ 1048576 := by have := of_decide_eq_false hc; omega
    have hL : L.length < 2 ^ 62 := by omega
    repeat
      first
          | refine rs_op rfl (opj_move rfl) ?_
          | refine rs_op rfl (opj_assign rfl) ?_
          | (refine rs_idb ?_; first | refine rs_op rfl (opj_fbin rfl rfl rfl) ?_ | refine rs_op rfl (opj_add rfl rfl (by omega)) ?_ | refine rs_op rfl (opj_sub rfl rfl (by omega)) ?_ | refine rs_op rfl (opj_fcmp rfl rfl rfl) ?_ | refine rs_op rfl (opj_lss rfl rfl) ?_ | refine rs_op rfl (opj_leq rfl rfl) ?_ | refine rs_op rfl (opj_gtr rfl rfl) ?_ | refine rs_op rfl (opj_geq rfl rfl) ?_ | refine rs_op rfl (opj_ieq rfl rfl) ?_ | refine rs_op rfl (opj_ine rfl rfl) ?_ | refine rs_op rfl (opj_beq rfl rfl) ?_ | refine rs_op rfl (opj_bne rfl rfl) ?_)
          | (refine rs_idc ?_; first | refine rs_op rfl (opj_len_m rfl) ?_ | refine rs_op rfl (opj_len_raw rfl) ?_ | refine rs_op rfl (opj_real rfl) ?_ | refine rs_op rfl (opj_imag rfl) ?_ | refine rs_op rfl (opj_complex rfl rfl) ?_ | (refine rs_call1 (toFloat_fn L (by omega)) rfl rfl ?_ rfl ?_; (focus ((repeat (first | exact Takes.nil | refine Takes.sl ?_ | refine Takes.own (by first | exact List.Mem.head _ | exact List.Mem.tail _ (List.Mem.head _) | exact List.Mem.tail _ (List.Mem.tail _ (List.Mem.head _)) | exact List.Mem.tail _ (List.Mem.tail _ (List.Mem.tail _ (List.Mem.head _))) | exact List.Mem.tail _ (List.Mem.tail _ (List.Mem.tail _ (List.Mem.tail _ (List.Mem.head _)))) | exact List.Mem.tail _ (List.Mem.tail _ (List.Mem.tail _ (List.Mem.tail _ (List.Mem.tail _ (List.Mem.head _)))))) (by simp) (by omega) (by simp only [maxLen]; omega) ?_ | refine Takes.same ?_)); done)); rintro g -) | (refine rs_op rfl (opj_call rfl rfl (specRough_fn L hL) ?_) ?_; (focus ((repeat (first | exact Takes.nil | refine Takes.sl ?_ | refine Takes.own (by first | exact List.Mem.head _ | exact List.Mem.tail _ (List.Mem.head _) | exact List.Mem.tail _ (List.Mem.tail _ (List.Mem.head _)) | exact List.Mem.tail _ (List.Mem.tail _ (List.Mem.tail _ (List.Mem.head _))) | exact List.Mem.tail _ (List.Mem.tail _ (List.Mem.tail _ (List.Mem.tail _ (List.Mem.head _)))) | exact List.Mem.tail _ (List.Mem.tail _ (List.Mem.tail _ (List.Mem.tail _ (List.Mem.tail _ (List.Mem.head _)))))) (by simp) (by omega) (by simp only [maxLen]; omega) ?_ | refine Takes.same ?_)); done))) | (refine rs_op rfl (opj_call rfl rfl (implRough_fn L hL) ?_) ?_; (focus ((repeat (first | exact Takes.nil | refine Takes.sl ?_ | refine Takes.own (by first | exact List.Mem.head _ | exact List.Mem.tail _ (List.Mem.head _) | exact List.Mem.tail _ (List.Mem.tail _ (List.Mem.head _)) | exact List.Mem.tail _ (List.Mem.tail _ (List.Mem.tail _ (List.Mem.head _))) | exact List.Mem.tail _ (List.Mem.tail _ (List.Mem.tail _ (List.Mem.tail _ (List.Mem.head _)))) | exact List.Mem.tail _ (List.Mem.tail _ (List.Mem.tail _ (List.Mem.tail _ (List.Mem.tail _ (List.Mem.head _)))))) (by simp) (by omega) (by simp only [maxLen]; omega) ?_ | refine Takes.same ?_)); done))) | refine rs_op rfl (opj_call rfl rfl (sameFloat_self _) (by (repeat (first | exact Takes.nil | refine Takes.sl ?_ | refine Takes.own (by first | exact List.Mem.head _ | exact List.Mem.tail _ (List.Mem.head _) | exact List.Mem.tail _ (List.Mem.tail _ (List.Mem.head _)) | exact List.Mem.tail _ (List.Mem.tail _ (List.Mem.tail _ (List.Mem.head _))) | exact List.Mem.tail _ (List.Mem.tail _ (List.Mem.tail _ (List.Mem.tail _ (List.Mem.head _)))) | exact List.Mem.tail _ (List.Mem.tail _ (List.Mem.tail _ (List.Mem.tail _ (List.Mem.tail _ (List.Mem.head _)))))) (by simp) (by omega) (by simp only [maxLen]; omega) ?_ | refine Takes.same ?_)); done)) ?_)
          | refine rs_op rfl (opj_load1 rfl rfl) ?_
          | refine rs_op rfl (opj_index_m rfl rfl (by omega) (by omega)) ?_
          | refine rs_op rfl (opj_index_own rfl rfl (by omega) (by omega)) ?_
          | refine rs_op rfl (opj_wide rfl) ?_
          | refine rs_op rfl (opj_iconv rfl) ?_
          | refine rs_op rfl (opj_extract rfl rfl) ?_
          | refine rs_op rfl (opj_pick_t rfl rfl) ?_
          | refine rs_op rfl (opj_pick_f rfl rfl) ?_
          | refine rs_op rfl (opj_not rfl) ?_
          | refine rs_nil ?_
          | (refine done_id ?_; first | refine done_normal_then ?_ | refine done_ret_then ?_ | refine done_exit_then ?_ | refine done_normal_block ?_ | refine done_ret_block ?_ | refine done_exit_here ?_ | refine done_exit_on rfl ?_ | refine done_ret_round ?_ | refine done_exit_round ?_)
          | (refine ws_id ?_; first | refine ws_seq ?_ | refine ws_region ?_ | refine ws_block ?_ | refine ws_skip ?_ | refine ws_ret ?_ | refine ws_exit ?_ | refine ws_cond_t rfl ?_ | refine ws_cond_f rfl ?_)
          | refine rs_gy rfl rfl ?_
          | refine rs_no rfl rfl rfl rfl ?_
    refine ws_cond rfl (fun hd => by simp at hd) (fun _ => ?_)
    repeat
      first
          | refine rs_op rfl (opj_move rfl) ?_
          | refine rs_op rfl (opj_assign rfl) ?_
          | (refine rs_idb ?_; first | refine rs_op rfl (opj_fbin rfl rfl rfl) ?_ | refine rs_op rfl (opj_add rfl rfl (by omega)) ?_ | refine rs_op rfl (opj_sub rfl rfl (by omega)) ?_ | refine rs_op rfl (opj_fcmp rfl rfl rfl) ?_ | refine rs_op rfl (opj_lss rfl rfl) ?_ | refine rs_op rfl (opj_leq rfl rfl) ?_ | refine rs_op rfl (opj_gtr rfl rfl) ?_ | refine rs_op rfl (opj_geq rfl rfl) ?_ | refine rs_op rfl (opj_ieq rfl rfl) ?_ | refine rs_op rfl (opj_ine rfl rfl) ?_ | refine rs_op rfl (opj_beq rfl rfl) ?_ | refine rs_op rfl (opj_bne rfl rfl) ?_)
          | (refine rs_idc ?_; first | refine rs_op rfl (opj_len_m rfl) ?_ | refine rs_op rfl (opj_len_raw rfl) ?_ | refine rs_op rfl (opj_real rfl) ?_ | refine rs_op rfl (opj_imag rfl) ?_ | refine rs_op rfl (opj_complex rfl rfl) ?_ | (refine rs_call1 (toFloat_fn L (by omega)) rfl rfl ?_ rfl ?_; (focus ((repeat (first | exact Takes.nil | refine Takes.sl ?_ | refine Takes.own (by first | exact List.Mem.head _ | exact List.Mem.tail _ (List.Mem.head _) | exact List.Mem.tail _ (List.Mem.tail _ (List.Mem.head _)) | exact List.Mem.tail _ (List.Mem.tail _ (List.Mem.tail _ (List.Mem.head _))) | exact List.Mem.tail _ (List.Mem.tail _ (List.Mem.tail _ (List.Mem.tail _ (List.Mem.head _)))) | exact List.Mem.tail _ (List.Mem.tail _ (List.Mem.tail _ (List.Mem.tail _ (List.Mem.tail _ (List.Mem.head _)))))) (by simp) (by omega) (by simp only [maxLen]; omega) ?_ | refine Takes.same ?_)); done)); rintro g2 -) | (refine rs_op rfl (opj_call rfl rfl (eqFloat_self L hL) ?_) ?_; (focus ((repeat (first | exact Takes.nil | refine Takes.sl ?_ | refine Takes.own (by first | exact List.Mem.head _ | exact List.Mem.tail _ (List.Mem.head _) | exact List.Mem.tail _ (List.Mem.tail _ (List.Mem.head _)) | exact List.Mem.tail _ (List.Mem.tail _ (List.Mem.tail _ (List.Mem.head _))) | exact List.Mem.tail _ (List.Mem.tail _ (List.Mem.tail _ (List.Mem.tail _ (List.Mem.head _)))) | exact List.Mem.tail _ (List.Mem.tail _ (List.Mem.tail _ (List.Mem.tail _ (List.Mem.tail _ (List.Mem.head _)))))) (by simp) (by omega) (by simp only [maxLen]; omega) ?_ | refine Takes.same ?_)); done))))
          | refine rs_op rfl (opj_load1 rfl rfl) ?_
          | refine rs_op rfl (opj_index_m rfl rfl (by omega) (by omega)) ?_
          | refine rs_op rfl (opj_index_own rfl rfl (by omega) (by omega)) ?_
          | refine rs_op rfl (opj_wide rfl) ?_
          | refine rs_op rfl (opj_iconv rfl) ?_
          | refine rs_op rfl (opj_extract rfl rfl) ?_
          | refine rs_op rfl (opj_pick_t rfl rfl) ?_
          | refine rs_op rfl (opj_pick_f rfl rfl) ?_
          | refine rs_op rfl (opj_not rfl) ?_
          | refine rs_nil ?_
          | (refine done_id ?_; first | refine done_normal_then ?_ | refine done_ret_then ?_ | refine done_exit_then ?_ | refine done_normal_block ?_ | refine done_ret_block ?_ | refine done_exit_here ?_ | refine done_exit_on rfl ?_ | refine done_ret_round ?_ | refine done_exit_round ?_)
          | (refine ws_id ?_; first | refine ws_seq ?_ | refine ws_region ?_ | refine ws_block ?_ | refine ws_skip ?_ | refine ws_ret ?_ | refine ws_exit ?_ | refine ws_cond_t rfl ?_ | refine ws_cond_f rfl ?_)
          | refine rs_gy rfl rfl ?_
          | refine rs_no rfl rfl rfl rfl ?_
    exact done_ret1 rfl () rfl trivial (List.nil_sublist _)
end Go.Ab
