/- Nets: the small functions that look at their parts. No conditions. -/
import Derived.Test.YtnajffjobgeenaaNetE
namespace Go.Ab
open Go.Proofs
section
variable {P : Program} {S : World → Prop} {e : Env} {dst : Option Tmp} {ty : TypeId} {pos : String} {after : Array Edge} {guard : Option (Nat × Bool)}
theorem run_slice_h {w : World} (t : TypeId) (a : Option Addr) (len cap : Nat) (ht : P.underlying t = some (.slice (P.elem t))) (k : IntKind) (h : Int) (h0 : 0 ≤ h) (h1 : h ≤ cap) :
    (Instr.slice t (.slice a len cap) none (some (.int k h)) none).run P w = ((sizeOf (P.elem t)).run P w).andThen fun s w => .ok (sliced a 0 h.toNat cap s) w := by
  have eh : (h.toNat : Int) = h := Int.toNat_of_nonneg h0
  simp [Instr.slice, run_underlying ht, Instr.sliceBounds, run_sliceBound, sliced, *, eh]
theorem rd_take {w : World} {v : Value} {xs : List AV} (h : Rd w 1 v xs) {l : Nat} (hl : l ≤ xs.length) : ∃ a len cap, v = .slice a len cap ∧ len = xs.length ∧ len ≤ cap ∧ Rd w 1 (sliced a 0 l cap 1) (xs.take l) := by
  obtain ⟨a, len, cap, rfl, hlen, hc, hm, hx⟩ := h
  refine ⟨a, len, cap, rfl, by omega, hc, ?_⟩
  unfold sliced
  refine ⟨_, _, _, rfl, by simp; omega, by omega, by omega, fun i x hi => ?_⟩
  rw [List.getElem?_take] at hi
  split at hi
  · rename_i hil
    obtain ⟨b, rfl, hs, u, hu, hev⟩ := hx _ _ hi
    rw [if_neg (by omega)]
    refine ⟨b.add (0 * 1), rfl, ?_, u, ?_, hev⟩
    · unfold Addr.add; split <;> simp_all
    · have : (b.add (0 * 1)).block = b.block ∧ (b.add (0 * 1)).off = b.off := by unfold Addr.add; split <;> simp_all
      rw [this.1, this.2]
      exact hu
  · cases hi
theorem opj_slice_h {t el : TypeId} {z : Value} {b : Nat} {X Y : Operand} {w0 : World} {xs : List AV} {k : IntKind} {l : Int} [hu : TyU P t (.slice el)] [hi : TyI P el z 1 b]
    (hx : e.ev X = some (AV.sl w0 1 xs)) (hy : e.ev Y = some (.raw (.int k l))) (h0 : 0 ≤ l) (hl : l ≤ xs.length) :
    OpJ P S e ⟨dst, .slice t X none (some Y) none, ty, pos, after, guard⟩ (AV.sl w0 1 (xs.take l.toNat)) :=
  opj_value fun a w _ ho => by
    have h1 := (ho X (by simp [Op.operands]) _ hx).inv_q
    have h2 := (ho Y (by simp [Op.operands]) _ hy).inv_raw
    obtain ⟨c, len, cap, hv, hlen, hc, hrd⟩ := rd_take h1 (l := l.toNat) (by omega)
    have hel : P.elem t = el := by simp [Program.elem, hu.h]
    have ht : P.underlying t = some (.slice (P.elem t)) := by rw [hel]; exact hu.h
    have hr := run_slice_h (P := P) (w := w) t c len cap ht k l h0 (by omega)
    rw [hel, run_size hi] at hr
    refine ⟨_, w, ?_, Ext.refl _, .q hrd⟩
    have hs := run_sliceAt_slice (P := P) w t (.slice c len cap) none (some (.int k l)) none ht
    simp [execOp, h2, hv, hs, hr]
end
attribute [local irreducible] WS RS Done OpJ Then InBlock Round Ret Env.sub FnH
attribute [local irreducible] tab tabA corners
def inB (n lo hi : Int) : Bool := decide (lo ≤ n) && decide (n ≤ hi)
theorem inB_iff {n lo hi : Int} : inB n lo hi = true ↔ lo ≤ n ∧ n ≤ hi := by simp [inB]
theorem within_fn (n lo hi : Int) : Fn Try.prog 101 (fun _ => [intA n, intA lo, intA hi]) (.raw (.bool (inB n lo hi))) := by
  unfold inB
  refine fn_intro Try.func101 rfl Try.ntmps101 (fun _ => Nat.le_of_ble_eq_true rfl) fun w0 => ?_
  repeat'
    first
        | refine rs_op rfl (opj_move rfl) ?_
        | refine rs_op rfl (opj_assign rfl) ?_
        | (refine rs_idb ?_; first | refine rs_op rfl (opj_fbin rfl rfl rfl) ?_ | refine rs_op rfl (opj_add rfl rfl (by omega)) ?_ | refine rs_op rfl (opj_sub rfl rfl (by omega)) ?_ | (refine rs_opB rfl (opj_fcmp rfl rfl rfl) ?_; intro c hc) | (refine rs_opB rfl (opj_lss rfl rfl) ?_; intro c hc) | (refine rs_opB rfl (opj_leq rfl rfl) ?_; intro c hc) | (refine rs_opB rfl (opj_gtr rfl rfl) ?_; intro c hc) | (refine rs_opB rfl (opj_geq rfl rfl) ?_; intro c hc) | (refine rs_opB rfl (opj_ieq rfl rfl) ?_; intro c hc) | (refine rs_opB rfl (opj_ine rfl rfl) ?_; intro c hc) | (refine rs_opB rfl (opj_beq rfl rfl) ?_; intro c hc) | (refine rs_opB rfl (opj_bne rfl rfl) ?_; intro c hc))
        | (refine rs_idc ?_; first | refine rs_op rfl (opj_len_m rfl) ?_ | refine rs_op rfl (opj_len_raw rfl) ?_ | refine rs_op rfl (opj_real rfl) ?_ | refine rs_op rfl (opj_imag rfl) ?_ | refine rs_op rfl (opj_complex rfl rfl) ?_)
        | (refine rs_idl ?_; first | refine rs_op rfl (opj_loadX rfl rfl (by (repeat (first | exact List.Mem.head _ | refine List.Mem.tail _ ?_)); done) rfl) ?_ | refine rs_op rfl (opj_loadAX rfl rfl (by (repeat (first | exact List.Mem.head _ | refine List.Mem.tail _ ?_)); done) rfl rfl) ?_ | refine rs_op rfl (opj_loadAP rfl rfl rfl rfl) ?_ | refine rs_op rfl (opj_load1 rfl rfl) ?_)
        | (refine rs_ida ?_; first | refine rs_op rfl (opj_index_m rfl rfl (by omega) (by omega)) ?_ | refine rs_op rfl (opj_index_own rfl rfl (by omega) (by omega)) ?_)
        | refine rs_op rfl (opj_field_own rfl) ?_
        | refine rs_op rfl (opj_field_ptr rfl) ?_
        | refine rs_op rfl (opj_wide rfl) ?_
        | refine rs_op rfl (opj_iconv rfl) ?_
        | refine rs_op rfl (opj_extract rfl rfl) ?_
        | refine rs_op rfl (opj_pick_t rfl rfl) ?_
        | refine rs_op rfl (opj_pick_f rfl rfl) ?_
        | refine rs_op rfl (opj_not rfl) ?_
        | refine rs_nil ?_
        | (refine done_id ?_; first | refine done_normal_then ?_ | refine done_ret_then ?_ | refine done_exit_then ?_ | refine done_normal_block ?_ | refine done_ret_block ?_ | refine done_exit_here ?_ | refine done_exit_on rfl ?_ | refine done_ret_round ?_ | refine done_exit_round ?_)
        | (refine ws_id ?_; first | refine ws_seq ?_ | refine ws_region ?_ | refine ws_block ?_ | refine ws_skip ?_ | refine ws_ret ?_ | refine ws_exit ?_ | refine ws_cond_t rfl ?_ | refine ws_cond_f rfl ?_)
        | refine rs_gy rfl rfl ?_
        | refine rs_no rfl rfl rfl rfl ?_
        | (refine rs_boxA rfl rfl rfl ?_; intro g)
        | (refine rs_alloc rfl rfl ?_; intro g)
        | (refine rs_idst ?_; first | refine rs_storeX 0 rfl rfl rfl rfl rfl rfl ?_ | refine rs_storeX 1 rfl rfl rfl rfl rfl rfl ?_ | refine rs_storeX 2 rfl rfl rfl rfl rfl rfl ?_ | refine rs_storeX 3 rfl rfl rfl rfl rfl rfl ?_ | refine rs_storeX 4 rfl rfl rfl rfl rfl rfl ?_ | refine rs_storeX 5 rfl rfl rfl rfl rfl rfl ?_ | refine rs_storeAX 0 rfl rfl rfl rfl rfl rfl rfl rfl rfl ?_ | refine rs_storeAX 1 rfl rfl rfl rfl rfl rfl rfl rfl rfl ?_ | refine rs_storeAX 2 rfl rfl rfl rfl rfl rfl rfl rfl rfl ?_ | refine rs_storeAX 3 rfl rfl rfl rfl rfl rfl rfl rfl rfl ?_ | refine rs_storeAX 4 rfl rfl rfl rfl rfl rfl rfl rfl rfl ?_ | refine rs_storeAX 5 rfl rfl rfl rfl rfl rfl rfl rfl rfl ?_ | refine rs_storeAS 0 rfl rfl rfl rfl rfl rfl ?_ | refine rs_storeAS 1 rfl rfl rfl rfl rfl rfl ?_ | refine rs_storeAS 2 rfl rfl rfl rfl rfl rfl ?_ | refine rs_storeAS 3 rfl rfl rfl rfl rfl rfl ?_)
        | cases c
  all_goals exact done_ret1B rfl () rfl rfl (by simp_all <;> (intros; omega)) trivial (List.nil_sublist _)
theorem l00In_fn (n lo hi : Int) : Fn Try.prog 95 (fun _ => [intA n, intA lo, intA hi]) (.raw (.bool (inB n lo hi))) := by
  unfold inB
  refine fn_intro Try.func95 rfl Try.ntmps95 (fun _ => Nat.le_of_ble_eq_true rfl) fun w0 => ?_
  repeat'
    first
        | refine rs_op rfl (opj_move rfl) ?_
        | refine rs_op rfl (opj_assign rfl) ?_
        | (refine rs_idb ?_; first | refine rs_op rfl (opj_fbin rfl rfl rfl) ?_ | refine rs_op rfl (opj_add rfl rfl (by omega)) ?_ | refine rs_op rfl (opj_sub rfl rfl (by omega)) ?_ | (refine rs_opB rfl (opj_fcmp rfl rfl rfl) ?_; intro c hc) | (refine rs_opB rfl (opj_lss rfl rfl) ?_; intro c hc) | (refine rs_opB rfl (opj_leq rfl rfl) ?_; intro c hc) | (refine rs_opB rfl (opj_gtr rfl rfl) ?_; intro c hc) | (refine rs_opB rfl (opj_geq rfl rfl) ?_; intro c hc) | (refine rs_opB rfl (opj_ieq rfl rfl) ?_; intro c hc) | (refine rs_opB rfl (opj_ine rfl rfl) ?_; intro c hc) | (refine rs_opB rfl (opj_beq rfl rfl) ?_; intro c hc) | (refine rs_opB rfl (opj_bne rfl rfl) ?_; intro c hc))
        | (refine rs_idc ?_; first | refine rs_op rfl (opj_len_m rfl) ?_ | refine rs_op rfl (opj_len_raw rfl) ?_ | refine rs_op rfl (opj_real rfl) ?_ | refine rs_op rfl (opj_imag rfl) ?_ | refine rs_op rfl (opj_complex rfl rfl) ?_)
        | (refine rs_idl ?_; first | refine rs_op rfl (opj_loadX rfl rfl (by (repeat (first | exact List.Mem.head _ | refine List.Mem.tail _ ?_)); done) rfl) ?_ | refine rs_op rfl (opj_loadAX rfl rfl (by (repeat (first | exact List.Mem.head _ | refine List.Mem.tail _ ?_)); done) rfl rfl) ?_ | refine rs_op rfl (opj_loadAP rfl rfl rfl rfl) ?_ | refine rs_op rfl (opj_load1 rfl rfl) ?_)
        | (refine rs_ida ?_; first | refine rs_op rfl (opj_index_m rfl rfl (by omega) (by omega)) ?_ | refine rs_op rfl (opj_index_own rfl rfl (by omega) (by omega)) ?_)
        | refine rs_op rfl (opj_field_own rfl) ?_
        | refine rs_op rfl (opj_field_ptr rfl) ?_
        | refine rs_op rfl (opj_wide rfl) ?_
        | refine rs_op rfl (opj_iconv rfl) ?_
        | refine rs_op rfl (opj_extract rfl rfl) ?_
        | refine rs_op rfl (opj_pick_t rfl rfl) ?_
        | refine rs_op rfl (opj_pick_f rfl rfl) ?_
        | refine rs_op rfl (opj_not rfl) ?_
        | refine rs_nil ?_
        | (refine done_id ?_; first | refine done_normal_then ?_ | refine done_ret_then ?_ | refine done_exit_then ?_ | refine done_normal_block ?_ | refine done_ret_block ?_ | refine done_exit_here ?_ | refine done_exit_on rfl ?_ | refine done_ret_round ?_ | refine done_exit_round ?_)
        | (refine ws_id ?_; first | refine ws_seq ?_ | refine ws_region ?_ | refine ws_block ?_ | refine ws_skip ?_ | refine ws_ret ?_ | refine ws_exit ?_ | refine ws_cond_t rfl ?_ | refine ws_cond_f rfl ?_)
        | refine rs_gy rfl rfl ?_
        | refine rs_no rfl rfl rfl rfl ?_
        | (refine rs_boxA rfl rfl rfl ?_; intro g)
        | (refine rs_alloc rfl rfl ?_; intro g)
        | (refine rs_idst ?_; first | refine rs_storeX 0 rfl rfl rfl rfl rfl rfl ?_ | refine rs_storeX 1 rfl rfl rfl rfl rfl rfl ?_ | refine rs_storeX 2 rfl rfl rfl rfl rfl rfl ?_ | refine rs_storeX 3 rfl rfl rfl rfl rfl rfl ?_ | refine rs_storeX 4 rfl rfl rfl rfl rfl rfl ?_ | refine rs_storeX 5 rfl rfl rfl rfl rfl rfl ?_ | refine rs_storeAX 0 rfl rfl rfl rfl rfl rfl rfl rfl rfl ?_ | refine rs_storeAX 1 rfl rfl rfl rfl rfl rfl rfl rfl rfl ?_ | refine rs_storeAX 2 rfl rfl rfl rfl rfl rfl rfl rfl rfl ?_ | refine rs_storeAX 3 rfl rfl rfl rfl rfl rfl rfl rfl rfl ?_ | refine rs_storeAX 4 rfl rfl rfl rfl rfl rfl rfl rfl rfl ?_ | refine rs_storeAX 5 rfl rfl rfl rfl rfl rfl rfl rfl rfl ?_ | refine rs_storeAS 0 rfl rfl rfl rfl rfl rfl ?_ | refine rs_storeAS 1 rfl rfl rfl rfl rfl rfl ?_ | refine rs_storeAS 2 rfl rfl rfl rfl rfl rfl ?_ | refine rs_storeAS 3 rfl rfl rfl rfl rfl rfl ?_)
        | cases c
  all_goals exact done_ret1B rfl () rfl rfl (by simp_all <;> (intros; omega)) trivial (List.nil_sublist _)

/-! Spots. -/
def spotFin (s : Int → FV) (i : Int) : Bool := [s (3 * i), s (3 * i + 1), s (3 * i + 2)].all finB
def spotsFin (n : Nat) (s : Int → FV) : Bool := (List.range n).all fun i => spotFin s i
theorem spotsFin_true {n : Nat} {s : Int → FV} (h : ∀ i : Nat, i < n → spotFin s i = true) : spotsFin n s = true := by
  unfold spotsFin; rw [List.all_eq_true]; intro i hi; exact h i (by simpa using hi)
theorem spotsFin_false {n : Nat} {s : Int → FV} {i : Nat} (hi : i < n) (h : spotFin s i = false) : spotsFin n s = false := by
  unfold spotsFin; rw [List.all_eq_false]; exact ⟨i, by simpa using hi, by simp [h]⟩
theorem isSpot_fn (x y z : FV) : Fn Try.prog 161 (fun _ => [.agg [.f .f32 x, .f .f32 y, .f .f32 z]]) (.raw (.bool ([x, y, z].all finB))) := by
  have h := areFinite_fn [x, y, z] (by simp)
  refine fn_intro Try.func161 rfl Try.ntmps161 (fun _ => Nat.le_of_ble_eq_true rfl) fun w0 => ?_
  repeat
    first
        | refine rs_op rfl (opj_move rfl) ?_
        | refine rs_op rfl (opj_assign rfl) ?_
        | (refine rs_idb ?_; first | refine rs_op rfl (opj_fbin rfl rfl rfl) ?_ | refine rs_op rfl (opj_add rfl rfl (by omega)) ?_ | refine rs_op rfl (opj_sub rfl rfl (by omega)) ?_ | refine rs_op rfl (opj_fcmp rfl rfl rfl) ?_ | refine rs_op rfl (opj_lss rfl rfl) ?_ | refine rs_op rfl (opj_leq rfl rfl) ?_ | refine rs_op rfl (opj_gtr rfl rfl) ?_ | refine rs_op rfl (opj_geq rfl rfl) ?_ | refine rs_op rfl (opj_ieq rfl rfl) ?_ | refine rs_op rfl (opj_ine rfl rfl) ?_ | refine rs_op rfl (opj_beq rfl rfl) ?_ | refine rs_op rfl (opj_bne rfl rfl) ?_)
        | (refine rs_idc ?_; first | refine rs_op rfl (opj_len_m rfl) ?_ | refine rs_op rfl (opj_len_raw rfl) ?_ | refine rs_op rfl (opj_real rfl) ?_ | refine rs_op rfl (opj_imag rfl) ?_ | refine rs_op rfl (opj_complex rfl rfl) ?_)
        | (refine rs_idl ?_; first | refine rs_op rfl (opj_loadX rfl rfl (by (repeat (first | exact List.Mem.head _ | refine List.Mem.tail _ ?_)); done) rfl) ?_ | refine rs_op rfl (opj_loadAX rfl rfl (by (repeat (first | exact List.Mem.head _ | refine List.Mem.tail _ ?_)); done) rfl rfl) ?_ | refine rs_op rfl (opj_loadAP rfl rfl rfl rfl) ?_ | refine rs_op rfl (opj_load1 rfl rfl) ?_)
        | (refine rs_ida ?_; first | refine rs_op rfl (opj_index_m rfl rfl (by omega) (by omega)) ?_ | refine rs_op rfl (opj_index_own rfl rfl (by omega) (by omega)) ?_)
        | refine rs_op rfl (opj_field_own rfl) ?_
        | refine rs_op rfl (opj_field_ptr rfl) ?_
        | refine rs_op rfl (opj_wide rfl) ?_
        | refine rs_op rfl (opj_iconv rfl) ?_
        | refine rs_op rfl (opj_extract rfl rfl) ?_
        | refine rs_op rfl (opj_pick_t rfl rfl) ?_
        | refine rs_op rfl (opj_pick_f rfl rfl) ?_
        | refine rs_op rfl (opj_not rfl) ?_
        | refine rs_nil ?_
        | (refine done_id ?_; first | refine done_normal_then ?_ | refine done_ret_then ?_ | refine done_exit_then ?_ | refine done_normal_block ?_ | refine done_ret_block ?_ | refine done_exit_here ?_ | refine done_exit_on rfl ?_ | refine done_ret_round ?_ | refine done_exit_round ?_)
        | (refine ws_id ?_; first | refine ws_seq ?_ | refine ws_region ?_ | refine ws_block ?_ | refine ws_skip ?_ | refine ws_ret ?_ | refine ws_exit ?_ | refine ws_cond_t rfl ?_ | refine ws_cond_f rfl ?_)
        | refine rs_gy rfl rfl ?_
        | refine rs_no rfl rfl rfl rfl ?_
        | (refine rs_boxA rfl rfl rfl ?_; intro g)
        | (refine rs_alloc rfl rfl ?_; intro g)
        | (refine rs_idst ?_; first | refine rs_storeX 0 rfl rfl rfl rfl rfl rfl ?_ | refine rs_storeX 1 rfl rfl rfl rfl rfl rfl ?_ | refine rs_storeX 2 rfl rfl rfl rfl rfl rfl ?_ | refine rs_storeX 3 rfl rfl rfl rfl rfl rfl ?_ | refine rs_storeX 4 rfl rfl rfl rfl rfl rfl ?_ | refine rs_storeX 5 rfl rfl rfl rfl rfl rfl ?_ | refine rs_storeAX 0 rfl rfl rfl rfl rfl rfl rfl rfl rfl ?_ | refine rs_storeAX 1 rfl rfl rfl rfl rfl rfl rfl rfl rfl ?_ | refine rs_storeAX 2 rfl rfl rfl rfl rfl rfl rfl rfl rfl ?_ | refine rs_storeAX 3 rfl rfl rfl rfl rfl rfl rfl rfl rfl ?_ | refine rs_storeAX 4 rfl rfl rfl rfl rfl rfl rfl rfl rfl ?_ | refine rs_storeAX 5 rfl rfl rfl rfl rfl rfl rfl rfl rfl ?_ | refine rs_storeAS 0 rfl rfl rfl rfl rfl rfl ?_ | refine rs_storeAS 1 rfl rfl rfl rfl rfl rfl ?_ | refine rs_storeAS 2 rfl rfl rfl rfl rfl rfl ?_ | refine rs_storeAS 3 rfl rfl rfl rfl rfl rfl ?_)
        | refine rs_op rfl (opj_litP rfl rfl rfl rfl rfl rfl) ?_
        | refine rs_op rfl (opj_call rfl rfl h (Takes.lit Takes.nil)) ?_
  exact done_ret1 rfl () rfl trivial (List.nil_sublist _)
theorem areSpots1_fn (x y z : FV) : Fn Try.prog 160 (fun _ => [.agg [.f .f32 x, .f .f32 y, .f .f32 z]]) (.raw (.bool (!([x, y, z].all finB)))) := by
  have h := isSpot_fn x y z
  refine fn_intro Try.func160 rfl Try.ntmps160 (fun _ => Nat.le_of_ble_eq_true rfl) fun w0 => ?_
  repeat
    first
        | refine rs_op rfl (opj_move rfl) ?_
        | refine rs_op rfl (opj_assign rfl) ?_
        | (refine rs_idb ?_; first | refine rs_op rfl (opj_fbin rfl rfl rfl) ?_ | refine rs_op rfl (opj_add rfl rfl (by omega)) ?_ | refine rs_op rfl (opj_sub rfl rfl (by omega)) ?_ | refine rs_op rfl (opj_fcmp rfl rfl rfl) ?_ | refine rs_op rfl (opj_lss rfl rfl) ?_ | refine rs_op rfl (opj_leq rfl rfl) ?_ | refine rs_op rfl (opj_gtr rfl rfl) ?_ | refine rs_op rfl (opj_geq rfl rfl) ?_ | refine rs_op rfl (opj_ieq rfl rfl) ?_ | refine rs_op rfl (opj_ine rfl rfl) ?_ | refine rs_op rfl (opj_beq rfl rfl) ?_ | refine rs_op rfl (opj_bne rfl rfl) ?_)
        | (refine rs_idc ?_; first | refine rs_op rfl (opj_len_m rfl) ?_ | refine rs_op rfl (opj_len_raw rfl) ?_ | refine rs_op rfl (opj_real rfl) ?_ | refine rs_op rfl (opj_imag rfl) ?_ | refine rs_op rfl (opj_complex rfl rfl) ?_)
        | (refine rs_idl ?_; first | refine rs_op rfl (opj_loadX rfl rfl (by (repeat (first | exact List.Mem.head _ | refine List.Mem.tail _ ?_)); done) rfl) ?_ | refine rs_op rfl (opj_loadAX rfl rfl (by (repeat (first | exact List.Mem.head _ | refine List.Mem.tail _ ?_)); done) rfl rfl) ?_ | refine rs_op rfl (opj_loadAP rfl rfl rfl rfl) ?_ | refine rs_op rfl (opj_load1 rfl rfl) ?_)
        | (refine rs_ida ?_; first | refine rs_op rfl (opj_index_m rfl rfl (by omega) (by omega)) ?_ | refine rs_op rfl (opj_index_own rfl rfl (by omega) (by omega)) ?_)
        | refine rs_op rfl (opj_field_own rfl) ?_
        | refine rs_op rfl (opj_field_ptr rfl) ?_
        | refine rs_op rfl (opj_wide rfl) ?_
        | refine rs_op rfl (opj_iconv rfl) ?_
        | refine rs_op rfl (opj_extract rfl rfl) ?_
        | refine rs_op rfl (opj_pick_t rfl rfl) ?_
        | refine rs_op rfl (opj_pick_f rfl rfl) ?_
        | refine rs_op rfl (opj_not rfl) ?_
        | refine rs_nil ?_
        | (refine done_id ?_; first | refine done_normal_then ?_ | refine done_ret_then ?_ | refine done_exit_then ?_ | refine done_normal_block ?_ | refine done_ret_block ?_ | refine done_exit_here ?_ | refine done_exit_on rfl ?_ | refine done_ret_round ?_ | refine done_exit_round ?_)
        | (refine ws_id ?_; first | refine ws_seq ?_ | refine ws_region ?_ | refine ws_block ?_ | refine ws_skip ?_ | refine ws_ret ?_ | refine ws_exit ?_ | refine ws_cond_t rfl ?_ | refine ws_cond_f rfl ?_)
        | refine rs_gy rfl rfl ?_
        | refine rs_no rfl rfl rfl rfl ?_
        | (refine rs_boxA rfl rfl rfl ?_; intro g)
        | (refine rs_alloc rfl rfl ?_; intro g)
        | (refine rs_idst ?_; first | refine rs_storeX 0 rfl rfl rfl rfl rfl rfl ?_ | refine rs_storeX 1 rfl rfl rfl rfl rfl rfl ?_ | refine rs_storeX 2 rfl rfl rfl rfl rfl rfl ?_ | refine rs_storeX 3 rfl rfl rfl rfl rfl rfl ?_ | refine rs_storeX 4 rfl rfl rfl rfl rfl rfl ?_ | refine rs_storeX 5 rfl rfl rfl rfl rfl rfl ?_ | refine rs_storeAX 0 rfl rfl rfl rfl rfl rfl rfl rfl rfl ?_ | refine rs_storeAX 1 rfl rfl rfl rfl rfl rfl rfl rfl rfl ?_ | refine rs_storeAX 2 rfl rfl rfl rfl rfl rfl rfl rfl rfl ?_ | refine rs_storeAX 3 rfl rfl rfl rfl rfl rfl rfl rfl rfl ?_ | refine rs_storeAX 4 rfl rfl rfl rfl rfl rfl rfl rfl rfl ?_ | refine rs_storeAX 5 rfl rfl rfl rfl rfl rfl rfl rfl rfl ?_ | refine rs_storeAS 0 rfl rfl rfl rfl rfl rfl ?_ | refine rs_storeAS 1 rfl rfl rfl rfl rfl rfl ?_ | refine rs_storeAS 2 rfl rfl rfl rfl rfl rfl ?_ | refine rs_storeAS 3 rfl rfl rfl rfl rfl rfl ?_)
        | refine rs_op rfl (opj_call rfl rfl h (Takes.same Takes.nil)) ?_
  exact done_ret1 rfl () rfl trivial (List.nil_sublist _)
theorem indexSpots_fn (n : Nat) (s : Int → FV) (hn : n < 2 ^ 60) : FnH (X := Int) Try.prog 184 (fun w => [slS w n s, .raw (.func (.func 160) #[] #[])]) []
    (fun i => intA i) (fun _ => []) (fun i => -1 ≤ i ∧ i < 2 ^ 60 ∧ spotsFin n s = decide (i < 0)) := by
  refine fn_intro Try.func184 rfl Try.ntmps184 (fun _ => Nat.le_of_ble_eq_true rfl) fun w0 => ?_
  repeat
    first
        | refine rs_op rfl (opj_move rfl) ?_
        | refine rs_op rfl (opj_assign rfl) ?_
        | (refine rs_idb ?_; first | refine rs_op rfl (opj_fbin rfl rfl rfl) ?_ | refine rs_op rfl (opj_add rfl rfl (by omega)) ?_ | refine rs_op rfl (opj_sub rfl rfl (by omega)) ?_ | refine rs_op rfl (opj_fcmp rfl rfl rfl) ?_ | refine rs_op rfl (opj_lss rfl rfl) ?_ | refine rs_op rfl (opj_leq rfl rfl) ?_ | refine rs_op rfl (opj_gtr rfl rfl) ?_ | refine rs_op rfl (opj_geq rfl rfl) ?_ | refine rs_op rfl (opj_ieq rfl rfl) ?_ | refine rs_op rfl (opj_ine rfl rfl) ?_ | refine rs_op rfl (opj_beq rfl rfl) ?_ | refine rs_op rfl (opj_bne rfl rfl) ?_)
        | (refine rs_idc ?_; first | refine rs_op rfl (opj_len_m rfl) ?_ | refine rs_op rfl (opj_len_raw rfl) ?_ | refine rs_op rfl (opj_real rfl) ?_ | refine rs_op rfl (opj_imag rfl) ?_ | refine rs_op rfl (opj_complex rfl rfl) ?_)
        | (refine rs_idl ?_; first | refine rs_op rfl (opj_loadX rfl rfl (by (repeat (first | exact List.Mem.head _ | refine List.Mem.tail _ ?_)); done) rfl) ?_ | refine rs_op rfl (opj_loadAX rfl rfl (by (repeat (first | exact List.Mem.head _ | refine List.Mem.tail _ ?_)); done) rfl rfl) ?_ | refine rs_op rfl (opj_loadAP rfl rfl rfl rfl) ?_ | refine rs_op rfl (opj_load1 rfl rfl) ?_)
        | (refine rs_ida ?_; first | refine rs_op rfl (opj_index_m rfl rfl (by omega) (by omega)) ?_ | refine rs_op rfl (opj_index_own rfl rfl (by omega) (by omega)) ?_)
        | refine rs_op rfl (opj_field_own rfl) ?_
        | refine rs_op rfl (opj_field_ptr rfl) ?_
        | refine rs_op rfl (opj_wide rfl) ?_
        | refine rs_op rfl (opj_iconv rfl) ?_
        | refine rs_op rfl (opj_extract rfl rfl) ?_
        | refine rs_op rfl (opj_pick_t rfl rfl) ?_
        | refine rs_op rfl (opj_pick_f rfl rfl) ?_
        | refine rs_op rfl (opj_not rfl) ?_
        | refine rs_nil ?_
        | (refine done_id ?_; first | refine done_normal_then ?_ | refine done_ret_then ?_ | refine done_exit_then ?_ | refine done_normal_block ?_ | refine done_ret_block ?_ | refine done_exit_here ?_ | refine done_exit_on rfl ?_ | refine done_ret_round ?_ | refine done_exit_round ?_)
        | (refine ws_id ?_; first | refine ws_seq ?_ | refine ws_region ?_ | refine ws_block ?_ | refine ws_skip ?_ | refine ws_ret ?_ | refine ws_exit ?_ | refine ws_cond_t rfl ?_ | refine ws_cond_f rfl ?_)
        | refine rs_gy rfl rfl ?_
        | refine rs_no rfl rfl rfl rfl ?_
        | (refine rs_boxA rfl rfl rfl ?_; intro g)
        | (refine rs_alloc rfl rfl ?_; intro g)
        | (refine rs_idst ?_; first | refine rs_storeX 0 rfl rfl rfl rfl rfl rfl ?_ | refine rs_storeX 1 rfl rfl rfl rfl rfl rfl ?_ | refine rs_storeX 2 rfl rfl rfl rfl rfl rfl ?_ | refine rs_storeX 3 rfl rfl rfl rfl rfl rfl ?_ | refine rs_storeX 4 rfl rfl rfl rfl rfl rfl ?_ | refine rs_storeX 5 rfl rfl rfl rfl rfl rfl ?_ | refine rs_storeAX 0 rfl rfl rfl rfl rfl rfl rfl rfl rfl ?_ | refine rs_storeAX 1 rfl rfl rfl rfl rfl rfl rfl rfl rfl ?_ | refine rs_storeAX 2 rfl rfl rfl rfl rfl rfl rfl rfl rfl ?_ | refine rs_storeAX 3 rfl rfl rfl rfl rfl rfl rfl rfl rfl ?_ | refine rs_storeAX 4 rfl rfl rfl rfl rfl rfl rfl rfl rfl ?_ | refine rs_storeAX 5 rfl rfl rfl rfl rfl rfl rfl rfl rfl ?_ | refine rs_storeAS 0 rfl rfl rfl rfl rfl rfl ?_ | refine rs_storeAS 1 rfl rfl rfl rfl rfl rfl ?_ | refine rs_storeAS 2 rfl rfl rfl rfl rfl rfl ?_ | refine rs_storeAS 3 rfl rfl rfl rfl rfl rfl ?_)
        | refine rs_op rfl (opj_lenS rfl) ?_
  refine ws_loop (ι := Nat) (fun k => [(0, slS w0 n s), (1, .raw (.func (.func 160) #[] #[])), (7, .raw (.int .i64 n)), (8, .raw (.int .i64 k))]) (fun _ => St w0 [] []) (fun k => k ≤ n ∧ ∀ i : Nat, i < k → spotFin s i = true) (fun k => n - k) 0 ⟨Nat.zero_le _, fun i hi => by omega⟩ ?_ (fun _ h => h) (fun k hk => ?_)
  · (repeat (first | exact Env.sub_nil _ | refine Env.sub_cons rfl ?_))
  obtain ⟨hk, hall⟩ := hk
  repeat
    first
        | refine rs_op rfl (opj_move rfl) ?_
        | refine rs_op rfl (opj_assign rfl) ?_
        | (refine rs_idb ?_; first | refine rs_op rfl (opj_fbin rfl rfl rfl) ?_ | refine rs_op rfl (opj_add rfl rfl (by omega)) ?_ | refine rs_op rfl (opj_sub rfl rfl (by omega)) ?_ | refine rs_op rfl (opj_fcmp rfl rfl rfl) ?_ | refine rs_op rfl (opj_lss rfl rfl) ?_ | refine rs_op rfl (opj_leq rfl rfl) ?_ | refine rs_op rfl (opj_gtr rfl rfl) ?_ | refine rs_op rfl (opj_geq rfl rfl) ?_ | refine rs_op rfl (opj_ieq rfl rfl) ?_ | refine rs_op rfl (opj_ine rfl rfl) ?_ | refine rs_op rfl (opj_beq rfl rfl) ?_ | refine rs_op rfl (opj_bne rfl rfl) ?_)
        | (refine rs_idc ?_; first | refine rs_op rfl (opj_len_m rfl) ?_ | refine rs_op rfl (opj_len_raw rfl) ?_ | refine rs_op rfl (opj_real rfl) ?_ | refine rs_op rfl (opj_imag rfl) ?_ | refine rs_op rfl (opj_complex rfl rfl) ?_)
        | (refine rs_idl ?_; first | refine rs_op rfl (opj_loadX rfl rfl (by (repeat (first | exact List.Mem.head _ | refine List.Mem.tail _ ?_)); done) rfl) ?_ | refine rs_op rfl (opj_loadAX rfl rfl (by (repeat (first | exact List.Mem.head _ | refine List.Mem.tail _ ?_)); done) rfl rfl) ?_ | refine rs_op rfl (opj_loadAP rfl rfl rfl rfl) ?_ | refine rs_op rfl (opj_load1 rfl rfl) ?_)
        | (refine rs_ida ?_; first | refine rs_op rfl (opj_index_m rfl rfl (by omega) (by omega)) ?_ | refine rs_op rfl (opj_index_own rfl rfl (by omega) (by omega)) ?_)
        | refine rs_op rfl (opj_field_own rfl) ?_
        | refine rs_op rfl (opj_field_ptr rfl) ?_
        | refine rs_op rfl (opj_wide rfl) ?_
        | refine rs_op rfl (opj_iconv rfl) ?_
        | refine rs_op rfl (opj_extract rfl rfl) ?_
        | refine rs_op rfl (opj_pick_t rfl rfl) ?_
        | refine rs_op rfl (opj_pick_f rfl rfl) ?_
        | refine rs_op rfl (opj_not rfl) ?_
        | refine rs_nil ?_
        | (refine done_id ?_; first | refine done_normal_then ?_ | refine done_ret_then ?_ | refine done_exit_then ?_ | refine done_normal_block ?_ | refine done_ret_block ?_ | refine done_exit_here ?_ | refine done_exit_on rfl ?_ | refine done_ret_round ?_ | refine done_exit_round ?_)
        | (refine ws_id ?_; first | refine ws_seq ?_ | refine ws_region ?_ | refine ws_block ?_ | refine ws_skip ?_ | refine ws_ret ?_ | refine ws_exit ?_ | refine ws_cond_t rfl ?_ | refine ws_cond_f rfl ?_)
        | refine rs_gy rfl rfl ?_
        | refine rs_no rfl rfl rfl rfl ?_
        | (refine rs_boxA rfl rfl rfl ?_; intro g)
        | (refine rs_alloc rfl rfl ?_; intro g)
        | (refine rs_idst ?_; first | refine rs_storeX 0 rfl rfl rfl rfl rfl rfl ?_ | refine rs_storeX 1 rfl rfl rfl rfl rfl rfl ?_ | refine rs_storeX 2 rfl rfl rfl rfl rfl rfl ?_ | refine rs_storeX 3 rfl rfl rfl rfl rfl rfl ?_ | refine rs_storeX 4 rfl rfl rfl rfl rfl rfl ?_ | refine rs_storeX 5 rfl rfl rfl rfl rfl rfl ?_ | refine rs_storeAX 0 rfl rfl rfl rfl rfl rfl rfl rfl rfl ?_ | refine rs_storeAX 1 rfl rfl rfl rfl rfl rfl rfl rfl rfl ?_ | refine rs_storeAX 2 rfl rfl rfl rfl rfl rfl rfl rfl rfl ?_ | refine rs_storeAX 3 rfl rfl rfl rfl rfl rfl rfl rfl rfl ?_ | refine rs_storeAX 4 rfl rfl rfl rfl rfl rfl rfl rfl rfl ?_ | refine rs_storeAX 5 rfl rfl rfl rfl rfl rfl rfl rfl rfl ?_ | refine rs_storeAS 0 rfl rfl rfl rfl rfl rfl ?_ | refine rs_storeAS 1 rfl rfl rfl rfl rfl rfl ?_ | refine rs_storeAS 2 rfl rfl rfl rfl rfl rfl ?_ | refine rs_storeAS 3 rfl rfl rfl rfl rfl rfl ?_)
  refine ws_cond rfl (fun hc => ?_) (fun hc => ?_)
  · have hlt : (k : Int) < n := of_decide_eq_true hc
    have h := areSpots1_fn (s (3 * (k : Int))) (s (3 * (k : Int) + 1)) (s (3 * (k : Int) + 2))
    repeat
      first
          | refine rs_op rfl (opj_move rfl) ?_
          | refine rs_op rfl (opj_assign rfl) ?_
          | (refine rs_idb ?_; first | refine rs_op rfl (opj_fbin rfl rfl rfl) ?_ | refine rs_op rfl (opj_add rfl rfl (by omega)) ?_ | refine rs_op rfl (opj_sub rfl rfl (by omega)) ?_ | refine rs_op rfl (opj_fcmp rfl rfl rfl) ?_ | refine rs_op rfl (opj_lss rfl rfl) ?_ | refine rs_op rfl (opj_leq rfl rfl) ?_ | refine rs_op rfl (opj_gtr rfl rfl) ?_ | refine rs_op rfl (opj_geq rfl rfl) ?_ | refine rs_op rfl (opj_ieq rfl rfl) ?_ | refine rs_op rfl (opj_ine rfl rfl) ?_ | refine rs_op rfl (opj_beq rfl rfl) ?_ | refine rs_op rfl (opj_bne rfl rfl) ?_)
          | (refine rs_idc ?_; first | refine rs_op rfl (opj_len_m rfl) ?_ | refine rs_op rfl (opj_len_raw rfl) ?_ | refine rs_op rfl (opj_real rfl) ?_ | refine rs_op rfl (opj_imag rfl) ?_ | refine rs_op rfl (opj_complex rfl rfl) ?_)
          | (refine rs_idl ?_; first | refine rs_op rfl (opj_loadX rfl rfl (by (repeat (first | exact List.Mem.head _ | refine List.Mem.tail _ ?_)); done) rfl) ?_ | refine rs_op rfl (opj_loadAX rfl rfl (by (repeat (first | exact List.Mem.head _ | refine List.Mem.tail _ ?_)); done) rfl rfl) ?_ | refine rs_op rfl (opj_loadAP rfl rfl rfl rfl) ?_ | refine rs_op rfl (opj_load1 rfl rfl) ?_)
          | (refine rs_ida ?_; first | refine rs_op rfl (opj_index_m rfl rfl (by omega) (by omega)) ?_ | refine rs_op rfl (opj_index_own rfl rfl (by omega) (by omega)) ?_ | refine rs_op rfl (opj_indexS rfl rfl (by omega) (by omega)) ?_)
          | refine rs_op rfl (opj_field_own rfl) ?_
          | refine rs_op rfl (opj_field_ptr rfl) ?_
          | refine rs_op rfl (opj_wide rfl) ?_
          | refine rs_op rfl (opj_iconv rfl) ?_
          | refine rs_op rfl (opj_extract rfl rfl) ?_
          | refine rs_op rfl (opj_pick_t rfl rfl) ?_
          | refine rs_op rfl (opj_pick_f rfl rfl) ?_
          | refine rs_op rfl (opj_not rfl) ?_
          | refine rs_nil ?_
          | (refine done_id ?_; first | refine done_normal_then ?_ | refine done_ret_then ?_ | refine done_exit_then ?_ | refine done_normal_block ?_ | refine done_ret_block ?_ | refine done_exit_here ?_ | refine done_exit_on rfl ?_ | refine done_ret_round ?_ | refine done_exit_round ?_)
          | (refine ws_id ?_; first | refine ws_seq ?_ | refine ws_region ?_ | refine ws_block ?_ | refine ws_skip ?_ | refine ws_ret ?_ | refine ws_exit ?_ | refine ws_cond_t rfl ?_ | refine ws_cond_f rfl ?_)
          | refine rs_gy rfl rfl ?_
          | refine rs_no rfl rfl rfl rfl ?_
          | (refine rs_boxA rfl rfl rfl ?_; intro g)
          | (refine rs_alloc rfl rfl ?_; intro g)
          | (refine rs_idst ?_; first | refine rs_storeX 0 rfl rfl rfl rfl rfl rfl ?_ | refine rs_storeX 1 rfl rfl rfl rfl rfl rfl ?_ | refine rs_storeX 2 rfl rfl rfl rfl rfl rfl ?_ | refine rs_storeX 3 rfl rfl rfl rfl rfl rfl ?_ | refine rs_storeX 4 rfl rfl rfl rfl rfl rfl ?_ | refine rs_storeX 5 rfl rfl rfl rfl rfl rfl ?_ | refine rs_storeAX 0 rfl rfl rfl rfl rfl rfl rfl rfl rfl ?_ | refine rs_storeAX 1 rfl rfl rfl rfl rfl rfl rfl rfl rfl ?_ | refine rs_storeAX 2 rfl rfl rfl rfl rfl rfl rfl rfl rfl ?_ | refine rs_storeAX 3 rfl rfl rfl rfl rfl rfl rfl rfl rfl ?_ | refine rs_storeAX 4 rfl rfl rfl rfl rfl rfl rfl rfl rfl ?_ | refine rs_storeAX 5 rfl rfl rfl rfl rfl rfl rfl rfl rfl ?_ | refine rs_storeAS 0 rfl rfl rfl rfl rfl rfl ?_ | refine rs_storeAS 1 rfl rfl rfl rfl rfl rfl ?_ | refine rs_storeAS 2 rfl rfl rfl rfl rfl rfl ?_ | refine rs_storeAS 3 rfl rfl rfl rfl rfl rfl ?_)
          | refine rs_op rfl (opj_call rfl rfl h (Takes.same Takes.nil)) ?_
    refine ws_cond rfl (fun hd => ?_) (fun hd => ?_)
    · have hf : spotFin s k = false := by unfold spotFin; simpa only [Bool.not_eq_true'] using hd
      repeat
        first
            | refine rs_op rfl (opj_move rfl) ?_
            | refine rs_op rfl (opj_assign rfl) ?_
            | (refine rs_idb ?_; first | refine rs_op rfl (opj_fbin rfl rfl rfl) ?_ | refine rs_op rfl (opj_add rfl rfl (by omega)) ?_ | refine rs_op rfl (opj_sub rfl rfl (by omega)) ?_ | refine rs_op rfl (opj_fcmp rfl rfl rfl) ?_ | refine rs_op rfl (opj_lss rfl rfl) ?_ | refine rs_op rfl (opj_leq rfl rfl) ?_ | refine rs_op rfl (opj_gtr rfl rfl) ?_ | refine rs_op rfl (opj_geq rfl rfl) ?_ | refine rs_op rfl (opj_ieq rfl rfl) ?_ | refine rs_op rfl (opj_ine rfl rfl) ?_ | refine rs_op rfl (opj_beq rfl rfl) ?_ | refine rs_op rfl (opj_bne rfl rfl) ?_)
            | (refine rs_idc ?_; first | refine rs_op rfl (opj_len_m rfl) ?_ | refine rs_op rfl (opj_len_raw rfl) ?_ | refine rs_op rfl (opj_real rfl) ?_ | refine rs_op rfl (opj_imag rfl) ?_ | refine rs_op rfl (opj_complex rfl rfl) ?_)
            | (refine rs_idl ?_; first | refine rs_op rfl (opj_loadX rfl rfl (by (repeat (first | exact List.Mem.head _ | refine List.Mem.tail _ ?_)); done) rfl) ?_ | refine rs_op rfl (opj_loadAX rfl rfl (by (repeat (first | exact List.Mem.head _ | refine List.Mem.tail _ ?_)); done) rfl rfl) ?_ | refine rs_op rfl (opj_loadAP rfl rfl rfl rfl) ?_ | refine rs_op rfl (opj_load1 rfl rfl) ?_)
            | (refine rs_ida ?_; first | refine rs_op rfl (opj_index_m rfl rfl (by omega) (by omega)) ?_ | refine rs_op rfl (opj_index_own rfl rfl (by omega) (by omega)) ?_)
            | refine rs_op rfl (opj_field_own rfl) ?_
            | refine rs_op rfl (opj_field_ptr rfl) ?_
            | refine rs_op rfl (opj_wide rfl) ?_
            | refine rs_op rfl (opj_iconv rfl) ?_
            | refine rs_op rfl (opj_extract rfl rfl) ?_
            | refine rs_op rfl (opj_pick_t rfl rfl) ?_
            | refine rs_op rfl (opj_pick_f rfl rfl) ?_
            | refine rs_op rfl (opj_not rfl) ?_
            | refine rs_nil ?_
            | (refine done_id ?_; first | refine done_normal_then ?_ | refine done_ret_then ?_ | refine done_exit_then ?_ | refine done_normal_block ?_ | refine done_ret_block ?_ | refine done_exit_here ?_ | refine done_exit_on rfl ?_ | refine done_ret_round ?_ | refine done_exit_round ?_)
            | (refine ws_id ?_; first | refine ws_seq ?_ | refine ws_region ?_ | refine ws_block ?_ | refine ws_skip ?_ | refine ws_ret ?_ | refine ws_exit ?_ | refine ws_cond_t rfl ?_ | refine ws_cond_f rfl ?_)
            | refine rs_gy rfl rfl ?_
            | refine rs_no rfl rfl rfl rfl ?_
            | (refine rs_boxA rfl rfl rfl ?_; intro g)
            | (refine rs_alloc rfl rfl ?_; intro g)
            | (refine rs_idst ?_; first | refine rs_storeX 0 rfl rfl rfl rfl rfl rfl ?_ | refine rs_storeX 1 rfl rfl rfl rfl rfl rfl ?_ | refine rs_storeX 2 rfl rfl rfl rfl rfl rfl ?_ | refine rs_storeX 3 rfl rfl rfl rfl rfl rfl ?_ | refine rs_storeX 4 rfl rfl rfl rfl rfl rfl ?_ | refine rs_storeX 5 rfl rfl rfl rfl rfl rfl ?_ | refine rs_storeAX 0 rfl rfl rfl rfl rfl rfl rfl rfl rfl ?_ | refine rs_storeAX 1 rfl rfl rfl rfl rfl rfl rfl rfl rfl ?_ | refine rs_storeAX 2 rfl rfl rfl rfl rfl rfl rfl rfl rfl ?_ | refine rs_storeAX 3 rfl rfl rfl rfl rfl rfl rfl rfl rfl ?_ | refine rs_storeAX 4 rfl rfl rfl rfl rfl rfl rfl rfl rfl ?_ | refine rs_storeAX 5 rfl rfl rfl rfl rfl rfl rfl rfl rfl ?_ | refine rs_storeAS 0 rfl rfl rfl rfl rfl rfl ?_ | refine rs_storeAS 1 rfl rfl rfl rfl rfl rfl ?_ | refine rs_storeAS 2 rfl rfl rfl rfl rfl rfl ?_ | refine rs_storeAS 3 rfl rfl rfl rfl rfl rfl ?_)
      refine done_ret1 rfl (k : Int) rfl ⟨by omega, by omega, ?_⟩ (List.nil_sublist _)
      rw [spotsFin_false (by omega) hf, decide_eq_false (by omega)]
    · have ht : spotFin s k = true := by unfold spotFin; simpa only [Bool.not_eq_false'] using hd
      repeat
        first
            | refine rs_op rfl (opj_move rfl) ?_
            | refine rs_op rfl (opj_assign rfl) ?_
            | (refine rs_idb ?_; first | refine rs_op rfl (opj_fbin rfl rfl rfl) ?_ | refine rs_op rfl (opj_add rfl rfl (by omega)) ?_ | refine rs_op rfl (opj_sub rfl rfl (by omega)) ?_ | refine rs_op rfl (opj_fcmp rfl rfl rfl) ?_ | refine rs_op rfl (opj_lss rfl rfl) ?_ | refine rs_op rfl (opj_leq rfl rfl) ?_ | refine rs_op rfl (opj_gtr rfl rfl) ?_ | refine rs_op rfl (opj_geq rfl rfl) ?_ | refine rs_op rfl (opj_ieq rfl rfl) ?_ | refine rs_op rfl (opj_ine rfl rfl) ?_ | refine rs_op rfl (opj_beq rfl rfl) ?_ | refine rs_op rfl (opj_bne rfl rfl) ?_)
            | (refine rs_idc ?_; first | refine rs_op rfl (opj_len_m rfl) ?_ | refine rs_op rfl (opj_len_raw rfl) ?_ | refine rs_op rfl (opj_real rfl) ?_ | refine rs_op rfl (opj_imag rfl) ?_ | refine rs_op rfl (opj_complex rfl rfl) ?_)
            | (refine rs_idl ?_; first | refine rs_op rfl (opj_loadX rfl rfl (by (repeat (first | exact List.Mem.head _ | refine List.Mem.tail _ ?_)); done) rfl) ?_ | refine rs_op rfl (opj_loadAX rfl rfl (by (repeat (first | exact List.Mem.head _ | refine List.Mem.tail _ ?_)); done) rfl rfl) ?_ | refine rs_op rfl (opj_loadAP rfl rfl rfl rfl) ?_ | refine rs_op rfl (opj_load1 rfl rfl) ?_)
            | (refine rs_ida ?_; first | refine rs_op rfl (opj_index_m rfl rfl (by omega) (by omega)) ?_ | refine rs_op rfl (opj_index_own rfl rfl (by omega) (by omega)) ?_)
            | refine rs_op rfl (opj_field_own rfl) ?_
            | refine rs_op rfl (opj_field_ptr rfl) ?_
            | refine rs_op rfl (opj_wide rfl) ?_
            | refine rs_op rfl (opj_iconv rfl) ?_
            | refine rs_op rfl (opj_extract rfl rfl) ?_
            | refine rs_op rfl (opj_pick_t rfl rfl) ?_
            | refine rs_op rfl (opj_pick_f rfl rfl) ?_
            | refine rs_op rfl (opj_not rfl) ?_
            | refine rs_nil ?_
            | (refine done_id ?_; first | refine done_normal_then ?_ | refine done_ret_then ?_ | refine done_exit_then ?_ | refine done_normal_block ?_ | refine done_ret_block ?_ | refine done_exit_here ?_ | refine done_exit_on rfl ?_ | refine done_ret_round ?_ | refine done_exit_round ?_)
            | (refine ws_id ?_; first | refine ws_seq ?_ | refine ws_region ?_ | refine ws_block ?_ | refine ws_skip ?_ | refine ws_ret ?_ | refine ws_exit ?_ | refine ws_cond_t rfl ?_ | refine ws_cond_f rfl ?_)
            | refine rs_gy rfl rfl ?_
            | refine rs_no rfl rfl rfl rfl ?_
            | (refine rs_boxA rfl rfl rfl ?_; intro g)
            | (refine rs_alloc rfl rfl ?_; intro g)
            | (refine rs_idst ?_; first | refine rs_storeX 0 rfl rfl rfl rfl rfl rfl ?_ | refine rs_storeX 1 rfl rfl rfl rfl rfl rfl ?_ | refine rs_storeX 2 rfl rfl rfl rfl rfl rfl ?_ | refine rs_storeX 3 rfl rfl rfl rfl rfl rfl ?_ | refine rs_storeX 4 rfl rfl rfl rfl rfl rfl ?_ | refine rs_storeX 5 rfl rfl rfl rfl rfl rfl ?_ | refine rs_storeAX 0 rfl rfl rfl rfl rfl rfl rfl rfl rfl ?_ | refine rs_storeAX 1 rfl rfl rfl rfl rfl rfl rfl rfl rfl ?_ | refine rs_storeAX 2 rfl rfl rfl rfl rfl rfl rfl rfl rfl ?_ | refine rs_storeAX 3 rfl rfl rfl rfl rfl rfl rfl rfl rfl ?_ | refine rs_storeAX 4 rfl rfl rfl rfl rfl rfl rfl rfl rfl ?_ | refine rs_storeAX 5 rfl rfl rfl rfl rfl rfl rfl rfl rfl ?_ | refine rs_storeAS 0 rfl rfl rfl rfl rfl rfl ?_ | refine rs_storeAS 1 rfl rfl rfl rfl rfl rfl ?_ | refine rs_storeAS 2 rfl rfl rfl rfl rfl rfl ?_ | refine rs_storeAS 3 rfl rfl rfl rfl rfl rfl ?_)
      refine done_round (k + 1) ⟨by omega, fun i hi => ?_⟩ (by omega) ?_ (fun _ h => h)
      · rcases Nat.lt_or_ge i k with h | h
        · exact hall i h
        · obtain rfl : i = k := by omega
          exact ht
      · (repeat (first | exact Env.sub_nil _ | refine Env.sub_cons rfl ?_))
  · have hge : ¬ (k : Int) < n := of_decide_eq_false hc
    repeat
      first
          | refine rs_op rfl (opj_move rfl) ?_
          | refine rs_op rfl (opj_assign rfl) ?_
          | (refine rs_idb ?_; first | refine rs_op rfl (opj_fbin rfl rfl rfl) ?_ | refine rs_op rfl (opj_add rfl rfl (by omega)) ?_ | refine rs_op rfl (opj_sub rfl rfl (by omega)) ?_ | refine rs_op rfl (opj_fcmp rfl rfl rfl) ?_ | refine rs_op rfl (opj_lss rfl rfl) ?_ | refine rs_op rfl (opj_leq rfl rfl) ?_ | refine rs_op rfl (opj_gtr rfl rfl) ?_ | refine rs_op rfl (opj_geq rfl rfl) ?_ | refine rs_op rfl (opj_ieq rfl rfl) ?_ | refine rs_op rfl (opj_ine rfl rfl) ?_ | refine rs_op rfl (opj_beq rfl rfl) ?_ | refine rs_op rfl (opj_bne rfl rfl) ?_)
          | (refine rs_idc ?_; first | refine rs_op rfl (opj_len_m rfl) ?_ | refine rs_op rfl (opj_len_raw rfl) ?_ | refine rs_op rfl (opj_real rfl) ?_ | refine rs_op rfl (opj_imag rfl) ?_ | refine rs_op rfl (opj_complex rfl rfl) ?_)
          | (refine rs_idl ?_; first | refine rs_op rfl (opj_loadX rfl rfl (by (repeat (first | exact List.Mem.head _ | refine List.Mem.tail _ ?_)); done) rfl) ?_ | refine rs_op rfl (opj_loadAX rfl rfl (by (repeat (first | exact List.Mem.head _ | refine List.Mem.tail _ ?_)); done) rfl rfl) ?_ | refine rs_op rfl (opj_loadAP rfl rfl rfl rfl) ?_ | refine rs_op rfl (opj_load1 rfl rfl) ?_)
          | (refine rs_ida ?_; first | refine rs_op rfl (opj_index_m rfl rfl (by omega) (by omega)) ?_ | refine rs_op rfl (opj_index_own rfl rfl (by omega) (by omega)) ?_)
          | refine rs_op rfl (opj_field_own rfl) ?_
          | refine rs_op rfl (opj_field_ptr rfl) ?_
          | refine rs_op rfl (opj_wide rfl) ?_
          | refine rs_op rfl (opj_iconv rfl) ?_
          | refine rs_op rfl (opj_extract rfl rfl) ?_
          | refine rs_op rfl (opj_pick_t rfl rfl) ?_
          | refine rs_op rfl (opj_pick_f rfl rfl) ?_
          | refine rs_op rfl (opj_not rfl) ?_
          | refine rs_nil ?_
          | (refine done_id ?_; first | refine done_normal_then ?_ | refine done_ret_then ?_ | refine done_exit_then ?_ | refine done_normal_block ?_ | refine done_ret_block ?_ | refine done_exit_here ?_ | refine done_exit_on rfl ?_ | refine done_ret_round ?_ | refine done_exit_round ?_)
          | (refine ws_id ?_; first | refine ws_seq ?_ | refine ws_region ?_ | refine ws_block ?_ | refine ws_skip ?_ | refine ws_ret ?_ | refine ws_exit ?_ | refine ws_cond_t rfl ?_ | refine ws_cond_f rfl ?_)
          | refine rs_gy rfl rfl ?_
          | refine rs_no rfl rfl rfl rfl ?_
          | (refine rs_boxA rfl rfl rfl ?_; intro g)
          | (refine rs_alloc rfl rfl ?_; intro g)
          | (refine rs_idst ?_; first | refine rs_storeX 0 rfl rfl rfl rfl rfl rfl ?_ | refine rs_storeX 1 rfl rfl rfl rfl rfl rfl ?_ | refine rs_storeX 2 rfl rfl rfl rfl rfl rfl ?_ | refine rs_storeX 3 rfl rfl rfl rfl rfl rfl ?_ | refine rs_storeX 4 rfl rfl rfl rfl rfl rfl ?_ | refine rs_storeX 5 rfl rfl rfl rfl rfl rfl ?_ | refine rs_storeAX 0 rfl rfl rfl rfl rfl rfl rfl rfl rfl ?_ | refine rs_storeAX 1 rfl rfl rfl rfl rfl rfl rfl rfl rfl ?_ | refine rs_storeAX 2 rfl rfl rfl rfl rfl rfl rfl rfl rfl ?_ | refine rs_storeAX 3 rfl rfl rfl rfl rfl rfl rfl rfl rfl ?_ | refine rs_storeAX 4 rfl rfl rfl rfl rfl rfl rfl rfl rfl ?_ | refine rs_storeAX 5 rfl rfl rfl rfl rfl rfl rfl rfl rfl ?_ | refine rs_storeAS 0 rfl rfl rfl rfl rfl rfl ?_ | refine rs_storeAS 1 rfl rfl rfl rfl rfl rfl ?_ | refine rs_storeAS 2 rfl rfl rfl rfl rfl rfl ?_ | refine rs_storeAS 3 rfl rfl rfl rfl rfl rfl ?_)
    refine done_ret1 rfl (-1) rfl ⟨by omega, by omega, ?_⟩ (List.nil_sublist _)
    rw [spotsFin_true (fun i hi => hall i (by omega)), decide_eq_true (by omega)]
theorem containsSpots_fn (n : Nat) (s : Int → FV) (hn : n < 2 ^ 60) : Fn Try.prog 159 (fun w => [slS w n s, .raw (.func (.func 160) #[] #[])]) (.raw (.bool (!(spotsFin n s)))) := by
  have h := indexSpots_fn n s hn
  refine fn_intro Try.func159 rfl Try.ntmps159 (fun _ => Nat.le_of_ble_eq_true rfl) fun w0 => ?_
  repeat
    first
        | refine rs_op rfl (opj_move rfl) ?_
        | refine rs_op rfl (opj_assign rfl) ?_
        | (refine rs_idb ?_; first | refine rs_op rfl (opj_fbin rfl rfl rfl) ?_ | refine rs_op rfl (opj_add rfl rfl (by omega)) ?_ | refine rs_op rfl (opj_sub rfl rfl (by omega)) ?_ | refine rs_op rfl (opj_fcmp rfl rfl rfl) ?_ | refine rs_op rfl (opj_lss rfl rfl) ?_ | refine rs_op rfl (opj_leq rfl rfl) ?_ | refine rs_op rfl (opj_gtr rfl rfl) ?_ | refine rs_op rfl (opj_geq rfl rfl) ?_ | refine rs_op rfl (opj_ieq rfl rfl) ?_ | refine rs_op rfl (opj_ine rfl rfl) ?_ | refine rs_op rfl (opj_beq rfl rfl) ?_ | refine rs_op rfl (opj_bne rfl rfl) ?_)
        | (refine rs_idc ?_; first | refine rs_op rfl (opj_len_m rfl) ?_ | refine rs_op rfl (opj_len_raw rfl) ?_ | refine rs_op rfl (opj_real rfl) ?_ | refine rs_op rfl (opj_imag rfl) ?_ | refine rs_op rfl (opj_complex rfl rfl) ?_)
        | (refine rs_idl ?_; first | refine rs_op rfl (opj_loadX rfl rfl (by (repeat (first | exact List.Mem.head _ | refine List.Mem.tail _ ?_)); done) rfl) ?_ | refine rs_op rfl (opj_loadAX rfl rfl (by (repeat (first | exact List.Mem.head _ | refine List.Mem.tail _ ?_)); done) rfl rfl) ?_ | refine rs_op rfl (opj_loadAP rfl rfl rfl rfl) ?_ | refine rs_op rfl (opj_load1 rfl rfl) ?_)
        | (refine rs_ida ?_; first | refine rs_op rfl (opj_index_m rfl rfl (by omega) (by omega)) ?_ | refine rs_op rfl (opj_index_own rfl rfl (by omega) (by omega)) ?_)
        | refine rs_op rfl (opj_field_own rfl) ?_
        | refine rs_op rfl (opj_field_ptr rfl) ?_
        | refine rs_op rfl (opj_wide rfl) ?_
        | refine rs_op rfl (opj_iconv rfl) ?_
        | refine rs_op rfl (opj_extract rfl rfl) ?_
        | refine rs_op rfl (opj_pick_t rfl rfl) ?_
        | refine rs_op rfl (opj_pick_f rfl rfl) ?_
        | refine rs_op rfl (opj_not rfl) ?_
        | refine rs_nil ?_
        | (refine done_id ?_; first | refine done_normal_then ?_ | refine done_ret_then ?_ | refine done_exit_then ?_ | refine done_normal_block ?_ | refine done_ret_block ?_ | refine done_exit_here ?_ | refine done_exit_on rfl ?_ | refine done_ret_round ?_ | refine done_exit_round ?_)
        | (refine ws_id ?_; first | refine ws_seq ?_ | refine ws_region ?_ | refine ws_block ?_ | refine ws_skip ?_ | refine ws_ret ?_ | refine ws_exit ?_ | refine ws_cond_t rfl ?_ | refine ws_cond_f rfl ?_)
        | refine rs_gy rfl rfl ?_
        | refine rs_no rfl rfl rfl rfl ?_
        | (refine rs_boxA rfl rfl rfl ?_; intro g)
        | (refine rs_alloc rfl rfl ?_; intro g)
        | (refine rs_idst ?_; first | refine rs_storeX 0 rfl rfl rfl rfl rfl rfl ?_ | refine rs_storeX 1 rfl rfl rfl rfl rfl rfl ?_ | refine rs_storeX 2 rfl rfl rfl rfl rfl rfl ?_ | refine rs_storeX 3 rfl rfl rfl rfl rfl rfl ?_ | refine rs_storeX 4 rfl rfl rfl rfl rfl rfl ?_ | refine rs_storeX 5 rfl rfl rfl rfl rfl rfl ?_ | refine rs_storeAX 0 rfl rfl rfl rfl rfl rfl rfl rfl rfl ?_ | refine rs_storeAX 1 rfl rfl rfl rfl rfl rfl rfl rfl rfl ?_ | refine rs_storeAX 2 rfl rfl rfl rfl rfl rfl rfl rfl rfl ?_ | refine rs_storeAX 3 rfl rfl rfl rfl rfl rfl rfl rfl rfl ?_ | refine rs_storeAX 4 rfl rfl rfl rfl rfl rfl rfl rfl rfl ?_ | refine rs_storeAX 5 rfl rfl rfl rfl rfl rfl rfl rfl rfl ?_ | refine rs_storeAS 0 rfl rfl rfl rfl rfl rfl ?_ | refine rs_storeAS 1 rfl rfl rfl rfl rfl rfl ?_ | refine rs_storeAS 2 rfl rfl rfl rfl rfl rfl ?_ | refine rs_storeAS 3 rfl rfl rfl rfl rfl rfl ?_)
        | (refine rs_call0 h rfl rfl (Takes.sl (Takes.same Takes.nil)) rfl ?_; rintro i ⟨hi, _, hb⟩)
  refine done_ret1B rfl () rfl rfl ?_ trivial (List.nil_sublist _)
  rw [hb]
  by_cases h0 : i < 0
  · rw [decide_eq_true h0, decide_eq_false (by omega)]; rfl
  · rw [decide_eq_false h0, decide_eq_true (by omega)]; rfl
theorem areSpots_fn (n : Nat) (s : Int → FV) (hn : n < 2 ^ 60) : Fn Try.prog 112 (fun w => [slS w n s]) (.raw (.bool (spotsFin n s))) := by
  have h := containsSpots_fn n s hn
  refine fn_intro Try.func112 rfl Try.ntmps112 (fun _ => Nat.le_of_ble_eq_true rfl) fun w0 => ?_
  repeat
    first
        | refine rs_op rfl (opj_move rfl) ?_
        | refine rs_op rfl (opj_assign rfl) ?_
        | (refine rs_idb ?_; first | refine rs_op rfl (opj_fbin rfl rfl rfl) ?_ | refine rs_op rfl (opj_add rfl rfl (by omega)) ?_ | refine rs_op rfl (opj_sub rfl rfl (by omega)) ?_ | refine rs_op rfl (opj_fcmp rfl rfl rfl) ?_ | refine rs_op rfl (opj_lss rfl rfl) ?_ | refine rs_op rfl (opj_leq rfl rfl) ?_ | refine rs_op rfl (opj_gtr rfl rfl) ?_ | refine rs_op rfl (opj_geq rfl rfl) ?_ | refine rs_op rfl (opj_ieq rfl rfl) ?_ | refine rs_op rfl (opj_ine rfl rfl) ?_ | refine rs_op rfl (opj_beq rfl rfl) ?_ | refine rs_op rfl (opj_bne rfl rfl) ?_)
        | (refine rs_idc ?_; first | refine rs_op rfl (opj_len_m rfl) ?_ | refine rs_op rfl (opj_len_raw rfl) ?_ | refine rs_op rfl (opj_real rfl) ?_ | refine rs_op rfl (opj_imag rfl) ?_ | refine rs_op rfl (opj_complex rfl rfl) ?_)
        | (refine rs_idl ?_; first | refine rs_op rfl (opj_loadX rfl rfl (by (repeat (first | exact List.Mem.head _ | refine List.Mem.tail _ ?_)); done) rfl) ?_ | refine rs_op rfl (opj_loadAX rfl rfl (by (repeat (first | exact List.Mem.head _ | refine List.Mem.tail _ ?_)); done) rfl rfl) ?_ | refine rs_op rfl (opj_loadAP rfl rfl rfl rfl) ?_ | refine rs_op rfl (opj_load1 rfl rfl) ?_)
        | (refine rs_ida ?_; first | refine rs_op rfl (opj_index_m rfl rfl (by omega) (by omega)) ?_ | refine rs_op rfl (opj_index_own rfl rfl (by omega) (by omega)) ?_)
        | refine rs_op rfl (opj_field_own rfl) ?_
        | refine rs_op rfl (opj_field_ptr rfl) ?_
        | refine rs_op rfl (opj_wide rfl) ?_
        | refine rs_op rfl (opj_iconv rfl) ?_
        | refine rs_op rfl (opj_extract rfl rfl) ?_
        | refine rs_op rfl (opj_pick_t rfl rfl) ?_
        | refine rs_op rfl (opj_pick_f rfl rfl) ?_
        | refine rs_op rfl (opj_not rfl) ?_
        | refine rs_nil ?_
        | (refine done_id ?_; first | refine done_normal_then ?_ | refine done_ret_then ?_ | refine done_exit_then ?_ | refine done_normal_block ?_ | refine done_ret_block ?_ | refine done_exit_here ?_ | refine done_exit_on rfl ?_ | refine done_ret_round ?_ | refine done_exit_round ?_)
        | (refine ws_id ?_; first | refine ws_seq ?_ | refine ws_region ?_ | refine ws_block ?_ | refine ws_skip ?_ | refine ws_ret ?_ | refine ws_exit ?_ | refine ws_cond_t rfl ?_ | refine ws_cond_f rfl ?_)
        | refine rs_gy rfl rfl ?_
        | refine rs_no rfl rfl rfl rfl ?_
        | (refine rs_boxA rfl rfl rfl ?_; intro g)
        | (refine rs_alloc rfl rfl ?_; intro g)
        | (refine rs_idst ?_; first | refine rs_storeX 0 rfl rfl rfl rfl rfl rfl ?_ | refine rs_storeX 1 rfl rfl rfl rfl rfl rfl ?_ | refine rs_storeX 2 rfl rfl rfl rfl rfl rfl ?_ | refine rs_storeX 3 rfl rfl rfl rfl rfl rfl ?_ | refine rs_storeX 4 rfl rfl rfl rfl rfl rfl ?_ | refine rs_storeX 5 rfl rfl rfl rfl rfl rfl ?_ | refine rs_storeAX 0 rfl rfl rfl rfl rfl rfl rfl rfl rfl ?_ | refine rs_storeAX 1 rfl rfl rfl rfl rfl rfl rfl rfl rfl ?_ | refine rs_storeAX 2 rfl rfl rfl rfl rfl rfl rfl rfl rfl ?_ | refine rs_storeAX 3 rfl rfl rfl rfl rfl rfl rfl rfl rfl ?_ | refine rs_storeAX 4 rfl rfl rfl rfl rfl rfl rfl rfl rfl ?_ | refine rs_storeAX 5 rfl rfl rfl rfl rfl rfl rfl rfl rfl ?_ | refine rs_storeAS 0 rfl rfl rfl rfl rfl rfl ?_ | refine rs_storeAS 1 rfl rfl rfl rfl rfl rfl ?_ | refine rs_storeAS 2 rfl rfl rfl rfl rfl rfl ?_ | refine rs_storeAS 3 rfl rfl rfl rfl rfl rfl ?_)
        | refine rs_op rfl (opj_call rfl rfl h (Takes.sl (Takes.same Takes.nil))) ?_
  refine done_ret1B rfl () rfl rfl ?_ trivial (List.nil_sublist _)
  rw [Bool.not_not]
theorem l04Spot_fn (x y z : FV) : Fn Try.prog 169 (fun _ => [.agg [.f .f32 x, .f .f32 y, .f .f32 z]]) (.raw (.bool ([x, y, z].all finB))) := by
  have a1 := l01Finite_fn x
  have a2 := l01Finite_fn y
  have a3 := l01Finite_fn z
  simp only [List.all_cons, List.all_nil, Bool.and_true]
  generalize finB x = p at *
  generalize finB y = q at *
  generalize finB z = r at *
  refine fn_intro Try.func169 rfl Try.ntmps169 (fun _ => Nat.le_of_ble_eq_true rfl) fun w0 => ?_
  cases p <;> cases q <;> cases r
  all_goals
    repeat
      first
          | refine rs_op rfl (opj_move rfl) ?_
          | refine rs_op rfl (opj_assign rfl) ?_
          | (refine rs_idb ?_; first | refine rs_op rfl (opj_fbin rfl rfl rfl) ?_ | refine rs_op rfl (opj_add rfl rfl (by omega)) ?_ | refine rs_op rfl (opj_sub rfl rfl (by omega)) ?_ | refine rs_op rfl (opj_fcmp rfl rfl rfl) ?_ | refine rs_op rfl (opj_lss rfl rfl) ?_ | refine rs_op rfl (opj_leq rfl rfl) ?_ | refine rs_op rfl (opj_gtr rfl rfl) ?_ | refine rs_op rfl (opj_geq rfl rfl) ?_ | refine rs_op rfl (opj_ieq rfl rfl) ?_ | refine rs_op rfl (opj_ine rfl rfl) ?_ | refine rs_op rfl (opj_beq rfl rfl) ?_ | refine rs_op rfl (opj_bne rfl rfl) ?_)
          | (refine rs_idc ?_; first | refine rs_op rfl (opj_len_m rfl) ?_ | refine rs_op rfl (opj_len_raw rfl) ?_ | refine rs_op rfl (opj_real rfl) ?_ | refine rs_op rfl (opj_imag rfl) ?_ | refine rs_op rfl (opj_complex rfl rfl) ?_)
          | (refine rs_idl ?_; first | refine rs_op rfl (opj_loadX rfl rfl (by (repeat (first | exact List.Mem.head _ | refine List.Mem.tail _ ?_)); done) rfl) ?_ | refine rs_op rfl (opj_loadAX rfl rfl (by (repeat (first | exact List.Mem.head _ | refine List.Mem.tail _ ?_)); done) rfl rfl) ?_ | refine rs_op rfl (opj_loadAP rfl rfl rfl rfl) ?_ | refine rs_op rfl (opj_load1 rfl rfl) ?_)
          | (refine rs_ida ?_; first | refine rs_op rfl (opj_index_m rfl rfl (by omega) (by omega)) ?_ | refine rs_op rfl (opj_index_own rfl rfl (by omega) (by omega)) ?_)
          | refine rs_op rfl (opj_field_own rfl) ?_
          | refine rs_op rfl (opj_field_ptr rfl) ?_
          | refine rs_op rfl (opj_wide rfl) ?_
          | refine rs_op rfl (opj_iconv rfl) ?_
          | refine rs_op rfl (opj_extract rfl rfl) ?_
          | refine rs_op rfl (opj_pick_t rfl rfl) ?_
          | refine rs_op rfl (opj_pick_f rfl rfl) ?_
          | refine rs_op rfl (opj_not rfl) ?_
          | refine rs_nil ?_
          | (refine done_id ?_; first | refine done_normal_then ?_ | refine done_ret_then ?_ | refine done_exit_then ?_ | refine done_normal_block ?_ | refine done_ret_block ?_ | refine done_exit_here ?_ | refine done_exit_on rfl ?_ | refine done_ret_round ?_ | refine done_exit_round ?_)
          | (refine ws_id ?_; first | refine ws_seq ?_ | refine ws_region ?_ | refine ws_block ?_ | refine ws_skip ?_ | refine ws_ret ?_ | refine ws_exit ?_ | refine ws_cond_t rfl ?_ | refine ws_cond_f rfl ?_)
          | refine rs_gy rfl rfl ?_
          | refine rs_no rfl rfl rfl rfl ?_
          | (refine rs_boxA rfl rfl rfl ?_; intro g)
          | (refine rs_alloc rfl rfl ?_; intro g)
          | (refine rs_idst ?_; first | refine rs_storeX 0 rfl rfl rfl rfl rfl rfl ?_ | refine rs_storeX 1 rfl rfl rfl rfl rfl rfl ?_ | refine rs_storeX 2 rfl rfl rfl rfl rfl rfl ?_ | refine rs_storeX 3 rfl rfl rfl rfl rfl rfl ?_ | refine rs_storeX 4 rfl rfl rfl rfl rfl rfl ?_ | refine rs_storeX 5 rfl rfl rfl rfl rfl rfl ?_ | refine rs_storeAX 0 rfl rfl rfl rfl rfl rfl rfl rfl rfl ?_ | refine rs_storeAX 1 rfl rfl rfl rfl rfl rfl rfl rfl rfl ?_ | refine rs_storeAX 2 rfl rfl rfl rfl rfl rfl rfl rfl rfl ?_ | refine rs_storeAX 3 rfl rfl rfl rfl rfl rfl rfl rfl rfl ?_ | refine rs_storeAX 4 rfl rfl rfl rfl rfl rfl rfl rfl rfl ?_ | refine rs_storeAX 5 rfl rfl rfl rfl rfl rfl rfl rfl rfl ?_ | refine rs_storeAS 0 rfl rfl rfl rfl rfl rfl ?_ | refine rs_storeAS 1 rfl rfl rfl rfl rfl rfl ?_ | refine rs_storeAS 2 rfl rfl rfl rfl rfl rfl ?_ | refine rs_storeAS 3 rfl rfl rfl rfl rfl rfl ?_)
          | refine rs_op rfl (opj_call rfl rfl a1 (Takes.same Takes.nil)) ?_
          | refine rs_op rfl (opj_call rfl rfl a2 (Takes.same Takes.nil)) ?_
          | refine rs_op rfl (opj_call rfl rfl a3 (Takes.same Takes.nil)) ?_
    exact done_ret1 rfl () rfl trivial (List.nil_sublist _)
theorem l04Spots_fn (n : Nat) (s : Int → FV) (hn : n < 2 ^ 60) : Fn Try.prog 155 (fun w => [slS w n s]) (.raw (.bool (spotsFin n s))) := by
  refine fn_intro Try.func155 rfl Try.ntmps155 (fun _ => Nat.le_of_ble_eq_true rfl) fun w0 => ?_
  repeat
    first
        | refine rs_op rfl (opj_move rfl) ?_
        | refine rs_op rfl (opj_assign rfl) ?_
        | (refine rs_idb ?_; first | refine rs_op rfl (opj_fbin rfl rfl rfl) ?_ | refine rs_op rfl (opj_add rfl rfl (by omega)) ?_ | refine rs_op rfl (opj_sub rfl rfl (by omega)) ?_ | refine rs_op rfl (opj_fcmp rfl rfl rfl) ?_ | refine rs_op rfl (opj_lss rfl rfl) ?_ | refine rs_op rfl (opj_leq rfl rfl) ?_ | refine rs_op rfl (opj_gtr rfl rfl) ?_ | refine rs_op rfl (opj_geq rfl rfl) ?_ | refine rs_op rfl (opj_ieq rfl rfl) ?_ | refine rs_op rfl (opj_ine rfl rfl) ?_ | refine rs_op rfl (opj_beq rfl rfl) ?_ | refine rs_op rfl (opj_bne rfl rfl) ?_)
        | (refine rs_idc ?_; first | refine rs_op rfl (opj_len_m rfl) ?_ | refine rs_op rfl (opj_len_raw rfl) ?_ | refine rs_op rfl (opj_real rfl) ?_ | refine rs_op rfl (opj_imag rfl) ?_ | refine rs_op rfl (opj_complex rfl rfl) ?_)
        | (refine rs_idl ?_; first | refine rs_op rfl (opj_loadX rfl rfl (by (repeat (first | exact List.Mem.head _ | refine List.Mem.tail _ ?_)); done) rfl) ?_ | refine rs_op rfl (opj_loadAX rfl rfl (by (repeat (first | exact List.Mem.head _ | refine List.Mem.tail _ ?_)); done) rfl rfl) ?_ | refine rs_op rfl (opj_loadAP rfl rfl rfl rfl) ?_ | refine rs_op rfl (opj_load1 rfl rfl) ?_)
        | (refine rs_ida ?_; first | refine rs_op rfl (opj_index_m rfl rfl (by omega) (by omega)) ?_ | refine rs_op rfl (opj_index_own rfl rfl (by omega) (by omega)) ?_)
        | refine rs_op rfl (opj_field_own rfl) ?_
        | refine rs_op rfl (opj_field_ptr rfl) ?_
        | refine rs_op rfl (opj_wide rfl) ?_
        | refine rs_op rfl (opj_iconv rfl) ?_
        | refine rs_op rfl (opj_extract rfl rfl) ?_
        | refine rs_op rfl (opj_pick_t rfl rfl) ?_
        | refine rs_op rfl (opj_pick_f rfl rfl) ?_
        | refine rs_op rfl (opj_not rfl) ?_
        | refine rs_nil ?_
        | (refine done_id ?_; first | refine done_normal_then ?_ | refine done_ret_then ?_ | refine done_exit_then ?_ | refine done_normal_block ?_ | refine done_ret_block ?_ | refine done_exit_here ?_ | refine done_exit_on rfl ?_ | refine done_ret_round ?_ | refine done_exit_round ?_)
        | (refine ws_id ?_; first | refine ws_seq ?_ | refine ws_region ?_ | refine ws_block ?_ | refine ws_skip ?_ | refine ws_ret ?_ | refine ws_exit ?_ | refine ws_cond_t rfl ?_ | refine ws_cond_f rfl ?_)
        | refine rs_gy rfl rfl ?_
        | refine rs_no rfl rfl rfl rfl ?_
        | (refine rs_boxA rfl rfl rfl ?_; intro g)
        | (refine rs_alloc rfl rfl ?_; intro g)
        | (refine rs_idst ?_; first | refine rs_storeX 0 rfl rfl rfl rfl rfl rfl ?_ | refine rs_storeX 1 rfl rfl rfl rfl rfl rfl ?_ | refine rs_storeX 2 rfl rfl rfl rfl rfl rfl ?_ | refine rs_storeX 3 rfl rfl rfl rfl rfl rfl ?_ | refine rs_storeX 4 rfl rfl rfl rfl rfl rfl ?_ | refine rs_storeX 5 rfl rfl rfl rfl rfl rfl ?_ | refine rs_storeAX 0 rfl rfl rfl rfl rfl rfl rfl rfl rfl ?_ | refine rs_storeAX 1 rfl rfl rfl rfl rfl rfl rfl rfl rfl ?_ | refine rs_storeAX 2 rfl rfl rfl rfl rfl rfl rfl rfl rfl ?_ | refine rs_storeAX 3 rfl rfl rfl rfl rfl rfl rfl rfl rfl ?_ | refine rs_storeAX 4 rfl rfl rfl rfl rfl rfl rfl rfl rfl ?_ | refine rs_storeAX 5 rfl rfl rfl rfl rfl rfl rfl rfl rfl ?_ | refine rs_storeAS 0 rfl rfl rfl rfl rfl rfl ?_ | refine rs_storeAS 1 rfl rfl rfl rfl rfl rfl ?_ | refine rs_storeAS 2 rfl rfl rfl rfl rfl rfl ?_ | refine rs_storeAS 3 rfl rfl rfl rfl rfl rfl ?_)
  refine ws_loop (ι := Nat) (fun k => [(0, slS w0 n s), (3, .raw (.int .i64 k))]) (fun _ => St w0 [] []) (fun k => k ≤ n ∧ ∀ i : Nat, i < k → spotFin s i = true) (fun k => n - k) 0 ⟨Nat.zero_le _, fun i hi => by omega⟩ ?_ (fun _ h => h) (fun k hk => ?_)
  · (repeat (first | exact Env.sub_nil _ | refine Env.sub_cons rfl ?_))
  obtain ⟨hk, hall⟩ := hk
  repeat
    first
        | refine rs_op rfl (opj_move rfl) ?_
        | refine rs_op rfl (opj_assign rfl) ?_
        | (refine rs_idb ?_; first | refine rs_op rfl (opj_fbin rfl rfl rfl) ?_ | refine rs_op rfl (opj_add rfl rfl (by omega)) ?_ | refine rs_op rfl (opj_sub rfl rfl (by omega)) ?_ | refine rs_op rfl (opj_fcmp rfl rfl rfl) ?_ | refine rs_op rfl (opj_lss rfl rfl) ?_ | refine rs_op rfl (opj_leq rfl rfl) ?_ | refine rs_op rfl (opj_gtr rfl rfl) ?_ | refine rs_op rfl (opj_geq rfl rfl) ?_ | refine rs_op rfl (opj_ieq rfl rfl) ?_ | refine rs_op rfl (opj_ine rfl rfl) ?_ | refine rs_op rfl (opj_beq rfl rfl) ?_ | refine rs_op rfl (opj_bne rfl rfl) ?_)
        | (refine rs_idc ?_; first | refine rs_op rfl (opj_len_m rfl) ?_ | refine rs_op rfl (opj_len_raw rfl) ?_ | refine rs_op rfl (opj_real rfl) ?_ | refine rs_op rfl (opj_imag rfl) ?_ | refine rs_op rfl (opj_complex rfl rfl) ?_)
        | (refine rs_idl ?_; first | refine rs_op rfl (opj_loadX rfl rfl (by (repeat (first | exact List.Mem.head _ | refine List.Mem.tail _ ?_)); done) rfl) ?_ | refine rs_op rfl (opj_loadAX rfl rfl (by (repeat (first | exact List.Mem.head _ | refine List.Mem.tail _ ?_)); done) rfl rfl) ?_ | refine rs_op rfl (opj_loadAP rfl rfl rfl rfl) ?_ | refine rs_op rfl (opj_load1 rfl rfl) ?_)
        | (refine rs_ida ?_; first | refine rs_op rfl (opj_index_m rfl rfl (by omega) (by omega)) ?_ | refine rs_op rfl (opj_index_own rfl rfl (by omega) (by omega)) ?_)
        | refine rs_op rfl (opj_field_own rfl) ?_
        | refine rs_op rfl (opj_field_ptr rfl) ?_
        | refine rs_op rfl (opj_wide rfl) ?_
        | refine rs_op rfl (opj_iconv rfl) ?_
        | refine rs_op rfl (opj_extract rfl rfl) ?_
        | refine rs_op rfl (opj_pick_t rfl rfl) ?_
        | refine rs_op rfl (opj_pick_f rfl rfl) ?_
        | refine rs_op rfl (opj_not rfl) ?_
        | refine rs_nil ?_
        | (refine done_id ?_; first | refine done_normal_then ?_ | refine done_ret_then ?_ | refine done_exit_then ?_ | refine done_normal_block ?_ | refine done_ret_block ?_ | refine done_exit_here ?_ | refine done_exit_on rfl ?_ | refine done_ret_round ?_ | refine done_exit_round ?_)
        | (refine ws_id ?_; first | refine ws_seq ?_ | refine ws_region ?_ | refine ws_block ?_ | refine ws_skip ?_ | refine ws_ret ?_ | refine ws_exit ?_ | refine ws_cond_t rfl ?_ | refine ws_cond_f rfl ?_)
        | refine rs_gy rfl rfl ?_
        | refine rs_no rfl rfl rfl rfl ?_
        | (refine rs_boxA rfl rfl rfl ?_; intro g)
        | (refine rs_alloc rfl rfl ?_; intro g)
        | (refine rs_idst ?_; first | refine rs_storeX 0 rfl rfl rfl rfl rfl rfl ?_ | refine rs_storeX 1 rfl rfl rfl rfl rfl rfl ?_ | refine rs_storeX 2 rfl rfl rfl rfl rfl rfl ?_ | refine rs_storeX 3 rfl rfl rfl rfl rfl rfl ?_ | refine rs_storeX 4 rfl rfl rfl rfl rfl rfl ?_ | refine rs_storeX 5 rfl rfl rfl rfl rfl rfl ?_ | refine rs_storeAX 0 rfl rfl rfl rfl rfl rfl rfl rfl rfl ?_ | refine rs_storeAX 1 rfl rfl rfl rfl rfl rfl rfl rfl rfl ?_ | refine rs_storeAX 2 rfl rfl rfl rfl rfl rfl rfl rfl rfl ?_ | refine rs_storeAX 3 rfl rfl rfl rfl rfl rfl rfl rfl rfl ?_ | refine rs_storeAX 4 rfl rfl rfl rfl rfl rfl rfl rfl rfl ?_ | refine rs_storeAX 5 rfl rfl rfl rfl rfl rfl rfl rfl rfl ?_ | refine rs_storeAS 0 rfl rfl rfl rfl rfl rfl ?_ | refine rs_storeAS 1 rfl rfl rfl rfl rfl rfl ?_ | refine rs_storeAS 2 rfl rfl rfl rfl rfl rfl ?_ | refine rs_storeAS 3 rfl rfl rfl rfl rfl rfl ?_)
        | refine rs_op rfl (opj_lenS rfl) ?_
  refine ws_cond rfl (fun hc => ?_) (fun hc => ?_)
  · have hlt : (k : Int) < n := of_decide_eq_true hc
    have h := l04Spot_fn (s (3 * (k : Int))) (s (3 * (k : Int) + 1)) (s (3 * (k : Int) + 2))
    repeat
      first
          | refine rs_op rfl (opj_move rfl) ?_
          | refine rs_op rfl (opj_assign rfl) ?_
          | (refine rs_idb ?_; first | refine rs_op rfl (opj_fbin rfl rfl rfl) ?_ | refine rs_op rfl (opj_add rfl rfl (by omega)) ?_ | refine rs_op rfl (opj_sub rfl rfl (by omega)) ?_ | refine rs_op rfl (opj_fcmp rfl rfl rfl) ?_ | refine rs_op rfl (opj_lss rfl rfl) ?_ | refine rs_op rfl (opj_leq rfl rfl) ?_ | refine rs_op rfl (opj_gtr rfl rfl) ?_ | refine rs_op rfl (opj_geq rfl rfl) ?_ | refine rs_op rfl (opj_ieq rfl rfl) ?_ | refine rs_op rfl (opj_ine rfl rfl) ?_ | refine rs_op rfl (opj_beq rfl rfl) ?_ | refine rs_op rfl (opj_bne rfl rfl) ?_)
          | (refine rs_idc ?_; first | refine rs_op rfl (opj_len_m rfl) ?_ | refine rs_op rfl (opj_len_raw rfl) ?_ | refine rs_op rfl (opj_real rfl) ?_ | refine rs_op rfl (opj_imag rfl) ?_ | refine rs_op rfl (opj_complex rfl rfl) ?_)
          | (refine rs_idl ?_; first | refine rs_op rfl (opj_loadX rfl rfl (by (repeat (first | exact List.Mem.head _ | refine List.Mem.tail _ ?_)); done) rfl) ?_ | refine rs_op rfl (opj_loadAX rfl rfl (by (repeat (first | exact List.Mem.head _ | refine List.Mem.tail _ ?_)); done) rfl rfl) ?_ | refine rs_op rfl (opj_loadAP rfl rfl rfl rfl) ?_ | refine rs_op rfl (opj_load1 rfl rfl) ?_)
          | (refine rs_ida ?_; first | refine rs_op rfl (opj_index_m rfl rfl (by omega) (by omega)) ?_ | refine rs_op rfl (opj_index_own rfl rfl (by omega) (by omega)) ?_ | refine rs_op rfl (opj_indexS rfl rfl (by omega) (by omega)) ?_)
          | refine rs_op rfl (opj_field_own rfl) ?_
          | refine rs_op rfl (opj_field_ptr rfl) ?_
          | refine rs_op rfl (opj_wide rfl) ?_
          | refine rs_op rfl (opj_iconv rfl) ?_
          | refine rs_op rfl (opj_extract rfl rfl) ?_
          | refine rs_op rfl (opj_pick_t rfl rfl) ?_
          | refine rs_op rfl (opj_pick_f rfl rfl) ?_
          | refine rs_op rfl (opj_not rfl) ?_
          | refine rs_nil ?_
          | (refine done_id ?_; first | refine done_normal_then ?_ | refine done_ret_then ?_ | refine done_exit_then ?_ | refine done_normal_block ?_ | refine done_ret_block ?_ | refine done_exit_here ?_ | refine done_exit_on rfl ?_ | refine done_ret_round ?_ | refine done_exit_round ?_)
          | (refine ws_id ?_; first | refine ws_seq ?_ | refine ws_region ?_ | refine ws_block ?_ | refine ws_skip ?_ | refine ws_ret ?_ | refine ws_exit ?_ | refine ws_cond_t rfl ?_ | refine ws_cond_f rfl ?_)
          | refine rs_gy rfl rfl ?_
          | refine rs_no rfl rfl rfl rfl ?_
          | (refine rs_boxA rfl rfl rfl ?_; intro g)
          | (refine rs_alloc rfl rfl ?_; intro g)
          | (refine rs_idst ?_; first | refine rs_storeX 0 rfl rfl rfl rfl rfl rfl ?_ | refine rs_storeX 1 rfl rfl rfl rfl rfl rfl ?_ | refine rs_storeX 2 rfl rfl rfl rfl rfl rfl ?_ | refine rs_storeX 3 rfl rfl rfl rfl rfl rfl ?_ | refine rs_storeX 4 rfl rfl rfl rfl rfl rfl ?_ | refine rs_storeX 5 rfl rfl rfl rfl rfl rfl ?_ | refine rs_storeAX 0 rfl rfl rfl rfl rfl rfl rfl rfl rfl ?_ | refine rs_storeAX 1 rfl rfl rfl rfl rfl rfl rfl rfl rfl ?_ | refine rs_storeAX 2 rfl rfl rfl rfl rfl rfl rfl rfl rfl ?_ | refine rs_storeAX 3 rfl rfl rfl rfl rfl rfl rfl rfl rfl ?_ | refine rs_storeAX 4 rfl rfl rfl rfl rfl rfl rfl rfl rfl ?_ | refine rs_storeAX 5 rfl rfl rfl rfl rfl rfl rfl rfl rfl ?_ | refine rs_storeAS 0 rfl rfl rfl rfl rfl rfl ?_ | refine rs_storeAS 1 rfl rfl rfl rfl rfl rfl ?_ | refine rs_storeAS 2 rfl rfl rfl rfl rfl rfl ?_ | refine rs_storeAS 3 rfl rfl rfl rfl rfl rfl ?_)
          | refine rs_op rfl (opj_call rfl rfl h (Takes.same Takes.nil)) ?_
    refine ws_cond rfl (fun hd => ?_) (fun hd => ?_)
    · have hf : spotFin s k = false := by unfold spotFin; simpa only [Bool.not_eq_true'] using hd
      repeat
        first
            | refine rs_op rfl (opj_move rfl) ?_
            | refine rs_op rfl (opj_assign rfl) ?_
            | (refine rs_idb ?_; first | refine rs_op rfl (opj_fbin rfl rfl rfl) ?_ | refine rs_op rfl (opj_add rfl rfl (by omega)) ?_ | refine rs_op rfl (opj_sub rfl rfl (by omega)) ?_ | refine rs_op rfl (opj_fcmp rfl rfl rfl) ?_ | refine rs_op rfl (opj_lss rfl rfl) ?_ | refine rs_op rfl (opj_leq rfl rfl) ?_ | refine rs_op rfl (opj_gtr rfl rfl) ?_ | refine rs_op rfl (opj_geq rfl rfl) ?_ | refine rs_op rfl (opj_ieq rfl rfl) ?_ | refine rs_op rfl (opj_ine rfl rfl) ?_ | refine rs_op rfl (opj_beq rfl rfl) ?_ | refine rs_op rfl (opj_bne rfl rfl) ?_)
            | (refine rs_idc ?_; first | refine rs_op rfl (opj_len_m rfl) ?_ | refine rs_op rfl (opj_len_raw rfl) ?_ | refine rs_op rfl (opj_real rfl) ?_ | refine rs_op rfl (opj_imag rfl) ?_ | refine rs_op rfl (opj_complex rfl rfl) ?_)
            | (refine rs_idl ?_; first | refine rs_op rfl (opj_loadX rfl rfl (by (repeat (first | exact List.Mem.head _ | refine List.Mem.tail _ ?_)); done) rfl) ?_ | refine rs_op rfl (opj_loadAX rfl rfl (by (repeat (first | exact List.Mem.head _ | refine List.Mem.tail _ ?_)); done) rfl rfl) ?_ | refine rs_op rfl (opj_loadAP rfl rfl rfl rfl) ?_ | refine rs_op rfl (opj_load1 rfl rfl) ?_)
            | (refine rs_ida ?_; first | refine rs_op rfl (opj_index_m rfl rfl (by omega) (by omega)) ?_ | refine rs_op rfl (opj_index_own rfl rfl (by omega) (by omega)) ?_)
            | refine rs_op rfl (opj_field_own rfl) ?_
            | refine rs_op rfl (opj_field_ptr rfl) ?_
            | refine rs_op rfl (opj_wide rfl) ?_
            | refine rs_op rfl (opj_iconv rfl) ?_
            | refine rs_op rfl (opj_extract rfl rfl) ?_
            | refine rs_op rfl (opj_pick_t rfl rfl) ?_
            | refine rs_op rfl (opj_pick_f rfl rfl) ?_
            | refine rs_op rfl (opj_not rfl) ?_
            | refine rs_nil ?_
            | (refine done_id ?_; first | refine done_normal_then ?_ | refine done_ret_then ?_ | refine done_exit_then ?_ | refine done_normal_block ?_ | refine done_ret_block ?_ | refine done_exit_here ?_ | refine done_exit_on rfl ?_ | refine done_ret_round ?_ | refine done_exit_round ?_)
            | (refine ws_id ?_; first | refine ws_seq ?_ | refine ws_region ?_ | refine ws_block ?_ | refine ws_skip ?_ | refine ws_ret ?_ | refine ws_exit ?_ | refine ws_cond_t rfl ?_ | refine ws_cond_f rfl ?_)
            | refine rs_gy rfl rfl ?_
            | refine rs_no rfl rfl rfl rfl ?_
            | (refine rs_boxA rfl rfl rfl ?_; intro g)
            | (refine rs_alloc rfl rfl ?_; intro g)
            | (refine rs_idst ?_; first | refine rs_storeX 0 rfl rfl rfl rfl rfl rfl ?_ | refine rs_storeX 1 rfl rfl rfl rfl rfl rfl ?_ | refine rs_storeX 2 rfl rfl rfl rfl rfl rfl ?_ | refine rs_storeX 3 rfl rfl rfl rfl rfl rfl ?_ | refine rs_storeX 4 rfl rfl rfl rfl rfl rfl ?_ | refine rs_storeX 5 rfl rfl rfl rfl rfl rfl ?_ | refine rs_storeAX 0 rfl rfl rfl rfl rfl rfl rfl rfl rfl ?_ | refine rs_storeAX 1 rfl rfl rfl rfl rfl rfl rfl rfl rfl ?_ | refine rs_storeAX 2 rfl rfl rfl rfl rfl rfl rfl rfl rfl ?_ | refine rs_storeAX 3 rfl rfl rfl rfl rfl rfl rfl rfl rfl ?_ | refine rs_storeAX 4 rfl rfl rfl rfl rfl rfl rfl rfl rfl ?_ | refine rs_storeAX 5 rfl rfl rfl rfl rfl rfl rfl rfl rfl ?_ | refine rs_storeAS 0 rfl rfl rfl rfl rfl rfl ?_ | refine rs_storeAS 1 rfl rfl rfl rfl rfl rfl ?_ | refine rs_storeAS 2 rfl rfl rfl rfl rfl rfl ?_ | refine rs_storeAS 3 rfl rfl rfl rfl rfl rfl ?_)
      refine done_ret1B rfl () rfl rfl ?_ trivial (List.nil_sublist _)
      rw [spotsFin_false (by omega) hf]
    · have ht : spotFin s k = true := by unfold spotFin; simpa only [Bool.not_eq_false'] using hd
      repeat
        first
            | refine rs_op rfl (opj_move rfl) ?_
            | refine rs_op rfl (opj_assign rfl) ?_
            | (refine rs_idb ?_; first | refine rs_op rfl (opj_fbin rfl rfl rfl) ?_ | refine rs_op rfl (opj_add rfl rfl (by omega)) ?_ | refine rs_op rfl (opj_sub rfl rfl (by omega)) ?_ | refine rs_op rfl (opj_fcmp rfl rfl rfl) ?_ | refine rs_op rfl (opj_lss rfl rfl) ?_ | refine rs_op rfl (opj_leq rfl rfl) ?_ | refine rs_op rfl (opj_gtr rfl rfl) ?_ | refine rs_op rfl (opj_geq rfl rfl) ?_ | refine rs_op rfl (opj_ieq rfl rfl) ?_ | refine rs_op rfl (opj_ine rfl rfl) ?_ | refine rs_op rfl (opj_beq rfl rfl) ?_ | refine rs_op rfl (opj_bne rfl rfl) ?_)
            | (refine rs_idc ?_; first | refine rs_op rfl (opj_len_m rfl) ?_ | refine rs_op rfl (opj_len_raw rfl) ?_ | refine rs_op rfl (opj_real rfl) ?_ | refine rs_op rfl (opj_imag rfl) ?_ | refine rs_op rfl (opj_complex rfl rfl) ?_)
            | (refine rs_idl ?_; first | refine rs_op rfl (opj_loadX rfl rfl (by (repeat (first | exact List.Mem.head _ | refine List.Mem.tail _ ?_)); done) rfl) ?_ | refine rs_op rfl (opj_loadAX rfl rfl (by (repeat (first | exact List.Mem.head _ | refine List.Mem.tail _ ?_)); done) rfl rfl) ?_ | refine rs_op rfl (opj_loadAP rfl rfl rfl rfl) ?_ | refine rs_op rfl (opj_load1 rfl rfl) ?_)
            | (refine rs_ida ?_; first | refine rs_op rfl (opj_index_m rfl rfl (by omega) (by omega)) ?_ | refine rs_op rfl (opj_index_own rfl rfl (by omega) (by omega)) ?_)
            | refine rs_op rfl (opj_field_own rfl) ?_
            | refine rs_op rfl (opj_field_ptr rfl) ?_
            | refine rs_op rfl (opj_wide rfl) ?_
            | refine rs_op rfl (opj_iconv rfl) ?_
            | refine rs_op rfl (opj_extract rfl rfl) ?_
            | refine rs_op rfl (opj_pick_t rfl rfl) ?_
            | refine rs_op rfl (opj_pick_f rfl rfl) ?_
            | refine rs_op rfl (opj_not rfl) ?_
            | refine rs_nil ?_
            | (refine done_id ?_; first | refine done_normal_then ?_ | refine done_ret_then ?_ | refine done_exit_then ?_ | refine done_normal_block ?_ | refine done_ret_block ?_ | refine done_exit_here ?_ | refine done_exit_on rfl ?_ | refine done_ret_round ?_ | refine done_exit_round ?_)
            | (refine ws_id ?_; first | refine ws_seq ?_ | refine ws_region ?_ | refine ws_block ?_ | refine ws_skip ?_ | refine ws_ret ?_ | refine ws_exit ?_ | refine ws_cond_t rfl ?_ | refine ws_cond_f rfl ?_)
            | refine rs_gy rfl rfl ?_
            | refine rs_no rfl rfl rfl rfl ?_
            | (refine rs_boxA rfl rfl rfl ?_; intro g)
            | (refine rs_alloc rfl rfl ?_; intro g)
            | (refine rs_idst ?_; first | refine rs_storeX 0 rfl rfl rfl rfl rfl rfl ?_ | refine rs_storeX 1 rfl rfl rfl rfl rfl rfl ?_ | refine rs_storeX 2 rfl rfl rfl rfl rfl rfl ?_ | refine rs_storeX 3 rfl rfl rfl rfl rfl rfl ?_ | refine rs_storeX 4 rfl rfl rfl rfl rfl rfl ?_ | refine rs_storeX 5 rfl rfl rfl rfl rfl rfl ?_ | refine rs_storeAX 0 rfl rfl rfl rfl rfl rfl rfl rfl rfl ?_ | refine rs_storeAX 1 rfl rfl rfl rfl rfl rfl rfl rfl rfl ?_ | refine rs_storeAX 2 rfl rfl rfl rfl rfl rfl rfl rfl rfl ?_ | refine rs_storeAX 3 rfl rfl rfl rfl rfl rfl rfl rfl rfl ?_ | refine rs_storeAX 4 rfl rfl rfl rfl rfl rfl rfl rfl rfl ?_ | refine rs_storeAX 5 rfl rfl rfl rfl rfl rfl rfl rfl rfl ?_ | refine rs_storeAS 0 rfl rfl rfl rfl rfl rfl ?_ | refine rs_storeAS 1 rfl rfl rfl rfl rfl rfl ?_ | refine rs_storeAS 2 rfl rfl rfl rfl rfl rfl ?_ | refine rs_storeAS 3 rfl rfl rfl rfl rfl rfl ?_)
      refine done_round (k + 1) ⟨by omega, fun i hi => ?_⟩ (by omega) ?_ (fun _ h => h)
      · rcases Nat.lt_or_ge i k with h | h
        · exact hall i h
        · obtain rfl : i = k := by omega
          exact ht
      · (repeat (first | exact Env.sub_nil _ | refine Env.sub_cons rfl ?_))
  · have hge : ¬ (k : Int) < n := of_decide_eq_false hc
    repeat
      first
          | refine rs_op rfl (opj_move rfl) ?_
          | refine rs_op rfl (opj_assign rfl) ?_
          | (refine rs_idb ?_; first | refine rs_op rfl (opj_fbin rfl rfl rfl) ?_ | refine rs_op rfl (opj_add rfl rfl (by omega)) ?_ | refine rs_op rfl (opj_sub rfl rfl (by omega)) ?_ | refine rs_op rfl (opj_fcmp rfl rfl rfl) ?_ | refine rs_op rfl (opj_lss rfl rfl) ?_ | refine rs_op rfl (opj_leq rfl rfl) ?_ | refine rs_op rfl (opj_gtr rfl rfl) ?_ | refine rs_op rfl (opj_geq rfl rfl) ?_ | refine rs_op rfl (opj_ieq rfl rfl) ?_ | refine rs_op rfl (opj_ine rfl rfl) ?_ | refine rs_op rfl (opj_beq rfl rfl) ?_ | refine rs_op rfl (opj_bne rfl rfl) ?_)
          | (refine rs_idc ?_; first | refine rs_op rfl (opj_len_m rfl) ?_ | refine rs_op rfl (opj_len_raw rfl) ?_ | refine rs_op rfl (opj_real rfl) ?_ | refine rs_op rfl (opj_imag rfl) ?_ | refine rs_op rfl (opj_complex rfl rfl) ?_)
          | (refine rs_idl ?_; first | refine rs_op rfl (opj_loadX rfl rfl (by (repeat (first | exact List.Mem.head _ | refine List.Mem.tail _ ?_)); done) rfl) ?_ | refine rs_op rfl (opj_loadAX rfl rfl (by (repeat (first | exact List.Mem.head _ | refine List.Mem.tail _ ?_)); done) rfl rfl) ?_ | refine rs_op rfl (opj_loadAP rfl rfl rfl rfl) ?_ | refine rs_op rfl (opj_load1 rfl rfl) ?_)
          | (refine rs_ida ?_; first | refine rs_op rfl (opj_index_m rfl rfl (by omega) (by omega)) ?_ | refine rs_op rfl (opj_index_own rfl rfl (by omega) (by omega)) ?_)
          | refine rs_op rfl (opj_field_own rfl) ?_
          | refine rs_op rfl (opj_field_ptr rfl) ?_
          | refine rs_op rfl (opj_wide rfl) ?_
          | refine rs_op rfl (opj_iconv rfl) ?_
          | refine rs_op rfl (opj_extract rfl rfl) ?_
          | refine rs_op rfl (opj_pick_t rfl rfl) ?_
          | refine rs_op rfl (opj_pick_f rfl rfl) ?_
          | refine rs_op rfl (opj_not rfl) ?_
          | refine rs_nil ?_
          | (refine done_id ?_; first | refine done_normal_then ?_ | refine done_ret_then ?_ | refine done_exit_then ?_ | refine done_normal_block ?_ | refine done_ret_block ?_ | refine done_exit_here ?_ | refine done_exit_on rfl ?_ | refine done_ret_round ?_ | refine done_exit_round ?_)
          | (refine ws_id ?_; first | refine ws_seq ?_ | refine ws_region ?_ | refine ws_block ?_ | refine ws_skip ?_ | refine ws_ret ?_ | refine ws_exit ?_ | refine ws_cond_t rfl ?_ | refine ws_cond_f rfl ?_)
          | refine rs_gy rfl rfl ?_
          | refine rs_no rfl rfl rfl rfl ?_
          | (refine rs_boxA rfl rfl rfl ?_; intro g)
          | (refine rs_alloc rfl rfl ?_; intro g)
          | (refine rs_idst ?_; first | refine rs_storeX 0 rfl rfl rfl rfl rfl rfl ?_ | refine rs_storeX 1 rfl rfl rfl rfl rfl rfl ?_ | refine rs_storeX 2 rfl rfl rfl rfl rfl rfl ?_ | refine rs_storeX 3 rfl rfl rfl rfl rfl rfl ?_ | refine rs_storeX 4 rfl rfl rfl rfl rfl rfl ?_ | refine rs_storeX 5 rfl rfl rfl rfl rfl rfl ?_ | refine rs_storeAX 0 rfl rfl rfl rfl rfl rfl rfl rfl rfl ?_ | refine rs_storeAX 1 rfl rfl rfl rfl rfl rfl rfl rfl rfl ?_ | refine rs_storeAX 2 rfl rfl rfl rfl rfl rfl rfl rfl rfl ?_ | refine rs_storeAX 3 rfl rfl rfl rfl rfl rfl rfl rfl rfl ?_ | refine rs_storeAX 4 rfl rfl rfl rfl rfl rfl rfl rfl rfl ?_ | refine rs_storeAX 5 rfl rfl rfl rfl rfl rfl rfl rfl rfl ?_ | refine rs_storeAS 0 rfl rfl rfl rfl rfl rfl ?_ | refine rs_storeAS 1 rfl rfl rfl rfl rfl rfl ?_ | refine rs_storeAS 2 rfl rfl rfl rfl rfl rfl ?_ | refine rs_storeAS 3 rfl rfl rfl rfl rfl rfl ?_)
    refine done_ret1B rfl () rfl rfl ?_ trivial (List.nil_sublist _)
    rw [spotsFin_true (fun i hi => hall i (by omega))]
end Go.Ab
