/- What single operations give. No conditions. -/
import Derived.Test.YtljgokghchhjaaaSt
import Derived.IntWalk
namespace Go.Ab
variable {R : World → Prop} [RStab R]

class TyU (P : Program) (t : TypeId) (d : outParam TypeDesc) : Prop where
  h : P.underlying t = some d
class TyI (P : Program) (t : TypeId) (z : outParam Value) (sz bytes : outParam Nat) : Prop where
  h : ∃ i, P.info? t = some i ∧ i.zero = some z ∧ i.size = sz ∧ i.bytes = bytes
def aggD : TypeDesc → Bool
  | .struct _ | .array _ _ => true
  | _ => false
theorem run_isAgg {P : Program} {t : TypeId} {d : TypeDesc} (h : P.underlying t = some d) (w : World) : (isAgg t).run P w = .ok (aggD d) w := by
  cases d <;> simp [isAgg, run_underlying h, aggD]
theorem run_size {P : Program} {t : TypeId} {z : Value} {sz b : Nat} (h : TyI P t z sz b) (w : World) : (sizeOf t).run P w = .ok sz w := by
  obtain ⟨i, hi, _, hs, _⟩ := h.h
  simp [sizeOf, typeInfo, hi, hs]
theorem run_bytes {P : Program} {t : TypeId} {z : Value} {sz b : Nat} (h : TyI P t z sz b) (w : World) : ((typeInfo t).run P w).andThen (fun i w' => Result.ok i.bytes w') = .ok b w := by
  obtain ⟨i, hi, _, _, hs⟩ := h.h
  simp [typeInfo, hi, hs]
theorem run_zero {P : Program} {t : TypeId} {z : Value} {sz b : Nat} (h : TyI P t z sz b) (w : World) : (zeroValue t).run P w = .ok z w := by
  obtain ⟨i, hi, hz, _⟩ := h.h
  simp [zeroValue, typeInfo, hi, hz]

section
variable {P : Program} {S : World → Prop} {e : Env} {dst : Option Tmp} {ty : TypeId} {pos : String} {after : Array Edge} {guard : Option (Nat × Bool)}

theorem zay {x : Operand} {v : AV} (hx : e.ev x = some v) : OpJ P S e ⟨dst, .move x, ty, pos, after, guard⟩ v :=
  opj_value fun a w _ h => ⟨a.eval x, w, by simp [execOp], Ext.refl _, h x (by simp [Op.operands]) v hx⟩
theorem zaz {x : Operand} {v : AV} (hx : e.ev x = some v) : OpJ P S e ⟨dst, .assign x, ty, pos, after, guard⟩ v :=
  opj_value fun a w _ h => ⟨a.eval x, w, by simp [execOp], Ext.refl _, h x (by simp [Op.operands]) v hx⟩
theorem zca {c x y : Operand} {v : AV} (hc : e.ev c = some (.raw (.bool true))) (hx : e.ev x = some v) : OpJ P S e ⟨dst, .pick c x y, ty, pos, after, guard⟩ v :=
  opj_value fun a w _ h => by
    have h1 := (h c (by simp [Op.operands]) _ hc).inv_raw
    exact ⟨a.eval x, w, by simp [execOp, h1, asBool], Ext.refl _, h x (by simp [Op.operands]) v hx⟩
theorem zcb {c x y : Operand} {v : AV} (hc : e.ev c = some (.raw (.bool false))) (hy : e.ev y = some v) : OpJ P S e ⟨dst, .pick c x y, ty, pos, after, guard⟩ v :=
  opj_value fun a w _ h => by
    have h1 := (h c (by simp [Op.operands]) _ hc).inv_raw
    exact ⟨a.eval y, w, by simp [execOp, h1, asBool], Ext.refl _, h y (by simp [Op.operands]) v hy⟩
/-- '+', '-', '*' on whole numbers, in range. -/
def arithI (op : BinOp) (x y : Int) : Int := match op with
  | .add => x + y
  | .sub => x - y
  | .mul => x * y
  | _ => 0
def isArithI : BinOp → Bool
  | .add | .sub | .mul => true
  | _ => false
theorem opj_int {op : BinOp} {t t' : TypeId} {X Y : Operand} {x y : Int} (hop : isArithI op = true) (hx : e.ev X = some (.raw (.int .i64 x))) (hy : e.ev Y = some (.raw (.int .i64 y)))
    (hr : -9223372036854775808 ≤ arithI op x y ∧ arithI op x y ≤ 9223372036854775807) : OpJ P S e ⟨dst, .binOp op t X Y t', ty, pos, after, guard⟩ (.raw (.int .i64 (arithI op x y))) :=
  opj_value fun a w _ h => by
    have h1 := (h X (by simp [Op.operands]) _ hx).inv_raw
    have h2 := (h Y (by simp [Op.operands]) _ hy).inv_raw
    refine ⟨_, w, ?_, Ext.refl _, .raw⟩
    have hw : IntKind.i64.wrap (arithI op x y) = arithI op x y := IntWalk.i64_in _ hr
    cases op <;> first | (cases hop; done) | (simp only [arithI] at hw; simp [execOp, h1, h2, eqGuard, binOp, Op.intArith, hw, arithI])
/-- Comparisons of whole numbers. -/
def cmpI (op : BinOp) (x y : Int) : Bool := match op with
  | .eql => x == y
  | .neq => x != y
  | .lss => decide (x < y)
  | .leq => decide (x ≤ y)
  | .gtr => decide (x > y)
  | .geq => decide (x ≥ y)
  | _ => false
theorem opj_icmp {op : BinOp} {t t' : TypeId} {X Y : Operand} {k : IntKind} {x y : Int} (hop : isCmp op = true) (hx : e.ev X = some (.raw (.int k x))) (hy : e.ev Y = some (.raw (.int k y))) :
    OpJ P S e ⟨dst, .binOp op t X Y t', ty, pos, after, guard⟩ (.raw (.bool (cmpI op x y))) :=
  opj_value fun a w _ h => by
    have h1 := (h X (by simp [Op.operands]) _ hx).inv_raw
    have h2 := (h Y (by simp [Op.operands]) _ hy).inv_raw
    refine ⟨_, w, ?_, Ext.refl _, .raw⟩
    cases op <;> first | (cases hop; done) | simp [execOp, h1, h2, eqGuard, binOp, Op.intCmp, cmpI]
theorem opj_quo {t t' : TypeId} {X Y : Operand} {x y : Int} (hx : e.ev X = some (.raw (.int .i64 x))) (hy : e.ev Y = some (.raw (.int .i64 y)))
    (h0 : 0 ≤ x) (h1 : 1 ≤ y) (hb : x ≤ 9223372036854775807) : OpJ P S e ⟨dst, .binOp .quo t X Y t', ty, pos, after, guard⟩ (.raw (.int .i64 (x / y))) :=
  opj_value fun a w _ h => by
    have hX := (h X (by simp [Op.operands]) _ hx).inv_raw
    have hY := (h Y (by simp [Op.operands]) _ hy).inv_raw
    refine ⟨_, w, ?_, Ext.refl _, .raw⟩
    have hd : x.tdiv y = x / y := Int.tdiv_eq_ediv_of_nonneg h0
    have hle : x / y ≤ x := Int.ediv_le_self _ h0
    have hge : 0 ≤ x / y := Int.ediv_nonneg h0 (by omega)
    have hw : IntKind.i64.wrap (x / y) = x / y := IntWalk.i64_in _ ⟨by omega, by omega⟩
    have hne : ¬ (y = 0) := by omega
    simp [execOp, hX, hY, eqGuard, binOp, Op.intDiv, hne, hd, hw]
theorem zcq {t t' : TypeId} {X Y : Operand} {x y : Int} (hx : e.ev X = some (.raw (.int .i64 x))) (hy : e.ev Y = some (.raw (.int .i64 y)))
    (h0 : 0 ≤ x) (h1 : 1 ≤ y) : OpJ P S e ⟨dst, .binOp .rem t X Y t', ty, pos, after, guard⟩ (.raw (.int .i64 (x % y))) :=
  opj_value fun a w _ h => by
    have hX := (h X (by simp [Op.operands]) _ hx).inv_raw
    have hY := (h Y (by simp [Op.operands]) _ hy).inv_raw
    refine ⟨_, w, ?_, Ext.refl _, .raw⟩
    have hd : x.tmod y = x % y := Int.tmod_eq_emod_of_nonneg h0
    have hne : ¬ (y = 0) := by omega
    simp [execOp, hX, hY, eqGuard, binOp, Op.intDiv, hne, hd]
theorem opj_bcmp {op : BinOp} {t t' : TypeId} {X Y : Operand} {x y : Bool} [hu : TyU P t .bool] (hop : op = .eql ∨ op = .neq) (hx : e.ev X = some (.raw (.bool x))) (hy : e.ev Y = some (.raw (.bool y))) :
    OpJ P S e ⟨dst, .binOp op t X Y t', ty, pos, after, guard⟩ (.raw (.bool (if op = .eql then x == y else !(x == y)))) :=
  opj_value fun a w _ h => by
    have h1 := (h X (by simp [Op.operands]) _ hx).inv_raw
    have h2 := (h Y (by simp [Op.operands]) _ hy).inv_raw
    refine ⟨_, w, ?_, Ext.refl _, .raw⟩
    rcases hop with rfl | rfl
    · simp [execOp, h1, h2, eqGuard, run_eql_bool w t x y hu.h]
    · simp [execOp, h1, h2, eqGuard, run_neq_bool w t x y hu.h]
theorem zcc {t : TypeId} {X : Operand} {x : Bool} (hx : e.ev X = some (.raw (.bool x))) : OpJ P S e ⟨dst, .unOp .not t X, ty, pos, after, guard⟩ (.raw (.bool (!x))) :=
  opj_value fun a w _ h => by
    have h1 := (h X (by simp [Op.operands]) _ hx).inv_raw
    exact ⟨_, w, by simp [execOp, h1, Op.unary], Ext.refl _, .raw⟩
theorem zba {op : BinOp} {t t' : TypeId} {X Y : Operand} {k : FloatKind} {x y : FV} (hop : isArith op = true) (hx : e.ev X = some (.f k x)) (hy : e.ev Y = some (.f k y)) :
    OpJ P S e ⟨dst, .binOp op t X Y t', ty, pos, after, guard⟩ (.f k (fbin op k x y)) :=
  opj_value fun a w _ h => by
    obtain ⟨p, h1, e1, _⟩ := (h X (by simp [Op.operands]) _ hx).inv_f
    obtain ⟨q, h2, e2, _⟩ := (h Y (by simp [Op.operands]) _ hy).inv_f
    obtain ⟨r, w', hr, hq, hv, hl⟩ := run_fbinop P w op hop t k p q
    refine ⟨.float k r, w', ?_, Ext.of_quiet hq, Rel.f' hl (by rw [hv, e1, e2])⟩
    cases op <;> first | (cases hop; done) | simp [execOp, h1, h2, eqGuard, hr]
theorem zbd {op : BinOp} {t t' : TypeId} {X Y : Operand} {k : FloatKind} {x y : FV} (hop : isCmp op = true) (hx : e.ev X = some (.f k x)) (hy : e.ev Y = some (.f k y)) :
    OpJ P S e ⟨dst, .binOp op t X Y t', ty, pos, after, guard⟩ (.raw (.bool (cmpB op (fcmp k x y)))) :=
  opj_value fun a w _ h => by
    obtain ⟨p, h1, e1, _⟩ := (h X (by simp [Op.operands]) _ hx).inv_f
    obtain ⟨q, h2, e2, _⟩ := (h Y (by simp [Op.operands]) _ hy).inv_f
    refine ⟨_, w, ?_, Ext.refl _, .raw⟩
    rw [← e1, ← e2]
    have hr := run_fcmp P w op hop t k p q
    cases op <;> first | (cases hop; done) | simp [execOp, h1, h2, eqGuard, hr]
theorem opj_fconv {src dt : TypeId} {X : Operand} {s d : FloatKind} {x : FV} [hs : TyU P src (.float s)] [hd : TyU P dt (.float d)] (hx : e.ev X = some (.f s x)) (hok : ConvOk s d x) :
    OpJ P S e ⟨dst, .convert src dt X, ty, pos, after, guard⟩ (.f d (fconv s d x)) :=
  opj_value fun a w _ h => by
    obtain ⟨p, h1, e1, hb⟩ := (h X (by simp [Op.operands]) _ hx).inv_f
    obtain ⟨r, w', hr, hq, hv, hl⟩ := run_fconv P w s d p hb (by rw [e1]; exact hok)
    refine ⟨.float d r, w', ?_, Ext.of_quiet hq, Rel.f' hl (by rw [hv, e1])⟩
    simp [execOp, h1, convert, run_underlying hs.h, run_underlying hd.h, hr]
theorem nearest_f_ok (d : FloatKind) (n : Int) : (d.decode (d.nearest n)).isNaN = false := write_not_nan d.format (.number (n < 0) n.natAbs 0) rfl
theorem zby {src dt : TypeId} {X : Operand} {k k' : IntKind} {d : FloatKind} {x : Int} [hs : TyU P src (.int k)] [hd : TyU P dt (.float d)] (hx : e.ev X = some (.raw (.int k' x))) :
    OpJ P S e ⟨dst, .convert src dt X, ty, pos, after, guard⟩ (.f d (some (d.nearest x))) :=
  opj_value fun a w _ h => by
    have h1 := (h X (by simp [Op.operands]) _ hx).inv_raw
    refine ⟨.float d (d.nearest x), w, ?_, Ext.refl _, Rel.f' (d.format.write_lt (.number (x < 0) x.natAbs 0)) (fv_some (nearest_f_ok d x))⟩
    simp [execOp, h1, convert, run_underlying hs.h, run_underlying hd.h, Conv.intToFloat]
theorem opj_len_sl {R0 : World → Prop} {X : Operand} {w0 : World} {H : List Ent} {sz : Nat} {xs : List AV} {t t2 : TypeId} {b : Nat} {z : Value} {el : TypeId} [hu : TyU P t (.slice el)] [hi : TyI P el z sz b] (h0 : 0 < sz) (hx : e.ev X = some (AV.sl w0 sz xs)) :
    OpJ P (StR R0 w0 [] H) e ⟨dst, .call { callee := .builtin .len, args := #[X], argTypes := #[t] }, t2, pos, after, guard⟩ (.raw (.int .i64 ((xs.length / sz : Nat) : Int))) :=
  opj_value fun a w _ h => by
    have h1 := (h X (by simp [Op.operands, Call.operands]) _ hx).inv_q
    obtain ⟨ad, len, cap, hv, hl, _, _, _⟩ := h1
    refine ⟨_, w, ?_, Ext.refl _, .raw⟩
    have : xs.length / sz = len := by rw [hl]; exact Nat.mul_div_cancel _ h0
    rw [this]
    simp [execOp, resolve, invoke, builtin, Builtin.len_, run_underlying hu.h, hv, goInt]
theorem zbn {X : Operand} {ad : Option Addr} {n cap : Nat} {t t2 : TypeId} {el : TypeId} [hu : TyU P t (.slice el)] (hx : e.ev X = some (.raw (.slice ad n cap))) :
    OpJ P S e ⟨dst, .call { callee := .builtin .len, args := #[X], argTypes := #[t] }, t2, pos, after, guard⟩ (.raw (.int .i64 (n : Int))) :=
  opj_value fun a w _ h => by
    have h1 := (h X (by simp [Op.operands, Call.operands]) _ hx).inv_raw
    exact ⟨_, w, by simp [execOp, resolve, invoke, builtin, Builtin.len_, run_underlying hu.h, h1, goInt], Ext.refl _, .raw⟩
theorem addr_add (b : Addr) (hb : b.spot = none) (n : Nat) : b.add n = ⟨b.block, b.off + n, none⟩ := by
  unfold Addr.add
  split
  · subst_vars; cases b; simp_all
  · cases b; simp_all
/-- An element of a slice that came in: its place. -/
theorem opj_index_sl {R0 : World → Prop} {X I : Operand} {w0 : World} {H : List Ent} {sz : Nat} {xs : List AV} {i : Int} {t : TypeId} {b : Nat} {z : Value} {el : TypeId} [hu : TyU P t (.slice el)] [hi : TyI P el z sz b]
    (hx : e.ev X = some (AV.sl w0 sz xs)) (hI : e.ev I = some (.raw (.int .i64 i))) (h0 : 0 ≤ i) (hlt : (i.toNat + 1) * sz ≤ xs.length) (hsz : 0 < sz) :
    OpJ P (StR R0 w0 [] H) e ⟨dst, .indexAddr t X I, ty, pos, after, guard⟩ (AV.ptr (xs.drop (i.toNat * sz))) :=
  opj_value fun a w hS h => by
    have h1 := hS.rd (h X (by simp [Op.operands]) _ hx).inv_q
    have h2 := (h I (by simp [Op.operands]) _ hI).inv_raw
    obtain ⟨ad, len, cap, hv, hl, hc, hm, hr⟩ := h1
    have hne : xs[i.toNat * sz]? = some (xs[i.toNat * sz]'(by rw [Nat.add_mul] at hlt; omega)) := by simp
    obtain ⟨bb, hbb, hsp, _⟩ := hr _ _ hne
    subst hbb
    have hil : i.toNat < len := by
      rw [hl] at hlt
      exact Nat.lt_of_succ_le (Nat.le_of_mul_le_mul_right hlt hsz)
    have hil' : i < (len : Int) := by omega
    have hP : PtrTo (xs.drop (i.toNat * sz)) w (.pointer (some (bb.add (i.toNat * sz)))) := by
      rw [addr_add bb hsp]
      refine ⟨_, rfl, rfl, fun j x hj => ?_⟩
      rw [List.getElem?_drop] at hj
      obtain ⟨b', hb', _, u, hu', hev⟩ := hr _ _ hj
      cases hb'
      exact ⟨u, by rw [Nat.add_assoc]; exact hu', hev⟩
    refine ⟨_, w, ?_, Ext.refl _, .p (mono_ptrTo _) hP⟩
    simp [execOp, h2, hv, Instr.indexAt, asIntOf, run_underlying hu.h, run_size hi, h0, hil']
/-- An element of a slice that the call owns: its place. -/
theorem zbw {X I : Operand} {g n cap : Nat} {i : Int} {t : TypeId} {sz b : Nat} {z : Value} {el : TypeId} [hu : TyU P t (.slice el)] [hi : TyI P el z sz b]
    (hx : e.ev X = some (.raw (.slice (some ⟨g, 0, none⟩) n cap))) (hI : e.ev I = some (.raw (.int .i64 i))) (h0 : 0 ≤ i) (hlt : i < n) :
    OpJ P S e ⟨dst, .indexAddr t X I, ty, pos, after, guard⟩ (.raw (.pointer (some ⟨g, i.toNat * sz, none⟩))) :=
  opj_value fun a w hS h => by
    have h1 := (h X (by simp [Op.operands]) _ hx).inv_raw
    have h2 := (h I (by simp [Op.operands]) _ hI).inv_raw
    refine ⟨_, w, ?_, Ext.refl _, .raw⟩
    have := addr_add ⟨g, 0, none⟩ rfl (i.toNat * sz)
    simp only [Nat.zero_add] at this
    simp [execOp, h1, h2, Instr.indexAt, asIntOf, run_underlying hu.h, run_size hi, h0, hlt, this]
theorem run_loadVar_cell {t : TypeId} {d : TypeDesc} (hd : P.underlying t = some d) (ha : aggD d = false) {w : World} {ad : Addr} {u : Value} (hc : w.cell? ad = some u) : (loadVar t ad).run P w = .ok u w := by
  simp [loadVar, run_isAgg hd, ha, hc]
theorem opj_load_ptr {X : Operand} {x : AV} {xs : List AV} {t : TypeId} {d : TypeDesc} [hd : TyU P t d] (ha : aggD d = false) (hx : e.ev X = some (AV.ptr xs)) (h0 : xs[0]? = some x) :
    OpJ P S e ⟨dst, .load t X, ty, pos, after, guard⟩ x :=
  opj_value fun a w hS h => by
    obtain ⟨_, bb, hv, hsp, hr⟩ := (h X (by simp [Op.operands]) _ hx).inv_p
    obtain ⟨u, hu, hev⟩ := hr 0 x h0
    have hbb : (⟨bb.block, bb.off + 0, none⟩ : Addr) = bb := by cases bb; simp_all
    rw [hbb] at hu
    exact ⟨u, w, by simp [execOp, hv, Instr.loadAt, Instr.sureAddr, run_loadVar_cell hd.h ha hu], Ext.refl _, hev w⟩
/-- A cell of a block that the call owns. -/
theorem opj_load_own {R0 : World → Prop} {X : Operand} {x : AV} {w0 : World} {gs : List Nat} {H : List Ent} {en : Ent} {i : Nat} {t : TypeId} {d : TypeDesc} [hd : TyU P t d] (ha : aggD d = false)
    (hx : e.ev X = some (.raw (.pointer (some ⟨en.g, i, none⟩)))) (hm : en ∈ H) (h0 : en.xs[i]? = some x) : OpJ P (StR R0 w0 gs H) e ⟨dst, .load t X, ty, pos, after, guard⟩ x :=
  opj_value fun a w hS h => by
    have h1 := (h X (by simp [Op.operands]) _ hx).inv_raw
    obtain ⟨u, hu, hev⟩ := (hS.own en hm).2.cell h0
    exact ⟨u, w, by simp [execOp, h1, Instr.loadAt, Instr.sureAddr, run_loadVar_cell hd.h ha hu], Ext.refl _, hev w⟩
theorem zbp {X : Operand} {k : FloatKind} {x y : FV} {ts : Array TypeId} (hx : e.ev X = some (.c k x y)) : OpJ P S e ⟨dst, .call { callee := .builtin .real, args := #[X], argTypes := ts }, ty, pos, after, guard⟩ (.f k x) :=
  opj_value fun a w _ h => by
    obtain ⟨p, q, h1, e1, _, hp, _⟩ := (h X (by simp [Op.operands, Call.operands]) _ hx).inv_c
    exact ⟨.float k p, w, by simp [execOp, resolve, invoke, builtin, run_real, h1], Ext.refl _, Rel.f' hp e1⟩
theorem zbq {X : Operand} {k : FloatKind} {x y : FV} {ts : Array TypeId} (hx : e.ev X = some (.c k x y)) : OpJ P S e ⟨dst, .call { callee := .builtin .imag, args := #[X], argTypes := ts }, ty, pos, after, guard⟩ (.f k y) :=
  opj_value fun a w _ h => by
    obtain ⟨p, q, h1, _, e2, _, hq⟩ := (h X (by simp [Op.operands, Call.operands]) _ hx).inv_c
    exact ⟨.float k q, w, by simp [execOp, resolve, invoke, builtin, run_imag, h1], Ext.refl _, Rel.f' hq e2⟩
theorem zbr {X Y : Operand} {k : FloatKind} {x y : FV} {ts : Array TypeId} (hx : e.ev X = some (.f k x)) (hy : e.ev Y = some (.f k y)) : OpJ P S e ⟨dst, .call { callee := .builtin .complex, args := #[X, Y], argTypes := ts }, ty, pos, after, guard⟩ (.c k x y) :=
  opj_value fun a w _ h => by
    obtain ⟨p, h1, e1, hp⟩ := (h X (by simp [Op.operands, Call.operands]) _ hx).inv_f
    obtain ⟨q, h2, e2, hq⟩ := (h Y (by simp [Op.operands, Call.operands]) _ hy).inv_f
    exact ⟨.complex k p q, w, by simp [execOp, resolve, invoke, builtin, run_complex, h1, h2], Ext.refl _, Rel.c' hp hq e1 e2⟩
theorem zbz {X : Operand} {l : List AV} {i : Nat} {x : AV} (hx : e.ev X = some (.tup l)) (hi : l[i]? = some x) : OpJ P S e ⟨dst, .extract X i, ty, pos, after, guard⟩ x :=
  opj_value fun a w _ h => by
    obtain ⟨vs, h1, hr⟩ := (h X (by simp [Op.operands]) _ hx).inv_tup
    obtain ⟨v, hv, hrv⟩ := hr.get hi
    exact ⟨v, w, by simp [execOp, h1, Instr.extract, hv], Ext.refl _, hrv⟩
theorem opj_nilCheck {X : Operand} {ad : Addr} (hx : e.ev X = some (.raw (.pointer (some ad)))) : OpJ P S e ⟨dst, .nilCheck X, ty, pos, after, guard⟩ (.raw (.pointer (some ad))) :=
  opj_value fun a w _ h => by
    have h1 := (h X (by simp [Op.operands]) _ hx).inv_raw
    exact ⟨_, w, by simp [execOp, h1], Ext.refl _, .raw⟩
end
end Go.Ab
