/- Operations that make or write blocks of the call's own. No conditions. -/
import Derived.Test.YtljgokghchhjaaaFn
import Derived.ArgAppend
import Derived.Test.YtljgokghchhjaaaFc
namespace Go.Ab
variable {R : World → Prop} [RStab R]

section
variable {P : Program} {N : Nat} {S : World → Prop} {e : Env} {Q : Exit → Env → World → Prop} {ops : Array Oper} {l : List Oper} {o : Oper}
variable {w0 : World} {gs : List Nat} {H : List Ent} {dst : Option Tmp} {ty : TypeId} {pos : String} {after : Array Edge} {guard : Option (Nat × Bool)}

/-! Plain forms of the operations on numbers. -/
theorem zbb {t t' : TypeId} {X Y : Operand} {x y : Int} (hx : e.ev X = some (.raw (.int .i64 x))) (hy : e.ev Y = some (.raw (.int .i64 y)))
    (hr : -9223372036854775808 ≤ x + y ∧ x + y ≤ 9223372036854775807) : OpJ P S e ⟨dst, .binOp .add t X Y t', ty, pos, after, guard⟩ (.raw (.int .i64 (x + y))) := opj_int (op := .add) rfl hx hy hr
theorem zbc {t t' : TypeId} {X Y : Operand} {x y : Int} (hx : e.ev X = some (.raw (.int .i64 x))) (hy : e.ev Y = some (.raw (.int .i64 y)))
    (hr : -9223372036854775808 ≤ x - y ∧ x - y ≤ 9223372036854775807) : OpJ P S e ⟨dst, .binOp .sub t X Y t', ty, pos, after, guard⟩ (.raw (.int .i64 (x - y))) := opj_int (op := .sub) rfl hx hy hr
theorem opj_mul {t t' : TypeId} {X Y : Operand} {x y : Int} (hx : e.ev X = some (.raw (.int .i64 x))) (hy : e.ev Y = some (.raw (.int .i64 y)))
    (hr : -9223372036854775808 ≤ x * y ∧ x * y ≤ 9223372036854775807) : OpJ P S e ⟨dst, .binOp .mul t X Y t', ty, pos, after, guard⟩ (.raw (.int .i64 (x * y))) := opj_int (op := .mul) rfl hx hy hr
theorem zbe {t t' : TypeId} {X Y : Operand} {k : IntKind} {x y : Int} (hx : e.ev X = some (.raw (.int k x))) (hy : e.ev Y = some (.raw (.int k y))) :
    OpJ P S e ⟨dst, .binOp .lss t X Y t', ty, pos, after, guard⟩ (.raw (.bool (decide (x < y)))) := opj_icmp (op := .lss) rfl hx hy
theorem zbf {t t' : TypeId} {X Y : Operand} {k : IntKind} {x y : Int} (hx : e.ev X = some (.raw (.int k x))) (hy : e.ev Y = some (.raw (.int k y))) :
    OpJ P S e ⟨dst, .binOp .leq t X Y t', ty, pos, after, guard⟩ (.raw (.bool (decide (x ≤ y)))) := opj_icmp (op := .leq) rfl hx hy
theorem zbg {t t' : TypeId} {X Y : Operand} {k : IntKind} {x y : Int} (hx : e.ev X = some (.raw (.int k x))) (hy : e.ev Y = some (.raw (.int k y))) :
    OpJ P S e ⟨dst, .binOp .gtr t X Y t', ty, pos, after, guard⟩ (.raw (.bool (decide (y < x)))) := opj_icmp (op := .gtr) rfl hx hy
theorem zbh {t t' : TypeId} {X Y : Operand} {k : IntKind} {x y : Int} (hx : e.ev X = some (.raw (.int k x))) (hy : e.ev Y = some (.raw (.int k y))) :
    OpJ P S e ⟨dst, .binOp .geq t X Y t', ty, pos, after, guard⟩ (.raw (.bool (decide (y ≤ x)))) := opj_icmp (op := .geq) rfl hx hy
theorem zbi {t t' : TypeId} {X Y : Operand} {k : IntKind} {x y : Int} (hx : e.ev X = some (.raw (.int k x))) (hy : e.ev Y = some (.raw (.int k y))) :
    OpJ P S e ⟨dst, .binOp .eql t X Y t', ty, pos, after, guard⟩ (.raw (.bool (decide (x = y)))) := by
  have h := opj_icmp (P := P) (S := S) (e := e) (dst := dst) (ty := ty) (pos := pos) (after := after) (guard := guard) (op := .eql) (t := t) (t' := t') rfl hx hy
  have hb : cmpI .eql x y = decide (x = y) := by simp only [cmpI]; by_cases h : x = y <;> simp [h]
  rw [hb] at h; exact h
theorem zbj {t t' : TypeId} {X Y : Operand} {k : IntKind} {x y : Int} (hx : e.ev X = some (.raw (.int k x))) (hy : e.ev Y = some (.raw (.int k y))) :
    OpJ P S e ⟨dst, .binOp .neq t X Y t', ty, pos, after, guard⟩ (.raw (.bool (decide (x ≠ y)))) := by
  have h := opj_icmp (P := P) (S := S) (e := e) (dst := dst) (ty := ty) (pos := pos) (after := after) (guard := guard) (op := .neq) (t := t) (t' := t') rfl hx hy
  have hb : cmpI .neq x y = decide (x ≠ y) := by simp only [cmpI]; by_cases h : x = y <;> simp [h]
  rw [hb] at h; exact h
theorem zbk {t t' : TypeId} {X Y : Operand} {x y : Bool} [hu : TyU P t .bool] (hx : e.ev X = some (.raw (.bool x))) (hy : e.ev Y = some (.raw (.bool y))) :
    OpJ P S e ⟨dst, .binOp .eql t X Y t', ty, pos, after, guard⟩ (.raw (.bool (x == y))) := opj_bcmp (op := .eql) (.inl rfl) hx hy
theorem zbl {t t' : TypeId} {X Y : Operand} {x y : Bool} [hu : TyU P t .bool] (hx : e.ev X = some (.raw (.bool x))) (hy : e.ev Y = some (.raw (.bool y))) :
    OpJ P S e ⟨dst, .binOp .neq t X Y t', ty, pos, after, guard⟩ (.raw (.bool (!(x == y)))) := opj_bcmp (op := .neq) (.inr rfl) hx hy

/-- 'float64(x)' of a float32. -/
theorem zbx {src dt : TypeId} {X : Operand} {x : FV} [hs : TyU P src (.float .f32)] [hd : TyU P dt (.float .f64)] (hx : e.ev X = some (.f .f32 x)) :
    OpJ P S e ⟨dst, .convert src dt X, ty, pos, after, guard⟩ (.f .f64 (fconv .f32 .f64 x)) :=
  opj_value fun a w _ h => by
    obtain ⟨p, h1, e1, hb⟩ := (h X (by simp [Op.operands]) _ hx).inv_f
    obtain ⟨r, w', hr, hq, hv, hl⟩ := run_fconv P w .f32 .f64 p hb (conv_wide (is32_fv p))
    refine ⟨.float .f64 r, w', ?_, Ext.of_quiet hq, Rel.f' hl (by rw [hv, e1])⟩
    simp [execOp, h1, convert, run_underlying hs.h, run_underlying hd.h, hr]

/-! Slices of one-cell elements: the list of what they hold, by a function into values. -/
theorem getD_of_lt {α : Type} [Inhabited α] {L : List α} {i : Nat} (h : i < L.length) : L[i]? = some (L.getD i default) := by
  simp [List.getD, h]
theorem zbm {R0 : World → Prop} {α : Type} {m : α → AV} {L : List α} {X : Operand} {t t2 : TypeId} {b : Nat} {z : Value} {el : TypeId} [hu : TyU P t (.slice el)] [hi : TyI P el z 1 b] (hx : e.ev X = some (AV.sl w0 1 (L.map m))) :
    OpJ P (StR R0 w0 [] H) e ⟨dst, .call { callee := .builtin .len, args := #[X], argTypes := #[t] }, t2, pos, after, guard⟩ (.raw (.int .i64 (L.length : Int))) := by
  have h := opj_len_sl (P := P) (R0 := R0) (H := H) (dst := dst) (pos := pos) (after := after) (guard := guard) (t2 := t2) (hu := hu) (hi := hi) (by decide) hx
  simpa using h
theorem zbv {R0 : World → Prop} {α : Type} [Inhabited α] {m : α → AV} {L : List α} {X I : Operand} {i : Int} {t : TypeId} {b : Nat} {z : Value} {el : TypeId} [hu : TyU P t (.slice el)] [hi : TyI P el z 1 b]
    (hx : e.ev X = some (AV.sl w0 1 (L.map m))) (hI : e.ev I = some (.raw (.int .i64 i))) (h0 : 0 ≤ i) (hlt : i < (L.length : Int)) :
    OpJ P (StR R0 w0 [] H) e ⟨dst, .indexAddr t X I, ty, pos, after, guard⟩ (AV.ptr [m (L.getD i.toNat default)]) := by
  have h := opj_index_sl (P := P) (R0 := R0) (H := H) (dst := dst) (ty := ty) (pos := pos) (after := after) (guard := guard) (hu := hu) (hi := hi) hx hI h0 (by simp; omega) (by decide)
  intro a w K Q hS ho hK
  refine h a w K Q hS ho fun u w' hw hr => hK u w' hw ?_
  obtain ⟨_, bb, hv, hsp, hr⟩ := hr.inv_p
  refine .p (mono_ptrTo _) ⟨bb, hv, hsp, fun j x hj => ?_⟩
  cases j with
  | succ j => simp at hj
  | zero =>
    simp only [List.getElem?_cons_zero, Option.some.injEq] at hj
    subst hj
    refine hr 0 _ ?_
    have hlt' : i.toNat < L.length := by omega
    simp [List.getElem?_drop, List.getD, hlt']
theorem zbu {X : Operand} {x : AV} {t : TypeId} {d : TypeDesc} [hd : TyU P t d] (ha : aggD d = false) (hx : e.ev X = some (AV.ptr [x])) :
    OpJ P S e ⟨dst, .load t X, ty, pos, after, guard⟩ x := opj_load_ptr ha hx rfl
/-- A cell of an owned block. -/
theorem zcp {R0 : World → Prop} {α : Type} [Inhabited α] {m : α → AV} {L : List α} {X : Operand} {g : Nat} {T : TypeId} {c n : Nat} {t : TypeId} {d : TypeDesc} [hd : TyU P t d] (ha : aggD d = false)
    (hx : e.ev X = some (.raw (.pointer (some ⟨g, n, none⟩)))) (hm : (⟨g, T, L.map m, c⟩ : Ent) ∈ H) (h0 : n < L.length) : OpJ P (StR R0 w0 gs H) e ⟨dst, .load t X, ty, pos, after, guard⟩ (m (L.getD n default)) :=
  opj_load_own (en := ⟨g, T, L.map m, c⟩) ha hx hm (by simp [List.getD, h0])

/-! New blocks. -/
theorem rs_fresh {d : Tmp} {op : Op} {val : Nat → AV} {en : Nat → Ent} (hd : Nat.blt d N = true) (hen : ∀ g, (en g).g = g)
    (h : ∀ a w, StR R w0 gs H w → Fr N e a w → ∃ g u w', (execOp a.eval ⟨some d, op, ty, pos, after, none⟩).run P w = .ok (.value u) w' ∧ Ev (val g) u ∧ Ext w w' ∧ w.heap.size ≤ g ∧ OwnE w' (en g))
    (hk : ∀ g, RS P N ops l ((d, val g) :: e) (StR R w0 gs (en g :: H)) Q) : RS P N ops (⟨some d, op, ty, pos, after, none⟩ :: l) e (StR R w0 gs H) Q := by
  intro a w hS hF
  refine wpList_plain rfl fun K hK => ?_
  obtain ⟨g, u, w', hr, hu, hw, hlt, ho⟩ := h a w hS hF
  unfold Oper.wp
  rw [hr]
  exact hK _ _ (hk g _ w' (hS.new hw (by rw [hen]; exact hlt) ho) (Fr.put (some d) (hF.ext hw) (fun _ h => by cases h; exact Nat.le_of_ble_eq_true hd) (hu w')))
theorem ext_alloc_own {w : World} {T : TypeId} {xs : List AV} {cs : Array Value} (h : ∀ (i : Nat) (x : AV), xs[i]? = some x → ∃ u, cs[i]? = some u ∧ Ev x u) : OwnE (w.alloc (.cells cs T)) ⟨w.heap.size, T, xs, cs.size⟩ :=
  ⟨cs, heap_alloc_new w _, rfl, h⟩
theorem cv1_ev (v : Value) (h : okv1 v = true) : Ev (cv1 v) v := fun w => rel_cv1 w v h
/-- 'make([]T, n)'. -/
theorem rs_make {d : Tmp} {α : Type} {m : α → AV} {zx : α} {A B : Operand} {n : Nat} {t el : TypeId} {z : Value} {b : Nat} [hu : TyU P t (.slice el)] [hi : TyI P el z 1 b]
    (hA : e.ev A = some (.raw (.int .i64 (n : Int)))) (hB : e.ev B = some (.raw (.int .i64 (n : Int)))) (hd : Nat.blt d N = true) (hz : cv1 z = m zx) (hzo : okv1 z = true) (hzc : z.cells = #[z])
    (hb : b * n ≤ 281474976710656) (hm : n ≤ maxLen)
    (hk : ∀ g, RS P N ops l ((d, .raw (.slice (some ⟨g, 0, none⟩) n n)) :: e) (StR R w0 gs (⟨g, el, (List.replicate n zx).map m, n⟩ :: H)) Q) :
    RS P N ops (⟨some d, .makeSlice t A B, ty, pos, after, none⟩ :: l) e (StR R w0 gs H) Q := by
  refine rs_fresh (val := fun g => .raw (.slice (some ⟨g, 0, none⟩) n n)) (en := fun g => ⟨g, el, (List.replicate n zx).map m, n⟩) hd (fun _ => rfl) (fun a w hS hF => ?_) hk
  have h1 := (hF.eval hA).inv_raw
  have h2 := (hF.eval hB).inv_raw
  obtain ⟨i, hi1, hz1, hs1, hb1⟩ := hi.h
  have hm' : (n : Int) ≤ 9223372036854775807 := by simp only [maxLen] at hm; omega
  have hr := run_make (P := P) w t el i z hu.h hi1 hz1 .i64 .i64 n n (by omega) (Int.le_refl _) (by rw [hb1]; have h : ((b * n : Nat) : Int) ≤ 281474976710656 := (by omega); rwa [Int.natCast_mul] at h) hm'
  simp only [Int.toNat_natCast] at hr
  refine ⟨w.heap.size, .slice (some ⟨w.heap.size, 0, none⟩) n n, w.alloc (.cells (madeCells z.cells (n * i.size)) el), by simp [execOp, h1, h2, hr], ev_raw _, Ext.alloc _ _, Nat.le_refl _, ?_⟩
  have : (madeCells z.cells (n * i.size)).size = n := by rw [size_madeCells, hs1, Nat.mul_one]
  have ho := ext_alloc_own (w := w) (T := el) (xs := (List.replicate n zx).map m) (cs := madeCells z.cells (n * i.size)) (fun j x hj => ?_)
  · rw [this] at ho; exact ho
  · simp only [List.map_replicate, List.getElem?_replicate] at hj
    split at hj
    · rename_i hjn
      cases hj
      refine ⟨z, ?_, by rw [← hz]; exact cv1_ev z hzo⟩
      simp [madeCells, hs1, hzc, hjn, Nat.mod_one]
    · cases hj

/-- 'new(T)', a variable of its own. -/
theorem zal {d : Tmp} {el : TypeId} {z : Value} {sz b : Nat} [hi : TyI P el z sz b] (hd : Nat.blt d N = true) (hzo : z.cells.toList.all okv1 = true)
    (hk : ∀ g, RS P N ops l ((d, .raw (.pointer (some ⟨g, 0, none⟩))) :: e) (StR R w0 gs (⟨g, el, z.cells.toList.map cv1, z.cells.size⟩ :: H)) Q) :
    RS P N ops (⟨some d, .alloc el, ty, pos, after, none⟩ :: l) e (StR R w0 gs H) Q := by
  refine rs_fresh (val := fun g => .raw (.pointer (some ⟨g, 0, none⟩))) (en := fun g => ⟨g, el, z.cells.toList.map cv1, z.cells.size⟩) hd (fun _ => rfl) (fun a w hS hF => ?_) hk
  refine ⟨w.heap.size, _, w.alloc (.cells z.cells el), ?_, ev_raw _, Ext.alloc _ _, Nat.le_refl _, ext_alloc_own fun j x hj => ?_⟩
  · simp [execOp, Instr.alloc, run_zero hi, newVar, newRow]
  · simp only [List.getElem?_map, Option.map_eq_some_iff] at hj
    obtain ⟨v, hv, rfl⟩ := hj
    exact ⟨v, by simpa using hv, cv1_ev v (List.all_eq_true.1 hzo v (List.mem_of_getElem? hv))⟩
/-- A value into a variable of its own. -/
theorem rs_box1 {d : Tmp} {el : TypeId} {X : Operand} {x : AV} (hx : e.ev X = some x) (hs : x.still = true) (h1 : ∀ v w, Rel w x v → v.cells = #[v]) (hd : Nat.blt d N = true)
    (hk : ∀ g, RS P N ops l ((d, .raw (.pointer (some ⟨g, 0, none⟩))) :: e) (StR R w0 gs (⟨g, el, [x], 1⟩ :: H)) Q) :
    RS P N ops (⟨some d, .box el X, ty, pos, after, none⟩ :: l) e (StR R w0 gs H) Q := by
  refine rs_fresh (val := fun g => .raw (.pointer (some ⟨g, 0, none⟩))) (en := fun g => ⟨g, el, [x], 1⟩) hd (fun _ => rfl) (fun a w hS hF => ?_) hk
  have hr := hF.eval hx
  have hc := h1 _ _ hr
  refine ⟨w.heap.size, _, w.alloc (.cells (a.eval X).cells el), ?_, ev_raw _, Ext.alloc _ _, Nat.le_refl _, ?_⟩
  · simp [execOp, Instr.box, newVar, newRow]
  · have ho := ext_alloc_own (w := w) (T := el) (xs := [x]) (cs := (a.eval X).cells) (fun j y hj => ?_)
    · rw [hc] at ho ⊢; exact ho
    · cases j with
      | zero => simp at hj; subst hj; exact ⟨a.eval X, by simp [hc], hr.ev hs⟩
      | succ j => simp at hj
theorem zak {d : Tmp} {el : TypeId} {X : Operand} {xs : List AV} (hx : e.ev X = some (.agg xs)) (hs : AV.stillL xs = true) (hd : Nat.blt d N = true)
    (hk : ∀ g, RS P N ops l ((d, .raw (.pointer (some ⟨g, 0, none⟩))) :: e) (StR R w0 gs (⟨g, el, xs, xs.length⟩ :: H)) Q) :
    RS P N ops (⟨some d, .box el X, ty, pos, after, none⟩ :: l) e (StR R w0 gs H) Q := by
  refine rs_fresh (val := fun g => .raw (.pointer (some ⟨g, 0, none⟩))) (en := fun g => ⟨g, el, xs, xs.length⟩) hd (fun _ => rfl) (fun a w hS hF => ?_) hk
  obtain ⟨vs, hv, hr⟩ := (hF.eval hx).inv_agg
  refine ⟨w.heap.size, _, w.alloc (.cells (a.eval X).cells el), ?_, ev_raw _, Ext.alloc _ _, Nat.le_refl _, ?_⟩
  · simp [execOp, Instr.box, newVar, newRow]
  · have ho := ext_alloc_own (w := w) (T := el) (xs := xs) (cs := (a.eval X).cells) (fun j y hj => ?_)
    · have : (a.eval X).cells.size = xs.length := by rw [hv]; simp [Value.cells, hr.length]
      rw [this] at ho; exact ho
    · obtain ⟨v, hv', hrv⟩ := hr.get hj
      have hstill : y.still = true := by
        have : ∀ (l : List AV), AV.stillL l = true → ∀ x ∈ l, x.still = true := by
          intro l
          induction l with
          | nil => intro _ x hx; cases hx
          | cons a l ih => intro h x hx; simp only [AV.stillL, Bool.and_eq_true] at h; rcases List.mem_cons.1 hx with rfl | hx; exact h.1; exact ih h.2 x hx
        exact this xs hs y (List.mem_of_getElem? hj)
      exact ⟨v, by rw [hv]; simp [Value.cells, hv'], hrv.ev hstill⟩

/-! A store into an owned block. -/
def oneAV : AV → Bool
  | .f .. | .c .. => true
  | .raw (.agg _) | .raw (.tuple _) => false
  | .raw _ => true
  | _ => false
theorem oneAV_spec {x : AV} {w : World} {v : Value} (h : oneAV x = true) (hr : Rel w x v) : v.cells = #[v] ∧ v.oneCell' = true ∧ x.still = true := by
  cases hr <;> first | (simp [oneAV] at h; done) | exact ⟨rfl, rfl, rfl⟩ | skip
  cases v <;> first | (simp [oneAV] at h; done) | exact ⟨rfl, rfl, rfl⟩
theorem rs_store_at {en : Ent} {i : Nat} {t : TypeId} {z : Value} {b : Nat} [hi : TyI P t z 1 b] {A X : Operand} {x : AV} (hA : e.ev A = some (.raw (.pointer (some ⟨en.g, i, none⟩)))) (hx : e.ev X = some x) (h1 : oneAV x = true) (hi' : i < en.csz)
    (hk : RS P N ops l e.keep (StR R w0 gs ({ en with xs := en.xs.set i x } :: H)) Q) :
    RS P N ops (⟨none, .store t A X, ty, pos, after, none⟩ :: l) e (StR R w0 gs (en :: H)) Q := by
  intro a w hS hF
  refine wpList_plain rfl fun K hK => ?_
  have h2 := (hF.eval hA).inv_raw
  have hr := hF.eval hx
  obtain ⟨hc, ho, hst⟩ := oneAV_spec h1 hr
  have hown := (hS.own en (by simp)).2
  obtain ⟨cur, hb, hcs, _⟩ := hown
  have hcell : w.cell? ⟨en.g, i, none⟩ = some (cur[i]'(by omega)) := by simp [World.cell?, hb, hcs, hi']
  have hfr := OwnE.frozen (hS.own en (by simp)).2 i
  have hrun : (execOp a.eval ⟨none, .store t A X, ty, pos, after, none⟩).run P w = .ok .skip (w.setCell ⟨en.g, i, none⟩ (a.eval X)) := by
    have hst : (store ⟨en.g, i, none⟩ (a.eval X)).run P w = .ok () (w.setCell ⟨en.g, i, none⟩ (a.eval X)) := by
      rw [run_store P w _ _ _ ho, hcell]; simp [hfr]
    have hadd : (⟨en.g, i, none⟩ : Addr).add 0 = ⟨en.g, i, none⟩ := rfl
    simp [execOp, h2, Instr.storeAt, Instr.sureAddr, storeVar, run_size hi, hc, storeCells, hadd, hst]
  unfold Oper.wp
  rw [hrun]
  refine hK _ _ (hk _ _ (hS.upd (mod_setCell w en.g i _) rfl (own_setCell (hS.own en (by simp)).2 hi' (hr.ev hst))) ?_)
  exact hF.keep
theorem rs_store {α : Type} {m : α → AV} {L : List α} {x : α} {g : Nat} {T : TypeId} {c i : Nat} {t : TypeId} {z : Value} {b : Nat} [hi : TyI P t z 1 b] {A X : Operand} (hA : e.ev A = some (.raw (.pointer (some ⟨g, i, none⟩)))) (hx : e.ev X = some (m x)) (h1 : oneAV (m x) = true) (hi' : i < c)
    (hk : RS P N ops l e.keep (StR R w0 gs (⟨g, T, (L.set i x).map m, c⟩ :: H)) Q) :
    RS P N ops (⟨none, .store t A X, ty, pos, after, none⟩ :: l) e (StR R w0 gs (⟨g, T, L.map m, c⟩ :: H)) Q := by
  refine rs_store_at (en := ⟨g, T, L.map m, c⟩) hA hx h1 hi' ?_
  rw [List.map_set] at hk
  exact hk
/-- What is owned, in another order. -/
theorem RS.perm {R0 : World → Prop} {H' : List Ent} (h : RS P N ops l e (StR R0 w0 gs H') Q) (hp : H'.Perm H) : RS P N ops l e (StR R0 w0 gs H) Q := h.st fun _ hw => hw.perm hp
theorem RS.drop {R0 : World → Prop} {H' : List Ent} (h : RS P N ops l e (StR R0 w0 gs H') Q) (hp : H'.Sublist H) : RS P N ops l e (StR R0 w0 gs H) Q := h.st fun _ hw => hw.weak hp
/-! Guards; booleans by name. -/
theorem zai {d : Option Tmp} {op : Op} {j y : Nat} {b : Bool} (hy : gslot ops j = some y) (he : e.look y = some (.raw (.bool b))) (h : RS P N ops (⟨d, op, ty, pos, after, none⟩ :: l) e S Q) :
    RS P N ops (⟨d, op, ty, pos, after, some (j, b)⟩ :: l) e S Q := by
  intro a w hS hF
  have := h a w hS hF
  unfold wpList at this ⊢
  rw [if_pos (by simp [Region.wanted])] at this
  rw [if_pos (by simp [Region.wanted, yielded_of hF hy he])]
  exact this
theorem zab {d : Tmp} {op : Op} {b : Bool} [Cl S] (hd : Nat.blt d N = true) (hj : OpJ P S e ⟨some d, op, ty, pos, after, none⟩ (.raw (.bool b))) (h : ∀ c, b = c → RS P N ops l ((d, .raw (.bool c)) :: e) S Q) :
    RS P N ops (⟨some d, op, ty, pos, after, none⟩ :: l) e S Q := zaa hd hj (h b rfl)
theorem done_ret1B {R0 : World → Prop} {X : Type} {mk : X → AV} {post : X → List Ent} {good : X → Prop} {fn : Func} {t : Tmp} {b b' : Bool} (hr : fn.results = #[.tmp t]) (y : X) (ht : e.look t = some (.raw (.bool b))) (hmk : mk y = .raw (.bool b')) (hb : b = b') (hy : good y) (hs : (post y).Sublist H) :
    Done .ret e (StR R0 w0 gs H) (Ret P fn N w0 gs mk post good) := done_ret1 hr y (by rw [ht, hmk, hb]) hy hs

/-- A slice of the call's own, as an argument. -/
theorem Takes.own {R0 : World → Prop} {g n cap sz c : Nat} {T : TypeId} {xs : List AV} {args : List AV} {A : World → List AV} (hm : (⟨g, T, xs, c⟩ : Ent) ∈ H) (hn : xs.length = n * sz) (hc : n ≤ cap) (hx : cap ≤ maxLen) (h : Takes (StR R0 w0 gs H) args A) :
    Takes (StR R0 w0 gs H) (.raw (.slice (some ⟨g, 0, none⟩) n cap) :: args) (fun w => AV.sl w sz xs :: A w) := fun w vs hS hr => by
  obtain ⟨v, r, rfl, hv, hrr⟩ := hr.inv_cons
  have hv' := hv.inv_raw
  subst hv'
  refine .cons (.q ⟨_, n, cap, rfl, hn, hc, hx, fun i x hi => ⟨_, rfl, rfl, ?_⟩⟩) (h w r hS hrr)
  obtain ⟨u, hu, hev⟩ := (hS.own _ hm).2.cell hi
  exact ⟨u, by simpa using hu, hev⟩

/-! Calls that make so many blocks. -/
section
variable {X : Type} {A : World → List AV} {mk : X → AV} {good : X → Prop} {c : FuncId} {xs : List Operand} {F : Operand} {args : List AV} {d : Tmp} {ts : Array TypeId} [hb : HasBody P c]
theorem rs_call0 (hc : FnH P c A [] mk (fun _ => []) good) (hF : e.ev F = some (.raw (.func (.func c) #[] #[]))) (hx : evL e xs = some args) (ht : Takes (StR R w0 gs H) args A) (hd : Nat.blt d N = true)
    (h : ∀ y, good y → RS P N ops l ((d, mk y) :: e.keep) (StR R w0 gs H) Q) :
    RS P N ops (⟨some d, .call { callee := .value F, args := xs.toArray, argTypes := ts }, ty, pos, after, none⟩ :: l) e (StR R w0 gs H) Q := rs_call (H := H) hc hF hx ht hd h
theorem rs_call1 {en : X → Ent} (hc : FnH P c A [] mk (fun y => [en y]) good) (hF : e.ev F = some (.raw (.func (.func c) #[] #[]))) (hx : evL e xs = some args) (ht : Takes (StR R w0 gs H) args A) (hd : Nat.blt d N = true)
    (h : ∀ y, good y → RS P N ops l ((d, mk y) :: e.keep) (StR R w0 gs (en y :: H)) Q) :
    RS P N ops (⟨some d, .call { callee := .value F, args := xs.toArray, argTypes := ts }, ty, pos, after, none⟩ :: l) e (StR R w0 gs H) Q := rs_call (H := H) hc hF hx ht hd h
theorem rs_call2 {en en' : X → Ent} (hc : FnH P c A [] mk (fun y => [en y, en' y]) good) (hF : e.ev F = some (.raw (.func (.func c) #[] #[]))) (hx : evL e xs = some args) (ht : Takes (StR R w0 gs H) args A) (hd : Nat.blt d N = true)
    (h : ∀ y, good y → RS P N ops l ((d, mk y) :: e.keep) (StR R w0 gs (en y :: en' y :: H)) Q) :
    RS P N ops (⟨some d, .call { callee := .value F, args := xs.toArray, argTypes := ts }, ty, pos, after, none⟩ :: l) e (StR R w0 gs H) Q := rs_call (H := H) hc hF hx ht hd h
/-- A call that turns the first owned block. -/
theorem rs_callU {a : Ent} {en : X → Ent} (hc : FnH P c A [a] mk (fun y => [en y]) good) (hF : e.ev F = some (.raw (.func (.func c) #[] #[]))) (hx : evL e xs = some args) (ht : Takes (StR R w0 gs (a :: H)) args A) (hd : Nat.blt d N = true)
    (h : ∀ y, good y → RS P N ops l ((d, mk y) :: e.keep) (StR R w0 gs (en y :: H)) Q) :
    RS P N ops (⟨some d, .call { callee := .value F, args := xs.toArray, argTypes := ts }, ty, pos, after, none⟩ :: l) e (StR R w0 gs (a :: H)) Q := rs_call (pre := [a]) (H := H) hc hF hx ht hd h
end

/-! Marks by which a goal's kind is told. -/
theorem zdb {c : Code} (h : WS P N c e S Q) : WS P N c e S Q := h
theorem zcr {x : Exit} (h : Done x e S Q) : Done x e S Q := h
theorem zac {op : BinOp} {t t' : TypeId} {X Y : Operand} (h : RS P N ops (⟨dst, .binOp op t X Y t', ty, pos, after, guard⟩ :: l) e S Q) : RS P N ops (⟨dst, .binOp op t X Y t', ty, pos, after, guard⟩ :: l) e S Q := h
theorem zad {c : Call} (h : RS P N ops (⟨dst, .call c, ty, pos, after, guard⟩ :: l) e S Q) : RS P N ops (⟨dst, .call c, ty, pos, after, guard⟩ :: l) e S Q := h
end
end Go.Ab
