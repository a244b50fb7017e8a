/- Lists made quiet: a square of numbers in rows of a call's own, or flat; what is computed. No conditions. -/
import Derived.Test.YtlnfbadoglllbaaLst
import Derived.Test.YtlnfbadoglllbaaNetC
import Derived.Test.YtlnfbadoglllbaaRough
import Derived.Lib.SliceRun
import Derived.KernelRfl
namespace Go.Ab
open Go.Proofs
variable {R : World → Prop} [RStab R]

/-! Plain. -/
abbrev Mx := Int → Int → FV
abbrev q0 : FV := fv .f32 0
abbrev q1 : FV := fv .f32 1065353216
def upd2 (r c : Int) (x : FV) (M : Mx) (i j : Int) : FV := if i = r ∧ j = c then x else M i j
theorem upd2_at (r c : Int) (x : FV) (M : Mx) : upd2 r c x M r c = x := if_pos ⟨rfl, rfl⟩
theorem upd2_ne {r c : Int} (x : FV) (M : Mx) {i j : Int} (h : ¬ (i = r ∧ j = c)) : upd2 r c x M i j = M i j := if_neg h
def put1 (i : Int) (x : FV) (f : Int → FV) (t : Int) : FV := if t = i then x else f t
theorem put1_at (i : Int) (x : FV) (f : Int → FV) : put1 i x f i = x := if_pos rfl
theorem put1_ne (i : Int) (x : FV) (f : Int → FV) {t : Int} (h : t ≠ i) : put1 i x f t = f t := if_neg h
def mI (i j : Int) : FV := if j = i then q1 else q0
def dd (i : Int) : FV := if i = 1 then fv .f32 3221225472 else q1
def addStep (w : FV) (i r c : Int) (M : Mx) : Mx := upd2 (i - 1 + r) (i - 1 + c) (fbin .add .f32 (M (i - 1 + r) (i - 1 + c)) (fbin .mul .f32 w (fbin .mul .f32 (dd r) (dd c)))) M
def addC (w : FV) (i r : Int) : Nat → Mx → Mx
  | 0, M => M
  | c + 1, M => addStep w i r c (addC w i r c M)
def addR (w : FV) (i : Int) : Nat → Mx → Mx
  | 0, M => M
  | r + 1, M => addC w i r 3 (addR w i r M)
def addI (w : FV) : Nat → Mx
  | 0 => mI
  | k + 1 => addR w ((k : Int) + 1) 3 (addI w k)
def cnt (n k : Nat) : Nat := min n (k + 3) - (k + 1)
theorem cnt_iff {n k c : Nat} : ((k : Int) + 1 + c < if (k : Int) + 3 < n then (k : Int) + 3 else n) ↔ c < cnt n k := by
  unfold cnt
  split <;> omega
theorem cnt_iff' {n k c : Nat} : ((k : Int) + 1 + c ≤ (k : Int) + 2 ∧ (k : Int) + 1 + c < n) ↔ c < cnt n k := by
  unfold cnt
  omega
def elJ (f : FV) (k r : Int) : Nat → Mx → Mx
  | 0, M => M
  | c + 1, M => upd2 r (k + 1 + c) (fbin .sub .f32 (elJ f k r c M r (k + 1 + c)) (fbin .mul .f32 f (elJ f k r c M k (k + 1 + c)))) (elJ f k r c M)
def fac (M : Mx) (r k : Int) : FV := fbin .quo .f32 (M r k) (M k k)
abbrev Sy := Mx × (Int → FV)
def elS (n : Nat) (k r : Int) (m : Nat) (y : Sy) : Sy := (elJ (fac y.1 r k) k r m y.1, put1 r (fbin .sub .f32 (y.2 r) (fbin .mul .f32 (fac y.1 r k) (y.2 k))) y.2)
def elR (n k : Nat) : Nat → Sy → Sy
  | 0, y => y
  | c + 1, y => elS n k ((k : Int) + 1 + c) (cnt n k) (elR n k c y)
def elK (w : FV) (n : Nat) (b : Int → FV) : Nat → Sy
  | 0 => (addI w (n - 2), b)
  | k + 1 => elR n k (cnt n k) (elK w n b k)
def bkJ (M : Mx) (k : Int) : Nat → (Int → FV) → Int → FV
  | 0, x => x
  | c + 1, x => put1 k (fbin .sub .f32 (bkJ M k c x k) (fbin .mul .f32 (M k (k + 1 + c)) (bkJ M k c x (k + 1 + c)))) (bkJ M k c x)
def bkS (M : Mx) (n k : Nat) (x : Int → FV) : Int → FV := put1 k (fbin .quo .f32 (bkJ M k (cnt n k) x k) (M k k)) (bkJ M k (cnt n k) x)
def bkK (M : Mx) (n : Nat) (b : Int → FV) : Nat → Int → FV
  | 0 => b
  | m + 1 => bkS M n (n - 1 - m) (bkK M n b m)
theorem bkJ_ne (M : Mx) (k : Int) (x : Int → FV) {t : Int} (h : t ≠ k) : ∀ c, bkJ M k c x t = x t
  | 0 => rfl
  | c + 1 => by rw [bkJ, put1_ne _ _ _ h]; exact bkJ_ne M k x h c
def quietR (w : FV) (n : Nat) (b : Int → FV) : Int → FV := bkK (elK w n b n).1 n (elK w n b n).2 n
def okQ (w : FV) (n : Nat) (b : Int → FV) : Bool := quietB (tab n b) && finB w && cmpB .geq (fcmp .f32 w q0)

/-! Rows. -/
abbrev slvR (g n : Nat) : AV := .raw (.slice (some ⟨g, 0, none⟩) n n)
def rowsK (G : Nat → Nat) (n : Nat) (M : Mx) (k : Nat) : List Ent := (List.range k).map fun (i : Nat) => entF (G i) 27 n (M i) n
def rowA (G : Nat → Nat) (n : Nat) (i : Nat) : AV := slvR (G i) n
theorem rowsK_get (G : Nat → Nat) (n : Nat) (M : Mx) {k i : Nat} (h : i < k) : (rowsK G n M k)[i]? = some (entF (G i) 27 n (M i) n) := by simp [rowsK, h]
theorem rowsK_set (G : Nat → Nat) (n : Nat) (M : Mx) {k : Nat} {r : Nat} (c : Int) (x : FV) (hr : r < k) : (rowsK G n M k).set r (entF (G r) 27 n (fun t => upd2 r c x M r t) n) = rowsK G n (upd2 r c x M) k := by
  apply List.ext_getElem?
  intro i
  rw [List.getElem?_set]
  rcases Nat.lt_or_ge i k with hi | hi
  · rw [rowsK_get G n _ hi]
    split
    · rename_i h
      subst h
      rw [if_pos (by simp [rowsK]; exact hi), rowsK_get G n _ hi]
    · rename_i h
      rw [rowsK_get G n _ hi]
      have : (upd2 r c x M i) = M i := by
        funext j
        exact upd2_ne _ _ (by omega)
      rw [this]
  · rw [List.getElem?_eq_none (by simp [rowsK]; omega)]
    split
    · rename_i h; omega
    · rw [List.getElem?_eq_none (by simp [rowsK]; omega)]
def putN1 (i g : Nat) (G : Nat → Nat) (j : Nat) : Nat := if j = i then g else G j
theorem rowsK_succ (G : Nat → Nat) (n : Nat) (M : Mx) (i g : Nat) : rowsK (putN1 i g G) n M (i + 1) = rowsK G n M i ++ [entF g 27 n (M i) n] := by
  unfold rowsK
  rw [List.range_succ, List.map_append]
  congr 1
  · refine List.map_congr_left fun j hj => ?_
    have : j < i := by simpa using hj
    unfold putN1
    rw [if_neg (by omega)]
  · simp [putN1]
theorem rowA_snoc (G : Nat → Nat) (n i g : Nat) : tabA i (rowA G n) ++ [slvR g n] = tabA (i + 1) (rowA (putN1 i g G) n) :=
  tabA_ext (by simp) fun j hj => by
    rcases Nat.lt_or_ge j i with h | h
    · rw [List.getElem?_append_left (by rw [tabA_length]; exact h), tabA_get _ h]
      unfold rowA putN1
      rw [if_neg (by omega)]
    · obtain rfl : j = i := by omega
      rw [List.getElem?_append_right (by rw [tabA_length]; exact h), tabA_length, Nat.sub_self]
      unfold rowA putN1
      rw [if_pos rfl]
      rfl
/-! Flat. -/
def flat (n : Nat) (M : Mx) (t : Int) : FV := M (t / n) (t % n)
theorem flat_at {n : Nat} (M : Mx) {r c : Int} (hc : 0 ≤ c ∧ c < n) : flat n M (r * n + c) = M r c := by
  unfold flat
  have h1 : (r * n + c) / (n : Int) = r := by
    rw [Int.add_comm, Int.add_mul_ediv_right _ _ (by omega), Int.ediv_eq_zero_of_lt hc.1 hc.2, Int.zero_add]
  have h2 : (r * n + c) % (n : Int) = c := by
    rw [Int.add_comm, Int.add_mul_emod_self_right, Int.emod_eq_of_lt hc.1 hc.2]
  rw [h1, h2]
theorem flat_put {n : Nat} (M : Mx) {r c : Int} (x : FV) {t : Int} (h : t ≠ r * n + c) : flat n (upd2 r c x M) t = flat n M t := by
  unfold flat
  refine upd2_ne _ _ fun ⟨h1, h2⟩ => h ?_
  have := Int.mul_ediv_add_emod t n
  rw [h1, h2, Int.mul_comm] at this
  exact this.symm
theorem flat_bound {n : Nat} {r c : Int} (hr : 0 ≤ r ∧ r < n) (hc : 0 ≤ c ∧ c < n) : 0 ≤ r * n + c ∧ r * n + c < ((n * n : Nat) : Int) := by
  have h1 : 0 ≤ r * n := Int.mul_nonneg hr.1 (by omega)
  have h2 : (r + 1) * n ≤ (n : Int) * n := Int.mul_le_mul_of_nonneg_right (by omega) (by omega)
  rw [Int.add_mul, Int.one_mul] at h2
  rw [Int.natCast_mul]
  omega
section
variable {P : Program} {t el : TypeId} {S : World → Prop} {N : Nat} {e : Env} {Q : Exit → Env → World → Prop} {ops : Array Oper} {l : List Oper} {dst : Option Tmp} {ty : TypeId} {pos : String} {after : Array Edge} {guard : Option (Nat × Bool)}
variable {w0 : World} {gs : List Nat} {H : List Ent}
theorem opj_minI {X Y : Operand} {x y : Int} {ts : Array TypeId} (hx : e.ev X = some (.raw (.int .i64 x))) (hy : e.ev Y = some (.raw (.int .i64 y))) :
    OpJ P S e ⟨dst, .call { callee := .builtin .min, args := #[X, Y], argTypes := ts }, ty, pos, after, guard⟩ (.raw (.int .i64 (if y < x then y else x))) :=
  opj_value fun a w _ h => by
    have h1 := (h X (by simp [Op.operands, Call.operands]) _ hx).inv_raw
    have h2 := (h Y (by simp [Op.operands, Call.operands]) _ hy).inv_raw
    exact ⟨_, w, by simp [execOp, resolve, invoke, builtin, h1, h2, run_min_int2], Ext.refl _, .raw⟩
theorem opj_eqnilF {t' : TypeId} {X : Operand} {xs : List AV} [hu : TyU P t (.slice el)] (hx : e.ev X = some (AV.sl w0 1 xs)) (h0 : 0 < xs.length) :
    OpJ P S e ⟨dst, .binOp .eql t X (.const (.slice none 0 0)) t', ty, pos, after, guard⟩ (.raw (.bool false)) :=
  opj_value fun a w _ h => by
    obtain ⟨ad, n, c, h1, hl, _, _, hr⟩ := (h X (by simp [Op.operands]) _ hx).inv_q
    obtain ⟨b, rfl, _⟩ := hr 0 _ (List.getElem?_eq_getElem h0)
    refine ⟨_, w, ?_, Ext.refl _, .raw⟩
    have hr := Go.Lib.run_eql_slice_nil (P := P) w t el (some b) n c 0 0 hu.h
    have hc : a.eval (.const (.slice none 0 0)) = .slice none 0 0 := rfl
    simp [execOp, h1, hc, eqGuard, hr]
/-- A cell of a list of the call's own. -/
theorem opj_loadQ {R0 : World → Prop} {X : Operand} {x : AV} {g j m c : Nat} {a : Nat → AV} {T : TypeId} {d : TypeDesc} [hd : TyU P t d] (ha : aggD d = false)
    (hx : e.ev X = some (.raw (.pointer (some ⟨g, j, none⟩)))) (hm : (⟨g, T, tabA m a, c⟩ : Ent) ∈ H) (h0 : j < m) (hax : a j = x) : OpJ P (StR R0 w0 gs H) e ⟨dst, .load t X, ty, pos, after, guard⟩ x := by
  subst hax
  exact opj_load_own (en := ⟨g, T, tabA m a, c⟩) ha hx hm (tabA_get a h0)
/-- A number of a row. -/
theorem opj_loadM {R0 : World → Prop} {X : Operand} {G : Nat → Nat} {n : Nat} {M : Mx} {i j : Int} {d : TypeDesc} [hd : TyU P t d] (ha : aggD d = false)
    (hx : e.ev X = some (.raw (.pointer (some ⟨G (i.toNat * 1), j.toNat * 1, none⟩)))) (hm : ∀ x ∈ rowsK G n M n, x ∈ H) (hi : 0 ≤ i ∧ i < n) (hj : 0 ≤ j ∧ j < n) :
    OpJ P (StR R0 w0 gs H) e ⟨dst, .load t X, ty, pos, after, guard⟩ (.f .f32 (M i j)) := by
  have hii : ((i.toNat : Nat) : Int) = i := by omega
  have hmem : entF (G i.toNat) 27 n (M i) n ∈ rowsK G n M n := by
    have := List.mem_of_getElem? (rowsK_get G n M (k := n) (i := i.toNat) (by omega))
    rw [hii] at this
    exact this
  rw [Nat.mul_one i.toNat] at hx
  exact zbt ha hx (hm _ hmem) hj
/-- A number into a row. -/
theorem rs_storeM {X : List Ent} {G : Nat → Nat} {n : Nat} {M : Mx} {r c : Int} {x : FV} {z : Value} {b : Nat} [hi : TyI P t z 1 b] {A V : Operand}
    (hA : e.ev A = some (.raw (.pointer (some ⟨G (r.toNat * 1), c.toNat * 1, none⟩)))) (hx : e.ev V = some (.f .f32 x)) (hr : 0 ≤ r ∧ r < n) (hc : 0 ≤ c ∧ c < n)
    (hk : RS P N ops l e.keep (StR R w0 gs (X ++ rowsK G n (upd2 r c x M) n)) Q) :
    RS P N ops (⟨none, .store t A V, ty, pos, after, none⟩ :: l) e (StR R w0 gs (X ++ rowsK G n M n)) Q := by
  have hrr : ((r.toNat : Nat) : Int) = r := by omega
  rw [Nat.mul_one r.toNat] at hA
  refine rs_storeT (X.length + r.toNat) (fun t => upd2 r c x M r t) (g := G r.toNat) (f := M r) (n := n) (c := n) (T := 27) hA hx ?_ ⟨hc.1, hc.2, Nat.le_refl _⟩ (upd2_at r c x M) (fun s _ _ hs => upd2_ne _ _ (by omega)) ?_
  · rw [List.getElem?_append_right (by omega), Nat.add_sub_cancel_left, rowsK_get G n M (by omega), hrr]
  · rw [List.set_append_right _ _ (by omega), Nat.add_sub_cancel_left]
    have := rowsK_set G n M (k := n) (r := r.toNat) c x (by omega)
    rw [hrr] at this
    rw [this]
    exact hk
theorem rs_makeT {d : Tmp} {A B : Operand} {n : Nat} {z : Value} {b : Nat} [hu : TyU P t (.slice el)] [hi : TyI P el z 1 b]
    (hA : e.ev A = some (.raw (.int .i64 (n : Int)))) (hB : e.ev B = some (.raw (.int .i64 (n : Int)))) (hd : Nat.blt d N = true) (hz : cv1 z = .f .f32 q0) (hzo : okv1 z = true) (hzc : z.cells = #[z])
    (hb : b * n ≤ 281474976710656) (hm : n ≤ maxLen)
    (hk : ∀ g, RS P N ops l ((d, slvR g n) :: e) (StR R w0 gs (entF g el n (fun _ => q0) n :: H)) Q) :
    RS P N ops (⟨some d, .makeSlice t A B, ty, pos, after, none⟩ :: l) e (StR R w0 gs H) Q := by
  refine rs_make (m := AV.f .f32) (zx := q0) hA hB hd hz hzo hzc hb hm fun g => ?_
  rw [tab_rep]
  exact hk g
/-- A number of three. -/
theorem opj_index3 {X I : Operand} {i : Int} {el : TypeId} {z0 : Value} {b : Nat} [hu : TyU P t (.array 3 el)] {d : TypeDesc} [hd : TyU P el d] (ha : aggD d = false) [hi : TyI P el z0 1 b] (hx : e.ev X = some (.agg [.f .f32 q1, .f .f32 (fv .f32 3221225472), .f .f32 q1])) (hI : e.ev I = some (.raw (.int .i64 i))) (h0 : 0 ≤ i ∧ i < 3) :
    OpJ P S e ⟨dst, .index t X I, ty, pos, after, guard⟩ (.f .f32 (dd i)) :=
  opj_value fun a w _ h => by
    obtain ⟨vs, h1, hr⟩ := (h X (by simp [Op.operands]) _ hx).inv_agg
    have h2 := (h I (by simp [Op.operands]) _ hI).inv_raw
    obtain ⟨v0, r0, rfl, hv0, hr⟩ := hr.inv_cons
    obtain ⟨v1, r1, rfl, hv1, hr⟩ := hr.inv_cons
    obtain ⟨v2, r2, rfl, hv2, hr⟩ := hr.inv_cons
    obtain rfl := hr.inv_nil
    have hpart : ∀ (k : Nat) (v : Value), #[v0, v1, v2][k]? = some v → (part el #[v0, v1, v2] k).run P w = .ok v w := fun k v hv => by
      simp [part, run_isAgg hd.h, ha, hv]
    have hc : i = 0 ∨ i = 1 ∨ i = 2 := by omega
    rcases hc with rfl | rfl | rfl
    · exact ⟨v0, w, by simp [execOp, h1, h2, Instr.index, asIntOf, run_underlying hu.h, run_size hi, hpart 0 v0 rfl], Ext.refl _, hv0⟩
    · exact ⟨v1, w, by simp [execOp, h1, h2, Instr.index, asIntOf, run_underlying hu.h, run_size hi, hpart 1 v1 rfl], Ext.refl _, hv1⟩
    · exact ⟨v2, w, by simp [execOp, h1, h2, Instr.index, asIntOf, run_underlying hu.h, run_size hi, hpart 2 v2 rfl], Ext.refl _, hv2⟩
end
class Arr3 (P : Program) (t : TypeId) : Prop where
  b3 : ∀ (w : World) (a b c : Nat), (Instr.build t #[(0, .float .f32 a), (1, .float .f32 b), (2, .float .f32 c)]).run P w = .ok (.agg #[.float .f32 a, .float .f32 b, .float .f32 c]) w
instance arr3 : Arr3 Try.prog 43 := ⟨fun w a b c => by kernel_rfl⟩
section
variable {P : Program} {t : TypeId} {S : World → Prop} {e : Env} {dst : Option Tmp} {ty : TypeId} {pos : String} {after : Array Edge} {guard : Option (Nat × Bool)}
theorem opj_build3q [hb : Arr3 P t] {X Y Z : Operand} {x y z : FV} (hx : e.ev X = some (.f .f32 x)) (hy : e.ev Y = some (.f .f32 y)) (hz : e.ev Z = some (.f .f32 z)) :
    OpJ P S e ⟨dst, .build t #[(0, X), (1, Y), (2, Z)], ty, pos, after, guard⟩ (.agg [.f .f32 x, .f .f32 y, .f .f32 z]) :=
  opj_value fun ac w _ h => by
    obtain ⟨a, h1, e1, l1⟩ := (h X (by simp [Op.operands]) _ hx).inv_f
    obtain ⟨b, h2, e2, l2⟩ := (h Y (by simp [Op.operands]) _ hy).inv_f
    obtain ⟨c, h3, e3, l3⟩ := (h Z (by simp [Op.operands]) _ hz).inv_f
    refine ⟨_, w, ?_, Ext.refl _, .agg (vs := [.float .f32 a, .float .f32 b, .float .f32 c]) (.cons (Rel.f' l1 e1) (.cons (Rel.f' l2 e2) (.cons (Rel.f' l3 e3) .nil)))⟩
    simp only [execOp, List.map_toArray, List.map_cons, List.map_nil, h1, h2, h3, Sem.run_bind, hb.b3, Result.andThen_ok]
    rfl
end
end Go.Ab
