/- Part 9 of the texts on which the law leans, joined: Both halves of a part of a curve, boxes, and whether boxes touch, the program's; walked. No conditions. -/
import Derived.Test.YtcbobcpbfdehhaaZah
namespace Go.Ab
def bern (τ : Rat) : Nat → Int → Rat
  | 0 => fun _ => 1
  | k + 1 => fun i => (if i < (k : Int) + 1 then bern τ k i else 0) * (1 - τ) + (if 0 < i then bern τ k (i - 1) else 0) * τ
def sumR (s : Nat → Rat) : Nat → Rat
  | 0 => 0
  | i + 1 => sumR s i + s i
theorem bern_sum (τ : Rat) {n : Nat} (hn : 2 ≤ n ∧ n ≤ 5) : sumR (fun i => bern τ (n - 1) (i : Int)) n = 1 := by
  obtain rfl | rfl | rfl | rfl : n = 2 ∨ n = 3 ∨ n = 4 ∨ n = 5 := by omega
  all_goals
    simp [sumR, bern]
    try grind
theorem bern_cx {t : FV} {τ : Rat} (hT : Tm t τ) (x : Nat → Rat) {n : Nat} (hn : 2 ≤ n ∧ n ≤ 5) : sumR (fun i => bern τ (n - 1) (i : Int) * x i) n = Cx (fun _ => one1) t x (n - 1) 0 := by
  obtain rfl | rfl | rfl | rfl : n = 2 ∨ n = 3 ∨ n = 4 ∨ n = 5 := by omega
  all_goals
    simp [sumR, bern, Cx, lam_one hT]
    try grind
end Go.Ab
namespace Go.Ab
def hbF (a b : FV) : FV := fbin .mul .f32 (fbin .add .f32 (fbin .mul .f32 a hfT) (fbin .mul .f32 b hfT)) one1
def hrowF (X : Nat → FV) : Nat → Nat → FV
  | 0 => X
  | k + 1 => fun i => hbF (hrowF X k i) (hrowF X k (i + 1))
theorem hrow_1 (P : Nat → CV) : ∀ k i, (hrow P k i).1 = hrowF (fun i => (P i).1) k i
  | 0, _ => rfl
  | k + 1, i => by
    show hbF (hrow P k i).1 (hrow P k (i + 1)).1 = hbF (hrowF (fun i => (P i).1) k i) (hrowF (fun i => (P i).1) k (i + 1))
    rw [hrow_1 P k i, hrow_1 P k (i + 1)]
theorem hrow_2 (P : Nat → CV) : ∀ k i, (hrow P k i).2 = hrowF (fun i => (P i).2) k i
  | 0, _ => rfl
  | k + 1, i => by
    show hbF (hrow P k i).2 (hrow P k (i + 1)).2 = hbF (hrowF (fun i => (P i).2) k i) (hrowF (fun i => (P i).2) k (i + 1))
    rw [hrow_2 P k i, hrow_2 P k (i + 1)]
theorem hfT_vl : Vl .f32 hfT (1 / 2) := Vl.c (by decide +kernel)
theorem repM : Rep .f32 128 := .inl ⟨128, 0, by decide, by decide, by decide +kernel⟩
theorem repM' : Rep .f32 (-128) := .inr ⟨128, 0, by decide, by decide, by decide +kernel⟩
theorem repH : Rep .f32 64 := .inl ⟨64, 0, by decide, by decide, by decide +kernel⟩
theorem repH' : Rep .f32 (-64) := .inr ⟨64, 0, by decide, by decide, by decide +kernel⟩
/-- How far one middle is off. -/
def eH : Rat := 1 / 20000
theorem hbF_vl {a b : FV} {α β : Rat} (va : Vl .f32 a α) (vb : Vl .f32 b β) (ha : -128 ≤ α ∧ α ≤ 128) (hb : -128 ≤ β ∧ β ≤ 128) : ∃ r, Vl .f32 (hbF a b) r ∧ (-128 ≤ r ∧ r ≤ 128) ∧ -eH ≤ r - (α + β) / 2 ∧ r - (α + β) / 2 ≤ eH := by
  obtain ⟨p, vp, rp, p1, p2⟩ := mulR va hfT_vl 64 (by grind) (by grind) (by decide +kernel)
  obtain ⟨q, vq, rq, q1, q2⟩ := mulR vb hfT_vl 64 (by grind) (by grind) (by decide +kernel)
  have bp1 := (rp.side 64 repH).1 (by grind)
  have bp2 := (rp.side (-64) repH').2 (by grind)
  have bq1 := (rq.side 64 repH).1 (by grind)
  have bq2 := (rq.side (-64) repH').2 (by grind)
  obtain ⟨s, vs, rs, s1, s2⟩ := addR vp vq 128 (by grind) (by grind) (by decide +kernel)
  have bs1 := (rs.side 128 repM).1 (by grind)
  have bs2 := (rs.side (-128) repM').2 (by grind)
  obtain ⟨r, vr, rr, r1, r2⟩ := mulR vs one1_vl 128 (by grind) (by grind) (by decide +kernel)
  have br1 := (rr.side 128 repM).1 (by grind)
  have br2 := (rr.side (-128) repM').2 (by grind)
  unfold eH
  exact ⟨r, vr, ⟨br2, br1⟩, by grind, by grind⟩
/-- Coordinates by value: near exact ones. -/
def Hv (n : Nat) (X : Nat → FV) (x : Nat → Rat) (E : Rat) : Prop := ∀ i, i < n → ∃ r, Vl .f32 (X i) r ∧ (-128 ≤ r ∧ r ≤ 128) ∧ -E ≤ r - x i ∧ r - x i ≤ E
def hrowR (x : Nat → Rat) : Nat → Nat → Rat
  | 0 => x
  | k + 1 => fun i => (hrowR x k i + hrowR x k (i + 1)) / 2
def leftR (x : Nat → Rat) (k : Nat) : Rat := hrowR x k 0
def rightR (n : Nat) (x : Nat → Rat) (k : Nat) : Rat := hrowR x (n - 1 - k) k
theorem hrow_hv {n : Nat} {X : Nat → FV} {x : Nat → Rat} {E : Rat} (h : Hv n X x E) : ∀ (k i : Nat), i + k < n → ∃ r, Vl .f32 (hrowF X k i) r ∧ (-128 ≤ r ∧ r ≤ 128) ∧ -(E + k * eH) ≤ r - hrowR x k i ∧ r - hrowR x k i ≤ E + k * eH
  | 0, i, hi => by
    obtain ⟨r, vr, br, h1, h2⟩ := h i hi
    have e0 : ((0 : Nat) : Rat) = 0 := rfl
    exact ⟨r, vr, br, by show _ ≤ r - x i; rw [e0]; grind, by show r - x i ≤ _; rw [e0]; grind⟩
  | k + 1, i, hi => by
    obtain ⟨r, vr, br, h1, h2⟩ := hrow_hv h k i (by omega)
    obtain ⟨s, vs, bs, h3, h4⟩ := hrow_hv h k (i + 1) (by omega)
    obtain ⟨z, vz, bz, h5, h6⟩ := hbF_vl vr vs br bs
    have e1 : ((k + 1 : Nat) : Rat) = (k : Rat) + 1 := by rw [Rat.natCast_add]; rfl
    refine ⟨z, vz, bz, ?_, ?_⟩
    · show _ ≤ z - (hrowR x k i + hrowR x k (i + 1)) / 2
      rw [e1]
      grind
    · show z - (hrowR x k i + hrowR x k (i + 1)) / 2 ≤ _
      rw [e1]
      grind
theorem eH_pos : 0 ≤ eH := by unfold eH; decide +kernel
theorem Hv.row {n : Nat} {X : Nat → FV} {x : Nat → Rat} {E : Rat} (h : Hv n X x E) (hn : n ≤ 5) (k i : Nat) (hi : i + k < n) : ∃ r, Vl .f32 (hrowF X k i) r ∧ (-128 ≤ r ∧ r ≤ 128) ∧ -(E + 4 * eH) ≤ r - hrowR x k i ∧ r - hrowR x k i ≤ E + 4 * eH := by
  obtain ⟨r, vr, br, h1, h2⟩ := hrow_hv h k i hi
  have hk := k_le (show k ≤ 4 by omega)
  have e4 : ((4 : Nat) : Rat) = 4 := rfl
  have m := Rat.mul_le_mul_of_nonneg_right hk eH_pos
  exact ⟨r, vr, br, by grind, by grind⟩
def Ds (n : Nat) (x : Nat → Rat) (D : Rat) : Prop := ∀ i, i + 1 < n → -D ≤ x (i + 1) - x i ∧ x (i + 1) - x i ≤ D
theorem hrow_ds {n : Nat} {x : Nat → Rat} {D : Rat} (h : Ds n x D) : ∀ (k i : Nat), i + 1 + k < n → -D ≤ hrowR x k (i + 1) - hrowR x k i ∧ hrowR x k (i + 1) - hrowR x k i ≤ D
  | 0, i, hi => h i (by omega)
  | k + 1, i, hi => by
    have h1 := hrow_ds h k i (by omega)
    have h2 := hrow_ds h k (i + 1) (by omega)
    show -D ≤ (hrowR x k (i + 1) + hrowR x k (i + 1 + 1)) / 2 - (hrowR x k i + hrowR x k (i + 1)) / 2 ∧ (hrowR x k (i + 1) + hrowR x k (i + 1 + 1)) / 2 - (hrowR x k i + hrowR x k (i + 1)) / 2 ≤ D
    constructor <;> grind
theorem left_ds {n : Nat} {x : Nat → Rat} {D : Rat} (h : Ds n x D) : Ds n (leftR x) (D / 2) := fun k hk => by
  have h1 := hrow_ds h k 0 (by omega)
  show -(D / 2) ≤ (hrowR x k 0 + hrowR x k (0 + 1)) / 2 - hrowR x k 0 ∧ (hrowR x k 0 + hrowR x k (0 + 1)) / 2 - hrowR x k 0 ≤ D / 2
  constructor <;> grind
theorem right_ds {n : Nat} {x : Nat → Rat} {D : Rat} (h : Ds n x D) : Ds n (rightR n x) (D / 2) := fun k hk => by
  have h1 := hrow_ds h (n - 2 - k) k (by omega)
  unfold rightR
  rw [show n - 1 - (k + 1) = n - 2 - k by omega, show n - 1 - k = n - 2 - k + 1 by omega]
  show -(D / 2) ≤ hrowR x (n - 2 - k) (k + 1) - (hrowR x (n - 2 - k) k + hrowR x (n - 2 - k) (k + 1)) / 2 ∧ hrowR x (n - 2 - k) (k + 1) - (hrowR x (n - 2 - k) k + hrowR x (n - 2 - k) (k + 1)) / 2 ≤ D / 2
  constructor <;> grind
theorem ds_wide {n : Nat} {x : Nat → Rat} {D : Rat} (h : Ds n x D) (h0 : 0 ≤ D) : ∀ (k i : Nat), i + k < n → -((k : Rat) * D) ≤ x (i + k) - x i ∧ x (i + k) - x i ≤ (k : Rat) * D
  | 0, i, _ => by
    have e0 : ((0 : Nat) : Rat) = 0 := rfl
    rw [e0]
    show -(0 * D) ≤ x i - x i ∧ x i - x i ≤ 0 * D
    constructor <;> grind
  | k + 1, i, hi => by
    have h1 := ds_wide h h0 k i (by omega)
    have h2 := h (i + k) (by omega)
    have e1 : ((k + 1 : Nat) : Rat) = (k : Rat) + 1 := by rw [Rat.natCast_add]; rfl
    rw [e1, show i + (k + 1) = i + k + 1 by omega]
    constructor <;> grind
theorem Ds.far {n : Nat} {x : Nat → Rat} {D : Rat} (h : Ds n x D) (h0 : 0 ≤ D) (hn : n ≤ 5) (i j : Nat) (hi : i < n) (hj : j < n) : -(4 * D) ≤ x i - x j ∧ x i - x j ≤ 4 * D := by
  have e4 : ((4 : Nat) : Rat) = 4 := rfl
  rcases Nat.le_total i j with h1 | h1
  · have h2 := ds_wide h h0 (j - i) i (by omega)
    have hk := k_le (show j - i ≤ 4 by omega)
    have m := Rat.mul_le_mul_of_nonneg_right hk h0
    rw [show i + (j - i) = j by omega] at h2
    constructor <;> grind
  · have h2 := ds_wide h h0 (i - j) j (by omega)
    have hk := k_le (show i - j ≤ 4 by omega)
    have m := Rat.mul_le_mul_of_nonneg_right hk h0
    rw [show j + (i - j) = i by omega] at h2
    constructor <;> grind
def Bz (n : Nat) (x : Nat → Rat) (s : Rat) : Rat := sumR (fun i => bern s (n - 1) (i : Int) * x i) n
theorem bz_left {n : Nat} (hn : 2 ≤ n ∧ n ≤ 5) (x : Nat → Rat) (s : Rat) : Bz n (leftR x) s = Bz n x (s / 2) := by
  obtain rfl | rfl | rfl | rfl : n = 2 ∨ n = 3 ∨ n = 4 ∨ n = 5 := by omega
  all_goals
    simp [Bz, sumR, bern, leftR, hrowR]
    try grind
theorem bz_right {n : Nat} (hn : 2 ≤ n ∧ n ≤ 5) (x : Nat → Rat) (s : Rat) : Bz n (rightR n x) s = Bz n x ((1 + s) / 2) := by
  obtain rfl | rfl | rfl | rfl : n = 2 ∨ n = 3 ∨ n = 4 ∨ n = 5 := by omega
  all_goals
    simp [Bz, sumR, bern, rightR, hrowR]
    try grind
theorem bz_mid {n : Nat} (hn : 2 ≤ n ∧ n ≤ 5) (x : Nat → Rat) {c W : Rat} (h : ∀ i, i < n → -W ≤ x i - c ∧ x i - c ≤ W) : -W ≤ Bz n x (1 / 2) - c ∧ Bz n x (1 / 2) - c ≤ W := by
  obtain rfl | rfl | rfl | rfl : n = 2 ∨ n = 3 ∨ n = 4 ∨ n = 5 := by omega
  · have h0 := h 0 (by omega); have h1 := h 1 (by omega)
    have e : Bz 2 x (1 / 2) = (x 0 + x 1) / 2 := by simp [Bz, sumR, bern]; try grind
    rw [e]; constructor <;> grind
  · have h0 := h 0 (by omega); have h1 := h 1 (by omega); have h2 := h 2 (by omega)
    have e : Bz 3 x (1 / 2) = (x 0 + 2 * x 1 + x 2) / 4 := by simp [Bz, sumR, bern]; try grind
    rw [e]; constructor <;> grind
  · have h0 := h 0 (by omega); have h1 := h 1 (by omega); have h2 := h 2 (by omega); have h3 := h 3 (by omega)
    have e : Bz 4 x (1 / 2) = (x 0 + 3 * x 1 + 3 * x 2 + x 3) / 8 := by simp [Bz, sumR, bern]; try grind
    rw [e]; constructor <;> grind
  · have h0 := h 0 (by omega); have h1 := h 1 (by omega); have h2 := h 2 (by omega); have h3 := h 3 (by omega); have h4 := h 4 (by omega)
    have e : Bz 5 x (1 / 2) = (x 0 + 4 * x 1 + 6 * x 2 + 4 * x 3 + x 4) / 16 := by simp [Bz, sumR, bern]; try grind
    rw [e]; constructor <;> grind
end Go.Ab
namespace Go.Ab
theorem allLt_no {p : Nat → Bool} : ∀ {n : Nat}, allLt p n = false → ∃ m, m < n ∧ p m = false
  | 0, h => by cases h
  | n + 1, h => by
    simp only [allLt, Bool.and_eq_false_iff] at h
    rcases h with h | h
    · exact ⟨n, by omega, h⟩
    · obtain ⟨m, hm, hp⟩ := allLt_no h
      exact ⟨m, by omega, hp⟩
def crossM (p q : CV) : FV := fbin .sub .f32 (fbin .mul .f32 p.1 q.2) (fbin .mul .f32 p.2 q.1)
def pos0 (x : FV) : Bool := cmpB .gtr (fcmp .f32 x (fv .f32 0))
def neg0 (x : FV) : Bool := cmpB .lss (fcmp .f32 x (fv .f32 0))
def sideC (d a z : CV) : FV := crossM d (subC2 z a)
def sideB (n : Nat) (d a : CV) (P : Nat → CV) : Bool := allLt (fun k => pos0 (sideC d a (P k))) n || allLt (fun k => neg0 (sideC d a (P k))) n
def addL (i : Nat) (L : List Nat) : Option (List Nat) := match L.getLast? with
  | none => some (L ++ [i])
  | some l => match decide (i ≤ l + 2) with
    | true => some L
    | false => match decide (L.length < 24) with
      | true => some (L ++ [i])
      | false => none
def lineR (n : Nat) (d a : CV) : Nat → Nat → (Nat → CV) → List Nat → Option (List Nat)
  | 0, i, P, L => match sideB n d a P with
    | true => some L
    | false => addL i L
  | r + 1, i, P, L => match sideB n d a P with
    | true => some L
    | false => match lineR n d a r (2 * i) (leftP P) L with
      | none => none
      | some L' => lineR n d a r (2 * i + 1) (rightP n P) L'
/-- What stands of the indexes told so far. -/
structure LinP (G : Nat → Prop) (b : Nat) (L : List Nat) : Prop where
  inc : L.Pairwise (· < ·)
  lt : ∀ x ∈ L, x < b
  g : ∀ x ∈ L, G x
  len : L.length ≤ 24
theorem addL_ok {G : Nat → Prop} {i : Nat} {L L' : List Nat} (h : LinP G i L) (hG : G i) (hL : addL i L = some L') : LinP G (i + 1) L' := by
  unfold addL at hL
  have old : LinP G (i + 1) L := ⟨h.inc, fun x hx => Nat.lt_succ_of_lt (h.lt x hx), h.g, h.len⟩
  have new : L.length < 24 → LinP G (i + 1) (L ++ [i]) := fun hl => by
    refine ⟨List.pairwise_append.2 ⟨h.inc, List.pairwise_singleton _ _, fun x hx y hy => ?_⟩, fun x hx => ?_, fun x hx => ?_, by simp; omega⟩
    · rw [List.mem_singleton] at hy; subst hy; exact h.lt x hx
    · rcases List.mem_append.1 hx with hx | hx
      · have := h.lt x hx; omega
      · rw [List.mem_singleton] at hx; omega
    · rcases List.mem_append.1 hx with hx | hx
      · exact h.g x hx
      · rw [List.mem_singleton] at hx; subst hx; exact hG
  split at hL
  · rename_i hn
    have : L = [] := by simpa using hn
    subst this
    cases hL
    exact new (by simp)
  · split at hL
    · cases hL; exact old
    · split at hL
      · rename_i hd
        cases hL
        exact new (of_decide_eq_true hd)
      · cases hL
theorem lineR_ok {n : Nat} {d a : CV} {G : Nat → Prop} {Inv : Nat → Nat → (Nat → CV) → Prop} (hI : ∀ r i P, Inv (r + 1) i P → Inv r (2 * i) (leftP P) ∧ Inv r (2 * i + 1) (rightP n P)) (hG : ∀ i P, Inv 0 i P → sideB n d a P = false → G i) :
    ∀ (r i : Nat) (P : Nat → CV) (L L' : List Nat), Inv r i P → LinP G (i * 2 ^ r) L → lineR n d a r i P L = some L' → LinP G ((i + 1) * 2 ^ r) L'
  | 0, i, P, L, L', hi, hL, h => by
    rw [show i * 2 ^ 0 = i by omega] at hL
    rw [show (i + 1) * 2 ^ 0 = i + 1 by omega]
    unfold lineR at h
    cases hs : sideB n d a P <;> rw [hs] at h <;> dsimp only at h
    · exact addL_ok hL (hG i P hi hs) h
    · cases h
      exact ⟨hL.inc, fun x hx => Nat.lt_succ_of_lt (hL.lt x hx), hL.g, hL.len⟩
  | r + 1, i, P, L, L', hi, hL, h => by
    unfold lineR at h
    have e : i * 2 ^ (r + 1) = 2 * i * 2 ^ r := by rw [Nat.pow_succ, Nat.mul_comm (2 ^ r) 2, ← Nat.mul_assoc, Nat.mul_comm i 2]
    have e2 : (i + 1) * 2 ^ (r + 1) = (2 * i + 1 + 1) * 2 ^ r := by rw [Nat.pow_succ, Nat.mul_comm (2 ^ r) 2, ← Nat.mul_assoc, show 2 * i + 1 + 1 = (i + 1) * 2 by omega]
    cases hs : sideB n d a P <;> rw [hs] at h <;> dsimp only at h
    · obtain ⟨h1, h2⟩ := hI r i P hi
      cases hl : lineR n d a r (2 * i) (leftP P) L with
      | none => rw [hl] at h; cases h
      | some L1 =>
        rw [hl] at h
        dsimp only at h
        have s1 := lineR_ok hI hG r (2 * i) (leftP P) L L1 h1 (by rw [← e]; exact hL) hl
        have s2 := lineR_ok hI hG r (2 * i + 1) (rightP n P) L1 L' h2 s1 h
        rw [e2]
        exact s2
    · cases h
      have : i * 2 ^ (r + 1) ≤ (i + 1) * 2 ^ (r + 1) := Nat.mul_le_mul_right _ (by omega)
      exact ⟨hL.inc, fun x hx => Nat.lt_of_lt_of_le (hL.lt x hx) this, hL.g, hL.len⟩
def loF (X : Nat → FV) : Nat → FV
  | 0 => X 0
  | k + 1 => match cmpB .lss (fcmp .f32 (X k) (loF X k)) with
    | true => X k
    | false => loF X k
def hiF (X : Nat → FV) : Nat → FV
  | 0 => X 0
  | k + 1 => match cmpB .gtr (fcmp .f32 (X k) (hiF X k)) with
    | true => X k
    | false => hiF X k
def lssF (x y : FV) : Bool := cmpB .lss (fcmp .f32 x y)
def cx1 (P : Nat → CV) (k : Nat) : FV := (P k).1
def cx2 (P : Nat → CV) (k : Nat) : FV := (P k).2
def touchB (np nq : Nat) (P Q : Nat → CV) : Bool := !(lssF (hiF (cx1 P) np) (loF (cx1 Q) nq) || lssF (hiF (cx1 Q) nq) (loF (cx1 P) np) || lssF (hiF (cx2 P) np) (loF (cx2 Q) nq) || lssF (hiF (cx2 Q) nq) (loF (cx2 P) np))
def nearB (i k : Nat × Nat) : Bool := decide (i.1 ≤ k.1 + 4) && decide (k.1 ≤ i.1 + 4) && decide (i.2 ≤ k.2 + 4) && decide (k.2 ≤ i.2 + 4)
abbrev Mst := Nat × List (Nat × Nat)
def addM (i : Nat × Nat) (c : Nat) (L : List (Nat × Nat)) : Option Mst := match L.any (nearB i) with
  | true => some (c, L)
  | false => match decide (L.length < 24) with
    | true => some (c, L ++ [i])
    | false => none
def meetR (np nq : Nat) : Nat → Nat → Nat → Nat → Nat → (Nat → CV) → (Nat → CV) → Mst → Option Mst
  | 0, _, _, ip, iq, P, Q, s => match decide (s.1 < 20000) with
    | false => none
    | true => match touchB np nq P Q with
      | false => some (s.1 + 1, s.2)
      | true => addM (ip, iq) (s.1 + 1) s.2
  | m + 1, rp, rq, ip, iq, P, Q, s => match decide (s.1 < 20000) with
    | false => none
    | true => match touchB np nq P Q with
      | false => some (s.1 + 1, s.2)
      | true => match decide (rq ≤ rp) with
        | true => match meetR np nq m (rp - 1) rq (2 * ip) iq (leftP P) Q (s.1 + 1, s.2) with
          | none => none
          | some s' => meetR np nq m (rp - 1) rq (2 * ip + 1) iq (rightP np P) Q s'
        | false => match meetR np nq m rp (rq - 1) ip (2 * iq) P (leftP Q) (s.1 + 1, s.2) with
          | none => none
          | some s' => meetR np nq m rp (rq - 1) ip (2 * iq + 1) P (rightP nq Q) s'
/-- What stands of the meets told so far. -/
structure MetP (G : Nat × Nat → Prop) (s : Mst) : Prop where
  g : ∀ x ∈ s.2, G x
  len : s.2.length ≤ 24
  c : s.1 ≤ 20000
theorem addM_ok {G : Nat × Nat → Prop} {i : Nat × Nat} {c : Nat} {L : List (Nat × Nat)} {s' : Mst} (h : MetP G (c, L)) (hG : G i) (hs : addM i c L = some s') : MetP G s' := by
  unfold addM at hs
  split at hs
  · cases hs; exact h
  · split at hs
    · rename_i hd
      cases hs
      refine ⟨fun x hx => ?_, ?_, h.c⟩
      · rcases List.mem_append.1 hx with hx | hx
        · exact h.g x hx
        · rw [List.mem_singleton] at hx; subst hx; exact hG
      · have := of_decide_eq_true hd
        simp
        omega
    · cases hs
theorem meetR_ok {np nq : Nat} {G : Nat × Nat → Prop} {IP IQ : Nat → Nat → (Nat → CV) → Prop} (hP : ∀ r i P, IP (r + 1) i P → IP r (2 * i) (leftP P) ∧ IP r (2 * i + 1) (rightP np P)) (hQ : ∀ r i Q, IQ (r + 1) i Q → IQ r (2 * i) (leftP Q) ∧ IQ r (2 * i + 1) (rightP nq Q))
    (hG : ∀ ip iq P Q, IP 0 ip P → IQ 0 iq Q → touchB np nq P Q = true → G (ip, iq)) :
    ∀ (m rp rq ip iq : Nat) (P Q : Nat → CV) (s s' : Mst), m = rp + rq → IP rp ip P → IQ rq iq Q → MetP G s → meetR np nq m rp rq ip iq P Q s = some s' → MetP G s'
  | 0, rp, rq, ip, iq, P, Q, s, s', hm, h1, h2, hs, h => by
    obtain rfl : rp = 0 := by omega
    obtain rfl : rq = 0 := by omega
    unfold meetR at h
    split at h
    · cases h
    · rename_i hd
      have hd := of_decide_eq_true hd
      split at h
      · cases h; exact ⟨hs.g, hs.len, by simp only; omega⟩
      · rename_i ht
        exact addM_ok (c := s.1 + 1) (L := s.2) ⟨hs.g, hs.len, by simp only; omega⟩ (hG _ _ _ _ h1 h2 ht) h
  | m + 1, rp, rq, ip, iq, P, Q, s, s', hm, h1, h2, hs, h => by
    unfold meetR at h
    split at h
    · cases h
    · rename_i hd
      have hd := of_decide_eq_true hd
      have hs1 : MetP G (s.1 + 1, s.2) := ⟨hs.g, hs.len, by simp only; omega⟩
      split at h
      · cases h; exact hs1
      · split at h
        · rename_i hle
          have hle := of_decide_eq_true hle
          obtain ⟨k, rfl⟩ : ∃ k, rp = k + 1 := ⟨rp - 1, by omega⟩
          rw [show k + 1 - 1 = k by omega] at h
          obtain ⟨p1, p2⟩ := hP _ _ _ h1
          split at h
          · cases h
          · rename_i s1 he
            exact meetR_ok hP hQ hG m k rq _ _ _ _ _ _ (by omega) p2 h2 (meetR_ok hP hQ hG m k rq _ _ _ _ _ _ (by omega) p1 h2 hs1 he) h
        · rename_i hle
          have hle := of_decide_eq_false hle
          obtain ⟨k, rfl⟩ : ∃ k, rq = k + 1 := ⟨rq - 1, by omega⟩
          rw [show k + 1 - 1 = k by omega] at h
          obtain ⟨q1, q2⟩ := hQ _ _ _ h2
          split at h
          · cases h
          · rename_i s1 he
            exact meetR_ok hP hQ hG m rp k _ _ _ _ _ _ (by omega) h1 q2 (meetR_ok hP hQ hG m rp k _ _ _ _ _ _ (by omega) h1 q1 hs1 he) h
end Go.Ab
namespace Go.Ab
open Go.Proofs
variable {R : World → Prop} [RStab R]
abbrev ptOc (a b n ca cb : Nat) (lo hi : FV) : AV := .agg [.raw (.slice (some ⟨a, 0, none⟩) n ca), .raw (.slice (some ⟨b, 0, none⟩) n cb), .f .f32 lo, .f .f32 hi]
abbrev partA (w : World) (n : Nat) (P : Nat → CV) (lo hi : FV) : AV := .agg [slC w (tabC n P), AV.sl w 1 ((tab n oneF).map (AV.f .f32)), .f .f32 lo, .f .f32 hi]
section
variable {args : List AV} {A' : World → List AV} {w0 : World} {gs : List Nat} {H : List Ent}
theorem Takes.ptOc {R0 : World → Prop} {n a b ca cb : Nat} {P : Nat → CV} {lo hi : FV} {T : TypeId} (ha : entC a n P ca ∈ H) (hb : entF b T n oneF cb ∈ H) (h1 : n ≤ ca ∧ ca ≤ maxLen) (h2 : n ≤ cb ∧ cb ≤ maxLen) (h : Takes (StR R0 w0 gs H) args A') : Takes (StR R0 w0 gs H) (Go.Ab.ptOc a b n ca cb lo hi :: args) (fun w => partA w n P lo hi :: A' w) := fun w vs hS hr => by
  obtain ⟨v, r, rfl, hv, hrr⟩ := hr.inv_cons
  obtain ⟨us, rfl, hu⟩ := hv.inv_agg
  obtain ⟨x, r1, rfl, hx, hu⟩ := hu.inv_cons
  obtain ⟨y, r2, rfl, hy, hu⟩ := hu.inv_cons
  exact .cons (.agg (.cons (.q (rd_ownC hS hx ha (Nat.le_refl _) h1)) (.cons (.q (rd_own hS hy hb (Nat.le_refl _) h2)) hu))) (h w r hS hrr)
theorem Takes.part {R0 : World → Prop} {n : Nat} {P : Nat → CV} {lo hi : FV} (h : Takes (StR R0 w0 [] H) args A') : Takes (StR R0 w0 [] H) (partA w0 n P lo hi :: args) (fun w => partA w n P lo hi :: A' w) := fun w vs hS hr => by
  obtain ⟨v, r, rfl, hv, hrr⟩ := hr.inv_cons
  obtain ⟨us, rfl, hu⟩ := hv.inv_agg
  obtain ⟨x, r1, rfl, hx, hu⟩ := hu.inv_cons
  obtain ⟨y, r2, rfl, hy, hu⟩ := hu.inv_cons
  exact .cons (.agg (.cons (.q (hS.rd hx.inv_q)) (.cons (.q (hS.rd hy.inv_q)) hu))) (h w r hS hrr)
end
class PtB (P : Program) (t : TypeId) : Prop where
  b3 : ∀ (w : World) (a b : Option Addr) (n c n' c' x y : Nat), (Instr.build t #[(0, .agg #[.slice a n c, .slice b n' c']), (1, .float .f32 x), (2, .float .f32 y)]).run P w = .ok (.agg #[.slice a n c, .slice b n' c', .float .f32 x, .float .f32 y]) w
instance ptBi : PtB Try.prog 62 := ⟨fun w a b n c n' c' x y => by kernel_rfl⟩
section
variable {P : Program} {S : World → Prop} {e : Env} {dst : Option Tmp} {ty : TypeId} {pos : String} {after : Array Edge} {guard : Option (Nat × Bool)} {t : TypeId}
theorem opj_buildP [hf : PtB P t] {X Y Z : Operand} {a b : Option Addr} {n c n' c' : Nat} {x y : FV} (hx : e.ev X = some (.agg [.raw (.slice a n c), .raw (.slice b n' c')])) (hy : e.ev Y = some (.f .f32 x)) (hz : e.ev Z = some (.f .f32 y)) :
    OpJ P S e ⟨dst, .build t #[(0, X), (1, Y), (2, Z)], ty, pos, after, guard⟩ (.agg [.raw (.slice a n c), .raw (.slice b n' c'), .f .f32 x, .f .f32 y]) :=
  opj_value fun ac w _ h => by
    obtain ⟨vs, h1, hr⟩ := (h X (by simp [Op.operands]) _ hx).inv_agg
    obtain ⟨u1, r1, rfl, hu1, hr⟩ := hr.inv_cons
    obtain ⟨u2, r2, rfl, hu2, hr⟩ := hr.inv_cons
    obtain rfl := hr.inv_nil
    obtain rfl := hu1.inv_raw
    obtain rfl := hu2.inv_raw
    have hy' := h Y (by simp [Op.operands]) _ hy
    have hz' := h Z (by simp [Op.operands]) _ hz
    obtain ⟨p, h2, e2, l2⟩ := hy'.inv_f
    obtain ⟨q, h3, e3, l3⟩ := hz'.inv_f
    refine ⟨.agg #[.slice a n c, .slice b n' c', .float .f32 p, .float .f32 q], w, ?_, Ext.refl _, .agg (vs := [_, _, _, _]) (.cons .raw (.cons .raw (.cons ?_ (.cons ?_ .nil))))⟩
    · simp only [execOp, List.map_toArray, List.map_cons, List.map_nil, h1, h2, h3, Sem.run_bind, hf.b3, Result.andThen_ok]
      rfl
    · rw [← h2]; exact hy'.any rfl
    · rw [← h3]; exact hz'.any rfl
end
attribute [local irreducible] WS RS Done OpJ Then InBlock Round Ret Env.sub FnH
attribute [local irreducible] tab tabC
theorem cutCurve_fn {n : Nat} {P : Nat → CV} (hn : 2 ≤ n ∧ n ≤ 8) (hP : (tabC n P).all finC = true) (hL : (tabC n (leftP P)).all finC = true) (hR : (tabC n (rightP n P)).all finC = true) :
    FnH (X := Ct) Try.prog 48 (fun w => [crvA w n P oneF, .f .f32 hfT]) []
      (fun y => .tup [crvOc y.a y.b n y.ca y.cb, crvOc y.a2 y.b2 n y.ca2 y.cb2, .raw (.bool true)]) (fun y => [entF y.b2 31 n oneF y.cb2, entC y.a2 n (rightP n P) y.ca2, entC y.a n (leftP P) y.ca, entF y.b 31 n oneF y.cb]) (fun y => ((n ≤ y.ca ∧ y.ca ≤ maxLen) ∧ n ≤ y.cb ∧ y.cb ≤ maxLen) ∧ (n ≤ y.ca2 ∧ y.ca2 ≤ maxLen) ∧ n ≤ y.cb2 ∧ y.cb2 ≤ maxLen) := by
  have hV : Fn Try.prog 25 (fun w => [crvA w n P oneF]) (.raw (.bool true)) := validCurve_yes hn hP (wts_one n).above
  have hVL : Fn Try.prog 25 (fun w => [crvA w n (leftP P) oneF]) (.raw (.bool true)) := validCurve_yes hn hL (wts_one n).above
  have hVR : Fn Try.prog 25 (fun w => [crvA w n (rightP n P) oneF]) (.raw (.bool true)) := validCurve_yes hn hR (wts_one n).above
  have hT := isTime_yes hfT_vl (by constructor <;> grind)
  have hC := cut_fn (n := n) (P := P) hn
  refine fn_intro Try.func48 rfl Try.ntmps48 (fun _ => Nat.le_of_ble_eq_true rfl) fun w0 => ?_
  repeat first | refine zai rfl rfl ?_ | refine zaa rfl (zay rfl) ?_ | refine zaa rfl (zaz rfl) ?_ | (refine zad ?_; (refine zaa rfl (zci rfl rfl (hT) ?_) ?_; (focus ((repeat (first | exact Takes.nil | refine Takes.sl ?_ | refine Takes.lit ?_ | refine Takes.fa ?_ | refine Takes.fc ?_ | refine Takes.net ?_ | (refine Takes.ownE ?_ ?_ ?_ ?_ ?_; (focus (exact ⟨_, _, (by (repeat (first | exact mh | refine mt ?_)); done)⟩)); (focus (simp; done)); (focus omega); (focus (simp only [maxLen]; omega))) | refine Takes.same ?_)); done)))) | (refine zae ?_; refine zaa rfl (zcg rfl rfl (by (repeat (first | exact mh | refine mt ?_)); done) rfl rfl) ?_) | refine zaa rfl (zcb rfl rfl) ?_ | refine zaa rfl (zcc rfl) ?_ | refine zah ?_ | (refine zcr ?_; refine zcs ?_) | (refine zdb ?_; first | refine zdc ?_ | refine zdd ?_ | refine zdf ?_ | refine zdj rfl ?_) | (refine zak rfl rfl rfl ?_; intro g) | (refine zal rfl rfl ?_; intro g) | refine zaa rfl (zci rfl rfl hV (Takes.crv Takes.nil)) ?_
  refine rs_callM3 hC rfl rfl (Takes.crv (Takes.same Takes.nil)) rfl ?_
  rintro ⟨k, a, b, ca, cb, a2, b2, ca2, cb2, ra, rb, rca, rcb⟩ ⟨⟨h1, h2⟩, h3, h4⟩
  dsimp only at h1 h2 h3 h4 ⊢
  repeat first | refine zaa rfl (zay rfl) ?_ | (refine zae ?_; refine zaa rfl (zcg rfl rfl (by (repeat (first | exact mh | refine mt ?_)); done) rfl rfl) ?_) | refine zaa rfl (zbz rfl rfl) ?_ | refine zah ?_ | (refine zcr ?_; refine zcs ?_) | (refine zdb ?_; first | refine zdc ?_ | refine zdd ?_) | (refine zal rfl rfl ?_; intro g) | (refine zag ?_; first | refine zan 0 rfl rfl rfl rfl rfl rfl rfl rfl rfl ?_ | refine zan 1 rfl rfl rfl rfl rfl rfl rfl rfl rfl ?_)
  repeat first | refine zai rfl rfl ?_ | refine zaa rfl (zay rfl) ?_ | (refine zae ?_; refine zaa rfl (zcg rfl rfl (by (repeat (first | exact mh | refine mt ?_)); done) rfl rfl) ?_) | refine zaa rfl (zcb rfl rfl) ?_ | refine zaa rfl (zcc rfl) ?_ | refine zah ?_ | (refine zcr ?_; refine zcs ?_) | (refine zdb ?_; first | refine zdc ?_ | refine zdf ?_ | refine zdj rfl ?_) | refine zaa rfl (zci rfl rfl hVL (Takes.crvOc (mt (mt (mt (mt mh)))) (mt (mt (mt (mt (mt mh))))) h1 h2 Takes.nil)) ?_ | refine zaa rfl (zci rfl rfl hVR (Takes.crvOc (mt (mt (mt mh))) (mt (mt mh)) h3 h4 Takes.nil)) ?_
  rename_i g2 g4 g5 g7
  obtain ⟨g8, hg8⟩ : ∃ x, x = g := ⟨g, rfl⟩
  subst hg8
  refine WS.weak (e' := [(4, .raw (.pointer (some ⟨g4, 0, none⟩))), (5, .raw (.pointer (some ⟨g5, 0, none⟩))), (7, .raw (.pointer (some ⟨g7, 0, none⟩))), (8, .raw (.pointer (some ⟨g8, 0, none⟩)))]) (S' := St w0 [] [⟨g4, 27, [.raw (.slice none 0 0), .raw (.slice none 0 0)], 2⟩, ⟨g5, 27, [.raw (.slice none 0 0), .raw (.slice none 0 0)], 2⟩, ⟨g7, 27, [.raw (.slice (some ⟨a, 0, none⟩) n ca), .raw (.slice (some ⟨b, 0, none⟩) n cb)], 2⟩, ⟨g8, 27, [.raw (.slice (some ⟨a2, 0, none⟩) n ca2), .raw (.slice (some ⟨b2, 0, none⟩) n cb2)], 2⟩, entF b2 31 n oneF cb2, entC a2 n (rightP n P) ca2, entC a n (leftP P) ca, entF b 31 n oneF cb]) ?_ (by (repeat (first | exact Env.sub_nil _ | refine Env.sub_cons rfl ?_))) (fun w h => h.sel [7, 6, 1, 0, 2, 3, 4, 5] (by decide) rfl)
  refine ws_drawP (ix := [0, 1]) (W := St w0 [] [⟨g7, 27, [.raw (.slice (some ⟨a, 0, none⟩) n ca), .raw (.slice (some ⟨b, 0, none⟩) n cb)], 2⟩, ⟨g8, 27, [.raw (.slice (some ⟨a2, 0, none⟩) n ca2), .raw (.slice (some ⟨b2, 0, none⟩) n cb2)], 2⟩]) mixed (by decide +kernel) (fun _ h => h.sel [2, 3] (by decide) rfl) ?_
  repeat first | (refine zat ?_; refine zap rfl (zcg rfl rfl (by (repeat (first | exact mh | refine mt ?_)); done) rfl rfl) ?_) | refine zav ?_
  refine ⟨rfl, ?_⟩
  refine gp_name fun o ho Q' hQ => ?_
  have q2 := op_at (i := 2) ho rfl
  have q3 := op_at (i := 3) ho rfl
  have q4 := op_at (i := 4) ho rfl
  refine gp_step [2] (by rw [ho]; decide +kernel) fun x hx => ?_
  obtain rfl : x = 2 := by simpa using hx
  refine sp_eff q2 (by rw [ho]; decide +kernel) (effj_storeAX 0 rfl rfl rfl rfl rfl rfl rfl rfl rfl) (cont_go (fun _ h => h.sel [2, 3] (by decide) rfl) ?_)
  refine gp_step [3] (by rw [ho]; decide +kernel) fun x hx => ?_
  obtain rfl : x = 3 := by simpa using hx
  refine sp_eff q3 (by rw [ho]; decide +kernel) (effj_storeAX 1 rfl rfl rfl rfl rfl rfl rfl rfl rfl) (cont_set (by rw [ho]; decide +kernel) rfl ?_)
  refine gp_step [4] (by rw [ho]; decide +kernel) fun x hx => ?_
  obtain rfl : x = 4 := by simpa using hx
  refine sp_op q4 (by rw [ho]; decide +kernel) rfl (zaz rfl) rfl (cont_set rfl rfl ?_)
  refine gp_end (by rw [ho]; decide +kernel) ?_
  rw [hQ]
  repeat first | (refine zcr ?_; refine zcs ?_) | (refine zdb ?_; refine zdg ?_)
  exact done_retXXT rfl rfl (⟨k, a, b, ca, cb, a2, b2, ca2, cb2, ra, rb, rca, rcb⟩ : Ct) rfl rfl rfl mh (mt mh) rfl rfl rfl rfl rfl ⟨⟨h1, h2⟩, h3, h4⟩ (.cons _ (.cons _ (.cons _ (.cons _ (List.Sublist.refl _)))))
theorem long_fn {n : Nat} {P : Nat → CV} {lo hi : FV} : Fn Try.prog 32 (fun w => [partA w n P lo hi]) (.f .f32 (fbin .sub .f32 hi lo)) := by
  refine fn_intro Try.func32 rfl Try.ntmps32 (fun _ => Nat.le_of_ble_eq_true rfl) fun w0 => ?_
  repeat first | refine zaa rfl (zaz rfl) ?_ | (refine zac ?_; refine zaa rfl (zba rfl rfl rfl) ?_) | (refine zae ?_; refine zaa rfl (zcf rfl rfl (by (repeat (first | exact mh | refine mt ?_)); done) rfl) ?_) | refine zaa rfl (zcd rfl) ?_ | refine zah ?_ | (refine zcr ?_; refine zcs ?_) | (refine zdb ?_; first | refine zdc ?_ | refine zdd ?_ | refine zdg ?_) | (refine zak rfl rfl rfl ?_; intro g)
  exact done_ret1 rfl () rfl trivial (List.nil_sublist _)
theorem middle_fn {n : Nat} {P : Nat → CV} {lo hi : FV} : Fn Try.prog 33 (fun w => [partA w n P lo hi]) (.f .f32 (fbin .quo .f32 (fbin .add .f32 lo hi) (fv .f32 1073741824))) := by
  refine fn_intro Try.func33 rfl Try.ntmps33 (fun _ => Nat.le_of_ble_eq_true rfl) fun w0 => ?_
  repeat first | refine zaa rfl (zaz rfl) ?_ | (refine zac ?_; refine zaa rfl (zba rfl rfl rfl) ?_) | (refine zae ?_; refine zaa rfl (zcf rfl rfl (by (repeat (first | exact mh | refine mt ?_)); done) rfl) ?_) | refine zaa rfl (zcd rfl) ?_ | refine zah ?_ | (refine zcr ?_; refine zcs ?_) | (refine zdb ?_; first | refine zdc ?_ | refine zdd ?_ | refine zdg ?_) | (refine zak rfl rfl rfl ?_; intro g)
  exact done_ret1 rfl () rfl trivial (List.nil_sublist _)
theorem whole_fn (a b n ca cb : Nat) : Fn Try.prog 36 (fun _ => [crvOc a b n ca cb]) (ptOc a b n ca cb (fv .f32 0) one1) := by
  refine fn_intro Try.func36 rfl Try.ntmps36 (fun _ => Nat.le_of_ble_eq_true rfl) fun w0 => ?_
  repeat first | (refine zae ?_; refine zaa rfl (zcg rfl rfl (by (repeat (first | exact mh | refine mt ?_)); done) rfl rfl) ?_) | refine zah ?_ | (refine zcr ?_; refine zcs ?_) | (refine zdb ?_; first | refine zdc ?_ | refine zdd ?_ | refine zdg ?_) | (refine zak rfl rfl rfl ?_; intro g) | (refine zal rfl rfl ?_; intro g) | (refine zag ?_; refine zan 0 rfl rfl rfl rfl rfl rfl rfl rfl rfl ?_) | refine zaa rfl (opj_buildP rfl rfl rfl) ?_
  exact done_retX rfl rfl () rfl mh rfl rfl rfl trivial (List.nil_sublist _)
theorem halves_fn {n : Nat} {P : Nat → CV} {lo hi : FV} (hn : 2 ≤ n ∧ n ≤ 8) (hP : (tabC n P).all finC = true) (hL : (tabC n (leftP P)).all finC = true) (hR : (tabC n (rightP n P)).all finC = true) :
    FnH (X := Ct) Try.prog 35 (fun w => [partA w n P lo hi]) []
      (fun y => .tup [ptOc y.a y.b n y.ca y.cb lo (fbin .quo .f32 (fbin .add .f32 lo hi) (fv .f32 1073741824)), ptOc y.a2 y.b2 n y.ca2 y.cb2 (fbin .quo .f32 (fbin .add .f32 lo hi) (fv .f32 1073741824)) hi, .raw (.bool true)]) (fun y => [entF y.b2 31 n oneF y.cb2, entC y.a2 n (rightP n P) y.ca2, entC y.a n (leftP P) y.ca, entF y.b 31 n oneF y.cb]) (fun y => ((n ≤ y.ca ∧ y.ca ≤ maxLen) ∧ n ≤ y.cb ∧ y.cb ≤ maxLen) ∧ (n ≤ y.ca2 ∧ y.ca2 ≤ maxLen) ∧ n ≤ y.cb2 ∧ y.cb2 ≤ maxLen) := by
  have hC := cutCurve_fn (n := n) (P := P) hn hP hL hR
  have hM := middle_fn (n := n) (P := P) (lo := lo) (hi := hi)
  obtain ⟨mi, hmi⟩ : ∃ mi, mi = fbin .quo .f32 (fbin .add .f32 lo hi) (fv .f32 1073741824) := ⟨_, rfl⟩
  rw [← hmi] at hM ⊢
  clear hmi
  refine fn_intro Try.func35 rfl Try.ntmps35 (fun _ => Nat.le_of_ble_eq_true rfl) fun w0 => ?_
  repeat first | refine zaa rfl (zaz rfl) ?_ | (refine zae ?_; refine zaa rfl (zcg rfl rfl (by (repeat (first | exact mh | refine mt ?_)); done) rfl rfl) ?_) | refine zaa rfl (zcd rfl) ?_ | refine zah ?_ | (refine zcr ?_; refine zcs ?_) | (refine zdb ?_; first | refine zdc ?_ | refine zdd ?_) | (refine zak rfl rfl rfl ?_; intro g) | (refine zal rfl rfl ?_; intro g)
  refine rs_callM3 hC rfl rfl (Takes.crv (Takes.same Takes.nil)) rfl ?_
  rintro ⟨k, a, b, ca, cb, a2, b2, ca2, cb2, ra, rb, rca, rcb⟩ ⟨⟨h1, h2⟩, h3, h4⟩
  dsimp only at h1 h2 h3 h4 ⊢
  repeat first | refine zaa rfl (zay rfl) ?_ | refine zaa rfl (zaz rfl) ?_ | (refine zae ?_; refine zaa rfl (zcg rfl rfl (by (repeat (first | exact mh | refine mt ?_)); done) rfl rfl) ?_) | refine zaa rfl (zbz rfl rfl) ?_ | refine zah ?_ | (refine zcr ?_; refine zcs ?_) | (refine zdb ?_; first | refine zdc ?_ | refine zdd ?_) | (refine zal rfl rfl ?_; intro g) | (refine zag ?_; first | refine zan 0 rfl rfl rfl rfl rfl rfl rfl rfl rfl ?_ | refine zan 1 rfl rfl rfl rfl rfl rfl rfl rfl rfl ?_) | refine zaa rfl (zci rfl rfl hM (Takes.part Takes.nil)) ?_
  rename_i g1 g2 g3 g5
  obtain ⟨g6, hg6⟩ : ∃ x, x = g := ⟨g, rfl⟩
  subst hg6
  refine WS.weak (e' := [(1, .raw (.pointer (some ⟨g1, 0, none⟩))), (2, .raw (.pointer (some ⟨g2, 0, none⟩))), (3, .raw (.pointer (some ⟨g3, 0, none⟩))), (5, .raw (.pointer (some ⟨g5, 0, none⟩))), (6, .raw (.pointer (some ⟨g6, 0, none⟩))), (7, .raw (.bool true)), (8, .f .f32 mi)]) (S' := St w0 [] [⟨g2, 62, [.raw (.slice none 0 0), .raw (.slice none 0 0), .f .f32 (fv .f32 0), .f .f32 (fv .f32 0)], 4⟩, ⟨g3, 62, [.raw (.slice none 0 0), .raw (.slice none 0 0), .f .f32 (fv .f32 0), .f .f32 (fv .f32 0)], 4⟩, ⟨g5, 27, [.raw (.slice (some ⟨a, 0, none⟩) n ca), .raw (.slice (some ⟨b, 0, none⟩) n cb)], 2⟩, ⟨g6, 27, [.raw (.slice (some ⟨a2, 0, none⟩) n ca2), .raw (.slice (some ⟨b2, 0, none⟩) n cb2)], 2⟩, ⟨g1, 62, [slC w0 (tabC n P), AV.sl w0 1 ((tab n oneF).map (AV.f .f32)), .f .f32 lo, .f .f32 hi], 4⟩, entF b2 31 n oneF cb2, entC a2 n (rightP n P) ca2, entC a n (leftP P) ca, entF b 31 n oneF cb]) ?_ (by (repeat (first | exact Env.sub_nil _ | refine Env.sub_cons rfl ?_))) (fun w h => h.sel [7, 6, 1, 0, 8, 2, 3, 4, 5] (by decide) rfl)
  refine ws_drawP (ix := [0, 1, 2, 3, 4, 5, 6, 7, 8, 9, 10]) (W := St w0 [] [⟨g5, 27, [.raw (.slice (some ⟨a, 0, none⟩) n ca), .raw (.slice (some ⟨b, 0, none⟩) n cb)], 2⟩, ⟨g6, 27, [.raw (.slice (some ⟨a2, 0, none⟩) n ca2), .raw (.slice (some ⟨b2, 0, none⟩) n cb2)], 2⟩, ⟨g1, 62, [slC w0 (tabC n P), AV.sl w0 1 ((tab n oneF).map (AV.f .f32)), .f .f32 lo, .f .f32 hi], 4⟩]) mixed (by decide +kernel) (fun _ h => h.sel [2, 3, 4] (by decide) rfl) ?_
  repeat first | refine zap rfl (zay rfl) ?_ | (refine zat ?_; first | refine zap rfl (zcf rfl rfl (by (repeat (first | exact mh | refine mt ?_)); done) rfl) ?_ | refine zap rfl (zcg rfl rfl (by (repeat (first | exact mh | refine mt ?_)); done) rfl rfl) ?_) | refine zap rfl (zcd rfl) ?_ | refine zav ?_ | refine zap rfl (opj_buildP rfl rfl rfl) ?_
  refine ⟨rfl, ?_⟩
  refine gp_name fun o ho Q' hQ => ?_
  have q11 := op_at (i := 11) ho rfl
  have q12 := op_at (i := 12) ho rfl
  have q13 := op_at (i := 13) ho rfl
  refine gp_step [11] (by rw [ho]; decide +kernel) fun x hx => ?_
  obtain rfl : x = 11 := by simpa using hx
  refine sp_eff q11 (by rw [ho]; decide +kernel) (effj_storeAX 0 rfl rfl rfl rfl rfl rfl rfl rfl rfl) (cont_go (fun _ h => h.sel [2, 3, 4] (by decide) rfl) ?_)
  refine gp_step [12] (by rw [ho]; decide +kernel) fun x hx => ?_
  obtain rfl : x = 12 := by simpa using hx
  refine sp_eff q12 (by rw [ho]; decide +kernel) (effj_storeAX 1 rfl rfl rfl rfl rfl rfl rfl rfl rfl) (cont_go (fun _ h => h.sel [2, 3, 4] (by decide) rfl) ?_)
  refine gp_step [13] (by rw [ho]; decide +kernel) fun x hx => ?_
  obtain rfl : x = 13 := by simpa using hx
  refine sp_op q13 (by rw [ho]; decide +kernel) rfl (zaz rfl) rfl (cont_set (by rw [ho]; decide +kernel) rfl ?_)
  refine gp_end (by rw [ho]; decide +kernel) ?_
  rw [hQ]
  repeat first | (refine zcr ?_; refine zcs ?_) | (refine zdb ?_; refine zdg ?_)
  exact done_retXXT rfl rfl (⟨k, a, b, ca, cb, a2, b2, ca2, cb2, ra, rb, rca, rcb⟩ : Ct) rfl rfl rfl mh (mt mh) rfl rfl rfl rfl rfl ⟨⟨h1, h2⟩, h3, h4⟩ (.cons _ (.cons _ (.cons _ (.cons _ (.cons _ (List.Sublist.refl _))))))
theorem absolute_fn {x : FV} {p : Rat} (vx : Vl .f32 x p) : Fn Try.prog 34 (fun _ => [.f .f32 x]) (.f .f32 (maxF .f32 x (fneg .f32 x))) := by
  refine fn_intro Try.func34 rfl Try.ntmps34 (fun _ => Nat.le_of_ble_eq_true rfl) fun w0 => ?_
  repeat first | refine zaa rfl (zay rfl) ?_ | refine zaa rfl (zaz rfl) ?_ | refine zah ?_ | (refine zcr ?_; refine zcs ?_) | (refine zdb ?_; first | refine zdc ?_ | refine zdd ?_ | refine zdg ?_) | refine zaa rfl (opj_neg rfl) ?_ | refine zaa rfl (opj_maxV vx (vl_fneg vx) rfl rfl) ?_
  exact done_ret1 rfl () rfl trivial (List.nil_sublist _)
set_option maxHeartbeats 4000000 in
theorem box_fn {n : Nat} {P : Nat → CV} (hn : 1 ≤ n ∧ n ≤ 1000) : Fn Try.prog 68 (fun w => [slC w (tabC n P)]) (.tup [.c .f32 (loF (cx1 P) n) (loF (cx2 P) n), .c .f32 (hiF (cx1 P) n) (hiF (cx2 P) n)]) := by
  refine fn_intro Try.func68 rfl Try.ntmps68 (fun _ => Nat.le_of_ble_eq_true rfl) fun w0 => ?_
  repeat first | refine zaa rfl (zaz rfl) ?_ | refine zah ?_ | (refine zcr ?_; refine zcs ?_) | (refine zdb ?_; first | refine zdc ?_ | refine zdd ?_)
  refine ws_draw (n := 8) mixed (by decide +kernel) ?_
  repeat first | refine zap rfl (zay rfl) ?_ | refine zap rfl (zaz rfl) ?_ | (refine zat ?_; refine zap rfl (zbu rfl rfl) ?_) | (refine zau ?_; refine zap rfl (opj_indexC rfl rfl (by omega) (by omega)) ?_) | refine zav ?_
  repeat first | refine zaa rfl (zay rfl) ?_ | (refine zad ?_; refine zaa rfl (opj_lenC rfl) ?_) | refine zah ?_ | (refine zcr ?_; refine zcs ?_) | (refine zdb ?_; first | refine zdc ?_ | refine zdd ?_ | refine zde ?_)
  refine ws_loop (ι := Nat) (fun k => [(4, .c .f32 (loF (cx1 P) k) (loF (cx2 P) k)), (5, .c .f32 (hiF (cx1 P) k) (hiF (cx2 P) k)), (14, slC w0 (tabC n P)), (15, .raw (.int .i64 n)), (16, .raw (.int .i64 (k : Nat)))])
    (fun _ => St w0 [] []) (fun k => k ≤ n) (fun k => n - k) 0 (Nat.zero_le _) ?_ (fun _ h => h) (fun k hk => ?_)
  · (repeat (first | exact Env.sub_nil _ | refine Env.sub_cons rfl ?_))
  repeat first | (refine zac ?_; refine zaa rfl (zbe rfl rfl) ?_) | refine zah ?_ | (refine zcr ?_; refine zcs ?_) | (refine zdb ?_; first | refine zdc ?_ | refine zdd ?_)
  refine ws_cond rfl (fun hd => ?_) (fun hd => ?_)
  case' refine_2 =>
    have hkn : k = n := by have := of_decide_eq_false hd; omega
    subst hkn
    repeat first | refine zaa rfl (zay rfl) ?_ | refine zaa rfl (zaz rfl) ?_ | refine zah ?_ | (refine zcr ?_; first | refine zcs ?_ | refine zcu ?_ | refine zcx ?_ | refine zda ?_) | (refine zdb ?_; first | refine zdc ?_ | refine zdd ?_ | refine zdg ?_ | refine zdh ?_)
    exact done_ret2 rfl () rfl rfl rfl trivial (List.nil_sublist _)
  have hlt : (k : Int) < n := of_decide_eq_true hd
  clear hd
  have e1 : loF (cx1 P) (k + 1) = (match cmpB .lss (fcmp .f32 (cx1 P k) (loF (cx1 P) k)) with | true => cx1 P k | false => loF (cx1 P) k) := rfl
  have e2 : loF (cx2 P) (k + 1) = (match cmpB .lss (fcmp .f32 (cx2 P k) (loF (cx2 P) k)) with | true => cx2 P k | false => loF (cx2 P) k) := rfl
  have e3 : hiF (cx1 P) (k + 1) = (match cmpB .gtr (fcmp .f32 (cx1 P k) (hiF (cx1 P) k)) with | true => cx1 P k | false => hiF (cx1 P) k) := rfl
  have e4 : hiF (cx2 P) (k + 1) = (match cmpB .gtr (fcmp .f32 (cx2 P k) (hiF (cx2 P) k)) with | true => cx2 P k | false => hiF (cx2 P) k) := rfl
  repeat first | refine zaa rfl (zay rfl) ?_ | refine zaa rfl (zaz rfl) ?_ | (refine zac ?_; refine zaa rfl (zbd rfl rfl rfl) ?_) | (refine zad ?_; refine zaa rfl (zbp rfl) ?_) | (refine zae ?_; refine zaa rfl (zbu rfl rfl) ?_) | (refine zaf ?_; refine zaa rfl (opj_indexC rfl rfl (by omega) (by omega)) ?_) | refine zah ?_ | (refine zcr ?_; refine zcs ?_) | (refine zdb ?_; first | refine zdc ?_ | refine zdd ?_ | refine zde ?_ | refine zdf ?_)
  refine ws_cond rfl (fun h1 => ?_) (fun h1 => ?_)
  all_goals
    have h1' : cmpB .lss (fcmp .f32 (cx1 P k) (loF (cx1 P) k)) = _ := h1
    rw [h1'] at e1
    dsimp only at e1
    repeat first | refine zaa rfl (zay rfl) ?_ | refine zaa rfl (zaz rfl) ?_ | (refine zac ?_; refine zaa rfl (zbd rfl rfl rfl) ?_) | (refine zad ?_; first | refine zaa rfl (zbp rfl) ?_ | refine zaa rfl (zbq rfl) ?_ | refine zaa rfl (zbr rfl rfl) ?_) | refine zah ?_ | (refine zcr ?_; refine zcs ?_) | (refine zdb ?_; first | refine zdc ?_ | refine zdd ?_ | refine zdf ?_)
    refine ws_cond rfl (fun h2 => ?_) (fun h2 => ?_)
    all_goals
      have h2' : cmpB .lss (fcmp .f32 (cx2 P k) (loF (cx2 P) k)) = _ := h2
      rw [h2'] at e2
      dsimp only at e2
      repeat first | refine zaa rfl (zay rfl) ?_ | refine zaa rfl (zaz rfl) ?_ | (refine zac ?_; refine zaa rfl (zbd rfl rfl rfl) ?_) | (refine zad ?_; first | refine zaa rfl (zbp rfl) ?_ | refine zaa rfl (zbq rfl) ?_ | refine zaa rfl (zbr rfl rfl) ?_) | refine zah ?_ | (refine zcr ?_; refine zcs ?_) | (refine zdb ?_; first | refine zdc ?_ | refine zdd ?_ | refine zdf ?_)
      refine ws_cond rfl (fun h3 => ?_) (fun h3 => ?_)
      all_goals
        have h3' : cmpB .gtr (fcmp .f32 (cx1 P k) (hiF (cx1 P) k)) = _ := h3
        rw [h3'] at e3
        dsimp only at e3
        repeat first | refine zaa rfl (zay rfl) ?_ | refine zaa rfl (zaz rfl) ?_ | (refine zac ?_; refine zaa rfl (zbd rfl rfl rfl) ?_) | (refine zad ?_; first | refine zaa rfl (zbp rfl) ?_ | refine zaa rfl (zbq rfl) ?_ | refine zaa rfl (zbr rfl rfl) ?_) | refine zah ?_ | (refine zcr ?_; refine zcs ?_) | (refine zdb ?_; first | refine zdc ?_ | refine zdd ?_ | refine zdf ?_)
        refine ws_cond rfl (fun h4 => ?_) (fun h4 => ?_)
        all_goals
          have h4' : cmpB .gtr (fcmp .f32 (cx2 P k) (hiF (cx2 P) k)) = _ := h4
          rw [h4'] at e4
          dsimp only at e4
          repeat first | refine zaa rfl (zay rfl) ?_ | refine zaa rfl (zaz rfl) ?_ | (refine zac ?_; refine zaa rfl (zbb rfl rfl (by omega)) ?_) | (refine zad ?_; first | refine zaa rfl (zbp rfl) ?_ | refine zaa rfl (zbq rfl) ?_ | refine zaa rfl (zbr rfl rfl) ?_) | refine zah ?_ | (refine zcr ?_; first | refine zcs ?_ | refine zcv ?_) | (refine zdb ?_; first | refine zdd ?_ | refine zdf ?_)
          refine done_round (k + 1) (by omega) (by omega) ?_ (fun _ h => h)
          rw [e1, e2, e3, e4, show ((k + 1 : Nat) : Int) = (k : Int) + 1 by omega]
          (repeat (first | exact Env.sub_nil _ | refine Env.sub_cons rfl ?_))
theorem touch_fn {np nq : Nat} {P Q : Nat → CV} {f g : Int → FV} (hp : 1 ≤ np ∧ np ≤ 1000) (hq : 1 ≤ nq ∧ nq ≤ 1000) : Fn Try.prog 43 (fun w => [crvA w np P f, crvA w nq Q g]) (.raw (.bool (touchB np nq P Q))) := by
  have hB1 := box_fn (n := np) (P := P) hp
  have hB2 := box_fn (n := nq) (P := Q) hq
  obtain ⟨p1, h1⟩ : ∃ p, p = cmpB .lss (fcmp .f32 (hiF (cx1 P) np) (loF (cx1 Q) nq)) := ⟨_, rfl⟩
  obtain ⟨p2, h2⟩ : ∃ p, p = cmpB .lss (fcmp .f32 (hiF (cx1 Q) nq) (loF (cx1 P) np)) := ⟨_, rfl⟩
  obtain ⟨p3, h3⟩ : ∃ p, p = cmpB .lss (fcmp .f32 (hiF (cx2 P) np) (loF (cx2 Q) nq)) := ⟨_, rfl⟩
  obtain ⟨p4, h4⟩ : ∃ p, p = cmpB .lss (fcmp .f32 (hiF (cx2 Q) nq) (loF (cx2 P) np)) := ⟨_, rfl⟩
  have ht : touchB np nq P Q = !(p1 || p2 || p3 || p4) := by unfold touchB lssF; rw [← h1, ← h2, ← h3, ← h4]
  rw [ht]
  clear ht
  refine fn_intro Try.func43 rfl Try.ntmps43 (fun _ => Nat.le_of_ble_eq_true rfl) fun w0 => ?_
  repeat first | refine zaa rfl (zay rfl) ?_ | refine zaa rfl (zaz rfl) ?_ | (refine zac ?_; refine zaa rfl (zbd rfl rfl rfl) ?_) | (refine zad ?_; refine zaa rfl (zbp rfl) ?_) | (refine zae ?_; refine zaa rfl (zcf rfl rfl (by (repeat (first | exact mh | refine mt ?_)); done) rfl) ?_) | refine zaa rfl (zcd rfl) ?_ | refine zaa rfl (zbz rfl rfl) ?_ | refine zah ?_ | (refine zcr ?_; refine zcs ?_) | (refine zdb ?_; first | refine zdc ?_ | refine zdd ?_) | (refine zak rfl rfl rfl ?_; intro g) | refine zaa rfl (zci rfl rfl hB1 (Takes.sl Takes.nil)) ?_ | refine zaa rfl (zci rfl rfl hB2 (Takes.sl Takes.nil)) ?_
  rw [← h1]
  cases p1
  case' false =>
    repeat first | refine zai rfl rfl ?_ | refine zaa rfl (zay rfl) ?_ | (refine zac ?_; refine zaa rfl (zbd rfl rfl rfl) ?_) | (refine zad ?_; refine zaa rfl (zbp rfl) ?_) | refine zaa rfl (zcb rfl rfl) ?_
    rw [← h2]
    cases p2
    case' false =>
      repeat first | refine zai rfl rfl ?_ | refine zaa rfl (zay rfl) ?_ | (refine zac ?_; refine zaa rfl (zbd rfl rfl rfl) ?_) | (refine zad ?_; refine zaa rfl (zbq rfl) ?_) | refine zaa rfl (zcb rfl rfl) ?_
      rw [← h3]
      cases p3
      case' false =>
        repeat first | refine zai rfl rfl ?_ | refine zaa rfl (zay rfl) ?_ | refine zaa rfl (zaz rfl) ?_ | (refine zac ?_; refine zaa rfl (zbd rfl rfl rfl) ?_) | (refine zad ?_; refine zaa rfl (zbq rfl) ?_) | refine zaa rfl (zcb rfl rfl) ?_ | refine zaa rfl (zcc rfl) ?_ | refine zah ?_ | (refine zcr ?_; refine zcs ?_) | (refine zdb ?_; refine zdg ?_)
        rw [← h4]
        cases p4
  all_goals
    repeat first | refine zaj rfl rfl rfl rfl ?_ | refine zaa rfl (zay rfl) ?_ | refine zaa rfl (zaz rfl) ?_ | refine zaa rfl (zca rfl rfl) ?_ | refine zaa rfl (zcc rfl) ?_ | refine zah ?_ | (refine zcr ?_; refine zcs ?_) | (refine zdb ?_; refine zdg ?_)
    exact done_ret1 rfl () rfl trivial (List.nil_sublist _)
theorem crossM_fn (p q : CV) : Fn Try.prog 30 (fun _ => [cA p, cA q]) (.f .f32 (crossM p q)) := by
  refine fn_intro Try.func30 rfl Try.ntmps30 (fun _ => Nat.le_of_ble_eq_true rfl) fun w0 => ?_
  unfold cA
  repeat first | refine zaa rfl (zay rfl) ?_ | refine zaa rfl (zaz rfl) ?_ | (refine zac ?_; refine zaa rfl (zba rfl rfl rfl) ?_) | (refine zad ?_; first | refine zaa rfl (zbp rfl) ?_ | refine zaa rfl (zbq rfl) ?_) | refine zah ?_ | (refine zcr ?_; refine zcs ?_) | (refine zdb ?_; first | refine zdc ?_ | refine zdd ?_ | refine zdg ?_)
  exact done_ret1 rfl () rfl trivial (List.nil_sublist _)
theorem isNear_yes {x : FV} (h1 : finB x = true) (h2 : cmpB .geq (fcmp .f32 x (fv .f32 981467136)) = true) : Fn Try.prog 27 (fun _ => [.f .f32 x]) (.raw (.bool true)) := by
  have hF := isFinite_fn x
  rw [h1] at hF
  refine fn_intro Try.func27 rfl Try.ntmps27 (fun _ => Nat.le_of_ble_eq_true rfl) fun w0 => ?_
  repeat first | refine zai rfl rfl ?_ | refine zaa rfl (zay rfl) ?_ | refine zaa rfl (zaz rfl) ?_ | (refine zac ?_; refine zaa rfl (zbd rfl rfl rfl) ?_) | (refine zad ?_; (refine zaa rfl (zci rfl rfl (hF) ?_) ?_; (focus ((repeat (first | exact Takes.nil | refine Takes.sl ?_ | refine Takes.lit ?_ | refine Takes.fa ?_ | refine Takes.fc ?_ | refine Takes.net ?_ | (refine Takes.ownE ?_ ?_ ?_ ?_ ?_; (focus (exact ⟨_, _, (by (repeat (first | exact mh | refine mt ?_)); done)⟩)); (focus (simp; done)); (focus omega); (focus (simp only [maxLen]; omega))) | refine Takes.same ?_)); done)))) | refine zaa rfl (zca rfl rfl) ?_ | refine zah ?_ | (refine zcr ?_; refine zcs ?_) | (refine zdb ?_; first | refine zdc ?_ | refine zdd ?_ | refine zdg ?_)
  rw [h2]
  skip
  exact done_ret1 rfl () rfl trivial (List.nil_sublist _)
end Go.Ab
