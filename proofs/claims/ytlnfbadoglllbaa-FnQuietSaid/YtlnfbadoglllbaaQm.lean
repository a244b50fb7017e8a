/- The square of a quiet list, row by row: what elimination leaves, and what is solved for. No conditions. -/
import Derived.Test.YtlnfbadoglllbaaQlA
import Derived.Test.YtlnfbadoglllbaaEx
namespace Go.Ab

/-! One step of the elimination. -/
def elm (n k : Nat) (M : Mx) (i j : Int) : FV :=
  if ((k : Int) < i ∧ i < n ∧ i ≤ k + 2) ∧ ((k : Int) < j ∧ j < n ∧ j ≤ k + 2) then fbin .sub .f32 (M i j) (fbin .mul .f32 (fac M i k) (M k j)) else M i j
def elv (n k : Nat) (M : Mx) (y : Int → FV) (i : Int) : FV :=
  if (k : Int) < i ∧ i < n ∧ i ≤ k + 2 then fbin .sub .f32 (y i) (fbin .mul .f32 (fac M i k) (y k)) else y i
theorem elJ_eq (f : FV) (k r : Int) (hkr : k ≠ r) (M : Mx) : ∀ (c : Nat) (i j : Int), elJ f k r c M i j = if i = r ∧ k < j ∧ j ≤ k + c then fbin .sub .f32 (M i j) (fbin .mul .f32 f (M k j)) else M i j
  | 0, i, j => by rw [elJ, if_neg (by omega)]
  | c + 1, i, j => by
    rw [elJ]
    unfold upd2
    by_cases h : i = r ∧ j = k + 1 + c
    · obtain ⟨rfl, rfl⟩ := h
      rw [if_pos ⟨rfl, rfl⟩, if_pos ⟨rfl, by omega, by omega⟩, elJ_eq f k i hkr M c, elJ_eq f k i hkr M c, if_neg (by omega), if_neg (by omega)]
    · rw [if_neg h, elJ_eq f k r hkr M c]
      by_cases h2 : i = r ∧ k < j ∧ j ≤ k + c
      · rw [if_pos h2, if_pos (by omega)]
      · rw [if_neg h2, if_neg (by omega)]
theorem elR_eq (n k : Nat) (M : Mx) (y : Int → FV) : ∀ c : Nat, c ≤ cnt n k → ∀ i j : Int,
    (elR n k c (M, y)).1 i j = (if ((k : Int) < i ∧ i ≤ k + c) ∧ ((k : Int) < j ∧ j ≤ k + cnt n k) then fbin .sub .f32 (M i j) (fbin .mul .f32 (fac M i k) (M k j)) else M i j) ∧
    (elR n k c (M, y)).2 i = if (k : Int) < i ∧ i ≤ k + c then fbin .sub .f32 (y i) (fbin .mul .f32 (fac M i k) (y k)) else y i
  | 0, _, i, j => by rw [elR, if_neg (by omega), if_neg (by omega)]; exact ⟨rfl, rfl⟩
  | c + 1, hc, i, j => by
    have ih := elR_eq n k M y c (by omega)
    have hrow : ∀ j : Int, (elR n k c (M, y)).1 k j = M k j := fun j => by rw [(ih k j).1, if_neg (by omega)]
    have hvk : (elR n k c (M, y)).2 k = y k := by rw [(ih k 0).2, if_neg (by omega)]
    have hf : fac (elR n k c (M, y)).1 ((k : Int) + 1 + c) k = fac M ((k : Int) + 1 + c) k := by
      unfold fac
      rw [(ih _ _).1, (ih _ _).1, if_neg (by omega), if_neg (by omega)]
    constructor
    · show elJ (fac (elR n k c (M, y)).1 ((k : Int) + 1 + c) k) k ((k : Int) + 1 + c) (cnt n k) (elR n k c (M, y)).1 i j = _
      rw [elJ_eq _ _ _ (by omega), hrow, hf, (ih i j).1]
      by_cases h : i = (k : Int) + 1 + c ∧ (k : Int) < j ∧ j ≤ k + cnt n k
      · obtain ⟨rfl, h1, h2⟩ := h
        rw [if_pos ⟨rfl, h1, h2⟩, if_neg (by omega), if_pos ⟨⟨by omega, by omega⟩, h1, h2⟩]
      · rw [if_neg h]
        by_cases h3 : ((k : Int) < i ∧ i ≤ k + c) ∧ ((k : Int) < j ∧ j ≤ k + cnt n k)
        · rw [if_pos h3, if_pos (by omega)]
        · rw [if_neg h3, if_neg (by omega)]
    · show put1 ((k : Int) + 1 + c) (fbin .sub .f32 ((elR n k c (M, y)).2 ((k : Int) + 1 + c)) (fbin .mul .f32 (fac (elR n k c (M, y)).1 ((k : Int) + 1 + c) k) ((elR n k c (M, y)).2 k))) (elR n k c (M, y)).2 i = _
      unfold put1
      rw [hf, hvk, (ih i j).2, (ih ((k : Int) + 1 + c) j).2]
      by_cases h : i = (k : Int) + 1 + c
      · subst h
        rw [if_pos rfl, if_neg (by omega), if_pos (by omega)]
      · rw [if_neg h]
        by_cases h3 : (k : Int) < i ∧ i ≤ k + c
        · rw [if_pos h3, if_pos (by omega)]
        · rw [if_neg h3, if_neg (by omega)]
theorem cnt_le {n k : Nat} {i : Int} (hk : k < n) : (i ≤ k + cnt n k) ↔ (i < n ∧ i ≤ k + 2) := by
  unfold cnt
  omega
/-- The square after k steps; it does not hang on the right sides. -/
def Mk (w : FV) (n : Nat) : Nat → Mx
  | 0 => addI w (n - 2)
  | k + 1 => elm n k (Mk w n k)
def yk (w : FV) (n : Nat) (b : Int → FV) : Nat → Int → FV
  | 0 => b
  | k + 1 => elv n k (Mk w n k) (yk w n b k)
theorem elK_eq (w : FV) (n : Nat) (b : Int → FV) : ∀ k, k ≤ n → elK w n b k = (Mk w n k, yk w n b k)
  | 0, _ => rfl
  | k + 1, h => by
    rw [elK, elK_eq w n b k (by omega)]
    have hq := elR_eq n k (Mk w n k) (yk w n b k) (cnt n k) (Nat.le_refl _)
    refine Prod.ext (funext fun i => funext fun j => ?_) (funext fun i => ?_)
    · rw [(hq i j).1]
      show _ = elm n k (Mk w n k) i j
      unfold elm
      simp only [cnt_le (show k < n from h)]
    · rw [(hq i 0).2]
      show _ = elv n k (Mk w n k) (yk w n b k) i
      unfold elv
      simp only [cnt_le (show k < n from h)]
/-- What later steps leave. -/
theorem Mk_keep (w : FV) (n : Nat) {i j : Int} (k : Nat) : ∀ m, (i ≤ k ∨ j ≤ k) → Mk w n (k + m) i j = Mk w n k i j
  | 0, _ => rfl
  | m + 1, h => by
    show elm n (k + m) (Mk w n (k + m)) i j = _
    unfold elm
    rw [if_neg (by omega), Mk_keep w n k m h]
theorem Mk_end (w : FV) {n : Nat} {i j : Int} {k : Nat} (hk : k ≤ n) (h : i ≤ k ∨ j ≤ k) : Mk w n n i j = Mk w n k i j := by
  obtain ⟨m, rfl⟩ : ∃ m, n = k + m := ⟨n - k, by omega⟩
  exact Mk_keep w (k + m) k m h
theorem Mk_far (w : FV) (n : Nat) {i j : Int} : ∀ k : Nat, ((k : Int) + 2 ≤ i ∨ (k : Int) + 2 ≤ j) → Mk w n k i j = addI w (n - 2) i j
  | 0, _ => rfl
  | k + 1, h => by
    show elm n k (Mk w n k) i j = _
    unfold elm
    rw [if_neg (by omega), Mk_far w n k (by omega)]
theorem yk_keep (w : FV) (n : Nat) (b : Int → FV) {i : Int} (k : Nat) (h : i ≤ k) : ∀ m, yk w n b (k + m) i = yk w n b k i
  | 0 => rfl
  | m + 1 => by
    show elv n (k + m) (Mk w n (k + m)) (yk w n b (k + m)) i = _
    unfold elv
    rw [if_neg (by omega), yk_keep w n b k h m]
theorem yk_far (w : FV) (n : Nat) (b : Int → FV) {i : Int} : ∀ k : Nat, (k : Int) + 2 ≤ i → yk w n b k i = b i
  | 0, _ => rfl
  | k + 1, h => by
    show elv n k (Mk w n k) (yk w n b k) i = _
    unfold elv
    rw [if_neg (by omega), yk_far w n b k (by omega)]
/-! What is left of the square, and what is put ahead of its rows. -/
def mF (w : FV) (n : Nat) : Mx := Mk w n n
def lF (w : FV) (n : Nat) (r k : Nat) : FV := fac (mF w n) r k
def yF (w : FV) (n : Nat) (b : Int → FV) : Int → FV := yk w n b n
theorem lF_eq (w : FV) {n r k : Nat} (hk : k ≤ n) : lF w n r k = fac (Mk w n k) r k := by
  unfold lF fac mF
  rw [Mk_end w hk (.inr (Int.le_refl _)), Mk_end w hk (.inr (Int.le_refl _))]
theorem yF_eq (w : FV) {n : Nat} (b : Int → FV) {k : Nat} (hk : k ≤ n) : yF w n b k = yk w n b k k := by
  unfold yF
  obtain ⟨m, rfl⟩ : ∃ m, n = k + m := ⟨n - k, by omega⟩
  exact yk_keep w (k + m) b k (Int.le_refl _) m
theorem yF_0 (w : FV) (n : Nat) (b : Int → FV) : yF w n b 0 = b 0 := by
  have := yF_eq w (n := n) b (k := 0) (by omega)
  exact this
theorem yF_1 (w : FV) {n : Nat} (hn : 2 ≤ n) (b : Int → FV) : yF w n b 1 = fbin .sub .f32 (b 1) (fbin .mul .f32 (lF w n 1 0) (yF w n b 0)) := by
  have h := yF_eq w (n := n) b (k := 1) (by omega)
  have h2 := yF_0 w n b
  rw [h2, lF_eq w (by omega)]
  refine h.trans ?_
  show elv n 0 (Mk w n 0) (yk w n b 0) 1 = _
  unfold elv
  rw [if_pos (by omega)]
  rfl
theorem yF_2 (w : FV) {n r : Nat} (hr : r + 2 < n) (b : Int → FV) : yF w n b ((r + 2 : Nat) : Int) = fbin .sub .f32 (fbin .sub .f32 (b ((r + 2 : Nat) : Int)) (fbin .mul .f32 (lF w n (r + 2) r) (yF w n b r))) (fbin .mul .f32 (lF w n (r + 2) (r + 1)) (yF w n b ((r + 1 : Nat) : Int))) := by
  rw [yF_eq w b (k := r + 2) (by omega), yF_eq w b (k := r) (by omega), yF_eq w b (k := r + 1) (by omega), lF_eq w (by omega), lF_eq w (by omega)]
  show elv n (r + 1) (Mk w n (r + 1)) (yk w n b (r + 1)) ((r + 2 : Nat) : Int) = _
  rw [elv, if_pos (by omega)]
  have h1 : yk w n b (r + 1) ((r + 2 : Nat) : Int) = fbin .sub .f32 (b ((r + 2 : Nat) : Int)) (fbin .mul .f32 (fac (Mk w n r) ((r + 2 : Nat) : Int) r) (yk w n b r r)) := by
    show elv n r (Mk w n r) (yk w n b r) ((r + 2 : Nat) : Int) = _
    rw [elv, if_pos (by omega), yk_far w n b r (by omega)]
  rw [h1]
/-! The way back. -/
theorem bkK_keep (M : Mx) (n : Nat) (b : Int → FV) {t : Int} (m : Nat) (ht : (n : Int) - m ≤ t) : ∀ d : Nat, m + d ≤ n → bkK M n b (m + d) t = bkK M n b m t
  | 0, _ => rfl
  | d + 1, h => by
    show bkS M n (n - 1 - (m + d)) (bkK M n b (m + d)) t = _
    unfold bkS
    rw [put1_ne _ _ _ (by omega), bkJ_ne _ _ _ (by omega), bkK_keep M n b m ht d (by omega)]
theorem bkK_low' (M : Mx) (n : Nat) (b : Int → FV) {t : Int} : ∀ m : Nat, m ≤ n → t < (n : Int) - m → bkK M n b m t = b t
  | 0, _, _ => rfl
  | m + 1, h, ht => by
    show bkS M n (n - 1 - m) (bkK M n b m) t = _
    unfold bkS
    rw [put1_ne _ _ _ (by omega), bkJ_ne _ _ _ (by omega), bkK_low' M n b m (by omega) (by omega)]
theorem quiet_eq (w : FV) (n : Nat) (b : Int → FV) : quietR w n b = bkK (mF w n) n (yF w n b) n := by
  unfold quietR
  rw [elK_eq w n b n (Nat.le_refl _)]
  rfl
theorem quiet_at (w : FV) {n k : Nat} (hk : k < n) (b : Int → FV) : quietR w n b k = fbin .quo .f32 (bkJ (mF w n) k (cnt n k) (bkK (mF w n) n (yF w n b) (n - 1 - k)) k) (mF w n k k) := by
  rw [quiet_eq]
  have h := bkK_keep (mF w n) n (yF w n b) (t := (k : Int)) (n - k) (by omega) k (by omega)
  rw [show n - k + k = n from by omega] at h
  rw [h]
  obtain ⟨m, hm⟩ : ∃ m, n - k = m + 1 := ⟨n - k - 1, by omega⟩
  rw [hm]
  show bkS (mF w n) n (n - 1 - m) (bkK (mF w n) n (yF w n b) m) k = _
  rw [show n - 1 - m = k from by omega, show n - 1 - k = m from by omega]
  unfold bkS
  exact put1_at _ _ _
theorem back_at (w : FV) {n : Nat} (b : Int → FV) {k : Nat} {t : Nat} (h : k < t) (ht : t < n) : bkK (mF w n) n (yF w n b) (n - 1 - k) t = quietR w n b t := by
  rw [quiet_eq]
  have h := bkK_keep (mF w n) n (yF w n b) (t := (t : Int)) (n - 1 - k) (by omega) (k + 1) (by omega)
  rw [show n - 1 - k + (k + 1) = n from by omega] at h
  exact h.symm
theorem back_own (w : FV) {n : Nat} (b : Int → FV) {k : Nat} (h : k < n) : bkK (mF w n) n (yF w n b) (n - 1 - k) k = yF w n b k :=
  bkK_low' _ _ _ _ (by omega) (by omega)
theorem bkJ_own (M : Mx) (k : Nat) (x : Int → FV) (c : Nat) : bkJ M k (c + 1) x k = fbin .sub .f32 (bkJ M k c x k) (fbin .mul .f32 (M k (k + 1 + c)) (x ((k : Int) + 1 + c))) := by
  rw [bkJ, put1_at, bkJ_ne M k x (t := (k : Int) + 1 + c) (by omega)]
theorem x_last (w : FV) {n k : Nat} (hk : k + 1 = n) (b : Int → FV) : quietR w n b k = fbin .quo .f32 (yF w n b k) (mF w n k k) := by
  rw [quiet_at w (by omega), show cnt n k = 0 from by unfold cnt; omega, ← back_own w b (show k < n from by omega)]
  rfl
theorem x_next (w : FV) {n k : Nat} (hk : k + 2 = n) (b : Int → FV) : quietR w n b k = fbin .quo .f32 (fbin .sub .f32 (yF w n b k) (fbin .mul .f32 (mF w n k ((k + 1 : Nat) : Int)) (quietR w n b ((k + 1 : Nat) : Int)))) (mF w n k k) := by
  rw [quiet_at w (by omega), show cnt n k = 1 from by unfold cnt; omega, ← back_own w b (show k < n from by omega), ← back_at w b (show k < k + 1 from by omega) (show k + 1 < n from by omega), bkJ_own]
  rfl
theorem x_more (w : FV) {n k : Nat} (hk : k + 2 < n) (b : Int → FV) : quietR w n b k = fbin .quo .f32 (fbin .sub .f32 (fbin .sub .f32 (yF w n b k) (fbin .mul .f32 (mF w n k ((k + 1 : Nat) : Int)) (quietR w n b ((k + 1 : Nat) : Int)))) (fbin .mul .f32 (mF w n k ((k + 2 : Nat) : Int)) (quietR w n b ((k + 2 : Nat) : Int)))) (mF w n k k) := by
  rw [quiet_at w (by omega), show cnt n k = 2 from by unfold cnt; omega, ← back_own w b (show k < n from by omega), ← back_at w b (show k < k + 1 from by omega) (show k + 1 < n from by omega), ← back_at w b (show k < k + 2 from by omega) (show k + 2 < n from by omega), bkJ_own, bkJ_own]
  rfl
end Go.Ab
