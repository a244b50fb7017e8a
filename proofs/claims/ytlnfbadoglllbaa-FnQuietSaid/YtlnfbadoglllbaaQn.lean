/- The squares of quiet lists, reckoned: what elimination leaves is bounded, and multiplies back to the square, nearly. No conditions. -/
import Derived.Test.YtlnfbadoglllbaaQm
namespace Go.Ab

/-! A corner of three by three that moves down. -/
structure Wn where
  a00 : FV
  a01 : FV
  a02 : FV
  a10 : FV
  a11 : FV
  a12 : FV
  a20 : FV
  a21 : FV
  a22 : FV
def sm2 (x f y : FV) : FV := fbin .sub .f32 x (fbin .mul .f32 f y)
/-- One step, with what comes in. -/
def stepW (w : FV) (n k : Nat) (W : Wn) : Wn :=
  let f := fbin .quo .f32 W.a10 W.a00
  let g := fbin .quo .f32 W.a20 W.a00
  ⟨sm2 W.a11 f W.a01, sm2 W.a12 f W.a02, addI w (n - 2) (k + 1) (k + 3), sm2 W.a21 g W.a01, sm2 W.a22 g W.a02, addI w (n - 2) (k + 2) (k + 3), addI w (n - 2) (k + 3) (k + 1), addI w (n - 2) (k + 3) (k + 2), addI w (n - 2) (k + 3) (k + 3)⟩
structure R5 where
  d : FV
  e : FV
  g : FV
  p : FV
  q : FV
def rowW (W : Wn) : R5 := ⟨W.a00, W.a01, W.a02, fbin .quo .f32 W.a10 W.a00, fbin .quo .f32 W.a20 W.a00⟩
def rowsW (w : FV) (n : Nat) : Nat → Nat → Wn → List R5
  | 0, _, _ => []
  | f + 1, k, W => rowW W :: rowsW w n f (k + 1) (stepW w n k W)
def startW (w : FV) (n : Nat) : Wn :=
  ⟨addI w (n - 2) 0 0, addI w (n - 2) 0 1, addI w (n - 2) 0 2, addI w (n - 2) 1 0, addI w (n - 2) 1 1, addI w (n - 2) 1 2, addI w (n - 2) 2 0, addI w (n - 2) 2 1, addI w (n - 2) 2 2⟩
def wF (k : Nat) : FV := fbin .quo .f32 (some (FloatKind.f32.nearest (k : Int))) (fv .f32 1073741824)

def ratF (x : FV) : Rat := match x with
  | some b => match FloatKind.f32.decode b with
    | .number s m e => vl s m e
    | _ => 0
  | none => 0
def numB (x : FV) : Bool := match x with
  | some b => match FloatKind.f32.decode b with
    | .number _ _ _ => true
    | _ => false
  | none => false
structure Q5 where
  d : Rat
  e : Rat
  g : Rat
  p : Rat
  q : Rat
def q5z : Q5 := ⟨0, 0, 0, 0, 0⟩
def ratR (n r : Nat) (R : R5) : Q5 := ⟨ratF R.d, if r + 1 < n then ratF R.e else 0, if r + 2 < n then ratF R.g else 0, if r + 1 < n then ratF R.p else 0, if r + 2 < n then ratF R.q else 0⟩
def numR (n r : Nat) (R : R5) : Bool := numB R.d && (!decide (r + 1 < n) || (numB R.e && numB R.p)) && (!decide (r + 2 < n) || (numB R.g && numB R.q))
/-- Whether the i-th row of second differences is there. -/
def tI (n : Nat) (r c : Nat) : Rat := if c ≤ r ∧ r < n - 2 + c then 1 else 0
def near0 (x : Rat) : Bool := decide (-(1 / 262144) ≤ x) && decide (x ≤ 1 / 262144)
def chkR (W : Rat) (n r : Nat) (P2 P1 Q : Q5) : Bool :=
  decide (1 ≤ Q.d) && decide (Q.d ≤ 20) && decide (-32 ≤ Q.e) && decide (Q.e ≤ 0) && decide (0 ≤ Q.g) && decide (Q.g ≤ 8) && decide (-2 ≤ Q.p) && decide (Q.p ≤ 0) && decide (0 ≤ Q.q) && decide (Q.q ≤ 1)
  && near0 (Q.d + P1.p * P1.e + P2.q * P2.g - (1 + W * (tI n r 0 + 4 * tI n r 1 + tI n r 2)))
  && near0 (Q.e + P1.p * P1.g - (if r + 1 < n then W * (-2 * tI n r 0 - 2 * tI n r 1) else 0))
  && near0 (Q.g - W * tI n r 0)
  && near0 (P1.p * P1.d + P2.q * P2.e - (if 1 ≤ r then W * (-2 * tI n r 1 - 2 * tI n r 2) else 0))
  && near0 (P2.q * P2.d - W * tI n r 2)
  && (!decide (W = 0) || (decide (Q.d = 1) && decide (Q.e = 0) && decide (Q.g = 0) && decide (Q.p = 0) && decide (Q.q = 0)))
def chkL (W : Rat) (n : Nat) : Nat → Q5 → Q5 → List R5 → Bool
  | _, _, _, [] => true
  | r, P2, P1, R :: l => numR n r R && chkR W n r P2 P1 (ratR n r R) && chkL W n (r + 1) P1 (ratR n r R) l
def chkQ (n k : Nat) : Bool := chkL ((k : Rat) / 2) n 0 q5z q5z (rowsW (wF k) n n 0 (startW (wF k) n))

/-! The corner is the square's. -/
structure WinAt (w : FV) (n k : Nat) (W : Wn) : Prop where
  h0 : k < n → W.a00 = Mk w n k k k
  h1 : k + 1 < n → W.a01 = Mk w n k k ((k : Int) + 1) ∧ W.a10 = Mk w n k ((k : Int) + 1) k ∧ W.a11 = Mk w n k ((k : Int) + 1) ((k : Int) + 1)
  h2 : k + 2 < n → W.a02 = Mk w n k k ((k : Int) + 2) ∧ W.a20 = Mk w n k ((k : Int) + 2) k ∧ W.a12 = Mk w n k ((k : Int) + 1) ((k : Int) + 2) ∧ W.a21 = Mk w n k ((k : Int) + 2) ((k : Int) + 1) ∧ W.a22 = Mk w n k ((k : Int) + 2) ((k : Int) + 2)
theorem start_at (w : FV) (n : Nat) : WinAt w n 0 (startW w n) := ⟨fun _ => rfl, fun _ => ⟨rfl, rfl, rfl⟩, fun _ => ⟨rfl, rfl, rfl, rfl, rfl⟩⟩
theorem elm_in {n k : Nat} {M : Mx} {i j : Int} (h : ((k : Int) < i ∧ i < n ∧ i ≤ k + 2) ∧ ((k : Int) < j ∧ j < n ∧ j ≤ k + 2)) : elm n k M i j = sm2 (M i j) (fbin .quo .f32 (M i k) (M k k)) (M k j) := if_pos h
theorem WinAt.step {w : FV} {n k : Nat} {W : Wn} (h : WinAt w n k W) : WinAt w n (k + 1) (stepW w n k W) := by
  have hM : Mk w n (k + 1) = elm n k (Mk w n k) := rfl
  have e1 : ((k + 1 : Nat) : Int) = (k : Int) + 1 := by omega
  refine ⟨fun hk => ?_, fun hk => ?_, fun hk => ?_⟩
  · obtain ⟨h1, h2, h3⟩ := h.h1 hk
    rw [e1, hM, elm_in (by omega)]
    simp only [stepW, h.h0 (by omega), h1, h2, h3]
  · obtain ⟨h1, h2, h3⟩ := h.h1 (by omega)
    obtain ⟨h4, h5, h6, h7, h8⟩ := h.h2 (by omega)
    have e2 : (k : Int) + 1 + 1 = (k : Int) + 2 := by omega
    rw [e1, hM, e2, elm_in (by omega), elm_in (by omega), elm_in (by omega)]
    simp only [stepW, h.h0 (by omega), h1, h2, h3, h4, h5, h6, h7, h8, and_self]
  · have e3 : (k : Int) + 1 + 2 = (k : Int) + 3 := by omega
    have e2 : (k : Int) + 1 + 1 = (k : Int) + 2 := by omega
    rw [e1, e2, e3, Mk_far w n _ (by omega), Mk_far w n _ (by omega), Mk_far w n _ (by omega), Mk_far w n _ (by omega), Mk_far w n _ (by omega)]
    exact ⟨rfl, rfl, rfl, rfl, rfl⟩
/-- The row as the square has it. -/
def rowM (w : FV) (n r : Nat) : R5 := ⟨mF w n r r, mF w n r ((r + 1 : Nat) : Int), mF w n r ((r + 2 : Nat) : Int), lF w n (r + 1) r, lF w n (r + 2) r⟩
theorem WinAt.row {w : FV} {n k : Nat} {W : Wn} (h : WinAt w n k W) (hk : k < n) : ratR n k (rowW W) = ratR n k (rowM w n k) ∧ numR n k (rowW W) = numR n k (rowM w n k) := by
  have e1 : ((k + 1 : Nat) : Int) = (k : Int) + 1 := by omega
  have e2 : ((k + 2 : Nat) : Int) = (k : Int) + 2 := by omega
  have h0 : W.a00 = mF w n k k := (h.h0 hk).trans (Mk_end w (by omega) (.inl (Int.le_refl _))).symm
  by_cases c1 : k + 1 < n
  · obtain ⟨a1, a2, a3⟩ := h.h1 c1
    have b1 : W.a01 = mF w n k ((k + 1 : Nat) : Int) := by rw [a1, e1]; exact (Mk_end w (by omega) (.inl (Int.le_refl _))).symm
    have b2 : fbin .quo .f32 W.a10 W.a00 = lF w n (k + 1) k := by rw [lF_eq w (by omega), a2, h.h0 hk, ← e1]; rfl
    by_cases c2 : k + 2 < n
    · obtain ⟨a4, a5, _⟩ := h.h2 c2
      have b3 : W.a02 = mF w n k ((k + 2 : Nat) : Int) := by rw [a4, e2]; exact (Mk_end w (by omega) (.inl (Int.le_refl _))).symm
      have b4 : fbin .quo .f32 W.a20 W.a00 = lF w n (k + 2) k := by rw [lF_eq w (by omega), a5, h.h0 hk, ← e2]; rfl
      simp only [ratR, numR, rowW, rowM, b1, b2, b3, b4, h0, and_self]
      rw [← b2, ← b4, h0]
      exact ⟨rfl, rfl⟩
    · simp only [ratR, numR, rowW, rowM, b1, b2, h0, if_neg c2, decide_eq_false c2, Bool.not_false, Bool.true_or, and_self]
      rw [← b2, h0]
      exact ⟨rfl, rfl⟩
  · have c2 : ¬ k + 2 < n := by omega
    simp only [ratR, numR, rowW, rowM, h0, if_neg c1, if_neg c2, decide_eq_false c1, decide_eq_false c2, Bool.not_false, Bool.true_or, and_self]
/-- The rows of a solved square, as rational numbers. -/
def qR (w : FV) (n r : Nat) : Q5 := ratR n r (rowM w n r)
theorem chk_out {w : FV} {W : Rat} {n : Nat} : ∀ (f k : Nat) (V : Wn) (P2 P1 : Q5), f + k = n → WinAt w n k V → chkL W n k P2 P1 (rowsW w n f k V) = true →
    ∀ r : Nat, k ≤ r → r < n → numR n r (rowM w n r) = true ∧ chkR W n r (if k + 2 ≤ r then qR w n (r - 2) else if k + 1 ≤ r then P1 else P2) (if k + 1 ≤ r then qR w n (r - 1) else P1) (qR w n r) = true
  | 0, k, _, _, _, hf, _, _, r, h1, h2 => by omega
  | f + 1, k, V, P2, P1, hf, hV, hc, r, h1, h2 => by
    simp only [rowsW, chkL, Bool.and_eq_true] at hc
    obtain ⟨⟨c1, c2⟩, c3⟩ := hc
    obtain ⟨e1, e2⟩ := hV.row (by omega)
    have e1' : ratR n k (rowW V) = qR w n k := e1
    rw [e2] at c1
    rw [e1'] at c2 c3
    rcases (show r = k ∨ k + 1 ≤ r from by omega) with rfl | h
    · rw [if_neg (by omega), if_neg (by omega), if_neg (by omega)]
      exact ⟨c1, c2⟩
    · have ih := chk_out f (k + 1) _ _ _ (by omega) hV.step c3 r h h2
      refine ⟨ih.1, ?_⟩
      have := ih.2
      simp only [if_pos h]
      rcases (show r = k + 1 ∨ r = k + 2 ∨ k + 3 ≤ r from by omega) with h3 | h3 | h3
      · rw [if_neg (by omega), if_neg (by omega), if_neg (by omega)] at this
        rw [if_neg (by omega), show r - 1 = k from by omega]
        exact this
      · rw [if_neg (by omega), if_pos (by omega), if_pos (by omega)] at this
        rw [if_pos (by omega), show r - 2 = k from by omega]
        exact this
      · rw [if_pos (by omega), if_pos (by omega)] at this
        rw [if_pos (by omega)]
        exact this
theorem vl_num {x : FV} (h : numB x = true) : Vl .f32 x (ratF x) := by
  unfold numB at h
  cases x with
  | none => cases h
  | some b =>
    simp only at h
    cases hd : FloatKind.f32.decode b with
    | number s m e =>
      have : ratF (some b) = vl s m e := by simp only [ratF, hd]
      rw [this]
      exact Vl.of hd
    | infinity s => rw [hd] at h; cases h
    | nan s t => rw [hd] at h; cases h
end Go.Ab
