/- The squares of quiet lists: all of them reckoned. No conditions. -/
import Derived.Test.YtlnfbadoglllbaaQn
namespace Go.Ab

def chkAll (n : Nat) : Bool := (List.range 17).all fun k => chkQ n k
theorem chk_3 : chkAll 3 = true := by decide +kernel
theorem chk_4 : chkAll 4 = true := by decide +kernel
theorem chk_5 : chkAll 5 = true := by decide +kernel
theorem chk_6 : chkAll 6 = true := by decide +kernel
theorem chk_7 : chkAll 7 = true := by decide +kernel
theorem chk_8 : chkAll 8 = true := by decide +kernel
theorem chk_9 : chkAll 9 = true := by decide +kernel
theorem chk_10 : chkAll 10 = true := by decide +kernel
theorem chk_11 : chkAll 11 = true := by decide +kernel
theorem chk_12 : chkAll 12 = true := by decide +kernel
theorem chk_13 : chkAll 13 = true := by decide +kernel
theorem chk_14 : chkAll 14 = true := by decide +kernel
theorem chk_all {n k : Nat} (hn : 3 ≤ n ∧ n ≤ 14) (hk : k ≤ 16) : chkQ n k = true := by
  have h : chkAll n = true := by
    obtain ⟨m, rfl⟩ : ∃ m, n = m + 3 := ⟨n - 3, by omega⟩
    match m, hn with
    | 0, _ => exact chk_3
    | 1, _ => exact chk_4
    | 2, _ => exact chk_5
    | 3, _ => exact chk_6
    | 4, _ => exact chk_7
    | 5, _ => exact chk_8
    | 6, _ => exact chk_9
    | 7, _ => exact chk_10
    | 8, _ => exact chk_11
    | 9, _ => exact chk_12
    | 10, _ => exact chk_13
    | 11, _ => exact chk_14
    | m + 12, h => omega
  exact (List.all_eq_true.1 h) k (by simp; omega)
/-- What is known of the rows. -/
structure QRow (W : Rat) (n r : Nat) (w : FV) (P2 P1 Q : Q5) : Prop where
  vd : Vl .f32 (mF w n r r) Q.d
  v1 : r + 1 < n → Vl .f32 (mF w n r ((r + 1 : Nat) : Int)) Q.e ∧ Vl .f32 (lF w n (r + 1) r) Q.p
  v2 : r + 2 < n → Vl .f32 (mF w n r ((r + 2 : Nat) : Int)) Q.g ∧ Vl .f32 (lF w n (r + 2) r) Q.q
  z1 : ¬ r + 1 < n → Q.e = 0 ∧ Q.p = 0
  z2 : ¬ r + 2 < n → Q.g = 0 ∧ Q.q = 0
  chk : chkR W n r P2 P1 Q = true
theorem rows_ok {n k : Nat} (hn : 3 ≤ n ∧ n ≤ 14) (hk : k ≤ 16) {r : Nat} (hr : r < n) :
    QRow ((k : Rat) / 2) n r (wF k) (if 2 ≤ r then qR (wF k) n (r - 2) else q5z) (if 1 ≤ r then qR (wF k) n (r - 1) else q5z) (qR (wF k) n r) := by
  have h := chk_out n 0 _ _ _ (by omega) (start_at (wF k) n) (chk_all hn hk) r (by omega) hr
  obtain ⟨h1, h2⟩ := h
  simp only [Nat.zero_add] at h2
  have hP : (if 2 ≤ r then qR (wF k) n (r - 2) else if 1 ≤ r then q5z else q5z) = if 2 ≤ r then qR (wF k) n (r - 2) else q5z := by
    congr 1
    exact ite_self _
  rw [hP] at h2
  simp only [numR, Bool.and_eq_true, Bool.or_eq_true, Bool.not_eq_true', decide_eq_false_iff_not] at h1
  obtain ⟨⟨n1, n2⟩, n3⟩ := h1
  refine ⟨vl_num n1, fun c => ?_, fun c => ?_, fun c => ?_, fun c => ?_, h2⟩
  · rcases n2 with n2 | n2
    · exact absurd c n2
    · simp only [qR, ratR, if_pos c]
      exact ⟨vl_num n2.1, vl_num n2.2⟩
  · rcases n3 with n3 | n3
    · exact absurd c n3
    · simp only [qR, ratR, if_pos c]
      exact ⟨vl_num n3.1, vl_num n3.2⟩
  · simp only [qR, ratR, if_neg c, and_self]
  · simp only [qR, ratR, if_neg c, and_self]
end Go.Ab
