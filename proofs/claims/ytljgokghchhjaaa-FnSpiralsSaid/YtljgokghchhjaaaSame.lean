/- Numbers that are the same: what the program's SameNumber and the reference's l01Same tell. No conditions. -/
import Derived.Test.YtljgokghchhjaaaExt
namespace Go.Ab
open Go.Proofs

/-- A 32-bit float. -/
def Ok32 (x : FV) : Prop := ∃ b, b < 2 ^ 32 ∧ x = fv .f32 b
theorem Ok32.some {b : Nat} (h : Ok32 (some b)) : b < 2 ^ 32 ∧ (FloatKind.f32.decode b).isNaN = false := by
  obtain ⟨c, hc, he⟩ := h
  unfold fv at he
  split at he
  · cases he
  · rename_i hn; cases he; exact ⟨hc, by simpa using hn⟩
def sameB : FV → FV → Bool
  | none, none => true
  | some a, some b => a == b
  | _, _ => false

theorem sign_read {a : Nat} (ha : a < 2 ^ 32) : (a / FloatKind.f32.format.signWeight % 2 == 1) = decide (2 ^ 31 ≤ a) := by
  have : FloatKind.f32.format.signWeight = 2 ^ 31 := rfl
  rw [this]
  by_cases h : 2 ^ 31 ≤ a
  · have : a / 2 ^ 31 = 1 := by omega
    rw [this]; simp [h]
  · have : a / 2 ^ 31 = 0 := by omega
    rw [this]; simp [h]
theorem read_neg {a : Nat} (ha : a < 2 ^ 32) : (FloatKind.f32.format.read a).neg = decide (2 ^ 31 ≤ a) := by
  rw [← sign_read ha]
  unfold Ieee.Format.read
  dsimp only
  split
  · rfl
  · split
    · rfl
    · split <;> rfl
theorem word_sign (s : Bool) (r : Nat) (hr : r < 2 ^ 63) : decide (2 ^ 63 ≤ Ieee.double.word s r) = s := by
  have : Ieee.double.signWeight = 2 ^ 63 := rfl
  unfold Ieee.Format.word
  rw [this]
  cases s <;> simp <;> omega
theorem nearest_sign (s : Bool) (m : Nat) (e : Int) : decide (2 ^ 63 ≤ Ieee.double.nearest s m e) = s := by
  have hi : Ieee.double.infRung < 2 ^ 63 := Ieee.double.infRung_lt
  unfold Ieee.Format.nearest
  split
  · exact word_sign s 0 (by decide)
  · exact word_sign s _ (Nat.lt_of_le_of_lt (Nat.min_le_right _ _) hi)
theorem wide_sign {a w : Nat} (ha : a < 2 ^ 32) (h : fconv .f32 .f64 (some a) = some w) : decide (2 ^ 63 ≤ w) = decide (2 ^ 31 ≤ a) := by
  rw [← read_neg ha]
  simp only [fconv, Option.bind_some, floatToFloatBits, if_neg (by decide : ¬ FloatKind.f32 = FloatKind.f64)] at h
  cases hd : FloatKind.f32.decode a with
  | nan s t => rw [hd] at h; cases h
  | infinity s =>
    have hd' : FloatKind.f32.format.read a = .infinity s := hd
    rw [hd] at h; rw [hd']
    cases h
    exact word_sign s _ Ieee.double.infRung_lt
  | number s m e =>
    have hd' : FloatKind.f32.format.read a = .number s m e := hd
    rw [hd] at h; rw [hd']
    simp only at h
    split at h
    · cases h
    · cases h; exact nearest_sign s m e

theorem icmp {x y : Int} (h : compare x y = .eq) : x = y := by
  simp only [compare, compareOfLessAndEq] at h
  split at h
  · cases h
  · split at h
    · assumption
    · cases h
def canon (r : Nat) : Nat × Int := if r < 2 ^ 23 then (r, -149) else (2 ^ 23 + r % 2 ^ 23, (-149 : Int) + ((r / 2 ^ 23 - 1 : Nat) : Int))
theorem canon_lo {r : Nat} (h : r < 2 ^ 23) : canon r = (r, -149) := if_pos h
theorem canon_hi {r : Nat} (h : ¬ r < 2 ^ 23) : canon r = (2 ^ 23 + r % 2 ^ 23, (-149 : Int) + ((r / 2 ^ 23 - 1 : Nat) : Int)) := if_neg h
theorem rung_eq {r q : Nat} (hr : r < 255 * 2 ^ 23) (hq : q < 255 * 2 ^ 23)
    (key : (canon r).1 * 2 ^ ((canon r).2 - min (canon r).2 (canon q).2).toNat = (canon q).1 * 2 ^ ((canon q).2 - min (canon r).2 (canon q).2).toNat) : r = q := by
  by_cases h1 : r < 2 ^ 23
  · by_cases h2 : q < 2 ^ 23
    · simp only [canon_lo h1, canon_lo h2] at key
      simpa using key
    · simp only [canon_lo h1, canon_hi h2] at key
      exfalso
      have hd1 : 1 ≤ q / 2 ^ 23 := by omega
      have hmin : min (-149 : Int) ((-149 : Int) + ((q / 2 ^ 23 - 1 : Nat) : Int)) = -149 := by omega
      rw [hmin] at key
      have : (-149 - -149 : Int).toNat = 0 := by decide
      rw [this, Nat.pow_zero, Nat.mul_one] at key
      have h3 : 2 ^ 23 + q % 2 ^ 23 ≤ (2 ^ 23 + q % 2 ^ 23) * 2 ^ ((-149 : Int) + ((q / 2 ^ 23 - 1 : Nat) : Int) - -149 : Int).toNat := Nat.le_mul_of_pos_right _ (Nat.two_pow_pos _)
      omega
  · by_cases h2 : q < 2 ^ 23
    · simp only [canon_hi h1, canon_lo h2] at key
      exfalso
      have hd1 : 1 ≤ r / 2 ^ 23 := by omega
      have hmin : min ((-149 : Int) + ((r / 2 ^ 23 - 1 : Nat) : Int) : Int) (-149) = -149 := by omega
      rw [hmin] at key
      have : (-149 - -149 : Int).toNat = 0 := by decide
      rw [this, Nat.pow_zero, Nat.mul_one] at key
      have h3 : 2 ^ 23 + r % 2 ^ 23 ≤ (2 ^ 23 + r % 2 ^ 23) * 2 ^ ((-149 : Int) + ((r / 2 ^ 23 - 1 : Nat) : Int) - -149 : Int).toNat := Nat.le_mul_of_pos_right _ (Nat.two_pow_pos _)
      omega
    · simp only [canon_hi h1, canon_hi h2] at key
      have hr1 : 1 ≤ r / 2 ^ 23 := by omega
      have hq1 : 1 ≤ q / 2 ^ 23 := by omega
      have hrm : r % 2 ^ 23 < 2 ^ 23 := Nat.mod_lt _ (by decide)
      have hqm : q % 2 ^ 23 < 2 ^ 23 := Nat.mod_lt _ (by decide)
      have hrd := Nat.div_add_mod r (2 ^ 23)
      have hqd := Nat.div_add_mod q (2 ^ 23)
      generalize r / 2 ^ 23 = a at *
      generalize q / 2 ^ 23 = b at *
      generalize r % 2 ^ 23 = c at *
      generalize q % 2 ^ 23 = d at *
      rcases Nat.lt_trichotomy a b with hab | hab | hab
      · exfalso
        have e1 : (((-149 : Int) + ((a - 1 : Nat) : Int) : Int) - min ((-149 : Int) + ((a - 1 : Nat) : Int)) ((-149 : Int) + ((b - 1 : Nat) : Int))).toNat = 0 := by omega
        have e2 : (((-149 : Int) + ((b - 1 : Nat) : Int) : Int) - min ((-149 : Int) + ((a - 1 : Nat) : Int)) ((-149 : Int) + ((b - 1 : Nat) : Int))).toNat = (b - a - 1) + 1 := by omega
        rw [e1, e2, Nat.pow_zero, Nat.mul_one, Nat.pow_succ 2 (b - a - 1), ← Nat.mul_assoc] at key
        have h3 : 2 ^ 23 + d ≤ (2 ^ 23 + d) * 2 ^ (b - a - 1) := Nat.le_mul_of_pos_right _ (Nat.two_pow_pos _)
        omega
      · subst hab
        have e1 : (((-149 : Int) + ((a - 1 : Nat) : Int) : Int) - min ((-149 : Int) + ((a - 1 : Nat) : Int)) ((-149 : Int) + ((a - 1 : Nat) : Int))).toNat = 0 := by omega
        rw [e1, Nat.pow_zero, Nat.mul_one, Nat.mul_one] at key
        omega
      · exfalso
        have e1 : (((-149 : Int) + ((b - 1 : Nat) : Int) : Int) - min ((-149 : Int) + ((a - 1 : Nat) : Int)) ((-149 : Int) + ((b - 1 : Nat) : Int))).toNat = 0 := by omega
        have e2 : (((-149 : Int) + ((a - 1 : Nat) : Int) : Int) - min ((-149 : Int) + ((a - 1 : Nat) : Int)) ((-149 : Int) + ((b - 1 : Nat) : Int))).toNat = (a - b - 1) + 1 := by omega
        rw [e1, e2, Nat.pow_zero, Nat.mul_one, Nat.pow_succ 2 (a - b - 1), ← Nat.mul_assoc] at key
        have h3 : 2 ^ 23 + c ≤ (2 ^ 23 + c) * 2 ^ (a - b - 1) := Nat.le_mul_of_pos_right _ (Nat.two_pow_pos _)
        omega
/-- Equal and of one sign: the same bits. -/
theorem bits_eq {a b : Nat} (ha : a < 2 ^ 32) (hb : b < 2 ^ 32) (h : FloatKind.f32.format.order a b = some .eq) (hs : decide (2 ^ 31 ≤ a) = decide (2 ^ 31 ≤ b)) : a = b := by
  have hsw : FloatKind.f32.format.signWeight = 2 ^ 31 := rfl
  have hbi : FloatKind.f32.format.binade = 2 ^ 23 := rfl
  have hir : FloatKind.f32.format.infRung = 255 * 2 ^ 23 := by decide
  have hlp : FloatKind.f32.format.leastPlace = -149 := by decide
  have hsgn : (a / 2 ^ 31 % 2 == 1) = (b / 2 ^ 31 % 2 == 1) := by
    have h1 := sign_read ha; have h2 := sign_read hb
    rw [hsw] at h1 h2
    rw [h1, h2, hs]
  suffices a % 2 ^ 31 = b % 2 ^ 31 by
    by_cases h1 : 2 ^ 31 ≤ a
    · have : 2 ^ 31 ≤ b := by simpa [h1] using hs
      omega
    · have : ¬ 2 ^ 31 ≤ b := by simpa [h1] using hs
      omega
  unfold Ieee.Format.order Ieee.Format.read at h
  simp only [hsw, hbi, hir, hlp, hsgn] at h
  generalize (b / 2 ^ 31 % 2 == 1) = sg at h
  generalize a % 2 ^ 31 = r at *
  generalize b % 2 ^ 31 = q at *
  have hcmp : ∀ x y : Nat, compare (Ieee.signed sg x 0) (Ieee.signed sg y 0) = .eq → x = y := by
    intro x y hc
    have := icmp hc
    unfold Ieee.signed at this
    cases sg <;> simp at this <;> omega
  have hnum : ∀ (ma mb : Nat) (ea eb : Int), Ieee.Datum.order (.number sg ma ea) (.number sg mb eb) = some .eq → ma * 2 ^ (ea - min ea eb).toNat = mb * 2 ^ (eb - min ea eb).toNat := by
    intro ma mb ea eb ho
    simp only [Ieee.Datum.order, Option.some.injEq] at ho
    have := icmp ho
    unfold Ieee.signed at this
    rw [Nat.shiftLeft_eq, Nat.shiftLeft_eq] at this
    cases sg
    · simp only [Bool.false_eq_true, if_false] at this
      exact_mod_cast this
    · simp only [if_true, Int.neg_inj] at this
      exact_mod_cast this
  by_cases hr : r < 255 * 2 ^ 23
  · by_cases hq : q < 255 * 2 ^ 23
    · refine rung_eq hr hq (hnum _ _ _ _ ?_)
      rw [← h]
      congr 1
      · by_cases h1 : r < 2 ^ 23
        · rw [canon_lo h1, if_pos h1]
        · rw [canon_hi h1, if_neg h1, if_pos hr]
      · by_cases h1 : q < 2 ^ 23
        · rw [canon_lo h1, if_pos h1]
        · rw [canon_hi h1, if_neg h1, if_pos hq]
    · exfalso
      rw [if_neg (by omega : ¬ q < 2 ^ 23), if_neg hq] at h
      by_cases h1 : r < 2 ^ 23
      · rw [if_pos h1] at h
        split at h <;> cases sg <;> simp [Ieee.Datum.order] at h
      · rw [if_neg h1, if_pos hr] at h
        split at h <;> cases sg <;> simp [Ieee.Datum.order] at h
  · rw [if_neg (by omega : ¬ r < 2 ^ 23), if_neg hr] at h
    by_cases hr2 : r = 255 * 2 ^ 23
    · rw [if_pos hr2] at h
      by_cases hq1 : q < 2 ^ 23
      · rw [if_pos hq1] at h; cases sg <;> simp [Ieee.Datum.order] at h
      · rw [if_neg hq1] at h
        by_cases hq : q < 255 * 2 ^ 23
        · rw [if_pos hq] at h; cases sg <;> simp [Ieee.Datum.order] at h
        · rw [if_neg hq] at h
          by_cases hq2 : q = 255 * 2 ^ 23
          · omega
          · rw [if_neg hq2] at h; simp [Ieee.Datum.order] at h
    · rw [if_neg hr2] at h
      simp [Ieee.Datum.order] at h
end Go.Ab
