/- The point of the unit circle at some turns, beside what whole numbers tell. No conditions. -/
import Derived.Test.YtljgokghchhjaaaPh
import Derived.Test.YtljgokghchhjaaaEx
namespace Go.Ab

def sS : Int := 1099511627776
def sT : Int := 6908435304715
def cI (j : Nat) : Int := 2 * (8 - (j : Int)) * (2 * (8 - (j : Int)) + 1)
def pI (u : Int) : Nat → Int
  | 0 => sS
  | j + 1 => sS - u * pI u j / (cI j * sS)
def sI (f : Int) : Int :=
  let z := f * sT / sS
  z * pI (z * z / sS) 8 / sS
def phI (t : Int) : Int × Int :=
  let f := t % sS
  let q := 4 * f / sS
  let g := f - q * (sS / 4)
  if q = 0 then (sI (sS / 4 - g), sI g)
  else if q = 1 then (- sI g, sI (sS / 4 - g))
  else if q = 2 then (- sI (sS / 4 - g), - sI g)
  else (sI g, - sI (sS / 4 - g))
/-- A whole number as a share. -/
def shR (a : Int) : Rat := (a : Rat) / 1099511627776
theorem shR_le {a b : Int} (h : a ≤ b) : shR a ≤ shR b := by
  have : (a : Rat) ≤ (b : Rat) := Rat.intCast_le_intCast.2 h
  unfold shR
  grind
theorem shR_S : shR sS = 1 := by unfold shR sS; decide +kernel
theorem shR_0 : shR 0 = 0 := by unfold shR; decide +kernel
theorem div_shR (a b : Int) {d : Int} (hd : 0 < d) : (d : Rat) * shR (a * b / (d * sS)) ≤ shR a * shR b ∧ shR a * shR b ≤ (d : Rat) * shR (a * b / (d * sS)) + (d : Rat) / 1099511627776 := by
  have hS : (0 : Int) < sS := by decide
  have hds : 0 < d * sS := Int.mul_pos hd hS
  have h1 := Int.ediv_mul_le (a * b) (show d * sS ≠ 0 by omega)
  have h2 := Int.lt_ediv_add_one_mul_self (a * b) hds
  generalize a * b / (d * sS) = q at *
  have h1' : ((q * (d * sS) : Int) : Rat) ≤ ((a * b : Int) : Rat) := Rat.intCast_le_intCast.2 h1
  have h2' : ((a * b : Int) : Rat) ≤ (((q + 1) * (d * sS) : Int) : Rat) := Rat.intCast_le_intCast.2 (Int.le_of_lt h2)
  have eS : ((sS : Int) : Rat) = 1099511627776 := rfl
  rw [Rat.intCast_mul, Rat.intCast_mul, Rat.intCast_mul, eS] at h1'
  rw [Rat.intCast_mul, Rat.intCast_mul, Rat.intCast_mul, Rat.intCast_add, eS, show ((1 : Int) : Rat) = 1 from rfl] at h2'
  unfold shR
  constructor <;> grind
theorem div_shR1 (a b : Int) : shR (a * b / sS) ≤ shR a * shR b ∧ shR a * shR b ≤ shR (a * b / sS) + 1 / 1099511627776 := by
  have h := div_shR a b (d := 1) (by decide)
  rw [Int.one_mul, show ((1 : Int) : Rat) = 1 from rfl, Rat.one_mul] at h
  exact h
theorem near64 {q r : Rat} (h : Rnd .f64 q r) (h1 : -16 ≤ q) (h2 : q ≤ 16) : -(1 / 100000000000000) ≤ q - r ∧ q - r ≤ 1 / 100000000000000 := by
  have h3 := h.near 16 h1 h2
  have e : (16 : Rat) * feps .f64 + ftiny .f64 ≤ 1 / 100000000000000 := by decide +kernel
  constructor <;> grind
theorem fit16 {q : Rat} (h1 : -100 ≤ q) (h2 : q ≤ 100) : Fit .f64 q := by
  have : (100 : Rat) < p2 (ftop .f64) := by decide +kernel
  constructor <;> grind
theorem cI_vl {j : Nat} (h : j < 8) : Vl .f64 (sinK j) ((cI j : Int) : Rat) ∧ 6 ≤ cI j := by
  unfold sinK cI
  have hv := vl_ofInt .f64 (2 * (8 - (j : Int)) * (2 * (8 - (j : Int)) + 1))
  have hc : j = 0 ∨ j = 1 ∨ j = 2 ∨ j = 3 ∨ j = 4 ∨ j = 5 ∨ j = 6 ∨ j = 7 := by omega
  rcases hc with rfl | rfl | rfl | rfl | rfl | rfl | rfl | rfl
  all_goals exact ⟨hv (by decide), by decide⟩
/-- The row of a sine. -/
theorem sinP_acc {u : FV} {q : Rat} {uI : Int} (hu : Vl .f64 u q) (hd : -(1 / 50000000000) ≤ q - shR uI ∧ q - shR uI ≤ 1 / 50000000000) (h0 : 0 ≤ q) (h4 : q ≤ 249 / 100) (hI : 0 ≤ uI) : ∀ j, j ≤ 8 →
    (0 ≤ pI uI j ∧ pI uI j ≤ sS) ∧ ∃ r, Vl .f64 (sinP u j) r ∧ -(1 / 25000000000) ≤ r - shR (pI uI j) ∧ r - shR (pI uI j) ≤ 1 / 25000000000
  | 0, _ => ⟨⟨by rw [pI]; decide, by rw [pI]; exact Int.le_refl _⟩, 1, vl_d1, by rw [pI, shR_S]; decide +kernel, by rw [pI, shR_S]; decide +kernel⟩
  | j + 1, hj => by
    obtain ⟨⟨p0, p1⟩, r, hr, h1, h2⟩ := sinP_acc hu hd h0 h4 hI j (by omega)
    obtain ⟨hk, h6⟩ := cI_vl (j := j) (by omega)
    have hw := div_shR uI (pI uI j) (d := cI j) (by omega)
    have hq0 : 0 ≤ uI * pI uI j / (cI j * sS) := Int.ediv_nonneg (Int.mul_nonneg hI p0) (Int.mul_nonneg (by omega) (by decide))
    have s0 := shR_le p0
    have s1 := shR_le p1
    have s2 := shR_le hI
    rw [shR_0] at s0 s2
    rw [shR_S] at s1
    have t0 := shR_le hq0
    rw [shR_0] at t0
    have hk6 : (6 : Rat) ≤ ((cI j : Int) : Rat) := by
      have := Rat.intCast_le_intCast.2 h6
      exact this
    have eP : shR (pI uI (j + 1)) = 1 - shR (uI * pI uI j / (cI j * sS)) := by
      rw [← shR_S]
      unfold shR
      rw [pI, Rat.intCast_sub]
      grind
    have hple : pI uI (j + 1) ≤ sS := by rw [pI]; omega
    generalize uI * pI uI j / (cI j * sS) = w at *
    generalize ((cI j : Int) : Rat) = c at *
    have c0 : c ≠ 0 := by grind
    -- the product
    have b1 := mul_bnd (p := q) (q := r - shR (pI uI j)) (a := 249 / 100) (b := 1 / 25000000000) (by grind) h4 h1 h2
    have b2 := mul_bnd (p := q - shR uI) (q := shR (pI uI j)) (a := 1 / 50000000000) (b := 1) hd.1 hd.2 (by grind) s1
    have b3 := mul_bnd (p := q) (q := r) (a := 249 / 100) (b := 2) (by grind) h4 (by grind) (by grind)
    have b4 := mul_bnd (p := shR uI) (q := shR (pI uI j)) (a := 25 / 10) (b := 1) (by grind) (by grind) (by grind) s1
    obtain ⟨s, hs, hsr⟩ := vl_mul hu hr (fit16 (by grind) (by grind))
    have n1 := near64 hsr (by grind) (by grind)
    have key : q * r = shR uI * shR (pI uI j) + q * (r - shR (pI uI j)) + (q - shR uI) * shR (pI uI j) := by grind
    have ds : -(1 / 8000000000) ≤ s - shR uI * shR (pI uI j) ∧ s - shR uI * shR (pI uI j) ≤ 1 / 8000000000 := by constructor <;> grind
    clear b1 b2 key n1 hsr
    generalize shR uI * shR (pI uI j) = m at *
    have hsk : s / c * c = s := Rat.div_mul_cancel c0
    have hq1 : -3 ≤ s / c := by
      rcases Rat.le_total (a := -3) (b := s / c) with h | h
      · exact h
      · have := Rat.mul_nonneg (show 0 ≤ -3 - s / c by grind) (show 0 ≤ c by grind)
        grind
    have hq2 : s / c ≤ 3 := by
      rcases Rat.le_total (a := s / c) (b := 3) with h | h
      · exact h
      · have := Rat.mul_nonneg (show 0 ≤ s / c - 3 by grind) (show 0 ≤ c by grind)
        grind
    have ht : p2 60 ≤ p2 (ftop .f64 - 1) := by decide +kernel
    have h60 := p60
    obtain ⟨t, ht1, ht2⟩ := vl_div hs hk c0 ⟨by grind, by grind⟩
    have n2 := near64 ht2 (by grind) (by grind)
    generalize s / c = d at *
    -- t beside w
    have e1 : (d - shR w) * c ≤ 1 / 8000000000 + c / 1099511627776 := by grind
    have e2 : -(1 / 8000000000) ≤ (d - shR w) * c := by grind
    have f1 : d - shR w ≤ 1 / 45000000000 := by
      rcases Rat.le_total (a := d - shR w) (b := 1 / 45000000000) with h | h
      · exact h
      · have := Rat.mul_nonneg (show 0 ≤ d - shR w - 1 / 45000000000 by grind) (show 0 ≤ c - 6 by grind)
        grind
    have f2 : -(1 / 45000000000) ≤ d - shR w := by
      rcases Rat.le_total (a := -(1 / 45000000000)) (b := d - shR w) with h | h
      · exact h
      · have := Rat.mul_nonneg (show 0 ≤ -(1 / 45000000000) - (d - shR w) by grind) (show 0 ≤ c - 6 by grind)
        grind
    have hw1 : shR w ≤ 1 / 2 := by
      rcases Rat.le_total (a := shR w) (b := 1 / 2) with h | h
      · exact h
      · have := Rat.mul_nonneg (show 0 ≤ shR w - 1 / 2 by grind) (show 0 ≤ c - 6 by grind)
        grind
    obtain ⟨v, hv, hvr⟩ := vl_sub vl_d1 ht1 (fit16 (by grind) (by grind))
    have n3 := near64 hvr (by grind) (by grind)
    refine ⟨⟨?_, hple⟩, v, hv, ?_, ?_⟩
    · rcases (show pI uI (j + 1) < 0 ∨ 0 ≤ pI uI (j + 1) from by omega) with h | h
      · exfalso
        have := shR_le (show pI uI (j + 1) ≤ 0 by omega)
        rw [eP, shR_0] at this
        grind
      · exact h
    · rw [eP]; grind
    · rw [eP]; grind
/-- A sine within the first quarter. -/
theorem sinV_acc {F : FV} {f : Int} (hF : Vl .f64 F (shR f)) (h0 : 0 ≤ f) (h4 : 4 * f ≤ sS) : ∃ r, Vl .f64 (sinV F) r ∧ -(1 / 10000000000) ≤ r - shR (sI f) ∧ r - shR (sI f) ≤ 1 / 10000000000 := by
  have s0 := shR_le h0
  have s4 : shR f ≤ 1 / 4 := by
    have h : ((4 * f : Int) : Rat) ≤ ((sS : Int) : Rat) := Rat.intCast_le_intCast.2 h4
    rw [Rat.intCast_mul, show ((4 : Int) : Rat) = 4 from rfl, show ((sS : Int) : Rat) = 1099511627776 from rfl] at h
    unfold shR
    grind
  rw [shR_0] at s0
  have eh : halfF F = F := by
    unfold halfF
    rw [vl_geq hF vl_dH, if_neg]
    rw [decide_eq_false (by grind)]
    simp
  have ef : foldF F = F := by
    unfold foldF
    rw [vl_gtr hF vl_dQ, if_neg]
    rw [decide_eq_false (by grind)]
    simp
  have hT : Vl .f64 dT (884279719003555 / 140737488355328) := Vl.c (by decide +kernel)
  have hZ : sinZ F = fbin .mul .f64 F dT := by unfold sinZ; rw [eh, ef]
  have cT1 : (884279719003555 / 140737488355328 : Rat) ≤ shR sT + 1 / 1099511627776 := by unfold shR sT; decide +kernel
  have cT2 : shR sT ≤ (884279719003555 / 140737488355328 : Rat) := by unfold shR sT; decide +kernel
  have cT3 : (884279719003555 / 140737488355328 : Rat) ≤ 62832 / 10000 := by decide +kernel
  have cT4 : (6 : Rat) ≤ shR sT := by unfold shR sT; decide +kernel
  have dz := div_shR1 f sT
  have z0 : 0 ≤ f * sT / sS := Int.ediv_nonneg (Int.mul_nonneg h0 (by decide)) (by decide)
  have hsI : sI f = (f * sT / sS) * pI ((f * sT / sS) * (f * sT / sS) / sS) 8 / sS := rfl
  rw [hsI]
  have hsV : sinV F = fbin .mul .f64 (sinZ F) (sinP (fbin .mul .f64 (sinZ F) (sinZ F)) 8) := rfl
  rw [hsV, hZ]
  generalize (884279719003555 / 140737488355328 : Rat) = T at *
  generalize f * sT / sS = zI at *
  have b1 := mul_bnd (p := shR f) (q := T) (a := 1 / 4) (b := 62832 / 10000) (by grind) s4 (by grind) cT3
  have b2 := mul_bnd (p := shR f) (q := T - shR sT) (a := 1 / 4) (b := 1 / 1099511627776) (by grind) s4 (by grind) (by grind)
  obtain ⟨z, hz, hzr⟩ := vl_mul hF hT (fit16 (by grind) (by grind))
  have n1 := near64 hzr (by grind) (by grind)
  have zz := (hzr.side 0 (rep_zero _)).2 (by
    have := Rat.mul_nonneg s0 (show 0 ≤ T by grind)
    exact this)
  have z0' := shR_le z0
  rw [shR_0] at z0'
  have d1 : -(1 / 500000000000) ≤ z - shR zI ∧ z - shR zI ≤ 1 / 500000000000 := by
    have key : shR f * T = shR f * shR sT + shR f * (T - shR sT) := by grind
    constructor <;> grind
  have zm : z ≤ 15709 / 10000 := by grind
  clear b2 n1 hzr dz b1
  have b3 := mul_bnd (p := z - shR zI) (q := z + shR zI) (a := 1 / 500000000000) (b := 3142 / 1000) d1.1 d1.2 (by grind) (by grind)
  have b4 := mul_bnd (p := z) (q := z) (a := 15709 / 10000) (b := 15709 / 10000) (by grind) zm (by grind) zm
  have b5 := Rat.mul_nonneg zz zz
  obtain ⟨u, hu, hur⟩ := vl_mul hz hz (fit16 (by grind) (by grind))
  have n2 := near64 hur (by grind) (by grind)
  have u0 := (hur.side 0 (rep_zero _)).2 b5
  have du := div_shR1 zI zI
  have uI0 : 0 ≤ zI * zI / sS := Int.ediv_nonneg (Int.mul_nonneg z0 z0) (by decide)
  have key2 : (z - shR zI) * (z + shR zI) = z * z - shR zI * shR zI := by grind
  generalize zI * zI / sS = uI at *
  obtain ⟨⟨p0, p1⟩, r, hr, r1, r2⟩ := sinP_acc (uI := uI) hu (by constructor <;> grind) u0 (by grind) uI0 8 (Nat.le_refl _)
  have q0 := shR_le p0
  have q1 := shR_le p1
  rw [shR_0] at q0
  rw [shR_S] at q1
  have dv := div_shR1 zI (pI uI 8)
  generalize pI uI 8 = p at *
  have b6 := mul_bnd (p := z) (q := r - shR p) (a := 15709 / 10000) (b := 1 / 25000000000) (by grind) zm r1 r2
  have b7 := mul_bnd (p := z - shR zI) (q := shR p) (a := 1 / 500000000000) (b := 1) d1.1 d1.2 (by grind) q1
  have b8 := mul_bnd (p := z) (q := r) (a := 2) (b := 2) (by grind) (by grind) (by grind) (by grind)
  obtain ⟨v, hv, hvr⟩ := vl_mul hz hr (fit16 (by grind) (by grind))
  have n3 := near64 hvr (by grind) (by grind)
  have key3 : z * r = shR zI * shR p + z * (r - shR p) + (z - shR zI) * shR p := by grind
  refine ⟨v, hv, ?_, ?_⟩ <;> grind
end Go.Ab
/- The point of the unit circle at some turns, beside what whole numbers tell. No conditions. -/
namespace Go.Ab

theorem sS_pos : (0 : Int) < sS := by decide
theorem rep_shR {a : Int} (h : a.natAbs ≤ 2 ^ 53) : Rep .f64 (shR a) := by
  have e : p2 (-40) = 1 / 1099511627776 := by decide +kernel
  have hb : a.natAbs ≤ 2 ^ (FloatKind.f64.format.fractionBits + 1) := h
  have hl : FloatKind.f64.format.leastPlace ≤ -40 := by decide
  rcases Int.le_total 0 a with h0 | h0
  · refine .inl ⟨a.natAbs, -40, hb, hl, ?_⟩
    have : ((a.natAbs : Nat) : Rat) = (a : Rat) := by
      rw [← Rat.intCast_natCast]
      congr 1
      omega
    rw [this, e]
    unfold shR
    grind
  · refine .inr ⟨a.natAbs, -40, hb, hl, ?_⟩
    have : ((a.natAbs : Nat) : Rat) = -(a : Rat) := by
      rw [← Rat.intCast_natCast, ← Rat.intCast_neg]
      congr 1
      omega
    rw [this, e]
    unfold shR
    grind
theorem shR_sub (a b : Int) : shR (a - b) = shR a - shR b := by
  unfold shR
  rw [Rat.intCast_sub]
  grind
theorem shR_neg (a : Int) : shR (-a) = -shR a := by
  unfold shR
  rw [Rat.intCast_neg]
  grind
theorem shR_lt {a b : Int} (h : shR a < shR b) : a < b := by
  have : (a : Rat) < (b : Rat) := by unfold shR at h; grind
  exact Rat.intCast_lt_intCast.1 this
theorem shR_inj_le {a b : Int} (h : shR a ≤ shR b) : a ≤ b := by
  have : (a : Rat) ≤ (b : Rat) := by unfold shR at h; grind
  exact Rat.intCast_le_intCast.1 this
theorem shR_mul (n : Int) : shR (n * sS) = (n : Rat) := by
  unfold shR
  rw [Rat.intCast_mul, show ((sS : Int) : Rat) = 1099511627776 from rfl]
  grind
theorem shR_bd {a : Int} (h : a.natAbs ≤ 2 ^ 45) : -100 ≤ shR a ∧ shR a ≤ 100 := by
  have h1 : ((-(2 ^ 45) : Int) : Rat) ≤ (a : Rat) := Rat.intCast_le_intCast.2 (by omega)
  have h2 : (a : Rat) ≤ ((2 ^ 45 : Int) : Rat) := Rat.intCast_le_intCast.2 (by omega)
  rw [show ((-(2 ^ 45) : Int) : Rat) = -35184372088832 from rfl] at h1
  rw [show ((2 ^ 45 : Int) : Rat) = 35184372088832 from rfl] at h2
  unfold shR
  constructor <;> grind
/-- A difference that can be written. -/
theorem sub_sh {x y : FV} {a b : Int} (hx : Vl .f64 x (shR a)) (hy : Vl .f64 y (shR b)) (h : (a - b).natAbs ≤ 2 ^ 45) : Vl .f64 (fbin .sub .f64 x y) (shR (a - b)) := by
  have h0 := shR_bd h
  have e := shR_sub a b
  obtain ⟨r, hr, hrr⟩ := vl_sub hx hy (by rw [← e]; exact fit16 h0.1 h0.2)
  rw [← e] at hrr
  rw [rnd_rep hrr (rep_shR (Nat.le_trans h (by decide)))] at hr
  exact hr
/-- The part behind the point. -/
theorem frac_sh {x : FV} {a : Int} (hx : Vl .f64 x (shR a)) (h0 : 0 ≤ a) (h2 : a < 4 * sS) : Vl .f64 (fracF x) (shR (a % sS)) ∧ 0 ≤ a % sS ∧ a % sS < sS := by
  have hm1 := Int.emod_nonneg a (show sS ≠ 0 by decide)
  have hm2 := Int.emod_lt_of_pos a sS_pos
  have hdm := Int.emod_add_mul_ediv a sS
  have hS : sS = 1099511627776 := rfl
  have hx' := hx
  obtain ⟨b, s, m, e, rfl, hd, hq⟩ := hx
  obtain ⟨n, hn, ht⟩ := vl_trunc (k := .f64) ⟨b, s, m, e, rfl, hd, hq⟩
  have htr : truncI (some b) = n := by simp [truncI, hn]
  have s0 := shR_le h0
  rw [shR_0] at s0
  have hn1 : (n : Rat) ≤ shR a ∧ shR a < (n : Rat) + 1 := by
    rcases ht with ⟨_, h1, h2⟩ | ⟨h1, h3, h4⟩
    · exact ⟨h1, h2⟩
    · have hz : shR a = 0 := by grind
      have h5 : ((n : Int) : Rat) < ((1 : Int) : Rat) := by
        rw [show ((1 : Int) : Rat) = 1 from rfl]
        grind
      have h6 : ((0 : Int) : Rat) ≤ ((n : Int) : Rat) := by
        rw [show ((0 : Int) : Rat) = 0 from rfl]
        grind
      have h7 := Rat.intCast_lt_intCast.1 h5
      have h8 := Rat.intCast_le_intCast.1 h6
      have : n = 0 := by omega
      subst this
      rw [show ((0 : Int) : Rat) = 0 from rfl, hz]
      constructor <;> grind
  have k1 : n * sS ≤ a := shR_inj_le (by rw [shR_mul]; exact hn1.1)
  have k2 : a < (n + 1) * sS := shR_lt (by rw [shR_mul, Rat.intCast_add]; exact hn1.2)
  have hna : n = a / sS := by
    have := Int.add_mul n 1 sS
    rw [Int.mul_comm sS] at hdm
    generalize a / sS = q at *
    have : n * sS = n * 1099511627776 := rfl
    have : q * sS = q * 1099511627776 := rfl
    omega
  have hni := vl_ofInt .f64 n (by
    have : FloatKind.f64.format.fractionBits = 52 := rfl
    rw [this]
    have : n * sS = n * 1099511627776 := rfl
    have : (n + 1) * sS = (n + 1) * 1099511627776 := rfl
    omega)
  have e1 : a - n * sS = a % sS := by
    rw [hna, Int.mul_comm]
    omega
  rw [← shR_mul n] at hni
  have hsub := sub_sh hx' hni (by omega)
  rw [e1] at hsub
  refine ⟨?_, hm1, hm2⟩
  unfold fracF
  rw [htr, vl_lss hsub vl_d0, if_neg]
  · exact hsub
  · have := shR_le hm1
    rw [shR_0] at this
    rw [decide_eq_false (by grind)]
    simp
theorem sinF_acc {x : FV} {g : Int} (hx : Vl .f64 x (shR g)) (h0 : 0 ≤ g) (h4 : 4 * g ≤ sS) : ∃ r, Vl .f64 (sinF x) r ∧ -(1 / 10000000000) ≤ r - shR (sI g) ∧ r - shR (sI g) ≤ 1 / 10000000000 := by
  have hS : sS = 1099511627776 := rfl
  obtain ⟨hf, _, _⟩ := frac_sh hx h0 (by omega)
  rw [Int.emod_eq_of_lt h0 (by omega)] at hf
  have hge : cmpB .geq (fcmp .f64 (fracF x) dH) = false := by
    rw [vl_geq hf vl_dH]
    refine decide_eq_false ?_
    have h : ((4 * g : Int) : Rat) ≤ ((sS : Int) : Rat) := Rat.intCast_le_intCast.2 h4
    rw [Rat.intCast_mul, show ((4 : Int) : Rat) = 4 from rfl, show ((sS : Int) : Rat) = 1099511627776 from rfl] at h
    unfold shR
    grind
  unfold sinF
  rw [hge, if_neg (by simp)]
  exact sinV_acc hf h0 h4
theorem qF_sh {f : FV} {a : Int} (hf : Vl .f64 f (shR a)) (h0 : 0 ≤ a) (h1 : a < sS) : ∀ i : Nat, i ≤ 3 → Vl .f64 (qF i f) (shR (a - i * (sS / 4)))
  | 0, _ => by
    have : a - ((0 : Nat) : Int) * (sS / 4) = a := by omega
    rw [this]
    exact hf
  | i + 1, h => by
    have hS : sS = 1099511627776 := rfl
    have ih := qF_sh hf h0 h1 i (by omega)
    have hq : Vl .f64 dQ (shR (sS / 4)) := by
      have : shR (sS / 4) = 1 / 4 := by unfold shR sS; decide +kernel
      rw [this]
      exact vl_dQ
    have e4 : sS / 4 = 274877906944 := by decide
    have := sub_sh ih hq (by rw [e4]; omega)
    rw [show a - ((i + 1 : Nat) : Int) * (sS / 4) = a - (i : Int) * (sS / 4) - sS / 4 from by rw [e4]; omega]
    exact this
theorem geQ_sh {f : FV} {a : Int} (hf : Vl .f64 f (shR a)) : geQ f = decide (sS / 4 ≤ a) := by
  have e : (1 / 4 : Rat) = shR (sS / 4) := by unfold shR sS; decide +kernel
  unfold geQ
  rw [vl_geq hf vl_dQ, e]
  by_cases h : sS / 4 ≤ a
  · rw [decide_eq_true h, decide_eq_true (shR_le h)]
  · rw [decide_eq_false h, decide_eq_false fun h' => h (shR_inj_le h')]
/-- Within how much. -/
def Nr (x : FV) (k : FloatKind) (a : Int) (e : Rat) : Prop := ∃ r, Vl k x r ∧ -e ≤ r - shR a ∧ r - shR a ≤ e
theorem nr_neg {x : FV} {a : Int} {e : Rat} (h : Nr x .f64 a e) (he : 0 ≤ e ∧ e ≤ 1) (ha : -2 ≤ shR a ∧ shR a ≤ 2) : Nr (fbin .sub .f64 d0 x) .f64 (-a) (e + 1 / 100000000000000) := by
  obtain ⟨r, hr, h1, h2⟩ := h
  obtain ⟨s, hs, hsr⟩ := vl_sub vl_d0 hr (fit16 (by grind) (by grind))
  have n := near64 hsr (by grind) (by grind)
  refine ⟨s, hs, ?_, ?_⟩ <;> rw [shR_neg] <;> grind
theorem nr_narrow {x : FV} {a : Int} {e : Rat} (h : Nr x .f64 a e) (he : 0 ≤ e ∧ e ≤ 1 / 1000000000) (ha : -2 ≤ shR a ∧ shR a ≤ 2) : Nr (fconv .f64 .f32 x) .f32 a (1 / 1000000) := by
  obtain ⟨r, hr, h1, h2⟩ := h
  have h60 := p60
  obtain ⟨s, hs, hsr⟩ := vl_narrow hr (fit32 (by grind) (by grind))
  have n := hsr.near 3 (by grind) (by grind)
  have e3 : (3 : Rat) * feps .f32 + ftiny .f32 ≤ 4 / 10000000 := by decide +kernel
  refine ⟨s, hs, ?_, ?_⟩ <;> grind
theorem sI_bd {g : Int} (h0 : 0 ≤ g) (h4 : 4 * g ≤ sS) : -2 ≤ shR (sI g) ∧ shR (sI g) ≤ 2 := by
  have hS : sS = 1099511627776 := rfl
  have hz0 : 0 ≤ g * sT / sS := Int.ediv_nonneg (Int.mul_nonneg h0 (by decide)) (by decide)
  have hd := div_shR1 g sT
  have s4 : shR g ≤ 1 / 4 := by
    have h : ((4 * g : Int) : Rat) ≤ ((sS : Int) : Rat) := Rat.intCast_le_intCast.2 h4
    rw [Rat.intCast_mul, show ((4 : Int) : Rat) = 4 from rfl, show ((sS : Int) : Rat) = 1099511627776 from rfl] at h
    unfold shR
    grind
  have s0 := shR_le h0
  have z0 := shR_le hz0
  rw [shR_0] at s0 z0
  have cT : shR sT ≤ 63 / 10 := by unfold shR sT; decide +kernel
  have cT0 : 0 ≤ shR sT := by unfold shR sT; decide +kernel
  have b := mul_bnd (p := shR g) (q := shR sT) (a := 1 / 4) (b := 63 / 10) (by grind) s4 (by grind) cT
  have hu0 : 0 ≤ (g * sT / sS) * (g * sT / sS) / sS := Int.ediv_nonneg (Int.mul_nonneg hz0 hz0) (by decide)
  have du := div_shR1 (g * sT / sS) (g * sT / sS)
  have hsI : sI g = (g * sT / sS) * pI ((g * sT / sS) * (g * sT / sS) / sS) 8 / sS := rfl
  rw [hsI]
  generalize g * sT / sS = z at *
  have bz := mul_bnd (p := shR z) (q := shR z) (a := 1576 / 1000) (b := 1576 / 1000) (by grind) (by grind) (by grind) (by grind)
  have u0 := shR_le hu0
  rw [shR_0] at u0
  generalize z * z / sS = u at *
  -- the row by a float of the same value
  have hp : ∀ j, j ≤ 8 → 0 ≤ pI u j ∧ pI u j ≤ sS := fun j hj => by
    induction j with
    | zero => exact ⟨by rw [pI]; decide, by rw [pI]; exact Int.le_refl _⟩
    | succ j ih =>
      obtain ⟨p0, p1⟩ := ih (by omega)
      obtain ⟨_, h6⟩ := cI_vl (j := j) (by omega)
      have hw := div_shR u (pI u j) (d := cI j) (by omega)
      have hq0 : 0 ≤ u * pI u j / (cI j * sS) := Int.ediv_nonneg (Int.mul_nonneg hu0 p0) (Int.mul_nonneg (by omega) (by decide))
      have hk6 : (6 : Rat) ≤ ((cI j : Int) : Rat) := by
        have := Rat.intCast_le_intCast.2 h6
        exact this
      have q0 := shR_le p0
      have q1 := shR_le p1
      rw [shR_0] at q0
      rw [shR_S] at q1
      have t0 := shR_le hq0
      rw [shR_0] at t0
      have b4 := mul_bnd (p := shR u) (q := shR (pI u j)) (a := 25 / 10) (b := 1) (by grind) (by grind) (by grind) q1
      have hple : u * pI u j / (cI j * sS) ≤ sS := shR_inj_le (by
        rw [shR_S]
        rcases Rat.le_total (a := shR (u * pI u j / (cI j * sS))) (b := 1) with h | h
        · exact h
        · have := Rat.mul_nonneg (show 0 ≤ shR (u * pI u j / (cI j * sS)) - 1 by grind) (show 0 ≤ ((cI j : Int) : Rat) - 6 by grind)
          grind)
      rw [pI]
      constructor <;> omega
  obtain ⟨p0, p1⟩ := hp 8 (Nat.le_refl _)
  have q0 := shR_le p0
  have q1 := shR_le p1
  rw [shR_0] at q0
  rw [shR_S] at q1
  have dv := div_shR1 z (pI u 8)
  have b5 := mul_bnd (p := shR z) (q := shR (pI u 8)) (a := 1576 / 1000) (b := 1) (by grind) (by grind) (by grind) q1
  constructor <;> grind
/-- A point of the unit circle. -/
theorem phas_acc {t : FV} {a : Int} (ht : Vl .f64 t (shR a)) (h0 : 0 ≤ a) (h2 : a < 4 * sS) : Nr (phasF t).1 .f32 (phI a).1 (1 / 1000000) ∧ Nr (phasF t).2 .f32 (phI a).2 (1 / 1000000) := by
  have hS : sS = 1099511627776 := rfl
  have e4 : sS / 4 = 274877906944 := by decide
  have hb := shR_bd (a := a) (by omega)
  have hfin : fin64 t = true := by
    have hz : shR a - shR a = 0 := Rat.sub_self
    obtain ⟨r, hr, hr2⟩ := vl_sub ht ht (by rw [hz]; exact fit16 (by decide +kernel) (by decide +kernel))
    rw [hz] at hr2
    obtain rfl := rnd_rep hr2 (rep_zero _)
    unfold fin64
    rw [vl_eql hr vl_d0]
    rfl
  have hbig : bigT t = false := by
    unfold bigT
    have := p52
    rw [vl_geq ht vl_dB, vl_leq ht vl_dN, decide_eq_false (by grind), decide_eq_false (by grind)]
    rfl
  have hph : phasF t = (fconv .f64 .f32 (phW t).1, fconv .f64 .f32 (phW t).2) := by
    unfold phasF
    rw [hfin]
    simp only [hbig]
  rw [hph]
  obtain ⟨hf, f0, f1⟩ := frac_sh ht h0 h2
  have hI : phI a = (let q := 4 * (a % sS) / sS; let g := a % sS - q * (sS / 4); if q = 0 then (sI (sS / 4 - g), sI g) else if q = 1 then (- sI g, sI (sS / 4 - g)) else if q = 2 then (- sI (sS / 4 - g), - sI g) else (sI g, - sI (sS / 4 - g))) := rfl
  rw [hI]
  generalize a % sS = f at *
  obtain ⟨q, hq, hq3⟩ : ∃ q : Nat, 4 * f / sS = (q : Int) ∧ q ≤ 3 := by
    refine ⟨(4 * f / sS).toNat, ?_, ?_⟩ <;> rw [hS] <;> omega
  have hlo : q * (sS / 4) ≤ f := by rw [e4]; rw [hS] at hq; omega
  have hhi : f - q * (sS / 4) < sS / 4 := by rw [e4]; rw [hS] at hq; omega
  have hqN : qN (fracF t) = q := by
    refine qN_eq ⟨shR f, hf, ?_, ?_⟩ (fun i hi => ?_) ?_
    · have := shR_le f0; rwa [shR_0] at this
    · have := shR_le (Int.le_of_lt f1); rwa [shR_S] at this
    · rw [geQ_sh (qF_sh hf f0 f1 i (by omega)), decide_eq_true]
      rw [e4] at hlo ⊢
      omega
    · rw [geQ_sh (qF_sh hf f0 f1 q hq3), decide_eq_false (by omega)]
  have hg := qF_sh hf f0 f1 q hq3
  simp only [hq]
  have hgG : phG t = qF q (fracF t) := by unfold phG; rw [hqN]
  rw [← hgG] at hg
  generalize hgdef : f - (q : Int) * (sS / 4) = g at *
  have g0 : 0 ≤ g := by omega
  have g4 : 4 * g ≤ sS := by rw [e4] at hhi; omega
  have c0 : 0 ≤ sS / 4 - g := by omega
  have c4 : 4 * (sS / 4 - g) ≤ sS := by rw [e4]; omega
  have hQ : Vl .f64 dQ (shR (sS / 4)) := by
    have : shR (sS / 4) = 1 / 4 := by unfold shR sS; decide +kernel
    rw [this]
    exact vl_dQ
  have hc := sub_sh hQ hg (by rw [e4] at *; omega)
  have hs := sinF_acc hg g0 g4
  have hcc := sinF_acc hc c0 c4
  have bS := sI_bd g0 g4
  have bC := sI_bd c0 c4
  have nS : Nr (phS t) .f64 (sI g) (1 / 10000000000) := hs
  have nC : Nr (phC t) .f64 (sI (sS / 4 - g)) (1 / 10000000000) := hcc
  have nS' := nr_neg nS (by constructor <;> decide +kernel) bS
  have nC' := nr_neg nC (by constructor <;> decide +kernel) bC
  have bS' : -2 ≤ shR (- sI g) ∧ shR (- sI g) ≤ 2 := by rw [shR_neg]; constructor <;> grind
  have bC' : -2 ≤ shR (- sI (sS / 4 - g)) ∧ shR (- sI (sS / 4 - g)) ≤ 2 := by rw [shR_neg]; constructor <;> grind
  have le1 : (0 : Rat) ≤ 1 / 10000000000 ∧ (1 / 10000000000 : Rat) ≤ 1 / 1000000000 := by constructor <;> decide +kernel
  have le2 : (0 : Rat) ≤ 1 / 10000000000 + 1 / 100000000000000 ∧ (1 / 10000000000 + 1 / 100000000000000 : Rat) ≤ 1 / 1000000000 := by constructor <;> decide +kernel
  unfold phW
  rw [hqN]
  clear hs hcc c0 c4 g0 g4 hc hg hgG hhi hlo hgdef hq hf f0 f1 hI hph hfin hbig hb ht h0 h2 hqN hQ
  generalize sI (sS / 4 - g) = cg at *
  generalize sI g = sg at *
  rcases (show q = 0 ∨ q = 1 ∨ q = 2 ∨ q = 3 from by omega) with rfl | rfl | rfl | rfl
  · rw [if_pos (by decide)]
    exact ⟨nr_narrow nC le1 bC, nr_narrow nS le1 bS⟩
  · rw [if_neg (by decide), if_pos (by decide)]
    exact ⟨nr_narrow nS' le2 bS', nr_narrow nC le1 bC⟩
  · rw [if_neg (by decide), if_neg (by decide), if_pos (by decide)]
    exact ⟨nr_narrow nC' le2 bC', nr_narrow nS' le2 bS'⟩
  · rw [if_neg (by decide), if_neg (by decide), if_neg (by decide)]
    exact ⟨nr_narrow nS le1 bS, nr_narrow nC' le2 bC'⟩
theorem phI_bd {a : Int} (h0 : 0 ≤ a) : (-2 ≤ shR (phI a).1 ∧ shR (phI a).1 ≤ 2) ∧ (-2 ≤ shR (phI a).2 ∧ shR (phI a).2 ≤ 2) := by
  have hS : sS = 1099511627776 := rfl
  have e4 : sS / 4 = 274877906944 := by decide
  have f0 := Int.emod_nonneg a (show sS ≠ 0 by decide)
  have f1 := Int.emod_lt_of_pos a sS_pos
  have hI : phI a = (let q := 4 * (a % sS) / sS; let g := a % sS - q * (sS / 4); if q = 0 then (sI (sS / 4 - g), sI g) else if q = 1 then (- sI g, sI (sS / 4 - g)) else if q = 2 then (- sI (sS / 4 - g), - sI g) else (sI g, - sI (sS / 4 - g))) := rfl
  rw [hI]
  generalize a % sS = f at *
  have g0 : 0 ≤ f - 4 * f / sS * (sS / 4) := by rw [e4, hS]; rw [hS] at f1; omega
  have g4 : 4 * (f - 4 * f / sS * (sS / 4)) ≤ sS := by rw [e4, hS]; rw [hS] at f1; omega
  simp only
  generalize f - 4 * f / sS * (sS / 4) = g at *
  have bS := sI_bd g0 g4
  have bC := sI_bd (g := sS / 4 - g) (by rw [e4]; omega) (by rw [e4]; omega)
  generalize 4 * f / sS = q at *
  clear hI g0 g4
  generalize sI (sS / 4 - g) = cg at *
  generalize sI g = sg at *
  have nS := shR_neg sg
  have nC := shR_neg cg
  by_cases h1 : q = 0
  · rw [if_pos h1]
    exact ⟨bC, bS⟩
  · rw [if_neg h1]
    by_cases h2 : q = 1
    · rw [if_pos h2]
      exact ⟨by rw [nS]; constructor <;> grind, bC⟩
    · rw [if_neg h2]
      by_cases h3 : q = 2
      · rw [if_pos h3]
        exact ⟨by rw [nC]; constructor <;> grind, by rw [nS]; constructor <;> grind⟩
      · rw [if_neg h3]
        exact ⟨bS, by rw [nC]; constructor <;> grind⟩
end Go.Ab
