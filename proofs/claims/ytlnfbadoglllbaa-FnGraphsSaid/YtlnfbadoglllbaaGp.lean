/- Graphs of quarters: the curve that bends on evenly has bends that are numbers, and a line has none. No conditions. -/
import Derived.Test.YtlnfbadoglllbaaEx
import Derived.Test.YtlnfbadoglllbaaBenF
import Derived.Test.YtlnfbadoglllbaaLst
namespace Go.Ab

/-- Points of quarters that lie from left to right. -/
structure GD (n : Nat) (f g : Int → FV) (a b : Int → Int) : Prop where
  hn : 2 ≤ n ∧ n ≤ 7
  fx : ∀ i : Int, 0 ≤ i → i < n → Vl .f32 (f i) ((a i : Rat) / 4)
  gy : ∀ i : Int, 0 ≤ i → i < n → Vl .f32 (g i) ((b i : Rat) / 4)
  ar : ∀ i : Int, 0 ≤ i → i < n → -100 ≤ a i ∧ a i ≤ 100
  br : ∀ i : Int, 0 ≤ i → i < n → -100 ≤ b i ∧ b i ≤ 100
  st : ∀ i : Int, 1 ≤ i → i < n → 2 ≤ a i - a (i - 1) ∧ a i - a (i - 1) ≤ 7
variable {n : Nat} {f g : Int → FV} {a b : Int → Int}

theorem int_le {x y : Int} (h : x ≤ y) : (x : Rat) ≤ (y : Rat) := Rat.intCast_le_intCast.2 h
/-- A step. -/
def stp (a : Int → Int) (i : Int) : Rat := ((a i - a (i - 1) : Int) : Rat) / 4
theorem stp_eq (a : Int → Int) (i : Int) : stp a i = (a i : Rat) / 4 - (a (i - 1) : Rat) / 4 := by
  unfold stp
  rw [Rat.intCast_sub]
  grind
theorem GD.step (h : GD n f g a b) {i : Int} (h1 : 1 ≤ i) (h2 : i < n) : 1 / 2 ≤ stp a i ∧ stp a i ≤ 7 / 4 := by
  obtain ⟨h3, h4⟩ := h.st i h1 h2
  have h5 : ((2 : Int) : Rat) ≤ ((a i - a (i - 1) : Int) : Rat) := int_le h3
  have h6 : ((a i - a (i - 1) : Int) : Rat) ≤ ((7 : Int) : Rat) := int_le h4
  have e1 : ((2 : Int) : Rat) = 2 := rfl
  have e2 : ((7 : Int) : Rat) = 7 := rfl
  rw [e1] at h5
  rw [e2] at h6
  unfold stp
  constructor <;> grind
theorem GD.h_vl (h : GD n f g a b) {i : Int} (h1 : 1 ≤ i) (h2 : i < n) : Vl .f32 (hT f i) (stp a i) := by
  rw [hT_pos f h1, stp_eq]
  obtain ⟨h3, h4⟩ := h.st i h1 h2
  refine sub_ex (h.fx i (by omega) h2) (h.fx (i - 1) (by omega) (by omega)) (a i - a (i - 1)) 2 (by omega) (by decide) ?_
  rw [← stp_eq]
  unfold stp
  rw [show ((2 ^ 2 : Nat) : Rat) = 4 from rfl]
  grind
/-- The slope between two points, not rounded. -/
def slp (a b : Int → Int) (i : Int) : Rat := stp b i / stp a i
theorem GD.slp_mul (h : GD n f g a b) {i : Int} (h1 : 1 ≤ i) (h2 : i < n) : slp a b i * stp a i = stp b i := by
  have := h.step h1 h2
  exact Rat.div_mul_cancel (by grind)
theorem GD.dy (h : GD n f g a b) {i : Int} (h1 : 1 ≤ i) (h2 : i < n) : -50 ≤ stp b i ∧ stp b i ≤ 50 := by
  have h3 := h.br i (by omega) h2
  have h4 := h.br (i - 1) (by omega) (by omega)
  have h5 : ((-200 : Int) : Rat) ≤ ((b i - b (i - 1) : Int) : Rat) := int_le (by omega)
  have h6 : ((b i - b (i - 1) : Int) : Rat) ≤ ((200 : Int) : Rat) := int_le (by omega)
  have e1 : ((-200 : Int) : Rat) = -200 := rfl
  have e2 : ((200 : Int) : Rat) = 200 := rfl
  rw [e1] at h5
  rw [e2] at h6
  unfold stp
  constructor <;> grind
theorem GD.slp_bd (h : GD n f g a b) {i : Int} (h1 : 1 ≤ i) (h2 : i < n) : -100 ≤ slp a b i ∧ slp a b i ≤ 100 := by
  have h3 := h.step h1 h2
  have h4 := h.dy h1 h2
  exact ⟨le_div_of (by grind) (by grind), div_le_of (by grind) (by grind)⟩
theorem GD.s_vl (h : GD n f g a b) {i : Int} (h1 : 1 ≤ i) (h2 : i < n) : ∃ s, Vl .f32 (sT f g i) s ∧ -100 ≤ s ∧ s ≤ 100 ∧ Rnd .f32 (slp a b i) s := by
  rw [sT_pos f g h1]
  have hd : Vl .f32 (fbin .sub .f32 (g i) (g (i - 1))) (stp b i) := by
    rw [stp_eq]
    have h3 := h.br i (by omega) h2
    have h4 := h.br (i - 1) (by omega) (by omega)
    refine sub_ex (h.gy i (by omega) h2) (h.gy (i - 1) (by omega) (by omega)) (b i - b (i - 1)) 2 (by omega) (by decide) ?_
    rw [← stp_eq]
    unfold stp
    rw [show ((2 ^ 2 : Nat) : Rat) = 4 from rfl]
    grind
  have hb := h.slp_bd h1 h2
  have hs := h.step h1 h2
  exact div_i hd (h.h_vl h1 h2) (by grind) (-100) 100 (by decide) (by decide) hb.1 hb.2
theorem vl_c2 : Vl .f32 c2 2 := Vl.c (by decide +kernel)
theorem vl_c6 : Vl .f32 c6 6 := Vl.c (by decide +kernel)
theorem vl_c0 : Vl .f32 c0 0 := Vl.c (by decide +kernel)
/-- Twice two steps. -/
theorem GD.two_h (h : GD n f g a b) {i : Int} (h1 : 1 ≤ i) (h2 : i + 1 < n) : Vl .f32 (fbin .mul .f32 c2 (fbin .add .f32 (hT f i) (hT f (i + 1)))) (2 * (stp a i + stp a (i + 1))) := by
  have h3 := h.st i h1 (by omega)
  have h4 := h.st (i + 1) (by omega) h2
  have hs : Vl .f32 (fbin .add .f32 (hT f i) (hT f (i + 1))) (stp a i + stp a (i + 1)) := by
    refine add_ex (h.h_vl h1 (by omega)) (h.h_vl (by omega) h2) ((a i - a (i - 1)) + (a (i + 1) - a (i + 1 - 1))) 2 (by omega) (by decide) ?_
    unfold stp
    rw [show ((2 ^ 2 : Nat) : Rat) = 4 from rfl, Rat.intCast_add]
    grind
  refine mul_ex vl_c2 hs (2 * ((a i - a (i - 1)) + (a (i + 1) - a (i + 1 - 1)))) 2 (by omega) (by decide) ?_
  unfold stp
  rw [show ((2 ^ 2 : Nat) : Rat) = 4 from rfl, Rat.intCast_mul, Rat.intCast_add, show ((2 : Int) : Rat) = 2 from rfl]
  grind
theorem two_stp_rep (h : GD n f g a b) {i : Int} (h1 : 1 ≤ i) (h2 : i < n) : Rep .f32 (2 * stp a i) := by
  have h3 := h.st i h1 h2
  refine (dy_rep (2 * (a i - a (i - 1))) 2 (by omega) (by decide) ?_).1
  unfold stp
  rw [show ((2 ^ 2 : Nat) : Rat) = 4 from rfl, Rat.intCast_mul, show ((2 : Int) : Rat) = 2 from rfl]
  grind
theorem half_rep : Rep .f32 (1 / 2) := (dy_rep 1 1 (by decide) (by decide) (by decide +kernel)).1
theorem seven8_rep : Rep .f32 (7 / 8) := (dy_rep 7 3 (by decide) (by decide) (by decide +kernel)).1
/-- The factor of a round. -/
theorem GD.fac (h : GD n f g a b) {i : Int} (h1 : 1 ≤ i) (h2 : i < n) {M : FV} {m : Rat} (hM : Vl .f32 M m) (hm : 2 * stp a i ≤ m) : ∃ F, Vl .f32 (fbin .quo .f32 (hT f i) M) F ∧ 0 ≤ F ∧ F ≤ 1 / 2 := by
  have hs := h.step h1 h2
  have hq0 : 0 ≤ stp a i / m := le_div_of (by grind) (by grind)
  have hq1 : stp a i / m ≤ 1 / 2 := div_le_of (by grind) (by grind)
  have h24 : p2 24 = 16777216 := by decide +kernel
  obtain ⟨F, hF, hR⟩ := vl_div (h.h_vl h1 h2) hM (by grind) (fit_24' (by grind) (by grind))
  exact ⟨F, hF, rnd_btw hR (rep_zero _) half_rep hq0 hq1⟩
theorem GD.mr_vl (h : GD n f g a b) : ∀ k : Nat, (k : Int) + 2 < n → ∃ m r, Vl .f32 (mr (hT f) (sT f g) k).1 m ∧ Vl .f32 (mr (hT f) (sT f g) k).2 r ∧ 2 * stp a ((k : Int) + 2) ≤ m ∧ m ≤ 14 ∧ -2400 ≤ r ∧ r ≤ 2400
  | 0, hk => by
    have hm := h.two_h (i := 1) (by omega) (by omega)
    obtain ⟨s1, hs1, b1, b2, _⟩ := h.s_vl (i := 1) (by omega) (by omega)
    obtain ⟨s2, hs2, b3, b4, _⟩ := h.s_vl (i := 2) (by omega) (by omega)
    obtain ⟨d, hd, d1, d2, _⟩ := sub_i hs2 hs1 (-200) 200 (by decide) (by decide) (by grind) (by grind)
    obtain ⟨r, hr, r1, r2, _⟩ := mul_i vl_c6 hd (-1200) 1200 (by decide) (by decide) (by grind) (by grind)
    have e1 := h.step (i := 1) (by omega) (by omega)
    have e2 := h.step (i := 2) (by omega) (by omega)
    refine ⟨_, r, hm, hr, ?_, ?_, ?_, ?_⟩
    · show 2 * stp a 2 ≤ 2 * (stp a 1 + stp a 2)
      grind
    · show 2 * (stp a 1 + stp a 2) ≤ 14
      grind
    · grind
    · grind
  | k + 1, hk => by
    obtain ⟨m, r, hm, hr, m1, m2, r1, r2⟩ := h.mr_vl k (by omega)
    have hi1 : (1 : Int) ≤ (k : Int) + 2 := by omega
    have hi2 : (k : Int) + 2 < n := by omega
    have hi3 : (k : Int) + 2 + 1 < n := by omega
    have e1 := h.step hi1 hi2
    have e2 := h.step (i := (k : Int) + 2 + 1) (by omega) hi3
    obtain ⟨F, hF, f0, f1⟩ := h.fac hi1 hi2 hm m1
    have hb1 := mul_bnd (p := F) (q := stp a ((k : Int) + 2)) (a := 1 / 2) (b := 7 / 4) (by grind) f1 (by grind) e1.2
    have hb0 := Rat.mul_nonneg f0 (show 0 ≤ stp a ((k : Int) + 2) by grind)
    have h24 : p2 24 = 16777216 := by decide +kernel
    obtain ⟨x, hx, hxr⟩ := vl_mul hF (h.h_vl hi1 hi2) (fit_24 (by grind) (by grind))
    obtain ⟨x0, x1⟩ := rnd_btw hxr (rep_zero _) seven8_rep hb0 (by grind)
    have h2 := h.two_h hi1 hi3
    obtain ⟨y, hy, hyr⟩ := vl_sub h2 hx (fit_24 (by grind) (by grind))
    obtain ⟨y0, y1⟩ := rnd_btw hyr (two_stp_rep h (i := (k : Int) + 2 + 1) (by omega) hi3) (int_rep 14 (by decide)).1 (by grind) (by rw [show ((14 : Int) : Rat) = 14 from rfl]; grind)
    rw [show ((14 : Int) : Rat) = 14 from rfl] at y1
    obtain ⟨s1, hs1, b1, b2, _⟩ := h.s_vl hi1 hi2
    obtain ⟨s2, hs2, b3, b4, _⟩ := h.s_vl (i := (k : Int) + 2 + 1) (by omega) hi3
    obtain ⟨d, hd, d1, d2, _⟩ := sub_i hs2 hs1 (-200) 200 (by decide) (by decide) (by grind) (by grind)
    obtain ⟨z, hz, z1, z2, _⟩ := mul_i vl_c6 hd (-1200) 1200 (by decide) (by decide) (by grind) (by grind)
    have hb2 := mul_bnd (p := F) (q := r) (a := 1 / 2) (b := 2400) (by grind) f1 (by grind) r2
    obtain ⟨v, hv, v1, v2, _⟩ := mul_i hF hr (-1200) 1200 (by decide) (by decide) (by grind) (by grind)
    obtain ⟨u, hu, u1, u2, _⟩ := sub_i hz hv (-2400) 2400 (by decide) (by decide) (by grind) (by grind)
    have e3 : (((k + 1 : Nat) : Int) + 2) = (k : Int) + 2 + 1 := by omega
    rw [e3]
    exact ⟨y, u, hy, hu, y0, y1, by grind, by grind⟩
theorem GD.mid_vl (h : GD n f g a b) {i : Int} (h1 : 1 ≤ i) (h2 : i + 1 < n) : ∃ m r, Vl .f32 (midF (hT f) (sT f g) i) m ∧ Vl .f32 (rgtF (hT f) (sT f g) i) r ∧ 1 ≤ m ∧ m ≤ 14 ∧ -2400 ≤ r ∧ r ≤ 2400 := by
  obtain ⟨m, r, hm, hr, m1, m2, r1, r2⟩ := h.mr_vl (i - 1).toNat (by omega)
  have e1 := h.step (i := ((i - 1).toNat : Int) + 2) (by omega) (by omega)
  exact ⟨m, r, hm, hr, by grind, m2, r1, r2⟩
def oB : Nat → Int
  | 0 => 2400
  | j + 1 => 2400 + 2 * oB j
theorem oB_le {j : Nat} (h : j ≤ 5) : 0 ≤ oB j ∧ oB j ≤ 160000 := by
  have : j = 0 ∨ j = 1 ∨ j = 2 ∨ j = 3 ∨ j = 4 ∨ j = 5 := by omega
  rcases this with rfl | rfl | rfl | rfl | rfl | rfl <;> decide
theorem GD.o_vl (h : GD n f g a b) : ∀ j : Nat, (j : Int) + 3 ≤ n → ∃ o, Vl .f32 (oN (hT f) (sT f g) n j) o ∧ -(oB j : Rat) ≤ o ∧ o ≤ (oB j : Rat)
  | 0, hj => by
    obtain ⟨m, r, hm, hr, m1, m2, r1, r2⟩ := h.mid_vl (i := (n : Int) - 2) (by omega) (by omega)
    obtain ⟨o, ho, o1, o2, _⟩ := div_i hr hm (by grind) (-2400) 2400 (by decide) (by decide) (le_div_of (by grind) (by grind)) (div_le_of (by grind) (by grind))
    exact ⟨o, ho, o1, o2⟩
  | j + 1, hj => by
    obtain ⟨o, ho, o1, o2⟩ := h.o_vl j (by omega)
    have hn := h.hn
    have hB := oB_le (j := j) (by omega)
    have hB' := oB_le (j := j + 1) (by omega)
    obtain ⟨m, r, hm, hr, m1, m2, r1, r2⟩ := h.mid_vl (i := (n : Int) - 3 - j) (by omega) (by omega)
    have e1 := h.step (i := (n : Int) - 3 - j + 1) (by omega) (by omega)
    have hb := mul_bnd (p := stp a ((n : Int) - 3 - j + 1)) (q := o) (a := 2) (b := (oB j : Rat)) (by grind) (by grind) o1 o2
    have hc : ((2 * oB j : Int) : Rat) = 2 * (oB j : Rat) := by rw [Rat.intCast_mul]; rfl
    have hc' : ((-(2 * oB j) : Int) : Rat) = -(2 * (oB j : Rat)) := by rw [Rat.intCast_neg, hc]
    obtain ⟨x, hx, x1, x2, _⟩ := mul_i (h.h_vl (i := (n : Int) - 3 - j + 1) (by omega) (by omega)) ho (-(2 * oB j)) (2 * oB j) (by omega) (by omega) (by rw [hc']; exact hb.1) (by rw [hc]; exact hb.2)
    rw [hc'] at x1
    rw [hc] at x2
    have hd : ((oB (j + 1) : Int) : Rat) = 2400 + 2 * (oB j : Rat) := by
      show ((2400 + 2 * oB j : Int) : Rat) = _
      rw [Rat.intCast_add, hc]
      rfl
    have hd' : ((-oB (j + 1) : Int) : Rat) = -(2400 + 2 * (oB j : Rat)) := by rw [Rat.intCast_neg, hd]
    obtain ⟨y, hy, y1, y2, _⟩ := sub_i hr hx (-oB (j + 1)) (oB (j + 1)) (by omega) (by omega) (by rw [hd']; grind) (by rw [hd]; grind)
    rw [hd'] at y1
    rw [hd] at y2
    have hBr : (0 : Rat) ≤ (oB j : Rat) := int_le hB.1
    have hmul := Rat.mul_nonneg (show (0 : Rat) ≤ 2400 + 2 * (oB j : Rat) by grind) (show 0 ≤ m - 1 by grind)
    obtain ⟨z, hz, z1, z2, _⟩ := div_i hy hm (by grind) (-oB (j + 1)) (oB (j + 1)) (by omega) (by omega) (by rw [hd']; exact le_div_of (by grind) (by grind)) (by rw [hd]; exact div_le_of (by grind) (by grind))
    rw [hd'] at z1
    rw [hd] at z2
    exact ⟨z, hz, by rw [hd]; exact z1, by rw [hd]; exact z2⟩
theorem GD.bend_vl (h : GD n f g a b) {t : Int} (h0 : 0 ≤ t) (h1 : t < n) : ∃ o, Vl .f32 (bendT n f g t) o ∧ -160000 ≤ o ∧ o ≤ 160000 := by
  unfold bendT outT
  split
  · rename_i hc
    obtain ⟨o, ho, o1, o2⟩ := h.o_vl ((n : Int) - 2 - t).toNat (by omega)
    have hn := h.hn
    have hB := oB_le (j := ((n : Int) - 2 - t).toNat) (by omega)
    have hb : ((oB ((n : Int) - 2 - t).toNat : Int) : Rat) ≤ ((160000 : Int) : Rat) := int_le hB.2
    rw [show ((160000 : Int) : Rat) = 160000 from rfl] at hb
    exact ⟨o, ho, by grind, by grind⟩
  · exact ⟨0, vl_c0, by grind, by grind⟩
theorem tab_all_fin {n : Nat} {f : Int → FV} (h : ∀ t : Int, 0 ≤ t → t < n → ∃ o, Vl .f32 (f t) o) : (tab n f).all finB = true := by
  rw [List.all_eq_true]
  intro x hx
  obtain ⟨i, hi, rfl⟩ := List.mem_iff_getElem.1 hx
  rw [tab_length] at hi
  have h1 := tab_get f hi
  rw [List.getElem?_eq_getElem (by rw [tab_length]; exact hi)] at h1
  rw [Option.some.inj h1]
  obtain ⟨o, ho⟩ := h i (by omega) (by omega)
  exact vl_fin ho
theorem GD.bend_fin (h : GD n f g a b) : (tab n (bendT n f g)).all finB = true := tab_all_fin fun t h0 h1 => let ⟨o, ho, _⟩ := h.bend_vl h0 h1; ⟨o, ho⟩
/-- A line has no bends. -/
theorem GD.line (h : GD n f g a b) (hl : ∀ i : Int, 1 ≤ i → i < n → b i - b (i - 1) = 2 * (a i - a (i - 1))) {t : Int} (h0 : 0 ≤ t) (h1 : t < n) : Vl .f32 (bendT n f g t) 0 := by
  have hs : ∀ i : Int, 1 ≤ i → i < n → Vl .f32 (sT f g i) 2 := fun i h1 h2 => by
    obtain ⟨s, hs, _, _, hr⟩ := h.s_vl h1 h2
    have e : slp a b i = 2 := by
      have h3 := h.slp_mul h1 h2
      have h4 : stp b i = 2 * stp a i := by
        unfold stp
        rw [hl i h1 h2, Rat.intCast_mul, show ((2 : Int) : Rat) = 2 from rfl]
        grind
      have h5 := h.step h1 h2
      have h6 : (slp a b i - 2) * stp a i = 0 := by grind
      rcases Rat.mul_eq_zero.1 h6 with h7 | h7 <;> grind
    rw [e] at hr
    rwa [rnd_rep hr (int_rep 2 (by decide)).1] at hs
  have hd : ∀ i : Int, 1 ≤ i → i + 1 < n → Vl .f32 (fbin .mul .f32 c6 (fbin .sub .f32 (sT f g (i + 1)) (sT f g i))) 0 := fun i h1 h2 =>
    mul_zero_ex vl_c6 (sub_self_ex (hs (i + 1) (by omega) h2) (hs i h1 (by omega)))
  have hr : ∀ k : Nat, (k : Int) + 2 < n → Vl .f32 (mr (hT f) (sT f g) k).2 0 := by
    intro k
    induction k with
    | zero => intro hk; exact hd 1 (by omega) (by omega)
    | succ k ih =>
      intro hk
      obtain ⟨m, r, hm, _, m1, _⟩ := h.mr_vl k (by omega)
      obtain ⟨F, hF, _⟩ := h.fac (i := (k : Int) + 2) (by omega) (by omega) hm m1
      exact sub_self_ex (hd ((k : Int) + 2) (by omega) (by omega)) (mul_zero_ex hF (ih (by omega)))
  have hrg : ∀ i : Int, 1 ≤ i → i + 1 < n → Vl .f32 (rgtF (hT f) (sT f g) i) 0 := fun i h1 h2 => hr (i - 1).toNat (by omega)
  have ho : ∀ j : Nat, (j : Int) + 3 ≤ n → Vl .f32 (oN (hT f) (sT f g) n j) 0 := by
    intro j
    induction j with
    | zero =>
      intro hj
      obtain ⟨m, r, hm, _, m1, _⟩ := h.mid_vl (i := (n : Int) - 2) (by omega) (by omega)
      exact zero_div_ex (hrg _ (by omega) (by omega)) hm (by grind)
    | succ j ih =>
      intro hj
      obtain ⟨m, r, hm, _, m1, _⟩ := h.mid_vl (i := (n : Int) - 3 - j) (by omega) (by omega)
      exact zero_div_ex (sub_self_ex (hrg _ (by omega) (by omega)) (mul_zero_ex (h.h_vl (i := (n : Int) - 3 - j + 1) (by omega) (by omega)) (ih (by omega)))) hm (by grind)
  unfold bendT outT
  split
  · exact ho _ (by omega)
  · exact vl_c0
/-- They are a graph. -/
theorem GD.graph (h : GD n f g a b) : graphB (tab n f) (tab n g) = true := by
  have hn := h.hn
  unfold graphB
  rw [tab_length, tab_length, decide_eq_false (by omega), decide_eq_false (by omega), decide_eq_false (by omega), tab_all_fin fun t h0 h1 => ⟨_, h.fx t h0 h1⟩, tab_all_fin fun t h0 h1 => ⟨_, h.gy t h0 h1⟩, upB_true]
  · rfl
  · intro i h1 h2
    rw [tab_length] at h2
    have e1 : (tab n f).getD i default = f i := getD_tab (i := (i : Int)) (by omega) (by omega)
    have e2 : (tab n f).getD (i - 1) default = f ((i : Int) - 1) := by
      have := getD_tab (f := f) (n := n) (i := (i : Int) - 1) (by omega) (by omega)
      rwa [show ((i : Int) - 1).toNat = i - 1 from by omega] at this
    rw [e1, e2, vl_gtr (h.fx i (by omega) (by omega)) (h.fx ((i : Int) - 1) (by omega) (by omega))]
    refine decide_eq_true ?_
    have h3 := h.step (i := (i : Int)) (by omega) (by omega)
    rw [stp_eq] at h3
    grind
end Go.Ab
