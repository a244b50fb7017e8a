/- Graphs of quarters: what curves with bends and with slopes are at their points, and that those with slopes lie between them. No conditions. -/
import Derived.Test.YtlnfbadoglllbaaGs
import Derived.Test.YtlnfbadoglllbaaSteady
namespace Go.Ab
variable {n : Nat} {f g : Int → FV} {a b : Int → Int}

theorem getN {n : Nat} (f : Int → FV) {i : Nat} (h : i < n) : (tab n f).getD i default = f i := getD_tab (i := (i : Int)) (by omega) (by omega)
theorem GD.mono (h : GD n f g a b) : ∀ (d : Nat) (i : Int), 0 ≤ i → i + d < n → a i + 2 * d ≤ a (i + d)
  | 0, i, _, _ => by rw [show i + ((0 : Nat) : Int) = i from by omega]; omega
  | d + 1, i, h0, h1 => by
    have h2 := h.mono d i h0 (by omega)
    have h3 := h.st (i + d + 1) (by omega) (by omega)
    rw [show i + d + 1 - 1 = i + d from by omega] at h3
    rw [show i + ((d + 1 : Nat) : Int) = i + d + 1 from by omega]
    omega
theorem GD.lt (h : GD n f g a b) {i j : Int} (h0 : 0 ≤ i) (h1 : i < j) (h2 : j < n) : a i < a j := by
  have := h.mono (j - i).toNat i h0 (by omega)
  rw [show i + ((j - i).toNat : Int) = j from by omega] at this
  omega
theorem quarter_lt {x y : Int} (h : x < y) : (x : Rat) / 4 < (y : Rat) / 4 := by
  have : (x : Rat) < (y : Rat) := Rat.intCast_lt_intCast.2 h
  grind
theorem quarter_le {x y : Int} (h : x ≤ y) : (x : Rat) / 4 ≤ (y : Rat) / 4 := by
  have := int_le h
  grind
theorem span_from {L : List FV} {at_ : FV} {i : Nat} (hup : ∀ j, j < i → cmpB .gtr (fcmp .f32 at_ (L.getD (j + 1) default)) = true) (hend : cmpB .gtr (fcmp .f32 at_ (L.getD (i + 1) default)) = false) : ∀ (m i0 : Nat), i0 ≤ i → i - i0 < m → spanFrom L at_ m i0 = i
  | 0, _, _, h => by omega
  | m + 1, i0, h0, h1 => by
    unfold spanFrom
    by_cases he : i0 = i
    · subst he
      rw [if_neg (by rw [hend]; simp)]
    · rw [if_pos (hup i0 (by omega))]
      exact span_from hup hend m (i0 + 1) (by omega) (by omega)
/-- The span in which a place lies. -/
theorem GD.span (h : GD n f g a b) {at_ : FV} {v : Rat} (hv : Vl .f32 at_ v) {i : Nat} (hi : i + 1 < n) (h1 : i = 0 ∨ (a i : Rat) / 4 < v) (h2 : v ≤ (a ((i : Int) + 1) : Rat) / 4) : spanI (tab n f) at_ = i := by
  unfold spanI
  rw [tab_length]
  refine span_from (fun j hj => ?_) ?_ n 0 (Nat.zero_le _) (by omega)
  · rw [getN f (by omega), vl_gtr hv (h.fx _ (by omega) (by omega))]
    refine decide_eq_true ?_
    rcases h1 with h1 | h1
    · omega
    · rcases (show j + 1 = i ∨ j + 1 < i from by omega) with h3 | h3
      · rw [show ((j + 1 : Nat) : Int) = i from by omega]
        exact h1
      · have := quarter_lt (h.lt (i := ((j + 1 : Nat) : Int)) (j := i) (by omega) (by omega) (by omega))
        grind
  · rw [getN f (by omega), vl_gtr hv (h.fx _ (by omega) (by omega))]
    refine decide_eq_false (Rat.not_lt.2 ?_)
    rw [show ((i + 1 : Nat) : Int) = (i : Int) + 1 from by omega]
    exact h2
theorem GD.inb (h : GD n f g a b) {at_ : FV} {v : Rat} (hv : Vl .f32 at_ v) (h1 : (a 0 : Rat) / 4 ≤ v) (h2 : v ≤ (a ((n : Int) - 1) : Rat) / 4) : inB (tab n f) at_ = true := by
  have hn := h.hn
  unfold inB
  rw [tab_length, getN f (by omega), getN f (by omega), vl_geq hv (h.fx _ (by omega) (by omega)), vl_leq hv (h.fx _ (by omega) (by omega))]
  rw [show ((n - 1 : Nat) : Int) = (n : Int) - 1 from by omega]
  rw [show ((0 : Nat) : Int) = 0 from rfl, decide_eq_true h1, decide_eq_true h2]
  rfl
theorem GD.not_inb (h : GD n f g a b) {at_ : FV} {v : Rat} (hv : Vl .f32 at_ v) (h2 : (a ((n : Int) - 1) : Rat) / 4 < v) : inB (tab n f) at_ = false := by
  have hn := h.hn
  unfold inB
  rw [tab_length, getN f (by omega), getN f (by omega), vl_geq hv (h.fx _ (by omega) (by omega)), vl_leq hv (h.fx _ (by omega) (by omega))]
  rw [show ((n - 1 : Nat) : Int) = (n : Int) - 1 from by omega]
  rw [decide_eq_false (Rat.not_le.2 h2), Bool.and_false]
theorem GD.more (h : GD n f g a b) {K : Int → FV} (hK : (tab n K).all finB = true) : moreB (tab n f) (tab n g) (tab n K) = true := by
  unfold moreB
  rw [h.graph, hK, tab_length, tab_length, decide_eq_false (by omega)]
  rfl
theorem GD.spanOk (h : GD n f g a b) {K : Int → FV} (hK : (tab n K).all finB = true) {at_ : FV} (hi : inB (tab n f) at_ = true) : spanOk (tab n f) (tab n g) (tab n K) at_ = true := by
  unfold Go.Ab.spanOk
  rw [h.more hK, hi]
  rfl
theorem num_vl {x : FV} {p : Rat} (h : Vl .f32 x p) : numF x = x ∧ finB x = true := by
  have := vl_fin h
  unfold numF finB
  exact ⟨if_pos this, this⟩
theorem vl_f1 : Vl .f32 (fv .f32 1065353216) 1 := Vl.c (by decide +kernel)
theorem quarter_fit {k : Int} (h1 : -1000 ≤ k) (h2 : k ≤ 1000) : Fit .f32 ((k : Rat) / 4) := by
  have a1 := int_le h1
  have a2 := int_le h2
  rw [show ((-1000 : Int) : Rat) = -1000 from rfl] at a1
  rw [show ((1000 : Int) : Rat) = 1000 from rfl] at a2
  have h24 : p2 24 = 16777216 := by decide +kernel
  exact fit_24 (by grind) (by grind)
theorem fit_bd {q : Rat} (h1 : -16000000 ≤ q) (h2 : q ≤ 16000000) : Fit .f32 q := by
  have h24 : p2 24 = 16777216 := by decide +kernel
  exact fit_24 (by grind) (by grind)
/-- A span's end: which span, and what lies there. -/
theorem GD.node (h : GD n f g a b) {k : Nat} (hk : k < n) : ∃ i : Nat, i + 1 < n ∧ spanI (tab n f) (f k) = i ∧ inB (tab n f) (f k) = true ∧ (k = i ∨ k = i + 1) := by
  have hn := h.hn
  have hv := h.fx k (by omega) (by omega)
  have hin : inB (tab n f) (f k) = true := by
    refine h.inb hv ?_ ?_
    · rcases Nat.eq_zero_or_pos k with h0 | h0
      · subst h0; exact Rat.le_refl
      · exact quarter_le (Int.le_of_lt (h.lt (by omega) (by omega) (by omega)))
    · rcases (show k = n - 1 ∨ k < n - 1 from by omega) with h0 | h0
      · rw [show ((n : Int) - 1) = (k : Int) from by omega]; exact Rat.le_refl
      · exact quarter_le (Int.le_of_lt (h.lt (by omega) (by omega) (by omega)))
  rcases Nat.eq_zero_or_pos k with h0 | h0
  · subst h0
    exact ⟨0, by omega, h.span hv (by omega) (.inl rfl) (quarter_le (Int.le_of_lt (h.lt (by omega) (by omega) (by omega)))), hin, .inl rfl⟩
  · refine ⟨k - 1, by omega, h.span hv (by omega) (.inr (quarter_lt (h.lt (by omega) (by omega) (by omega)))) ?_, hin, .inr (by omega)⟩
    rw [show (((k - 1 : Nat) : Int) + 1) = (k : Int) from by omega]
    exact Rat.le_refl
/-- The step of a span. -/
theorem GD.hS (h : GD n f g a b) {i : Nat} (hi : i + 1 < n) : Vl .f32 (fbin .sub .f32 ((tab n f).getD (i + 1) default) ((tab n f).getD i default)) (stp a ((i : Int) + 1)) := by
  have := h.h_vl (i := (i : Int) + 1) (by omega) (by omega)
  rw [hT_pos f (by omega)] at this
  rw [getN f hi, getN f (by omega), show ((i + 1 : Nat) : Int) = (i : Int) + 1 from by omega]
  rwa [show (i : Int) + 1 - 1 = (i : Int) from by omega] at this
theorem third_zero {x : FV} (h : Vl .f32 x 0) : Vl .f32 (fbin .sub .f32 (fbin .mul .f32 (fbin .mul .f32 x x) x) x) 0 := sub_self_ex (mul_zero_ex (mul_zero_ex h h) h) h
theorem third_one {x : FV} (h : Vl .f32 x 1) : Vl .f32 (fbin .sub .f32 (fbin .mul .f32 (fbin .mul .f32 x x) x) x) 0 := by
  have hf : Fit .f32 1 := fit_bd (by grind) (by grind)
  exact sub_self_ex (one_mul_ex (one_mul_ex h h hf) h hf) h
/-- The curve with bends goes through its points. -/
theorem GD.bent_node (h : GD n f g a b) {K : Int → FV} (hK : ∀ t : Int, 0 ≤ t → t < n → ∃ o, Vl .f32 (K t) o) {k : Nat} (hk : k < n) : ∃ p, bentT (tab n f) (tab n g) (tab n K) (f k) = .tup [.f .f32 p, .raw (.bool true)] ∧ Vl .f32 p ((b k : Rat) / 4) := by
  obtain ⟨i, hi, hsp, hin, hc⟩ := h.node hk
  have hok := h.spanOk (tab_all_fin hK) hin
  rw [bentT_yes hok, hsp]
  have hS := h.hS hi
  have hst := h.step (i := (i : Int) + 1) (by omega) (by omega)
  obtain ⟨o1, ho1⟩ := hK i (by omega) (by omega)
  obtain ⟨o2, ho2⟩ := hK ((i : Int) + 1) (by omega) (by omega)
  have hy1 := h.gy i (by omega) (by omega)
  have hy2 := h.gy ((i : Int) + 1) (by omega) (by omega)
  have hb1 := h.br i (by omega) (by omega)
  have hb2 := h.br ((i : Int) + 1) (by omega) (by omega)
  have key : ∃ p, bentF (tab n f) (tab n g) (tab n K) (f k) i = p ∧ Vl .f32 p ((b k : Rat) / 4) := by
    refine ⟨_, rfl, ?_⟩
    unfold bentF
    dsimp only
    have e1 : (tab n g).getD i default = g i := getN g (by omega)
    have e2 : (tab n g).getD (i + 1) default = g ((i : Int) + 1) := by rw [getN g (by omega)]; rfl
    have e3 : (tab n K).getD i default = K i := getN K (by omega)
    have e4 : (tab n K).getD (i + 1) default = K ((i : Int) + 1) := by rw [getN K (by omega)]; rfl
    rw [e1, e2, e3, e4]
    rcases hc with hc | hc
    · subst hc
      have e5 : (tab n f).getD k default = f k := getN f (by omega)
      rw [e5] at hS ⊢
      have hp := self_div_ex hS hS (by grind)
      have hq := zero_div_ex (sub_self_ex (h.fx k (by omega) (by omega)) (h.fx k (by omega) (by omega))) hS (by grind)
      have hz := add_zero_ex (mul_zero_ex ho1 (third_one hp) |> fun _ => zero_mul_ex (third_one hp) ho1) (zero_mul_ex (third_zero hq) ho2) (fit_bd (by grind) (by grind))
      have hz2 := zero_div_ex (zero_mul_ex (zero_mul_ex hz hS) hS) vl_c6 (by decide +kernel)
      have hl := add_zero_ex (one_mul_ex hp hy1 (quarter_fit (by omega) (by omega))) (zero_mul_ex hq hy2) (quarter_fit (by omega) (by omega))
      exact add_zero_ex hl hz2 (quarter_fit (by omega) (by omega))
    · subst hc
      have e5 : (tab n f).getD (i + 1) default = f ((i + 1 : Nat) : Int) := getN f (by omega)
      rw [e5] at hS ⊢
      have hq := self_div_ex hS hS (by grind)
      have hp := zero_div_ex (sub_self_ex (h.fx ((i + 1 : Nat) : Int) (by omega) (by omega)) (h.fx ((i + 1 : Nat) : Int) (by omega) (by omega))) hS (by grind)
      have hz := add_zero_ex (zero_mul_ex (third_zero hp) ho1) (zero_mul_ex (third_one hq) ho2) (fit_bd (by grind) (by grind))
      have hz2 := zero_div_ex (zero_mul_ex (zero_mul_ex hz hS) hS) vl_c6 (by decide +kernel)
      have hl := zero_add_ex (zero_mul_ex hp hy1) (one_mul_ex hq hy2 (quarter_fit (by omega) (by omega))) (quarter_fit (by omega) (by omega))
      have ebk : ((b ((i + 1 : Nat) : Int) : Rat) / 4) = (b ((i : Int) + 1) : Rat) / 4 := by rw [show ((i + 1 : Nat) : Int) = (i : Int) + 1 from by omega]
      rw [ebk]
      exact add_zero_ex hl hz2 (quarter_fit (k := b ((i : Int) + 1)) (by omega) (by omega))
  obtain ⟨p, hp, hv⟩ := key
  rw [hp]
  obtain ⟨hn1, hn2⟩ := num_vl hv
  rw [hn1, hn2]
  exact ⟨p, rfl, hv⟩
theorem GD.bent_beyond (h : GD n f g a b) {K : Int → FV} {at_ : FV} {v : Rat} (hv : Vl .f32 at_ v) (h2 : (a ((n : Int) - 1) : Rat) / 4 < v) : bentT (tab n f) (tab n g) (tab n K) at_ = .tup [.f .f32 (fv .f32 0), .raw (.bool false)] := by
  refine bentT_not ?_
  unfold Go.Ab.spanOk
  rw [h.not_inb hv h2, Bool.and_false]
/-- Five numbers, of which all but one are nought. -/
theorem sum_four {x1 x2 x3 x4 : FV} (s : FV) (h : fbin .add .f32 (fbin .add .f32 (fbin .add .f32 (fbin .add .f32 (fv .f32 0) x1) x2) x3) x4 = s) : sumF [x1, x2, x3, x4] = s := h
/-- The curve with slopes goes through its points. -/
theorem GD.steady_node (h : GD n f g a b) {K : Int → FV} (hK : ∀ t : Int, 0 ≤ t → t < n → ∃ o, Vl .f32 (K t) o) {k : Nat} (hk : k < n) : ∃ p, steadyT (tab n f) (tab n g) (tab n K) (f k) = .tup [.f .f32 p, .raw (.bool true)] ∧ Vl .f32 p ((b k : Rat) / 4) := by
  obtain ⟨i, hi, hsp, hin, hc⟩ := h.node hk
  have hok := h.spanOk (tab_all_fin hK) hin
  rw [steadyT_yes hok, hsp]
  have hS := h.hS hi
  have hst := h.step (i := (i : Int) + 1) (by omega) (by omega)
  obtain ⟨o1, ho1⟩ := hK i (by omega) (by omega)
  obtain ⟨o2, ho2⟩ := hK ((i : Int) + 1) (by omega) (by omega)
  have hy1 := h.gy i (by omega) (by omega)
  have hy2 := h.gy ((i : Int) + 1) (by omega) (by omega)
  have hb1 := h.br i (by omega) (by omega)
  have hb2 := h.br ((i : Int) + 1) (by omega) (by omega)
  have f1 : Fit .f32 1 := fit_bd (by grind) (by grind)
  have f0 : Fit .f32 0 := fit_bd (by grind) (by grind)
  have key : ∃ p, steadyF (tab n f) (tab n g) (tab n K) (f k) i = p ∧ Vl .f32 p ((b k : Rat) / 4) := by
    refine ⟨_, rfl, ?_⟩
    unfold steadyF
    dsimp only
    have e1 : (tab n g).getD i default = g i := getN g (by omega)
    have e2 : (tab n g).getD (i + 1) default = g ((i : Int) + 1) := by rw [getN g (by omega)]; rfl
    have e3 : (tab n K).getD i default = K i := getN K (by omega)
    have e4 : (tab n K).getD (i + 1) default = K ((i : Int) + 1) := by rw [getN K (by omega)]; rfl
    rw [e1, e2, e3, e4]
    rcases hc with hc | hc
    · subst hc
      have e5 : (tab n f).getD k default = f k := getN f (by omega)
      rw [e5] at hS ⊢
      have ht := zero_div_ex (sub_self_ex (h.fx k (by omega) (by omega)) (h.fx k (by omega) (by omega))) hS (by grind)
      generalize fbin .quo .f32 (fbin .sub .f32 (f k) (f k)) (fbin .sub .f32 ((tab n f).getD (k + 1) default) (f k)) = T at *
      have hu : Vl .f32 (fbin .sub .f32 (fv .f32 1065353216) T) 1 := by
        have := sub_ex vl_f1 ht 1 0 (by decide) (by decide) (by decide +kernel)
        rwa [show (1 : Rat) - 0 = 1 from by decide +kernel] at this
      generalize fbin .sub .f32 (fv .f32 1065353216) T = U at *
      have h1 := add_zero_ex vl_f1 (mul_zero_ex vl_c2 ht) f1
      have t1 := one_mul_ex (one_mul_ex (one_mul_ex h1 hu f1) hu f1) hy1 (quarter_fit (k := b k) (by omega) (by omega))
      have t2 := zero_mul_ex (zero_mul_ex (zero_mul_ex (zero_mul_ex ht hu) hu) hS) ho1
      have tt := zero_mul_ex ht ht
      obtain ⟨d, hd, _⟩ := vl_sub (Vl.c (b := 1077936128) (q := 3) (by decide +kernel)) (mul_zero_ex vl_c2 ht) (fit_bd (by grind) (by grind))
      have t3 := zero_mul_ex (zero_mul_ex tt hd) hy2
      obtain ⟨d', hd', _⟩ := vl_sub ht vl_f1 (fit_bd (by grind) (by grind))
      have t4 := zero_mul_ex (zero_mul_ex (zero_mul_ex tt hd') hS) ho2
      have qf := quarter_fit (k := b k) (by omega) (by omega)
      exact add_zero_ex (add_zero_ex (add_zero_ex (zero_add_ex vl_k0 t1 qf) t2 qf) t3 qf) t4 qf
    · subst hc
      have e5 : (tab n f).getD (i + 1) default = f ((i + 1 : Nat) : Int) := getN f (by omega)
      rw [e5] at hS ⊢
      have ht := self_div_ex hS hS (by grind)
      generalize fbin .quo .f32 (fbin .sub .f32 (f ((i + 1 : Nat) : Int)) ((tab n f).getD i default)) (fbin .sub .f32 (f ((i + 1 : Nat) : Int)) ((tab n f).getD i default)) = T at *
      have hu := sub_self_ex vl_f1 ht
      generalize fbin .sub .f32 (fv .f32 1065353216) T = U at *
      have h2 : Vl .f32 (mulF (fv .f32 1073741824) T) 2 := by
        have := mul_ex vl_c2 ht 2 0 (by decide) (by decide) (by decide +kernel)
        rwa [show (2 : Rat) * 1 = 2 from by decide +kernel] at this
      obtain ⟨d, hd, _⟩ := vl_add vl_f1 h2 (fit_bd (by grind) (by grind))
      have t1 := zero_mul_ex (mul_zero_ex (mul_zero_ex hd hu) hu) hy1
      have t2 := zero_mul_ex (zero_mul_ex (mul_zero_ex (mul_zero_ex ht hu) hu) hS) ho1
      have tt := one_mul_ex ht ht f1
      have h3 : Vl .f32 (fbin .sub .f32 (fv .f32 1077936128) (mulF (fv .f32 1073741824) T)) 1 := by
        have := sub_ex (Vl.c (b := 1077936128) (q := 3) (by decide +kernel)) h2 1 0 (by decide) (by decide) (by decide +kernel)
        rwa [show (3 : Rat) - 2 = 1 from by decide +kernel] at this
      have qf := quarter_fit (k := b ((i : Int) + 1)) (by omega) (by omega)
      have t3 := one_mul_ex (one_mul_ex tt h3 f1) hy2 qf
      have t4 := zero_mul_ex (zero_mul_ex (mul_zero_ex tt (sub_self_ex ht vl_f1)) hS) ho2
      have z2 := add_zero_ex (zero_add_ex vl_k0 t1 f0) t2 f0
      have ebk : ((b ((i + 1 : Nat) : Int) : Rat) / 4) = (b ((i : Int) + 1) : Rat) / 4 := by rw [show ((i + 1 : Nat) : Int) = (i : Int) + 1 from by omega]
      rw [ebk]
      exact add_zero_ex (zero_add_ex z2 t3 qf) t4 qf
  obtain ⟨p, hp, hv⟩ := key
  rw [hp]
  obtain ⟨hn1, hn2⟩ := num_vl hv
  rw [hn1, hn2]
  exact ⟨p, rfl, hv⟩
/-- Between its points, at 1 of 4: the values. -/
theorem quarter1 {T U h y1 y2 K1 K2 : FV} {H v w : Rat} {hn b1 b2 : Int} (hT : Vl .f32 T (1 / 4)) (hU : Vl .f32 U (3 / 4)) (hh : Vl .f32 h H) (hH : H = (hn : Rat) / 4) (hn1 : 2 ≤ hn) (hn2 : hn ≤ 7) (hy1 : Vl .f32 y1 ((b1 : Rat) / 4)) (hy2 : Vl .f32 y2 ((b2 : Rat) / 4)) (hb1 : -100 ≤ b1 ∧ b1 ≤ 100) (hb2 : -100 ≤ b2 ∧ b2 ≤ 100)
    (hK1 : Vl .f32 K1 v) (hK2 : Vl .f32 K2 w) (v1 : -107 ≤ v) (v2 : v ≤ 107) (w1 : -107 ≤ w) (w2 : w ≤ 107) :
    ∃ r, Vl .f32 (sumF [mulF (mulF (mulF (fbin .add .f32 (fv .f32 1065353216) (mulF (fv .f32 1073741824) T)) U) U) y1, mulF (mulF (mulF (mulF T U) U) h) K1, mulF (mulF (mulF T T) (fbin .sub .f32 (fv .f32 1077936128) (mulF (fv .f32 1073741824) T))) y2, mulF (mulF (mulF (mulF T T) (fbin .sub .f32 T (fv .f32 1065353216))) h) K2]) r ∧
      (27 / 32) * ((b1 : Rat) / 4) + (9 / 64) * (v * H) + (5 / 32) * ((b2 : Rat) / 4) + (-(3 / 64)) * (w * H) - 1 / 2000 ≤ r ∧ r ≤ (27 / 32) * ((b1 : Rat) / 4) + (9 / 64) * (v * H) + (5 / 32) * ((b2 : Rat) / 4) + (-(3 / 64)) * (w * H) + 1 / 2000 := by
  have B1 := int_le hb1.1
  have B2 := int_le hb1.2
  have B3 := int_le hb2.1
  have B4 := int_le hb2.2
  have N1 := int_le hn1
  have N2 := int_le hn2
  simp only [show ((-100 : Int) : Rat) = -100 from rfl, show ((100 : Int) : Rat) = 100 from rfl, show ((2 : Int) : Rat) = 2 from rfl, show ((7 : Int) : Rat) = 7 from rfl] at B1 B2 B3 B4 N1 N2
  have x2 : Vl .f32 (mulF (fv .f32 1073741824) T) (1 / 2) := by
    have := mul_ex vl_c2 hT (32) 6 (by decide) (by decide) (by decide +kernel)
    rwa [show (2 : Rat) * (1 / 4) = (1 / 2) from by decide +kernel] at this
  have x1 : Vl .f32 (fbin .add .f32 (fv .f32 1065353216) (mulF (fv .f32 1073741824) T)) (3 / 2) := by
    have := add_ex vl_f1 x2 (96) 6 (by decide) (by decide) (by decide +kernel)
    rwa [show (1 : Rat) + (1 / 2) = (3 / 2) from by decide +kernel] at this
  have x3 : Vl .f32 (mulF (fbin .add .f32 (fv .f32 1065353216) (mulF (fv .f32 1073741824) T)) U) (9 / 8) := by
    have := mul_ex x1 hU (72) 6 (by decide) (by decide) (by decide +kernel)
    rwa [show ((3 / 2) : Rat) * (3 / 4) = (9 / 8) from by decide +kernel] at this
  have x4 : Vl .f32 (mulF (mulF (fbin .add .f32 (fv .f32 1065353216) (mulF (fv .f32 1073741824) T)) U) U) (27 / 32) := by
    have := mul_ex x3 hU (54) 6 (by decide) (by decide) (by decide +kernel)
    rwa [show ((9 / 8) : Rat) * (3 / 4) = (27 / 32) from by decide +kernel] at this
  have z1 : Vl .f32 (mulF T U) (3 / 16) := by
    have := mul_ex hT hU (12) 6 (by decide) (by decide) (by decide +kernel)
    rwa [show ((1 / 4) : Rat) * (3 / 4) = (3 / 16) from by decide +kernel] at this
  have z2 : Vl .f32 (mulF (mulF T U) U) (9 / 64) := by
    have := mul_ex z1 hU (9) 6 (by decide) (by decide) (by decide +kernel)
    rwa [show ((3 / 16) : Rat) * (3 / 4) = (9 / 64) from by decide +kernel] at this
  have s1 : Vl .f32 (mulF T T) (1 / 16) := by
    have := mul_ex hT hT (4) 6 (by decide) (by decide) (by decide +kernel)
    rwa [show ((1 / 4) : Rat) * (1 / 4) = (1 / 16) from by decide +kernel] at this
  have s2 : Vl .f32 (fbin .sub .f32 (fv .f32 1077936128) (mulF (fv .f32 1073741824) T)) (5 / 2) := by
    have := sub_ex vl_k3 x2 (160) 6 (by decide) (by decide) (by decide +kernel)
    rwa [show (3 : Rat) - (1 / 2) = (5 / 2) from by decide +kernel] at this
  have s3 : Vl .f32 (mulF (mulF T T) (fbin .sub .f32 (fv .f32 1077936128) (mulF (fv .f32 1073741824) T))) (5 / 32) := by
    have := mul_ex s1 s2 (10) 6 (by decide) (by decide) (by decide +kernel)
    rwa [show ((1 / 16) : Rat) * (5 / 2) = (5 / 32) from by decide +kernel] at this
  have s4 : Vl .f32 (fbin .sub .f32 T (fv .f32 1065353216)) (-(3 / 4)) := by
    have := sub_ex hT vl_f1 (-48) 6 (by decide) (by decide) (by decide +kernel)
    rwa [show ((1 / 4) : Rat) - 1 = (-(3 / 4)) from by decide +kernel] at this
  have s5 : Vl .f32 (mulF (mulF T T) (fbin .sub .f32 T (fv .f32 1065353216))) (-(3 / 64)) := by
    have := mul_ex s1 s4 (-3) 6 (by decide) (by decide) (by decide +kernel)
    rwa [show ((1 / 16) : Rat) * (-(3 / 4)) = (-(3 / 64)) from by decide +kernel] at this
  have T1 := mul_ex x4 hy1 (54 * b1) 8 (by omega) (by decide) (by rw [show ((2 ^ 8 : Nat) : Rat) = 256 from rfl, Rat.intCast_mul, show ((54 : Int) : Rat) = 54 from rfl]; grind)
  have T3 := mul_ex s3 hy2 (10 * b2) 8 (by omega) (by decide) (by rw [show ((2 ^ 8 : Nat) : Rat) = 256 from rfl, Rat.intCast_mul, show ((10 : Int) : Rat) = 10 from rfl]; grind)
  have P2 := mul_ex z2 hh (9 * hn) 8 (by omega) (by decide) (by rw [hH, show ((2 ^ 8 : Nat) : Rat) = 256 from rfl, Rat.intCast_mul, show ((9 : Int) : Rat) = 9 from rfl]; grind)
  have P4 := mul_ex s5 hh (-3 * hn) 8 (by omega) (by decide) (by rw [hH, show ((2 ^ 8 : Nat) : Rat) = 256 from rfl, Rat.intCast_mul, show ((-3 : Int) : Rat) = -3 from rfl]; grind)
  have hvH := mul_bnd (p := v) (q := H) (a := 107) (b := 2) v1 v2 (by grind) (by grind)
  have hwH := mul_bnd (p := w) (q := H) (a := 107) (b := 2) w1 w2 (by grind) (by grind)
  have E2 : (9 / 64) * H * v = (9 / 64) * (v * H) := by grind
  have E4 : (-(3 / 64)) * H * w = (-(3 / 64)) * (w * H) := by grind
  obtain ⟨t2, T2, R2⟩ := vl_mul P2 hK1 (fit_bd (by rw [E2]; grind) (by rw [E2]; grind))
  obtain ⟨t4, T4, R4⟩ := vl_mul P4 hK2 (fit_bd (by rw [E4]; grind) (by rw [E4]; grind))
  rw [E2] at R2
  rw [E4] at R4
  have n2 := rnd_rel R2 100 (by grind) (by grind)
  have n4 := rnd_rel R4 100 (by grind) (by grind)
  have a0 := zero_add_ex vl_k0 T1 (fit_bd (by grind) (by grind))
  obtain ⟨a1, A1, Q1⟩ := vl_add a0 T2 (fit_bd (by grind) (by grind))
  have k1 := rnd_rel Q1 200 (by grind) (by grind)
  obtain ⟨a2, A2, Q2⟩ := vl_add A1 T3 (fit_bd (by grind) (by grind))
  have k2 := rnd_rel Q2 300 (by grind) (by grind)
  obtain ⟨a3, A3, Q3⟩ := vl_add A2 T4 (fit_bd (by grind) (by grind))
  have k3 := rnd_rel Q3 500 (by grind) (by grind)
  exact ⟨a3, A3, by grind, by grind⟩
/-- Between its points, at 2 of 4: the values. -/
theorem quarter2 {T U h y1 y2 K1 K2 : FV} {H v w : Rat} {hn b1 b2 : Int} (hT : Vl .f32 T (1 / 2)) (hU : Vl .f32 U (1 / 2)) (hh : Vl .f32 h H) (hH : H = (hn : Rat) / 4) (hn1 : 2 ≤ hn) (hn2 : hn ≤ 7) (hy1 : Vl .f32 y1 ((b1 : Rat) / 4)) (hy2 : Vl .f32 y2 ((b2 : Rat) / 4)) (hb1 : -100 ≤ b1 ∧ b1 ≤ 100) (hb2 : -100 ≤ b2 ∧ b2 ≤ 100)
    (hK1 : Vl .f32 K1 v) (hK2 : Vl .f32 K2 w) (v1 : -107 ≤ v) (v2 : v ≤ 107) (w1 : -107 ≤ w) (w2 : w ≤ 107) :
    ∃ r, Vl .f32 (sumF [mulF (mulF (mulF (fbin .add .f32 (fv .f32 1065353216) (mulF (fv .f32 1073741824) T)) U) U) y1, mulF (mulF (mulF (mulF T U) U) h) K1, mulF (mulF (mulF T T) (fbin .sub .f32 (fv .f32 1077936128) (mulF (fv .f32 1073741824) T))) y2, mulF (mulF (mulF (mulF T T) (fbin .sub .f32 T (fv .f32 1065353216))) h) K2]) r ∧
      (1 / 2) * ((b1 : Rat) / 4) + (1 / 8) * (v * H) + (1 / 2) * ((b2 : Rat) / 4) + (-(1 / 8)) * (w * H) - 1 / 2000 ≤ r ∧ r ≤ (1 / 2) * ((b1 : Rat) / 4) + (1 / 8) * (v * H) + (1 / 2) * ((b2 : Rat) / 4) + (-(1 / 8)) * (w * H) + 1 / 2000 := by
  have B1 := int_le hb1.1
  have B2 := int_le hb1.2
  have B3 := int_le hb2.1
  have B4 := int_le hb2.2
  have N1 := int_le hn1
  have N2 := int_le hn2
  simp only [show ((-100 : Int) : Rat) = -100 from rfl, show ((100 : Int) : Rat) = 100 from rfl, show ((2 : Int) : Rat) = 2 from rfl, show ((7 : Int) : Rat) = 7 from rfl] at B1 B2 B3 B4 N1 N2
  have x2 : Vl .f32 (mulF (fv .f32 1073741824) T) (1) := by
    have := mul_ex vl_c2 hT (64) 6 (by decide) (by decide) (by decide +kernel)
    rwa [show (2 : Rat) * (1 / 2) = (1) from by decide +kernel] at this
  have x1 : Vl .f32 (fbin .add .f32 (fv .f32 1065353216) (mulF (fv .f32 1073741824) T)) (2) := by
    have := add_ex vl_f1 x2 (128) 6 (by decide) (by decide) (by decide +kernel)
    rwa [show (1 : Rat) + (1) = (2) from by decide +kernel] at this
  have x3 : Vl .f32 (mulF (fbin .add .f32 (fv .f32 1065353216) (mulF (fv .f32 1073741824) T)) U) (1) := by
    have := mul_ex x1 hU (64) 6 (by decide) (by decide) (by decide +kernel)
    rwa [show ((2) : Rat) * (1 / 2) = (1) from by decide +kernel] at this
  have x4 : Vl .f32 (mulF (mulF (fbin .add .f32 (fv .f32 1065353216) (mulF (fv .f32 1073741824) T)) U) U) (1 / 2) := by
    have := mul_ex x3 hU (32) 6 (by decide) (by decide) (by decide +kernel)
    rwa [show ((1) : Rat) * (1 / 2) = (1 / 2) from by decide +kernel] at this
  have z1 : Vl .f32 (mulF T U) (1 / 4) := by
    have := mul_ex hT hU (16) 6 (by decide) (by decide) (by decide +kernel)
    rwa [show ((1 / 2) : Rat) * (1 / 2) = (1 / 4) from by decide +kernel] at this
  have z2 : Vl .f32 (mulF (mulF T U) U) (1 / 8) := by
    have := mul_ex z1 hU (8) 6 (by decide) (by decide) (by decide +kernel)
    rwa [show ((1 / 4) : Rat) * (1 / 2) = (1 / 8) from by decide +kernel] at this
  have s1 : Vl .f32 (mulF T T) (1 / 4) := by
    have := mul_ex hT hT (16) 6 (by decide) (by decide) (by decide +kernel)
    rwa [show ((1 / 2) : Rat) * (1 / 2) = (1 / 4) from by decide +kernel] at this
  have s2 : Vl .f32 (fbin .sub .f32 (fv .f32 1077936128) (mulF (fv .f32 1073741824) T)) (2) := by
    have := sub_ex vl_k3 x2 (128) 6 (by decide) (by decide) (by decide +kernel)
    rwa [show (3 : Rat) - (1) = (2) from by decide +kernel] at this
  have s3 : Vl .f32 (mulF (mulF T T) (fbin .sub .f32 (fv .f32 1077936128) (mulF (fv .f32 1073741824) T))) (1 / 2) := by
    have := mul_ex s1 s2 (32) 6 (by decide) (by decide) (by decide +kernel)
    rwa [show ((1 / 4) : Rat) * (2) = (1 / 2) from by decide +kernel] at this
  have s4 : Vl .f32 (fbin .sub .f32 T (fv .f32 1065353216)) (-(1 / 2)) := by
    have := sub_ex hT vl_f1 (-32) 6 (by decide) (by decide) (by decide +kernel)
    rwa [show ((1 / 2) : Rat) - 1 = (-(1 / 2)) from by decide +kernel] at this
  have s5 : Vl .f32 (mulF (mulF T T) (fbin .sub .f32 T (fv .f32 1065353216))) (-(1 / 8)) := by
    have := mul_ex s1 s4 (-8) 6 (by decide) (by decide) (by decide +kernel)
    rwa [show ((1 / 4) : Rat) * (-(1 / 2)) = (-(1 / 8)) from by decide +kernel] at this
  have T1 := mul_ex x4 hy1 (32 * b1) 8 (by omega) (by decide) (by rw [show ((2 ^ 8 : Nat) : Rat) = 256 from rfl, Rat.intCast_mul, show ((32 : Int) : Rat) = 32 from rfl]; grind)
  have T3 := mul_ex s3 hy2 (32 * b2) 8 (by omega) (by decide) (by rw [show ((2 ^ 8 : Nat) : Rat) = 256 from rfl, Rat.intCast_mul, show ((32 : Int) : Rat) = 32 from rfl]; grind)
  have P2 := mul_ex z2 hh (8 * hn) 8 (by omega) (by decide) (by rw [hH, show ((2 ^ 8 : Nat) : Rat) = 256 from rfl, Rat.intCast_mul, show ((8 : Int) : Rat) = 8 from rfl]; grind)
  have P4 := mul_ex s5 hh (-8 * hn) 8 (by omega) (by decide) (by rw [hH, show ((2 ^ 8 : Nat) : Rat) = 256 from rfl, Rat.intCast_mul, show ((-8 : Int) : Rat) = -8 from rfl]; grind)
  have hvH := mul_bnd (p := v) (q := H) (a := 107) (b := 2) v1 v2 (by grind) (by grind)
  have hwH := mul_bnd (p := w) (q := H) (a := 107) (b := 2) w1 w2 (by grind) (by grind)
  have E2 : (1 / 8) * H * v = (1 / 8) * (v * H) := by grind
  have E4 : (-(1 / 8)) * H * w = (-(1 / 8)) * (w * H) := by grind
  obtain ⟨t2, T2, R2⟩ := vl_mul P2 hK1 (fit_bd (by rw [E2]; grind) (by rw [E2]; grind))
  obtain ⟨t4, T4, R4⟩ := vl_mul P4 hK2 (fit_bd (by rw [E4]; grind) (by rw [E4]; grind))
  rw [E2] at R2
  rw [E4] at R4
  have n2 := rnd_rel R2 100 (by grind) (by grind)
  have n4 := rnd_rel R4 100 (by grind) (by grind)
  have a0 := zero_add_ex vl_k0 T1 (fit_bd (by grind) (by grind))
  obtain ⟨a1, A1, Q1⟩ := vl_add a0 T2 (fit_bd (by grind) (by grind))
  have k1 := rnd_rel Q1 200 (by grind) (by grind)
  obtain ⟨a2, A2, Q2⟩ := vl_add A1 T3 (fit_bd (by grind) (by grind))
  have k2 := rnd_rel Q2 300 (by grind) (by grind)
  obtain ⟨a3, A3, Q3⟩ := vl_add A2 T4 (fit_bd (by grind) (by grind))
  have k3 := rnd_rel Q3 500 (by grind) (by grind)
  exact ⟨a3, A3, by grind, by grind⟩
/-- Between its points, at 3 of 4: the values. -/
theorem quarter3 {T U h y1 y2 K1 K2 : FV} {H v w : Rat} {hn b1 b2 : Int} (hT : Vl .f32 T (3 / 4)) (hU : Vl .f32 U (1 / 4)) (hh : Vl .f32 h H) (hH : H = (hn : Rat) / 4) (hn1 : 2 ≤ hn) (hn2 : hn ≤ 7) (hy1 : Vl .f32 y1 ((b1 : Rat) / 4)) (hy2 : Vl .f32 y2 ((b2 : Rat) / 4)) (hb1 : -100 ≤ b1 ∧ b1 ≤ 100) (hb2 : -100 ≤ b2 ∧ b2 ≤ 100)
    (hK1 : Vl .f32 K1 v) (hK2 : Vl .f32 K2 w) (v1 : -107 ≤ v) (v2 : v ≤ 107) (w1 : -107 ≤ w) (w2 : w ≤ 107) :
    ∃ r, Vl .f32 (sumF [mulF (mulF (mulF (fbin .add .f32 (fv .f32 1065353216) (mulF (fv .f32 1073741824) T)) U) U) y1, mulF (mulF (mulF (mulF T U) U) h) K1, mulF (mulF (mulF T T) (fbin .sub .f32 (fv .f32 1077936128) (mulF (fv .f32 1073741824) T))) y2, mulF (mulF (mulF (mulF T T) (fbin .sub .f32 T (fv .f32 1065353216))) h) K2]) r ∧
      (5 / 32) * ((b1 : Rat) / 4) + (3 / 64) * (v * H) + (27 / 32) * ((b2 : Rat) / 4) + (-(9 / 64)) * (w * H) - 1 / 2000 ≤ r ∧ r ≤ (5 / 32) * ((b1 : Rat) / 4) + (3 / 64) * (v * H) + (27 / 32) * ((b2 : Rat) / 4) + (-(9 / 64)) * (w * H) + 1 / 2000 := by
  have B1 := int_le hb1.1
  have B2 := int_le hb1.2
  have B3 := int_le hb2.1
  have B4 := int_le hb2.2
  have N1 := int_le hn1
  have N2 := int_le hn2
  simp only [show ((-100 : Int) : Rat) = -100 from rfl, show ((100 : Int) : Rat) = 100 from rfl, show ((2 : Int) : Rat) = 2 from rfl, show ((7 : Int) : Rat) = 7 from rfl] at B1 B2 B3 B4 N1 N2
  have x2 : Vl .f32 (mulF (fv .f32 1073741824) T) (3 / 2) := by
    have := mul_ex vl_c2 hT (96) 6 (by decide) (by decide) (by decide +kernel)
    rwa [show (2 : Rat) * (3 / 4) = (3 / 2) from by decide +kernel] at this
  have x1 : Vl .f32 (fbin .add .f32 (fv .f32 1065353216) (mulF (fv .f32 1073741824) T)) (5 / 2) := by
    have := add_ex vl_f1 x2 (160) 6 (by decide) (by decide) (by decide +kernel)
    rwa [show (1 : Rat) + (3 / 2) = (5 / 2) from by decide +kernel] at this
  have x3 : Vl .f32 (mulF (fbin .add .f32 (fv .f32 1065353216) (mulF (fv .f32 1073741824) T)) U) (5 / 8) := by
    have := mul_ex x1 hU (40) 6 (by decide) (by decide) (by decide +kernel)
    rwa [show ((5 / 2) : Rat) * (1 / 4) = (5 / 8) from by decide +kernel] at this
  have x4 : Vl .f32 (mulF (mulF (fbin .add .f32 (fv .f32 1065353216) (mulF (fv .f32 1073741824) T)) U) U) (5 / 32) := by
    have := mul_ex x3 hU (10) 6 (by decide) (by decide) (by decide +kernel)
    rwa [show ((5 / 8) : Rat) * (1 / 4) = (5 / 32) from by decide +kernel] at this
  have z1 : Vl .f32 (mulF T U) (3 / 16) := by
    have := mul_ex hT hU (12) 6 (by decide) (by decide) (by decide +kernel)
    rwa [show ((3 / 4) : Rat) * (1 / 4) = (3 / 16) from by decide +kernel] at this
  have z2 : Vl .f32 (mulF (mulF T U) U) (3 / 64) := by
    have := mul_ex z1 hU (3) 6 (by decide) (by decide) (by decide +kernel)
    rwa [show ((3 / 16) : Rat) * (1 / 4) = (3 / 64) from by decide +kernel] at this
  have s1 : Vl .f32 (mulF T T) (9 / 16) := by
    have := mul_ex hT hT (36) 6 (by decide) (by decide) (by decide +kernel)
    rwa [show ((3 / 4) : Rat) * (3 / 4) = (9 / 16) from by decide +kernel] at this
  have s2 : Vl .f32 (fbin .sub .f32 (fv .f32 1077936128) (mulF (fv .f32 1073741824) T)) (3 / 2) := by
    have := sub_ex vl_k3 x2 (96) 6 (by decide) (by decide) (by decide +kernel)
    rwa [show (3 : Rat) - (3 / 2) = (3 / 2) from by decide +kernel] at this
  have s3 : Vl .f32 (mulF (mulF T T) (fbin .sub .f32 (fv .f32 1077936128) (mulF (fv .f32 1073741824) T))) (27 / 32) := by
    have := mul_ex s1 s2 (54) 6 (by decide) (by decide) (by decide +kernel)
    rwa [show ((9 / 16) : Rat) * (3 / 2) = (27 / 32) from by decide +kernel] at this
  have s4 : Vl .f32 (fbin .sub .f32 T (fv .f32 1065353216)) (-(1 / 4)) := by
    have := sub_ex hT vl_f1 (-16) 6 (by decide) (by decide) (by decide +kernel)
    rwa [show ((3 / 4) : Rat) - 1 = (-(1 / 4)) from by decide +kernel] at this
  have s5 : Vl .f32 (mulF (mulF T T) (fbin .sub .f32 T (fv .f32 1065353216))) (-(9 / 64)) := by
    have := mul_ex s1 s4 (-9) 6 (by decide) (by decide) (by decide +kernel)
    rwa [show ((9 / 16) : Rat) * (-(1 / 4)) = (-(9 / 64)) from by decide +kernel] at this
  have T1 := mul_ex x4 hy1 (10 * b1) 8 (by omega) (by decide) (by rw [show ((2 ^ 8 : Nat) : Rat) = 256 from rfl, Rat.intCast_mul, show ((10 : Int) : Rat) = 10 from rfl]; grind)
  have T3 := mul_ex s3 hy2 (54 * b2) 8 (by omega) (by decide) (by rw [show ((2 ^ 8 : Nat) : Rat) = 256 from rfl, Rat.intCast_mul, show ((54 : Int) : Rat) = 54 from rfl]; grind)
  have P2 := mul_ex z2 hh (3 * hn) 8 (by omega) (by decide) (by rw [hH, show ((2 ^ 8 : Nat) : Rat) = 256 from rfl, Rat.intCast_mul, show ((3 : Int) : Rat) = 3 from rfl]; grind)
  have P4 := mul_ex s5 hh (-9 * hn) 8 (by omega) (by decide) (by rw [hH, show ((2 ^ 8 : Nat) : Rat) = 256 from rfl, Rat.intCast_mul, show ((-9 : Int) : Rat) = -9 from rfl]; grind)
  have hvH := mul_bnd (p := v) (q := H) (a := 107) (b := 2) v1 v2 (by grind) (by grind)
  have hwH := mul_bnd (p := w) (q := H) (a := 107) (b := 2) w1 w2 (by grind) (by grind)
  have E2 : (3 / 64) * H * v = (3 / 64) * (v * H) := by grind
  have E4 : (-(9 / 64)) * H * w = (-(9 / 64)) * (w * H) := by grind
  obtain ⟨t2, T2, R2⟩ := vl_mul P2 hK1 (fit_bd (by rw [E2]; grind) (by rw [E2]; grind))
  obtain ⟨t4, T4, R4⟩ := vl_mul P4 hK2 (fit_bd (by rw [E4]; grind) (by rw [E4]; grind))
  rw [E2] at R2
  rw [E4] at R4
  have n2 := rnd_rel R2 100 (by grind) (by grind)
  have n4 := rnd_rel R4 100 (by grind) (by grind)
  have a0 := zero_add_ex vl_k0 T1 (fit_bd (by grind) (by grind))
  obtain ⟨a1, A1, Q1⟩ := vl_add a0 T2 (fit_bd (by grind) (by grind))
  have k1 := rnd_rel Q1 200 (by grind) (by grind)
  obtain ⟨a2, A2, Q2⟩ := vl_add A1 T3 (fit_bd (by grind) (by grind))
  have k2 := rnd_rel Q2 300 (by grind) (by grind)
  obtain ⟨a3, A3, Q3⟩ := vl_add A2 T4 (fit_bd (by grind) (by grind))
  have k3 := rnd_rel Q3 500 (by grind) (by grind)
  exact ⟨a3, A3, by grind, by grind⟩

/-- The place between two points. -/
def btwF (f : Int → FV) (k : Int) (j : Nat) : FV := fbin .add .f32 (f (k - 1)) (fbin .quo .f32 (fbin .mul .f32 (fbin .sub .f32 (f k) (f (k - 1))) (some (FloatKind.f32.nearest j))) (fv .f32 1082130432))
theorem vl_nat (j : Nat) (h : j ≤ 1000) : Vl .f32 (some (FloatKind.f32.nearest j)) (j : Rat) := vl_ofInt .f32 j (by have : FloatKind.f32.format.fractionBits = 23 := rfl; rw [this]; omega)
/-- Between its points, the curve with slopes lies between them, nearly. -/
theorem GD.steady_btw (h : GD n f g a b) {k : Nat} (h1 : 1 ≤ k) (hk : k < n) {j : Nat} (hj : j = 1 ∨ j = 2 ∨ j = 3) : ∃ p r, steadyT (tab n f) (tab n g) (tab n (slopT n f g)) (btwF f k j) = .tup [.f .f32 p, .raw (.bool true)] ∧ Vl .f32 p r ∧
    (((b ((k : Int) - 1) : Rat) / 4 - 1 / 2000 ≤ r ∧ r ≤ (b k : Rat) / 4 + 1 / 2000) ∨ ((b k : Rat) / 4 - 1 / 2000 ≤ r ∧ r ≤ (b ((k : Int) - 1) : Rat) / 4 + 1 / 2000)) := by
  have hn := h.hn
  obtain ⟨i, rfl⟩ : ∃ i : Nat, k = i + 1 := ⟨k - 1, by omega⟩
  have ec : (((i + 1 : Nat) : Int)) = (i : Int) + 1 := by omega
  have ec1 : (((i + 1 : Nat) : Int)) - 1 = (i : Int) := by omega
  have hst := h.step (i := (i : Int) + 1) (by omega) (by omega)
  have hsi := h.st ((i : Int) + 1) (by omega) (by omega)
  have hai := h.ar i (by omega) (by omega)
  rw [show (i : Int) + 1 - 1 = (i : Int) from by omega] at hsi
  have he1 : stp a ((i : Int) + 1) = ((a ((i : Int) + 1) - a i : Int) : Rat) / 4 := by unfold stp; rw [show (i : Int) + 1 - 1 = (i : Int) from by omega]
  have hje : (1 : Rat) ≤ (j : Rat) ∧ (j : Rat) ≤ 3 := by
    rcases hj with rfl | rfl | rfl <;> exact ⟨by decide +kernel, by decide +kernel⟩
  have hjI : (j : Int) = 1 ∨ (j : Int) = 2 ∨ (j : Int) = 3 := by omega
  -- the place
  have hS : Vl .f32 (fbin .sub .f32 (f ((i : Int) + 1)) (f i)) (stp a ((i : Int) + 1)) := by
    have := h.h_vl (i := (i : Int) + 1) (by omega) (by omega)
    rw [hT_pos f (by omega)] at this
    rwa [show (i : Int) + 1 - 1 = (i : Int) from by omega] at this
  have hat : Vl .f32 (btwF f ((i + 1 : Nat) : Int) j) ((a i : Rat) / 4 + stp a ((i : Int) + 1) * (j : Rat) / 4) ∧ Vl .f32 (fbin .sub .f32 (btwF f ((i + 1 : Nat) : Int) j) (f i)) (stp a ((i : Int) + 1) * (j : Rat) / 4) := by
    unfold btwF
    rw [ec1, ec]
    have m1 : Vl .f32 (fbin .mul .f32 (fbin .sub .f32 (f ((i : Int) + 1)) (f i)) (some (FloatKind.f32.nearest j))) (stp a ((i : Int) + 1) * (j : Rat)) := by
      refine mul_ex hS (vl_nat j (by omega)) ((a ((i : Int) + 1) - a i) * j) 2 ?_ (by decide) ?_
      · rcases hjI with e | e | e <;> rw [e] <;> omega
      · rw [he1, show ((2 ^ 2 : Nat) : Rat) = 4 from rfl, Rat.intCast_mul, Rat.intCast_natCast]; grind
    have m2 : Vl .f32 (fbin .quo .f32 (fbin .mul .f32 (fbin .sub .f32 (f ((i : Int) + 1)) (f i)) (some (FloatKind.f32.nearest j))) (fv .f32 1082130432)) (stp a ((i : Int) + 1) * (j : Rat) / 4) := by
      refine div_ex m1 (Vl.c (q := 4) (by decide +kernel)) (by decide +kernel) (Rat.div_mul_cancel (by decide +kernel)) ((a ((i : Int) + 1) - a i) * j) 4 ?_ (by decide) ?_
      · rcases hjI with e | e | e <;> rw [e] <;> omega
      · rw [he1, show ((2 ^ 4 : Nat) : Rat) = 16 from rfl, Rat.intCast_mul, Rat.intCast_natCast]; grind
    have m3 : Vl .f32 (fbin .add .f32 (f i) (fbin .quo .f32 (fbin .mul .f32 (fbin .sub .f32 (f ((i : Int) + 1)) (f i)) (some (FloatKind.f32.nearest j))) (fv .f32 1082130432))) ((a i : Rat) / 4 + stp a ((i : Int) + 1) * (j : Rat) / 4) := by
      refine add_ex (h.fx i (by omega) (by omega)) m2 (4 * a i + (a ((i : Int) + 1) - a i) * j) 4 ?_ (by decide) ?_
      · rcases hjI with e | e | e <;> rw [e] <;> omega
      · rw [he1, show ((2 ^ 4 : Nat) : Rat) = 16 from rfl, Rat.intCast_add, Rat.intCast_mul, Rat.intCast_mul, Rat.intCast_natCast, show ((4 : Int) : Rat) = 4 from rfl]; grind
    refine ⟨m3, ?_⟩
    have m4 := sub_ex m3 (h.fx i (by omega) (by omega)) ((a ((i : Int) + 1) - a i) * j) 4 (by rcases hjI with e | e | e <;> rw [e] <;> omega) (by decide) (by rw [he1, show ((2 ^ 4 : Nat) : Rat) = 16 from rfl, Rat.intCast_mul, Rat.intCast_natCast]; grind)
    have e : (a i : Rat) / 4 + stp a ((i : Int) + 1) * (j : Rat) / 4 - (a i : Rat) / 4 = stp a ((i : Int) + 1) * (j : Rat) / 4 := by grind
    rwa [e] at m4
  obtain ⟨hat, hdl⟩ := hat
  generalize btwF f ((i + 1 : Nat) : Int) j = at_ at *
  have hji : 0 < stp a ((i : Int) + 1) * (j : Rat) ∧ stp a ((i : Int) + 1) * (j : Rat) ≤ 4 * stp a ((i : Int) + 1) := by
    rcases hj with rfl | rfl | rfl
    · rw [show ((1 : Nat) : Rat) = 1 from rfl]; constructor <;> grind
    · rw [show ((2 : Nat) : Rat) = 2 from rfl]; constructor <;> grind
    · rw [show ((3 : Nat) : Rat) = 3 from rfl]; constructor <;> grind
  have hai1 : (a ((i : Int) + 1) : Rat) / 4 = (a i : Rat) / 4 + stp a ((i : Int) + 1) := by rw [he1, Rat.intCast_sub]; grind
  have hsp := h.span (i := i) hat (by omega) (.inr (by grind)) (by rw [hai1]; grind)
  have hin := h.inb hat (by
    rcases Nat.eq_zero_or_pos i with h0 | h0
    · subst h0; rw [show ((0 : Nat) : Int) = 0 from rfl]; grind
    · have := quarter_lt (h.lt (i := 0) (j := (i : Int)) (by omega) (by omega) (by omega)); grind) (by
    rcases (show i + 1 = n - 1 ∨ i + 1 < n - 1 from by omega) with h0 | h0
    · rw [show (n : Int) - 1 = (i : Int) + 1 from by omega, hai1]; grind
    · have := quarter_lt (h.lt (i := (i : Int) + 1) (j := (n : Int) - 1) (by omega) (by omega) (by omega)); grind)
  have hok := h.spanOk h.slop_fin hin
  rw [steadyT_yes hok, hsp]
  have e1 : (tab n g).getD i default = g i := getN g (by omega)
  have e2 : (tab n g).getD (i + 1) default = g ((i : Int) + 1) := by rw [getN g (by omega)]; rfl
  have e3 : (tab n (slopT n f g)).getD i default = slopT n f g i := getN _ (by omega)
  have e4 : (tab n (slopT n f g)).getD (i + 1) default = slopT n f g ((i : Int) + 1) := by rw [getN _ (by omega)]; rfl
  have e5 : (tab n f).getD i default = f i := getN f (by omega)
  have e6 : (tab n f).getD (i + 1) default = f ((i : Int) + 1) := by rw [getN f (by omega)]; rfl
  obtain ⟨v, w, hv, hw, v1, v2, w1, w2, up, dn⟩ := h.slopes (i := (i : Int) + 1) (by omega) (by omega)
  rw [show (i : Int) + 1 - 1 = (i : Int) from by omega] at hv
  have hy1 := h.gy i (by omega) (by omega)
  have hy2 := h.gy ((i : Int) + 1) (by omega) (by omega)
  have hb1 := h.br i (by omega) (by omega)
  have hb2 := h.br ((i : Int) + 1) (by omega) (by omega)
  have hdb : stp b ((i : Int) + 1) = (b ((i : Int) + 1) : Rat) / 4 - (b i : Rat) / 4 := by rw [stp_eq, show (i : Int) + 1 - 1 = (i : Int) from by omega]
  rw [ec1, ec]
  have key : ∃ p r, steadyF (tab n f) (tab n g) (tab n (slopT n f g)) at_ i = p ∧ Vl .f32 p r ∧ (((b i : Rat) / 4 - 1 / 2000 ≤ r ∧ r ≤ (b ((i : Int) + 1) : Rat) / 4 + 1 / 2000) ∨ ((b ((i : Int) + 1) : Rat) / 4 - 1 / 2000 ≤ r ∧ r ≤ (b i : Rat) / 4 + 1 / 2000)) := by
    unfold steadyF
    dsimp only
    rw [e1, e2, e3, e4, e5, e6]
    have ht : Vl .f32 (fbin .quo .f32 (fbin .sub .f32 at_ (f i)) (fbin .sub .f32 (f ((i : Int) + 1)) (f i))) ((j : Rat) / 4) := by
      refine div_ex hdl hS (by grind) (by grind) j 2 (by omega) (by decide) ?_
      rw [show ((2 ^ 2 : Nat) : Rat) = 4 from rfl, Rat.intCast_natCast]
      grind
    generalize fbin .quo .f32 (fbin .sub .f32 at_ (f i)) (fbin .sub .f32 (f ((i : Int) + 1)) (f i)) = T at *
    have hu : Vl .f32 (fbin .sub .f32 (fv .f32 1065353216) T) (1 - (j : Rat) / 4) := by
      refine sub_ex vl_f1 ht (4 - j) 2 (by omega) (by decide) ?_
      rw [show ((2 ^ 2 : Nat) : Rat) = 4 from rfl, Rat.intCast_sub, Rat.intCast_natCast, show ((4 : Int) : Rat) = 4 from rfl]
      grind
    generalize fbin .sub .f32 (fv .f32 1065353216) T = U at *
    generalize stp a ((i : Int) + 1) = H at *
    rcases hj with rfl | rfl | rfl
    · rw [show ((1 : Nat) : Rat) = 1 from rfl] at ht hu
      rw [show (1 : Rat) - 1 / 4 = 3 / 4 from by decide +kernel] at hu
      obtain ⟨r, hr, r1, r2⟩ := quarter1 ht hu hS he1 hsi.1 hsi.2 hy1 hy2 hb1 hb2 hv hw v1 v2 w1 w2
      refine ⟨_, r, rfl, hr, ?_⟩
      rcases Rat.le_total (a := 0) (b := stp b ((i : Int) + 1)) with h0 | h0
      · have := up h0; left; constructor <;> grind
      · have := dn h0; right; constructor <;> grind
    · rw [show ((2 : Nat) : Rat) = 2 from rfl] at ht hu
      rw [show (1 : Rat) - 2 / 4 = 1 / 2 from by decide +kernel] at hu
      rw [show (2 : Rat) / 4 = 1 / 2 from by decide +kernel] at ht
      obtain ⟨r, hr, r1, r2⟩ := quarter2 ht hu hS he1 hsi.1 hsi.2 hy1 hy2 hb1 hb2 hv hw v1 v2 w1 w2
      refine ⟨_, r, rfl, hr, ?_⟩
      rcases Rat.le_total (a := 0) (b := stp b ((i : Int) + 1)) with h0 | h0
      · have := up h0; left; constructor <;> grind
      · have := dn h0; right; constructor <;> grind
    · rw [show ((3 : Nat) : Rat) = 3 from rfl] at ht hu
      rw [show (1 : Rat) - 3 / 4 = 1 / 4 from by decide +kernel] at hu
      obtain ⟨r, hr, r1, r2⟩ := quarter3 ht hu hS he1 hsi.1 hsi.2 hy1 hy2 hb1 hb2 hv hw v1 v2 w1 w2
      refine ⟨_, r, rfl, hr, ?_⟩
      rcases Rat.le_total (a := 0) (b := stp b ((i : Int) + 1)) with h0 | h0
      · have := up h0; left; constructor <;> grind
      · have := dn h0; right; constructor <;> grind
  obtain ⟨p, r, hp, hr, hbb⟩ := key
  rw [hp]
  obtain ⟨hn1, hn2⟩ := num_vl hr
  rw [hn1, hn2]
  exact ⟨p, r, rfl, hr, hbb⟩
end Go.Ab
