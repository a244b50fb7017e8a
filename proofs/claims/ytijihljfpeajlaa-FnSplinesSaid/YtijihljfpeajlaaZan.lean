/- Part 14 of the texts on which the law leans, joined: What the law asks of the drawn spline, all of it; plain. No conditions. -/
import Derived.Test.YtijihljfpeajlaaZam
namespace Go.Ab
/-- Where the knots that are less than a number end. -/
def Lo (a : Int → Int) (n : Int) (L : Int → Int) : Prop := ∀ v, a 0 < v → v ≤ a n → ∀ i, a i < v ↔ i < L v
def loN (a : Int → Int) (v : Int) : Nat → Nat
  | 0 => 0
  | j + 1 => loN a v j + (if a j < v then 1 else 0)
theorem loN_is {a : Int → Int} (hm : ∀ i j, i ≤ j → a i ≤ a j) (v : Int) : ∀ j : Nat, loN a v j ≤ j ∧ ∀ i : Nat, i < j → (a i < v ↔ i < loN a v j)
  | 0 => ⟨Nat.le_refl _, fun _ h => absurd h (Nat.not_lt_zero _)⟩
  | j + 1 => by
    obtain ⟨h1, h2⟩ := loN_is hm v j
    by_cases hj : a j < v
    · have e : loN a v j = j := by
        false_or_by_contra
        have h3 := (h2 (loN a v j) (by omega)).1 (by have := hm (loN a v j : Nat) j (by omega); omega)
        omega
      have e2 : loN a v (j + 1) = j + 1 := by
        show loN a v j + (if a j < v then 1 else 0) = _
        rw [if_pos hj, e]
      rw [e2]
      exact ⟨Nat.le_refl _, fun i hi => ⟨fun _ => hi, fun _ => by have := hm (i : Nat) j (by omega); omega⟩⟩
    · have e2 : loN a v (j + 1) = loN a v j := by
        show loN a v j + (if a j < v then 1 else 0) = _
        rw [if_neg hj]
        rfl
      rw [e2]
      refine ⟨by omega, fun i hi => ?_⟩
      rcases Nat.lt_or_ge i j with h | h
      · exact h2 i h
      · obtain rfl : i = j := by omega
        exact ⟨fun h => absurd h hj, fun h => by omega⟩
theorem lo_start {a : Int → Int} {n : Nat} (hm : ∀ i j, i ≤ j → a i ≤ a j) : Lo a n (fun v => (loN a v n : Nat)) := fun v h0 h1 i => by
  obtain ⟨b1, b2⟩ := loN_is hm v n
  dsimp only
  rcases Int.lt_or_le i 0 with h | h
  · have := hm i 0 (by omega)
    exact ⟨fun _ => by omega, fun _ => by omega⟩
  · rcases Int.lt_or_le i n with h2 | h2
    · have := b2 i.toNat (by omega)
      rw [Int.toNat_of_nonneg h] at this
      exact this.trans ⟨fun x => by omega, fun x => by omega⟩
    · have := hm n i h2
      exact ⟨fun x => by omega, fun x => by omega⟩
/-- A knot put in moves what lies behind it. -/
def putL (L : Int → Int) (υ : Int) (v : Int) : Int := L v + (if υ < v then 1 else 0)
theorem Lo.put {a : Int → Int} {n : Nat} {L : Int → Int} (h : Lo a n L) (hm : ∀ i j, i ≤ j → a i ≤ a j) {k0 : Nat} {υ : Int} (h1 : a k0 ≤ υ) (h2 : υ < a ((k0 : Int) + 1)) (hk : k0 + 1 ≤ n) : Lo (insA a k0 υ) ((n + 1 : Nat) : Int) (putL L υ) := fun v b0 b1 i => by
  rw [insA_lo (by omega)] at b0
  rw [insA_hi (by omega), show ((n + 1 : Nat) : Int) - 1 = n by omega] at b1
  have hv := h v b0 b1
  unfold putL
  have x0 := hv k0
  have x1 := hv ((k0 : Int) + 1)
  by_cases hc : υ < v
  · rw [if_pos hc]
    have y0 := x0.1 (by omega)
    by_cases c1 : i ≤ k0
    · rw [insA_lo c1]
      have := hm i k0 c1
      exact ⟨fun _ => by omega, fun _ => by omega⟩
    · by_cases c2 : i = k0 + 1
      · rw [insA_at c2]
        exact ⟨fun _ => by omega, fun _ => by omega⟩
      · rw [insA_hi (by omega)]
        exact (hv (i - 1)).trans ⟨fun _ => by omega, fun _ => by omega⟩
  · rw [if_neg hc, Int.add_zero]
    have y1 : ¬ (k0 : Int) + 1 < L v := fun e => by have := x1.2 e; omega
    by_cases c1 : i ≤ k0
    · rw [insA_lo c1]
      exact hv i
    · by_cases c2 : i = k0 + 1
      · rw [insA_at c2]
        exact ⟨fun _ => by omega, fun _ => by omega⟩
      · rw [insA_hi (by omega)]
        have := hm ((k0 : Int) + 1) (i - 1) (by omega)
        exact ⟨fun _ => by omega, fun _ => by omega⟩
/-- No inner knot is there more often than told. -/
def CntLe (a : Int → Int) (d n : Nat) (L : Int → Int) : Prop := ∀ v, a 0 < v → v < a n → L (v + 1) ≤ L v + d
theorem mult_of {a : Int → Int} {d n : Nat} {L : Int → Int} (h : Lo a n L) (hm : ∀ i j, i ≤ j → a i ≤ a j) (hc : CntLe a d n L) (hf : ∀ i : Int, i ≤ d → a i = a 0) (lt : a ((n : Int) - 1) < a n) (gt : a d < a ((d : Int) + 1)) :
    ∀ j : Int, (d : Int) + 1 ≤ j → j + d ≤ (n : Int) - 1 → a j < a (j + d) := fun j h1 h2 => by
  false_or_by_contra
  have e1 := hm j (j + d) (by omega)
  have e2 := hm ((d : Int) + 1) j h1
  have e3 := hm (j + d) ((n : Int) - 1) h2
  have e4 := hf d (Int.le_refl _)
  have e5 := hc (a j) (by omega) (by omega)
  have e6 := (h (a j) (by omega) (by omega) j)
  have e7 := (h (a j + 1) (by omega) (by omega) (j + d)).1 (by omega)
  have e8 : ¬ j < L (a j) := fun e => by have := e6.2 e; omega
  omega
theorem cnt_of {a : Int → Int} {d n : Nat} {L : Int → Int} (h : Lo a n L) (hm : ∀ i j, i ≤ j → a i ≤ a j) (hf : ∀ i : Int, i ≤ d → a i = a 0) (mult : ∀ j : Int, (d : Int) + 1 ≤ j → j + d ≤ (n : Int) - 1 → a j < a (j + d)) : CntLe a d n L := fun v h0 h1 => by
  false_or_by_contra
  have e1 := h v h0 (by omega) (L v)
  have e2 := (h (v + 1) (by omega) (by omega) (L v + d)).2 (by omega)
  have e3 : ¬ a (L v) < v := fun e => by have := e1.1 e; omega
  have e4 : (d : Int) + 1 ≤ L v := by
    false_or_by_contra
    have := hf (L v) (by omega)
    omega
  have e5 : L v + d ≤ (n : Int) - 1 := by
    false_or_by_contra
    have := hm n (L v + d) (by omega)
    omega
  have := mult (L v) e4 e5
  omega
/-- Where the knots end that are less than the last. -/
theorem lo_last {a : Int → Int} {n : Nat} {L : Int → Int} (h : Lo a n L) (h0 : a 0 < a n) (lt : a ((n : Int) - 1) < a n) : L (a n) = n := by
  have e1 := (h (a n) h0 (Int.le_refl _) ((n : Int) - 1)).1 lt
  have e2 := (h (a n) h0 (Int.le_refl _) n)
  have e3 : ¬ (n : Int) < L (a n) := fun e => by have := e2.2 e; omega
  omega
/-- How often a number is there. -/
def cntA (a : Int → Int) (v : Int) : Nat → Nat
  | 0 => 0
  | j + 1 => cntA a v j + (if a j = v then 1 else 0)
theorem cntA_is {a : Int → Int} {n : Nat} {L : Int → Int} (h : Lo a n L) {v : Int} (h0 : a 0 < v) (h1 : v < a n) : ∀ j : Nat, (cntA a v j : Int) = min (j : Int) (L (v + 1)) - min (j : Int) (L v)
  | 0 => by
    have e1 := (h v h0 (by omega) 0).1 h0
    have e2 := (h (v + 1) (by omega) (by omega) 0).1 (by omega)
    show ((0 : Nat) : Int) = _
    omega
  | j + 1 => by
    have ih := cntA_is h h0 h1 j
    have e1 := h v h0 (by omega) j
    have e2 := h (v + 1) (by omega) (by omega) j
    show ((cntA a v j + (if a j = v then 1 else 0) : Nat) : Int) = _
    by_cases c : a j = v
    · rw [if_pos c]
      have x1 : ¬ (j : Int) < L v := fun e => by have := e1.2 e; omega
      have x2 := e2.1 (by omega)
      omega
    · rw [if_neg c]
      by_cases c2 : a j < v
      · have x1 := e1.1 c2
        have x2 := e2.1 (by omega)
        omega
      · have x1 : ¬ (j : Int) < L v := fun e => c2 (e1.2 e)
        have x2 : ¬ (j : Int) < L (v + 1) := fun e => by have := e2.2 e; omega
        omega
theorem cntA_all {a : Int → Int} {d n : Nat} {L : Int → Int} (h : Lo a n L) (hm : ∀ i j, i ≤ j → a i ≤ a j) {v : Int} (h0 : a 0 < v) (h1 : v < a n) : (cntA a v (n + d + 1) : Int) = L (v + 1) - L v := by
  rw [cntA_is h h0 h1]
  have e1 := h v h0 (by omega) n
  have e2 := h (v + 1) (by omega) (by omega) n
  have x1 : ¬ (n : Int) < L v := fun e => by have := e1.2 e; omega
  have x2 : ¬ (n : Int) < L (v + 1) := fun e => by have := e2.2 e; omega
  omega
theorem cnF_cntA {f : Int → FV} {a : Int → Int} {u : FV} {υ : Int} {N : Nat} (hg : ∀ i : Int, 0 ≤ i → i < N → Gd (f i) (a i)) (hu : Gd u υ) : ∀ j : Nat, j ≤ N → cnF f u j = cntA a υ j
  | 0, _ => rfl
  | j + 1, h => by
    have ih := cnF_cntA hg hu j (by omega)
    have hc := (gd_cmp (hg (j : Int) (by omega) (by omega)) hu).2.2.2.2.2
    show cnF f u j + (if cmpB .neq (fcmp .f32 (f j) u) = true then 0 else 1) = cntA a υ j + (if a j = υ then 1 else 0)
    rw [ih, hc]
    by_cases c : a j = υ
    · rw [if_pos c, if_neg (by simp [c])]
    · rw [if_neg c, if_pos (by simp [c])]
theorem kpN_lt {m : Int → Int} (hm : ∀ i j, i ≤ j → m i ≤ m j) : ∀ N r, r + 1 ≤ rkN m N → kpN m N r < kpN m N (r + 1)
  | 0, r, h => by
    simp only [rkN] at h
    omega
  | N + 1, r, h => by
    by_cases c : m ((N : Int) + 1) = m N
    · rw [kpN_eq c, kpN_eq c]
      rw [rkN_eq c] at h
      exact kpN_lt hm N r h
    · have e := rkN_ne c
      rw [e] at h
      rcases Nat.lt_or_ge r (rkN m N) with h1 | h1
      · rw [kpN_old (by omega), kpN_old (by omega)]
        exact kpN_lt hm N r h1
      · obtain rfl : r = rkN m N := by omega
        rw [kpN_old (Nat.le_refl _), kpN_at m N N (Nat.le_refl _), ← e, kpN_new c]
        have := hm N ((N : Int) + 1) (by omega)
        omega
theorem kpN_zero (m : Int → Int) : ∀ N, kpN m N 0 = m 0
  | 0 => rfl
  | N + 1 => by
    rw [kpN_old (Nat.zero_le _)]
    exact kpN_zero m N
theorem kpN_olds {m : Int → Int} {N r : Nat} (h : r ≤ rkN m N) : ∀ s, kpN m (N + s) r = kpN m N r
  | 0 => rfl
  | s + 1 => by
    rw [show N + (s + 1) = N + s + 1 by omega, kpN_old (by have := (rkN_up m N s).1; omega)]
    exact kpN_olds h s
theorem rkN_flat {m : Int → Int} {c : Int} {N : Nat} : ∀ s : Nat, (∀ i : Int, (N : Int) ≤ i → i ≤ (N : Int) + s → m i = c) → rkN m (N + s) = rkN m N
  | 0, _ => rfl
  | s + 1, h => by
    have h1 := rkN_flat s fun i a b => h i a (by omega)
    have e : m (((N + s : Nat) : Int) + 1) = m ((N + s : Nat) : Int) := by rw [h _ (by omega) (by omega), h _ (by omega) (by omega)]
    rw [show N + (s + 1) = N + s + 1 by omega, rkN_eq e, h1]
/-- The different ones of a part. -/
theorem rk_shift {m : Int → Int} {o : Nat} (h1 : rkN m o = 1) : ∀ i, rkN m (o + i) = rkN (fun j => m (j + o)) i + 1
  | 0 => h1
  | i + 1 => by
    have ih := rk_shift h1 i
    have e1 : (((o + i : Nat) : Int) + 1) = (i : Int) + 1 + o := by omega
    have e2 : ((o + i : Nat) : Int) = (i : Int) + o := by omega
    by_cases c : m (((o + i : Nat) : Int) + 1) = m ((o + i : Nat) : Int)
    · have c' : (fun j : Int => m (j + o)) ((i : Int) + 1) = (fun j : Int => m (j + o)) i := by
        simp only
        rw [← e1, ← e2]
        exact c
      rw [show o + (i + 1) = o + i + 1 by omega, rkN_eq c, rkN_eq (m := fun j : Int => m (j + o)) c', ih]
    · have c' : ¬ (fun j : Int => m (j + o)) ((i : Int) + 1) = (fun j : Int => m (j + o)) i := by
        simp only
        rw [← e1, ← e2]
        exact c
      rw [show o + (i + 1) = o + i + 1 by omega, rkN_ne c, rkN_ne (m := fun j : Int => m (j + o)) c', ih]
theorem kp_shift {m : Int → Int} {o : Nat} (h1 : rkN m o = 1) : ∀ i r, r ≤ rkN (fun j => m (j + o)) i → kpN m (o + i) (r + 1) = kpN (fun j => m (j + o)) i r
  | 0, r, h => by
    obtain rfl : r = 0 := by simp only [rkN] at h; omega
    have := kpN_at m o o (Nat.le_refl _)
    rw [h1] at this
    show kpN m o 1 = m (0 + o)
    rw [this, Int.zero_add]
  | i + 1, r, h => by
    have hr := rk_shift h1 i
    have e1 : (((o + i : Nat) : Int) + 1) = (i : Int) + 1 + o := by omega
    have e2 : ((o + i : Nat) : Int) = (i : Int) + o := by omega
    rw [show o + (i + 1) = o + i + 1 by omega]
    by_cases c : m (((o + i : Nat) : Int) + 1) = m ((o + i : Nat) : Int)
    · have c' : (fun j : Int => m (j + o)) ((i : Int) + 1) = (fun j : Int => m (j + o)) i := by
        simp only
        rw [← e1, ← e2]
        exact c
      rw [kpN_eq c, kpN_eq (m := fun j : Int => m (j + o)) c']
      rw [rkN_eq (m := fun j : Int => m (j + o)) c'] at h
      exact kp_shift h1 i r h
    · have c' : ¬ (fun j : Int => m (j + o)) ((i : Int) + 1) = (fun j : Int => m (j + o)) i := by
        simp only
        rw [← e1, ← e2]
        exact c
      rw [rkN_ne (m := fun j : Int => m (j + o)) c'] at h
      rcases Nat.lt_or_ge r (rkN (fun j => m (j + o)) i + 1) with h2 | h2
      · rw [kpN_old (by omega), kpN_old (m := fun j : Int => m (j + o)) (by omega)]
        exact kp_shift h1 i r (by omega)
      · obtain rfl : r = rkN (fun j => m (j + o)) i + 1 := by omega
        have n1 := kpN_new c
        have n2 := kpN_new (m := fun j : Int => m (j + o)) c'
        rw [rkN_ne c, hr] at n1
        rw [rkN_ne (m := fun j : Int => m (j + o)) c'] at n2
        rw [n1, n2, e1]
end Go.Ab
namespace Go.Ab
theorem ptI_put {f : Int → FV} {k : Int} {u : FV} {d : Int} {P : Nat → CV} {i : Int} (h : 0 ≤ i) : ptI (putP f k u d P) i = insPF f k u d (ptI P) i := by
  show insPF f k u d (ptI P) ((i.toNat : Nat) : Int) = _
  rw [Int.toNat_of_nonneg h]
theorem SpV.congr {d n : Nat} {Kf : Int → FV} {P P' : Int → CV} {a : Int → Int} {x y : Int → Rat} {E E' : Rat} (h : SpV d n Kf P a x y E) (hP : ∀ i : Int, 0 ≤ i → i < n → P' i = P i) (hE : E' = E) : SpV d n Kf P' a x y E' := by
  subst hE
  obtain ⟨d1, n1, kn, first, last, lt, gt, nea, e0, e1⟩ := h
  exact ⟨d1, n1, kn, first, last, lt, gt, fun i h0 h1 => by rw [hP i h0 h1]; exact nea i h0 h1, e0, e1⟩
/-- A spline into which knots have been put. -/
structure Ps (d n0 : Nat) (a0 : Int → Int) (x0 y0 : Int → Rat) (n : Nat) (f : Int → FV) (P : Nat → CV) (a : Int → Int) (x y : Int → Rat) (L : Int → Int) : Prop where
  v : SpV d n f (ptI P) a x y (((n : Rat) - n0) / 50000)
  nn : n0 ≤ n
  e0 : a 0 = a0 0
  en : a n = a0 n0
  lo : Lo a n L
  cnt : CntLe a d n L
  same : ∀ (τ : Int) (k k' : Nat), a0 0 ≤ τ → τ ≤ a0 n0 → SpanI a0 d n0 τ k → SpanI a d n τ k' →
    deBR (kR a) ((τ : Rat) / 64) d x k' = deBR (kR a0) ((τ : Rat) / 64) d x0 k ∧ deBR (kR a) ((τ : Rat) / 64) d y k' = deBR (kR a0) ((τ : Rat) / 64) d y0 k
section
variable {d n0 n : Nat} {a0 a : Int → Int} {x0 y0 x y : Int → Rat} {f : Int → FV} {P : Nat → CV} {L : Int → Int}
theorem SpV.finP {E : Rat} (h : SpV d n f (ptI P) a x y E) : (tabC n P).all finC = true := by
  unfold tabC
  rw [List.all_eq_true]
  intro p hp
  obtain ⟨i, hi, rfl⟩ := List.mem_map.1 hp
  have hi' := List.mem_range.1 hi
  exact (h.nea (i : Int) (by omega) (by omega)).1.fin
theorem SpV.spok {E : Rat} (h : SpV d n f (ptI P) a x y E) (hd : d ≤ 5) (hn : n ≤ 24) (hl : Lo a n L) (hc : CntLe a d n L) : SpOk d n f P a :=
  ⟨⟨h.d1, hd⟩, ⟨h.n1, hn⟩, h.kn, h.first, h.last, h.lt, h.gt, mult_of hl h.kn.up hc h.first h.lt h.gt, h.finP⟩
theorem Ps.spok (h : Ps d n0 a0 x0 y0 n f P a x y L) (hd : d ≤ 5) (hn : n ≤ 24) : SpOk d n f P a := h.v.spok hd hn h.lo h.cnt
theorem ps_start (h : SpV d n f (ptI P) a x y 0) (hmu : ∀ j : Int, (d : Int) + 1 ≤ j → j + d ≤ (n : Int) - 1 → a j < a (j + d)) : Ps d n a x y n f P a x y (fun v => (loN a v n : Nat)) :=
  ⟨h.congr (fun _ _ _ => rfl) (by rw [show (n : Rat) - n = 0 by grind]; grind), Nat.le_refl _, rfl, rfl, lo_start h.kn.up, cnt_of (lo_start h.kn.up) h.kn.up h.first hmu, fun τ k k' _ _ hk hk' => by
    rw [hk'.unique h.kn.up hk]
    exact ⟨rfl, rfl⟩⟩
theorem Ps.put (h : Ps d n0 a0 x0 y0 n f P a x y L) {u : FV} {υ : Int} (hu : Gd u υ) (h0 : a0 0 < υ) (h1 : υ < a0 n0) (hn : n < 24) (hc : L (υ + 1) < L υ + d) :
    Ps d n0 a0 x0 y0 (n + 1) (insKF f (spanN a d υ (n - 1) : Nat) u) (putP f (spanN a d υ (n - 1) : Nat) u d P) (insA a (spanN a d υ (n - 1) : Nat) υ)
      (insP (kR a) (spanN a d υ (n - 1) : Nat) ((υ : Rat) / 64) d x) (insP (kR a) (spanN a d υ (n - 1) : Nat) ((υ : Rat) / 64) d y) (putL L υ) := by
  have e0 := h.e0
  have en := h.en
  have hs := h.v.span (τ := υ) (by omega)
  generalize hk0 : spanN a d υ (n - 1) = k0 at *
  have hst := hs.strict h.v
  have hlo := hs.lo
  have hhi := hs.hi
  have h2 : υ < a ((k0 : Int) + 1) := by
    rcases hs.lt with e | e
    · have e2 : (k0 : Int) + 1 = n := by omega
      rw [e2]; omega
    · exact e
  have hb : ((n : Rat) - n0) / 50000 + 1 / 50000 ≤ 1 / 2 := by
    have a1 : (n : Rat) ≤ (24 : Nat) := Rat.natCast_le_natCast.2 (by omega)
    have a2 : ((0 : Nat) : Rat) ≤ n0 := Rat.natCast_le_natCast.2 (by omega)
    have a3 : ((24 : Nat) : Rat) = 24 := rfl
    have a4 : ((0 : Nat) : Rat) = 0 := rfl
    grind
  have hp := h.v.put hu (by omega) (by omega) hs hb
  refine ⟨hp.congr (fun i b1 b2 => ptI_put b1) ?_, by have := h.nn; omega, ?_, ?_, h.lo.put h.v.kn.up hs.le h2 hhi, ?_, fun τ k k' b0 b1 hk hk' => ?_⟩
  · rw [show ((n + 1 : Nat) : Rat) = (n : Rat) + 1 from Rat.natCast_add n 1]
    grind
  · rw [insA_lo (by omega)]; exact e0
  · rw [insA_hi (by omega), show ((n + 1 : Nat) : Int) - 1 = n by omega]; exact en
  · intro v b0 b1
    rw [insA_lo (by omega)] at b0
    rw [insA_hi (by omega), show ((n + 1 : Nat) : Int) - 1 = n by omega] at b1
    have := h.cnt v b0 b1
    unfold putL
    by_cases c : υ = v
    · subst c
      rw [if_pos (by omega), if_neg (by omega)]
      omega
    · by_cases c2 : υ < v
      · rw [if_pos (by omega), if_pos c2]; omega
      · rw [if_neg (by omega), if_neg c2]; omega
  · have hm := h.v.span (τ := τ) (by omega)
    have s := h.same τ k _ b0 b1 hk hm
    have px := put_same h.v hs hm (by omega) (by omega) x hk'
    have py := put_same h.v hs hm (by omega) (by omega) y hk'
    exact ⟨px.trans s.1, py.trans s.2⟩
/-- A point of it, near what it was. -/
theorem Ps.at (h : Ps d n0 a0 x0 y0 n f P a x y L) {t : FV} {τ : Int} (ht : Gd t τ) (h0 : a0 0 ≤ τ) (h1 : τ ≤ a0 n0) (hd : d ≤ 4) (hn : n ≤ 24) {k : Nat} (hk : SpanI a0 d n0 τ k) :
    Nea (deBF f t d (ptI P) (spanN a d τ (n - 1) : Nat)) (deBR (kR a0) ((τ : Rat) / 64) d x0 k) (deBR (kR a0) ((τ : Rat) / 64) d y0 k) (1 / 1600) := by
  have e0 := h.e0
  have en := h.en
  have hm := h.v.span (τ := τ) (by omega)
  have hN := h.v.at ht (by omega) (by omega) (by omega) hm
  have s := h.same τ k _ h0 h1 hk hm
  rw [s.1, s.2] at hN
  refine hN.mono ?_
  have a1 : (n : Rat) ≤ (24 : Nat) := Rat.natCast_le_natCast.2 (by omega)
  have a2 : ((0 : Nat) : Rat) ≤ n0 := Rat.natCast_le_natCast.2 (by omega)
  have a3 : ((24 : Nat) : Rat) = 24 := rfl
  have a4 : ((0 : Nat) : Rat) = 0 := rfl
  have d4 : (d : Rat) ≤ (4 : Nat) := Rat.natCast_le_natCast.2 hd
  have d5 : ((4 : Nat) : Rat) = 4 := rfl
  grind
end
/-- The drawn spline, to begin with. -/
theorem DspOk.ps {y : Dsp} (h : DspOk y) : Ps y.d y.n (fun i => 64 * y.m i) (ixR y.a) (ixR y.b) y.n (mF y.m) y.P (fun i => 64 * y.m i) (ixR y.a) (ixR y.b) (fun v => (loN (fun i => 64 * y.m i) v y.n : Nat)) := ps_start h.spv h.spok.mult
end Go.Ab
namespace Go.Ab
def c001 : FV := fv .f64 4562254508917369340
theorem c001_vl : ∃ C, Vl .f64 c001 C ∧ 99 / 100000 ≤ C := by
  refine ⟨(1152921504606847 : Rat) * p2 (-60), Vl.c (by decide +kernel), by decide +kernel⟩
end Go.Ab
namespace Go.Ab
section
variable {h : FV}
theorem cx_two (hT : Tm h (1 / 2)) (x : Nat → Rat) : ∀ (m i : Nat), Cx (fun _ => one1) h (fun i => Cx (fun _ => one1) h x 1 i) m i = Cx (fun _ => one1) h x (m + 1) i
  | 0, _ => rfl
  | m + 1, i => by
    show (1 - lam (fun _ => one1) h m i) * Cx (fun _ => one1) h (fun i => Cx (fun _ => one1) h x 1 i) m i + lam (fun _ => one1) h m i * Cx (fun _ => one1) h (fun i => Cx (fun _ => one1) h x 1 i) m (i + 1) =
      (1 - lam (fun _ => one1) h (m + 1) i) * Cx (fun _ => one1) h x (m + 1) i + lam (fun _ => one1) h (m + 1) i * Cx (fun _ => one1) h x (m + 1) (i + 1)
    rw [cx_two hT x m i, cx_two hT x m (i + 1), lam_one hT, lam_one hT]
theorem deBR_half (hT : Tm h (1 / 2)) {K : Int → Rat} {A B t : Rat} (hAB : A < B) (ht : t = (A + B) / 2) : ∀ (m : Nat) (p : Int → Rat) (k : Int), (∀ i, k - m + 1 ≤ i → i ≤ k → K i = A) → (∀ i, k + 1 ≤ i → i ≤ k + m → K i = B) →
    deBR K t m p k = Cx (fun _ => one1) h (fun i => p (k - m + i)) m 0
  | 0, p, k, _, _ => by
    show p k = p (k - (0 : Nat) + (0 : Nat))
    rw [show k - ((0 : Nat) : Int) + ((0 : Nat) : Int) = k by omega]
  | m + 1, p, k, hA, hB => by
    have ih := deBR_half hT hAB ht m (dBR K ((m : Int) + 1) t p) k (fun i a b => hA i (by omega) b) (fun i a b => hB i a (by omega))
    show deBR K t m (dBR K ((m : Int) + 1) t p) k = _
    rw [ih, ← cx_two hT]
    refine cx_congr (n := m + 1) (fun _ _ => rfl) (fun i hi => ?_) m 0 (by omega)
    have e1 := hA (k - m + i) (by omega) (by omega)
    have e2 := hB (k - m + i + ((m : Int) + 1)) (by omega) (by omega)
    have hs : uuR K ((m : Int) + 1) t (k - m + i) = 1 / 2 := by
      unfold uuR
      rw [e1, e2, ht]
      have hne : B - A ≠ 0 := sub_nz hAB
      rw [Rat.div_def]
      have := Rat.mul_inv_cancel _ hne
      generalize (B - A)⁻¹ = C at *
      grind
    show dBR K ((m : Int) + 1) t p (k - m + i) = (1 - lam (fun _ => one1) h 0 i) * p (k - ((m + 1 : Nat) : Int) + (i : Nat)) + lam (fun _ => one1) h 0 i * p (k - ((m + 1 : Nat) : Int) + ((i + 1 : Nat) : Nat))
    unfold dBR
    rw [hs, lam_one hT, show k - ((m + 1 : Nat) : Int) + (i : Nat) = k - m + i - 1 by omega, show k - ((m + 1 : Nat) : Int) + ((i + 1 : Nat) : Nat) = k - m + i by omega]
end
theorem far_small {p q : CV} {x y E F : Rat} (h1 : Nea p x y E) (h2 : Nea q x y F) (hE : E + F ≤ 1 / 5000) (e0 : 0 ≤ E) (f0 : 0 ≤ F) (bx : -10 ≤ x ∧ x ≤ 10) (by_ : -10 ≤ y ∧ y ≤ 10) :
    LongOk (subC2 p q) ∧ cmpB .gtr (fcmp .f64 (farF p q) c001) = false := by
  obtain ⟨u, v, vu, vv, u1, v1⟩ := h1
  obtain ⟨s, t, vs, vt, s1, t1⟩ := h2
  obtain ⟨a, va, _, a1, a2⟩ := subR vu vs 40 (by grind) (by grind) (by decide +kernel)
  obtain ⟨b, vb, _, b1, b2⟩ := subR vv vt 40 (by grind) (by grind) (by decide +kernel)
  obtain ⟨R, vR, ok, R0, R1⟩ := long_up (x := (subC2 p q).1) (y := (subC2 p q).2) va vb (Le2.of_abs (a := E + F + 1 / 100000) (b := E + F + 1 / 100000) (by grind) (by grind) (by grind) (by grind)) (by grind)
  obtain ⟨C, vC, hC⟩ := c001_vl
  exact ⟨ok, cmp_no (vl_wide vR) vC (by grind)⟩
structure Kq (a0 : Int → Int) (d n0 q : Nat) (K : Nat → Int) : Prop where
  k0 : K 0 = a0 0
  kn : K (q + 1) = a0 n0
  lt : ∀ r, r ≤ q → K r < K (r + 1)
  mem : ∀ i : Int, ∃ r, r ≤ q + 1 ∧ a0 i = K r
theorem Kq.up {a0 : Int → Int} {d n0 q : Nat} {K : Nat → Int} (h : Kq a0 d n0 q K) (r : Nat) : ∀ s, r + s ≤ q + 1 → K r ≤ K (r + s)
  | 0, _ => Int.le_refl _
  | s + 1, hs => by
    have h1 := h.up r s (by omega)
    have h2 := h.lt (r + s) (by omega)
    rw [show r + (s + 1) = r + s + 1 by omega]
    omega
theorem Kq.le {a0 : Int → Int} {d n0 q : Nat} {K : Nat → Int} (h : Kq a0 d n0 q K) {r s : Nat} (hrs : r ≤ s) (hs : s ≤ q + 1) : K r ≤ K s := by
  have := h.up r (s - r) (by omega)
  rwa [show r + (s - r) = s by omega] at this
theorem Kq.lt' {a0 : Int → Int} {d n0 q : Nat} {K : Nat → Int} (h : Kq a0 d n0 q K) {r s : Nat} (hrs : r < s) (hs : s ≤ q + 1) : K r < K s := by
  have h1 := h.lt r (by omega)
  have h2 := h.le (r := r + 1) (s := s) (by omega) hs
  omega
/-- Between two different knots beside each other none ends. -/
def Flat (L : Int → Int) (K : Nat → Int) (q : Nat) : Prop := ∀ r, r ≤ q → ∀ v, K r < v → v ≤ K (r + 1) → L v = L (K (r + 1))
section
variable {d n0 n q j : Nat} {a0 a : Int → Int} {x0 y0 x y : Int → Rat} {f : Int → FV} {P P0 : Nat → CV} {L : Int → Int} {K : Nat → Int}
theorem flat_start (h : Kq a0 d n0 q K) (hl : Lo a0 n0 L) : Flat L K q := fun r hr v h1 h2 => by
  have b0 := h.le (r := 0) (s := r) (Nat.zero_le _) (by omega)
  have b1 := h.le (r := r + 1) (s := q + 1) (by omega) (Nat.le_refl _)
  rw [h.k0] at b0
  rw [h.kn] at b1
  have e1 := hl v (by omega) (by omega)
  have e2 := hl (K (r + 1)) (by omega) b1
  have key : ∀ i : Int, i < L (K (r + 1)) → i < L v := fun i hi => by
    have c1 := (e2 i).2 hi
    obtain ⟨s, hs, es⟩ := h.mem i
    have c2 : s ≤ r := by
      false_or_by_contra
      have := h.le (r := r + 1) (s := s) (by omega) hs
      omega
    have c3 := h.le c2 (by omega)
    exact (e1 i).1 (by omega)
  have k1 : L (K (r + 1)) ≤ L v := by
    false_or_by_contra
    have := key (L v) (by omega)
    omega
  have k2 : L v ≤ L (K (r + 1)) := by
    false_or_by_contra
    have := (e2 (L (K (r + 1)))).1 (by have := (e1 (L (K (r + 1)))).2 (by omega); omega)
    omega
  omega
theorem flat_put (h : Kq a0 d n0 q K) (hf : Flat L K q) {j : Nat} (hj : j ≤ q + 1) : Flat (putL L (K j)) K q := fun r hr v h1 h2 => by
  have e := hf r hr v h1 h2
  unfold putL
  by_cases c : j ≤ r
  · have c1 := h.le c (by omega)
    have c2 := h.lt r hr
    rw [if_pos (by omega), if_pos (by omega), e]
  · have c1 := h.le (r := r + 1) (s := j) (by omega) hj
    rw [if_neg (by omega), if_neg (by omega), e]
theorem one_start (h : Kq a0 d n0 q K) (hl : Lo a0 n0 L) (hf : ∀ i : Int, i ≤ d → a0 i = a0 0) (gt : a0 d < a0 ((d : Int) + 1)) : L (K 1) = (d : Int) + 1 := by
  have b1 := h.le (r := 1) (s := q + 1) (by omega) (Nat.le_refl _)
  have b0 : K 0 < K 1 := h.lt 0 (Nat.zero_le _)
  rw [h.kn] at b1
  rw [h.k0] at b0
  have e1 := hl (K 1) b0 b1 d
  have e2 := hl (K 1) b0 b1 ((d : Int) + 1)
  have f1 := hf d (Int.le_refl _)
  have x1 := e1.1 (by omega)
  have x2 : ¬ (d : Int) + 1 < L (K 1) := fun e => by
    have c := e2.2 e
    obtain ⟨s, hs, es⟩ := h.mem ((d : Int) + 1)
    have c2 : s < 1 := by
      false_or_by_contra
      have := h.le (r := 1) (s := s) (by omega) hs
      omega
    obtain rfl : s = 0 := by omega
    have := h.k0
    omega
  omega
/-- A spline into which the first inner knots have been put as often as they go, the next one some times. -/
structure Pj (d n0 q : Nat) (a0 : Int → Int) (x0 y0 : Int → Rat) (P0 : Nat → CV) (K : Nat → Int) (j n : Nat) (f : Int → FV) (P : Nat → CV) (a : Int → Int) (x y : Int → Rat) (L : Int → Int) : Prop where
  ps : Ps d n0 a0 x0 y0 n f P a x y L
  fl : Flat L K q
  one : L (K 1) = (d : Int) + 1
  dn : ∀ r, 1 ≤ r → r ≤ j → L (K (r + 1)) = L (K r) + d
  p0 : P 0 = P0 0
theorem Pj.step (h : Pj d n0 q a0 x0 y0 P0 K j n f P a x y L) (hK : Kq a0 d n0 q K) (r : Nat) (h1 : 1 ≤ r) (hr : r ≤ q) : L (K (r + 1)) = L (K r + 1) ∧ L (K (r + 1)) ≤ L (K r) + d := by
  have b0 := hK.lt' (r := 0) (s := r) (by omega) (by omega)
  have b1 := hK.lt' (r := r) (s := q + 1) (by omega) (Nat.le_refl _)
  have b2 := hK.lt r hr
  have k0 := hK.k0
  have kn := hK.kn
  have e0 := h.ps.e0
  have en := h.ps.en
  have e := h.fl r hr (K r + 1) (by omega) (by omega)
  have c := h.ps.cnt (K r) (by omega) (by omega)
  omega
theorem Pj.ends (h : Pj d n0 q a0 x0 y0 P0 K j n f P a x y L) (hK : Kq a0 d n0 q K) : ∀ r : Nat, 1 ≤ r → r ≤ q + 1 → L (K r) ≤ (r : Int) * d + 1
  | 0, h1, _ => absurd h1 (by omega)
  | 1, _, _ => by
    have := h.one
    omega
  | r + 2, _, hr => by
    show L (K (r + 1 + 1)) ≤ _
    have h1 := Pj.ends h hK (r + 1) (by omega) (by omega)
    have h2 := (h.step hK (r + 1) (by omega) (by omega)).2
    have e : ((r + 2 : Nat) : Int) * d = ((r + 1 : Nat) : Int) * d + d := by
      rw [show ((r + 2 : Nat) : Int) = ((r + 1 : Nat) : Int) + 1 by omega, Int.add_mul]
      omega
    omega
theorem Pj.len (h : Pj d n0 q a0 x0 y0 P0 K j n f P a x y L) (hK : Kq a0 d n0 q K) : L (K (q + 1)) = n := by
  have kn := hK.kn
  have en := h.ps.en
  rw [kn, ← en]
  refine lo_last h.ps.lo ?_ h.ps.v.lt
  have b := hK.lt' (r := 0) (s := q + 1) (by omega) (Nat.le_refl _)
  have k0 := hK.k0
  have e0 := h.ps.e0
  omega
theorem mul_small {q d : Nat} (hq : q ≤ 4) (hd : d ≤ 4) : ((q + 1 : Nat) : Int) * d + 1 ≤ 21 := by
  have : (q + 1) * d ≤ 5 * 4 := Nat.mul_le_mul (by omega) hd
  have e : ((q + 1 : Nat) : Int) * d = (((q + 1) * d : Nat) : Int) := (Int.natCast_mul _ _).symm
  omega
theorem Pj.small (h : Pj d n0 q a0 x0 y0 P0 K j n f P a x y L) (hK : Kq a0 d n0 q K) (hq : q ≤ 4) (hd : d ≤ 4) : n ≤ 21 := by
  have h1 := h.ends hK (q + 1) (by omega) (Nat.le_refl _)
  have h2 := h.len hK
  have h3 := mul_small hq hd
  omega
/-- How often the next one is there. -/
theorem Pj.count (h : Pj d n0 q a0 x0 y0 P0 K j n f P a x y L) (hK : Kq a0 d n0 q K) {r : Nat} (h1 : 1 ≤ r) (hr : r ≤ q) : (cntA a (K r) (n + d + 1) : Int) = L (K (r + 1)) - L (K r) := by
  have b0 := hK.lt' (r := 0) (s := r) (by omega) (by omega)
  have b1 := hK.lt' (r := r) (s := q + 1) (by omega) (Nat.le_refl _)
  have k0 := hK.k0
  have kn := hK.kn
  have e0 := h.ps.e0
  have en := h.ps.en
  rw [cntA_all h.ps.lo h.ps.v.kn.up (by omega) (by omega), (h.step hK r h1 hr).1]
/-- Once more. -/
theorem Pj.put (h : Pj d n0 q a0 x0 y0 P0 K j n f P a x y L) (hK : Kq a0 d n0 q K) (hq : q ≤ 4) (hd : d ≤ 4) (hj : j + 1 ≤ q) (hc : L (K (j + 1 + 1)) < L (K (j + 1)) + d) {u : FV} (hu : Gd u (K (j + 1))) :
    Pj d n0 q a0 x0 y0 P0 K j (n + 1) (insKF f (spanN a d (K (j + 1)) (n - 1) : Nat) u) (putP f (spanN a d (K (j + 1)) (n - 1) : Nat) u d P) (insA a (spanN a d (K (j + 1)) (n - 1) : Nat) (K (j + 1)))
      (insP (kR a) (spanN a d (K (j + 1)) (n - 1) : Nat) ((K (j + 1) : Rat) / 64) d x) (insP (kR a) (spanN a d (K (j + 1)) (n - 1) : Nat) ((K (j + 1) : Rat) / 64) d y) (putL L (K (j + 1))) ∧
    putL L (K (j + 1)) (K (j + 1 + 1)) = L (K (j + 1 + 1)) + 1 ∧ putL L (K (j + 1)) (K (j + 1)) = L (K (j + 1)) := by
  have b0 := hK.lt' (r := 0) (s := j + 1) (by omega) (by omega)
  have b1 := hK.lt' (r := j + 1) (s := q + 1) (by omega) (Nat.le_refl _)
  have k0 := hK.k0
  have kn := hK.kn
  have e0 := h.ps.e0
  have en := h.ps.en
  have hst := (h.step hK (j + 1) (by omega) hj).1
  have hsm := h.small hK hq hd
  have hs := h.ps.v.span (τ := K (j + 1)) (by omega)
  have hlo := hs.lo
  refine ⟨⟨h.ps.put hu (by omega) (by omega) (by omega) (by omega), flat_put hK h.fl (by omega), ?_, fun r r1 r2 => ?_, ?_⟩, ?_, ?_⟩
  · have := hK.le (r := 1) (s := j + 1) (by omega) (by omega)
    unfold putL
    rw [if_neg (by omega), Int.add_zero]
    exact h.one
  · have x1 := hK.le (r := r + 1) (s := j + 1) (by omega) (by omega)
    have x2 := hK.lt r (by omega)
    unfold putL
    rw [if_neg (by omega), if_neg (by omega), Int.add_zero, Int.add_zero]
    exact h.dn r r1 r2
  · show insPF f _ u d (ptI P) ((0 : Nat) : Int) = _
    unfold insPF
    rw [if_pos (by omega)]
    exact h.p0
  · have := hK.lt (j + 1) hj
    unfold putL
    rw [if_pos this]
  · unfold putL
    rw [if_neg (by omega), Int.add_zero]
/-- The next one is there as often as it goes. -/
theorem Pj.next (h : Pj d n0 q a0 x0 y0 P0 K j n f P a x y L) (hc : L (K (j + 1 + 1)) = L (K (j + 1)) + d) : Pj d n0 q a0 x0 y0 P0 K (j + 1) n f P a x y L :=
  ⟨h.ps, h.fl, h.one, fun r h1 h2 => by
    rcases Nat.lt_or_ge r (j + 1) with c | c
    · exact h.dn r h1 (by omega)
    · obtain rfl : r = j + 1 := by omega
      exact hc, h.p0⟩
theorem Pj.endsE (h : Pj d n0 q a0 x0 y0 P0 K q n f P a x y L) : ∀ r : Nat, 1 ≤ r → r ≤ q + 1 → L (K r) = (r : Int) * d + 1
  | 0, h1, _ => absurd h1 (by omega)
  | 1, _, _ => by
    have := h.one
    omega
  | r + 2, _, hr => by
    show L (K (r + 1 + 1)) = _
    have h1 := Pj.endsE h (r + 1) (by omega) (by omega)
    have h2 := h.dn (r + 1) (by omega) (by omega)
    have e : ((r + 2 : Nat) : Int) * d = ((r + 1 : Nat) : Int) * d + d := by
      rw [show ((r + 2 : Nat) : Int) = ((r + 1 : Nat) : Int) + 1 by omega, Int.add_mul]
      omega
    omega
theorem Pj.lenE (h : Pj d n0 q a0 x0 y0 P0 K q n f P a x y L) (hK : Kq a0 d n0 q K) : n = (q + 1) * d + 1 := by
  have h1 := h.len hK
  rw [h.endsE (q + 1) (by omega) (Nat.le_refl _)] at h1
  have e : ((q + 1 : Nat) : Int) * d = (((q + 1) * d : Nat) : Int) := (Int.natCast_mul _ _).symm
  omega
/-- The knots at the end. -/
theorem Pj.at (h : Pj d n0 q a0 x0 y0 P0 K q n f P a x y L) (hK : Kq a0 d n0 q K) {r : Nat} (hr : r ≤ q) (i : Int) (h1 : (r : Int) * d + 1 ≤ i) (h2 : i ≤ (r : Int) * d + d) : a i = K r := by
  have b1 := hK.le (r := r + 1) (s := q + 1) (by omega) (Nat.le_refl _)
  have b0 := hK.lt r hr
  have b2 := hK.le (r := 0) (s := r) (by omega) (by omega)
  have k0 := hK.k0
  have kn := hK.kn
  have e0 := h.ps.e0
  have en := h.ps.en
  have e : ((r + 1 : Nat) : Int) * d = (r : Int) * d + d := by
    rw [show ((r + 1 : Nat) : Int) = (r : Int) + 1 by omega, Int.add_mul]
    omega
  have l1 := h.endsE (r + 1) (by omega) (by omega)
  have f1 := h.fl r hr (K r + 1) (by omega) (by omega)
  have c1 := (h.ps.lo (K r + 1) (by omega) (by omega) i).2 (by omega)
  rcases Nat.eq_zero_or_pos r with rfl | hp
  · have u := h.ps.v.kn.up 0 i (by omega)
    omega
  · have l0 := h.endsE r hp (by omega)
    have c2 : ¬ a i < K r := fun e => by
      have := (h.ps.lo (K r) (by have := hK.lt' (r := 0) (s := r) hp (by omega); omega) (by omega) i).1 e
      omega
    omega
theorem Pj.atE (h : Pj d n0 q a0 x0 y0 P0 K q n f P a x y L) (hK : Kq a0 d n0 q K) {r : Nat} (hr : r ≤ q) (i : Int) (h1 : ((r : Int) + 1) * d + 1 ≤ i) (h2 : i ≤ ((r : Int) + 1) * d + d) : a i = K (r + 1) := by
  rcases Nat.lt_or_ge r q with c | c
  · exact h.at hK (r := r + 1) (by omega) i (by rw [show ((r + 1 : Nat) : Int) = (r : Int) + 1 by omega]; exact h1) (by rw [show ((r + 1 : Nat) : Int) = (r : Int) + 1 by omega]; exact h2)
  · obtain rfl : r = q := by omega
    have hn := h.lenE hK
    have e : ((r + 1 : Nat) : Int) * d = (((r + 1) * d : Nat) : Int) := (Int.natCast_mul _ _).symm
    rw [show ((r + 1 : Nat) : Int) = (r : Int) + 1 by omega] at e
    rw [h.ps.v.last i (by omega), h.ps.en, hK.kn]
end
end Go.Ab
namespace Go.Ab
open Go.Proofs
variable {R : World → Prop} [RStab R]
def cuCells (m : Nat) (A B C : Nat → Nat) (k : Nat) : List AV := (List.range k).flatMap fun i => [.raw (.slice (some ⟨A i, 0, none⟩) m (C i)), .raw (.slice (some ⟨B i, 0, none⟩) m m)]
abbrev entU (g m : Nat) (A B C : Nat → Nat) (k cap : Nat) : Ent := ⟨g, 50, cuCells m A B C k, cap * 2⟩
def rowsU (m : Nat) (A B C : Nat → Nat) (Q : Nat → Nat → CV) (k : Nat) : List Ent := (List.range k).flatMap fun i => [entF (B i) 29 m (fun _ => one1) m, entC (A i) m (Q i) (C i)]
theorem cuCells_length (m : Nat) (A B C : Nat → Nat) : ∀ k, (cuCells m A B C k).length = k * 2
  | 0 => rfl
  | k + 1 => by
    have := cuCells_length m A B C k
    unfold cuCells at this ⊢
    rw [List.range_succ, List.flatMap_append, List.length_append, this]
    simp only [List.flatMap_cons, List.flatMap_nil, List.append_nil, List.length_cons, List.length_nil]
    omega
theorem cuCells_snoc (m : Nat) (A B C : Nat → Nat) (k a b c : Nat) : cuCells m A B C k ++ [.raw (.slice (some ⟨a, 0, none⟩) m c), .raw (.slice (some ⟨b, 0, none⟩) m m)] = cuCells m (putN k a A) (putN k b B) (putN k c C) (k + 1) := by
  unfold cuCells
  rw [List.range_succ, List.flatMap_append]
  congr 1
  · unfold List.flatMap
    congr 1
    refine List.map_congr_left fun i hi => ?_
    have : i < k := by simpa using hi
    unfold putN
    rw [if_neg (by omega), if_neg (by omega), if_neg (by omega)]
  · simp [putN]
theorem rowsU_snoc (m : Nat) (A B C : Nat → Nat) (Q : Nat → Nat → CV) (k a b c : Nat) : rowsU m A B C Q k ++ [entF b 29 m (fun _ => one1) m, entC a m (Q k) c] = rowsU m (putN k a A) (putN k b B) (putN k c C) Q (k + 1) := by
  unfold rowsU
  rw [List.range_succ, List.flatMap_append]
  congr 1
  · unfold List.flatMap
    congr 1
    refine List.map_congr_left fun i hi => ?_
    have : i < k := by simpa using hi
    unfold putN
    rw [if_neg (by omega), if_neg (by omega), if_neg (by omega)]
  · simp [putN]
section
variable {P : Program} {N : Nat} {S S' : World → Prop} {e e' : Env} {Q : Exit → Env → World → Prop} {ops : Array Oper} {l : List Oper}
variable {w0 : World} {gs : List Nat} {H : List Ent} {dst : Option Tmp} {ty : TypeId} {pos : String} {after : Array Edge} {guard : Option (Nat × Bool)} {t el : TypeId}
/-- What comes behind is shown once for all ways. -/
theorem rs_K2 {Y : Type} {E : Y → Env} {SS : Y → World → Prop} {ok : Y → Prop} (h : (∀ y, ok y → Done .normal (E y) (SS y) Q) → RS P N ops l e S Q) (hD : ∀ y, ok y → Done .normal (E y) (SS y) Q) : RS P N ops l e S Q := h hD
theorem done_thenW {c : Code} (h : Done .normal e' S' (Then P N c Q)) (he : Env.sub e' e) (hS : ∀ w, S w → S' w) : Done .normal e S (Then P N c Q) := fun w hw => WS.weak (h w (hS w hw)) he (fun _ h => h)
/-- A part of a list of the call's own. -/
theorem opj_cutOO (lo m : Nat) {X Y Z : Operand} {g n cap : Nat} {z : Value} {b : Nat} {k1 k2 : IntKind} {u v : Int} [hu : TyU P t (.slice el)] [hi : TyI P el z 1 b] (hx : e.ev X = some (.raw (.slice (some ⟨g, 0, none⟩) n cap))) (hy : e.ev Y = some (.raw (.int k1 u))) (hz : e.ev Z = some (.raw (.int k2 v))) (h1 : u = (lo : Nat)) (h2 : v = ((lo + m : Nat) : Int)) (h3 : lo + m ≤ cap) (h4 : lo < cap) :
    OpJ P S e ⟨dst, .slice t X (some Y) (some Z) none, ty, pos, after, guard⟩ (.raw (.slice (some ⟨g, lo, none⟩) m (cap - lo))) :=
  opj_value fun a w _ ho => by
    have e1 := (ho X (by simp [Op.operands]) _ hx).inv_raw
    have e2 := (ho Y (by simp [Op.operands]) _ hy).inv_raw
    have e3 := (ho Z (by simp [Op.operands]) _ hz).inv_raw
    have hel : P.elem t = el := by simp [Program.elem, hu.h]
    have ht : P.underlying t = some (.slice (P.elem t)) := by rw [hel]; exact hu.h
    have hr := run_slice_lh3 (P := P) (w := w) t (some ⟨g, 0, none⟩) n cap ht k1 k2 u v (by omega) (by omega) (by omega)
    rw [hel, run_size hi] at hr
    have hs := run_sliceAt_slice (P := P) w t (.slice (some ⟨g, 0, none⟩) n cap) (some (.int k1 u)) (some (.int k2 v)) none ht
    have hv : sliced (some ⟨g, 0, none⟩) u.toNat v.toNat cap 1 = .slice (some ⟨g, lo, none⟩) m (cap - lo) := by
      rw [show u.toNat = lo by omega, show v.toNat = lo + m by omega]
      unfold sliced
      rw [if_neg (by omega)]
      simp [Addr.add]
      try omega
    exact ⟨_, w, by simp [execOp, e1, e2, e3, hs, hr, hv], Ext.refl _, .raw⟩
omit [RStab R] in
theorem Takes.ownO {n m g c cap off : Nat} {f : Int → FV} {T : TypeId} {args : List AV} {A : World → List AV} (hm : (entF g T n f c : Ent) ∈ H) (hn : off + m ≤ n) (hc : m ≤ cap ∧ cap ≤ maxLen) (h : Takes (StR R w0 gs H) args A) :
    Takes (StR R w0 gs H) (.raw (.slice (some ⟨g, off, none⟩) m cap) :: args) (fun w => slF w (tab m fun s => f (s + off)) :: A w) := fun w vs hS hr => by
  obtain ⟨v, r, rfl, hv, hrr⟩ := hr.inv_cons
  exact .cons (.q (rd_ownO hS hv hm hn hc)) (h w r hS hrr)
omit [RStab R] in
theorem Takes.ownOC {n m g c cap off : Nat} {F : Nat → CV} {args : List AV} {A : World → List AV} (hm : (entC g n F c : Ent) ∈ H) (hn : off + m ≤ n) (hc : m ≤ cap ∧ cap ≤ maxLen) (h : Takes (StR R w0 gs H) args A) :
    Takes (StR R w0 gs H) (.raw (.slice (some ⟨g, off, none⟩) m cap) :: args) (fun w => slC w (tabC m fun s => F (s + off)) :: A w) := fun w vs hS hr => by
  obtain ⟨v, r, rfl, hv, hrr⟩ := hr.inv_cons
  refine .cons (.q ?_) (h w r hS hrr)
  rw [hv.inv_raw]
  refine ⟨_, m, cap, rfl, by simp, hc.1, hc.2, fun i x hi => ⟨_, rfl, rfl, ?_⟩⟩
  have hlt : i < m := by
    have := (List.getElem?_eq_some_iff.1 hi).1
    simpa using this
  have hx : (entC g n F c).xs[off + i]? = some x := by
    simp only [entC, List.getElem?_map] at hi ⊢
    rw [tabC_get F (by omega)]
    rw [tabC_get _ hlt] at hi
    rw [← hi, Nat.add_comm off i]
  obtain ⟨u, hu, hev⟩ := (hS.own _ hm).2.cell hx
  exact ⟨u, by simpa [entC] using hu, hev⟩
end
def knK (y : Dsp) (r : Nat) : Int := kpN y.m (y.n + y.d) r
def knQ (y : Dsp) : Nat := rkN y.m (y.n - 1)
abbrev kn64 (y : Dsp) (r : Nat) : Int := 64 * knK y r
theorem knK_bd {y : Dsp} (h : DspOk y) (r : Nat) : 0 ≤ knK y r ∧ knK y r ≤ 5 := kpN_bd h.mb _ r
theorem knQ_le {y : Dsp} (h : DspOk y) : knQ y ≤ 4 ∧ knQ y ≤ y.n - 1 - y.d := by
  obtain ⟨n1, n2⟩ := h.n
  have e := rkN_flat (m := y.m) (c := 0) (N := 0) y.d (fun i a b => h.k.lo i (by omega))
  have u := (rkN_up y.m y.d (y.n - 1 - y.d)).2
  rw [show y.d + (y.n - 1 - y.d) = y.n - 1 by omega] at u
  rw [Nat.zero_add] at e
  have : rkN y.m 0 = 0 := rfl
  unfold knQ
  omega
theorem knQ_end {y : Dsp} (h : DspOk y) : rkN y.m (y.n + y.d) = knQ y + 1 ∧ rkN y.m y.n = knQ y + 1 := by
  obtain ⟨n1, n2⟩ := h.n
  have hl := h.spok.lt
  have e1 : ¬ y.m (((y.n - 1 : Nat) : Int) + 1) = y.m ((y.n - 1 : Nat) : Int) := fun e => by
    rw [show ((y.n - 1 : Nat) : Int) + 1 = y.n by omega, show ((y.n - 1 : Nat) : Int) = (y.n : Int) - 1 by omega] at e
    omega
  have e2 := rkN_ne e1
  rw [show y.n - 1 + 1 = y.n by omega] at e2
  have e3 := rkN_flat (m := y.m) (c := y.m y.n) (N := y.n) y.d (fun i a b => by have := h.spok.last i a; omega)
  unfold knQ
  omega
theorem DspOk.kq {y : Dsp} (h : DspOk y) : Kq (fun i => 64 * y.m i) y.d y.n (knQ y) (kn64 y) := by
  obtain ⟨e1, e2⟩ := knQ_end h
  refine ⟨?_, ?_, fun r hr => ?_, fun i => ?_⟩
  · unfold kn64 knK
    rw [kpN_zero]
  · unfold kn64 knK
    have := kpN_at y.m (y.n + y.d) y.n (by omega)
    rw [e2] at this
    rw [this]
  · have := kpN_lt h.k.up (y.n + y.d) r (by omega)
    unfold kn64 knK
    omega
  · unfold kn64 knK
    rcases Int.lt_or_le i 0 with c | c
    · refine ⟨0, by omega, ?_⟩
      rw [kpN_zero]
      exact h.spok.first i (by omega)
    · rcases Int.lt_or_le ((y.n + y.d : Nat) : Int) i with c2 | c2
      · refine ⟨knQ y + 1, by omega, ?_⟩
        have := kpN_at y.m (y.n + y.d) y.n (by omega)
        rw [e2] at this
        rw [this]
        exact h.spok.last i (by omega)
      · refine ⟨rkN y.m i.toNat, ?_, ?_⟩
        · have := (rkN_up y.m i.toNat (y.n + y.d - i.toNat)).1
          rw [show i.toNat + (y.n + y.d - i.toNat) = y.n + y.d by omega] at this
          omega
        · rw [kpN_at y.m (y.n + y.d) i.toNat (by omega), Int.toNat_of_nonneg c]
/-- What is told of a spline's pieces while they are made. -/
def PjE (y : Dsp) (j n : Nat) (f : Int → FV) (P : Nat → CV) : Prop := ∃ a x v L, Pj y.d y.n (knQ y) (fun i => 64 * y.m i) (ixR y.a) (ixR y.b) y.P (kn64 y) j n f P a x v L
theorem DspOk.pj {y : Dsp} (h : DspOk y) : PjE y 0 y.n (mF y.m) y.P :=
  ⟨_, _, _, _, h.ps, flat_start h.kq h.ps.lo, one_start h.kq h.ps.lo h.spok.first h.spok.gt, fun r h1 h2 => by omega, rfl⟩
/-- The compacted inner knots. -/
theorem kn_inner {y : Dsp} (h : DspOk y) (hN : y.d + 2 ≤ y.n) : rkN (fun j => y.m (j + ((y.d + 1 : Nat) : Int))) (y.n - y.d - 1 - 1) + 1 = knQ y ∧ ∀ r, r + 1 ≤ knQ y → kpN (fun j => y.m (j + ((y.d + 1 : Nat) : Int))) (y.n - y.d - 1 - 1) r = knK y (r + 1) := by
  have e := rkN_flat (m := y.m) (c := 0) (N := 0) y.d (fun i a b => h.k.lo i (by omega))
  rw [Nat.zero_add] at e
  have e0 : rkN y.m 0 = 0 := rfl
  have hg := h.spok.gt
  have e1 : rkN y.m (y.d + 1) = 1 := by
    rw [rkN_ne (by omega)]
    omega
  have s := rk_shift e1 (y.n - y.d - 1 - 1)
  rw [show y.d + 1 + (y.n - y.d - 1 - 1) = y.n - 1 by omega] at s
  refine ⟨by unfold knQ; omega, fun r hr => ?_⟩
  have hr' : r ≤ rkN (fun j => y.m (j + ((y.d + 1 : Nat) : Int))) (y.n - y.d - 1 - 1) := by unfold knQ at hr; omega
  have k := kp_shift e1 (y.n - y.d - 1 - 1) r hr'
  rw [show y.d + 1 + (y.n - y.d - 1 - 1) = y.n - 1 by omega] at k
  have k2 := kpN_olds (m := y.m) (N := y.n - 1) (r := r + 1) (by unfold knQ at hr; omega) (y.d + 1)
  rw [show y.n - 1 + (y.d + 1) = y.n + y.d by omega] at k2
  unfold knK
  rw [k2, k]
/-- The inner knots as floats. -/
def knF (y : Dsp) (r : Int) : FV := some (FloatKind.f32.nearest (knK y (r.toNat + 1)))
theorem knF_gd {y : Dsp} (h : DspOk y) (r : Nat) : Gd (knF y (r : Int)) (kn64 y (r + 1)) := by
  have := knK_bd h (r + 1)
  exact gd_whole (x := knK y (r + 1)) this.1 (by omega)
end Go.Ab
namespace Go.Ab
open Go.Proofs
variable {R : World → Prop} [RStab R]
theorem entF_nil0 (g : Nat) (T : TypeId) (f : Int → FV) : (⟨g, T, [], 0⟩ : Ent) = entF g T 0 f 0 := by
  unfold entF tab
  rfl
/-- Where the pieces' making stands. -/
structure Pg where
  n : Nat
  f : Int → FV
  P : Nat → CV
  ga : Nat
  gb : Nat
  ca : Nat
  cb : Nat
  old : List Ent
abbrev pgBox (y : Dsp) (gx : Nat) (p : Pg) : Ent := ⟨gx, 27, [.raw (.int .i64 (y.d : Int)), .raw (.slice (some ⟨p.ga, 0, none⟩) (p.n + y.d + 1) p.ca), .raw (.slice (some ⟨p.gb, 0, none⟩) p.n p.cb)], 3⟩
abbrev pgMem (y : Dsp) (gx gk ck : Nat) (p : Pg) : List Ent := pgBox y gx p :: entF gk 29 (knQ y) (knF y) ck :: entF p.ga 29 (p.n + y.d + 1) p.f p.ca :: entC p.gb p.n p.P p.cb :: p.old
structure PgOk (y : Dsp) (p : Pg) : Prop where
  ca : p.n + y.d + 1 ≤ p.ca ∧ p.ca ≤ maxLen
  cb : p.n ≤ p.cb ∧ p.cb ≤ maxLen
  sub : [entF y.ga 29 (y.n + y.d + 1) (mF y.m) y.ca, entC y.gb y.n y.P y.cb].Sublist (entF p.ga 29 (p.n + y.d + 1) p.f p.ca :: entC p.gb p.n p.P p.cb :: p.old)
/-- Pieces, as they are given. -/
structure Pcs where
  g : Nat
  cap : Nat
  A : Nat → Nat
  B : Nat → Nat
  C : Nat → Nat
  n : Nat
  f : Int → FV
  P : Nat → CV
theorem StR.selT {R0 : World → Prop} {w0 w : World} {gs : List Nat} {F F' T : List Ent} (h : StR R0 w0 gs (F ++ T) w) (ix : List Nat) (hn : ix.Nodup) (hH : ix.filterMap (fun i => F[i]?) = F') : StR R0 w0 gs (F' ++ T) w := by
  have hF : StR R0 w0 gs F w := h.weak (List.sublist_append_left _ _)
  have h1 := hF.sel ix hn hH
  have hsub : ∀ e ∈ F', e ∈ F := fun e he => by
    rw [← hH] at he
    obtain ⟨i, _, hi⟩ := List.mem_filterMap.1 he
    exact List.mem_of_getElem? hi
  refine ⟨h.mod, fun e he => ?_, ?_, h.r⟩
  · rcases List.mem_append.1 he with he | he
    · exact h1.own e he
    · exact h.own e (List.mem_append_right _ he)
  · have hd := h.nodup
    rw [List.map_append, List.nodup_append] at hd ⊢
    refine ⟨h1.nodup, hd.2.1, fun a ha b hb => ?_⟩
    obtain ⟨e, he, rfl⟩ := List.mem_map.1 ha
    exact hd.2.2 _ (List.mem_map.2 ⟨e, hsub e he, rfl⟩) b hb
attribute [local irreducible] WS RS Done OpJ Then InBlock Round Ret Env.sub FnH
attribute [local irreducible] tab tabC
set_option maxRecDepth 100000 in
set_option maxHeartbeats 4000000 in
theorem pieces_fn {y : Dsp} (h : DspOk y) :
    FnH (X := Pcs) Try.prog 17 (fun _ => [splO y.ga y.gb y.d y.n y.ca y.cb]) [entF y.ga 29 (y.n + y.d + 1) (mF y.m) y.ca, entC y.gb y.n y.P y.cb]
      (fun z => .tup [.raw (.slice (some ⟨z.g, 0, none⟩) (knQ y + 1) z.cap), .raw (.bool true)])
      (fun z => entU z.g (y.d + 1) z.A z.B z.C (knQ y + 1) z.cap :: (rowsU (y.d + 1) z.A z.B z.C (fun r i => z.P (i + r * y.d)) (knQ y + 1) ++ [entF y.ga 29 (y.n + y.d + 1) (mF y.m) y.ca, entC y.gb y.n y.P y.cb]))
      (fun z => (knQ y + 1 ≤ z.cap ∧ z.cap ≤ maxLen) ∧ (∀ i, i < knQ y + 1 → y.d + 1 ≤ z.C i ∧ z.C i ≤ maxLen) ∧ PjE y (knQ y) z.n z.f z.P) := by
  obtain ⟨d1, d2⟩ := h.d
  obtain ⟨n1, n2⟩ := h.n
  have hq := knQ_le h
  have hV := validSpline_fn h.spok
  have ca := h.ca
  have cb := h.cb
  simp only [maxLen] at ca cb
  refine fn_intro Try.func17 rfl Try.ntmps17 (fun _ => Nat.le_of_ble_eq_true rfl) fun w0 => ?_
  repeat first | refine zaa rfl (zay rfl) ?_ | refine zaa rfl (zaz rfl) ?_ | (refine zac ?_; refine zaa rfl (zbb rfl rfl (by omega)) ?_) | (refine zad ?_; refine zaa rfl (zbn rfl) ?_) | (refine zae ?_; first | refine zaa rfl (zcf rfl rfl (by (repeat (first | exact mh | refine mt ?_)); done) rfl) ?_ | refine zaa rfl (zcg rfl rfl (by (repeat (first | exact mh | refine mt ?_)); done) rfl rfl) ?_) | refine zaa rfl (zcd rfl) ?_ | refine zaa rfl (zcc rfl) ?_ | refine zah ?_ | (refine zcr ?_; refine zcs ?_) | (refine zdb ?_; first | refine zdc ?_ | refine zdd ?_ | refine zdf ?_ | refine zdj rfl ?_) | (refine zak rfl rfl rfl ?_; intro gx) | refine zaa rfl (zci rfl rfl hV (Takes.splO (mt mh) (mt (mt mh)) h.ca h.cb Takes.nil)) ?_ | refine zaa rfl (opj_cutOO (y.d + 1) (y.n - y.d - 1) rfl rfl rfl (by omega) (by omega) (by omega) (by omega)) ?_
  generalize List.map (fun x : Ent => x.g) [entF y.ga 29 (y.n + y.d + 1) (mF y.m) y.ca, entC y.gb y.n y.P y.cb] = gs
  refine rs_K2 (Y := Nat × Nat × Nat) (E := fun ⟨gk, ck, q'⟩ => [(29, .raw (.int .i64 0)), (28, .raw (.int .i64 (q' : Nat))), (27, .raw (.slice (some ⟨gk, 0, none⟩) q' ck)), (4, .raw (.int .i64 (y.d : Int))), (1, .raw (.pointer (some ⟨gx, 0, none⟩)))])
    (SS := fun ⟨gk, ck, q'⟩ => St w0 gs [pgBox y gx ⟨y.n, mF y.m, y.P, y.ga, y.gb, y.ca, y.cb, []⟩, entF gk 29 q' (knF y) ck, entF y.ga 29 (y.n + y.d + 1) (mF y.m) y.ca, entC y.gb y.n y.P y.cb]) (ok := fun ⟨gk, ck, q'⟩ => q' = knQ y ∧ knQ y ≤ ck ∧ ck ≤ maxLen) (fun hD0 => ?_) (fun z hz => ?_)
  · have hD := fun gk ck q' hk => hD0 (gk, ck, q') hk
    clear hD0
    dsimp only at hD
    rcases Nat.lt_or_ge (y.d + 1) y.n with hN | hN
    · obtain ⟨k1, k2⟩ := kn_inner h (by omega)
      have hCF := cloneFU_fn (y.n - y.d - 1) (fun s => mF y.m (s + (y.d + 1 : Nat))) (by omega) (by omega)
      refine rs_callM3 hCF rfl rfl (Takes.ownO (mt mh) (by omega) (by simp only [maxLen]; omega) Takes.nil) rfl ?_
      rintro ⟨gk, ck⟩ hck
      dsimp only at hck ⊢
      have hCP := compact_fn (N := y.n - y.d - 1) (g := gk) (c := ck) (m := fun j => y.m (j + ((y.d + 1 : Nat) : Int))) (fun i => by have := h.mb (i + ((y.d + 1 : Nat) : Int)); omega) (by omega) hck
      refine rs_call (pre := [entF gk 29 (y.n - y.d - 1) (mF (fun j => y.m (j + ((y.d + 1 : Nat) : Int)))) ck]) hCP rfl rfl (Takes.same Takes.nil) rfl ?_
      intro _ _
      rw [k1, entF_ext (f' := knF y) (fun i i0 i1 => by unfold kpF knF; rw [k2 i.toNat (by omega)])]
      repeat first | refine zaa rfl (zay rfl) ?_ | (refine zad ?_; refine zaa rfl (zbn rfl) ?_) | refine zah ?_
      exact done_thenW (hD gk ck (knQ y) ⟨rfl, by omega⟩) (by (repeat (first | exact Env.sub_nil _ | refine Env.sub_cons rfl ?_))) (fun w hw => hw.sel [1, 0, 2, 3] (by decide) rfl)
    · have hn : y.n - y.d - 1 = 0 := by omega
      have hq0 : knQ y = 0 := by omega
      rw [hn]
      refine rs_callM3 (clone0_fn _ _) rfl rfl (Takes.same Takes.nil) rfl ?_
      intro gk _
      rw [entF_nil0 gk _ (knF y)]
      repeat first | refine zaa rfl (zay rfl) ?_ | (refine zad ?_; refine zaa rfl (zbn rfl) ?_) | refine zah ?_ | refine zaa rfl (zci rfl rfl (compact0_fn _ _) (Takes.same Takes.nil)) ?_
      exact done_thenW (hD gk 0 0 ⟨hq0.symm, by simp only [maxLen]; omega⟩) (by (repeat (first | exact Env.sub_nil _ | refine Env.sub_cons rfl ?_))) (fun w hw => hw.sel [1, 0, 2, 3] (by decide) rfl)
  obtain ⟨gk, ck, q'⟩ := z
  obtain ⟨rfl, hz⟩ := hz
  dsimp only at hz ⊢
  simp only [maxLen] at hz
  repeat first | (refine zcr ?_; refine zcs ?_) | (refine zdb ?_; refine zde ?_)
  refine ws_loop (ι := Nat × Pg) (fun z => [(29, .raw (.int .i64 (z.1 : Nat))), (28, .raw (.int .i64 (knQ y : Nat))), (27, .raw (.slice (some ⟨gk, 0, none⟩) (knQ y) ck)), (4, .raw (.int .i64 (y.d : Int))), (1, .raw (.pointer (some ⟨gx, 0, none⟩)))])
    (fun z => St w0 gs (pgMem y gx gk ck z.2)) (fun z => z.1 ≤ knQ y ∧ PgOk y z.2 ∧ PjE y z.1 z.2.n z.2.f z.2.P) (fun z => knQ y - z.1) (0, ⟨y.n, mF y.m, y.P, y.ga, y.gb, y.ca, y.cb, []⟩) ⟨Nat.zero_le _, ⟨h.ca, h.cb, List.Sublist.refl _⟩, h.pj⟩ ?_ (fun _ hw => hw) (fun z hz2 => ?_)
  · (repeat (first | exact Env.sub_nil _ | refine Env.sub_cons rfl ?_))
  obtain ⟨i, ⟨n, f, P, ga, gb, cA', cB', old⟩⟩ := z
  obtain ⟨hi, hG, hE⟩ := hz2
  obtain ⟨gca, gcb, gsub⟩ := hG
  dsimp only [pgMem, pgBox] at hi gca gcb gsub hE ⊢
  repeat first | (refine zac ?_; refine zaa rfl (zbe rfl rfl) ?_) | refine zah ?_ | (refine zcr ?_; refine zcs ?_) | (refine zdb ?_; first | refine zdc ?_ | refine zdd ?_)
  refine ws_cond rfl (fun hd => ?_) (fun hd => ?_)
  case' refine_1 =>
    have hlt : (i : Int) < (knQ y : Nat) := of_decide_eq_true hd
    clear hd
    have hK := h.kq
    have hKg := knF_gd h i
    obtain ⟨a, x, v, L, hP⟩ := hE
    have hsm := hP.small hK (by omega) (by omega)
    have hcnt := hP.count hK (r := i + 1) (by omega) (by omega)
    have hstp := hP.step hK (i + 1) (by omega) (by omega)
    repeat first | refine zaa rfl (zay rfl) ?_ | refine zaa rfl (zaz rfl) ?_ | (refine zad ?_; refine zaa rfl (zbn rfl) ?_) | (refine zae ?_; first | refine zaa rfl (zbt rfl rfl (by (repeat (first | exact mh | refine mt ?_)); done) (by omega)) ?_ | refine zaa rfl (zcf rfl rfl (by (repeat (first | exact mh | refine mt ?_)); done) rfl) ?_) | (refine zaf ?_; refine zaa rfl (zbw rfl rfl (by omega) (by omega)) ?_) | refine zaa rfl (zcd rfl) ?_ | refine zah ?_ | (refine zcr ?_; refine zcs ?_) | (refine zdb ?_; first | refine zdc ?_ | refine zdd ?_ | refine zde ?_ | refine zdf ?_)
    refine ws_loop (ι := Nat) (fun k => [(36, .raw (.int .i64 (k : Nat))), (35, .raw (.int .i64 ((n + y.d + 1 : Nat) : Int))), (34, .raw (.slice (some ⟨ga, 0, none⟩) (n + y.d + 1) cA')), (7, .raw (.int .i64 (cntA a (kn64 y (i + 1)) k : Nat))), (6, .f .f32 (knF y (i : Int))), (29, .raw (.int .i64 (i : Nat))), (28, .raw (.int .i64 (knQ y : Nat))), (27, .raw (.slice (some ⟨gk, 0, none⟩) (knQ y) ck)), (4, .raw (.int .i64 (y.d : Int))), (1, .raw (.pointer (some ⟨gx, 0, none⟩)))])
      (fun _ => St w0 gs (pgMem y gx gk ck ⟨n, f, P, ga, gb, cA', cB', old⟩)) (fun k => k ≤ n + y.d + 1) (fun k => n + y.d + 1 - k) 0 (Nat.zero_le _) ?_ (fun _ hw => hw) (fun k hk => ?_)
    · (repeat (first | exact Env.sub_nil _ | refine Env.sub_cons rfl ?_))
    dsimp only [pgMem, pgBox]
    repeat first | (refine zac ?_; refine zaa rfl (zbe rfl rfl) ?_) | refine zah ?_ | (refine zcr ?_; refine zcs ?_) | (refine zdb ?_; first | refine zdc ?_ | refine zdd ?_)
    refine ws_cond rfl (fun hd => ?_) (fun hd => ?_)
    case' refine_1 =>
      have hlt2 : (k : Int) < ((n + y.d + 1 : Nat) : Int) := of_decide_eq_true hd
      clear hd
      have hc := (gd_cmp (hP.ps.v.kn.g (k : Int) (by omega) (by omega)) hKg).2.1
      repeat first | refine zaa rfl (zay rfl) ?_ | refine zaa rfl (zaz rfl) ?_ | (refine zac ?_; refine zaa rfl (zbd rfl rfl rfl) ?_) | (refine zae ?_; refine zaa rfl (zbt rfl rfl (by (repeat (first | exact mh | refine mt ?_)); done) (by omega)) ?_) | (refine zaf ?_; refine zaa rfl (zbw rfl rfl (by omega) (by omega)) ?_) | refine zah ?_ | (refine zcr ?_; refine zcs ?_) | (refine zdb ?_; first | refine zdc ?_ | refine zdd ?_ | refine zde ?_ | refine zdf ?_)
      rw [hc]
      cases he : decide (a (k : Int) = kn64 y (i + 1))
      · have hne := of_decide_eq_false he
        have e : cntA a (kn64 y (i + 1)) (k + 1) = cntA a (kn64 y (i + 1)) k := by
          show cntA a (kn64 y (i + 1)) k + (if _ then 1 else 0) = _
          rw [if_neg hne]
          rfl
        repeat first | refine zaa rfl (zay rfl) ?_ | (refine zac ?_; refine zaa rfl (zbb rfl rfl (by omega)) ?_) | refine zah ?_ | (refine zcr ?_; first | refine zcs ?_ | refine zcv ?_) | (refine zdb ?_; first | refine zdd ?_ | refine zdf ?_ | refine zdj rfl ?_)
        refine done_round (k + 1) (by omega) (by omega) ?_ (fun _ hw => hw)
        rw [e, show ((k + 1 : Nat) : Int) = (k : Int) + 1 by omega]
        (repeat (first | exact Env.sub_nil _ | refine Env.sub_cons rfl ?_))
      · have heq := of_decide_eq_true he
        have e : cntA a (kn64 y (i + 1)) (k + 1) = cntA a (kn64 y (i + 1)) k + 1 := by
          show cntA a (kn64 y (i + 1)) k + (if _ then 1 else 0) = _
          rw [if_pos heq]
        have hb : cntA a (kn64 y (i + 1)) k ≤ k := by
          clear hP hcnt hstp hc heq he e
          induction k with
          | zero => exact Nat.le_refl _
          | succ k ih =>
            have := ih (by omega) (by omega)
            show cntA a (kn64 y (i + 1)) k + (if _ then 1 else 0) ≤ _
            split <;> omega
        repeat first | refine zaa rfl (zay rfl) ?_ | refine zaa rfl (zaz rfl) ?_ | (refine zac ?_; refine zaa rfl (zbb rfl rfl (by omega)) ?_) | refine zah ?_ | (refine zcr ?_; first | refine zcs ?_ | refine zcv ?_) | (refine zdb ?_; first | refine zdd ?_ | refine zdi rfl ?_)
        refine done_round (k + 1) (by omega) (by omega) ?_ (fun _ hw => hw)
        rw [e, show ((k + 1 : Nat) : Int) = (k : Int) + 1 by omega, show ((cntA a (kn64 y (i + 1)) k + 1 : Nat) : Int) = (cntA a (kn64 y (i + 1)) k : Int) + 1 by omega]
        (repeat (first | exact Env.sub_nil _ | refine Env.sub_cons rfl ?_))
    have hkn : k = n + y.d + 1 := by have := of_decide_eq_false hd; omega
    subst hkn
    clear hd
    repeat first | (refine zcr ?_; first | refine zcs ?_ | refine zcu ?_ | refine zcx ?_ | refine zda ?_) | (refine zdb ?_; first | refine zde ?_ | refine zdh ?_)
    refine ws_loop (ι := Nat × Pg) (fun z => [(7, .raw (.int .i64 (z.1 : Nat))), (6, .f .f32 (knF y (i : Int))), (29, .raw (.int .i64 (i : Nat))), (28, .raw (.int .i64 (knQ y : Nat))), (27, .raw (.slice (some ⟨gk, 0, none⟩) (knQ y) ck)), (4, .raw (.int .i64 (y.d : Int))), (1, .raw (.pointer (some ⟨gx, 0, none⟩)))])
      (fun z => St w0 gs (pgMem y gx gk ck z.2)) (fun z => z.1 ≤ y.d ∧ PgOk y z.2 ∧ ∃ a x v L, Pj y.d y.n (knQ y) (fun i => 64 * y.m i) (ixR y.a) (ixR y.b) y.P (kn64 y) i z.2.n z.2.f z.2.P a x v L ∧ L (kn64 y (i + 1 + 1)) = L (kn64 y (i + 1)) + (z.1 : Nat)) (fun z => y.d - z.1) (cntA a (kn64 y (i + 1)) (n + y.d + 1), ⟨n, f, P, ga, gb, cA', cB', old⟩)
      ⟨by simp only; omega, ⟨gca, gcb, gsub⟩, a, x, v, L, hP, by simp only; omega⟩ ?_ (fun _ hw => hw) (fun z hz2 => ?_)
    · (repeat (first | exact Env.sub_nil _ | refine Env.sub_cons rfl ?_))
    clear hP hcnt hstp hsm gca gcb gsub hk
    obtain ⟨c, ⟨n, f, P, ga, gb, cA', cB', old⟩⟩ := z
    obtain ⟨hc, hG, a, x, v, L, hP, hcL⟩ := hz2
    obtain ⟨gca, gcb, gsub⟩ := hG
    dsimp only [pgMem, pgBox] at hc gca gcb gsub hP hcL ⊢
    repeat first | refine zaa rfl (zay rfl) ?_ | (refine zac ?_; refine zaa rfl (zbe rfl rfl) ?_) | refine zah ?_ | (refine zcr ?_; refine zcs ?_) | (refine zdb ?_; first | refine zdc ?_ | refine zdd ?_)
    refine ws_cond rfl (fun hd => ?_) (fun hd => ?_)
    · have hlt2 : (c : Int) < (y.d : Int) := of_decide_eq_true hd
      clear hd
      have hsm := hP.small hK (by omega) (by omega)
      have hSp := hP.ps.spok (by omega) (by omega)
      have h0K := hK.lt' (r := 0) (s := i + 1) (by omega) (by omega)
      have k0 := hK.k0
      have e0 := hP.ps.e0
      have hPut := put_fn hSp hKg (by omega)
      have hNx := hP.put hK (by omega) (by omega) (by omega) (by omega) hKg
      generalize insKF f (spanN a y.d (kn64 y (i + 1)) (n - 1) : Nat) (knF y (i : Int)) = f2 at *
      generalize putP f (spanN a y.d (kn64 y (i + 1)) (n - 1) : Nat) (knF y (i : Int)) y.d P = P2 at *
      repeat first | refine zaa rfl (zay rfl) ?_ | (refine zae ?_; refine zaa rfl (zcg rfl rfl (by (repeat (first | exact mh | refine mt ?_)); done) rfl rfl) ?_) | (refine zcr ?_; refine zcs ?_) | (refine zdb ?_; first | refine zdc ?_ | refine zdd ?_ | refine zde ?_ | refine zdf ?_)
      refine rs_callM3 hPut rfl rfl (Takes.splO (mt (mt mh)) (mt (mt (mt mh))) gca gcb (Takes.same Takes.nil)) rfl ?_
      rintro ⟨⟨ga2, gb2⟩, ca2, cb2⟩ ⟨hca2, hcb2⟩
      dsimp only at hca2 hcb2 ⊢
      repeat first | refine zaa rfl (zay rfl) ?_ | refine zaa rfl (zaz rfl) ?_ | (refine zac ?_; refine zaa rfl (zbb rfl rfl (by omega)) ?_) | refine zah ?_ | (refine zcr ?_; first | refine zcs ?_ | refine zcv ?_) | (refine zdb ?_; refine zdd ?_) | refine zan 2 rfl rfl rfl rfl rfl rfl rfl rfl rfl ?_
      refine done_round (c + 1, ⟨n + 1, f2, P2, ga2, gb2, ca2, cb2, entF ga 29 (n + y.d + 1) f cA' :: entC gb n P cB' :: old⟩) ⟨by simp only; omega, ⟨hca2, hcb2, .cons _ (.cons _ gsub)⟩, _, _, _, _, hNx.1, by simp only; rw [hNx.2.1, hNx.2.2]; omega⟩ (by simp only; omega) ?_ (fun w hw => ?_)
      · simp only
        rw [show ((c + 1 : Nat) : Int) = (c : Int) + 1 by omega]
        (repeat (first | exact Env.sub_nil _ | refine Env.sub_cons rfl ?_))
      · exact StR.selT (F := [entF ga2 29 (n + 1 + y.d + 1) f2 ca2, entC gb2 (n + 1) P2 cb2, pgBox y gx ⟨n + 1, f2, P2, ga2, gb2, ca2, cb2, []⟩, entF gk 29 (knQ y) (knF y) ck, entF ga 29 (n + y.d + 1) f cA', entC gb n P cB']) (T := old) hw [2, 3, 0, 1, 4, 5] (by decide) rfl
    · have hge : ¬ (c : Int) < (y.d : Int) := of_decide_eq_false hd
      clear hd
      obtain rfl : c = y.d := by omega
      repeat first | refine zaa rfl (zay rfl) ?_ | (refine zac ?_; refine zaa rfl (zbb rfl rfl (by omega)) ?_) | refine zah ?_ | (refine zcr ?_; first | refine zcs ?_ | refine zcu ?_ | refine zcv ?_ | refine zcx ?_ | refine zda ?_) | (refine zdb ?_; first | refine zdd ?_ | refine zdh ?_)
      refine done_round (i + 1, ⟨n, f, P, ga, gb, cA', cB', old⟩) ⟨by simp only; omega, ⟨gca, gcb, gsub⟩, a, x, v, L, hP.next hcL⟩ (by simp only; omega) ?_ (fun _ hw => hw)
      simp only
      rw [show ((i + 1 : Nat) : Int) = (i : Int) + 1 by omega]
      (repeat (first | exact Env.sub_nil _ | refine Env.sub_cons rfl ?_))
  have hiq : i = knQ y := by have := of_decide_eq_false hd; omega
  subst hiq
  clear hd
  have hK := h.kq
  obtain ⟨a, x, v, L, hP⟩ := hE
  have hsm := hP.small hK (by omega) (by omega)
  have hnE := hP.lenE hK
  have hfin := hP.ps.v.finP
  simp only [maxLen] at gcb
  have hO := ones_fn (y.d + 1) (by omega)
  rw [show ((y.d + 1 : Nat) : Int) = (y.d : Int) + 1 by omega] at hO
  obtain ⟨REST, hREST⟩ : ∃ l, l = entF ga 29 (n + y.d + 1) f cA' :: old := ⟨_, rfl⟩
  repeat first | (refine zcr ?_; first | refine zcs ?_ | refine zcu ?_ | refine zcx ?_ | refine zda ?_) | (refine zdb ?_; first | refine zdc ?_ | refine zdd ?_ | refine zdh ?_)
  refine RS.st (S' := StR (fun _ => True) w0 gs (⟨gx, 27, [.raw (.int .i64 (y.d : Int)), .raw (.slice (some ⟨ga, 0, none⟩) (n + y.d + 1) cA'), .raw (.slice (some ⟨gb, 0, none⟩) n cB')], 3⟩ :: entC gb n P cB' :: REST)) ?_ (fun w hw => by
    rw [hREST]
    exact StR.selT (F := [⟨gx, 27, [.raw (.int .i64 (y.d : Int)), .raw (.slice (some ⟨ga, 0, none⟩) (n + y.d + 1) cA'), .raw (.slice (some ⟨gb, 0, none⟩) n cB')], 3⟩, entF gk 29 (knQ y) (knF y) ck, entF ga 29 (n + y.d + 1) f cA', entC gb n P cB']) (T := old) hw [0, 3, 2] (by decide) rfl)
  repeat first | refine zaa rfl (zaz rfl) ?_ | refine zah ?_ | (refine zcr ?_; refine zcs ?_) | (refine zdb ?_; first | refine zdc ?_ | refine zdd ?_ | refine zde ?_) | (refine rs_lit0 rfl ?_; intro g0)
  refine ws_loop (ι := Nat × (Nat × Nat) × (Nat → Nat) × (Nat → Nat) × (Nat → Nat)) (fun z => [(1, .raw (.pointer (some ⟨gx, 0, none⟩))), (4, .raw (.int .i64 (y.d : Int))), (10, .raw (.slice (some ⟨z.2.1.1, 0, none⟩) z.1 z.2.1.2)), (11, .raw (.int .i64 ((z.1 * y.d : Nat) : Int)))])
    (fun z => StR (fun _ => True) w0 gs (entU z.2.1.1 (y.d + 1) z.2.2.1 z.2.2.2.1 z.2.2.2.2 z.1 z.2.1.2 :: ⟨gx, 27, [.raw (.int .i64 (y.d : Int)), .raw (.slice (some ⟨ga, 0, none⟩) (n + y.d + 1) cA'), .raw (.slice (some ⟨gb, 0, none⟩) n cB')], 3⟩ :: entC gb n P cB' :: (rowsU (y.d + 1) z.2.2.1 z.2.2.2.1 z.2.2.2.2 (fun r i => P (i + r * y.d)) z.1 ++ REST)))
    (fun z => z.1 ≤ knQ y + 1 ∧ (z.1 ≤ z.2.1.2 ∧ z.2.1.2 ≤ maxLen) ∧ ∀ i, i < z.1 → y.d + 1 ≤ z.2.2.2.2 i ∧ z.2.2.2.2 i ≤ maxLen) (fun z => knQ y + 1 - z.1) (0, (g0, 0), id, id, id) ⟨Nat.zero_le _, ⟨Nat.le_refl _, Nat.zero_le _⟩, fun i hi => absurd hi (Nat.not_lt_zero _)⟩ ?_ (fun _ hw => hw) (fun z hz2 => ?_)
  · simp only [Nat.zero_mul]
    (repeat (first | exact Env.sub_nil _ | refine Env.sub_cons rfl ?_))
  obtain ⟨r, ⟨g, cap⟩, A, B, C⟩ := z
  obtain ⟨hr, hcap, hC⟩ := hz2
  dsimp only at hr hcap hC ⊢
  have hrb : r * y.d ≤ 5 * 4 := Nat.mul_le_mul (by omega) (by omega)
  repeat first | refine zaa rfl (zay rfl) ?_ | (refine zac ?_; first | refine zaa rfl (zbb rfl rfl (by omega)) ?_ | refine zaa rfl (zbe rfl rfl) ?_) | (refine zad ?_; refine zaa rfl (zbn rfl) ?_) | (refine zae ?_; refine zaa rfl (zcf rfl rfl (by (repeat (first | exact mh | refine mt ?_)); done) rfl) ?_) | refine zaa rfl (zcd rfl) ?_ | refine zah ?_ | (refine zcr ?_; refine zcs ?_) | (refine zdb ?_; first | refine zdc ?_ | refine zdd ?_)
  refine ws_cond rfl (fun hd => ?_) (fun hd => ?_)
  · have hlt : ((r * y.d : Nat) : Int) + (y.d : Int) < (n : Int) := of_decide_eq_true hd
    clear hd
    have hrq : r < knQ y + 1 := by
      false_or_by_contra
      obtain rfl : r = knQ y + 1 := by omega
      omega
    have hrd : (r + 1) * y.d ≤ (knQ y + 1) * y.d := Nat.mul_le_mul_right _ (by omega)
    have hrs : (r + 1) * y.d = r * y.d + y.d := Nat.succ_mul _ _
    generalize hT : r * y.d = T at *
    have hCC := cloneC_fn (y.d + 1) (fun s => P (s + T)) (by omega) (by omega)
    have hF2 : (tabC (y.d + 1) (fun s => P (s + T))).all finC = true := by
      unfold tabC at hfin ⊢
      rw [List.all_eq_true] at hfin ⊢
      intro p hp
      obtain ⟨i, hi, rfl⟩ := List.mem_map.1 hp
      have := List.mem_range.1 hi
      exact hfin _ (List.mem_map.2 ⟨i + T, List.mem_range.2 (by omega), rfl⟩)
    have hVC := validCurve_yes (n := y.d + 1) (P := fun s => P (s + T)) (f := fun _ => one1) (by omega) hF2 (wts_one _).above
    repeat first | refine zaa rfl (zay rfl) ?_ | (refine zac ?_; refine zaa rfl (zbb rfl rfl (by omega)) ?_) | (refine zae ?_; refine zaa rfl (zcf rfl rfl (by (repeat (first | exact mh | refine mt ?_)); done) rfl) ?_) | refine zaa rfl (zcd rfl) ?_ | (refine zcr ?_; refine zcs ?_) | (refine zdb ?_; first | refine zdc ?_ | refine zdd ?_ | refine zde ?_ | refine zdf ?_) | refine zaa rfl (opj_cutOO T (y.d + 1) rfl rfl rfl rfl (by omega) (by omega) (by omega)) ?_
    refine rs_callM3 hCC rfl rfl (Takes.ownOC (mt (mt mh)) (by omega) (by simp only [maxLen]; omega) Takes.nil) rfl ?_
    rintro ⟨a2, c2⟩ hc2
    dsimp only at hc2 ⊢
    repeat first | refine zaa rfl (zay rfl) ?_ | (refine zac ?_; refine zaa rfl (zbb rfl rfl (by omega)) ?_)
    refine rs_callM3 hO rfl rfl (Takes.same Takes.nil) rfl ?_
    intro b2 _
    repeat first | refine zaa rfl (zay rfl) ?_ | (refine zae ?_; refine zaa rfl (zcg rfl rfl (by (repeat (first | exact mh | refine mt ?_)); done) rfl rfl) ?_) | refine zaa rfl (zcc rfl) ?_ | refine zah ?_ | (refine zcr ?_; refine zcs ?_) | (refine zdb ?_; first | refine zdc ?_ | refine zdd ?_ | refine zdf ?_ | refine zdj rfl ?_) | refine zaa rfl (opj_buildV rfl rfl) ?_ | (refine zal rfl rfl ?_; intro gc) | refine zan 0 rfl rfl rfl rfl rfl rfl rfl rfl rfl ?_ | refine zaa rfl (zci rfl rfl hVC (Takes.crvOc (mt (mt mh)) (mt mh) hc2 ⟨Nat.le_refl _, by simp only [maxLen]; omega⟩ Takes.nil)) ?_ | refine zaa rfl (opj_litV rfl) ?_
    simp only [maxLen] at hcap
    refine rs_appendN 3 (sz := 2) (m := 1) (xs := cuCells (y.d + 1) A B C r) rfl (by omega) rfl ⟨_, rfl, fun w v _ h => h.inv_p.2⟩ rfl ⟨cuCells_length _ A B C r, hcap.1, by simp only [maxLen]; omega⟩ rfl (by omega) rfl (by simp only [maxLen]; omega) (by omega) rfl fun g' cap' h1 h2 => ?_
    rw [cuCells_snoc]
    repeat first | refine zaa rfl (zay rfl) ?_ | refine zaa rfl (zaz rfl) ?_ | (refine zac ?_; refine zaa rfl (zbb rfl rfl (by omega)) ?_) | refine zah ?_ | (refine zcr ?_; first | refine zcs ?_ | refine zcv ?_) | (refine zdb ?_; refine zdd ?_)
    refine done_round (r + 1, (g', cap'), putN r a2 A, putN r b2 B, putN r c2 C) ⟨by simp only; omega, ⟨h1, h2⟩, fun i hi => ?_⟩ (by simp only; omega) ?_ (fun w hw => ?_)
    · simp only at hi ⊢
      unfold putN
      split
      · exact hc2
      · exact hC i (by omega)
    · simp only
      rw [hrs, show ((T + y.d : Nat) : Int) = (T : Int) + y.d by omega]
      (repeat (first | exact Env.sub_nil _ | refine Env.sub_cons rfl ?_))
    · subst hT
      have h3 := StR.selT (F := [_, _, _, _, _, _]) (T := rowsU (y.d + 1) A B C (fun r i => P (i + r * y.d)) r ++ REST) hw [3, 4, 5, 1, 2] (by decide) rfl
      simp only
      rw [← rowsU_snoc, List.append_assoc]
      exact h3.perm (List.Perm.append_left [_, _, _] (List.perm_append_comm_assoc (rowsU (y.d + 1) A B C (fun r i => P (i + r * y.d)) r) [_, _] REST))
  · have hge : ¬ ((r * y.d : Nat) : Int) + (y.d : Int) < (n : Int) := of_decide_eq_false hd
    clear hd
    have hrq : r = knQ y + 1 := by
      false_or_by_contra
      have h1 : (r + 1) * y.d ≤ (knQ y + 1) * y.d := Nat.mul_le_mul_right _ (by omega)
      have h2 : (r + 1) * y.d = r * y.d + y.d := Nat.succ_mul _ _
      omega
    subst hrq
    repeat first | refine zaa rfl (zay rfl) ?_ | refine zaa rfl (zaz rfl) ?_ | refine zah ?_ | (refine zcr ?_; first | refine zcs ?_ | refine zcu ?_ | refine zcx ?_ | refine zda ?_) | (refine zdb ?_; first | refine zdc ?_ | refine zdd ?_ | refine zdg ?_ | refine zdh ?_)
    refine Done.st (S' := StR (fun _ => True) w0 gs (entU g (y.d + 1) A B C (knQ y + 1) cap :: (rowsU (y.d + 1) A B C (fun r i => P (i + r * y.d)) (knQ y + 1) ++ (entF ga 29 (n + y.d + 1) f cA' :: entC gb n P cB' :: old)))) ?_ (fun w hw => ?_)
    · exact done_ret2 rfl (⟨g, cap, A, B, C, n, f, P⟩ : Pcs) rfl rfl rfl ⟨hcap, hC, a, x, v, L, hP⟩ (.cons_cons _ (List.Sublist.append_left gsub _))
    · rw [hREST] at hw
      have h3 := hw.weak (H' := entU g (y.d + 1) A B C (knQ y + 1) cap :: entC gb n P cB' :: (rowsU (y.d + 1) A B C (fun r i => P (i + r * y.d)) (knQ y + 1) ++ (entF ga 29 (n + y.d + 1) f cA' :: old))) (.cons_cons _ (.cons _ (List.Sublist.refl _)))
      refine h3.perm (List.Perm.cons _ ?_)
      exact (List.Perm.append_left _ (List.Perm.swap _ _ _)).trans List.perm_middle
end Go.Ab
namespace Go.Ab
theorem deBR_in {a : Int → Int} {τ : Int} {k : Int} (hm : ∀ i j, i ≤ j → a i ≤ a j) (h1 : a k ≤ τ) (h2 : τ ≤ a (k + 1)) (h : a k < a (k + 1)) {A B : Rat} : ∀ (m : Nat) (x : Int → Rat), (∀ i, k - m ≤ i → i ≤ k → A ≤ x i ∧ x i ≤ B) → A ≤ deBR (kR a) ((τ : Rat) / 64) m x k ∧ deBR (kR a) ((τ : Rat) / 64) m x k ≤ B
  | 0, x, hx => hx k (by omega) (by omega)
  | m + 1, x, hx => by
    refine deBR_in hm h1 h2 h m (dBR (kR a) ((m : Int) + 1) ((τ : Rat) / 64) x) fun i c1 c2 => ?_
    have g1 := hm i k c2
    have g2 := hm (k + 1) (i + ((m : Int) + 1)) (by omega)
    exact dBR_in (by omega) (by omega) (by omega) (hx (i - 1) (by omega) (by omega)) (hx i (by omega) c2)
/-- A tenth of a hundredth, below nothing. -/
def cLow : FV := fv .f64 13785626545772145148
theorem cLow_vl : ∃ C, Vl .f64 cLow C ∧ C ≤ -(99 / 100000) := by
  refine ⟨_, Vl.c (q := -((1152921504606847 : Rat) / 1152921504606846976)) (by decide +kernel), by decide +kernel⟩
section
variable {y : Dsp} {t : FV} {τ : Int} {k : Nat}
theorem DspOk.bnd (h : DspOk y) (h0 : 0 ≤ τ) (h1 : τ ≤ 64 * y.m y.n) (hs : SpanI (fun i => 64 * y.m i) y.d y.n τ k) :
    (-4 ≤ deBR (kR fun i => 64 * y.m i) ((τ : Rat) / 64) y.d (ixR y.a) k ∧ deBR (kR fun i => 64 * y.m i) ((τ : Rat) / 64) y.d (ixR y.a) k ≤ 4) ∧ -4 ≤ deBR (kR fun i => 64 * y.m i) ((τ : Rat) / 64) y.d (ixR y.b) k ∧ deBR (kR fun i => 64 * y.m i) ((τ : Rat) / 64) y.d (ixR y.b) k ≤ 4 := by
  have hst := hs.strict h.spv
  have s1 := hs.lo
  have s2 := hs.hi
  have hp := h.p.pv
  have h2 : τ ≤ (fun i => 64 * y.m i) ((k : Int) + 1) := by
    rcases hs.lt with e | e
    · have e2 : (k : Int) + 1 = y.n := by omega
      show τ ≤ 64 * y.m ((k : Int) + 1)
      rw [e2]
      exact h1
    · exact Int.le_of_lt e
  exact ⟨deBR_in h.spok.kn.up hs.le h2 hst y.d _ fun i c1 c2 => hp.bx i.toNat (by omega), deBR_in h.spok.kn.up hs.le h2 hst y.d _ fun i c1 c2 => hp.by_ i.toNat (by omega)⟩
theorem DspOk.span (h : DspOk y) (h0 : 0 ≤ τ) : SpanI (fun i => 64 * y.m i) y.d y.n τ (spanN (fun i => 64 * y.m i) y.d τ (y.n - 1)) := h.spv.span (by have := h.ends.1; show 64 * y.m 0 ≤ τ; omega)
theorem DspOk.low (h : DspOk y) (ht : Gd t τ) (h1 : τ ≤ 64 * y.m y.n) (hs : SpanI (fun i => 64 * y.m i) y.d y.n τ k) (i : Nat) : cmpB .lss (fcmp .f64 (fconv .f32 .f64 (outB (mF y.m) t k y.d i)) cLow) = false := by
  have hG := h.spanG ht h1 hs
  have s1 := hs.lo
  have s2 := hs.hi
  obtain ⟨⟨u, vu, u1, u2⟩, w0, w1, g0, g1⟩ := out_near hG s1 h.d.2 (by omega) (by omega) i
  obtain ⟨C, vC, hC⟩ := cLow_vl
  rw [vl_lss (vl_wide vu) vC, decide_eq_false (by grind)]
theorem DspOk.zero (hd : y.d ≤ k) {i : Nat} (hi : ¬ ((k : Int) - y.d ≤ i ∧ (i : Int) ≤ k)) : cmpB .neq (fcmp .f32 (outB (mF y.m) t k y.d i) (fv .f32 0)) = false := by
  rw [out_off hd (by omega)]
  decide +kernel
theorem DspOk.gaps (h : DspOk y) (ht : Gd t τ) (h0 : 0 ≤ τ) (h1 : τ ≤ 64 * y.m y.n) (hs : SpanI (fun i => 64 * y.m i) y.d y.n τ k) :
    GapOk (accF (fun i => fconv .f32 .f64 (outB (mF y.m) t k y.d i)) y.n) one64 c001 ∧
    GapOk (accF (fun i => fbin .mul .f64 (fconv .f32 .f64 (outB (mF y.m) t k y.d i)) (fconv .f32 .f64 (y.P i).1)) y.n) (fconv .f32 .f64 (deBF (mF y.m) t y.d (ptI y.P) k).1) c01 ∧
    GapOk (accF (fun i => fbin .mul .f64 (fconv .f32 .f64 (outB (mF y.m) t k y.d i)) (fconv .f32 .f64 (y.P i).2)) y.n) (fconv .f32 .f64 (deBF (mF y.m) t y.d (ptI y.P) k).2) c01 := by
  obtain ⟨⟨r, vr, r1, r2⟩, ⟨p, vp, p1, p2⟩, ⟨q, vq, q1, q2⟩⟩ := h.sums ht h1 hs
  obtain ⟨u, v, vu, vv, u1, v1⟩ := h.at ht h0 h1 hs
  obtain ⟨C, vC, hC⟩ := c001_vl
  obtain ⟨D, vD, hD, _⟩ := c01_vl
  refine ⟨gap_ok (G := 1 / 2000) vr one64_vl (by grind) (by grind) (by grind) vC (by grind), gap_ok (G := 1 / 300) vp (vl_wide vu) (by grind) (by grind) (by grind) vD (by grind), gap_ok (G := 1 / 300) vq (vl_wide vv) (by grind) (by grind) (by grind) vD (by grind)⟩
/-- Behind a knot put in. -/
theorem DspOk.putFar (h : DspOk y) (ht : Gd t τ) (h0 : 0 ≤ τ) (h1 : τ ≤ 64 * y.m y.n) {n : Nat} {f : Int → FV} {P : Nat → CV} {a : Int → Int} {x v : Int → Rat} {L : Int → Int} (hP : Ps y.d y.n (fun i => 64 * y.m i) (ixR y.a) (ixR y.b) n f P a x v L) (hn : n ≤ 24) :
    LongOk (subC2 (deBF f t y.d (ptI P) (spanN a y.d τ (n - 1) : Nat)) (deBF (mF y.m) t y.d (ptI y.P) (spanN (fun i => 64 * y.m i) y.d τ (y.n - 1) : Nat))) ∧
    cmpB .gtr (fcmp .f64 (farF (deBF f t y.d (ptI P) (spanN a y.d τ (n - 1) : Nat)) (deBF (mF y.m) t y.d (ptI y.P) (spanN (fun i => 64 * y.m i) y.d τ (y.n - 1) : Nat))) c01) = false := by
  have hs := h.span h0
  obtain ⟨b1, b2⟩ := h.bnd h0 h1 hs
  have e0 := h.ends.1
  refine far_no (hP.at ht (by show 64 * y.m 0 ≤ τ; omega) h1 h.d.2 hn hs) (h.at ht h0 h1 hs) (by grind) (by grind) (by grind) (by constructor <;> grind) (by constructor <;> grind)
/-- The ends. -/
theorem DspOk.firstFar (h : DspOk y) {z : FV} (hz : Gd z 0) :
    LongOk (subC2 (deBF (mF y.m) z y.d (ptI y.P) (spanN (fun i => 64 * y.m i) y.d 0 (y.n - 1) : Nat)) (y.P 0)) ∧ cmpB .gtr (fcmp .f64 (farF (deBF (mF y.m) z y.d (ptI y.P) (spanN (fun i => 64 * y.m i) y.d 0 (y.n - 1) : Nat)) (y.P 0)) c001) = false ∧ finC (deBF (mF y.m) z y.d (ptI y.P) (spanN (fun i => 64 * y.m i) y.d 0 (y.n - 1) : Nat)) = true := by
  have hs := h.span (τ := 0) (Int.le_refl _)
  have e0 : 64 * y.m 0 = 0 := by have := h.ends.1; omega
  have hN := h.spv.at0 (t := z) (by rw [e0]; exact hz) (by have := h.d.2; omega) (k := spanN (fun i => 64 * y.m i) y.d 0 (y.n - 1)) (by rw [e0]; exact hs)
  obtain ⟨h0, bx, by_⟩ := h.spv.nea 0 (Int.le_refl _) (by have := h.n.1; omega)
  have d4 : (y.d : Rat) ≤ 4 := k_le h.d.2
  have := far_small hN h0 (by grind) (by have : (0 : Rat) ≤ y.d := Rat.natCast_nonneg; grind) (by grind) bx by_
  exact ⟨this.1, this.2, hN.fin⟩
theorem DspOk.lastFar (h : DspOk y) {z : FV} (hz : Gd z (64 * y.m y.n)) :
    LongOk (subC2 (deBF (mF y.m) z y.d (ptI y.P) (spanN (fun i => 64 * y.m i) y.d (64 * y.m y.n) (y.n - 1) : Nat)) (y.P (y.n - 1))) ∧ cmpB .gtr (fcmp .f64 (farF (deBF (mF y.m) z y.d (ptI y.P) (spanN (fun i => 64 * y.m i) y.d (64 * y.m y.n) (y.n - 1) : Nat)) (y.P (y.n - 1))) c001) = false ∧ finC (deBF (mF y.m) z y.d (ptI y.P) (spanN (fun i => 64 * y.m i) y.d (64 * y.m y.n) (y.n - 1) : Nat)) = true := by
  have hn := h.n.1
  have e0 := h.ends.2
  have hs := h.span (τ := 64 * y.m y.n) (by omega)
  have hN := h.spv.at1 (t := z) hz (by have := h.d.2; omega) (k := spanN (fun i => 64 * y.m i) y.d (64 * y.m y.n) (y.n - 1)) hs
  obtain ⟨h0, bx, by_⟩ := h.spv.nea ((y.n : Int) - 1) (by omega) (by omega)
  have eP : ptI y.P ((y.n : Int) - 1) = y.P (y.n - 1) := by
    unfold ptI
    rw [show ((y.n : Int) - 1).toNat = y.n - 1 by omega]
  rw [eP] at h0
  have d4 : (y.d : Rat) ≤ 4 := k_le h.d.2
  have := far_small hN h0 (by grind) (by have : (0 : Rat) ≤ y.d := Rat.natCast_nonneg; grind) (by grind) bx by_
  exact ⟨this.1, this.2, hN.fin⟩
theorem DspOk.movedOk (h : DspOk y) : SpOk y.d y.n (mF y.m) (putU 0 nineC y.P) (fun i => 64 * y.m i) := by
  have h0 := h.spok
  exact ⟨h0.d1, h0.n1, h0.kn, h0.first, h0.last, h0.lt, h0.gt, h0.mult, h.moved.finP⟩
theorem nine_nea : Nea nineC 9 0 0 := ⟨9, 0, nine_vl.1, nine_vl.2, by constructor <;> grind, by constructor <;> grind⟩
theorem DspOk.movedFar (h : DspOk y) {z : FV} (hz : Gd z 0) :
    LongOk (subC2 (deBF (mF y.m) z y.d (ptI (putU 0 nineC y.P)) (spanN (fun i => 64 * y.m i) y.d 0 (y.n - 1) : Nat)) nineC) ∧ cmpB .gtr (fcmp .f64 (farF (deBF (mF y.m) z y.d (ptI (putU 0 nineC y.P)) (spanN (fun i => 64 * y.m i) y.d 0 (y.n - 1) : Nat)) nineC) c001) = false ∧ finC (deBF (mF y.m) z y.d (ptI (putU 0 nineC y.P)) (spanN (fun i => 64 * y.m i) y.d 0 (y.n - 1) : Nat)) = true := by
  have hs := h.span (τ := 0) (Int.le_refl _)
  have e0 : 64 * y.m 0 = 0 := by have := h.ends.1; omega
  have hN := h.moved.at0 (t := z) (by rw [e0]; exact hz) (by have := h.d.2; omega) (k := spanN (fun i => 64 * y.m i) y.d 0 (y.n - 1)) (by rw [e0]; exact hs)
  simp only [if_true] at hN
  have d4 : (y.d : Rat) ≤ 4 := k_le h.d.2
  have := far_small hN nine_nea (by grind) (by have : (0 : Rat) ≤ y.d := Rat.natCast_nonneg; grind) (by grind) (by constructor <;> grind) (by constructor <;> grind)
  exact ⟨this.1, this.2, hN.fin⟩
theorem gd_zero : Gd (fv .f32 0) 0 := ⟨by rw [show ((0 : Int) : Rat) / 64 = 0 by decide +kernel]; exact zvl .f32, by omega, by omega⟩
abbrev halfT : FV := fv .f32 1056964608
theorem vl_valR {x : FV} {r : Rat} (h : Vl .f32 x r) : Vl .f32 x (valR x) := by rw [h.valR]; exact h
/-- A piece's point in its midst. -/
theorem piece_mid (h : DspOk y) {n : Nat} {f : Int → FV} {P : Nat → CV} (hE : PjE y (knQ y) n f P) {r : Nat} (hr : r ≤ knQ y) (hτ : τ = 32 * (knK y r + knK y (r + 1))) (hk : SpanI (fun i => 64 * y.m i) y.d y.n τ k) :
    Nea (pointP (y.d + 1) (fun i => P (i + r * y.d)) (fun _ => one1) halfT) (deBR (kR fun i => 64 * y.m i) ((τ : Rat) / 64) y.d (ixR y.a) k) (deBR (kR fun i => 64 * y.m i) ((τ : Rat) / 64) y.d (ixR y.b) k) (1 / 1000) := by
  obtain ⟨a, x, v, L, hP⟩ := hE
  have hK := h.kq
  have hq := knQ_le h
  obtain ⟨d1, d2⟩ := h.d
  have hsm := hP.small hK (by omega) (by omega)
  have hn := hP.lenE hK
  have hrd : (r + 1) * y.d ≤ (knQ y + 1) * y.d := Nat.mul_le_mul_right _ (by omega)
  have hrs : (r + 1) * y.d = r * y.d + y.d := Nat.succ_mul _ _
  have hrb : r * y.d ≤ 5 * 4 := Nat.mul_le_mul (by omega) (by omega)
  have hci : (r : Int) * y.d = ((r * y.d : Nat) : Int) := (Int.natCast_mul _ _).symm
  have hci2 : ((r : Int) + 1) * y.d = ((r * y.d : Nat) : Int) + y.d := by rw [Int.add_mul, hci]; omega
  have hlt := hK.lt r hr
  have b0 := hK.le (r := 0) (s := r) (by omega) (by omega)
  have b1 := hK.le (r := r + 1) (s := knQ y + 1) (by omega) (by omega)
  have k0 := hK.k0
  have kn := hK.kn
  have e0 := hP.ps.e0
  have en := hP.ps.en
  have at1 := fun i c1 c2 => hP.at hK hr i (by rw [hci]; exact c1) (by rw [hci]; exact c2)
  have at2 := fun i c1 c2 => hP.atE hK hr i (by rw [hci2]; exact c1) (by rw [hci2]; exact c2)
  generalize r * y.d = T at *
  have hsp : SpanI a y.d n τ (T + y.d) := by
    refine ⟨by omega, by omega, ?_, ?_⟩
    · rw [at1 _ (by omega) (by omega)]
      unfold kn64 at hlt ⊢
      omega
    · right
      rw [at2 _ (by omega) (by omega)]
      unfold kn64 at hlt ⊢
      omega
  have hs := hP.ps.same τ k (T + y.d) (by unfold kn64 at *; omega) (by unfold kn64 at *; omega) hk hsp
  have hAB : ((kn64 y r : Int) : Rat) / 64 < ((kn64 y (r + 1) : Int) : Rat) / 64 := by
    have := Rat.intCast_lt_intCast.2 hlt
    grind
  have hmid : (τ : Rat) / 64 = (((kn64 y r : Int) : Rat) / 64 + ((kn64 y (r + 1) : Int) : Rat) / 64) / 2 := by
    have : ((2 * τ : Int) : Rat) = ((kn64 y r + kn64 y (r + 1) : Int) : Rat) := by
      congr 1
      unfold kn64
      omega
    rw [Rat.intCast_mul, Rat.intCast_add] at this
    have z2 : ((2 : Int) : Rat) = 2 := rfl
    rw [z2] at this
    grind
  have key : ∀ p : Int → Rat, deBR (kR a) ((τ : Rat) / 64) y.d p ((T + y.d : Nat) : Int) = Cx (fun _ => one1) halfT (fun i => p ((T : Int) + (i : Nat))) y.d 0 := fun p => by
    have := deBR_half half_tm (K := kR a) hAB hmid y.d p ((T + y.d : Nat) : Int) (fun i c1 c2 => by unfold kR; rw [at1 i (by omega) (by omega)]) (fun i c1 c2 => by unfold kR; rw [at2 i (by omega) (by omega)])
    rw [this]
    congr 1
    funext i
    rw [show ((T + y.d : Nat) : Int) - y.d + (i : Nat) = (T : Int) + (i : Nat) by omega]
  rw [key, key] at hs
  have hE0 : (((n : Rat) - y.n) / 50000) ≤ 21 / 50000 := by
    have a1 : (n : Rat) ≤ (21 : Nat) := Rat.natCast_le_natCast.2 (by omega)
    have a2 : ((0 : Nat) : Rat) ≤ y.n := Rat.natCast_le_natCast.2 (by omega)
    have a3 : ((21 : Nat) : Rat) = 21 := rfl
    have a4 : ((0 : Nat) : Rat) = 0 := rfl
    grind
  have hpt : ∀ i, i < y.d + 1 → ∃ u w, Vl .f32 (P (i + T)).1 u ∧ Vl .f32 (P (i + T)).2 w ∧ (-(21 / 50000) ≤ u - x ((T : Int) + (i : Nat)) ∧ u - x ((T : Int) + (i : Nat)) ≤ 21 / 50000) ∧ (-(21 / 50000) ≤ w - v ((T : Int) + (i : Nat)) ∧ w - v ((T : Int) + (i : Nat)) ≤ 21 / 50000) ∧ (-10 ≤ x ((T : Int) + (i : Nat)) ∧ x ((T : Int) + (i : Nat)) ≤ 10) ∧ -10 ≤ v ((T : Int) + (i : Nat)) ∧ v ((T : Int) + (i : Nat)) ≤ 10 := fun i hi => by
    obtain ⟨⟨u, w, vu, vw, u1, w1⟩, bx, bv⟩ := hP.ps.v.nea ((T : Int) + (i : Nat)) (by omega) (by omega)
    have eP : ptI P ((T : Int) + (i : Nat)) = P (i + T) := by
      unfold ptI
      rw [show ((T : Int) + (i : Nat)).toNat = i + T by omega]
    rw [eP] at vu vw
    exact ⟨u, w, vu, vw, by constructor <;> grind, by constructor <;> grind, bx, bv⟩
  have hPv : Pv (y.d + 1) (fun i => P (i + T)) (fun i => valR (P (i + T)).1) (fun i => valR (P (i + T)).2) 11 := by
    refine ⟨fun i hi => ?_, fun i hi => ?_, fun i hi => ?_, fun i hi => ?_⟩
    · obtain ⟨u, w, vu, vw, _⟩ := hpt i hi
      exact vl_valR vu
    · obtain ⟨u, w, vu, vw, _⟩ := hpt i hi
      exact vl_valR vw
    · obtain ⟨u, w, vu, vw, u1, w1, bx, bv⟩ := hpt i hi
      rw [vu.valR]
      constructor <;> grind
    · obtain ⟨u, w, vu, vw, u1, w1, bx, bv⟩ := hpt i hi
      rw [vw.valR]
      constructor <;> grind
  have hN := point_nea (wts_one (y.d + 1)) half_tm (by grind) ⟨by omega, by omega⟩ hPv
  have nx := cx_near (wts_one (y.d + 1)) half_tm (x := fun i => valR (P (i + T)).1) (y := fun i => x ((T : Int) + (i : Nat))) (B := 21 / 50000) (fun i hi => by
    obtain ⟨u, w, vu, vw, u1, w1, bx, bv⟩ := hpt i hi
    rw [vu.valR]
    exact u1) y.d (by omega) 0 (by omega)
  have ny := cx_near (wts_one (y.d + 1)) half_tm (x := fun i => valR (P (i + T)).2) (y := fun i => v ((T : Int) + (i : Nat))) (B := 21 / 50000) (fun i hi => by
    obtain ⟨u, w, vu, vw, u1, w1, bx, bv⟩ := hpt i hi
    rw [vw.valR]
    exact w1) y.d (by omega) 0 (by omega)
  rw [show y.d + 1 - 1 = y.d by omega] at hN
  rw [hs.1] at nx
  rw [hs.2] at ny
  exact (hN.to nx ny).mono (by grind)
end
end Go.Ab
