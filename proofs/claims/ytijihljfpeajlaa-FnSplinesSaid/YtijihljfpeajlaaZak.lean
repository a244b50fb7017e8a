/- Part 11 of the texts on which the law leans, joined: The slope of the drawn spline is finite. No conditions. -/
import Derived.Test.YtijihljfpeajlaaZaj
namespace Go.Ab
open Go.Proofs
variable {R : World → Prop} [RStab R]
/-- Points by whole numbers. -/
def ptI (P : Nat → CV) (i : Int) : CV := P i.toNat
theorem SpOk.span {d n : Nat} {f : Int → FV} {P : Nat → CV} {a : Int → Int} (h : SpOk d n f P a) {τ : Int} (h0 : a 0 ≤ τ) : SpanI a d n τ (spanN a d τ (n - 1)) :=
  spanN_is (by rw [h.first d (Int.le_refl _)]; exact h0) n (n - 1) (by have := h.n1; omega) (.inl (by have := h.n1; omega))
attribute [local irreducible] WS RS Done OpJ Then InBlock Round Ret Env.sub FnH
attribute [local irreducible] tab tabC
section
variable {d n : Nat} {f : Int → FV} {P : Nat → CV} {a : Int → Int}
theorem splineAt_fn (h : SpOk d n f P a) {t : FV} {τ : Int} (ht : Gd t τ) (h0 : a 0 ≤ τ) (h1 : τ ≤ a n) (hfin : finC (deBF f t d (ptI P) (spanN a d τ (n - 1) : Nat)) = true) :
    Fn Try.prog 7 (fun w => [splA w d n f P, .f .f32 t]) (.tup [cA (deBF f t d (ptI P) (spanN a d τ (n - 1) : Nat)), .raw (.bool true)]) := by
  obtain ⟨d1, d2⟩ := h.d1
  obtain ⟨n1, n2⟩ := h.n1
  have hI := isIn_fn h ht h0 h1
  have hS := span_fn h ht h0
  obtain ⟨k1, k2, _, _⟩ := h.span h0
  generalize spanN a d τ (n - 1) = k at *
  have hP := ifPoint_fn (deBF f t d (ptI P) k) true hfin
  refine fn_intro Try.func7 rfl Try.ntmps7 (fun _ => Nat.le_of_ble_eq_true rfl) fun w0 => ?_
  repeat first | refine zaa rfl (zay rfl) ?_ | refine zaa rfl (zaz rfl) ?_ | (refine zae ?_; refine zaa rfl (zcg rfl rfl (by (repeat (first | exact mh | refine mt ?_)); done) rfl rfl) ?_) | refine zaa rfl (zcc rfl) ?_ | refine zah ?_ | (refine zcr ?_; refine zcs ?_) | (refine zdb ?_; first | refine zdc ?_ | refine zdd ?_ | refine zdf ?_ | refine zdj rfl ?_) | (refine zak rfl rfl rfl ?_; intro g) | refine zaa rfl (zci rfl rfl hI (Takes.spl (Takes.same Takes.nil))) ?_
  refine ws_draw (n := 7) mixed (by decide +kernel) ?_
  repeat first | refine zap rfl (zay rfl) ?_ | refine zap rfl (zaz rfl) ?_ | (refine zat ?_; first | refine zap rfl (zcf rfl rfl (by (repeat (first | exact mh | refine mt ?_)); done) rfl) ?_ | refine zap rfl (zcg rfl rfl (by (repeat (first | exact mh | refine mt ?_)); done) rfl rfl) ?_) | refine zap rfl (zcd rfl) ?_ | refine zav ?_ | refine zap rfl (zci rfl rfl hS (Takes.spl (Takes.same Takes.nil))) ?_
  repeat first | refine zah ?_ | (refine zcr ?_; refine zcs ?_) | (refine zdb ?_; first | refine zdc ?_ | refine zdd ?_)
  refine rs_makeMapC rfl fun gm hgm => ?_
  repeat first | refine zaa rfl (zay rfl) ?_ | refine zaa rfl (zaz rfl) ?_ | (refine zac ?_; refine zaa rfl (zbc rfl rfl (by omega)) ?_) | refine zah ?_ | (refine zcr ?_; refine zcs ?_) | (refine zdb ?_; first | refine zdc ?_ | refine zdd ?_ | refine zde ?_)
  refine ws_loop (ι := Nat × (Int → Option CV)) (fun y => [(1, .f .f32 t), (2, .raw (.pointer (some ⟨g, 0, none⟩))), (6, .raw (.int .i64 (d : Int))), (7, .raw (.int .i64 (k : Int))), (8, .raw (.map (some gm))), (9, .raw (.int .i64 ((k : Int) - d + (y.1 : Nat))))])
    (fun y => StR (MapC gm y.2) w0 [] [⟨g, 27, [.raw (.int .i64 (d : Int)), AV.sl w0 1 ((tab (n + d + 1) f).map (AV.f .f32)), slC w0 (tabC n P)], 3⟩])
    (fun y => y.1 ≤ d + 1 ∧ ∀ i : Int, (k : Int) - d ≤ i → i < (k : Int) - d + y.1 → y.2 i = some (ptI P i)) (fun y => d + 1 - y.1) (0, fun _ => none) ⟨Nat.zero_le _, fun i a1 a2 => by simp only at a2; omega⟩ ?_ (fun w hw => hw) (fun y hy => ?_)
  · rw [show (k : Int) - d + (((0, fun _ => none) : Nat × (Int → Option CV)).1 : Nat) = (k : Int) - d by simp]
    (repeat (first | exact Env.sub_nil _ | refine Env.sub_cons rfl ?_))
  obtain ⟨c, G⟩ := y
  obtain ⟨hc, hG⟩ := hy
  dsimp only at hc hG ⊢
  repeat first | refine zaa rfl (zay rfl) ?_ | (refine zac ?_; refine zaa rfl (zbf rfl rfl) ?_) | refine zah ?_ | (refine zcr ?_; refine zcs ?_) | (refine zdb ?_; first | refine zdc ?_ | refine zdd ?_)
  refine ws_cond rfl (fun hd => ?_) (fun hd => ?_)
  · have hle : (k : Int) - d + c ≤ (k : Int) := of_decide_eq_true hd
    clear hd
    repeat first | refine zaa rfl (zay rfl) ?_ | (refine zae ?_; first | refine zaa rfl (zcf rfl rfl (by (repeat (first | exact mh | refine mt ?_)); done) rfl) ?_ | refine zaa rfl (zbu rfl rfl) ?_) | (refine zaf ?_; refine zaa rfl (opj_indexC rfl rfl (by omega) (by omega)) ?_) | refine zaa rfl (zcd rfl) ?_ | (refine zcr ?_; refine zcs ?_) | (refine zdb ?_; first | refine zdc ?_ | refine zdd ?_ | refine zde ?_ | refine zdf ?_)
    refine rs_mapUpdateC (p := ptI P ((k : Int) - d + c)) hgm rfl rfl rfl ⟨by omega, by omega⟩ ?_
    repeat first | refine zaa rfl (zay rfl) ?_ | refine zaa rfl (zaz rfl) ?_ | (refine zac ?_; refine zaa rfl (zbb rfl rfl (by omega)) ?_) | refine zah ?_ | (refine zcr ?_; first | refine zcs ?_ | refine zcv ?_) | (refine zdb ?_; refine zdd ?_)
    refine done_round (c + 1, updC G ((k : Int) - d + c) (ptI P ((k : Int) - d + c))) ⟨by simp only; omega, fun i a1 a2 => ?_⟩ (by simp only; omega) ?_ (fun _ hw => hw)
    · simp only at a2 ⊢
      by_cases hi : i = (k : Int) - d + c
      · rw [hi, updC_at]
      · rw [updC_ne hi]
        exact hG i a1 (by omega)
    · simp only
      rw [show (k : Int) - d + ((c + 1 : Nat) : Int) = (k : Int) - d + c + 1 by omega]
      (repeat (first | exact Env.sub_nil _ | refine Env.sub_cons rfl ?_))
  · have hgt : ¬ (k : Int) - d + c ≤ (k : Int) := of_decide_eq_false hd
    clear hd
    obtain rfl : c = d + 1 := by omega
    have hC := corners_fn (d := d) (n := n) (f := f) (P := P) w0 [⟨g, 27, [.raw (.int .i64 (d : Int)), AV.sl w0 1 ((tab (n + d + 1) f).map (AV.f .f32)), slC w0 (tabC n P)], 3⟩] gm hgm G (ptI P) k d t (by omega) k2 k1 (by omega) fun i a1 a2 => hG i a1 (by omega)
    repeat first | refine zaa rfl (zay rfl) ?_ | (refine zae ?_; refine zaa rfl (zcg rfl rfl (by (repeat (first | exact mh | refine mt ?_)); done) rfl rfl) ?_) | (refine zcr ?_; first | refine zcs ?_ | refine zcu ?_ | refine zcx ?_ | refine zda ?_) | (refine zdb ?_; first | refine zdc ?_ | refine zdd ?_ | refine zdh ?_)
    refine rs_callW hC rfl rfl ?_ rfl ?_
    · exact Takes.same (Takes.same (Takes.same (Takes.same (Takes.same Takes.nil))))
    repeat first | refine zaa rfl (zaz rfl) ?_ | (refine zad ?_; (refine zaa rfl (zci rfl rfl (hP) ?_) ?_; (focus ((repeat (first | exact Takes.nil | refine Takes.sl ?_ | refine Takes.lit ?_ | refine Takes.fa ?_ | refine Takes.fc ?_ | refine Takes.net ?_ | (refine Takes.ownE ?_ ?_ ?_ ?_ ?_; (focus (exact ⟨_, _, (by (repeat (first | exact mh | refine mt ?_)); done)⟩)); (focus (simp; done)); (focus omega); (focus (simp only [maxLen]; omega))) | refine Takes.same ?_)); done)))) | refine zaa rfl (zbz rfl rfl) ?_ | refine zah ?_ | (refine zcr ?_; refine zcs ?_) | (refine zdb ?_; refine zdg ?_)
    exact done_ret2 rfl () rfl rfl rfl trivial (List.nil_sublist _)
end
end Go.Ab
namespace Go.Ab
open Go.Proofs
variable {R : World → Prop} [RStab R]
def xB (f : Int → FV) (t : FV) (k j : Int) : FV := fbin .sub .f32 (f (k + j + 1)) t
def yB (f : Int → FV) (t : FV) (k r j : Int) : FV := fbin .sub .f32 t (f (k + 1 - r + j))
def qB (f : Int → FV) (t : FV) (k r : Int) (B : Int → FV) (j : Int) : FV := fbin .quo .f32 (B j) (fbin .add .f32 (xB f t k j) (yB f t k r j))
/-- What is carried on to the next share. -/
def suB (f : Int → FV) (t : FV) (k r : Int) (B : Int → FV) : Nat → FV
  | 0 => fv .f32 0
  | j + 1 => fbin .mul .f32 (yB f t k r (j : Int)) (qB f t k r B (j : Int))
/-- The shares, those ahead of j already of the next degree. -/
def lvB (f : Int → FV) (t : FV) (k r : Int) (B : Int → FV) (j : Nat) (i : Int) : FV := if 0 ≤ i ∧ i < (j : Int) then fbin .add .f32 (suB f t k r B i.toNat) (fbin .mul .f32 (xB f t k i) (qB f t k r B i)) else B i
theorem lvB_self (f : Int → FV) (t : FV) (k r : Int) (B : Int → FV) (j : Nat) : lvB f t k r B j (j : Int) = B j := if_neg (by omega)
/-- The shares for a degree. -/
def basB (f : Int → FV) (t : FV) (k : Int) : Nat → Int → FV
  | 0 => fun i => if i = 0 then one1 else fv .f32 0
  | c + 1 => fun i => if i = (c : Int) + 1 then suB f t k ((c : Int) + 1) (basB f t k c) (c + 1) else lvB f t k ((c : Int) + 1) (basB f t k c) (c + 1) i
/-- The shares of all points. -/
def outB (f : Int → FV) (t : FV) (k d : Nat) (i : Int) : FV := if (k : Int) - d ≤ i ∧ i ≤ k then basB f t k d (i - ((k : Int) - d)) else fv .f32 0
attribute [local irreducible] WS RS Done OpJ Then InBlock Round Ret Env.sub FnH
attribute [local irreducible] tab tabC
section
variable {d n : Nat} {f : Int → FV} {P : Nat → CV} {a : Int → Int}
theorem basisAt_fn (h : SpOk d n f P a) {t : FV} {τ : Int} (ht : Gd t τ) (h0 : a 0 ≤ τ) (h1 : τ ≤ a n) (hfin : (tab n (outB f t (spanN a d τ (n - 1)) d)).all finB = true) :
    FnH (X := Nat) Try.prog 8 (fun w => [splA w d n f P, .f .f32 t]) [] (fun y => .tup [.raw (.slice (some ⟨y, 0, none⟩) n n), .raw (.bool true)]) (fun y => [entF y 29 n (outB f t (spanN a d τ (n - 1)) d) n]) (fun _ => True) := by
  obtain ⟨d1, d2⟩ := h.d1
  obtain ⟨n1, n2⟩ := h.n1
  have hI := isIn_fn h ht h0 h1
  have hS := span_fn h ht h0
  obtain ⟨k1, k2, _, _⟩ := h.span h0
  generalize spanN a d τ (n - 1) = k at *
  refine fn_intro Try.func8 rfl Try.ntmps8 (fun _ => Nat.le_of_ble_eq_true rfl) fun w0 => ?_
  repeat first | refine zaa rfl (zay rfl) ?_ | refine zaa rfl (zaz rfl) ?_ | (refine zae ?_; refine zaa rfl (zcg rfl rfl (by (repeat (first | exact mh | refine mt ?_)); done) rfl rfl) ?_) | refine zaa rfl (zcc rfl) ?_ | refine zah ?_ | (refine zcr ?_; refine zcs ?_) | (refine zdb ?_; first | refine zdc ?_ | refine zdd ?_ | refine zdf ?_ | refine zdj rfl ?_) | (refine zak rfl rfl rfl ?_; intro g) | refine zaa rfl (zci rfl rfl hI (Takes.spl (Takes.same Takes.nil))) ?_
  refine ws_draw (n := 7) mixed (by decide +kernel) ?_
  repeat first | refine zap rfl (zay rfl) ?_ | refine zap rfl (zaz rfl) ?_ | (refine zat ?_; first | refine zap rfl (zcf rfl rfl (by (repeat (first | exact mh | refine mt ?_)); done) rfl) ?_ | refine zap rfl (zcg rfl rfl (by (repeat (first | exact mh | refine mt ?_)); done) rfl rfl) ?_) | refine zap rfl (zcd rfl) ?_ | refine zav ?_ | refine zap rfl (zci rfl rfl hS (Takes.spl (Takes.same Takes.nil))) ?_
  repeat first | refine zaa rfl (zay rfl) ?_ | (refine zac ?_; refine zaa rfl (zbb rfl rfl (by omega)) ?_) | refine zah ?_ | (refine zcr ?_; refine zcs ?_) | (refine zdb ?_; first | refine zdc ?_ | refine zdd ?_)
  rw [show (d : Int) + 1 = ((d + 1 : Nat) : Int) by omega]
  refine rs_makeT1 (n := d + 1) (b := 4) rfl rfl rfl rfl rfl rfl (by omega) (by simp only [maxLen]; omega) fun gn => ?_
  repeat first | refine zaa rfl (zay rfl) ?_ | refine zaa rfl (zaz rfl) ?_ | (refine zaf ?_; refine zaa rfl (zbw rfl rfl (by omega) (by omega)) ?_) | refine zah ?_ | (refine zcr ?_; refine zcs ?_) | (refine zdb ?_; first | refine zdc ?_ | refine zdd ?_)
  refine rs_storeT 0 (basB f t k 0) (i := 0) (n := d + 1) (c := d + 1) rfl rfl rfl (by omega) rfl (fun s _ _ hs => if_neg hs) ?_
  repeat first | refine zaa rfl (zaz rfl) ?_ | refine zah ?_ | (refine zcr ?_; refine zcs ?_) | (refine zdb ?_; first | refine zdc ?_ | refine zdd ?_ | refine zde ?_)
  refine ws_loop (ι := Nat) (fun c => [(1, .f .f32 t), (2, .raw (.pointer (some ⟨g, 0, none⟩))), (6, .raw (.int .i64 (d : Int))), (7, .raw (.int .i64 (k : Int))), (8, .raw (.slice (some ⟨gn, 0, none⟩) (d + 1) (d + 1))), (9, .raw (.int .i64 ((c : Nat) + 1)))])
    (fun c => St w0 [] [entF gn 29 (d + 1) (basB f t k c) (d + 1), ⟨g, 27, [.raw (.int .i64 (d : Int)), AV.sl w0 1 ((tab (n + d + 1) f).map (AV.f .f32)), slC w0 (tabC n P)], 3⟩])
    (fun c => c ≤ d) (fun c => d - c) 0 (Nat.zero_le _) ?_ (fun w hw => hw) (fun c hc => ?_)
  · (repeat (first | exact Env.sub_nil _ | refine Env.sub_cons rfl ?_))
  repeat first | refine zaa rfl (zay rfl) ?_ | (refine zac ?_; refine zaa rfl (zbf rfl rfl) ?_) | refine zah ?_ | (refine zcr ?_; refine zcs ?_) | (refine zdb ?_; first | refine zdc ?_ | refine zdd ?_)
  refine ws_cond rfl (fun hd => ?_) (fun hd => ?_)
  · have hle : (c : Int) + 1 ≤ (d : Int) := of_decide_eq_true hd
    clear hd
    repeat first | refine zaa rfl (zay rfl) ?_ | refine zaa rfl (zaz rfl) ?_ | refine zah ?_ | (refine zcr ?_; refine zcs ?_) | (refine zdb ?_; first | refine zdc ?_ | refine zdd ?_ | refine zde ?_ | refine zdf ?_)
    refine ws_loop (ι := Nat) (fun j => [(1, .f .f32 t), (2, .raw (.pointer (some ⟨g, 0, none⟩))), (6, .raw (.int .i64 (d : Int))), (7, .raw (.int .i64 (k : Int))), (8, .raw (.slice (some ⟨gn, 0, none⟩) (d + 1) (d + 1))), (9, .raw (.int .i64 ((c : Int) + 1))), (10, .f .f32 (suB f t k ((c : Int) + 1) (basB f t k c) j)), (35, .raw (.int .i64 ((c : Int) + 1))), (36, .raw (.int .i64 ((j : Nat) : Int)))])
      (fun j => St w0 [] [entF gn 29 (d + 1) (lvB f t k ((c : Int) + 1) (basB f t k c) j) (d + 1), ⟨g, 27, [.raw (.int .i64 (d : Int)), AV.sl w0 1 ((tab (n + d + 1) f).map (AV.f .f32)), slC w0 (tabC n P)], 3⟩])
      (fun j => j ≤ c + 1) (fun j => c + 1 - j) 0 (Nat.zero_le _) ?_ (fun w hw => ?_) (fun j hj => ?_)
    · (repeat (first | exact Env.sub_nil _ | refine Env.sub_cons rfl ?_))
    · rw [show lvB f t k ((c : Int) + 1) (basB f t k c) 0 = basB f t k c from funext fun i => if_neg (by omega)]
      exact hw
    repeat first | (refine zac ?_; refine zaa rfl (zbe rfl rfl) ?_) | refine zah ?_ | (refine zcr ?_; refine zcs ?_) | (refine zdb ?_; first | refine zdc ?_ | refine zdd ?_)
    refine ws_cond rfl (fun hd => ?_) (fun hd => ?_)
    · have hlt : (j : Int) < (c : Int) + 1 := of_decide_eq_true hd
      clear hd
      repeat first | refine zaa rfl (zay rfl) ?_ | refine zaa rfl (zaz rfl) ?_ | refine zah ?_ | (refine zcr ?_; refine zcs ?_) | (refine zdb ?_; first | refine zdc ?_ | refine zdd ?_ | refine zde ?_ | refine zdf ?_)
      refine ws_draw (n := 24) mixed (by decide +kernel) ?_
      repeat first | refine zap rfl (zay rfl) ?_ | refine zap rfl (zaz rfl) ?_ | (refine zar ?_; first | refine zap rfl (zba rfl rfl rfl) ?_ | refine zap rfl (zbb rfl rfl (by omega)) ?_ | refine zap rfl (zbc rfl rfl (by omega)) ?_) | (refine zat ?_; first | refine zap rfl (zcf rfl rfl (by (repeat (first | exact mh | refine mt ?_)); done) rfl) ?_ | refine zap rfl (zbu rfl rfl) ?_) | (refine zau ?_; refine zap rfl (zbs rfl rfl (by omega) (by omega)) ?_) | refine zap rfl (zcd rfl) ?_ | refine zav ?_
      repeat first | refine zaa rfl (zay rfl) ?_ | refine zaa rfl (zaz rfl) ?_ | (refine zac ?_; refine zaa rfl (zba rfl rfl rfl) ?_) | (refine zae ?_; refine zaa rfl (zbt rfl rfl (by (repeat (first | exact mh | refine mt ?_)); done) (by omega)) ?_) | (refine zaf ?_; refine zaa rfl (zbw rfl rfl (by omega) (by omega)) ?_) | refine zah ?_ | (refine zcr ?_; refine zcs ?_) | (refine zdb ?_; first | refine zdc ?_ | refine zdd ?_)
      rw [lvB_self]
      refine rs_storeT 0 (lvB f t k ((c : Int) + 1) (basB f t k c) (j + 1)) (i := (j : Int)) (n := d + 1) (c := d + 1) rfl rfl rfl (by omega) ?_ (fun s a1 _ hs => ?_) ?_
      · unfold lvB
        rw [if_pos (by omega), Int.toNat_natCast]
        rfl
      · unfold lvB
        by_cases hs2 : 0 ≤ s ∧ s < (j : Int)
        · rw [if_pos hs2, if_pos (by omega)]
        · rw [if_neg hs2, if_neg (by omega)]
      repeat first | refine zaa rfl (zay rfl) ?_ | refine zaa rfl (zaz rfl) ?_ | (refine zac ?_; first | refine zaa rfl (zba rfl rfl rfl) ?_ | refine zaa rfl (zbb rfl rfl (by omega)) ?_) | refine zah ?_ | (refine zcr ?_; first | refine zcs ?_ | refine zcv ?_) | (refine zdb ?_; refine zdd ?_)
      refine done_round (j + 1) (by omega) (by omega) ?_ (fun _ hw => hw)
      rw [show ((j + 1 : Nat) : Int) = (j : Int) + 1 by omega]
      (repeat (first | exact Env.sub_nil _ | refine Env.sub_cons rfl ?_))
    · have hge : ¬ (j : Int) < (c : Int) + 1 := of_decide_eq_false hd
      clear hd
      obtain rfl : j = c + 1 := by omega
      repeat first | refine zaa rfl (zay rfl) ?_ | (refine zaf ?_; refine zaa rfl (zbw rfl rfl (by omega) (by omega)) ?_) | (refine zcr ?_; first | refine zcs ?_ | refine zcu ?_ | refine zcx ?_ | refine zda ?_) | (refine zdb ?_; first | refine zdd ?_ | refine zdh ?_)
      refine rs_storeT 0 (basB f t k (c + 1)) (i := (c : Int) + 1) (n := d + 1) (c := d + 1) rfl rfl rfl (by omega) (if_pos rfl) (fun s _ _ hs => if_neg hs) ?_
      repeat first | refine zaa rfl (zay rfl) ?_ | refine zaa rfl (zaz rfl) ?_ | (refine zac ?_; refine zaa rfl (zbb rfl rfl (by omega)) ?_) | refine zah ?_ | (refine zcr ?_; first | refine zcs ?_ | refine zcv ?_) | (refine zdb ?_; refine zdd ?_)
      refine done_round (c + 1) (by omega) (by omega) ?_ (fun _ hw => hw)
      rw [show ((c + 1 : Nat) : Int) + 1 = (c : Int) + 1 + 1 by omega]
      (repeat (first | exact Env.sub_nil _ | refine Env.sub_cons rfl ?_))
  · have hgt : ¬ (c : Int) + 1 ≤ (d : Int) := of_decide_eq_false hd
    clear hd
    obtain rfl : c = d := by omega
    repeat first | (refine zad ?_; refine zaa rfl (opj_lenC rfl) ?_) | (refine zae ?_; refine zaa rfl (zcf rfl rfl (by (repeat (first | exact mh | refine mt ?_)); done) rfl) ?_) | refine zaa rfl (zcd rfl) ?_ | (refine zcr ?_; first | refine zcs ?_ | refine zcu ?_ | refine zcx ?_ | refine zda ?_) | (refine zdb ?_; first | refine zdc ?_ | refine zdd ?_ | refine zdh ?_)
    refine rs_makeT1 (n := n) (b := 4) rfl rfl rfl rfl rfl rfl (by omega) (by simp only [maxLen]; omega) fun go => ?_
    repeat first | refine zaa rfl (zay rfl) ?_ | refine zaa rfl (zaz rfl) ?_ | (refine zac ?_; refine zaa rfl (zbc rfl rfl (by omega)) ?_) | refine zah ?_ | (refine zcr ?_; refine zcs ?_) | (refine zdb ?_; first | refine zdc ?_ | refine zdd ?_) | refine zaa rfl (opj_cut_l rfl rfl (by omega) (Nat.le_refl _)) ?_
    refine rs_copyT 0 (c + 1) (outB f t k c) (h := basB f t k c) (j := c + 1) rfl rfl ⟨_, rfl, fun w v hw hr => rd_own hw hr (mt mh) (Nat.le_refl _) ⟨Nat.le_refl _, by simp only [maxLen]; omega⟩⟩ rfl (by omega) (by omega) (by omega) (fun s hs => ?_) ?_
    · unfold outB
      by_cases hs2 : ((k : Int) - c).toNat ≤ s ∧ s < ((k : Int) - c).toNat + (c + 1)
      · rw [if_pos hs2, if_pos (by omega)]
        congr 1
        omega
      · rw [if_neg hs2, if_neg (by omega)]
    have hN := ifNumbers_yes n n go (outB f t k c) ⟨by omega, Nat.le_refl _, by simp only [maxLen]; omega⟩ hfin
    repeat first | refine zaa rfl (zay rfl) ?_ | refine zah ?_ | (refine zcr ?_; refine zcs ?_) | (refine zdb ?_; first | refine zdc ?_ | refine zdd ?_)
    refine rs_call (pre := [entF go 29 n (outB f t k c) n]) hN rfl rfl (Takes.same Takes.nil) rfl fun _ _ => ?_
    repeat first | refine zaa rfl (zaz rfl) ?_ | refine zaa rfl (zbz rfl rfl) ?_ | refine zah ?_ | (refine zcr ?_; refine zcs ?_) | (refine zdb ?_; refine zdg ?_)
    exact done_ret2 rfl go rfl rfl rfl trivial (.cons_cons _ (List.nil_sublist _))
end
end Go.Ab
namespace Go.Ab
theorem gd_cast {a b : Int} : ((a - b : Int) : Rat) / 64 = (a : Rat) / 64 - (b : Rat) / 64 := by
  rw [Rat.intCast_sub]
  grind
/-- One share, parted: what goes on and what is carried. -/
theorem part_near {x y B : FV} {X Y b E : Rat} (hx : Vl .f32 x X) (hy : Vl .f32 y Y) (hs : Vl .f32 (fbin .add .f32 x y) (X + Y)) (hB : NeaF B b E) (x0 : 0 ≤ X) (y0 : 0 ≤ Y) (h1 : 1 ≤ X + Y) (h6 : X + Y ≤ 6) (b0 : 0 ≤ b) (b1 : b ≤ 1) (e0 : 0 ≤ E) (e1 : E ≤ 1 / 1000) :
    NeaF (fbin .mul .f32 x (fbin .quo .f32 B (fbin .add .f32 x y))) (b * (1 - Y / (X + Y))) (E + 1 / 500000) ∧ NeaF (fbin .mul .f32 y (fbin .quo .f32 B (fbin .add .f32 x y))) (b * (Y / (X + Y))) (E + 1 / 500000) := by
  obtain ⟨u, vu, u1, u2⟩ := hB
  have hne : X + Y ≠ 0 := fun e => by rw [e] at h1; exact absurd h1 (by decide)
  have hD := Rat.mul_inv_cancel _ hne
  have hDp : 0 < (X + Y)⁻¹ := Rat.inv_pos.2 (by grind)
  have hD1 : (X + Y)⁻¹ ≤ 1 := by
    have := Rat.mul_nonneg (show (0 : Rat) ≤ X + Y - 1 by grind) (Rat.le_of_lt hDp)
    grind
  have hab : -(2 : Rat) ≤ u * (X + Y)⁻¹ ∧ u * (X + Y)⁻¹ ≤ 2 := by
    have z1 := Rat.mul_nonneg (show (0 : Rat) ≤ 2 - u by grind) (Rat.le_of_lt hDp)
    have z2 := Rat.mul_nonneg (show (0 : Rat) ≤ 2 + u by grind) (Rat.le_of_lt hDp)
    constructor <;> grind
  obtain ⟨q, vq, _, q1, q2⟩ := divR vu hs hne 2 (by rw [Rat.div_def]; exact hab.1) (by rw [Rat.div_def]; exact hab.2) (by decide +kernel)
  rw [Rat.div_def] at q1 q2 ⊢
  generalize (X + Y)⁻¹ = D at *
  have sD : X * D + Y * D = 1 := by grind
  have xD : 0 ≤ X * D := Rat.mul_nonneg x0 (Rat.le_of_lt hDp)
  have yD : 0 ≤ Y * D := Rat.mul_nonneg y0 (Rat.le_of_lt hDp)
  have key : ∀ {z : FV} {Z : Rat}, Vl .f32 z Z → 0 ≤ Z → Z ≤ 6 → 0 ≤ Z * D → Z * D ≤ 1 → NeaF (fbin .mul .f32 z (some 0 |> fun _ => (fbin .quo .f32 B (fbin .add .f32 x y)))) (b * (Z * D)) (E + 1 / 500000) := by
    intro z Z vz z0 z6 zD zD1
    have k1 := Rat.mul_nonneg z0 (show (0 : Rat) ≤ q - (u * D - (2 / 8388608 + 1 / 100000000000000000000)) by grind)
    have k2 := Rat.mul_nonneg z0 (show (0 : Rat) ≤ (u * D + (2 / 8388608 + 1 / 100000000000000000000)) - q by grind)
    have k3 := Rat.mul_nonneg zD (show (0 : Rat) ≤ E - (u - b) by grind)
    have k4 := Rat.mul_nonneg zD (show (0 : Rat) ≤ E + (u - b) by grind)
    have k5 := Rat.mul_nonneg e0 (show (0 : Rat) ≤ 1 - Z * D by grind)
    have k6 := Rat.mul_nonneg b0 (show (0 : Rat) ≤ 1 - Z * D by grind)
    have k7 := Rat.mul_nonneg b0 zD
    have k8 := Rat.mul_nonneg (show (0 : Rat) ≤ 6 - Z by grind) (show (0 : Rat) ≤ 2 / 8388608 + 1 / 100000000000000000000 by decide +kernel)
    obtain ⟨r, vr, _, r1, r2⟩ := mulR vz vq 2 (by grind) (by grind) (by decide +kernel)
    exact ⟨r, vr, by grind, by grind⟩
  refine ⟨?_, ?_⟩
  · have := key hx x0 (by grind) xD (by grind)
    rw [show b * (1 - Y * D) = b * (X * D) by grind]
    exact this
  · exact key hy y0 (by grind) yD (by grind)
theorem add_near {p q : FV} {x y E F : Rat} (hp : NeaF p x E) (hq : NeaF q y F) (hx : 0 ≤ x ∧ x ≤ 1) (hy : 0 ≤ y ∧ y ≤ 1) (hE : 0 ≤ E ∧ E ≤ 1 / 100) (hF : 0 ≤ F ∧ F ≤ 1 / 100) : NeaF (fbin .add .f32 p q) (x + y) (E + F + 1 / 1000000) := by
  obtain ⟨u, vu, u1, u2⟩ := hp
  obtain ⟨v, vv, v1, v2⟩ := hq
  obtain ⟨r, vr, _, r1, r2⟩ := addR vu vv 3 (by grind) (by grind) (by decide +kernel)
  exact ⟨r, vr, by grind, by grind⟩
end Go.Ab
namespace Go.Ab
theorem sumQ_le {s : Nat → Rat} : ∀ {n i : Nat}, (∀ j, j < n → 0 ≤ s j) → i < n → s i ≤ sumQ s n
  | n + 1, i, h, hi => by
    have h0 : ∀ m, m ≤ n → 0 ≤ sumQ s m := by
      intro m
      induction m with
      | zero => intro _; exact Rat.le_refl
      | succ m ih =>
        intro hm
        have a := ih (by omega)
        have b := h m (by omega)
        show 0 ≤ sumQ s m + s m
        grind
    by_cases e : i = n
    · subst e
      have := h0 i (Nat.le_refl _)
      show s i ≤ sumQ s i + s i
      grind
    · have a := sumQ_le (n := n) (i := i) (fun j hj => h j (by omega)) (by omega)
      have b := h n (by omega)
      show s i ≤ sumQ s n + s n
      grind
/-- How far off a share is, at most. -/
def eBd : Nat → Rat
  | 0 => 0
  | c + 1 => 2 * eBd c + 1 / 200000
theorem eBd_le : ∀ c, c ≤ 5 → 0 ≤ eBd c ∧ eBd c ≤ 1 / 6000 := by decide +kernel
section
variable {Kf : Int → FV} {a : Int → Int} {lo hi : Int} {t : FV} {τ : Int} {k : Int}
/-- What is asked of a span. -/
structure SpanG (Kf : Int → FV) (a : Int → Int) (lo hi : Int) (t : FV) (τ k : Int) : Prop where
  kn : Kn Kf a lo hi
  t : Gd t τ
  le : a k ≤ τ
  ge : τ ≤ a (k + 1)
  w : a k + 64 ≤ a (k + 1)
  b0 : ∀ i, 0 ≤ a i
  b1 : ∀ i, a i ≤ 384
theorem SpanG.unit (h : SpanG Kf a lo hi t τ k) {r i : Int} (h1 : i ≤ k) (h2 : k + 1 ≤ i + r) : 0 ≤ uuR (kR a) r ((τ : Rat) / 64) i ∧ uuR (kR a) r ((τ : Rat) / 64) i ≤ 1 := by
  have u1 := h.kn.up i k h1
  have u2 := h.kn.up (k + 1) (i + r) h2
  have e1 := h.le
  have e2 := h.ge
  have e3 := h.w
  have q1 : kR a i ≤ (τ : Rat) / 64 := by have := Rat.intCast_le_intCast.2 (show a i ≤ τ by omega); unfold kR; grind
  have q2 : (τ : Rat) / 64 ≤ kR a (i + r) := by have := Rat.intCast_le_intCast.2 (show τ ≤ a (i + r) by omega); unfold kR; grind
  exact uuR_unit q1 q2 (kR_lt (by omega))
theorem sh_nonneg (h : SpanG Kf a lo hi t τ k) : ∀ c i, i ≤ c → 0 ≤ shB (kR a) k ((τ : Rat) / 64) c i
  | 0, i, hi => by
    obtain rfl : i = 0 := by omega
    show (0 : Rat) ≤ if 0 = 0 then 1 else 0
    rw [if_pos rfl]
    decide
  | c + 1, i, hi => by
    show 0 ≤ (if i < c + 1 then shB (kR a) k ((τ : Rat) / 64) c i * (1 - uuR (kR a) ((c : Int) + 1) ((τ : Rat) / 64) (k - c + i)) else 0) + (if 0 < i then shB (kR a) k ((τ : Rat) / 64) c (i - 1) * uuR (kR a) ((c : Int) + 1) ((τ : Rat) / 64) (k - c + (i - 1 : Nat)) else 0)
    have p1 : (0 : Rat) ≤ if i < c + 1 then shB (kR a) k ((τ : Rat) / 64) c i * (1 - uuR (kR a) ((c : Int) + 1) ((τ : Rat) / 64) (k - c + i)) else 0 := by
      split
      · obtain ⟨u0, u1⟩ := h.unit (r := (c : Int) + 1) (i := k - c + i) (by omega) (by omega)
        exact Rat.mul_nonneg (sh_nonneg h c i (by omega)) (by grind)
      · exact Rat.le_refl
    have p2 : (0 : Rat) ≤ if 0 < i then shB (kR a) k ((τ : Rat) / 64) c (i - 1) * uuR (kR a) ((c : Int) + 1) ((τ : Rat) / 64) (k - c + (i - 1 : Nat)) else 0 := by
      split
      · obtain ⟨u0, u1⟩ := h.unit (r := (c : Int) + 1) (i := k - c + (i - 1 : Nat)) (by omega) (by omega)
        exact Rat.mul_nonneg (sh_nonneg h c (i - 1) (by omega)) u0
      · exact Rat.le_refl
    grind
theorem sh_le (h : SpanG Kf a lo hi t τ k) {c i : Nat} (hi : i ≤ c) : shB (kR a) k ((τ : Rat) / 64) c i ≤ 1 := by
  have := sumQ_le (s := fun i => shB (kR a) k ((τ : Rat) / 64) c i) (n := c + 1) (i := i) (fun j hj => sh_nonneg h c j (by omega)) (by omega)
  rw [sh_one] at this
  exact this
theorem parts (h : SpanG Kf a lo hi t τ k) {c j : Nat} (hj : j ≤ c) (hlo : lo ≤ k - c) (hhi : k + c + 1 ≤ hi) {B : Int → FV} {b E : Rat} (hB : NeaF (B j) b E) (b0 : 0 ≤ b) (b1 : b ≤ 1) (e0 : 0 ≤ E) (e1 : E ≤ 1 / 1000) :
    NeaF (fbin .mul .f32 (xB Kf t k j) (qB Kf t k ((c : Int) + 1) B j)) (b * (1 - uuR (kR a) ((c : Int) + 1) ((τ : Rat) / 64) (k - c + j))) (E + 1 / 500000) ∧
    NeaF (fbin .mul .f32 (yB Kf t k ((c : Int) + 1) j) (qB Kf t k ((c : Int) + 1) B j)) (b * uuR (kR a) ((c : Int) + 1) ((τ : Rat) / 64) (k - c + j)) (E + 1 / 500000) := by
  have u1 := h.kn.up (k - c + j) k (by omega)
  have u2 := h.kn.up (k + 1) (k + j + 1) (by omega)
  have e2 := h.le
  have e3 := h.ge
  have e4 := h.w
  have e5 := h.b0 (k - c + j)
  have e6 := h.b1 (k + j + 1)
  have gA := h.kn.g (k + j + 1) (by omega) (by omega)
  have gB := h.kn.g (k - c + j) (by omega) (by omega)
  have v1 := gd_sub gA h.t
  have v2 := gd_sub h.t gB
  have c1 := Rat.intCast_le_intCast.2 (show τ ≤ a (k + j + 1) by omega)
  have c2 := Rat.intCast_le_intCast.2 (show a (k - c + j) ≤ τ by omega)
  have c3 := Rat.intCast_le_intCast.2 (show a (k - c + j) + 64 ≤ a (k + j + 1) by omega)
  have c4 := Rat.intCast_le_intCast.2 (show a (k + j + 1) ≤ a (k - c + j) + 384 by omega)
  rw [Rat.intCast_add] at c3 c4
  have z64 : ((64 : Int) : Rat) = 64 := rfl
  have z384 : ((384 : Int) : Rat) = 384 := rfl
  rw [gd_cast] at v1 v2
  have es : (a (k + j + 1) : Rat) / 64 - (τ : Rat) / 64 + ((τ : Rat) / 64 - (a (k - c + j) : Rat) / 64) = ((a (k + j + 1) - a (k - c + j) : Int) : Rat) / 64 := by
    rw [gd_cast]
    grind
  obtain ⟨s, vs, hn, _⟩ := addR v1 v2 20 (by grind) (by grind) (by decide +kernel)
  rw [es] at hn
  rw [rnd_rep hn (rep_64 _ (by omega)), ← es] at vs
  have hu : uuR (kR a) ((c : Int) + 1) ((τ : Rat) / 64) (k - c + j) = ((τ : Rat) / 64 - (a (k - c + j) : Rat) / 64) / ((a (k + j + 1) : Rat) / 64 - (τ : Rat) / 64 + ((τ : Rat) / 64 - (a (k - c + j) : Rat) / 64)) := by
    unfold uuR kR
    rw [show k - (c : Int) + j + ((c : Int) + 1) = k + j + 1 by omega]
    congr 1
    grind
  rw [hu]
  unfold qB xB yB
  rw [show k + 1 - ((c : Int) + 1) + (j : Int) = k - c + j by omega]
  exact part_near v1 v2 vs hB (by grind) (by grind) (by grind) (by grind) b0 b1 e0 e1
theorem bas_near (h : SpanG Kf a lo hi t τ k) : ∀ c : Nat, c ≤ 5 → lo ≤ k - c + 1 → k + c ≤ hi → ∀ i : Nat, i ≤ c → NeaF (basB Kf t k c i) (shB (kR a) k ((τ : Rat) / 64) c i) (eBd c)
  | 0, _, _, _, i, hi => by
    obtain rfl : i = 0 := by omega
    refine ⟨1, ?_, ?_, ?_⟩
    · show Vl .f32 (if ((0 : Nat) : Int) = 0 then one1 else fv .f32 0) 1
      rw [if_pos (show ((0 : Nat) : Int) = 0 from rfl)]
      exact vl_o1
    · show -(0 : Rat) ≤ 1 - (if 0 = 0 then 1 else 0)
      rw [if_pos rfl]
      grind
    · show (1 : Rat) - (if 0 = 0 then 1 else 0) ≤ 0
      rw [if_pos rfl]
      grind
  | c + 1, hc, hlo, hhi, i, hi => by
    have ih := bas_near h c (by omega) (by omega) (by omega)
    obtain ⟨e0, e1⟩ := eBd_le c (by omega)
    have pr : ∀ j : Nat, j ≤ c → _ := fun j hj => parts h (c := c) (j := j) hj (by omega) (by omega) (B := basB Kf t k c) (ih j hj) (sh_nonneg h c j hj) (sh_le h hj) e0 (by grind)
    have ee : eBd (c + 1) = 2 * eBd c + 1 / 200000 := rfl
    have wk : ∀ {p : FV} {x E F : Rat}, NeaF p x E → E ≤ F → NeaF p x F := fun ⟨u, vu, u1, u2⟩ hEF => ⟨u, vu, by grind, by grind⟩
    have bd : ∀ j : Nat, j ≤ c → (0 ≤ shB (kR a) k ((τ : Rat) / 64) c j * (1 - uuR (kR a) ((c : Int) + 1) ((τ : Rat) / 64) (k - c + j)) ∧ shB (kR a) k ((τ : Rat) / 64) c j * (1 - uuR (kR a) ((c : Int) + 1) ((τ : Rat) / 64) (k - c + j)) ≤ 1) ∧ 0 ≤ shB (kR a) k ((τ : Rat) / 64) c j * uuR (kR a) ((c : Int) + 1) ((τ : Rat) / 64) (k - c + j) ∧ shB (kR a) k ((τ : Rat) / 64) c j * uuR (kR a) ((c : Int) + 1) ((τ : Rat) / 64) (k - c + j) ≤ 1 := fun j hj => by
      obtain ⟨u0, u1⟩ := h.unit (r := (c : Int) + 1) (i := k - c + j) (by omega) (by omega)
      have b0 := sh_nonneg h c j hj
      have b1 := sh_le h hj
      have m1 := Rat.mul_nonneg b0 u0
      have m2 := Rat.mul_nonneg b0 (show (0 : Rat) ≤ 1 - uuR (kR a) ((c : Int) + 1) ((τ : Rat) / 64) (k - c + j) by grind)
      refine ⟨⟨m2, ?_⟩, m1, ?_⟩ <;> grind
    have hs : shB (kR a) k ((τ : Rat) / 64) (c + 1) i = (if i < c + 1 then shB (kR a) k ((τ : Rat) / 64) c i * (1 - uuR (kR a) ((c : Int) + 1) ((τ : Rat) / 64) (k - c + i)) else 0) + (if 0 < i then shB (kR a) k ((τ : Rat) / 64) c (i - 1) * uuR (kR a) ((c : Int) + 1) ((τ : Rat) / 64) (k - c + (i - 1 : Nat)) else 0) := rfl
    have hb : basB Kf t k (c + 1) i = if (i : Int) = (c : Int) + 1 then suB Kf t k ((c : Int) + 1) (basB Kf t k c) (c + 1) else lvB Kf t k ((c : Int) + 1) (basB Kf t k c) (c + 1) i := rfl
    rw [hs, hb]
    by_cases hic : i = c + 1
    · subst hic
      rw [if_pos (by omega), if_neg (by omega), if_pos (by omega), show c + 1 - 1 = c by omega, Rat.zero_add]
      exact wk (pr c (Nat.le_refl _)).2 (by grind)
    · rw [if_neg (by omega), if_pos (by omega)]
      unfold lvB
      rw [if_pos (by omega), Int.toNat_natCast]
      cases i with
      | zero =>
        rw [if_neg (by omega)]
        have hz : NeaF (suB Kf t k ((c : Int) + 1) (basB Kf t k c) 0) 0 0 := ⟨0, zvl .f32, by grind, by grind⟩
        have := add_near hz (pr 0 (by omega)).1 ⟨by grind, by grind⟩ (bd 0 (by omega)).1 ⟨by grind, by grind⟩ ⟨by grind, by grind⟩
        rw [Rat.zero_add] at this
        rw [Rat.add_zero]
        exact wk this (by grind)
      | succ i =>
        rw [if_pos (by omega), show i + 1 - 1 = i by omega]
        have := add_near (pr i (by omega)).2 (pr (i + 1) (by omega)).1 (bd i (by omega)).2 (bd (i + 1) (by omega)).1 ⟨by grind, by grind⟩ ⟨by grind, by grind⟩
        rw [Rat.add_comm] at this
        exact wk this (by grind)
end
end Go.Ab
namespace Go.Ab
open Go.Proofs
variable {R : World → Prop} [RStab R]
/-- The corners of the slope. -/
def slpI (f : Int → FV) (P : Nat → CV) (d : Nat) (j : Int) : CV := scaleC (subC2 (ptI P j) (ptI P (j - 1))) (fbin .quo .f32 (some (FloatKind.f32.nearest (d : Int))) (fbin .sub .f32 (f (j + d)) (f j)))
attribute [local irreducible] WS RS Done OpJ Then InBlock Round Ret Env.sub FnH
attribute [local irreducible] tab tabC
section
variable {d n : Nat} {f : Int → FV} {P : Nat → CV} {a : Int → Int}
theorem splineSlope_fn (h : SpOk d n f P a) {t : FV} {τ : Int} (ht : Gd t τ) (h0 : a 0 ≤ τ) (h1 : τ ≤ a n) (hfin : finC (deBF f t (d - 1) (slpI f P d) (spanN a d τ (n - 1) : Nat)) = true) :
    Fn Try.prog 14 (fun w => [splA w d n f P, .f .f32 t]) (.tup [cA (deBF f t (d - 1) (slpI f P d) (spanN a d τ (n - 1) : Nat)), .raw (.bool true)]) := by
  obtain ⟨d1, d2⟩ := h.d1
  obtain ⟨n1, n2⟩ := h.n1
  have hI := isIn_fn h ht h0 h1
  have hS := span_fn h ht h0
  obtain ⟨k1, k2, _, _⟩ := h.span h0
  generalize spanN a d τ (n - 1) = k at *
  have hP := ifPoint_fn (deBF f t (d - 1) (slpI f P d) k) true hfin
  refine fn_intro Try.func14 rfl Try.ntmps14 (fun _ => Nat.le_of_ble_eq_true rfl) fun w0 => ?_
  repeat first | refine zaa rfl (zay rfl) ?_ | refine zaa rfl (zaz rfl) ?_ | (refine zae ?_; refine zaa rfl (zcg rfl rfl (by (repeat (first | exact mh | refine mt ?_)); done) rfl rfl) ?_) | refine zaa rfl (zcc rfl) ?_ | refine zah ?_ | (refine zcr ?_; refine zcs ?_) | (refine zdb ?_; first | refine zdc ?_ | refine zdd ?_ | refine zdf ?_ | refine zdj rfl ?_) | (refine zak rfl rfl rfl ?_; intro g) | refine zaa rfl (zci rfl rfl hI (Takes.spl (Takes.same Takes.nil))) ?_
  refine ws_draw (n := 7) mixed (by decide +kernel) ?_
  repeat first | refine zap rfl (zay rfl) ?_ | refine zap rfl (zaz rfl) ?_ | (refine zat ?_; first | refine zap rfl (zcf rfl rfl (by (repeat (first | exact mh | refine mt ?_)); done) rfl) ?_ | refine zap rfl (zcg rfl rfl (by (repeat (first | exact mh | refine mt ?_)); done) rfl rfl) ?_) | refine zap rfl (zcd rfl) ?_ | refine zav ?_ | refine zap rfl (zci rfl rfl hS (Takes.spl (Takes.same Takes.nil))) ?_
  repeat first | refine zah ?_ | (refine zcr ?_; refine zcs ?_) | (refine zdb ?_; first | refine zdc ?_ | refine zdd ?_)
  refine rs_makeMapC rfl fun gm hgm => ?_
  repeat first | refine zaa rfl (zay rfl) ?_ | refine zaa rfl (zaz rfl) ?_ | (refine zac ?_; first | refine zaa rfl (zbb rfl rfl (by omega)) ?_ | refine zaa rfl (zbc rfl rfl (by omega)) ?_) | refine zah ?_ | (refine zcr ?_; refine zcs ?_) | (refine zdb ?_; first | refine zdc ?_ | refine zdd ?_ | refine zde ?_)
  refine ws_loop (ι := Nat × (Int → Option CV)) (fun y => [(1, .f .f32 t), (2, .raw (.pointer (some ⟨g, 0, none⟩))), (6, .raw (.int .i64 (d : Int))), (7, .raw (.int .i64 (k : Int))), (8, .raw (.map (some gm))), (9, .raw (.int .i64 ((k : Int) - d + 1 + (y.1 : Nat))))])
    (fun y => StR (MapC gm y.2) w0 [] [⟨g, 27, [.raw (.int .i64 (d : Int)), AV.sl w0 1 ((tab (n + d + 1) f).map (AV.f .f32)), slC w0 (tabC n P)], 3⟩])
    (fun y => y.1 ≤ d ∧ ∀ i : Int, (k : Int) - d + 1 ≤ i → i < (k : Int) - d + 1 + y.1 → y.2 i = some (slpI f P d i)) (fun y => d - y.1) (0, fun _ => none) ⟨Nat.zero_le _, fun i a1 a2 => by simp only at a2; omega⟩ ?_ (fun w hw => hw) (fun y hy => ?_)
  · rw [show (k : Int) - d + 1 + (((0, fun _ => none) : Nat × (Int → Option CV)).1 : Nat) = (k : Int) - d + 1 by simp]
    (repeat (first | exact Env.sub_nil _ | refine Env.sub_cons rfl ?_))
  obtain ⟨c, G⟩ := y
  obtain ⟨hc, hG⟩ := hy
  dsimp only at hc hG ⊢
  repeat first | refine zaa rfl (zay rfl) ?_ | (refine zac ?_; refine zaa rfl (zbf rfl rfl) ?_) | refine zah ?_ | (refine zcr ?_; refine zcs ?_) | (refine zdb ?_; first | refine zdc ?_ | refine zdd ?_)
  refine ws_cond rfl (fun hd => ?_) (fun hd => ?_)
  · have hle : (k : Int) - d + 1 + c ≤ (k : Int) := of_decide_eq_true hd
    clear hd
    have m1 := minus_fn (ptI P ((k : Int) - d + 1 + c)) (ptI P ((k : Int) - d + 1 + c - 1))
    have m2 := scaled_fn (subC2 (ptI P ((k : Int) - d + 1 + c)) (ptI P ((k : Int) - d + 1 + c - 1))) (fbin .quo .f32 (some (FloatKind.f32.nearest (d : Int))) (fbin .sub .f32 (f ((k : Int) - d + 1 + c + d)) (f ((k : Int) - d + 1 + c))))
    repeat first | (refine zcr ?_; refine zcs ?_) | (refine zdb ?_; first | refine zdc ?_ | refine zde ?_ | refine zdf ?_)
    refine ws_draw (n := 31) mixed (by decide +kernel) ?_
    repeat first | refine zap rfl (zay rfl) ?_ | (refine zar ?_; first | refine zap rfl (zba rfl rfl rfl) ?_ | refine zap rfl (zbb rfl rfl (by omega)) ?_ | refine zap rfl (zbc rfl rfl (by omega)) ?_) | (refine zas ?_; first | (refine zap rfl (zci rfl rfl (m1) ?_) ?_; (focus ((repeat (first | exact Takes.nil | refine Takes.sl ?_ | refine Takes.lit ?_ | refine Takes.fa ?_ | refine Takes.fc ?_ | refine Takes.net ?_ | (refine Takes.ownE ?_ ?_ ?_ ?_ ?_; (focus (exact ⟨_, _, (by (repeat (first | exact mh | refine mt ?_)); done)⟩)); (focus (simp; done)); (focus omega); (focus (simp only [maxLen]; omega))) | refine Takes.same ?_)); done))) | (refine zap rfl (zci rfl rfl (m2) ?_) ?_; (focus ((repeat (first | exact Takes.nil | refine Takes.sl ?_ | refine Takes.lit ?_ | refine Takes.fa ?_ | refine Takes.fc ?_ | refine Takes.net ?_ | (refine Takes.ownE ?_ ?_ ?_ ?_ ?_; (focus (exact ⟨_, _, (by (repeat (first | exact mh | refine mt ?_)); done)⟩)); (focus (simp; done)); (focus omega); (focus (simp only [maxLen]; omega))) | refine Takes.same ?_)); done)))) | (refine zat ?_; first | refine zap rfl (zcf rfl rfl (by (repeat (first | exact mh | refine mt ?_)); done) rfl) ?_ | refine zap rfl (zbu rfl rfl) ?_) | (refine zau ?_; first | refine zap rfl (opj_indexC rfl rfl (by omega) (by omega)) ?_ | refine zap rfl (zbs rfl rfl (by omega) (by omega)) ?_) | refine zap rfl (zcd rfl) ?_ | refine zap rfl (zby rfl) ?_ | refine zav ?_
    refine rs_mapUpdateC (p := slpI f P d ((k : Int) - d + 1 + c)) hgm rfl rfl rfl ⟨by omega, by omega⟩ ?_
    repeat first | refine zaa rfl (zay rfl) ?_ | refine zaa rfl (zaz rfl) ?_ | (refine zac ?_; refine zaa rfl (zbb rfl rfl (by omega)) ?_) | refine zah ?_ | (refine zcr ?_; first | refine zcs ?_ | refine zcv ?_) | (refine zdb ?_; refine zdd ?_)
    refine done_round (c + 1, updC G ((k : Int) - d + 1 + c) (slpI f P d ((k : Int) - d + 1 + c))) ⟨by simp only; omega, fun i a1 a2 => ?_⟩ (by simp only; omega) ?_ (fun _ hw => hw)
    · simp only at a2 ⊢
      by_cases hi : i = (k : Int) - d + 1 + c
      · rw [hi, updC_at]
      · rw [updC_ne hi]
        exact hG i a1 (by omega)
    · simp only
      rw [show (k : Int) - d + 1 + ((c + 1 : Nat) : Int) = (k : Int) - d + 1 + c + 1 by omega]
      (repeat (first | exact Env.sub_nil _ | refine Env.sub_cons rfl ?_))
  · have hgt : ¬ (k : Int) - d + 1 + c ≤ (k : Int) := of_decide_eq_false hd
    clear hd
    obtain rfl : c = d := by omega
    have hC := corners_fn (d := c) (n := n) (f := f) (P := P) w0 [⟨g, 27, [.raw (.int .i64 (c : Int)), AV.sl w0 1 ((tab (n + c + 1) f).map (AV.f .f32)), slC w0 (tabC n P)], 3⟩] gm hgm G (slpI f P c) k (c - 1) t (by omega) k2 (by omega) (by omega) fun i a1 a2 => hG i (by omega) (by omega)
    rw [show ((c - 1 : Nat) : Int) = (c : Int) - 1 by omega] at hC
    repeat first | refine zaa rfl (zay rfl) ?_ | (refine zac ?_; refine zaa rfl (zbc rfl rfl (by omega)) ?_) | (refine zae ?_; refine zaa rfl (zcg rfl rfl (by (repeat (first | exact mh | refine mt ?_)); done) rfl rfl) ?_) | (refine zcr ?_; first | refine zcs ?_ | refine zcu ?_ | refine zcx ?_ | refine zda ?_) | (refine zdb ?_; first | refine zdc ?_ | refine zdd ?_ | refine zdh ?_)
    refine rs_callW hC rfl rfl ?_ rfl ?_
    · exact Takes.same (Takes.same (Takes.same (Takes.same (Takes.same Takes.nil))))
    repeat first | refine zaa rfl (zaz rfl) ?_ | (refine zad ?_; (refine zaa rfl (zci rfl rfl (hP) ?_) ?_; (focus ((repeat (first | exact Takes.nil | refine Takes.sl ?_ | refine Takes.lit ?_ | refine Takes.fa ?_ | refine Takes.fc ?_ | refine Takes.net ?_ | (refine Takes.ownE ?_ ?_ ?_ ?_ ?_; (focus (exact ⟨_, _, (by (repeat (first | exact mh | refine mt ?_)); done)⟩)); (focus (simp; done)); (focus omega); (focus (simp only [maxLen]; omega))) | refine Takes.same ?_)); done)))) | refine zaa rfl (zbz rfl rfl) ?_ | refine zah ?_ | (refine zcr ?_; refine zcs ?_) | (refine zdb ?_; refine zdg ?_)
    exact done_ret2 rfl () rfl rfl rfl trivial (List.nil_sublist _)
end
end Go.Ab
namespace Go.Ab
/-- A list's numbers by whole indexes. -/
def ixR (a : Nat → Int) (i : Int) : Rat := quR a i.toNat
theorem DspOk.spok {y : Dsp} (h : DspOk y) : SpOk y.d y.n (mF y.m) y.P (fun i => 64 * y.m i) := h.k.ok h.d h.n h.p.pv.fin
theorem DspOk.spv {y : Dsp} (h : DspOk y) : SpV y.d y.n (mF y.m) (ptI y.P) (fun i => 64 * y.m i) (ixR y.a) (ixR y.b) 0 := by
  have hs := h.spok
  refine ⟨hs.d1.1, hs.n1.1, hs.kn, hs.first, hs.last, hs.lt, hs.gt, fun i h0 h1 => ?_, by grind, by grind⟩
  have hp := h.p.pv
  have hi : i.toNat < y.n := by omega
  have vx := hp.vx _ hi
  have vy := hp.vy _ hi
  have bx := hp.bx _ hi
  have by_ := hp.by_ _ hi
  unfold ixR
  exact ⟨⟨_, _, vx, vy, by constructor <;> grind, by constructor <;> grind⟩, by constructor <;> grind, by constructor <;> grind⟩
theorem DspOk.mb {y : Dsp} (h : DspOk y) (i : Int) : 0 ≤ y.m i ∧ y.m i ≤ 5 := by
  obtain ⟨d1, d2⟩ := h.d
  obtain ⟨n1, n2⟩ := h.n
  have x1 := h.k.up (min i y.d) i (by omega)
  rw [h.k.lo (min i y.d) (by omega)] at x1
  have x2 := h.k.le i
  have x3 := eeI_up n1 i (max i y.n) (by omega)
  rw [eeI_hi (j := max i y.n) (by omega) n1] at x3
  exact ⟨x1, by omega⟩
theorem DspOk.ends {y : Dsp} (h : DspOk y) : y.m 0 = 0 ∧ y.m y.n = (y.n : Int) - y.d := by
  obtain ⟨d1, d2⟩ := h.d
  obtain ⟨n1, n2⟩ := h.n
  exact ⟨h.k.lo 0 (by omega), by rw [h.k.hi y.n (Int.le_refl _), eeI_hi (Int.le_refl _) n1]⟩
/-- A span of the drawn spline. -/
theorem DspOk.spanG {y : Dsp} (h : DspOk y) {t : FV} {τ : Int} (ht : Gd t τ) (h1 : τ ≤ 64 * y.m y.n) {k : Nat} (hs : SpanI (fun i => 64 * y.m i) y.d y.n τ k) : SpanG (mF y.m) (fun i => 64 * y.m i) 0 ((y.n : Int) + y.d) t τ k := by
  have hst : 64 * y.m k < 64 * y.m ((k : Int) + 1) := hs.strict h.spv
  have hle : 64 * y.m k ≤ τ := hs.le
  refine ⟨h.spok.kn, ht, hle, ?_, ?_, fun i => ?_, fun i => ?_⟩
  · rcases hs.lt with e | e
    · have e2 : (k : Int) + 1 = y.n := by omega
      show τ ≤ 64 * y.m ((k : Int) + 1)
      rw [e2]
      exact h1
    · exact Int.le_of_lt e
  · show 64 * y.m k + 64 ≤ 64 * y.m ((k : Int) + 1)
    omega
  · have := (h.mb i).1
    show 0 ≤ 64 * y.m i
    omega
  · have := (h.mb i).2
    show 64 * y.m i ≤ 384
    omega
/-- The first point, the last. -/
theorem SpV.at0 {d n : Nat} {Kf : Int → FV} {P : Int → CV} {a : Int → Int} {x y : Int → Rat} {E : Rat} (h : SpV d n Kf P a x y E) {t : FV} (ht : Gd t (a 0)) (hd : d ≤ 5) {k : Nat} (hs : SpanI a d n (a 0) k) : Nea (deBF Kf t d P k) (x 0) (y 0) (E + (d : Rat) * (1 / 50000)) := by
  have hN := h.at ht (Int.le_refl _) (h.kn.up 0 n (by omega)) hd hs
  have hk : k = d := by
    have e1 := hs.le
    have e2 := hs.lo
    have e3 := h.gt
    have e4 := h.first d (Int.le_refl _)
    false_or_by_contra
    have := h.kn.up ((d : Int) + 1) k (by omega)
    omega
  subst hk
  have ef : ∀ p : Int → Rat, deBR (kR a) ((a 0 : Rat) / 64) k p k = p 0 := fun p => by
    rw [deBR_first k p fun i h1 h2 => by unfold kR; rw [h.first i h2], show (k : Int) - k = 0 by omega]
  rw [ef, ef] at hN
  exact hN
theorem SpV.at1 {d n : Nat} {Kf : Int → FV} {P : Int → CV} {a : Int → Int} {x y : Int → Rat} {E : Rat} (h : SpV d n Kf P a x y E) {t : FV} (ht : Gd t (a n)) (hd : d ≤ 5) {k : Nat} (hs : SpanI a d n (a n) k) : Nea (deBF Kf t d P k) (x ((n : Int) - 1)) (y ((n : Int) - 1)) (E + (d : Rat) * (1 / 50000)) := by
  have hN := h.at ht (h.kn.up 0 n (by omega)) (Int.le_refl _) hd hs
  have hn1 := h.n1
  have hk : (k : Int) = (n : Int) - 1 := by
    rcases hs.lt with e | e
    · omega
    · have e2 := hs.hi
      have := h.kn.up ((k : Int) + 1) n (by omega)
      omega
  have hlt : kR a k < (a n : Rat) / 64 := by
    rw [hk]
    exact kR_lt h.lt
  have ef : ∀ p : Int → Rat, deBR (kR a) ((a n : Rat) / 64) d p k = p ((n : Int) - 1) := fun p => by
    rw [deBR_last hlt h.kn.mono d p fun i h1 h2 => by unfold kR; rw [h.last i (by omega)], hk]
  rw [ef, ef] at hN
  exact hN
end Go.Ab
namespace Go.Ab
def bern (τ : Rat) : Nat → Int → Rat
  | 0 => fun _ => 1
  | k + 1 => fun i => (if i < (k : Int) + 1 then bern τ k i else 0) * (1 - τ) + (if 0 < i then bern τ k (i - 1) else 0) * τ
def accF (T : Nat → FV) : Nat → FV
  | 0 => fv .f64 0
  | i + 1 => fbin .add .f64 (accF T i) (T i)
end Go.Ab
namespace Go.Ab
theorem sumQ_part (g : Nat → Rat) (lo c : Nat) : ∀ n, sumQ (fun i => if lo ≤ i ∧ i < lo + c then g (i - lo) else 0) n = sumQ g (min (n - lo) c)
  | 0 => by
    rw [show min (0 - lo) c = 0 by omega]
    rfl
  | n + 1 => by
    show sumQ (fun i => if lo ≤ i ∧ i < lo + c then g (i - lo) else 0) n + (if lo ≤ n ∧ n < lo + c then g (n - lo) else 0) = _
    rw [sumQ_part g lo c n]
    by_cases h : lo ≤ n ∧ n < lo + c
    · rw [if_pos h, show min (n - lo) c = n - lo by omega, show min (n + 1 - lo) c = n - lo + 1 by omega]
      rfl
    · rw [if_neg h, Rat.add_zero]
      congr 1
      omega
theorem sumQ_window (g : Nat → Rat) {lo c n : Nat} (h : lo + c ≤ n) : sumQ (fun i => if lo ≤ i ∧ i < lo + c then g (i - lo) else 0) n = sumQ g c := by
  rw [sumQ_part, show min (n - lo) c = c by omega]
theorem sumQ_congr {s t : Nat → Rat} : ∀ {n : Nat}, (∀ i, i < n → s i = t i) → sumQ s n = sumQ t n
  | 0, _ => rfl
  | n + 1, h => by
    show sumQ s n + s n = sumQ t n + t n
    rw [sumQ_congr fun i hi => h i (by omega), h n (by omega)]
/-- A sum in the wider floats. -/
theorem acc_near {T : Nat → FV} {s e : Nat → Rat} {n : Nat} (hn : n ≤ 12) (h : ∀ i, i < n → ∃ w, Vl .f64 (T i) w ∧ -(e i) ≤ w - s i ∧ w - s i ≤ e i) (hb : ∀ i, i < n → -6 ≤ s i ∧ s i ≤ 6) (he : ∀ i, i < n → 0 ≤ e i ∧ e i ≤ 1 / 100) :
    ∀ i, i ≤ n → ∃ r, Vl .f64 (accF T i) r ∧ (-(sumQ e i + (i : Rat) / 1000000000) ≤ r - sumQ s i ∧ r - sumQ s i ≤ sumQ e i + (i : Rat) / 1000000000) ∧ (-(6 * (i : Rat)) ≤ sumQ s i ∧ sumQ s i ≤ 6 * (i : Rat)) ∧ 0 ≤ sumQ e i ∧ sumQ e i ≤ (i : Rat) / 100
  | 0, _ => ⟨0, zvl .f64, by
      show -((0 : Rat) + ((0 : Nat) : Rat) / 1000000000) ≤ 0 - 0 ∧ (0 : Rat) - 0 ≤ 0 + ((0 : Nat) : Rat) / 1000000000
      rw [show ((0 : Nat) : Rat) = 0 from rfl]
      constructor <;> grind, by
      show -(6 * ((0 : Nat) : Rat)) ≤ 0 ∧ (0 : Rat) ≤ 6 * ((0 : Nat) : Rat)
      rw [show ((0 : Nat) : Rat) = 0 from rfl]
      constructor <;> grind, by
      show (0 : Rat) ≤ 0 ∧ (0 : Rat) ≤ ((0 : Nat) : Rat) / 100
      rw [show ((0 : Nat) : Rat) = 0 from rfl]
      constructor <;> grind⟩
  | i + 1, hi => by
    obtain ⟨r, vr, e1, e2, e3⟩ := acc_near hn h hb he i (by omega)
    obtain ⟨w, vw, w1, w2⟩ := h i (by omega)
    have b := hb i (by omega)
    have eb := he i (by omega)
    have ek : ((i + 1 : Nat) : Rat) = (i : Rat) + 1 := Rat.natCast_add i 1
    have i12 : (i : Rat) ≤ 12 := k_le (show i ≤ 12 by omega)
    have i0 : (0 : Rat) ≤ (i : Rat) := Rat.natCast_nonneg
    obtain ⟨q, vq, rq⟩ := vl_add vr vw (fit_64 (a := 100) (by grind) (by grind) (by grind))
    have rq := rnd_64 rq 100 (by grind) (by grind)
    refine ⟨q, vq, ?_, ?_, ?_⟩
    · rw [ek]
      show -(sumQ e i + e i + ((i : Rat) + 1) / 1000000000) ≤ q - (sumQ s i + s i) ∧ q - (sumQ s i + s i) ≤ sumQ e i + e i + ((i : Rat) + 1) / 1000000000
      constructor <;> grind
    · rw [ek]
      show -(6 * ((i : Rat) + 1)) ≤ sumQ s i + s i ∧ sumQ s i + s i ≤ 6 * ((i : Rat) + 1)
      constructor <;> grind
    · rw [ek]
      show 0 ≤ sumQ e i + e i ∧ sumQ e i + e i ≤ ((i : Rat) + 1) / 100
      constructor <;> grind
end Go.Ab
namespace Go.Ab
theorem eBd_4 : ∀ c, c ≤ 4 → 0 ≤ eBd c ∧ eBd c ≤ 1 / 12000 := by decide +kernel
/-- The share of a point among all. -/
def winR (K : Int → Rat) (k d : Nat) (t : Rat) (i : Nat) : Rat := if k - d ≤ i ∧ i < k - d + (d + 1) then shB K k t d (i - (k - d)) else 0
def winE (k d : Nat) (i : Nat) : Rat := if k - d ≤ i ∧ i < k - d + (d + 1) then eBd d else 0
section
variable {Kf : Int → FV} {a : Int → Int} {lo hi : Int} {t : FV} {τ : Int} {k d n : Nat}
theorem out_in {i : Nat} (hd : d ≤ k) (h : k - d ≤ i ∧ i < k - d + (d + 1)) : outB Kf t k d i = basB Kf t k d ((i - (k - d) : Nat) : Int) := by
  unfold outB
  rw [if_pos (by omega)]
  congr 1
  omega
theorem out_off {i : Nat} (hd : d ≤ k) (h : ¬ (k - d ≤ i ∧ i < k - d + (d + 1))) : outB Kf t k d i = fv .f32 0 := by
  unfold outB
  rw [if_neg (by omega)]
theorem out_near (h : SpanG Kf a lo hi t τ k) (hd : d ≤ k) (hd4 : d ≤ 4) (hlo : lo ≤ (k : Int) - d + 1) (hhi : (k : Int) + d ≤ hi) (i : Nat) :
    NeaF (outB Kf t k d i) (winR (kR a) k d ((τ : Rat) / 64) i) (winE k d i) ∧ 0 ≤ winR (kR a) k d ((τ : Rat) / 64) i ∧ winR (kR a) k d ((τ : Rat) / 64) i ≤ 1 ∧ 0 ≤ winE k d i ∧ winE k d i ≤ 1 / 12000 := by
  obtain ⟨e0, e1⟩ := eBd_4 d hd4
  unfold winR winE
  by_cases hw : k - d ≤ i ∧ i < k - d + (d + 1)
  · rw [if_pos hw, if_pos hw, out_in hd hw]
    exact ⟨bas_near h d (by omega) hlo hhi (i - (k - d)) (by omega), sh_nonneg h d _ (by omega), sh_le h (by omega), e0, e1⟩
  · rw [if_neg hw, if_neg hw, out_off hd hw]
    exact ⟨⟨0, zvl .f32, by grind, by grind⟩, by grind, by grind, by grind, by grind⟩
theorem win_sum (hd : d ≤ k) (hk : k + 1 ≤ n) (K : Int → Rat) (x : Rat) : sumQ (winR K k d x) n = 1 := by
  have := sumQ_window (fun i => shB K k x d i) (lo := k - d) (c := d + 1) (n := n) (by omega)
  rw [sh_one] at this
  exact this
theorem win_point (hd : d ≤ k) (hk : k + 1 ≤ n) (K : Int → Rat) (x : Rat) (p : Int → Rat) : sumQ (fun i => winR K k d x i * p i) n = deBR K x d p k := by
  rw [← sh_deB d p, ← sumQ_window (fun i => shB K k x d i * p ((k : Int) - d + i)) (lo := k - d) (c := d + 1) (n := n) (by omega)]
  refine sumQ_congr fun i _ => ?_
  unfold winR
  by_cases hw : k - d ≤ i ∧ i < k - d + (d + 1)
  · rw [if_pos hw, if_pos hw]
    congr 2
    omega
  · rw [if_neg hw, if_neg hw, Rat.zero_mul]
theorem winE_sum (hd : d ≤ k) (hk : k + 1 ≤ n) (hd4 : d ≤ 4) : 0 ≤ sumQ (winE k d) n ∧ sumQ (winE k d) n ≤ 5 / 12000 := by
  have e := sumQ_window (fun _ => eBd d) (lo := k - d) (c := d + 1) (n := n) (by omega)
  have e' : sumQ (winE k d) n = sumQ (fun _ => eBd d) (d + 1) := e
  rw [e']
  obtain ⟨e0, e1⟩ := eBd_4 d hd4
  have hc : ∀ m : Nat, sumQ (fun _ => eBd d) m = (m : Rat) * eBd d := by
    intro m
    induction m with
    | zero => show (0 : Rat) = ((0 : Nat) : Rat) * _; rw [show ((0 : Nat) : Rat) = 0 from rfl, Rat.zero_mul]
    | succ m ih =>
      show sumQ (fun _ => eBd d) m + eBd d = _
      rw [ih, show ((m + 1 : Nat) : Rat) = (m : Rat) + 1 from Rat.natCast_add m 1]
      grind
  rw [hc]
  have d5 : ((d + 1 : Nat) : Rat) ≤ 5 := k_le (show d + 1 ≤ 5 by omega)
  have d0 : (0 : Rat) ≤ ((d + 1 : Nat) : Rat) := Rat.natCast_nonneg
  have m1 := Rat.mul_nonneg d0 e0
  have m2 := Rat.mul_nonneg (show (0 : Rat) ≤ 5 - ((d + 1 : Nat) : Rat) by grind) e0
  constructor <;> grind
/-- The shares add up to 1, nearly. -/
theorem sum_near (h : SpanG Kf a lo hi t τ k) (hd : d ≤ k) (hd4 : d ≤ 4) (hlo : lo ≤ (k : Int) - d + 1) (hhi : (k : Int) + d ≤ hi) (hk : k + 1 ≤ n) (hn : n ≤ 12) :
    ∃ r, Vl .f64 (accF (fun i => fconv .f32 .f64 (outB Kf t k d i)) n) r ∧ -(1 / 2000) ≤ r - 1 ∧ r - 1 ≤ 1 / 2000 := by
  obtain ⟨r, vr, e1, _⟩ := acc_near (T := fun i => fconv .f32 .f64 (outB Kf t k d i)) (s := winR (kR a) k d ((τ : Rat) / 64)) (e := winE k d) hn (fun i _ => by
    obtain ⟨⟨u, vu, u1, u2⟩, _⟩ := out_near h hd hd4 hlo hhi i
    exact ⟨u, vl_wide vu, u1, u2⟩) (fun i _ => by obtain ⟨_, x0, x1, _⟩ := out_near h hd hd4 hlo hhi i; constructor <;> grind) (fun i _ => by obtain ⟨_, _, _, x0, x1⟩ := out_near h hd hd4 hlo hhi i; constructor <;> grind) n (Nat.le_refl _)
  rw [win_sum hd hk] at e1
  obtain ⟨w0, w1⟩ := winE_sum hd hk hd4
  have n12 : (n : Rat) ≤ 12 := k_le hn
  have n0 : (0 : Rat) ≤ (n : Rat) := Rat.natCast_nonneg
  exact ⟨r, vr, by grind, by grind⟩
end
end Go.Ab
namespace Go.Ab
theorem sumQ_lin (f : Nat → Rat) (b c : Rat) : ∀ n, sumQ (fun i => b * f i + c) n = b * sumQ f n + (n : Rat) * c
  | 0 => by
    show (0 : Rat) = b * 0 + ((0 : Nat) : Rat) * c
    rw [show ((0 : Nat) : Rat) = 0 from rfl]
    grind
  | n + 1 => by
    show sumQ (fun i => b * f i + c) n + (b * f n + c) = b * (sumQ f n + f n) + ((n + 1 : Nat) : Rat) * c
    rw [sumQ_lin f b c n, show ((n + 1 : Nat) : Rat) = (n : Rat) + 1 from Rat.natCast_add n 1]
    grind
section
variable {Kf : Int → FV} {a : Int → Int} {lo hi : Int} {t : FV} {τ : Int} {k d n : Nat}
theorem dot_near (h : SpanG Kf a lo hi t τ k) (hd : d ≤ k) (hd4 : d ≤ 4) (hlo : lo ≤ (k : Int) - d + 1) (hhi : (k : Int) + d ≤ hi) (hk : k + 1 ≤ n) (hn : n ≤ 12) {X : Nat → FV} {x : Int → Rat} (hX : ∀ i : Nat, i < n → Vl .f32 (X i) (x i)) (hx : ∀ i : Nat, i < n → -4 ≤ x i ∧ x i ≤ 4) :
    ∃ r, Vl .f64 (accF (fun i => fbin .mul .f64 (fconv .f32 .f64 (outB Kf t k d i)) (fconv .f32 .f64 (X i))) n) r ∧ -(1 / 400) ≤ r - deBR (kR a) ((τ : Rat) / 64) d x k ∧ r - deBR (kR a) ((τ : Rat) / 64) d x k ≤ 1 / 400 := by
  obtain ⟨r, vr, e1, _⟩ := acc_near (T := fun i => fbin .mul .f64 (fconv .f32 .f64 (outB Kf t k d i)) (fconv .f32 .f64 (X i))) (s := fun i => winR (kR a) k d ((τ : Rat) / 64) i * x i) (e := fun i => 4 * winE k d i + 1 / 1000000000) hn (fun i hi => by
    obtain ⟨⟨u, vu, u1, u2⟩, w0, w1, g0, g1⟩ := out_near h hd hd4 hlo hhi i
    obtain ⟨b1, b2⟩ := hx i hi
    have m1 := Rat.mul_nonneg (show (0 : Rat) ≤ winE k d i - (u - winR (kR a) k d ((τ : Rat) / 64) i) by grind) (show (0 : Rat) ≤ 4 - x i by grind)
    have m2 := Rat.mul_nonneg (show (0 : Rat) ≤ winE k d i - (u - winR (kR a) k d ((τ : Rat) / 64) i) by grind) (show (0 : Rat) ≤ 4 + x i by grind)
    have m3 := Rat.mul_nonneg (show (0 : Rat) ≤ winE k d i + (u - winR (kR a) k d ((τ : Rat) / 64) i) by grind) (show (0 : Rat) ≤ 4 - x i by grind)
    have m4 := Rat.mul_nonneg (show (0 : Rat) ≤ winE k d i + (u - winR (kR a) k d ((τ : Rat) / 64) i) by grind) (show (0 : Rat) ≤ 4 + x i by grind)
    have p1 := Rat.mul_nonneg w0 (show (0 : Rat) ≤ 4 - x i by grind)
    have p2 := Rat.mul_nonneg w0 (show (0 : Rat) ≤ 4 + x i by grind)
    obtain ⟨w, vw, rw_⟩ := vl_mul (vl_wide vu) (vl_wide (hX i hi)) (fit_64 (a := 100) (by grind) (by grind) (by grind))
    have rw_ := rnd_64 rw_ 100 (by grind) (by grind)
    exact ⟨w, vw, by grind, by grind⟩) (fun i hi => by
    obtain ⟨_, w0, w1, _⟩ := out_near h hd hd4 hlo hhi i
    obtain ⟨b1, b2⟩ := hx i hi
    have p1 := Rat.mul_nonneg w0 (show (0 : Rat) ≤ 4 - x i by grind)
    have p2 := Rat.mul_nonneg w0 (show (0 : Rat) ≤ 4 + x i by grind)
    constructor <;> grind) (fun i _ => by obtain ⟨_, _, _, g0, g1⟩ := out_near h hd hd4 hlo hhi i; constructor <;> grind) n (Nat.le_refl _)
  rw [win_point hd hk, sumQ_lin] at e1
  obtain ⟨w0, w1⟩ := winE_sum hd hk hd4
  have n12 : (n : Rat) ≤ 12 := k_le hn
  have n0 : (0 : Rat) ≤ (n : Rat) := Rat.natCast_nonneg
  exact ⟨r, vr, by grind, by grind⟩
end
end Go.Ab
namespace Go.Ab
/-- A number that is not too great. -/
def BigF (f : FV) (B : Rat) : Prop := ∃ u, Vl .f32 f u ∧ -B ≤ u ∧ u ≤ B
theorem bt_big {a b u : FV} {r B : Rat} (ha : BigF a B) (hb : BigF b B) (hu : Vl .f32 u r) (h0 : 0 ≤ r) (h1 : r ≤ 1) (hB : 0 ≤ B ∧ B ≤ 100) : BigF (btF a b u) (B + 1 / 100) := by
  obtain ⟨p, vp, p1, p2⟩ := ha
  obtain ⟨q, vq, q1, q2⟩ := hb
  obtain ⟨w, vw, hw, w1, w2⟩ := subR vl_o1 hu 1 (by grind) (by grind) (by decide +kernel)
  obtain ⟨w0, w3⟩ := rnd_btw hw (rep_zero .f32) (vl_rep vl_o1) (by grind) (by grind)
  have pw := prod_in (x := p) (r := w) (B := B) ⟨p1, p2⟩ w0 w3 hB.1
  have qr := prod_in (x := q) (r := r) (B := B) ⟨q1, q2⟩ h0 h1 hB.1
  have m1 := Rat.mul_nonneg w0 (show (0 : Rat) ≤ B - p by grind)
  have m2 := Rat.mul_nonneg w0 (show (0 : Rat) ≤ B + p by grind)
  have m3 := Rat.mul_nonneg h0 (show (0 : Rat) ≤ B - q by grind)
  have m4 := Rat.mul_nonneg h0 (show (0 : Rat) ≤ B + q by grind)
  have m5 := Rat.mul_nonneg hB.1 (show (0 : Rat) ≤ 1 / 8388608 + 1 / 100000000000000000000 - (w - (1 - r)) by grind)
  obtain ⟨m, vm, _, a1, a2⟩ := mulR vp vw 101 (by grind) (by grind) (by decide +kernel)
  obtain ⟨n, vn, _, b1, b2⟩ := mulR vq hu 101 (by grind) (by grind) (by decide +kernel)
  obtain ⟨s, vs, _, s1, s2⟩ := addR vm vn 210 (by grind) (by grind) (by decide +kernel)
  exact ⟨s, vs, by grind, by grind⟩
section
variable {Kf : Int → FV} {a : Int → Int} {lo hi : Int} {t : FV} {τ : Int}
theorem deB_big (hK : Kn Kf a lo hi) (ht : Gd t τ) {k : Int} (h1 : a k ≤ τ) (h2 : τ ≤ a (k + 1)) (h : a k < a (k + 1)) :
    ∀ (m : Nat) (P : Int → CV) (B : Rat), m ≤ 5 → lo ≤ k + 1 - m → k + m ≤ hi → (∀ i, k - m ≤ i → i ≤ k → BigF (P i).1 B ∧ BigF (P i).2 B) → 0 ≤ B → B + (m : Rat) * (1 / 100) ≤ 100 → BigF (deBF Kf t m P k).1 (B + (m : Rat) * (1 / 100)) ∧ BigF (deBF Kf t m P k).2 (B + (m : Rat) * (1 / 100))
  | 0, P, B, _, _, _, hP, _, _ => by
    rw [show B + ((0 : Nat) : Rat) * (1 / 100) = B by rw [show ((0 : Nat) : Rat) = 0 from rfl]; grind]
    exact hP k (by omega) (by omega)
  | m + 1, P, B, hm5, hlo, hhi, hP, b0, b1 => by
    have em : ((m + 1 : Nat) : Rat) = (m : Rat) + 1 := Rat.natCast_add m 1
    have m0 : (0 : Rat) ≤ (m : Rat) := Rat.natCast_nonneg
    rw [em] at b1 ⊢
    have hs : ∀ i, k - m ≤ i → i ≤ k → a i ≤ τ ∧ τ ≤ a (i + ((m : Int) + 1)) ∧ a i < a (i + ((m : Int) + 1)) := fun i c1 c2 => by
      have x1 := hK.up i k c2
      have x2 := hK.up (k + 1) (i + ((m : Int) + 1)) (by omega)
      omega
    have ih := deB_big hK ht h1 h2 h m (dBF Kf ((m : Int) + 1) t P) (B + 1 / 100) (by omega) (by omega) (by omega) (fun i c1 c2 => by
      obtain ⟨s1, s2, s3⟩ := hs i c1 c2
      obtain ⟨r, vr, r0, r1, _, _⟩ := uF_vl ht (hK.g i (by omega) (by omega)) (hK.g (i + ((m : Int) + 1)) (by omega) (by omega)) s1 s2 s3
      obtain ⟨x0, y0⟩ := hP (i - 1) (by omega) (by omega)
      obtain ⟨x1, y1⟩ := hP i (by omega) (by omega)
      exact ⟨bt_big x0 x1 vr r0 r1 ⟨b0, by grind⟩, bt_big y0 y1 vr r0 r1 ⟨b0, by grind⟩⟩) (by grind) (by grind)
    rw [show B + ((m : Rat) + 1) * (1 / 100) = B + 1 / 100 + (m : Rat) * (1 / 100) by grind]
    exact ih
end
theorem big_fin {p : CV} {A B : Rat} (h1 : BigF p.1 A) (h2 : BigF p.2 B) : finC p = true := by
  obtain ⟨u, vu, _⟩ := h1
  obtain ⟨v, vv, _⟩ := h2
  exact finC_vl vu vv
end Go.Ab
namespace Go.Ab
theorem DspOk.slp {y : Dsp} (h : DspOk y) {t : FV} {τ : Int} (ht : Gd t τ) (h1 : τ ≤ 64 * y.m y.n) {k : Nat} (hs : SpanI (fun i => 64 * y.m i) y.d y.n τ k) : finC (deBF (mF y.m) t (y.d - 1) (slpI (mF y.m) y.P y.d) k) = true := by
  have hG := h.spanG ht h1 hs
  obtain ⟨d1, d2⟩ := h.d
  obtain ⟨n1, n2⟩ := h.n
  have s1 := hs.lo
  have s2 := hs.hi
  have hp := h.p.pv
  have hw : 64 * y.m k + 64 ≤ 64 * y.m ((k : Int) + 1) := hG.w
  have key : ∀ j : Int, (k : Int) - y.d + 1 ≤ j → j ≤ k → BigF (slpI (mF y.m) y.P y.d j).1 40 ∧ BigF (slpI (mF y.m) y.P y.d j).2 40 := fun j c1 c2 => by
    have u1 : 64 * y.m j ≤ 64 * y.m k := h.spok.kn.up j k c2
    have u2 : 64 * y.m ((k : Int) + 1) ≤ 64 * y.m (j + y.d) := h.spok.kn.up ((k : Int) + 1) (j + y.d) (by omega)
    have g1 := h.spok.kn.g j (by omega) (by omega)
    have g2 := h.spok.kn.g (j + y.d) (by omega) (by omega)
    have vD := gd_sub g2 g1
    have c3 := Rat.intCast_le_intCast.2 (show 64 ≤ 64 * y.m (j + y.d) - 64 * y.m j by omega)
    have z64 : ((64 : Int) : Rat) = 64 := rfl
    rw [z64] at c3
    have vd := vl_ofInt .f32 (y.d : Int) (by have : FloatKind.f32.format.fractionBits = 23 := rfl; rw [this]; omega)
    have dl : ((y.d : Int) : Rat) ≤ 4 := by
      have := Rat.intCast_le_intCast.2 (show (y.d : Int) ≤ 4 by omega)
      exact this
    have d0 : 0 ≤ ((y.d : Int) : Rat) := by
      have := Rat.intCast_le_intCast.2 (show (0 : Int) ≤ (y.d : Int) by omega)
      exact this
    generalize hDD : ((64 * y.m (j + y.d) - 64 * y.m j : Int) : Rat) / 64 = D at vD
    have hD1 : 1 ≤ D := by rw [← hDD]; grind
    have hne : D ≠ 0 := fun e => by rw [e] at hD1; exact absurd hD1 (by decide)
    have hDi := Rat.mul_inv_cancel _ hne
    have hDp : 0 < D⁻¹ := Rat.inv_pos.2 (by grind)
    have hDl : D⁻¹ ≤ 1 := by
      have := Rat.mul_nonneg (show (0 : Rat) ≤ D - 1 by grind) (Rat.le_of_lt hDp)
      grind
    have q0 := Rat.mul_nonneg d0 (Rat.le_of_lt hDp)
    have q1 := Rat.mul_nonneg d0 (show (0 : Rat) ≤ 1 - D⁻¹ by grind)
    obtain ⟨q, vq, _, e1, e2⟩ := divR vd vD hne 4 (by rw [Rat.div_def]; grind) (by rw [Rat.div_def]; grind) (by decide +kernel)
    rw [Rat.div_def] at e1 e2
    have fin : ∀ {x y' : FV} {p r : Rat}, Vl .f32 x p → Vl .f32 y' r → (-4 ≤ p ∧ p ≤ 4) → (-4 ≤ r ∧ r ≤ 4) → BigF (fbin .mul .f32 (fbin .sub .f32 x y') (fbin .quo .f32 (some (FloatKind.f32.nearest (y.d : Int))) (fbin .sub .f32 (mF y.m (j + y.d)) (mF y.m j)))) 40 := by
      intro x y' p r vx vy bp br
      obtain ⟨s, vs, _, s1, s2⟩ := subR vx vy 8 (by grind) (by grind) (by decide +kernel)
      have m1 := Rat.mul_nonneg (show (0 : Rat) ≤ 9 - s by grind) (show (0 : Rat) ≤ q + 1 / 1000 by grind)
      have m2 := Rat.mul_nonneg (show (0 : Rat) ≤ 9 + s by grind) (show (0 : Rat) ≤ q + 1 / 1000 by grind)
      obtain ⟨w, vw, _, w1, w2⟩ := mulR vs vq 39 (by grind) (by grind) (by decide +kernel)
      exact ⟨w, vw, by grind, by grind⟩
    have i1 : j.toNat < y.n := by omega
    have i2 : (j - 1).toNat < y.n := by omega
    exact ⟨fin (hp.vx _ i1) (hp.vx _ i2) (hp.bx _ i1) (hp.bx _ i2), fin (hp.vy _ i1) (hp.vy _ i2) (hp.by_ _ i1) (hp.by_ _ i2)⟩
  have m5 : ((y.d - 1 : Nat) : Rat) ≤ 5 := k_le (show y.d - 1 ≤ 5 by omega)
  have hB := deB_big (lo := 0) (hi := (y.n : Int) + y.d) h.spok.kn ht hG.le hG.ge (by omega) (y.d - 1) (slpI (mF y.m) y.P y.d) 40 (by omega) (by omega) (by omega) (fun i c1 c2 => key i (by omega) c2) (by grind) (by grind)
  exact big_fin hB.1 hB.2
end Go.Ab
