/- Part 19 of the texts on which the law leans, joined: The curve that the law draws, walked. No conditions. -/
import Derived.Test.YtcbobcpbfdehhaaZar
namespace Go.Ab
open Go.Proofs
variable {R : World → Prop} [RStab R]
section
variable {P : Program} {t el : TypeId} {S : World → Prop} {N : Nat} {e : Env} {Q : Exit → Env → World → Prop} {ops : Array Oper} {l : List Oper} {dst : Option Tmp} {ty : TypeId} {pos : String} {after : Array Edge} {guard : Option (Nat × Bool)}
variable {w0 : World} {gs : List Nat} {H : List Ent}
theorem rs_storeC (k : Nat) (f' : Nat → CV) {g n c : Nat} {i : Int} {f : Nat → CV} {x : CV} {t : TypeId} {z : Value} {b : Nat} [hi : TyI P t z 1 b] {A X : Operand}
    (hA : e.ev A = some (.raw (.pointer (some ⟨g, i.toNat * 1, none⟩)))) (hx : e.ev X = some (cA x)) (hH : H[k]? = some (entC g n f c)) (h0 : 0 ≤ i ∧ i < n ∧ n ≤ c)
    (hf : f' i.toNat = x) (hf' : ∀ s, s < n → s ≠ i.toNat → f' s = f s)
    (hk : RS P N ops l e.keep (StR R w0 gs (H.set k (entC g n f' c))) Q) :
    RS P N ops (⟨none, .store t A X, ty, pos, after, none⟩ :: l) e (StR R w0 gs H) Q := by
  have hn : i.toNat < n := by omega
  refine rs_storeAt k (en := entC g n f c) (i := i.toNat * 1) hA hx rfl hH (by simp only; omega) ?_
  have : ({ entC g n f c with xs := (entC g n f c).xs.set (i.toNat * 1) (cA x) } : Ent) = entC g n f' c := by
    simp only [entC, Nat.mul_one]
    rw [← List.map_set, tabC_set hn hf hf']
  rw [this]
  exact hk
end
/-- A list that is moved as far as a place. -/
def mvP (P : Nat → CV) (q : CV) (k i : Nat) : CV := if i < k then addC2 (P i) q else P i
theorem mvP_all (P : Nat → CV) (q : CV) (n : Nat) : tabC n (mvP P q n) = tabC n fun i => addC2 (P i) q := tabC_congr fun i hi => if_pos hi
theorem mvP_zero (P : Nat → CV) (q : CV) (n : Nat) : tabC n (mvP P q 0) = tabC n P := tabC_congr fun i _ => if_neg (Nat.not_lt_zero i)
attribute [local irreducible] WS RS Done OpJ Then InBlock Round Ret Env.sub FnH
attribute [local irreducible] tab tabC
set_option maxRecDepth 100000 in
set_option maxHeartbeats 4000000 in
theorem l02Own_fn {n : Nat} {P : Nat → CV} {f : Int → FV} (hn : 1 ≤ n ∧ n ≤ 1000) :
    FnH (X := (Nat × Nat) × Nat × Nat) Try.prog 46 (fun w => [crvQ w n P f]) [] (fun y => crvOc y.1.1 y.1.2 n y.2.1 y.2.2) (fun y => [entC y.1.1 n P y.2.1, entF y.1.2 31 n f y.2.2]) (fun y => (n ≤ y.2.1 ∧ y.2.1 ≤ maxLen) ∧ n ≤ y.2.2 ∧ y.2.2 ≤ maxLen) := by
  have hone := one_cA n P
  have honeF : ((tab n f).map (AV.f .f32)).all isOne = true := by rw [List.all_map]; exact List.all_eq_true.2 fun _ _ => rfl
  have hlen : ((tabC n P).map cA).length = n * 1 := by rw [List.length_map, tabC_length, Nat.mul_one]
  have hlenF : ((tab n f).map (AV.f .f32)).length = n * 1 := by rw [List.length_map, tab_length, Nat.mul_one]
  refine fn_intro Try.func46 rfl Try.ntmps46 (fun _ => Nat.le_of_ble_eq_true rfl) fun w0 => ?_
  repeat first | refine zah ?_ | (refine zcr ?_; refine zcs ?_) | (refine zdb ?_; first | refine zdc ?_ | refine zdd ?_) | (refine zal rfl rfl ?_; intro g)
  obtain ⟨g2, hg2⟩ : ∃ x, x = g := ⟨g, rfl⟩
  subst hg2
  refine ws_drawP (ix := [1, 2, 3, 4, 7, 8, 9, 10]) (W := St w0 [] []) mixed (by decide +kernel) (fun _ h => h.weak (List.nil_sublist _)) ?_
  repeat first | refine zap rfl (zay rfl) ?_ | refine zav ?_ | refine zap rfl (opj_nilZ rfl) ?_ | refine zap rfl (opj_fieldZ rfl) ?_ | refine zap rfl (opj_loadZ rfl rfl rfl) ?_
  refine ⟨rfl, ?_⟩
  refine gp_name fun o ho Q' hQ => ?_
  have q0 := op_at (i := 0) ho rfl
  have q5 := op_at (i := 5) ho rfl
  have q6 := op_at (i := 6) ho rfl
  have q11 := op_at (i := 11) ho rfl
  have q12 := op_at (i := 12) ho rfl
  have q13 := op_at (i := 13) ho rfl
  refine gp_step [0, 6] (by rw [ho]; decide +kernel) fun x hx => ?_
  rcases (show x = 0 ∨ x = 6 by simpa using hx) with rfl | rfl
  · skip
    refine sp_lit (xs := []) q0 (by rw [ho]; decide +kernel) rfl rfl rfl rfl rfl rfl fun ga => cont_go (fun _ h => h.weak (List.nil_sublist _)) ?_
    refine gp_step [5, 6] (by rw [ho]; decide +kernel) fun x hx => ?_
    rcases (show x = 5 ∨ x = 6 by simpa using hx) with rfl | rfl
    · skip
      refine sp_append 0 (sz := 1) (m := n) (n := 0) (cap := 0) (xs := []) (ys := (tabC n P).map cA) q5 (by rw [ho]; decide +kernel) rfl (by omega) rfl ⟨_, rfl, fun w v hS h => hS.rd h.inv_q⟩ rfl ⟨rfl, Nat.le_refl _, Nat.zero_le _⟩ hlen hn.1 hone (by simp only [maxLen]; omega) (by omega) rfl fun a ca h1 h2 => ?_
      rw [Nat.zero_add] at h1 ⊢
      refine cont_go (fun _ h => h.weak (List.nil_sublist _)) ?_
      refine gp_step [6] (by rw [ho]; decide +kernel) fun x hx => ?_
      obtain rfl : x = 6 := by simpa using hx
      refine sp_lit (xs := []) q6 (by rw [ho]; decide +kernel) rfl rfl rfl rfl rfl rfl fun gb => cont_go (fun _ h => h.weak (List.nil_sublist _)) ?_
      refine gp_step [11] (by rw [ho]; decide +kernel) fun x hx => ?_
      obtain rfl : x = 11 := by simpa using hx
      refine sp_append 0 (sz := 1) (m := n) (n := 0) (cap := 0) (xs := []) (ys := (tab n f).map (AV.f .f32)) q11 (by rw [ho]; decide +kernel) rfl (by omega) rfl ⟨_, rfl, fun w v hS h => hS.rd h.inv_q⟩ rfl ⟨rfl, Nat.le_refl _, Nat.zero_le _⟩ hlenF hn.1 honeF (by simp only [maxLen]; omega) (by omega) rfl fun b cb h3 h4 => ?_
      rw [Nat.zero_add] at h3 ⊢
      simp only [Nat.mul_one, List.nil_append]
      refine cont_set (by rw [ho]; decide +kernel) rfl ?_
      refine gp_step [12] (by rw [ho]; decide +kernel) fun x hx => ?_
      obtain rfl : x = 12 := by simpa using hx
      refine sp_op q12 (by rw [ho]; decide +kernel) rfl (opj_buildV rfl rfl) rfl (cont_set rfl rfl ?_)
      refine gp_step [13] (by rw [ho]; decide +kernel) fun x hx => ?_
      obtain rfl : x = 13 := by simpa using hx
      refine sp_eff q13 (by rw [ho]; decide +kernel) (effj_storeAX 2 rfl rfl rfl rfl rfl rfl rfl rfl rfl) (cont_set rfl rfl ?_)
      refine gp_end (by rw [ho]; decide +kernel) ?_
      rw [hQ]
      repeat first | (refine zcr ?_; refine zcs ?_) | (refine zdb ?_; refine zdg ?_)
      refine Done.st (S' := St w0 [] [entC a n P ca, entF b 31 n f cb, ⟨g2, 27, [.raw (.slice (some ⟨a, 0, none⟩) n ca), .raw (.slice (some ⟨b, 0, none⟩) n cb)], 2⟩]) ?_ (fun w h => h.sel [1, 0, 2] (by decide) rfl)
      exact done_retX rfl rfl ((a, b), ca, cb) rfl (mt (mt mh)) rfl rfl rfl ⟨⟨h1, h2⟩, h3, h4⟩ (.cons_cons _ (.cons_cons _ (List.nil_sublist _)))
    · skip
      refine sp_lit (xs := []) q6 (by rw [ho]; decide +kernel) rfl rfl rfl rfl rfl rfl fun gb => cont_go (fun _ h => h.weak (List.nil_sublist _)) ?_
      refine gp_step [5] (by rw [ho]; decide +kernel) fun x hx => ?_
      obtain rfl : x = 5 := by simpa using hx
      refine sp_append 1 (sz := 1) (m := n) (n := 0) (cap := 0) (xs := []) (ys := (tabC n P).map cA) q5 (by rw [ho]; decide +kernel) rfl (by omega) rfl ⟨_, rfl, fun w v hS h => hS.rd h.inv_q⟩ rfl ⟨rfl, Nat.le_refl _, Nat.zero_le _⟩ hlen hn.1 hone (by simp only [maxLen]; omega) (by omega) rfl fun a ca h1 h2 => ?_
      rw [Nat.zero_add] at h1 ⊢
      refine cont_go (fun _ h => h.weak (List.nil_sublist _)) ?_
      refine gp_step [11] (by rw [ho]; decide +kernel) fun x hx => ?_
      obtain rfl : x = 11 := by simpa using hx
      refine sp_append 0 (sz := 1) (m := n) (n := 0) (cap := 0) (xs := []) (ys := (tab n f).map (AV.f .f32)) q11 (by rw [ho]; decide +kernel) rfl (by omega) rfl ⟨_, rfl, fun w v hS h => hS.rd h.inv_q⟩ rfl ⟨rfl, Nat.le_refl _, Nat.zero_le _⟩ hlenF hn.1 honeF (by simp only [maxLen]; omega) (by omega) rfl fun b cb h3 h4 => ?_
      rw [Nat.zero_add] at h3 ⊢
      simp only [Nat.mul_one, List.nil_append]
      refine cont_set (by rw [ho]; decide +kernel) rfl ?_
      refine gp_step [12] (by rw [ho]; decide +kernel) fun x hx => ?_
      obtain rfl : x = 12 := by simpa using hx
      refine sp_op q12 (by rw [ho]; decide +kernel) rfl (opj_buildV rfl rfl) rfl (cont_set rfl rfl ?_)
      refine gp_step [13] (by rw [ho]; decide +kernel) fun x hx => ?_
      obtain rfl : x = 13 := by simpa using hx
      refine sp_eff q13 (by rw [ho]; decide +kernel) (effj_storeAX 2 rfl rfl rfl rfl rfl rfl rfl rfl rfl) (cont_set rfl rfl ?_)
      refine gp_end (by rw [ho]; decide +kernel) ?_
      rw [hQ]
      repeat first | (refine zcr ?_; refine zcs ?_) | (refine zdb ?_; refine zdg ?_)
      refine Done.st (S' := St w0 [] [entC a n P ca, entF b 31 n f cb, ⟨g2, 27, [.raw (.slice (some ⟨a, 0, none⟩) n ca), .raw (.slice (some ⟨b, 0, none⟩) n cb)], 2⟩]) ?_ (fun w h => h.sel [1, 0, 2] (by decide) rfl)
      exact done_retX rfl rfl ((a, b), ca, cb) rfl (mt (mt mh)) rfl rfl rfl ⟨⟨h1, h2⟩, h3, h4⟩ (.cons_cons _ (.cons_cons _ (List.nil_sublist _)))
  · skip
    refine sp_lit (xs := []) q6 (by rw [ho]; decide +kernel) rfl rfl rfl rfl rfl rfl fun gb => cont_go (fun _ h => h.weak (List.nil_sublist _)) ?_
    refine gp_step [0] (by rw [ho]; decide +kernel) fun x hx => ?_
    obtain rfl : x = 0 := by simpa using hx
    refine sp_lit (xs := []) q0 (by rw [ho]; decide +kernel) rfl rfl rfl rfl rfl rfl fun ga => cont_go (fun _ h => h.weak (List.nil_sublist _)) ?_
    refine gp_step [5] (by rw [ho]; decide +kernel) fun x hx => ?_
    obtain rfl : x = 5 := by simpa using hx
    refine sp_append 0 (sz := 1) (m := n) (n := 0) (cap := 0) (xs := []) (ys := (tabC n P).map cA) q5 (by rw [ho]; decide +kernel) rfl (by omega) rfl ⟨_, rfl, fun w v hS h => hS.rd h.inv_q⟩ rfl ⟨rfl, Nat.le_refl _, Nat.zero_le _⟩ hlen hn.1 hone (by simp only [maxLen]; omega) (by omega) rfl fun a ca h1 h2 => ?_
    rw [Nat.zero_add] at h1 ⊢
    refine cont_go (fun _ h => h.weak (List.nil_sublist _)) ?_
    refine gp_step [11] (by rw [ho]; decide +kernel) fun x hx => ?_
    obtain rfl : x = 11 := by simpa using hx
    refine sp_append 1 (sz := 1) (m := n) (n := 0) (cap := 0) (xs := []) (ys := (tab n f).map (AV.f .f32)) q11 (by rw [ho]; decide +kernel) rfl (by omega) rfl ⟨_, rfl, fun w v hS h => hS.rd h.inv_q⟩ rfl ⟨rfl, Nat.le_refl _, Nat.zero_le _⟩ hlenF hn.1 honeF (by simp only [maxLen]; omega) (by omega) rfl fun b cb h3 h4 => ?_
    rw [Nat.zero_add] at h3 ⊢
    simp only [Nat.mul_one, List.nil_append]
    refine cont_set (by rw [ho]; decide +kernel) rfl ?_
    refine gp_step [12] (by rw [ho]; decide +kernel) fun x hx => ?_
    obtain rfl : x = 12 := by simpa using hx
    refine sp_op q12 (by rw [ho]; decide +kernel) rfl (opj_buildV rfl rfl) rfl (cont_set rfl rfl ?_)
    refine gp_step [13] (by rw [ho]; decide +kernel) fun x hx => ?_
    obtain rfl : x = 13 := by simpa using hx
    refine sp_eff q13 (by rw [ho]; decide +kernel) (effj_storeAX 2 rfl rfl rfl rfl rfl rfl rfl rfl rfl) (cont_set rfl rfl ?_)
    refine gp_end (by rw [ho]; decide +kernel) ?_
    rw [hQ]
    repeat first | (refine zcr ?_; refine zcs ?_) | (refine zdb ?_; refine zdg ?_)
    exact done_retX rfl rfl ((a, b), ca, cb) rfl (mt (mt mh)) rfl rfl rfl ⟨⟨h1, h2⟩, h3, h4⟩ (.cons_cons _ (.cons_cons _ (List.nil_sublist _)))
theorem l02Give_yes {n a b ca cb : Nat} {P : Nat → CV} {f : Int → FV} (hn : 2 ≤ n ∧ n ≤ 8) (hP : (tabC n P).all finC = true) (hf : (tab n f).all aboveB = true) (h1 : n ≤ ca ∧ ca ≤ maxLen) (h2 : n ≤ cb ∧ cb ≤ maxLen) :
    FnH (X := Unit) Try.prog 47 (fun _ => [crvOc a b n ca cb]) [entF b 31 n f cb, entC a n P ca] (fun _ => .tup [crvOc a b n ca cb, .raw (.bool true)]) (fun _ => [entF b 31 n f cb, entC a n P ca]) (fun _ => True) := by
  have hI := l02Is_yes hn hP hf
  refine fn_intro Try.func47 rfl Try.ntmps47 (fun _ => Nat.le_of_ble_eq_true rfl) fun w0 => ?_
  repeat first | refine zaa rfl (zaz rfl) ?_ | (refine zae ?_; refine zaa rfl (zcg rfl rfl (by (repeat (first | exact mh | refine mt ?_)); done) rfl rfl) ?_) | refine zaa rfl (zcc rfl) ?_ | refine zah ?_ | (refine zcr ?_; refine zcs ?_) | (refine zdb ?_; first | refine zdc ?_ | refine zdd ?_ | refine zdf ?_ | refine zdg ?_ | refine zdj rfl ?_) | (refine zak rfl rfl rfl ?_; intro g) | (refine zal rfl rfl ?_; intro g) | (refine zag ?_; refine zan 0 rfl rfl rfl rfl rfl rfl rfl rfl rfl ?_) | refine zaa rfl (zci rfl rfl hI (Takes.crvPOc (mt mh) (mt (mt (mt mh))) (mt (mt mh)) h1 h2 Takes.nil)) ?_
  exact done_retCX rfl rfl () rfl rfl mh rfl rfl rfl trivial (.cons _ (.cons _ (List.Sublist.refl _)))
theorem specPlainCurve_fn {n : Nat} {P : Nat → CV} (hn : 2 ≤ n ∧ n ≤ 8) (hP : (tabC n P).all finC = true) :
    FnH (X := (Nat × Nat) × Nat × Nat) Try.prog 15 (fun w => [slC w (tabC n P)]) [] (fun y => .tup [crvOc y.1.1 y.1.2 n y.2.1 y.2.2, .raw (.bool true)]) (fun y => [entF y.1.2 31 n (fun _ => one1) y.2.2, entC y.1.1 n P y.2.1]) (fun y => (n ≤ y.2.1 ∧ y.2.1 ≤ maxLen) ∧ n ≤ y.2.2 ∧ y.2.2 ≤ maxLen) := by
  have hS := specPlain_fn (n := n) (P := P) (by omega)
  refine fn_intro Try.func15 rfl Try.ntmps15 (fun _ => Nat.le_of_ble_eq_true rfl) fun w0 => ?_
  repeat first | refine zaa rfl (zay rfl) ?_ | refine zaa rfl (zaz rfl) ?_ | (refine zac ?_; refine zaa rfl (zbg rfl rfl) ?_) | (refine zad ?_; refine zaa rfl (opj_lenC rfl) ?_) | refine zah ?_ | (refine zcr ?_; refine zcs ?_) | (refine zdb ?_; first | refine zdc ?_ | refine zdd ?_) | (refine zal rfl rfl ?_; intro g)
  rw [decide_eq_false (show ¬ (8 : Int) < (n : Int) by omega)]
  repeat first | refine zaa rfl (zay rfl) ?_ | (refine zcr ?_; refine zcs ?_) | (refine zdb ?_; first | refine zdc ?_ | refine zdd ?_ | refine zdf ?_ | refine zdj rfl ?_)
  refine rs_callM3 hS rfl rfl ?_ rfl ?_
  · (repeat (first | exact Takes.nil | refine Takes.sl ?_ | refine Takes.lit ?_ | refine Takes.fa ?_ | refine Takes.fc ?_ | refine Takes.net ?_ | (refine Takes.ownE ?_ ?_ ?_ ?_ ?_; (focus (exact ⟨_, _, (by (repeat (first | exact mh | refine mt ?_)); done)⟩)); (focus (simp; done)); (focus omega); (focus (simp only [maxLen]; omega))) | refine Takes.same ?_)); done
  rintro ⟨⟨a, b⟩, ca, cb⟩ ⟨h1, h2⟩
  dsimp only at h1 h2 ⊢
  refine rs_call (pre := [entF b 31 n (fun _ => one1) cb, entC a n P ca]) (l02Give_yes hn hP (wts_one n).above h1 h2) rfl rfl (Takes.same Takes.nil) rfl fun _ _ => ?_
  repeat first | refine zaa rfl (zaz rfl) ?_ | refine zaa rfl (zbz rfl rfl) ?_ | refine zah ?_ | (refine zcr ?_; refine zcs ?_) | (refine zdb ?_; refine zdg ?_) | (refine zag ?_; refine zan 2 rfl rfl rfl rfl rfl rfl rfl rfl rfl ?_)
  exact done_retCX rfl rfl ((a, b), ca, cb) rfl rfl (mt (mt mh)) rfl rfl rfl ⟨h1, h2⟩ (.cons_cons _ (.cons_cons _ (List.nil_sublist _)))
set_option maxRecDepth 100000 in
set_option maxHeartbeats 4000000 in
theorem specMoveCurve_fn {n : Nat} {P : Nat → CV} {f : Int → FV} {q : CV} (hn : 2 ≤ n ∧ n ≤ 8) (hP : (tabC n P).all finC = true) (hf : (tab n f).all aboveB = true) (hq : finC q = true) (hM : (tabC n fun i => addC2 (P i) q).all finC = true) :
    FnH (X := (Nat × Nat) × Nat × Nat) Try.prog 14 (fun w => [crvA w n P f, cA q]) [] (fun y => .tup [crvOc y.1.1 y.1.2 n y.2.1 y.2.2, .raw (.bool true)]) (fun y => [entF y.1.2 31 n f y.2.2, entC y.1.1 n (fun i => addC2 (P i) q) y.2.1]) (fun y => (n ≤ y.2.1 ∧ y.2.1 ≤ maxLen) ∧ n ≤ y.2.2 ∧ y.2.2 ≤ maxLen) := by
  have hI := l02Is_yes hn hP hf
  have hF := l01CFinite_fn q
  rw [hq] at hF
  have hO := l02Own_fn (n := n) (P := P) (f := f) (by omega)
  refine fn_intro Try.func14 rfl Try.ntmps14 (fun _ => Nat.le_of_ble_eq_true rfl) fun w0 => ?_
  repeat first | refine zai rfl rfl ?_ | refine zaa rfl (zay rfl) ?_ | refine zaa rfl (zaz rfl) ?_ | (refine zad ?_; (refine zaa rfl (zci rfl rfl (hF) ?_) ?_; (focus ((repeat (first | exact Takes.nil | refine Takes.sl ?_ | refine Takes.lit ?_ | refine Takes.fa ?_ | refine Takes.fc ?_ | refine Takes.net ?_ | (refine Takes.ownE ?_ ?_ ?_ ?_ ?_; (focus (exact ⟨_, _, (by (repeat (first | exact mh | refine mt ?_)); done)⟩)); (focus (simp; done)); (focus omega); (focus (simp only [maxLen]; omega))) | refine Takes.same ?_)); done)))) | refine zaa rfl (zcb rfl rfl) ?_ | refine zaa rfl (zcc rfl) ?_ | refine zah ?_ | (refine zcr ?_; refine zcs ?_) | (refine zdb ?_; first | refine zdc ?_ | refine zdd ?_ | refine zdf ?_ | refine zdj rfl ?_) | (refine zak rfl rfl rfl ?_; intro g) | (refine zal rfl rfl ?_; intro g) | refine zaa rfl (zci rfl rfl hI (Takes.crvPt (mt mh) Takes.nil)) ?_
  refine rs_callM3 hO rfl rfl (Takes.crvZi (mt mh) Takes.nil) rfl ?_
  rintro ⟨⟨a, b⟩, ca, cb⟩ ⟨⟨h1, h2⟩, h3, h4⟩
  dsimp only at h1 h2 h3 h4 ⊢
  rw [show entC a n P ca = entC a n (mvP P q 0) ca by unfold entC; rw [mvP_zero]]
  repeat first | refine zaa rfl (zaz rfl) ?_ | refine zah ?_ | (refine zcr ?_; refine zcs ?_) | (refine zdb ?_; first | refine zdc ?_ | refine zdd ?_ | refine zde ?_) | (refine zal rfl rfl ?_; intro g) | (refine zag ?_; refine zan 0 rfl rfl rfl rfl rfl rfl rfl rfl rfl ?_)
  rename_i g2 g4
  obtain ⟨g6, hg6⟩ : ∃ x, x = g := ⟨g, rfl⟩
  subst hg6
  refine ws_loop (ι := Nat) (fun k => [(1, cA q), (2, .raw (.pointer (some ⟨g2, 0, none⟩))), (4, .raw (.pointer (some ⟨g4, 0, none⟩))), (6, .raw (.pointer (some ⟨g6, 0, none⟩))), (7, .raw (.int .i64 (k : Nat)))])
    (fun k => St w0 [] [⟨g6, 27, [.raw (.slice (some ⟨a, 0, none⟩) n ca), .raw (.slice (some ⟨b, 0, none⟩) n cb)], 2⟩, entC a n (mvP P q k) ca, entF b 31 n f cb, ⟨g4, 27, [.raw (.slice none 0 0), .raw (.slice none 0 0)], 2⟩, ⟨g2, 27, [slC w0 (tabC n P), AV.sl w0 1 ((tab n f).map (AV.f .f32))], 2⟩])
    (fun k => k ≤ n) (fun k => n - k) 0 (Nat.zero_le _) ?_ (fun w h => h.sel [0, 1, 2, 3, 4] (by decide) rfl) (fun k hk => ?_)
  · (repeat (first | exact Env.sub_nil _ | refine Env.sub_cons rfl ?_))
  repeat first | refine zaa rfl (zay rfl) ?_ | (refine zac ?_; refine zaa rfl (zbe rfl rfl) ?_) | (refine zad ?_; refine zaa rfl (zbn rfl) ?_) | (refine zae ?_; refine zaa rfl (zcf rfl rfl (by (repeat (first | exact mh | refine mt ?_)); done) rfl) ?_) | refine zaa rfl (zcd rfl) ?_ | refine zah ?_ | (refine zcr ?_; refine zcs ?_) | (refine zdb ?_; first | refine zdc ?_ | refine zdd ?_)
  refine ws_cond rfl (fun hd => ?_) (fun hd => ?_)
  case' refine_2 =>
    have hkn : k = n := by have := of_decide_eq_false hd; omega
    subst hkn
    rw [show entC a k (mvP P q k) ca = entC a k (fun i => addC2 (P i) q) ca by unfold entC; rw [mvP_all]]
    repeat first | (refine zae ?_; refine zaa rfl (zcg rfl rfl (by (repeat (first | exact mh | refine mt ?_)); done) rfl rfl) ?_) | (refine zcr ?_; first | refine zcs ?_ | refine zcu ?_ | refine zcx ?_ | refine zda ?_) | (refine zdb ?_; first | refine zdc ?_ | refine zdd ?_ | refine zdh ?_)
    refine RS.weakS (e' := [(35, crvOc a b k ca cb), (4, .raw (.pointer (some ⟨g4, 0, none⟩)))]) (RS.st (S' := StR (fun _ => True) w0 [] ([entF b 31 k f cb, entC a k (fun i => addC2 (P i) q) ca] ++ [⟨g4, 27, [.raw (.slice none 0 0), .raw (.slice none 0 0)], 2⟩])) ?_ (fun w h => h.sel [2, 1, 3] (by decide) rfl)) (by (repeat (first | exact Env.sub_nil _ | refine Env.sub_cons rfl ?_)))
    refine rs_call (l02Give_yes hn hM hf ⟨h1, h2⟩ ⟨h3, h4⟩) rfl rfl (Takes.same Takes.nil) rfl fun _ _ => ?_
    repeat first | refine zaa rfl (zaz rfl) ?_ | refine zaa rfl (zbz rfl rfl) ?_ | refine zah ?_ | (refine zcr ?_; refine zcs ?_) | (refine zdb ?_; refine zdg ?_) | (refine zag ?_; refine zan 2 rfl rfl rfl rfl rfl rfl rfl rfl rfl ?_)
    exact done_retCX rfl rfl ((a, b), ca, cb) rfl rfl (mt (mt mh)) rfl rfl rfl ⟨⟨h1, h2⟩, h3, h4⟩ (.cons_cons _ (.cons_cons _ (List.nil_sublist _)))
  have hlt : (k : Int) < (n : Int) := of_decide_eq_true hd
  clear hd
  repeat first | (refine zcr ?_; refine zcs ?_) | (refine zdb ?_; first | refine zdc ?_ | refine zde ?_ | refine zdf ?_)
  refine ws_draw (n := 11) mixed (by decide +kernel) ?_
  repeat first | refine zap rfl (zay rfl) ?_ | (refine zat ?_; first | refine zap rfl (zcf rfl rfl (by (repeat (first | exact mh | refine mt ?_)); done) rfl) ?_ | refine zap rfl (zbu rfl rfl) ?_) | (refine zau ?_; first | refine zap rfl (opj_indexC rfl rfl (by omega) (by omega)) ?_ | refine zap rfl (zbw rfl rfl (by omega) (by omega)) ?_) | refine zap rfl (zcd rfl) ?_ | refine zav ?_ | refine zap rfl (opj_cadd rfl rfl) ?_
  refine rs_storeC 1 (mvP P q (k + 1)) rfl rfl rfl ⟨by omega, hlt, h1⟩ (if_pos (by omega)) (fun s h1 h2 => ?_) ?_
  · unfold mvP
    have : s ≠ k := h2
    by_cases hs : s < k
    · rw [if_pos hs, if_pos (by omega)]
    · rw [if_neg hs, if_neg (by omega)]
  repeat first | refine zaa rfl (zay rfl) ?_ | refine zaa rfl (zaz rfl) ?_ | (refine zac ?_; refine zaa rfl (zbb rfl rfl (by omega)) ?_) | refine zah ?_ | (refine zcr ?_; first | refine zcs ?_ | refine zcv ?_) | (refine zdb ?_; refine zdd ?_)
  refine done_round (k + 1) (by omega) (by omega) ?_ (fun w h => h)
  rw [show ((k + 1 : Nat) : Int) = (k : Int) + 1 by omega]
  (repeat (first | exact Env.sub_nil _ | refine Env.sub_cons rfl ?_))
end Go.Ab
namespace Go.Ab
section
variable {n : Nat} {P : Nat → CV} {a b : Nat → Int} {t : FV} {τ : Rat}
theorem DqOk.at (h : DqOk n P a b) (hT : Tm t τ) (hn : 2 ≤ n ∧ n ≤ 5) : finC (pointP n P (fun _ => one1) t) = true ∧ ∃ x y, Vl .f32 (pointP n P (fun _ => one1) t).1 x ∧ Vl .f32 (pointP n P (fun _ => one1) t).2 y ∧ (-6 ≤ x ∧ x ≤ 6) ∧ (-6 ≤ y ∧ y ≤ 6) := by
  have hN := point_nea (wts_one n) hT (show (5 : Rat) ≤ 39 by decide +kernel) hn (h.pv hn)
  have hx := cx_bound (n := n) (wts_one n) hT hn (h.pv hn).bx
  have hy := cx_bound (n := n) (wts_one n) hT hn (h.pv hn).by_
  have hf := hN.fin
  obtain ⟨u, v, vu, vv, hu, hv⟩ := hN
  exact ⟨hf, u, v, vu, vv, by constructor <;> grind, by constructor <;> grind⟩
end
end Go.Ab
namespace Go.Ab
/-- A part of a curve, one coordinate of it. -/
def Prt (n : Nat) (x : Nat → Rat) (D : Rat) (J r i : Nat) (X : Nat → FV) : Prop :=
  ∃ j, j + r = J ∧ ∃ y, Hv n X y ((j : Rat) * (4 * eH)) ∧ Ds n y (D / ((2 ^ j : Nat) : Rat)) ∧ ∀ s, Bz n y s = Bz n x (((i : Rat) + s) / ((2 ^ j : Nat) : Rat))
theorem cast1 (j : Nat) : ((j + 1 : Nat) : Rat) = (j : Rat) + 1 := by rw [Rat.natCast_add]; rfl
theorem cast2 (i : Nat) : ((2 * i : Nat) : Rat) = 2 * (i : Rat) := by rw [Rat.natCast_mul]; rfl
theorem castP (j : Nat) : ((2 ^ (j + 1) : Nat) : Rat) = 2 * ((2 ^ j : Nat) : Rat) := by rw [Nat.pow_succ, Nat.mul_comm, cast2]
theorem Prt.start {n J : Nat} {X : Nat → FV} {x : Nat → Rat} {D : Rat} (h : ∀ i, i < n → Vl .f32 (X i) (x i)) (hb : ∀ i, i < n → -128 ≤ x i ∧ x i ≤ 128) (hd : Ds n x D) : Prt n x D J J 0 X := by
  have e0 : ((0 : Nat) : Rat) = 0 := rfl
  have e1 : ((2 ^ 0 : Nat) : Rat) = 1 := rfl
  refine ⟨0, by omega, x, fun i hi => ⟨x i, h i hi, hb i hi, ?_, ?_⟩, ?_, fun s => ?_⟩
  · rw [e0]; grind
  · rw [e0]; grind
  · rw [e1, show D / 1 = D by grind]; exact hd
  · rw [e0, e1, show (0 + s) / 1 = s by grind]
theorem Prt.left {n J r i : Nat} {X : Nat → FV} {x : Nat → Rat} {D : Rat} (h : Prt n x D J (r + 1) i X) (hn : 2 ≤ n ∧ n ≤ 5) : Prt n x D J r (2 * i) (fun k => hrowF X k 0) := by
  obtain ⟨j, hj, y, hv, hd, hb⟩ := h
  refine ⟨j + 1, by omega, leftR y, fun k hk => ?_, ?_, fun s => ?_⟩
  · obtain ⟨r, vr, br, h1, h2⟩ := hv.row hn.2 k 0 (by omega)
    rw [cast1]
    exact ⟨r, vr, br, by show _ ≤ r - hrowR y k 0; grind, by show r - hrowR y k 0 ≤ _; grind⟩
  · rw [castP, show D / (2 * ((2 ^ j : Nat) : Rat)) = D / ((2 ^ j : Nat) : Rat) / 2 by grind]
    exact left_ds hd
  · rw [bz_left hn, hb, castP, cast2]
    exact congrArg _ (by grind)
theorem Prt.right {n J r i : Nat} {X : Nat → FV} {x : Nat → Rat} {D : Rat} (h : Prt n x D J (r + 1) i X) (hn : 2 ≤ n ∧ n ≤ 5) : Prt n x D J r (2 * i + 1) (fun k => hrowF X (n - 1 - k) k) := by
  obtain ⟨j, hj, y, hv, hd, hb⟩ := h
  refine ⟨j + 1, by omega, rightR n y, fun k hk => ?_, ?_, fun s => ?_⟩
  · obtain ⟨r, vr, br, h1, h2⟩ := hv.row hn.2 (n - 1 - k) k (by omega)
    rw [cast1]
    exact ⟨r, vr, br, by show _ ≤ r - hrowR y (n - 1 - k) k; grind, by show r - hrowR y (n - 1 - k) k ≤ _; grind⟩
  · rw [castP, show D / (2 * ((2 ^ j : Nat) : Rat)) = D / ((2 ^ j : Nat) : Rat) / 2 by grind]
    exact right_ds hd
  · rw [bz_right hn, hb, castP, cast1, cast2]
    exact congrArg _ (by grind)
/-- The middle time of a part. -/
def mdT (J i : Nat) : Rat := ((2 * i + 1 : Nat) : Rat) / ((2 ^ (J + 1) : Nat) : Rat)
theorem Prt.leaf {n J i : Nat} {X : Nat → FV} {x : Nat → Rat} {D W : Rat} (h : Prt n x D J 0 i X) (hn : 2 ≤ n ∧ n ≤ 5) (hD : 0 ≤ D) (hW : 4 * (D / ((2 ^ J : Nat) : Rat)) + (J : Rat) * (4 * eH) ≤ W) :
    ∀ k, k < n → ∃ r, Vl .f32 (X k) r ∧ -W ≤ r - Bz n x (mdT J i) ∧ r - Bz n x (mdT J i) ≤ W := by
  obtain ⟨j, hj, y, hv, hd, hb⟩ := h
  obtain rfl : j = J := by omega
  intro k hk
  obtain ⟨r, vr, br, h1, h2⟩ := hv k hk
  have p0 : (0 : Rat) < ((2 ^ j : Nat) : Rat) := by
    have := k_le (show 1 ≤ 2 ^ j from Nat.one_le_two_pow)
    have e1 : ((1 : Nat) : Rat) = 1 := rfl
    grind
  have hD2 : 0 ≤ D / ((2 ^ j : Nat) : Rat) := le_div_of p0 (by grind)
  have hm := bz_mid hn y (c := y k) (W := 4 * (D / ((2 ^ j : Nat) : Rat))) (fun i hi => hd.far hD2 hn.2 i k hi hk)
  rw [hb] at hm
  have e : ((i : Rat) + 1 / 2) / ((2 ^ j : Nat) : Rat) = mdT j i := by
    unfold mdT
    rw [castP, cast1, cast2]
    grind
  rw [e] at hm
  exact ⟨r, vr, by grind, by grind⟩
/-- A curve's part, both coordinates. -/
def PrC (n : Nat) (x y : Nat → Rat) (J r i : Nat) (P : Nat → CV) : Prop := Prt n x (7 / 4) J r i (cx1 P) ∧ Prt n y 4 J r i (cx2 P)
theorem cx1_left (P : Nat → CV) : cx1 (leftP P) = fun k => hrowF (cx1 P) k 0 := funext fun k => hrow_1 P k 0
theorem cx2_left (P : Nat → CV) : cx2 (leftP P) = fun k => hrowF (cx2 P) k 0 := funext fun k => hrow_2 P k 0
theorem cx1_right (n : Nat) (P : Nat → CV) : cx1 (rightP n P) = fun k => hrowF (cx1 P) (n - 1 - k) k := funext fun k => hrow_1 P (n - 1 - k) k
theorem cx2_right (n : Nat) (P : Nat → CV) : cx2 (rightP n P) = fun k => hrowF (cx2 P) (n - 1 - k) k := funext fun k => hrow_2 P (n - 1 - k) k
theorem prC_step {n J : Nat} {x y : Nat → Rat} (hn : 2 ≤ n ∧ n ≤ 5) (r i : Nat) (P : Nat → CV) (h : PrC n x y J (r + 1) i P) : PrC n x y J r (2 * i) (leftP P) ∧ PrC n x y J r (2 * i + 1) (rightP n P) := by
  unfold PrC at h ⊢
  rw [cx1_left, cx2_left, cx1_right, cx2_right]
  exact ⟨⟨h.1.left hn, h.2.left hn⟩, h.1.right hn, h.2.right hn⟩
section
variable {n : Nat} {P : Nat → CV} {a b : Nat → Int}
theorem DqOk.prC (h : DqOk n P a b) (hn : 2 ≤ n ∧ n ≤ 5) (J : Nat) : PrC n (quR a) (quR b) J J 0 P := by
  have hp := h.pv hn
  have hx := hp.vx
  have hy := hp.vy
  refine ⟨Prt.start hx (fun i hi => ?_) (fun i hi => ?_), Prt.start hy (fun i hi => ?_) (fun i hi => ?_)⟩
  · have := hp.bx i hi; constructor <;> grind
  · have h1 := h.a i (by omega)
    have h2 := h.a (i + 1) (by omega)
    have h3 := int_rat_bd (a := a (i + 1) - a i) (B := 7) (by omega)
    have e : (((a (i + 1) - a i : Int)) : Rat) = (a (i + 1) : Rat) - (a i : Rat) := by rw [Rat.intCast_sub]
    have e3 : ((7 : Nat) : Rat) = 7 := rfl
    rw [e, e3] at h3
    show _ ≤ ((a (i + 1) : Int) : Rat) / 4 - ((a i : Int) : Rat) / 4 ∧ ((a (i + 1) : Int) : Rat) / 4 - ((a i : Int) : Rat) / 4 ≤ _
    constructor <;> grind
  · have := hp.by_ i hi; constructor <;> grind
  · have h1 := h.b i (by omega)
    have h2 := h.b (i + 1) (by omega)
    have h3 := int_rat_bd (a := b (i + 1) - b i) (B := 16) (by omega)
    have e : (((b (i + 1) - b i : Int)) : Rat) = (b (i + 1) : Rat) - (b i : Rat) := by rw [Rat.intCast_sub]
    have e3 : ((16 : Nat) : Rat) = 16 := rfl
    rw [e, e3] at h3
    show _ ≤ ((b (i + 1) : Int) : Rat) / 4 - ((b i : Int) : Rat) / 4 ∧ ((b (i + 1) : Int) : Rat) / 4 - ((b i : Int) : Rat) / 4 ≤ _
    constructor <;> grind
theorem DqOk.b1 (h : DqOk n P a b) (hn : 2 ≤ n ∧ n ≤ 5) : B1 n P := by
  have hp := h.pv hn
  exact ⟨fun k hk => ⟨_, hp.vx k hk, by have := hp.bx k hk; grind, by have := hp.bx k hk; grind⟩, fun k hk => ⟨_, hp.vy k hk, by have := hp.by_ k hk; grind, by have := hp.by_ k hk; grind⟩⟩
/-- A point at the middle time of a part. -/
theorem DqOk.mid (h : DqOk n P a b) (hn : 2 ≤ n ∧ n ≤ 5) {J i : Nat} (hJ : J < 9) (hi : i < 2 ^ J) : Nea (pointP n P (fun _ => one1) (tmM J i)) (Bz n (quR a) (mdT J i)) (Bz n (quR b) (mdT J i)) (4 / 25000) := by
  have hT := (tmP hJ hi).tm
  have hN := point_nea (wts_one n) hT (show (5 : Rat) ≤ 39 by decide +kernel) hn (h.pv hn)
  have e1 := bern_cx hT (quR a) hn
  have e2 := bern_cx hT (quR b) hn
  rw [← e1, ← e2] at hN
  exact hN
end
def side64 (d z : CV) : FV := fbin .sub .f64 (fbin .mul .f64 (fconv .f32 .f64 d.1) (fconv .f32 .f64 z.2)) (fbin .mul .f64 (fconv .f32 .f64 d.2) (fconv .f32 .f64 z.1))
def half64 : FV := fv .f64 4602678819172646912
theorem half64_vl : Vl .f64 half64 (1 / 2) := Vl.c (by decide +kernel)
theorem rep_38 : Rep .f64 (3 / 8) := .inl ⟨3, -3, by decide, by decide, by decide +kernel⟩
section
variable {d a p : CV} {δ ε α β x y : Rat}
theorem line_gap (v1 : Vl .f32 d.1 δ) (v2 : Vl .f32 d.2 ε) (v3 : Vl .f32 a.1 α) (v4 : Vl .f32 a.2 β) (v5 : Vl .f32 p.1 x) (v6 : Vl .f32 p.2 y) (h1 : 1 ≤ δ ∧ δ ≤ 4) (h2 : -1 ≤ ε ∧ ε ≤ 1) (h3 : -2 ≤ α ∧ α ≤ 2) (h4 : -2 ≤ β ∧ β ≤ 2) (h5 : -6 ≤ x ∧ x ≤ 6) (h6 : -6 ≤ y ∧ y ≤ 6) (h : -(3 / 10) ≤ δ * (y - β) - ε * (x - α) ∧ δ * (y - β) - ε * (x - α) ≤ 3 / 10) :
    LongOk d ∧ cmpB .gtr (fcmp .f64 (gapF (side64 d (subC2 p a)) (fv .f64 0)) (fbin .mul .f64 half64 (fconv .f32 .f64 (longC d)))) = false := by
  obtain ⟨R, vR, ok, R0, R1⟩ := long_up (x := d.1) (y := d.2) (B := 4 + 1) v1 v2 (Le2.of_abs (by grind) (by grind) (by grind) (by grind)) (by grind)
  have dd := Rat.mul_le_mul_of_nonneg_left h1.1 (show 0 ≤ δ by grind)
  have ee := sqr_nonneg ε
  have R2 := long_lo (x := d.1) (y := d.2) (B := 1) v1 v2 (by constructor <;> grind) (by constructor <;> grind) (by grind) (by grind) vR
  obtain ⟨C, vC, rC⟩ := vl_mul half64_vl (vl_wide vR) (fit_64 (a := 100) (by grind) (by grind) (by grind))
  have hC := rnd_64 rC 100 (by grind) (by grind)
  obtain ⟨u, vu, _, u1, u2⟩ := subR v5 v3 8 (by grind) (by grind) (by decide +kernel)
  obtain ⟨v, vv, _, w1, w2⟩ := subR v6 v4 8 (by grind) (by grind) (by decide +kernel)
  have m1 := mul_bnd (p := δ) (q := v - (y - β)) (a := 4) (b := 1 / 100000) (by grind) (by grind) (by grind) (by grind)
  have m2 := mul_bnd (p := ε) (q := u - (x - α)) (a := 1) (b := 1 / 100000) (by grind) (by grind) (by grind) (by grind)
  have e : δ * v - ε * u = (δ * (y - β) - ε * (x - α)) + δ * (v - (y - β)) - ε * (u - (x - α)) := by grind
  have n1 := mul_bnd (p := δ) (q := v) (a := 4) (b := 9) (by grind) (by grind) (by grind) (by grind)
  have n2 := mul_bnd (p := ε) (q := u) (a := 1) (b := 9) (by grind) (by grind) (by grind) (by grind)
  obtain ⟨s, vs, rs⟩ := vl_mul (vl_wide v1) (vl_wide vv) (fit_64 (a := 100) (by grind) (by grind) (by grind))
  have hs := rnd_64 rs 100 (by grind) (by grind)
  obtain ⟨t, vt, rt⟩ := vl_mul (vl_wide v2) (vl_wide vu) (fit_64 (a := 100) (by grind) (by grind) (by grind))
  have ht := rnd_64 rt 100 (by grind) (by grind)
  obtain ⟨z, vz, rz⟩ := vl_sub vs vt (fit_64 (a := 100) (by grind) (by grind) (by grind))
  have hz := rnd_64 rz 100 (by grind) (by grind)
  exact ⟨ok, gap_le (x := side64 d (subC2 p a)) vz (zvl .f64) vC rep_38 (by grind) (by grind) (by grind) (by grind)⟩
end
section
variable {n : Nat} {P : Nat → CV} {a b : Nat → Int} {d av : CV}
/-- What the law asks of a time at which a line meets. -/
structure LinG (n : Nat) (P : Nat → CV) (d av : CV) (i : Nat) : Prop where
  lt : i < 256
  fin : finC (pointP n P (fun _ => one1) (tmM 8 i)) = true
  gap : cmpB .gtr (fcmp .f64 (gapF (side64 d (subC2 (pointP n P (fun _ => one1) (tmM 8 i)) av)) (fv .f64 0)) (fbin .mul .f64 half64 (fconv .f32 .f64 (longC d)))) = false
theorem lines_near (h : DqOk n P a b) (hn : 2 ≤ n ∧ n ≤ 5) (hl : LnV d av) {L : List Nat} (hL : lineR n d av 8 0 P [] = some L) : LinP (LinG n P d av) 256 L := by
  obtain ⟨δ, ε, α, β, ⟨v1, a1, b1⟩, ⟨v2, a2, b2⟩, ⟨v3, a3, b3⟩, v4, a4, b4⟩ := hl.h
  have key := lineR_ok (n := n) (d := d) (a := av) (G := LinG n P d av) (Inv := fun r i Q => (r ≤ 8 ∧ i < 2 ^ (8 - r)) ∧ PrC n (quR a) (quR b) 8 r i Q) (fun r i Q hI => by
    obtain ⟨⟨hr, hi⟩, hQ⟩ := hI
    obtain ⟨h1, h2⟩ := prC_step hn r i Q hQ
    rw [show 8 - r = 8 - (r + 1) + 1 by omega, Nat.pow_succ]
    exact ⟨⟨⟨by omega, by omega⟩, h1⟩, ⟨by omega, by omega⟩, h2⟩) (fun i Q hI hs => by
    obtain ⟨⟨_, hi⟩, q1, q2⟩ := hI
    have hi8 : i < 2 ^ 8 := hi
    have l1 := q1.leaf hn (W := 29 / 1000) (by decide +kernel) (by unfold eH; decide +kernel)
    have l2 := q2.leaf hn (W := 65 / 1000) (by decide +kernel) (by unfold eH; decide +kernel)
    have hN := h.mid hn (show 8 < 9 by decide) hi8
    have hT := (tmP (show 8 < 9 by decide) hi8).tm
    obtain ⟨hf, X, Y, vX, vY, bX, bY⟩ := h.at hT hn
    obtain ⟨X', Y', vX', vY', eX, eY⟩ := hN
    obtain rfl := Vl.unique vX vX'
    obtain rfl := Vl.unique vY vY'
    unfold sideB at hs
    rw [Bool.or_eq_false_iff] at hs
    obtain ⟨k, hk, hk'⟩ := allLt_no hs.1
    obtain ⟨l, hl', hl''⟩ := allLt_no hs.2
    obtain ⟨xk, vxk, xk1, xk2⟩ := l1 k hk
    obtain ⟨yk, vyk, yk1, yk2⟩ := l2 k hk
    obtain ⟨xl, vxl, xl1, xl2⟩ := l1 l hl'
    obtain ⟨yl, vyl, yl1, yl2⟩ := l2 l hl'
    generalize Bz n (quR a) (mdT 8 i) = xm at *
    generalize Bz n (quR b) (mdT 8 i) = ym at *
    obtain ⟨s, vs, s1, s2⟩ := side_vl (z := Q k) v1 v2 v3 v4 vxk vyk (by constructor <;> grind) (by constructor <;> grind) (by constructor <;> grind) (by constructor <;> grind) (by constructor <;> grind) (by constructor <;> grind)
    obtain ⟨t, vt, t1, t2⟩ := side_vl (z := Q l) v1 v2 v3 v4 vxl vyl (by constructor <;> grind) (by constructor <;> grind) (by constructor <;> grind) (by constructor <;> grind) (by constructor <;> grind) (by constructor <;> grind)
    have g1 : s ≤ 0 := by
      have := vl_gtr vs (zvl .f32)
      unfold pos0 at hk'
      rw [hk'] at this
      have := of_decide_eq_false this.symm
      grind
    have g2 : 0 ≤ t := by
      have := vl_lss vt (zvl .f32)
      unfold neg0 at hl''
      rw [hl''] at this
      have := of_decide_eq_false this.symm
      grind
    have m1 := mul_bnd (p := δ) (q := yk - Y) (a := 4) (b := 66 / 1000) (by grind) (by grind) (by grind) (by grind)
    have m2 := mul_bnd (p := ε) (q := xk - X) (a := 1) (b := 30 / 1000) (by grind) (by grind) (by grind) (by grind)
    have m3 := mul_bnd (p := δ) (q := yl - Y) (a := 4) (b := 66 / 1000) (by grind) (by grind) (by grind) (by grind)
    have m4 := mul_bnd (p := ε) (q := xl - X) (a := 1) (b := 30 / 1000) (by grind) (by grind) (by grind) (by grind)
    have e1 : δ * (yk - β) - ε * (xk - α) = (δ * (Y - β) - ε * (X - α)) + δ * (yk - Y) - ε * (xk - X) := by grind
    have e2 : δ * (yl - β) - ε * (xl - α) = (δ * (Y - β) - ε * (X - α)) + δ * (yl - Y) - ε * (xl - X) := by grind
    have hg := line_gap (p := pointP n P (fun _ => one1) (tmM 8 i)) v1 v2 v3 v4 vX vY ⟨a1, b1⟩ ⟨a2, b2⟩ ⟨a3, b3⟩ ⟨a4, b4⟩ bX bY (by constructor <;> grind)
    exact ⟨hi8, hf, hg.2⟩) 8 0 P [] L ⟨⟨Nat.le_refl _, by decide⟩, h.prC hn 8⟩ ⟨.nil, fun _ h => (nomatch h), fun _ h => (nomatch h), by decide⟩ hL
  exact key
theorem LnV.long (hl : LnV d av) : LongOk d := by
  obtain ⟨δ, ε, α, β, ⟨v1, a1, b1⟩, ⟨v2, a2, b2⟩, _⟩ := hl.h
  exact (long_up (x := d.1) (y := d.2) (B := 4 + 1) v1 v2 (Le2.of_abs (by grind) (by grind) (by grind) (by grind)) (by grind)).choose_spec.2.1
end
theorem hiF_mem (X : Nat → FV) : ∀ n, ∃ k, k < n + 1 ∧ hiF X (n + 1) = X k
  | 0 => ⟨0, by omega, by
    unfold hiF
    cases cmpB .gtr (fcmp .f32 (X 0) (hiF X 0)) <;> rfl⟩
  | n + 1 => by
    obtain ⟨k, hk, h⟩ := hiF_mem X n
    unfold hiF
    cases cmpB .gtr (fcmp .f32 (X (n + 1)) (hiF X (n + 1)))
    · exact ⟨k, by omega, h⟩
    · exact ⟨n + 1, by omega, rfl⟩
theorem loF_mem (X : Nat → FV) : ∀ n, ∃ k, k < n + 1 ∧ loF X (n + 1) = X k
  | 0 => ⟨0, by omega, by
    unfold loF
    cases cmpB .lss (fcmp .f32 (X 0) (loF X 0)) <;> rfl⟩
  | n + 1 => by
    obtain ⟨k, hk, h⟩ := loF_mem X n
    unfold loF
    cases cmpB .lss (fcmp .f32 (X (n + 1)) (loF X (n + 1)))
    · exact ⟨k, by omega, h⟩
    · exact ⟨n + 1, by omega, rfl⟩
section
variable {np nq : Nat} {X Y : Nat → FV} {x y W : Rat}
/-- Lists of numbers near two numbers, whose ranges meet. -/
theorem lss_near (hp : 1 ≤ np) (hq : 1 ≤ nq) (h1 : ∀ k, k < np → ∃ r, Vl .f32 (X k) r ∧ -W ≤ r - x ∧ r - x ≤ W) (h2 : ∀ k, k < nq → ∃ r, Vl .f32 (Y k) r ∧ -W ≤ r - y ∧ r - y ≤ W) (h : lssF (hiF X np) (loF Y nq) = false) : y - x ≤ 2 * W := by
  obtain ⟨m, rfl⟩ : ∃ m, np = m + 1 := ⟨np - 1, by omega⟩
  obtain ⟨l, rfl⟩ : ∃ m, nq = m + 1 := ⟨nq - 1, by omega⟩
  obtain ⟨k, hk, ek⟩ := hiF_mem X m
  obtain ⟨i, hi, ei⟩ := loF_mem Y l
  obtain ⟨r, vr, r1, r2⟩ := h1 k hk
  obtain ⟨s, vs, s1, s2⟩ := h2 i hi
  have h3 : lssF (hiF X (m + 1)) (loF Y (l + 1)) = decide (r < s) := by rw [ek, ei]; exact vl_lss vr vs
  rw [h3] at h
  have := of_decide_eq_false h
  grind
end
section
variable {n m : Nat} {P Q : Nat → CV} {a b u v : Nat → Int}
/-- What the law asks of a meet. -/
structure MetG (n m : Nat) (P Q : Nat → CV) (i : Nat × Nat) : Prop where
  lt1 : i.1 < 64
  lt2 : i.2 < 64
  fin1 : finC (pointP n P (fun _ => one1) (tmM 6 i.1)) = true
  fin2 : finC (pointP m Q (fun _ => one1) (tmM 6 i.2)) = true
  ok : LongOk (subC2 (pointP n P (fun _ => one1) (tmM 6 i.1)) (pointP m Q (fun _ => one1) (tmM 6 i.2)))
  gap : cmpB .gtr (fcmp .f64 (fconv .f32 .f64 (longC (subC2 (pointP n P (fun _ => one1) (tmM 6 i.1)) (pointP m Q (fun _ => one1) (tmM 6 i.2))))) two64) = false
theorem meets_near (h : DqOk n P a b) (hn : 2 ≤ n ∧ n ≤ 5) (h' : DqOk m Q u v) (hm : 2 ≤ m ∧ m ≤ 5) {s : Mst} (hs : meetR n m (6 + 6) 6 6 0 0 P Q (0, []) = some s) : MetP (MetG n m P Q) s := by
  refine meetR_ok (np := n) (nq := m) (G := MetG n m P Q) (IP := fun r i A => (r ≤ 6 ∧ i < 2 ^ (6 - r)) ∧ PrC n (quR a) (quR b) 6 r i A) (IQ := fun r i A => (r ≤ 6 ∧ i < 2 ^ (6 - r)) ∧ PrC m (quR u) (quR v) 6 r i A) (fun r i A hI => ?_) (fun r i A hI => ?_) (fun i j A B hA hB ht => ?_) (6 + 6) 6 6 0 0 P Q (0, []) s rfl ⟨⟨Nat.le_refl _, by decide⟩, h.prC hn 6⟩ ⟨⟨Nat.le_refl _, by decide⟩, h'.prC hm 6⟩ ⟨fun _ h => (nomatch h), by decide, by decide⟩ hs
  · obtain ⟨⟨hr, hi⟩, hQ⟩ := hI
    obtain ⟨h1, h2⟩ := prC_step hn r i A hQ
    rw [show 6 - r = 6 - (r + 1) + 1 by omega, Nat.pow_succ]
    exact ⟨⟨⟨by omega, by omega⟩, h1⟩, ⟨by omega, by omega⟩, h2⟩
  · obtain ⟨⟨hr, hi⟩, hQ⟩ := hI
    obtain ⟨h1, h2⟩ := prC_step hm r i A hQ
    rw [show 6 - r = 6 - (r + 1) + 1 by omega, Nat.pow_succ]
    exact ⟨⟨⟨by omega, by omega⟩, h1⟩, ⟨by omega, by omega⟩, h2⟩
  · obtain ⟨⟨_, hi⟩, q1, q2⟩ := hA
    obtain ⟨⟨_, hj⟩, q3, q4⟩ := hB
    have hi6 : i < 2 ^ 6 := hi
    have hj6 : j < 2 ^ 6 := hj
    have l1 := q1.leaf hn (W := 1 / 8) (by decide +kernel) (by unfold eH; decide +kernel)
    have l2 := q2.leaf hn (W := 3 / 10) (by decide +kernel) (by unfold eH; decide +kernel)
    have l3 := q3.leaf hm (W := 1 / 8) (by decide +kernel) (by unfold eH; decide +kernel)
    have l4 := q4.leaf hm (W := 3 / 10) (by decide +kernel) (by unfold eH; decide +kernel)
    have hf1 := (h.at (tmP (show 6 < 9 by decide) hi6).tm hn)
    have hf2 := (h'.at (tmP (show 6 < 9 by decide) hj6).tm hm)
    have hN := h.mid hn (show 6 < 9 by decide) hi6
    have hM := h'.mid hm (show 6 < 9 by decide) hj6
    obtain ⟨f1, X1, Y1, vX1, vY1, bX1, bY1⟩ := hf1
    obtain ⟨f2, X2, Y2, vX2, vY2, bX2, bY2⟩ := hf2
    obtain ⟨x1, y1, vx1, vy1, ex1, ey1⟩ := hN
    obtain ⟨x2, y2, vx2, vy2, ex2, ey2⟩ := hM
    obtain rfl := Vl.unique vX1 vx1
    obtain rfl := Vl.unique vY1 vy1
    obtain rfl := Vl.unique vX2 vx2
    obtain rfl := Vl.unique vY2 vy2
    unfold touchB at ht
    simp only [Bool.not_eq_true', Bool.or_eq_false_iff] at ht
    obtain ⟨⟨⟨t1, t2⟩, t3⟩, t4⟩ := ht
    have g1 := lss_near (by omega) (by omega) l1 l3 t1
    have g2 := lss_near (by omega) (by omega) l3 l1 t2
    have g3 := lss_near (by omega) (by omega) l2 l4 t3
    have g4 := lss_near (by omega) (by omega) l4 l2 t4
    generalize Bz n (quR a) (mdT 6 i) = xm at *
    generalize Bz n (quR b) (mdT 6 i) = ym at *
    generalize Bz m (quR u) (mdT 6 j) = xk at *
    generalize Bz m (quR v) (mdT 6 j) = yk at *
    obtain ⟨p, vp, _, p1, p2⟩ := subR vX1 vX2 12 (by grind) (by grind) (by decide +kernel)
    obtain ⟨q, vq, _, q1, q2⟩ := subR vY1 vY2 12 (by grind) (by grind) (by decide +kernel)
    obtain ⟨R, vR, ok, R0, R1⟩ := long_up (x := (subC2 (pointP n P (fun _ => one1) (tmM 6 i)) (pointP m Q (fun _ => one1) (tmM 6 j))).1) (y := (subC2 (pointP n P (fun _ => one1) (tmM 6 i)) (pointP m Q (fun _ => one1) (tmM 6 j))).2) (B := 1 / 2 + 1) vp vq (Le2.of_abs (by grind) (by grind) (by grind) (by grind)) (by grind)
    refine ⟨hi6, hj6, f1, f2, ok, ?_⟩
    have := vl_gtr (vl_wide vR) two64_vl
    exact this.trans (decide_eq_false (by grind))
def hunC : CV := (fv .f32 0, fv .f32 1120403456)
theorem hun_vl : Vl .f32 hunC.2 100 := show Vl .f32 (fv .f32 1120403456) 100 from Vl.c (by decide +kernel)
theorem far_pts (h : DqOk n P a b) (hn : 2 ≤ n ∧ n ≤ 5) : ∀ k, k < n → (∃ r, Vl .f32 (addC2 (P k) hunC).1 r ∧ -128 ≤ r ∧ r ≤ 128) ∧ ∃ r, Vl .f32 (addC2 (P k) hunC).2 r ∧ 90 ≤ r ∧ r ≤ 128 := fun k hk => by
  have hp := h.pv hn
  have b1 := hp.bx k hk
  have b2 := hp.by_ k hk
  obtain ⟨r, vr, _, r1, r2⟩ := addR (hp.vx k hk) (zvl .f32) 100 (by grind) (by grind) (by decide +kernel)
  obtain ⟨s, vs, _, s1, s2⟩ := addR (hp.vy k hk) hun_vl 200 (by grind) (by grind) (by decide +kernel)
  exact ⟨⟨r, vr, by grind, by grind⟩, s, vs, by grind, by grind⟩
theorem far_b1 (h : DqOk n P a b) (hn : 2 ≤ n ∧ n ≤ 5) : B1 n (fun i => addC2 (P i) hunC) :=
  ⟨fun k hk => (far_pts h hn k hk).1, fun k hk => by obtain ⟨r, vr, r1, r2⟩ := (far_pts h hn k hk).2; exact ⟨r, vr, by grind, r2⟩⟩
theorem far_none (h : DqOk n P a b) (hn : 2 ≤ n ∧ n ≤ 5) : touchB n n P (fun i => addC2 (P i) hunC) = false := by
  obtain ⟨m, rfl⟩ : ∃ m, n = m + 1 := ⟨n - 1, by omega⟩
  obtain ⟨k, hk, ek⟩ := hiF_mem (cx2 P) m
  obtain ⟨i, hi, ei⟩ := loF_mem (cx2 (fun i => addC2 (P i) hunC)) m
  have hp := h.pv hn
  obtain ⟨s, vs, s1, s2⟩ := (far_pts h hn i hi).2
  have b2 := hp.by_ k hk
  have h3 : lssF (hiF (cx2 P) (m + 1)) (loF (cx2 (fun i => addC2 (P i) hunC)) (m + 1)) = true := by
    rw [ek, ei]
    exact (vl_lss (hp.vy k hk) vs).trans (decide_eq_true (by grind))
  unfold touchB
  rw [h3, Bool.or_true, Bool.true_or]
  rfl
theorem meetR_no {np nq m rp rq ip iq : Nat} {s : Mst} (h : touchB np nq P Q = false) (hs : decide (s.1 < 20000) = true) : meetR np nq (m + 1) rp rq ip iq P Q s = some (s.1 + 1, s.2) := by
  unfold meetR
  rw [hs, h]
theorem far_meets (h : DqOk n P a b) (hn : 2 ≤ n ∧ n ≤ 5) : meetR n n (6 + 6) 6 6 0 0 P (fun i => addC2 (P i) hunC) (0, []) = some (1, []) := meetR_no (s := (0, [])) (far_none h hn) rfl
end
def crP (i : Nat) : CV := match i with
  | 0 => (fv .f32 3212836864, fv .f32 0)
  | _ => (fv .f32 1065353216, fv .f32 0)
def upP (m : Int) (i : Nat) : CV := match i with
  | 0 => (te m, fv .f32 3212836864)
  | _ => (te m, fv .f32 1065353216)
def knP (i : Nat) : CV := match i with
  | 0 => (fv .f32 0, fv .f32 0)
  | 1 => (fv .f32 1082130432, fv .f32 1077936128)
  | 2 => (fv .f32 3225419776, fv .f32 1077936128)
  | _ => (fv .f32 1065353216, fv .f32 0)
/-- A number within bounds. -/
def bdB (x : FV) : Bool := isNum x && decide (-128 ≤ valR x) && decide (valR x ≤ 128)
theorem bdB_vl {x : FV} (h : bdB x = true) : ∃ r, Vl .f32 x r ∧ -128 ≤ r ∧ r ≤ 128 := by
  unfold bdB at h
  simp only [Bool.and_eq_true, decide_eq_true_eq] at h
  exact ⟨_, isNum_vl h.1.1, h.1.2, h.2⟩
def b1B (n : Nat) (P : Nat → CV) : Bool := allLt (fun k => bdB (P k).1 && bdB (P k).2) n
theorem b1_of {n : Nat} {P : Nat → CV} (h : b1B n P = true) : B1 n P := by
  have key : ∀ k, k < n → bdB (P k).1 = true ∧ bdB (P k).2 = true := fun k hk => by
    have := allLt_of h k hk
    simpa only [Bool.and_eq_true] using this
  exact ⟨fun k hk => bdB_vl (key k hk).1, fun k hk => bdB_vl (key k hk).2⟩
theorem cr_b1 : B1 2 crP := b1_of (by decide +kernel)
theorem kn_b1 : B1 4 knP := b1_of (by decide +kernel)
theorem up_all : allLt (fun m => b1B 2 (upP ((m : Int) - 4))) 9 = true := by decide +kernel
theorem up_b1 {m : Nat} (h : m < 9) : B1 2 (upP ((m : Int) - 4)) := b1_of (allLt_of up_all m h)
def crB (m : Int) : Bool := match meetR 2 2 (7 + 7) 7 7 0 0 crP (upP m) (0, []) with
  | some (_, [x]) => decide (x.2 < 128) && cmpB .lss (fcmp .f64 (gapF (fconv .f32 .f64 (tmM 7 x.2)) half64) c05)
  | _ => false
theorem cr_all : allLt (fun m => crB ((m : Int) - 4)) 9 = true := by decide +kernel
theorem cr_one {m : Nat} (h : m < 9) : ∃ k x, meetR 2 2 (7 + 7) 7 7 0 0 crP (upP ((m : Int) - 4)) (0, []) = some (k, [x]) ∧ cmpB .lss (fcmp .f64 (gapF (fconv .f32 .f64 (tmM 7 x.2)) half64) c05) = true := by
  have h1 := allLt_of cr_all m h
  unfold crB at h1
  split at h1
  · rename_i k x he
    rw [Bool.and_eq_true] at h1
    exact ⟨k, x, he, h1.2⟩
  · cases h1
end Go.Ab
namespace Go.Ab
open Go.Proofs
variable {R : World → Prop} [RStab R]
theorem tab_none (f : Int → FV) : (tab 0 f).map (AV.f .f32) = [] := rfl
attribute [local irreducible] WS RS Done OpJ Then InBlock Round Ret Env.sub FnH
attribute [local irreducible] tab tabC
set_option maxRecDepth 100000 in
set_option maxHeartbeats 4000000 in
theorem specLineMeets_fn {n : Nat} {P : Nat → CV} {av bv : CV} {a b ca cb : Nat} (hn : 2 ≤ n ∧ n ≤ 5) (hB : B1 n P) (hl : LnV (subC2 bv av) av) (hfa : finC av = true) (hfb : finC bv = true) (hne : nearE av bv = false) (hca : n ≤ ca ∧ ca ≤ maxLen) (hcb : n ≤ cb ∧ cb ≤ maxLen) :
    FnH (X := Lk) Try.prog 7 (fun _ => [crvOc a b n ca cb, cA av, cA bv, .f .f32 nearL]) [entC a n P ca, entF b 31 n oneF cb]
      (fun y => .tup [slOr y.ok y.g y.L.length y.c, .raw (.bool y.ok)]) (fun y => [entC a n P ca, entF b 31 n oneF cb, entF y.g 31 y.L.length (lstF y.L) y.c])
      (fun y => (y.L.length ≤ y.c ∧ y.c ≤ maxLen) ∧ match lineR n (subC2 bv av) av 8 0 P [] with
        | some L' => y.ok = true ∧ y.L = L'
        | none => y.ok = false) := by
  have hV : Fn Try.prog 21 (fun w => [crvP w n P oneF]) (.raw (.bool true)) := l02Is_yes ⟨hn.1, by omega⟩ hB.fin (wts_one n).above
  have hF1 := l01CFinite_fn av
  have hF2 := l01CFinite_fn bv
  rw [hfa] at hF1
  rw [hfb] at hF2
  have hN : Fn Try.prog 23 (fun _ => [.f .f32 nearL]) (.raw (.bool true)) := l03Ends_yes (by decide +kernel) (by decide +kernel)
  have hne' : (cmpB .eql (fcmp .f32 av.1 bv.1) && cmpB .eql (fcmp .f32 av.2 bv.2)) = false := hne
  refine fn_intro Try.func7 rfl Try.ntmps7 (fun _ => Nat.le_of_ble_eq_true rfl) fun w0 => ?_
  repeat first | refine zai rfl rfl ?_ | refine zaa rfl (zay rfl) ?_ | refine zaa rfl (zaz rfl) ?_ | (refine zad ?_; first | (refine zaa rfl (zci rfl rfl (hF1) ?_) ?_; (focus ((repeat (first | exact Takes.nil | refine Takes.sl ?_ | refine Takes.lit ?_ | refine Takes.fa ?_ | refine Takes.fc ?_ | refine Takes.net ?_ | (refine Takes.ownE ?_ ?_ ?_ ?_ ?_; (focus (exact ⟨_, _, (by (repeat (first | exact mh | refine mt ?_)); done)⟩)); (focus (simp; done)); (focus omega); (focus (simp only [maxLen]; omega))) | refine Takes.same ?_)); done))) | (refine zaa rfl (zci rfl rfl (hF2) ?_) ?_; (focus ((repeat (first | exact Takes.nil | refine Takes.sl ?_ | refine Takes.lit ?_ | refine Takes.fa ?_ | refine Takes.fc ?_ | refine Takes.net ?_ | (refine Takes.ownE ?_ ?_ ?_ ?_ ?_; (focus (exact ⟨_, _, (by (repeat (first | exact mh | refine mt ?_)); done)⟩)); (focus (simp; done)); (focus omega); (focus (simp only [maxLen]; omega))) | refine Takes.same ?_)); done)))) | refine zaa rfl (zcb rfl rfl) ?_ | refine zaa rfl (zcc rfl) ?_ | refine zah ?_ | (refine zcr ?_; refine zcs ?_) | (refine zdb ?_; first | refine zdc ?_ | refine zdd ?_) | (refine zak rfl rfl rfl ?_; intro g) | refine zaa rfl (zci rfl rfl hV (Takes.crvPOc mh (mt mh) (mt (mt mh)) hca hcb Takes.nil)) ?_ | refine zaa rfl (opj_ceql rfl rfl) ?_
  rw [hne']
  repeat first | refine zai rfl rfl ?_ | refine zaa rfl (zay rfl) ?_ | (refine zad ?_; (refine zaa rfl (zci rfl rfl (hN) ?_) ?_; (focus ((repeat (first | exact Takes.nil | refine Takes.sl ?_ | refine Takes.lit ?_ | refine Takes.fa ?_ | refine Takes.fc ?_ | refine Takes.net ?_ | (refine Takes.ownE ?_ ?_ ?_ ?_ ?_; (focus (exact ⟨_, _, (by (repeat (first | exact mh | refine mt ?_)); done)⟩)); (focus (simp; done)); (focus omega); (focus (simp only [maxLen]; omega))) | refine Takes.same ?_)); done)))) | refine zaa rfl (zcb rfl rfl) ?_ | refine zaa rfl (zcc rfl) ?_ | refine zah ?_ | (refine zcr ?_; refine zcs ?_) | (refine zdb ?_; first | refine zdc ?_ | refine zdd ?_ | refine zdf ?_ | refine zdj rfl ?_) | refine zaa rfl (opj_csub rfl rfl) ?_ | (refine rs_litO (Xs := []) (xs := []) rfl rfl rfl rfl rfl rfl ?_; intro g)
  rename_i g4
  obtain ⟨gL, hgL⟩ : ∃ x, x = g := ⟨g, rfl⟩
  subst hgL
  generalize List.map (fun x : Ent => x.g) [entC a n P ca, entF b 31 n oneF cb] = gs
  have hK := line_all (n := n) (d := subC2 bv av) (av := av) hn hl 8 (Nat.le_refl _) 0 P [] g4 a b ca cb gL 0 (by decide) hB ⟨.nil, fun _ h => (nomatch h), fun _ h => (nomatch h), by decide⟩ ⟨hca, hcb⟩ ⟨Nat.le_refl _, by decide⟩
  rw [show tmF (8 - 8) ((0 : Nat) : Int) = fv .f32 0 by decide +kernel, show tmF (8 - 8) (((0 : Nat) : Int) + 1) = one1 by decide +kernel] at hK
  refine RS.weakS (e' := [(4, .raw (.pointer (some ⟨g4, 0, none⟩))), (32, cA av), (35, cA (subC2 bv av)), (36, .f .f32 nearL), (37, .raw (.slice (some ⟨gL, 0, none⟩) 0 0))]) (RS.st (S' := StR (fun _ => True) w0 gs ([⟨g4, 27, [.raw (.slice (some ⟨a, 0, none⟩) n ca), .raw (.slice (some ⟨b, 0, none⟩) n cb)], 2⟩, entC a n P ca, entF b 31 n oneF cb, ⟨gL, 31, [], 0⟩] ++ [])) ?_ (fun w h => h.sel [1, 2, 3, 0] (by decide) rfl)) (by (repeat (first | exact Env.sub_nil _ | refine Env.sub_cons rfl ?_)))
  rw [show (⟨gL, 31, [], 0⟩ : Ent) = entF gL 31 ([] : List Nat).length (lstF []) 0 by show _ = (⟨gL, _, (tab 0 (lstF [])).map (AV.f .f32), 0⟩ : Ent); rw [tab_none]]
  refine rs_call hK rfl rfl (fun _ _ _ h => h) rfl ?_
  rintro ⟨L1, g1, c1, ok1⟩ ⟨hcc, hres⟩
  dsimp only at hcc hres ⊢
  repeat first | refine zaa rfl (zaz rfl) ?_ | refine zaa rfl (zbz rfl rfl) ?_ | refine zah ?_ | (refine zcr ?_; refine zcs ?_) | (refine zdb ?_; refine zdg ?_)
  refine done_ret2 rfl (⟨L1, g1, c1, ok1⟩ : Lk) rfl rfl rfl ⟨hcc, hres⟩ (.cons _ (List.Sublist.refl _))
end Go.Ab
namespace Go.Ab
open Go.Proofs
variable {R : World → Prop} [RStab R]
structure Bc where
  ga : Nat
  gb : Nat
  ca : Nat
  cb : Nat
  P : Nat → CV
  a : Nat → Int
  b : Nat → Int
theorem DqOk.put {n : Nat} {P : Nat → CV} {a b : Nat → Int} (h : DqOk n P a b) {u v : Int} (hu : 4 * (n : Int) ≤ u ∧ u ≤ 4 * (n : Int) + 3) (hv : -8 ≤ v ∧ v ≤ 8) : DqOk (n + 1) (putU n (qtF u, qtF v) P) (putU n u a) (putU n v b) := by
  refine ⟨fun i hi => ?_, fun i hi => ?_, fun i hi => ?_⟩
  all_goals
    rcases Nat.lt_or_ge i n with h1 | h1
    · simp only [putU_ne _ _ (show i ≠ n by omega)]
      first | exact h.q i h1 | exact h.a i h1 | exact h.b i h1
    · obtain rfl : i = n := by omega
      simp only [putU_at]
      try assumption
attribute [local irreducible] WS RS Done OpJ Then InBlock Round Ret Env.sub FnH
attribute [local irreducible] tab tabC
theorem b10Curve_fn (L : List By) (n : Nat) (hn : 2 ≤ n ∧ n ≤ 8) (hL : L.length < 2 ^ 40) :
    FnH (X := Bc) Try.prog 5 (fun w => [slB w L, .raw (.int .i64 ((n : Int) - 1))]) [] (fun y => crvOc y.ga y.gb n y.ca y.cb) (fun y => [entF y.gb 31 n (fun _ => one1) y.cb, entC y.ga n y.P y.ca])
      (fun y => ((n ≤ y.ca ∧ y.ca ≤ maxLen) ∧ n ≤ y.cb ∧ y.cb ≤ maxLen) ∧ DqOk n y.P y.a y.b) := by
  refine fn_intro Try.func5 rfl Try.ntmps5 (fun _ => Nat.le_of_ble_eq_true rfl) fun w0 => ?_
  repeat first | refine zaa rfl (zay rfl) ?_ | refine zaa rfl (zaz rfl) ?_ | refine zah ?_ | (refine zcr ?_; refine zcs ?_) | (refine zdb ?_; first | refine zdc ?_ | refine zdd ?_ | refine zde ?_) | (refine zal rfl rfl ?_; intro g) | (refine rs_call1 (l00From_fn w0 L) rfl rfl (Takes.same Takes.nil) rfl ?_; rintro gs -) | (refine rs_lit0 rfl ?_; intro g0)
  refine ws_fact (fun w hw => own_new (en := srcE w0 gs L 0 0) hw (mt mh)) fun hgs => ?_
  have hk : KeepW w0 w0 [] := ⟨Ext.refl _, fun x hx => by cases hx⟩
  rw [entC_nilU (F := fun _ => (none, none))]
  obtain ⟨g4, hg4⟩ : ∃ x, x = g := ⟨g, rfl⟩
  subst hg4
  refine ws_loop (ι := Nat × Bc × Dr) (fun y => [(1, .raw (.int .i64 ((n : Int) - 1))), (4, .raw (.pointer (some ⟨g4, 0, none⟩))), (5, .raw (.pointer (some ⟨gs, 0, none⟩))), (6, .raw (.slice (some ⟨y.2.1.ga, 0, none⟩) y.1 y.2.1.ca)), (7, .raw (.int .i64 (y.1 : Nat)))])
    (fun y => St w0 [] [entC y.2.1.ga y.1 y.2.1.P y.2.1.ca, srcE w0 gs L y.2.2.at_ y.2.2.seed, ⟨g4, 27, [.raw (.slice none 0 0), .raw (.slice none 0 0)], 2⟩]) (fun y => y.1 ≤ n ∧ (y.1 ≤ y.2.1.ca ∧ y.2.1.ca ≤ maxLen) ∧ DqOk y.1 y.2.1.P y.2.1.a y.2.1.b ∧ y.2.2.at_ = 2 * y.1) (fun y => n - y.1)
    (0, ⟨g0, 0, 0, 0, fun _ => (none, none), fun _ => 0, fun _ => 0⟩, ⟨0, 0, 0⟩) ⟨Nat.zero_le _, ⟨Nat.le_refl _, Nat.zero_le _⟩, ⟨fun i hi => by simp only at hi; omega, fun i hi => by simp only at hi; omega, fun i hi => by simp only at hi; omega⟩, by simp⟩ ?_ (fun _ h => h) (fun y hy => ?_)
  · (repeat (first | exact Env.sub_nil _ | refine Env.sub_cons rfl ?_))
  obtain ⟨k, ⟨ga, gb, ca, cb, P, a, b⟩, ⟨r, at1, seed1⟩⟩ := y
  simp only at hy ⊢
  obtain ⟨hkn, ⟨hc1, hc2⟩, hd, rfl⟩ := hy
  simp only [maxLen] at hc1 hc2
  repeat first | refine zaa rfl (zay rfl) ?_ | (refine zac ?_; refine zaa rfl (zbf rfl rfl) ?_) | refine zah ?_ | (refine zcr ?_; refine zcs ?_) | (refine zdb ?_; first | refine zdc ?_ | refine zdd ?_)
  refine ws_cond rfl (fun hd1 => ?_) (fun hd1 => ?_)
  case' refine_2 =>
    have hge : ¬ (k : Int) ≤ (n : Int) - 1 := of_decide_eq_false hd1
    obtain rfl : k = n := by omega
    have hSp := specPlain_fn (n := k) (P := P) (by omega)
    repeat first | refine zaa rfl (zay rfl) ?_ | (refine zcr ?_; first | refine zcs ?_ | refine zcu ?_ | refine zcx ?_ | refine zda ?_) | (refine zdb ?_; first | refine zdc ?_ | refine zdd ?_ | refine zdh ?_)
    refine rs_callM3 hSp rfl rfl (Takes.ownE ⟨_, _, mh⟩ (by simp) hc1 (by simp only [maxLen]; omega) Takes.nil) rfl ?_
    rintro ⟨⟨a', b'⟩, ca', cb'⟩ ⟨h1, h2⟩
    dsimp only at h1 h2 ⊢
    repeat first | refine zah ?_ | (refine zcr ?_; refine zcs ?_) | (refine zdb ?_; refine zdg ?_) | (refine zag ?_; refine zan 4 rfl rfl rfl rfl rfl rfl rfl rfl rfl ?_)
    exact done_retX rfl rfl (⟨a', b', ca', cb', P, a, b⟩ : Bc) rfl (mt (mt (mt (mt mh)))) rfl rfl rfl ⟨⟨h1, h2⟩, hd⟩ (.cons_cons _ (.cons_cons _ (List.nil_sublist _)))
  have hlt : (k : Int) ≤ (n : Int) - 1 := of_decide_eq_true hd1
  clear hd1
  have hp1 := pick_fn w0 gs L (2 * (k : Int)) seed1 4 (by omega) (by omega) hL
  repeat first | refine zaa rfl (zay rfl) ?_ | refine zaa rfl (zaz rfl) ?_ | (refine zac ?_; first | refine zaa rfl (zba rfl rfl rfl) ?_ | refine zaa rfl (opj_mul (x := 4) (y := (k : Int)) rfl rfl (by omega)) ?_ | refine zaa rfl (zbb (x := 4 * (k : Int)) (y := r2) rfl rfl (by omega)) ?_) | refine zaa rfl (zby rfl) ?_ | refine zah ?_ | (refine zcr ?_; refine zcs ?_) | (refine zdb ?_; first | refine zdc ?_ | refine zdd ?_ | refine zde ?_ | refine zdf ?_) | (refine rs_callAt 1 hp1 rfl rfl rfl (Takes.srcP hk hgs (Takes.same Takes.nil)) rfl ?_; rintro ⟨r2, a2, s2⟩ ⟨hr1, hr2, hr3⟩; simp only at hr1 hr2 hr3)
  have hp2 := pick_fn w0 gs L a2 s2 17 (by omega) (by omega) hL
  repeat first | (refine zac ?_; first | refine zaa rfl (zba rfl rfl rfl) ?_ | refine zaa rfl (zbc (x := r4) (y := 8) rfl rfl (by omega)) ?_) | (refine zad ?_; refine zaa rfl (zbr rfl rfl) ?_) | refine zaa rfl (zby rfl) ?_ | (refine rs_callAt 1 hp2 rfl rfl rfl (Takes.srcP hk hgs (Takes.same Takes.nil)) rfl ?_; rintro ⟨r4, a4, s4⟩ ⟨hr5, hr6, hr7⟩; simp only at hr5 hr6 hr7) | refine zaa rfl (zco rfl rfl rfl rfl rfl rfl) ?_
  refine rs_appendC 0 (putU k (qtF (4 * (k : Int) + r2), qtF (r4 - 8)) P) rfl rfl rfl rfl ⟨hc1, by simp only [maxLen]; omega⟩ (by omega) rfl rfl (putU_at _ _ _) (fun s h => putU_ne _ _ (by omega)) fun g3 c3 h3 h3' => ?_
  repeat first | refine zaa rfl (zay rfl) ?_ | refine zaa rfl (zaz rfl) ?_ | (refine zac ?_; refine zaa rfl (zbb rfl rfl (by omega)) ?_) | refine zah ?_ | (refine zcr ?_; first | refine zcs ?_ | refine zcv ?_) | (refine zdb ?_; refine zdd ?_)
  refine done_round (k + 1, ⟨g3, gb, c3, cb, putU k (qtF (4 * (k : Int) + r2), qtF (r4 - 8)) P, putU k (4 * (k : Int) + r2) a, putU k (r4 - 8) b⟩, ⟨r4, a4, s4⟩) ⟨by simp only; omega, ⟨h3, h3'⟩, hd.put (by omega) (by omega), by simp only; omega⟩ (by simp only; omega) ?_ (fun _ h => h)
  simp only
  rw [show ((k + 1 : Nat) : Int) = (k : Int) + 1 from by omega]
  (repeat (first | exact Env.sub_nil _ | refine Env.sub_cons rfl ?_))
end Go.Ab
