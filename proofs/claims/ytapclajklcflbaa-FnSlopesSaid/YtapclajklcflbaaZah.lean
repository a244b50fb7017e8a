/- Curves that are made: copies, plain ones, curves of slopes, moved ones; walked. No conditions. -/
import Derived.Lib.SliceRun
import Derived.Test.YtapclajklcflbaaZag
namespace Go.Ab
open Go.Proofs
variable {R : World → Prop} [RStab R]
class CrvB1 (P : Program) (t : TypeId) : Prop where
  b1 : ∀ (w : World) (b : Option Addr) (n' c' : Nat), (Instr.build t #[(1, .slice b n' c')]).run P w = .ok (.agg #[.slice none 0 0, .slice b n' c']) w
instance crvB1i : CrvB1 Try.prog 27 := ⟨fun w b n' c' => by kernel_rfl⟩
section
variable {P : Program} {S : World → Prop} {e : Env} {dst : Option Tmp} {ty : TypeId} {pos : String} {after : Array Edge} {guard : Option (Nat × Bool)} {t el : TypeId} {w0 : World} {gs : List Nat} {H : List Ent} {args : List AV} {A' : World → List AV}
theorem opj_buildW [hf : CrvB1 P t] {X : Operand} {b : Option Addr} {n' c' : Nat} (hx : e.ev X = some (.raw (.slice b n' c'))) : OpJ P S e ⟨dst, .build t #[(1, X)], ty, pos, after, guard⟩ (.agg [.raw (.slice none 0 0), .raw (.slice b n' c')]) :=
  opj_value fun ac w _ h => by
    have h1 := (h X (by simp [Op.operands]) _ hx).inv_raw
    refine ⟨_, w, ?_, Ext.refl _, .agg (vs := [_, _]) (.cons .raw (.cons .raw .nil))⟩
    simp only [execOp, List.map_toArray, List.map_cons, List.map_nil, h1, Sem.run_bind, hf.b1, Result.andThen_ok]
    rfl
theorem opj_eqnilU {t' : TypeId} {X : Operand} {xs : List AV} [hu : TyU P t (.slice el)] (hx : e.ev X = some (AV.sl w0 1 xs)) (h0 : 0 < xs.length) :
    OpJ P S e ⟨dst, .binOp .eql t X (.const (.slice none 0 0)) t', ty, pos, after, guard⟩ (.raw (.bool false)) :=
  opj_value fun a w _ h => by
    obtain ⟨ad, n, c, h1, hl, _, _, hr⟩ := (h X (by simp [Op.operands]) _ hx).inv_q
    obtain ⟨b, rfl, _⟩ := hr 0 _ (List.getElem?_eq_getElem h0)
    refine ⟨_, w, ?_, Ext.refl _, .raw⟩
    have hr := Go.Lib.run_eql_slice_nil (P := P) w t el (some b) n c 0 0 hu.h
    have hc : a.eval (.const (.slice none 0 0)) = .slice none 0 0 := rfl
    simp [execOp, h1, hc, eqGuard, hr]
theorem opj_makeFuncU {c : FuncId} {X : Operand} {u : Value} (hx : e.ev X = some (.raw u)) :
    OpJ P S e ⟨dst, .makeFunc (.func c) #[] #[X], ty, pos, after, guard⟩ (.raw (.func (.func c) #[] #[u])) :=
  opj_value fun a w _ h => by
    have h1 := (h X (by simp [Op.operands]) _ hx).inv_raw
    exact ⟨_, w, by simp [execOp, h1, Instr.makeFunc], Ext.refl _, .raw⟩
/-- A closure over one variable. -/
def clo (w : World) (c : FuncId) (x : AV) : AV := .q fun v => ∃ g, v = .func (.func c) #[] #[.pointer (some ⟨g, 0, none⟩)] ∧ PtrTo [x] w (.pointer (some ⟨g, 0, none⟩))
theorem Takes.clo {R0 : World → Prop} {c : FuncId} {g k : Nat} {T : TypeId} {x : AV} (hm : (⟨g, T, [x], k⟩ : Ent) ∈ H) (h : Takes (StR R0 w0 gs H) args A') :
    Takes (StR R0 w0 gs H) (.raw (.func (.func c) #[] #[.pointer (some ⟨g, 0, none⟩)]) :: args) (fun w => Go.Ab.clo w c x :: A' w) := fun w vs hS hr => by
  obtain ⟨v, r, rfl, hv, hrr⟩ := hr.inv_cons
  rw [hv.inv_raw]
  refine .cons (.q ⟨g, rfl, _, rfl, rfl, fun i y hy => ?_⟩) (h w r hS hrr)
  obtain ⟨u, hu, hev⟩ := (hS.own _ hm).2.cell hy
  exact ⟨u, by rw [Nat.zero_add]; exact hu, hev⟩
theorem Takes.ptrW {R0 : World → Prop} {p : Value} {xs : List AV} (hp : PtrTo xs w0 p) (h : Takes (StR R0 w0 [] H) args A') :
    Takes (StR R0 w0 [] H) (.raw p :: args) (fun w => AV.ptrQ w xs :: A' w) := fun w vs hS hr => by
  obtain ⟨v, r, rfl, hv, hrr⟩ := hr.inv_cons
  rw [hv.inv_raw]
  exact .cons (.q (mono_ptrTo xs _ _ _ hS.ext0 hp)) (h w r hS hrr)
end
attribute [local irreducible] WS RS Done OpJ Then InBlock Round Ret Env.sub FnH
attribute [local irreducible] tab tabC
theorem ifCurveC_yes {n a b ca cb : Nat} {P : Nat → CV} {f : Int → FV} (hn : 2 ≤ n ∧ n ≤ 8) (hP : (tabC n P).all finC = true) (hf : (tab n f).all aboveB = true) (h1 : n ≤ ca ∧ ca ≤ maxLen) (h2 : n ≤ cb ∧ cb ≤ maxLen) :
    FnH (X := Unit) Try.prog 26 (fun _ => [crvOc a b n ca cb]) [entC a n P ca, entF b 29 n f cb] (fun _ => .tup [crvOc a b n ca cb, .raw (.bool true)]) (fun _ => [entC a n P ca, entF b 29 n f cb]) (fun _ => True) := by
  have hV := validCurve_yes hn hP hf
  refine fn_intro Try.func26 rfl Try.ntmps26 (fun _ => Nat.le_of_ble_eq_true rfl) fun w0 => ?_
  repeat first | refine zaa rfl (zaz rfl) ?_ | (refine zae ?_; refine zaa rfl (zcg rfl rfl (by (repeat (first | exact mh | refine mt ?_)); done) rfl rfl) ?_) | refine zaa rfl (zcc rfl) ?_ | refine zah ?_ | (refine zcr ?_; refine zcs ?_) | (refine zdb ?_; first | refine zdc ?_ | refine zdd ?_ | refine zdf ?_ | refine zdg ?_ | refine zdj rfl ?_) | (refine zak rfl rfl rfl ?_; intro g) | (refine zal rfl rfl ?_; intro g) | (refine zag ?_; refine zan 0 rfl rfl rfl rfl rfl rfl rfl rfl rfl ?_) | refine zaa rfl (zci rfl rfl hV (Takes.crvOc (mt (mt mh)) (mt (mt (mt mh))) h1 h2 Takes.nil)) ?_
  exact done_retCX rfl rfl () rfl rfl mh rfl rfl rfl trivial (.cons _ (.cons _ (List.Sublist.refl _)))
theorem ifCurveD_yes {n a b ca cb : Nat} {P : Nat → CV} {f : Int → FV} (hn : 2 ≤ n ∧ n ≤ 8) (hP : (tabC n P).all finC = true) (hf : (tab n f).all aboveB = true) (h1 : n ≤ ca ∧ ca ≤ maxLen) (h2 : n ≤ cb ∧ cb ≤ maxLen) :
    FnH (X := Unit) Try.prog 26 (fun _ => [crvOc a b n ca cb]) [entF b 29 n f cb, entC a n P ca] (fun _ => .tup [crvOc a b n ca cb, .raw (.bool true)]) (fun _ => [entF b 29 n f cb, entC a n P ca]) (fun _ => True) := by
  have hV := validCurve_yes hn hP hf
  refine fn_intro Try.func26 rfl Try.ntmps26 (fun _ => Nat.le_of_ble_eq_true rfl) fun w0 => ?_
  repeat first | refine zaa rfl (zaz rfl) ?_ | (refine zae ?_; refine zaa rfl (zcg rfl rfl (by (repeat (first | exact mh | refine mt ?_)); done) rfl rfl) ?_) | refine zaa rfl (zcc rfl) ?_ | refine zah ?_ | (refine zcr ?_; refine zcs ?_) | (refine zdb ?_; first | refine zdc ?_ | refine zdd ?_ | refine zdf ?_ | refine zdg ?_ | refine zdj rfl ?_) | (refine zak rfl rfl rfl ?_; intro g) | (refine zal rfl rfl ?_; intro g) | (refine zag ?_; refine zan 0 rfl rfl rfl rfl rfl rfl rfl rfl rfl ?_) | refine zaa rfl (zci rfl rfl hV (Takes.crvOc (mt (mt (mt mh))) (mt (mt mh)) h1 h2 Takes.nil)) ?_
  exact done_retCX rfl rfl () rfl rfl mh rfl rfl rfl trivial (.cons _ (.cons _ (List.Sublist.refl _)))
theorem cloneC_fn (n : Nat) (f : Nat → CV) (h0 : 0 < n) (hl : n < 2 ^ 40) : FnH (X := Nat × Nat) Try.prog 27 (fun w => [slC w (tabC n f)]) [] (fun y => .raw (.slice (some ⟨y.1, 0, none⟩) n y.2)) (fun y => [entC y.1 n f y.2]) (fun y => n ≤ y.2 ∧ y.2 ≤ maxLen) := by
  have hlen : ((tabC n f).map cA).length = n := by simp
  have hone := one_cA n f
  refine fn_intro Try.func27 rfl Try.ntmps27 (fun _ => Nat.le_of_ble_eq_true rfl) fun w0 => ?_
  repeat first | refine zaa rfl (zay rfl) ?_ | refine zaa rfl (zaz rfl) ?_ | refine zah ?_ | (refine zcr ?_; refine zcs ?_) | (refine zdb ?_; first | refine zdc ?_ | refine zdd ?_ | refine zdf ?_ | refine zdj rfl ?_) | (refine rs_litP rfl rfl rfl rfl rfl rfl ?_; intro g) | refine zaa rfl (opj_eqnilU rfl (by rw [hlen]; exact h0)) ?_
  refine rs_append 0 (xs := []) (ys := (tabC n f).map cA) (n := 0) (cap := 0) rfl rfl ⟨_, rfl, fun w v hS h => hS.rd h.inv_q⟩ rfl ⟨rfl, Nat.le_refl _, Nat.zero_le _⟩ (by rw [hlen]; exact h0) hone (by rw [hlen]; simp only [maxLen]; omega) (by rw [hlen]; omega) rfl fun g3 c3 h3 h3' => ?_
  rw [hlen, Nat.zero_add] at h3 ⊢
  repeat first | refine zaa rfl (zaz rfl) ?_ | refine zah ?_ | (refine zcr ?_; refine zcs ?_) | (refine zdb ?_; refine zdg ?_)
  exact done_ret1 rfl (g3, c3) rfl ⟨h3, h3'⟩ (List.Sublist.refl _)
theorem cloneFU_fn (n : Nat) (f : Int → FV) (h0 : 0 < n) (hl : n < 2 ^ 40) : FnH (X := Nat × Nat) Try.prog 61 (fun w => [slF w (tab n f)]) [] (fun y => .raw (.slice (some ⟨y.1, 0, none⟩) n y.2)) (fun y => [entF y.1 29 n f y.2]) (fun y => n ≤ y.2 ∧ y.2 ≤ maxLen) := by
  have hlen : ((tab n f).map (AV.f .f32)).length = n := by simp
  have hone : ((tab n f).map (AV.f .f32)).all isOne = true := by
    rw [List.all_eq_true]
    intro x hx
    obtain ⟨a, _, rfl⟩ := List.mem_map.1 hx
    rfl
  refine fn_intro Try.func61 rfl Try.ntmps61 (fun _ => Nat.le_of_ble_eq_true rfl) fun w0 => ?_
  repeat first | refine zaa rfl (zay rfl) ?_ | refine zaa rfl (zaz rfl) ?_ | refine zah ?_ | (refine zcr ?_; refine zcs ?_) | (refine zdb ?_; first | refine zdc ?_ | refine zdd ?_ | refine zdf ?_ | refine zdj rfl ?_) | (refine rs_litP rfl rfl rfl rfl rfl rfl ?_; intro g) | refine zaa rfl (opj_eqnilU rfl (by rw [hlen]; exact h0)) ?_
  refine rs_append 0 (xs := []) (ys := (tab n f).map (AV.f .f32)) (n := 0) (cap := 0) rfl rfl ⟨_, rfl, fun w v hS h => hS.rd h.inv_q⟩ rfl ⟨rfl, Nat.le_refl _, Nat.zero_le _⟩ (by rw [hlen]; exact h0) hone (by rw [hlen]; simp only [maxLen]; omega) (by rw [hlen]; omega) rfl fun g3 c3 h3 h3' => ?_
  rw [hlen, Nat.zero_add] at h3 ⊢
  repeat first | refine zaa rfl (zaz rfl) ?_ | refine zah ?_ | (refine zcr ?_; refine zcs ?_) | (refine zdb ?_; refine zdg ?_)
  exact done_ret1 rfl (g3, c3) rfl ⟨h3, h3'⟩ (List.Sublist.refl _)
theorem plainCurve_fn {n : Nat} {P : Nat → CV} (hn : 2 ≤ n ∧ n ≤ 8) (hP : (tabC n P).all finC = true) (h1 : (tab n (fun _ => one1)).all aboveB = true) :
    FnH (X := (Nat × Nat) × Nat) Try.prog 8 (fun w => [slC w (tabC n P)]) [] (fun y => .tup [crvOc y.1.1 y.1.2 n y.2 n, .raw (.bool true)]) (fun y => [entC y.1.1 n P y.2, entF y.1.2 29 n (fun _ => one1) n]) (fun y => n ≤ y.2 ∧ y.2 ≤ maxLen) := by
  have hC := cloneC_fn n P (by omega) (by omega)
  have hO := ones_fn n (by omega)
  refine fn_intro Try.func8 rfl Try.ntmps8 (fun _ => Nat.le_of_ble_eq_true rfl) fun w0 => ?_
  repeat first | refine zaa rfl (zay rfl) ?_ | refine zaa rfl (zaz rfl) ?_ | (refine zad ?_; first | refine zaa rfl (opj_lenC rfl) ?_ | (refine rs_call1 (hC) rfl rfl ?_ rfl ?_; (focus ((repeat (first | exact Takes.nil | refine Takes.sl ?_ | refine Takes.lit ?_ | refine Takes.fa ?_ | refine Takes.fc ?_ | refine Takes.net ?_ | (refine Takes.ownE ?_ ?_ ?_ ?_ ?_; (focus (exact ⟨_, _, (by (repeat (first | exact mh | refine mt ?_)); done)⟩)); (focus (simp; done)); (focus omega); (focus (simp only [maxLen]; omega))) | refine Takes.same ?_)); done)); rintro ⟨a, ca⟩ hc) | (refine rs_call1 (hO) rfl rfl ?_ rfl ?_; (focus ((repeat (first | exact Takes.nil | refine Takes.sl ?_ | refine Takes.lit ?_ | refine Takes.fa ?_ | refine Takes.fc ?_ | refine Takes.net ?_ | (refine Takes.ownE ?_ ?_ ?_ ?_ ?_; (focus (exact ⟨_, _, (by (repeat (first | exact mh | refine mt ?_)); done)⟩)); (focus (simp; done)); (focus omega); (focus (simp only [maxLen]; omega))) | refine Takes.same ?_)); done)); intro b _)) | refine zah ?_ | (refine zcr ?_; refine zcs ?_) | (refine zdb ?_; first | refine zdc ?_ | refine zdd ?_) | (refine zal rfl rfl ?_; intro g) | refine zaa rfl (opj_buildV rfl rfl) ?_
  refine RS.perm (H' := [entC a n P ca, entF b 29 n (fun _ => one1) n] ++ [⟨g, 27, [.raw (.slice none 0 0), .raw (.slice none 0 0)], 2⟩]) ?_ (List.Perm.swap _ _ _)
  refine rs_call (pre := [entC a n P ca, entF b 29 n (fun _ => one1) n]) (ifCurveC_yes hn hP h1 hc ⟨Nat.le_refl _, by simp only [maxLen]; omega⟩) rfl rfl (Takes.same Takes.nil) rfl fun _ _ => ?_
  repeat first | refine zaa rfl (zaz rfl) ?_ | refine zaa rfl (zbz rfl rfl) ?_ | refine zah ?_ | (refine zcr ?_; refine zcs ?_) | (refine zdb ?_; refine zdg ?_) | (refine zag ?_; refine zan 2 rfl rfl rfl rfl rfl rfl rfl rfl rfl ?_)
  exact done_retCX rfl rfl ((a, b), ca) rfl rfl (mt (mt mh)) rfl rfl rfl hc (.cons_cons _ (.cons_cons _ (List.nil_sublist _)))
theorem isPlainN_fn {n : Nat} {P : Nat → CV} (hn : 2 ≤ n ∧ n ≤ 8) (hP : (tabC n P).all finC = true) (h1 : (tab n (fun _ => one1)).all aboveB = true) (h2 : ((tab n fun _ => one1).any fun x => cmpB .neq (fcmp .f32 x one1)) = false) : Fn Try.prog 29 (fun w => [crvA w n P (fun _ => one1)]) (.raw (.bool (decide (3 ≤ n)))) := by
  have hV := validCurve_yes hn hP h1
  have hD := degree_fn n P (fun _ => one1) (by omega)
  have hC := containsFunc_fn (tab n fun _ => one1) (by simp; omega) 57 _ isPlain1_fn
  rw [h2] at hC
  by_cases h3 : 3 ≤ n
  · rw [decide_eq_true h3]
    have d : decide ((2 : Int) ≤ (n : Int) - 1) = true := decide_eq_true (by omega)
    refine fn_intro Try.func29 rfl Try.ntmps29 (fun _ => Nat.le_of_ble_eq_true rfl) fun w0 => ?_
    repeat first | refine zai rfl rfl ?_ | refine zaa rfl (zay rfl) ?_ | refine zaa rfl (zaz rfl) ?_ | (refine zac ?_; refine zaa rfl (zbh rfl rfl) ?_) | (refine zae ?_; refine zaa rfl (zcg rfl rfl (by (repeat (first | exact mh | refine mt ?_)); done) rfl rfl) ?_) | refine zaa rfl (zca rfl rfl) ?_ | refine zah ?_ | (refine zcr ?_; refine zcs ?_) | (refine zdb ?_; first | refine zdc ?_ | refine zdd ?_) | (refine zak rfl rfl rfl ?_; intro g) | refine zaa rfl (zci rfl rfl hV (Takes.crv Takes.nil)) ?_ | refine zaa rfl (zci rfl rfl hD (Takes.crv Takes.nil)) ?_
    rw [d]
    repeat first | refine zai rfl rfl ?_ | refine zaa rfl (zaz rfl) ?_ | (refine zad ?_; (refine zaa rfl (zci rfl rfl (hC) ?_) ?_; (focus ((repeat (first | exact Takes.nil | refine Takes.sl ?_ | refine Takes.lit ?_ | refine Takes.fa ?_ | refine Takes.fc ?_ | refine Takes.net ?_ | (refine Takes.ownE ?_ ?_ ?_ ?_ ?_; (focus (exact ⟨_, _, (by (repeat (first | exact mh | refine mt ?_)); done)⟩)); (focus (simp; done)); (focus omega); (focus (simp only [maxLen]; omega))) | refine Takes.same ?_)); done)))) | (refine zae ?_; refine zaa rfl (zcf rfl rfl (by (repeat (first | exact mh | refine mt ?_)); done) rfl) ?_) | refine zaa rfl (zcd rfl) ?_ | refine zaa rfl (zca rfl rfl) ?_ | refine zaa rfl (zcc rfl) ?_ | refine zah ?_ | (refine zcr ?_; refine zcs ?_) | (refine zdb ?_; refine zdg ?_)
    exact done_ret1 rfl () rfl trivial (List.nil_sublist _)
  · rw [decide_eq_false h3]
    have d : decide ((2 : Int) ≤ (n : Int) - 1) = false := decide_eq_false (by omega)
    refine fn_intro Try.func29 rfl Try.ntmps29 (fun _ => Nat.le_of_ble_eq_true rfl) fun w0 => ?_
    repeat first | refine zai rfl rfl ?_ | refine zaa rfl (zay rfl) ?_ | refine zaa rfl (zaz rfl) ?_ | (refine zac ?_; refine zaa rfl (zbh rfl rfl) ?_) | (refine zae ?_; refine zaa rfl (zcg rfl rfl (by (repeat (first | exact mh | refine mt ?_)); done) rfl rfl) ?_) | refine zaa rfl (zca rfl rfl) ?_ | refine zah ?_ | (refine zcr ?_; refine zcs ?_) | (refine zdb ?_; first | refine zdc ?_ | refine zdd ?_) | (refine zak rfl rfl rfl ?_; intro g) | refine zaa rfl (zci rfl rfl hV (Takes.crv Takes.nil)) ?_ | refine zaa rfl (zci rfl rfl hD (Takes.crv Takes.nil)) ?_
    rw [d]
    repeat first | refine zaj rfl rfl rfl rfl ?_ | refine zaa rfl (zaz rfl) ?_ | refine zaa rfl (zcb rfl rfl) ?_ | refine zah ?_ | (refine zcr ?_; refine zcs ?_) | (refine zdb ?_; refine zdg ?_)
    exact done_ret1 rfl () rfl trivial (List.nil_sublist _)
def movedWd (T Tc : TypeId) (w0 : World) (g2 g4 g5 n b cb : Nat) (P : Nat → CV) (f : Int → FV) (P' : Nat → CV) (y : Nat × Nat × Nat) : World → Prop := match y.1 with
  | 0 => St w0 [] [⟨g5, Tc, [.raw (.slice none 0 0), .raw (.slice (some ⟨b, 0, none⟩) n cb)], 2⟩, entF b T n f cb, ⟨g4, Tc, [.raw (.slice none 0 0), .raw (.slice none 0 0)], 2⟩, ⟨g2, Tc, [slC w0 (tabC n P), AV.sl w0 1 ((tab n f).map (AV.f .f32))], 2⟩]
  | i + 1 => St w0 [] [⟨g5, Tc, [.raw (.slice (some ⟨y.2.1, 0, none⟩) (i + 1) y.2.2), .raw (.slice (some ⟨b, 0, none⟩) n cb)], 2⟩, entF b T n f cb, ⟨g4, Tc, [.raw (.slice none 0 0), .raw (.slice none 0 0)], 2⟩, ⟨g2, Tc, [slC w0 (tabC n P), AV.sl w0 1 ((tab n f).map (AV.f .f32))], 2⟩, entC y.2.1 (i + 1) P' y.2.2]
theorem moved_fn {n : Nat} {P : Nat → CV} {f : Int → FV} {c : FuncId} [HasBody Try.prog c] {x : AV} {mv : CV → CV} (hn : 1 ≤ n ∧ n ≤ 1000) (hc : ∀ i, i < n → Fn Try.prog c (fun w => [cA (P i), AV.ptrQ w [x]]) (cA (mv (P i)))) :
    FnH (X := (Nat × Nat) × Nat × Nat) Try.prog 35 (fun w => [crvA w n P f, clo w c x]) []
      (fun y => crvOc y.1.1 y.1.2 n y.2.1 y.2.2) (fun y => [entF y.1.2 29 n f y.2.2, entC y.1.1 n (fun i => mv (P i)) y.2.1]) (fun y => (n ≤ y.2.1 ∧ y.2.1 ≤ maxLen) ∧ n ≤ y.2.2 ∧ y.2.2 ≤ maxLen) := by
  have hF := cloneFU_fn n f (by omega) (by omega)
  obtain ⟨P', hP'⟩ : ∃ P' : Nat → CV, P' = fun i => mv (P i) := ⟨_, rfl⟩
  rw [← hP']
  refine fn_intro Try.func35 rfl Try.ntmps35 (fun _ => Nat.le_of_ble_eq_true rfl) fun w0 => ?_
  refine ws_q (t := 1) rfl fun v hv => ?_
  obtain ⟨gc, rfl, hp⟩ := hv
  repeat first | refine zaa rfl (zay rfl) ?_ | (refine zad ?_; first | refine zaa rfl (opj_lenC rfl) ?_ | (refine rs_call1 (hF) rfl rfl ?_ rfl ?_; (focus ((repeat (first | exact Takes.nil | refine Takes.sl ?_ | refine Takes.lit ?_ | refine Takes.fa ?_ | refine Takes.fc ?_ | refine Takes.net ?_ | (refine Takes.ownE ?_ ?_ ?_ ?_ ?_; (focus (exact ⟨_, _, (by (repeat (first | exact mh | refine mt ?_)); done)⟩)); (focus (simp; done)); (focus omega); (focus (simp only [maxLen]; omega))) | refine Takes.same ?_)); done)); rintro ⟨b, cb⟩ hcb)) | (refine zae ?_; refine zaa rfl (zcf rfl rfl (by (repeat (first | exact mh | refine mt ?_)); done) rfl) ?_) | refine zaa rfl (zcd rfl) ?_ | refine zah ?_ | (refine zcr ?_; refine zcs ?_) | (refine zdb ?_; first | refine zdc ?_ | refine zdd ?_ | refine zde ?_) | (refine zak rfl rfl rfl ?_; intro g) | (refine zal rfl rfl ?_; intro g) | (refine zag ?_; refine zan 0 rfl rfl rfl rfl rfl rfl rfl rfl rfl ?_) | refine zaa rfl (opj_buildW rfl) ?_
  rename_i g2 g4
  obtain ⟨g5, hg5⟩ : ∃ x, x = g := ⟨g, rfl⟩
  subst hg5
  refine ws_loop (ι := Nat × Nat × Nat) (fun y => [(1, .raw (.func (.func c) #[] #[.pointer (some ⟨gc, 0, none⟩)])), (2, .raw (.pointer (some ⟨g2, 0, none⟩))), (4, .raw (.pointer (some ⟨g4, 0, none⟩))), (5, .raw (.pointer (some ⟨g5, 0, none⟩))), (13, slC w0 (tabC n P)), (14, .raw (.int .i64 (n : Nat))), (15, .raw (.int .i64 (y.1 : Nat)))])
    (movedWd 29 27 w0 g2 g4 g5 n b cb P f P') (fun y => y.1 ≤ n ∧ y.1 ≤ y.2.2 ∧ y.2.2 ≤ maxLen) (fun y => n - y.1) (0, 0, 0) ⟨by simp only; omega, by simp only; omega, by simp only; omega⟩ ?_ (fun w h => ?_) (fun y hy => ?_)
  · (repeat (first | exact Env.sub_nil _ | refine Env.sub_cons rfl ?_))
  · exact h
  obtain ⟨i, a, ca⟩ := y
  simp only at hy ⊢
  obtain ⟨hi, hc1, hc2⟩ := hy
  simp only [maxLen] at hc1 hc2
  have hz : i < n → Fn Try.prog c (fun w => [cA (P (i : Int).toNat), AV.ptrQ w [x]]) (cA (mv (P (i : Int).toNat))) := fun h => hc i h
  cases i with
  | zero =>
    unfold movedWd
    dsimp only
    repeat first | (refine zac ?_; refine zaa rfl (zbe rfl rfl) ?_) | refine zah ?_ | (refine zcr ?_; refine zcs ?_) | (refine zdb ?_; first | refine zdc ?_ | refine zdd ?_)
    refine ws_cond rfl (fun hd => ?_) (fun hd => ?_)
    case' refine_2 =>
      exfalso
      have := of_decide_eq_false hd
      omega
    clear hd
    have hz := hz (by omega)
    repeat first | refine zaa rfl (zaz rfl) ?_ | (refine zae ?_; refine zaa rfl (zbu rfl rfl) ?_) | (refine zaf ?_; refine zaa rfl (opj_indexC rfl rfl (by omega) (by omega)) ?_) | refine zah ?_ | (refine zcr ?_; refine zcs ?_) | (refine zdb ?_; first | refine zdc ?_ | refine zdd ?_ | refine zde ?_ | refine zdf ?_)
    refine ws_draw (n := 6) mixed (by decide +kernel) ?_
    repeat first | refine zap rfl (zay rfl) ?_ | (refine zat ?_; refine zap rfl (zcf rfl rfl (by (repeat (first | exact mh | refine mt ?_)); done) rfl) ?_) | refine zap rfl (zcd rfl) ?_ | refine zav ?_ | refine zap rfl (opj_callC (cap := [.pointer (some ⟨gc, 0, none⟩)]) rfl rfl hz (Takes.same (Takes.ptrW hp Takes.nil))) ?_ | refine zap rfl (zco rfl rfl rfl rfl rfl rfl) ?_
    refine rs_appendNil2 (sz := 1) (m := 1) (ys := [cA (mv (P 0))]) rfl (by omega) rfl ⟨_, rfl, fun w v _ h => h.inv_p.2⟩ rfl (by omega) rfl (by simp only [maxLen]; omega) (by omega) rfl fun a' ca' h1 h2 => ?_
    rw [show mv (P 0) = P' 0 by rw [hP'], entC_one]
    repeat first | refine zaa rfl (zay rfl) ?_ | (refine zac ?_; refine zaa rfl (zbb rfl rfl (by omega)) ?_) | refine zaa rfl (zcd rfl) ?_ | refine zah ?_ | (refine zcr ?_; first | refine zcs ?_ | refine zcv ?_) | (refine zdb ?_; refine zdd ?_) | (refine zag ?_; refine zam 1 rfl rfl rfl rfl rfl rfl ?_)
    refine done_round (0 + 1, a', ca') ⟨by simp only; omega, h1, h2⟩ (by simp only; omega) ?_ (fun w h => ?_)
    · simp only
      (repeat (first | exact Env.sub_nil _ | refine Env.sub_cons rfl ?_))
    · exact h.perm (List.perm_append_comm (l₁ := [_, _, _, _]) (l₂ := [_]))
  | succ j =>
    unfold movedWd
    dsimp only
    repeat first | (refine zac ?_; refine zaa rfl (zbe rfl rfl) ?_) | refine zah ?_ | (refine zcr ?_; refine zcs ?_) | (refine zdb ?_; first | refine zdc ?_ | refine zdd ?_)
    refine ws_cond rfl (fun hd => ?_) (fun hd => ?_)
    case' refine_2 =>
      have hjn : n = j + 1 := by have := of_decide_eq_false hd; omega
      subst hjn
      repeat first | (refine zae ?_; refine zaa rfl (zcg rfl rfl (by (repeat (first | exact mh | refine mt ?_)); done) rfl rfl) ?_) | refine zah ?_ | (refine zcr ?_; first | refine zcs ?_ | refine zcu ?_ | refine zcx ?_ | refine zda ?_) | (refine zdb ?_; first | refine zdc ?_ | refine zdd ?_ | refine zdg ?_ | refine zdh ?_) | (refine zag ?_; refine zan 2 rfl rfl rfl rfl rfl rfl rfl rfl rfl ?_)
      exact done_retX rfl rfl ((a, b), ca, cb) rfl (mt (mt mh)) rfl rfl rfl ⟨⟨hc1, by simp only [maxLen]; omega⟩, hcb⟩ (.cons _ (.cons_cons _ (.cons _ (.cons _ (.cons_cons _ (List.nil_sublist _))))))
    have hlt : ((j + 1 : Nat) : Int) < (n : Int) := of_decide_eq_true hd
    clear hd
    have hz := hz (by omega)
    repeat first | refine zaa rfl (zaz rfl) ?_ | (refine zae ?_; refine zaa rfl (zbu rfl rfl) ?_) | (refine zaf ?_; refine zaa rfl (opj_indexC rfl rfl (by omega) (by omega)) ?_) | refine zah ?_ | (refine zcr ?_; refine zcs ?_) | (refine zdb ?_; first | refine zdc ?_ | refine zdd ?_ | refine zde ?_ | refine zdf ?_)
    refine ws_draw (n := 6) mixed (by decide +kernel) ?_
    repeat first | refine zap rfl (zay rfl) ?_ | (refine zat ?_; refine zap rfl (zcf rfl rfl (by (repeat (first | exact mh | refine mt ?_)); done) rfl) ?_) | refine zap rfl (zcd rfl) ?_ | refine zav ?_ | refine zap rfl (opj_callC (cap := [.pointer (some ⟨gc, 0, none⟩)]) rfl rfl hz (Takes.same (Takes.ptrW hp Takes.nil))) ?_ | refine zap rfl (zco rfl rfl rfl rfl rfl rfl) ?_
    refine rs_appendC 4 P' rfl rfl rfl rfl ⟨hc1, by simp only [maxLen]; omega⟩ (by omega) rfl rfl (by rw [hP']; rfl) (fun s _ => rfl) fun a' ca' h1 h2 => ?_
    repeat first | refine zaa rfl (zay rfl) ?_ | (refine zac ?_; refine zaa rfl (zbb rfl rfl (by omega)) ?_) | refine zaa rfl (zcd rfl) ?_ | refine zah ?_ | (refine zcr ?_; first | refine zcs ?_ | refine zcv ?_) | (refine zdb ?_; refine zdd ?_) | (refine zag ?_; refine zam 0 rfl rfl rfl rfl rfl rfl ?_)
    refine done_round (j + 1 + 1, a', ca') ⟨by simp only; omega, h1, h2⟩ (by simp only; omega) ?_ (fun w h => ?_)
    · simp only
      rw [show ((j + 1 + 1 : Nat) : Int) = ((j + 1 : Nat) : Int) + 1 by omega]
      (repeat (first | exact Env.sub_nil _ | refine Env.sub_cons rfl ?_))
    · exact h
theorem moveCurve1_fn (z by_ : CV) : Fn Try.prog 36 (fun w => [cA z, AV.ptrQ w [cA by_]]) (cA (addC2 z by_)) := by
  have hp := plus_fn z by_
  refine fn_intro Try.func36 rfl Try.ntmps36 (fun _ => Nat.le_of_ble_eq_true rfl) fun w0 => ?_
  repeat first | refine zaa rfl (zay rfl) ?_ | refine zaa rfl (zaz rfl) ?_ | (refine zad ?_; (refine zaa rfl (zci rfl rfl (hp) ?_) ?_; (focus ((repeat (first | exact Takes.nil | refine Takes.sl ?_ | refine Takes.lit ?_ | refine Takes.fa ?_ | refine Takes.fc ?_ | refine Takes.net ?_ | (refine Takes.ownE ?_ ?_ ?_ ?_ ?_; (focus (exact ⟨_, _, (by (repeat (first | exact mh | refine mt ?_)); done)⟩)); (focus (simp; done)); (focus omega); (focus (simp only [maxLen]; omega))) | refine Takes.same ?_)); done)))) | refine zah ?_ | (refine zcr ?_; refine zcs ?_) | (refine zdb ?_; first | refine zdc ?_ | refine zdd ?_ | refine zdg ?_) | refine zaa rfl (opj_loadZ rfl rfl rfl) ?_
  exact done_ret1 rfl () rfl trivial (List.nil_sublist _)
theorem moveCurve_fn {n : Nat} {P : Nat → CV} {f : Int → FV} {by_ : CV} (hn : 2 ≤ n ∧ n ≤ 8) (hP : (tabC n P).all finC = true) (hf : (tab n f).all aboveB = true) (hb : finC by_ = true) (hQ : (tabC n fun i => addC2 (P i) by_).all finC = true) :
    FnH (X := (Nat × Nat) × Nat × Nat) Try.prog 13 (fun w => [crvA w n P f, cA by_]) []
      (fun y => .tup [crvOc y.1.1 y.1.2 n y.2.1 y.2.2, .raw (.bool true)]) (fun y => [entF y.1.2 29 n f y.2.2, entC y.1.1 n (fun i => addC2 (P i) by_) y.2.1]) (fun y => (n ≤ y.2.1 ∧ y.2.1 ≤ maxLen) ∧ n ≤ y.2.2 ∧ y.2.2 ≤ maxLen) := by
  have hV := validCurve_yes hn hP hf
  have hI := isFiniteComplex_fn by_
  rw [hb] at hI
  have hM := moved_fn (n := n) (P := P) (f := f) (c := 36) (x := cA by_) (mv := fun z => addC2 z by_) (by omega) (fun i _ => moveCurve1_fn (P i) by_)
  refine fn_intro Try.func13 rfl Try.ntmps13 (fun _ => Nat.le_of_ble_eq_true rfl) fun w0 => ?_
  repeat first | refine zai rfl rfl ?_ | refine zaa rfl (zay rfl) ?_ | refine zaa rfl (zaz rfl) ?_ | (refine zad ?_; (refine zaa rfl (zci rfl rfl (hI) ?_) ?_; (focus ((repeat (first | exact Takes.nil | refine Takes.sl ?_ | refine Takes.lit ?_ | refine Takes.fa ?_ | refine Takes.fc ?_ | refine Takes.net ?_ | (refine Takes.ownE ?_ ?_ ?_ ?_ ?_; (focus (exact ⟨_, _, (by (repeat (first | exact mh | refine mt ?_)); done)⟩)); (focus (simp; done)); (focus omega); (focus (simp only [maxLen]; omega))) | refine Takes.same ?_)); done)))) | (refine zae ?_; first | refine zaa rfl (zcf rfl rfl (by (repeat (first | exact mh | refine mt ?_)); done) rfl) ?_ | refine zaa rfl (zcg rfl rfl (by (repeat (first | exact mh | refine mt ?_)); done) rfl rfl) ?_) | refine zaa rfl (zcb rfl rfl) ?_ | refine zaa rfl (zcc rfl) ?_ | refine zah ?_ | (refine zcr ?_; refine zcs ?_) | (refine zdb ?_; first | refine zdc ?_ | refine zdd ?_ | refine zdf ?_ | refine zdj rfl ?_) | (refine zak rfl rfl rfl ?_; intro g) | (refine zal rfl rfl ?_; intro g) | (refine rs_box1 rfl rfl (fun v w h => (oneAV_spec (x := cA by_) rfl h).1) rfl ?_; intro g3) | refine zaa rfl (zci rfl rfl hV (Takes.crv Takes.nil)) ?_ | refine zaa rfl (opj_makeFuncU rfl) ?_
  refine rs_callM3 hM rfl rfl (Takes.crv (Takes.clo (mt mh) Takes.nil)) rfl ?_
  rintro ⟨⟨a, b⟩, ca, cb⟩ ⟨h1, h2⟩
  dsimp only at h1 h2 ⊢
  refine rs_call (pre := [entF b 29 n f cb, entC a n (fun i => addC2 (P i) by_) ca]) (ifCurveD_yes hn hQ hf h1 h2) rfl rfl (Takes.same Takes.nil) rfl fun _ _ => ?_
  repeat first | refine zaa rfl (zaz rfl) ?_ | refine zaa rfl (zbz rfl rfl) ?_ | refine zah ?_ | (refine zcr ?_; refine zcs ?_) | (refine zdb ?_; refine zdg ?_) | (refine zag ?_; refine zan 2 rfl rfl rfl rfl rfl rfl rfl rfl rfl ?_)
  exact done_retCX rfl rfl ((a, b), ca, cb) rfl rfl (mt (mt mh)) rfl rfl rfl ⟨h1, h2⟩ (.cons_cons _ (.cons_cons _ (List.nil_sublist _)))
def mulE (p q : CV) : FV := fbin .sub .f64 (fbin .mul .f64 (fconv .f32 .f64 p.1) (fconv .f32 .f64 q.1)) (fbin .mul .f64 (fconv .f32 .f64 p.2) (fconv .f32 .f64 q.2))
def mulF (p q : CV) : FV := fbin .add .f64 (fbin .mul .f64 (fconv .f32 .f64 p.1) (fconv .f32 .f64 q.2)) (fbin .mul .f64 (fconv .f32 .f64 p.2) (fconv .f32 .f64 q.1))
def mulC (p q : CV) : CV := (fconv .f64 .f32 (mulE p q), fconv .f64 .f32 (mulF p q))
def MulOk (p q : CV) : Prop := ConvOk .f64 .f32 (mulE p q) ∧ ConvOk .f64 .f32 (mulF p q)
theorem times_fn (a b c d : FV) : Fn Try.prog 69 (fun _ => [.f .f64 a, .f .f64 b, .f .f64 c, .f .f64 d]) (.tup [.f .f64 (fbin .sub .f64 (fbin .mul .f64 a c) (fbin .mul .f64 b d)), .f .f64 (fbin .add .f64 (fbin .mul .f64 a d) (fbin .mul .f64 b c))]) := by
  refine fn_intro Try.func69 rfl Try.ntmps69 (fun _ => Nat.le_of_ble_eq_true rfl) fun w0 => ?_
  repeat first | refine zaa rfl (zay rfl) ?_ | refine zaa rfl (zaz rfl) ?_ | (refine zac ?_; refine zaa rfl (zba rfl rfl rfl) ?_) | refine zah ?_ | (refine zcr ?_; refine zcs ?_) | (refine zdb ?_; first | refine zdc ?_ | refine zdd ?_ | refine zdg ?_)
  exact done_ret2 rfl () rfl rfl rfl trivial (List.nil_sublist _)
theorem mulComplex_fn (p q : CV) (h : MulOk p q) : Fn Try.prog 42 (fun _ => [cA p, cA q]) (cA (mulC p q)) := by
  have h1 := parts_fn p
  have h2 := parts_fn q
  have h3 := times_fn (fconv .f32 .f64 p.1) (fconv .f32 .f64 p.2) (fconv .f32 .f64 q.1) (fconv .f32 .f64 q.2)
  obtain ⟨o1, o2⟩ := h
  unfold mulE at o1
  unfold mulF at o2
  refine fn_intro Try.func42 rfl Try.ntmps42 (fun _ => Nat.le_of_ble_eq_true rfl) fun w0 => ?_
  repeat first | refine zaa rfl (zay rfl) ?_ | refine zaa rfl (zaz rfl) ?_ | (refine zad ?_; first | refine zaa rfl (zbr rfl rfl) ?_ | (refine zaa rfl (zci rfl rfl (h1) ?_) ?_; (focus ((repeat (first | exact Takes.nil | refine Takes.sl ?_ | refine Takes.lit ?_ | refine Takes.fa ?_ | refine Takes.fc ?_ | refine Takes.net ?_ | (refine Takes.ownE ?_ ?_ ?_ ?_ ?_; (focus (exact ⟨_, _, (by (repeat (first | exact mh | refine mt ?_)); done)⟩)); (focus (simp; done)); (focus omega); (focus (simp only [maxLen]; omega))) | refine Takes.same ?_)); done))) | (refine zaa rfl (zci rfl rfl (h2) ?_) ?_; (focus ((repeat (first | exact Takes.nil | refine Takes.sl ?_ | refine Takes.lit ?_ | refine Takes.fa ?_ | refine Takes.fc ?_ | refine Takes.net ?_ | (refine Takes.ownE ?_ ?_ ?_ ?_ ?_; (focus (exact ⟨_, _, (by (repeat (first | exact mh | refine mt ?_)); done)⟩)); (focus (simp; done)); (focus omega); (focus (simp only [maxLen]; omega))) | refine Takes.same ?_)); done))) | (refine zaa rfl (zci rfl rfl (h3) ?_) ?_; (focus ((repeat (first | exact Takes.nil | refine Takes.sl ?_ | refine Takes.lit ?_ | refine Takes.fa ?_ | refine Takes.fc ?_ | refine Takes.net ?_ | (refine Takes.ownE ?_ ?_ ?_ ?_ ?_; (focus (exact ⟨_, _, (by (repeat (first | exact mh | refine mt ?_)); done)⟩)); (focus (simp; done)); (focus omega); (focus (simp only [maxLen]; omega))) | refine Takes.same ?_)); done)))) | refine zaa rfl (zbz rfl rfl) ?_ | refine zah ?_ | (refine zcr ?_; refine zcs ?_) | (refine zdb ?_; first | refine zdc ?_ | refine zdd ?_ | refine zdg ?_) | refine zaa rfl (opj_fconv rfl o1) ?_ | refine zaa rfl (opj_fconv rfl o2) ?_
  exact done_ret1 rfl () rfl trivial (List.nil_sublist _)
theorem turnCurve1_fn (z by_ : CV) (h : MulOk z by_) : Fn Try.prog 41 (fun w => [cA z, AV.ptrQ w [cA by_]]) (cA (mulC z by_)) := by
  have hp := mulComplex_fn z by_ h
  refine fn_intro Try.func41 rfl Try.ntmps41 (fun _ => Nat.le_of_ble_eq_true rfl) fun w0 => ?_
  repeat first | refine zaa rfl (zay rfl) ?_ | refine zaa rfl (zaz rfl) ?_ | (refine zad ?_; (refine zaa rfl (zci rfl rfl (hp) ?_) ?_; (focus ((repeat (first | exact Takes.nil | refine Takes.sl ?_ | refine Takes.lit ?_ | refine Takes.fa ?_ | refine Takes.fc ?_ | refine Takes.net ?_ | (refine Takes.ownE ?_ ?_ ?_ ?_ ?_; (focus (exact ⟨_, _, (by (repeat (first | exact mh | refine mt ?_)); done)⟩)); (focus (simp; done)); (focus omega); (focus (simp only [maxLen]; omega))) | refine Takes.same ?_)); done)))) | refine zah ?_ | (refine zcr ?_; refine zcs ?_) | (refine zdb ?_; first | refine zdc ?_ | refine zdd ?_ | refine zdg ?_) | refine zaa rfl (opj_loadZ rfl rfl rfl) ?_
  exact done_ret1 rfl () rfl trivial (List.nil_sublist _)
/-- By what a turned curve's points are multiplied. -/
def turnBy (t s : FV) : CV := scaleC (phasF (fconv .f32 .f64 t)) s
theorem turnCurve_fn {n : Nat} {P : Nat → CV} {f : Int → FV} {t s : FV} (hn : 2 ≤ n ∧ n ≤ 8) (hP : (tabC n P).all finC = true) (hf : (tab n f).all aboveB = true) (ht : finB t = true) (hs : finB s = true) (hM : ∀ i, i < n → MulOk (P i) (turnBy t s)) (hQ : (tabC n fun i => mulC (P i) (turnBy t s)).all finC = true) :
    FnH (X := (Nat × Nat) × Nat × Nat) Try.prog 14 (fun w => [crvA w n P f, .f .f32 t, .f .f32 s]) []
      (fun y => .tup [crvOc y.1.1 y.1.2 n y.2.1 y.2.2, .raw (.bool true)]) (fun y => [entF y.1.2 29 n f y.2.2, entC y.1.1 n (fun i => mulC (P i) (turnBy t s)) y.2.1]) (fun y => (n ≤ y.2.1 ∧ y.2.1 ≤ maxLen) ∧ n ≤ y.2.2 ∧ y.2.2 ≤ maxLen) := by
  have hV := validCurve_yes hn hP hf
  have hI := areFinite_fn [t, s] (show 2 < 2 ^ 62 by decide)
  rw [show [t, s].all finB = true by simp [ht, hs]] at hI
  have hPh := phasorOf_fn (fconv .f32 .f64 t)
  have hSc := scaleComplex_fn (phasF (fconv .f32 .f64 t)) s
  have hMv := moved_fn (n := n) (P := P) (f := f) (c := 41) (x := cA (turnBy t s)) (mv := fun z => mulC z (turnBy t s)) (by omega) (fun i hi => turnCurve1_fn (P i) (turnBy t s) (hM i hi))
  refine fn_intro Try.func14 rfl Try.ntmps14 (fun _ => Nat.le_of_ble_eq_true rfl) fun w0 => ?_
  repeat first | refine zai rfl rfl ?_ | refine zaa rfl (zay rfl) ?_ | refine zaa rfl (zaz rfl) ?_ | (refine zad ?_; first | (refine zaa rfl (zci rfl rfl (hI) ?_) ?_; (focus ((repeat (first | exact Takes.nil | refine Takes.sl ?_ | refine Takes.lit ?_ | refine Takes.fa ?_ | refine Takes.fc ?_ | refine Takes.net ?_ | (refine Takes.ownE ?_ ?_ ?_ ?_ ?_; (focus (exact ⟨_, _, (by (repeat (first | exact mh | refine mt ?_)); done)⟩)); (focus (simp; done)); (focus omega); (focus (simp only [maxLen]; omega))) | refine Takes.same ?_)); done))) | (refine zaa rfl (zci rfl rfl (hPh) ?_) ?_; (focus ((repeat (first | exact Takes.nil | refine Takes.sl ?_ | refine Takes.lit ?_ | refine Takes.fa ?_ | refine Takes.fc ?_ | refine Takes.net ?_ | (refine Takes.ownE ?_ ?_ ?_ ?_ ?_; (focus (exact ⟨_, _, (by (repeat (first | exact mh | refine mt ?_)); done)⟩)); (focus (simp; done)); (focus omega); (focus (simp only [maxLen]; omega))) | refine Takes.same ?_)); done))) | (refine zaa rfl (zci rfl rfl (hSc) ?_) ?_; (focus ((repeat (first | exact Takes.nil | refine Takes.sl ?_ | refine Takes.lit ?_ | refine Takes.fa ?_ | refine Takes.fc ?_ | refine Takes.net ?_ | (refine Takes.ownE ?_ ?_ ?_ ?_ ?_; (focus (exact ⟨_, _, (by (repeat (first | exact mh | refine mt ?_)); done)⟩)); (focus (simp; done)); (focus omega); (focus (simp only [maxLen]; omega))) | refine Takes.same ?_)); done)))) | (refine zae ?_; refine zaa rfl (zcg rfl rfl (by (repeat (first | exact mh | refine mt ?_)); done) rfl rfl) ?_) | refine zaa rfl (zbx rfl) ?_ | refine zaa rfl (zcb rfl rfl) ?_ | refine zaa rfl (zcc rfl) ?_ | refine zah ?_ | (refine zcr ?_; refine zcs ?_) | (refine zdb ?_; first | refine zdc ?_ | refine zdd ?_ | refine zdf ?_ | refine zdj rfl ?_) | (refine zak rfl rfl rfl ?_; intro g) | (refine zal rfl rfl ?_; intro g) | (refine zag ?_; refine zam 0 rfl rfl rfl rfl rfl rfl ?_) | refine zaa rfl (zci rfl rfl hV (Takes.crv Takes.nil)) ?_ | refine zaa rfl (zco rfl rfl rfl rfl rfl rfl) ?_ | refine zaa rfl (opj_makeFuncU rfl) ?_
  refine rs_callM3 hMv rfl rfl (Takes.crv (Takes.clo mh Takes.nil)) rfl ?_
  rintro ⟨⟨a, b⟩, ca, cb⟩ ⟨h1, h2⟩
  dsimp only at h1 h2 ⊢
  refine rs_call (pre := [entF b 29 n f cb, entC a n (fun i => mulC (P i) (turnBy t s)) ca]) (ifCurveD_yes hn hQ hf h1 h2) rfl rfl (Takes.same Takes.nil) rfl fun _ _ => ?_
  repeat first | refine zaa rfl (zaz rfl) ?_ | refine zaa rfl (zbz rfl rfl) ?_ | refine zah ?_ | (refine zcr ?_; refine zcs ?_) | (refine zdb ?_; refine zdg ?_) | (refine zag ?_; refine zan 3 rfl rfl rfl rfl rfl rfl rfl rfl rfl ?_)
  exact done_retCX rfl rfl ((a, b), ca, cb) rfl rfl (mt (mt (mt mh))) rfl rfl rfl ⟨h1, h2⟩ (.cons_cons _ (.cons_cons _ (List.nil_sublist _)))
end Go.Ab
