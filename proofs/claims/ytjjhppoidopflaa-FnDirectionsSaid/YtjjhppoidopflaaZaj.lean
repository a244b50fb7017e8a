/- Part 10 of the texts on which the law leans, joined: Near points: what they are apart, and how long they are, as the laws measure it. No conditions. -/
import Derived.Test.YtjjhppoidopflaaZai
namespace Go.Ab
open Go.Proofs
variable {R : World → Prop} [RStab R]
/-- The times of pieces. -/
def timeP (m : Nat) (k : Int) : FV := fbin .quo .f32 (some (FloatKind.f32.nearest k)) (some (FloatKind.f32.nearest (m : Int)))
def hwayF (a b : FV) : FV := fbin .quo .f32 (fbin .add .f32 a b) (fv .f32 1073741824)
def posF (x : FV) : Bool := cmpB .gtr (fcmp .f32 x (fv .f32 0))
def ngF (x : FV) : Bool := cmpB .lss (fcmp .f32 x (fv .f32 0))
def stepB (v : FV → FV) (up : Bool) (p : FV × FV) : FV × FV := match posF (v (hwayF p.1 p.2)) == up with
  | true => (hwayF p.1 p.2, p.2)
  | false => (p.1, hwayF p.1 p.2)
def bisS (v : FV → FV) (up : Bool) (p : FV × FV) : Nat → FV × FV
  | 0 => p
  | j + 1 => stepB v up (bisS v up p j)
def bisOk (ok : FV → Bool) (v : FV → FV) (up : Bool) (p : FV × FV) : Nat → Bool
  | 0 => true
  | j + 1 => bisOk ok v up p j && ok (hwayF (bisS v up p j).1 (bisS v up p j).2)
theorem bisOk_of {ok : FV → Bool} {v : FV → FV} {up : Bool} {p : FV × FV} : ∀ {n : Nat}, bisOk ok v up p n = true → ∀ j, j < n → ok (hwayF (bisS v up p j).1 (bisS v up p j).2) = true
  | n + 1, h, j, hj => by
    simp only [bisOk, Bool.and_eq_true] at h
    rcases Nat.lt_or_ge j n with h1 | h1
    · exact bisOk_of h.1 j h1
    · obtain rfl : j = n := by omega
      exact h.2
def chgB (v : FV → FV) (m : Nat) (k : Int) : Bool := (posF (v (timeP m k)) && ngF (v (timeP m (k + 1)))) || (ngF (v (timeP m k)) && posF (v (timeP m (k + 1))))
def pairB (m : Nat) (k : Int) : FV × FV := (timeP m k, timeP m (k + 1))
def lowB (v : FV → FV) (m : Nat) (k : Int) : FV := (bisS v (posF (v (timeP m k))) (pairB m k) 20).1
def cntB (v : FV → FV) (m : Nat) : Nat → Nat
  | 0 => 0
  | k + 1 => match chgB v m k with
    | true => cntB v m k + 1
    | false => cntB v m k
def putB (i : Nat) (x : FV) (f : Int → FV) (t : Int) : FV := if t = i then x else f t
def fnB (v : FV → FV) (m : Nat) : Nat → Int → FV
  | 0 => fun _ => fv .f32 0
  | k + 1 => match chgB v m k with
    | true => putB (cntB v m k) (lowB v m k) (fnB v m k)
    | false => fnB v m k
theorem cntB_le (v : FV → FV) (m : Nat) : ∀ k, cntB v m k ≤ k
  | 0 => Nat.le_refl _
  | k + 1 => by
    have := cntB_le v m k
    unfold cntB
    cases chgB v m k <;> simp only <;> omega
def chgOk (ok : FV → Bool) (v : FV → FV) (m : Nat) : Bool := allLt (fun k => ok (timeP m k)) (m + 1) && allLt (fun k => !(chgB v m k) || bisOk ok v (posF (v (timeP m k))) (pairB m k) 20) m
/-- A closure over one curve. -/
def cloC (w : World) (c : FuncId) (n : Nat) (P : Nat → CV) (f : Int → FV) : AV := .q fun v => ∃ g, v = .func (.func c) #[] #[.pointer (some ⟨g, 0, none⟩)] ∧ PtrTo [slC w (tabC n P), AV.sl w 1 ((tab n f).map (AV.f .f32))] w (.pointer (some ⟨g, 0, none⟩))
section
variable {w0 : World} {gs : List Nat} {H : List Ent} {args : List AV} {A' : World → List AV}
theorem Takes.cloCi {R0 : World → Prop} {n g k : Nat} {T : TypeId} {c : FuncId} {P : Nat → CV} {f : Int → FV} (hm : (⟨g, T, [slC w0 (tabC n P), AV.sl w0 1 ((tab n f).map (AV.f .f32))], k⟩ : Ent) ∈ H) (h : Takes (StR R0 w0 [] H) args A') :
    Takes (StR R0 w0 [] H) (.raw (.func (.func c) #[] #[.pointer (some ⟨g, 0, none⟩)]) :: args) (fun w => Go.Ab.cloC w c n P f :: A' w) := fun w vs hS hr => by
  obtain ⟨v, r, rfl, hv, hrr⟩ := hr.inv_cons
  rw [hv.inv_raw]
  have := Takes.crvZi hm (Takes.nil (S := StR R0 w0 [] H)) w [.pointer (some ⟨g, 0, none⟩)] hS (.cons .raw .nil)
  obtain ⟨v', r', e, hv', _⟩ := this.inv_cons
  cases e
  exact .cons (.q ⟨g, rfl, hv'.inv_q⟩) (h w r hS hrr)
theorem Takes.cloCo {R0 : World → Prop} {n g k a b ca cb : Nat} {T T' : TypeId} {c : FuncId} {F : Nat → CV} {f : Int → FV} (hm : (⟨g, T, [.raw (.slice (some ⟨a, 0, none⟩) n ca), .raw (.slice (some ⟨b, 0, none⟩) n cb)], k⟩ : Ent) ∈ H) (ha : entC a n F ca ∈ H) (hb : entF b T' n f cb ∈ H) (h1 : n ≤ ca ∧ ca ≤ maxLen) (h2 : n ≤ cb ∧ cb ≤ maxLen) (h : Takes (StR R0 w0 gs H) args A') :
    Takes (StR R0 w0 gs H) (.raw (.func (.func c) #[] #[.pointer (some ⟨g, 0, none⟩)]) :: args) (fun w => Go.Ab.cloC w c n F f :: A' w) := fun w vs hS hr => by
  obtain ⟨v, r, rfl, hv, hrr⟩ := hr.inv_cons
  rw [hv.inv_raw]
  have := Takes.crvZo hm ha hb h1 h2 (Takes.nil (S := StR R0 w0 gs H)) w [.pointer (some ⟨g, 0, none⟩)] hS (.cons .raw .nil)
  obtain ⟨v', r', e, hv', _⟩ := this.inv_cons
  cases e
  exact .cons (.q ⟨g, rfl, hv'.inv_q⟩) (h w r hS hrr)
theorem Takes.crvW {R0 : World → Prop} {p : Value} {n : Nat} {P : Nat → CV} {f : Int → FV} (hp : PtrTo [slC w0 (tabC n P), AV.sl w0 1 ((tab n f).map (AV.f .f32))] w0 p) (h : Takes (StR R0 w0 [] H) args A') :
    Takes (StR R0 w0 [] H) (.raw p :: args) (fun w => crvQ w n P f :: A' w) := fun w vs hS hr => by
  obtain ⟨v, r, rfl, hv, hrr⟩ := hr.inv_cons
  rw [hv.inv_raw]
  obtain ⟨b, hb, hs, hc⟩ := mono_ptrTo _ _ _ _ hS.ext0 hp
  refine .cons (.q ⟨b, hb, hs, fun i x hx => ?_⟩) (h w r hS hrr)
  match i, hx with
  | 0, hx =>
    cases hx
    obtain ⟨u, hu, hev⟩ := hc 0 _ rfl
    exact ⟨u, hu, fun w' => .q (hS.rd (hev w').inv_q)⟩
  | 1, hx =>
    cases hx
    obtain ⟨u, hu, hev⟩ := hc 1 _ rfl
    exact ⟨u, hu, fun w' => .q (hS.rd (hev w').inv_q)⟩
end
section
variable {P : Program} {N : Nat} {S : World → Prop} {e : Env} {Q : Exit → Env → World → Prop} {ops : Array Oper} {l : List Oper}
theorem RS.weakS {e' : Env} (h : RS P N ops l e' S Q) (he : Env.sub e' e) : RS P N ops l e S Q := fun a w hw hF => h a w hw (hF.sub he)
end
attribute [local irreducible] WS RS Done OpJ Then InBlock Round Ret Env.sub FnH
attribute [local irreducible] tab tabC
theorem arePieces_yes (m : Int) (hm : 1 ≤ m ∧ m ≤ 64) : Fn Try.prog 44 (fun _ => [.raw (.int .i64 m)]) (.raw (.bool true)) := by
  have hW := within_fn m 1 64
  rw [decide_eq_true hm.1, decide_eq_true hm.2] at hW
  refine fn_intro Try.func44 rfl Try.ntmps44 (fun _ => Nat.le_of_ble_eq_true rfl) fun w0 => ?_
  repeat first | refine zaa rfl (zay rfl) ?_ | refine zaa rfl (zaz rfl) ?_ | (refine zad ?_; (refine zaa rfl (zci rfl rfl (hW) ?_) ?_; (focus ((repeat (first | exact Takes.nil | refine Takes.sl ?_ | refine Takes.lit ?_ | refine Takes.fa ?_ | refine Takes.fc ?_ | refine Takes.net ?_ | (refine Takes.ownE ?_ ?_ ?_ ?_ ?_; (focus (exact ⟨_, _, (by (repeat (first | exact mh | refine mt ?_)); done)⟩)); (focus (simp; done)); (focus omega); (focus (simp only [maxLen]; omega))) | refine Takes.same ?_)); done)))) | refine zah ?_ | (refine zcr ?_; refine zcs ?_) | (refine zdb ?_; first | refine zdc ?_ | refine zdd ?_ | refine zdg ?_)
  exact done_ret1 rfl () rfl trivial (List.nil_sublist _)
theorem pieceTimes_fn (m : Nat) (hm : m ≤ 64) :
    FnH (X := Nat × Nat) Try.prog 51 (fun _ => [.raw (.int .i64 m)]) [] (fun y => .raw (.slice (some ⟨y.1, 0, none⟩) (m + 1) y.2)) (fun y => [entF y.1 30 (m + 1) (timeP m) y.2]) (fun y => m + 1 ≤ y.2 ∧ y.2 ≤ maxLen) := by
  refine fn_intro Try.func51 rfl Try.ntmps51 (fun _ => Nat.le_of_ble_eq_true rfl) fun w0 => ?_
  repeat first | refine zaa rfl (zay rfl) ?_ | refine zaa rfl (zaz rfl) ?_ | (refine zac ?_; refine zaa rfl (zbb rfl rfl (by omega)) ?_) | refine zah ?_ | (refine zcr ?_; refine zcs ?_) | (refine zdb ?_; first | refine zdc ?_ | refine zdd ?_ | refine zde ?_) | (refine rs_lit0 rfl ?_; intro g0)
  rw [entF_nilU (f := timeP m)]
  refine ws_loop (ι := Nat × Nat × Nat) (fun y => [(0, .raw (.int .i64 m)), (3, .raw (.slice (some ⟨y.2.1, 0, none⟩) y.1 y.2.2)), (7, .raw (.int .i64 ((m : Int) + 1))), (8, .raw (.int .i64 (y.1 : Nat)))])
    (fun y => St w0 [] [entF y.2.1 30 y.1 (timeP m) y.2.2]) (fun y => y.1 ≤ m + 1 ∧ y.1 ≤ y.2.2 ∧ y.2.2 ≤ maxLen) (fun y => m + 1 - y.1) (0, g0, 0) ⟨by simp only; omega, by simp only; omega, by simp only; omega⟩ ?_ (fun _ h => h) (fun y hy => ?_)
  · (repeat (first | exact Env.sub_nil _ | refine Env.sub_cons rfl ?_))
  obtain ⟨k, a, ca⟩ := y
  simp only at hy ⊢
  obtain ⟨hk, hc1, hc2⟩ := hy
  simp only [maxLen] at hc1 hc2
  repeat first | (refine zac ?_; refine zaa rfl (zbe rfl rfl) ?_) | refine zah ?_ | (refine zcr ?_; refine zcs ?_) | (refine zdb ?_; first | refine zdc ?_ | refine zdd ?_)
  refine ws_cond rfl (fun hd => ?_) (fun hd => ?_)
  case' refine_2 =>
    have hk5 : k = m + 1 := by have := of_decide_eq_false hd; omega
    subst hk5
    repeat first | refine zaa rfl (zay rfl) ?_ | refine zaa rfl (zaz rfl) ?_ | refine zah ?_ | (refine zcr ?_; first | refine zcs ?_ | refine zcu ?_ | refine zcx ?_ | refine zda ?_) | (refine zdb ?_; first | refine zdc ?_ | refine zdd ?_ | refine zdg ?_ | refine zdh ?_)
    exact done_ret1 rfl (a, ca) rfl ⟨hc1, by simp only [maxLen]; omega⟩ (List.Sublist.refl _)
  have hlt : (k : Int) < (m : Int) + 1 := of_decide_eq_true hd
  clear hd
  repeat first | refine zaa rfl (zay rfl) ?_ | refine zaa rfl (zaz rfl) ?_ | (refine zac ?_; refine zaa rfl (zba rfl rfl rfl) ?_) | refine zaa rfl (zby rfl) ?_ | refine zah ?_ | (refine zcr ?_; refine zcs ?_) | (refine zdb ?_; first | refine zdc ?_ | refine zdd ?_ | refine zde ?_ | refine zdf ?_) | refine zaa rfl (zco rfl rfl rfl rfl rfl rfl) ?_
  refine rs_appendT 0 (timeP m) rfl rfl rfl rfl ⟨hc1, by simp only [maxLen]; omega⟩ (by omega) rfl rfl rfl (fun s _ _ => rfl) fun a' ca' h1 h2 => ?_
  repeat first | refine zaa rfl (zay rfl) ?_ | refine zaa rfl (zaz rfl) ?_ | (refine zac ?_; refine zaa rfl (zbb rfl rfl (by omega)) ?_) | refine zah ?_ | (refine zcr ?_; first | refine zcs ?_ | refine zcv ?_) | (refine zdb ?_; refine zdd ?_)
  refine done_round (k + 1, a', ca') ⟨by simp only; omega, h1, h2⟩ (by simp only; omega) ?_ (fun _ h => h)
  simp only
  rw [show ((k + 1 : Nat) : Int) = (k : Int) + 1 by omega]
  (repeat (first | exact Env.sub_nil _ | refine Env.sub_cons rfl ?_))
set_option maxRecDepth 100000 in
set_option maxHeartbeats 4000000 in
theorem changes_fn {m n : Nat} {P : Nat → CV} {f : Int → FV} {fc : FuncId} [HasBody Try.prog fc] {ok : FV → Bool} {v : FV → FV} (hm : 1 ≤ m ∧ m ≤ 64) (hcc : ∀ t, ok t = true → Fn Try.prog fc (fun w => [.f .f32 t, crvQ w n P f]) (.tup [.f .f32 (v t), .raw (.bool true)])) (hok : chgOk ok v m = true) :
    FnH (X := Nat × Nat) Try.prog 45 (fun w => [.raw (.int .i64 m), cloC w fc n P f]) [] (fun y => .tup [.raw (.slice (some ⟨y.1, 0, none⟩) (cntB v m m) y.2), .raw (.bool true)]) (fun y => [entF y.1 30 (cntB v m m) (fnB v m m) y.2]) (fun y => cntB v m m ≤ y.2 ∧ y.2 ≤ maxLen) := by
  have hT := pieceTimes_fn m hm.2
  unfold chgOk at hok
  rw [Bool.and_eq_true] at hok
  obtain ⟨hok1, hok2⟩ := hok
  have hk1 := allLt_of hok1
  have hk2 := allLt_of hok2
  clear hok1 hok2
  obtain ⟨V, hV⟩ : ∃ V : Int → FV, V = fun k => v (timeP m k) := ⟨_, rfl⟩
  refine fn_intro Try.func45 rfl Try.ntmps45 (fun _ => Nat.le_of_ble_eq_true rfl) fun w0 => ?_
  refine ws_q (t := 1) rfl fun v' hv => ?_
  obtain ⟨gc, rfl, hp⟩ := hv
  repeat first | refine zaa rfl (zay rfl) ?_ | refine zaa rfl (zaz rfl) ?_ | (refine zad ?_; first | refine zaa rfl (zbn rfl) ?_ | (refine rs_call1 (hT) rfl rfl ?_ rfl ?_; (focus ((repeat (first | exact Takes.nil | refine Takes.sl ?_ | refine Takes.lit ?_ | refine Takes.fa ?_ | refine Takes.fc ?_ | refine Takes.net ?_ | (refine Takes.ownE ?_ ?_ ?_ ?_ ?_; (focus (exact ⟨_, _, (by (repeat (first | exact mh | refine mt ?_)); done)⟩)); (focus (simp; done)); (focus omega); (focus (simp only [maxLen]; omega))) | refine Takes.same ?_)); done)); rintro ⟨g6, c6⟩ ⟨hc61, hc62⟩; simp only [maxLen] at hc61 hc62)) | refine zah ?_ | (refine zcr ?_; refine zcs ?_) | (refine zdb ?_; first | refine zdc ?_ | refine zdd ?_ | refine zde ?_) | (refine rs_lit0 rfl ?_; intro g0)
  rw [entF_nilU (f := V)]
  refine ws_loop (ι := Nat × Nat × Nat) (fun y => [(0, .raw (.int .i64 m)), (1, .raw (.func (.func fc) #[] #[.pointer (some ⟨gc, 0, none⟩)])), (6, .raw (.slice (some ⟨g6, 0, none⟩) (m + 1) c6)), (7, .raw (.slice (some ⟨y.2.1, 0, none⟩) y.1 y.2.2)), (24, .raw (.slice (some ⟨g6, 0, none⟩) (m + 1) c6)), (25, .raw (.int .i64 ((m + 1 : Nat) : Int))), (26, .raw (.int .i64 (y.1 : Nat)))])
    (fun y => St w0 [] [entF y.2.1 30 y.1 V y.2.2, entF g6 30 (m + 1) (timeP m) c6]) (fun y => y.1 ≤ m + 1 ∧ y.1 ≤ y.2.2 ∧ y.2.2 ≤ maxLen) (fun y => m + 1 - y.1) (0, g0, 0) ⟨by simp only; omega, by simp only; omega, by simp only; omega⟩ ?_ (fun _ h => h) (fun y hy => ?_)
  · (repeat (first | exact Env.sub_nil _ | refine Env.sub_cons rfl ?_))
  obtain ⟨k, gv, cv⟩ := y
  simp only at hy ⊢
  obtain ⟨hk, hcv1, hcv2⟩ := hy
  simp only [maxLen] at hcv1 hcv2
  repeat first | (refine zac ?_; refine zaa rfl (zbe rfl rfl) ?_) | refine zah ?_ | (refine zcr ?_; refine zcs ?_) | (refine zdb ?_; first | refine zdc ?_ | refine zdd ?_)
  refine ws_cond rfl (fun hd => ?_) (fun hd => ?_)
  case' refine_1 =>
    have hlt : (k : Int) < ((m + 1 : Nat) : Int) := of_decide_eq_true hd
    clear hd
    have hz := hcc (timeP m k) (hk1 k (by omega))
    repeat first | refine zaa rfl (zay rfl) ?_ | refine zaa rfl (zaz rfl) ?_ | (refine zae ?_; refine zaa rfl (zbt rfl rfl (by (repeat (first | exact mh | refine mt ?_)); done) (by omega)) ?_) | (refine zaf ?_; refine zaa rfl (zbw rfl rfl (by omega) (by omega)) ?_) | refine zaa rfl (zbz rfl rfl) ?_ | refine zaa rfl (zcc rfl) ?_ | refine zah ?_ | (refine zcr ?_; refine zcs ?_) | (refine zdb ?_; first | refine zdc ?_ | refine zdd ?_ | refine zde ?_ | refine zdf ?_ | refine zdj rfl ?_) | refine zaa rfl (opj_callC (cap := [.pointer (some ⟨gc, 0, none⟩)]) rfl rfl hz (Takes.same (Takes.crvW hp Takes.nil))) ?_ | refine zaa rfl (zco rfl rfl rfl rfl rfl rfl) ?_
    refine rs_appendT 0 V rfl rfl rfl rfl ⟨hcv1, by simp only [maxLen]; omega⟩ (by omega) rfl rfl (by rw [hV]) (fun s _ _ => rfl) fun a' ca' h1 h2 => ?_
    repeat first | refine zaa rfl (zay rfl) ?_ | refine zaa rfl (zaz rfl) ?_ | (refine zac ?_; refine zaa rfl (zbb rfl rfl (by omega)) ?_) | refine zah ?_ | (refine zcr ?_; first | refine zcs ?_ | refine zcv ?_) | (refine zdb ?_; refine zdd ?_)
    refine done_round (k + 1, a', ca') ⟨by simp only; omega, h1, h2⟩ (by simp only; omega) ?_ (fun _ h => h)
    simp only
    rw [show ((k + 1 : Nat) : Int) = (k : Int) + 1 by omega]
    (repeat (first | exact Env.sub_nil _ | refine Env.sub_cons rfl ?_))
  have hkm : k = m + 1 := by have := of_decide_eq_false hd; omega
  subst hkm
  clear hd
  repeat first | refine zaa rfl (zay rfl) ?_ | refine zaa rfl (zaz rfl) ?_ | refine zah ?_ | (refine zcr ?_; first | refine zcs ?_ | refine zcu ?_ | refine zcx ?_ | refine zda ?_) | (refine zdb ?_; first | refine zdc ?_ | refine zdd ?_ | refine zde ?_ | refine zdh ?_) | (refine rs_lit0 rfl ?_; intro g1)
  rw [entF_nilU (f := fun _ => fv .f32 0)]
  refine ws_loop (ι := Nat × Nat × Nat) (fun y => [(0, .raw (.int .i64 m)), (1, .raw (.func (.func fc) #[] #[.pointer (some ⟨gc, 0, none⟩)])), (6, .raw (.slice (some ⟨g6, 0, none⟩) (m + 1) c6)), (7, .raw (.slice (some ⟨gv, 0, none⟩) (m + 1) cv)), (12, .raw (.slice (some ⟨y.2.1, 0, none⟩) (cntB v m y.1) y.2.2)), (44, .raw (.int .i64 m)), (45, .raw (.int .i64 (y.1 : Nat)))])
    (fun y => St w0 [] [entF y.2.1 30 (cntB v m y.1) (fnB v m y.1) y.2.2, entF gv 30 (m + 1) V cv, entF g6 30 (m + 1) (timeP m) c6]) (fun y => y.1 ≤ m ∧ cntB v m y.1 ≤ y.2.2 ∧ y.2.2 ≤ maxLen) (fun y => m - y.1) (0, g1, 0) ⟨by simp only; omega, by simp only [cntB]; omega, by simp only; omega⟩ ?_ (fun _ h => h) (fun y hy => ?_)
  · (repeat (first | exact Env.sub_nil _ | refine Env.sub_cons rfl ?_))
  obtain ⟨k, a, ca⟩ := y
  simp only at hy ⊢
  obtain ⟨hk, hc1, hc2⟩ := hy
  simp only [maxLen] at hc1 hc2
  have hcl := cntB_le v m k
  repeat first | (refine zac ?_; refine zaa rfl (zbe rfl rfl) ?_) | refine zah ?_ | (refine zcr ?_; refine zcs ?_) | (refine zdb ?_; first | refine zdc ?_ | refine zdd ?_)
  refine ws_cond rfl (fun hd => ?_) (fun hd => ?_)
  case' refine_2 =>
    have hkm : k = m := by have := of_decide_eq_false hd; omega
    subst hkm
    repeat first | refine zaa rfl (zay rfl) ?_ | refine zaa rfl (zaz rfl) ?_ | refine zah ?_ | (refine zcr ?_; first | refine zcs ?_ | refine zcu ?_ | refine zcx ?_ | refine zda ?_) | (refine zdb ?_; first | refine zdc ?_ | refine zdd ?_ | refine zdg ?_ | refine zdh ?_)
    exact done_ret2 rfl (a, ca) rfl rfl rfl ⟨hc1, by simp only [maxLen]; omega⟩ (.cons_cons _ (List.nil_sublist _))
  have hlt : (k : Int) < (m : Int) := of_decide_eq_true hd
  clear hd
  have eV0 : V (k : Int) = v (timeP m k) := by rw [hV]
  have eV1 : V ((k : Int) + 1) = v (timeP m ((k : Int) + 1)) := by rw [hV]
  repeat first | refine zaa rfl (zay rfl) ?_ | refine zaa rfl (zaz rfl) ?_ | refine zah ?_ | (refine zcr ?_; refine zcs ?_) | (refine zdb ?_; first | refine zdc ?_ | refine zdd ?_ | refine zde ?_ | refine zdf ?_)
  refine ws_draw (n := 11) mixed (by decide +kernel) ?_
  repeat first | refine zap rfl (zay rfl) ?_ | refine zap rfl (zaz rfl) ?_ | (refine zar ?_; refine zap rfl (zbb rfl rfl (by omega)) ?_) | (refine zat ?_; refine zap rfl (zbt rfl rfl (by (repeat (first | exact mh | refine mt ?_)); done) (by omega)) ?_) | (refine zau ?_; refine zap rfl (zbw rfl rfl (by omega) (by omega)) ?_) | refine zav ?_
  rw [eV0, eV1]
  obtain ⟨T0, hT0⟩ : ∃ T0, T0 = timeP m k := ⟨_, rfl⟩
  obtain ⟨T1, hT1⟩ : ∃ T1, T1 = timeP m ((k : Int) + 1) := ⟨_, rfl⟩
  have hb2 := hk2 k (by omega)
  rw [← hT0, ← hT1]
  refine RS.weakS (e' := [(14, .f .f32 (v T0)), (15, .f .f32 (v T1)), (13, .raw (.int .i64 (k : Nat))), (0, .raw (.int .i64 m)), (1, .raw (.func (.func fc) #[] #[.pointer (some ⟨gc, 0, none⟩)])), (6, .raw (.slice (some ⟨g6, 0, none⟩) (m + 1) c6)), (7, .raw (.slice (some ⟨gv, 0, none⟩) (m + 1) cv)), (12, .raw (.slice (some ⟨a, 0, none⟩) (cntB v m k) ca)), (44, .raw (.int .i64 m)), (45, .raw (.int .i64 (k : Nat)))]) ?_ ?_
  rotate_left
  · (repeat (first | exact Env.sub_nil _ | refine Env.sub_cons rfl ?_))
  repeat' first | refine zai rfl rfl ?_ | refine zaj rfl rfl rfl rfl ?_ | refine zaa rfl (zay rfl) ?_ | (refine zac ?_; first | refine zaa rfl (zbb rfl rfl (by omega)) ?_ | (refine zab rfl (zbd rfl rfl rfl) ?_; intro c hc)) | refine zaa rfl (zca rfl rfl) ?_ | refine zaa rfl (zcb rfl rfl) ?_ | refine zaa rfl (zcc rfl) ?_ | refine zah ?_ | (refine zcr ?_; first | refine zcs ?_ | refine zcu ?_ | refine zcx ?_) | (refine zdb ?_; first | refine zdc ?_ | refine zdd ?_ | refine zdf ?_ | refine zdh ?_ | refine zdi rfl ?_ | refine zdj rfl ?_) | refine rs_nu rfl rfl rfl ?_ | cases c
  all_goals first
    | (have hC : chgB v m k = false := by (unfold chgB posF ngF; rw [← hT0, ← hT1]; (first | rw [show cmpB .gtr (fcmp .f32 (v T0) (fv .f32 0)) = true by assumption] | rw [show cmpB .gtr (fcmp .f32 (v T0) (fv .f32 0)) = false by assumption] | skip); (first | rw [show cmpB .lss (fcmp .f32 (v T1) (fv .f32 0)) = true by assumption] | rw [show cmpB .lss (fcmp .f32 (v T1) (fv .f32 0)) = false by assumption] | skip); (first | rw [show cmpB .lss (fcmp .f32 (v T0) (fv .f32 0)) = true by assumption] | rw [show cmpB .lss (fcmp .f32 (v T0) (fv .f32 0)) = false by assumption] | skip); (first | rw [show cmpB .gtr (fcmp .f32 (v T1) (fv .f32 0)) = true by assumption] | rw [show cmpB .gtr (fcmp .f32 (v T1) (fv .f32 0)) = false by assumption] | skip); rfl)
       have e1 : cntB v m (k + 1) = cntB v m k := by simp only [cntB, hC]
       have e2 : fnB v m (k + 1) = fnB v m k := by simp only [fnB, hC]
       refine done_round (k + 1, a, ca) ⟨by simp only; omega, by simp only [e1]; omega, by simp only [maxLen]; omega⟩ (by simp only; omega) ?_ ?_
       · simp only [e1]
         rw [show ((k + 1 : Nat) : Int) = (k : Int) + 1 by omega]
         (repeat (first | exact Env.sub_nil _ | refine Env.sub_cons rfl ?_))
       · intro w h
         simp only [e1, e2]
         exact h)
    | skip
  all_goals
    have hC : chgB v m k = true := by (unfold chgB posF ngF; rw [← hT0, ← hT1]; (first | rw [show cmpB .gtr (fcmp .f32 (v T0) (fv .f32 0)) = true by assumption] | rw [show cmpB .gtr (fcmp .f32 (v T0) (fv .f32 0)) = false by assumption] | skip); (first | rw [show cmpB .lss (fcmp .f32 (v T1) (fv .f32 0)) = true by assumption] | rw [show cmpB .lss (fcmp .f32 (v T1) (fv .f32 0)) = false by assumption] | skip); (first | rw [show cmpB .lss (fcmp .f32 (v T0) (fv .f32 0)) = true by assumption] | rw [show cmpB .lss (fcmp .f32 (v T0) (fv .f32 0)) = false by assumption] | skip); (first | rw [show cmpB .gtr (fcmp .f32 (v T1) (fv .f32 0)) = true by assumption] | rw [show cmpB .gtr (fcmp .f32 (v T1) (fv .f32 0)) = false by assumption] | skip); rfl)
    rw [hC] at hb2
    have hb : bisOk ok v (posF (v T0)) (T0, T1) 20 = true := by rw [hT0, hT1]; exact hb2
    have hbj := bisOk_of hb
    have hlow : lowB v m k = (bisS v (posF (v T0)) (T0, T1) 20).1 := by rw [hT0, hT1]; rfl
    clear hb2 hb
    refine ws_draw (n := 11) mixed (by decide +kernel) ?_
    repeat first | refine zap rfl (zay rfl) ?_ | refine zap rfl (zaz rfl) ?_ | (refine zar ?_; refine zap rfl (zbb rfl rfl (by omega)) ?_) | (refine zat ?_; refine zap rfl (zbt rfl rfl (by (repeat (first | exact mh | refine mt ?_)); done) (by omega)) ?_) | (refine zau ?_; refine zap rfl (zbw rfl rfl (by omega) (by omega)) ?_) | refine zav ?_
    rw [← hT0, ← hT1]
    repeat first | refine zaa rfl (zay rfl) ?_ | refine zah ?_ | (refine zcr ?_; refine zcs ?_) | (refine zdb ?_; first | refine zdc ?_ | refine zdd ?_ | refine zde ?_)
    refine ws_loop (ι := Nat) (fun j => [(13, .raw (.int .i64 (k : Nat))), (14, .f .f32 (v T0)), (16, .f .f32 (bisS v (posF (v T0)) (T0, T1) j).1), (17, .f .f32 (bisS v (posF (v T0)) (T0, T1) j).2), (81, .raw (.int .i64 (j : Nat))), (0, .raw (.int .i64 m)), (1, .raw (.func (.func fc) #[] #[.pointer (some ⟨gc, 0, none⟩)])), (6, .raw (.slice (some ⟨g6, 0, none⟩) (m + 1) c6)), (7, .raw (.slice (some ⟨gv, 0, none⟩) (m + 1) cv)), (12, .raw (.slice (some ⟨a, 0, none⟩) (cntB v m k) ca)), (44, .raw (.int .i64 m)), (45, .raw (.int .i64 (k : Nat)))])
      (fun _ => St w0 [] [entF a 30 (cntB v m k) (fnB v m k) ca, entF gv 30 (m + 1) V cv, entF g6 30 (m + 1) (timeP m) c6]) (fun j => j ≤ 20) (fun j => 20 - j) 0 (by omega) ?_ (fun _ h => h) (fun j hj => ?_)
    · (repeat (first | exact Env.sub_nil _ | refine Env.sub_cons rfl ?_))
    repeat first | (refine zac ?_; refine zaa rfl (zbe rfl rfl) ?_) | refine zah ?_ | (refine zcr ?_; refine zcs ?_) | (refine zdb ?_; first | refine zdc ?_ | refine zdd ?_)
    refine ws_cond rfl (fun hd => ?_) (fun hd => ?_)
    case' refine_1 =>
      have hlt2 : (j : Int) < 20 := of_decide_eq_true hd
      clear hd
      have hz := hcc _ (hbj j (by omega))
      repeat first | refine zaa rfl (zay rfl) ?_ | refine zaa rfl (zaz rfl) ?_ | (refine zac ?_; first | refine zaa rfl (zba rfl rfl rfl) ?_ | refine zaa rfl (zbd rfl rfl rfl) ?_ | refine zaa rfl (zbk rfl rfl) ?_) | refine zaa rfl (zbz rfl rfl) ?_ | refine zaa rfl (zcc rfl) ?_ | refine zah ?_ | (refine zcr ?_; refine zcs ?_) | (refine zdb ?_; first | refine zdc ?_ | refine zdd ?_ | refine zde ?_ | refine zdf ?_ | refine zdj rfl ?_) | refine zaa rfl (opj_callC (cap := [.pointer (some ⟨gc, 0, none⟩)]) rfl rfl hz (Takes.same (Takes.crvW hp Takes.nil))) ?_
      refine ws_cond rfl (fun hd => ?_) (fun hd => ?_)
      all_goals
        have hd' : (posF (v (hwayF (bisS v (posF (v T0)) (T0, T1) j).1 (bisS v (posF (v T0)) (T0, T1) j).2)) == posF (v T0)) = _ := hd
        have eS : bisS v (posF (v T0)) (T0, T1) (j + 1) = stepB v (posF (v T0)) (bisS v (posF (v T0)) (T0, T1) j) := rfl
        unfold stepB at eS
        rw [hd'] at eS
        dsimp only at eS
        repeat first | refine zaa rfl (zay rfl) ?_ | refine zaa rfl (zaz rfl) ?_ | (refine zac ?_; refine zaa rfl (zbb rfl rfl (by omega)) ?_) | refine zah ?_ | (refine zcr ?_; first | refine zcs ?_ | refine zcv ?_) | (refine zdb ?_; refine zdd ?_)
        refine done_round (j + 1) (by omega) (by omega) ?_ (fun _ h => h)
        rw [eS, show ((j + 1 : Nat) : Int) = (j : Int) + 1 by omega]
        (repeat (first | exact Env.sub_nil _ | refine Env.sub_cons rfl ?_))
    have hj20 : j = 20 := by have := of_decide_eq_false hd; omega
    subst hj20
    clear hd
    rw [← hlow]
    have e1 : cntB v m (k + 1) = cntB v m k + 1 := by simp only [cntB, hC]
    have e2 : fnB v m (k + 1) = putB (cntB v m k) (lowB v m k) (fnB v m k) := by simp only [fnB, hC]
    repeat first | refine zaa rfl (zay rfl) ?_ | (refine zcr ?_; first | refine zcs ?_ | refine zcu ?_ | refine zcx ?_ | refine zda ?_) | (refine zdb ?_; first | refine zdd ?_ | refine zdh ?_) | refine zaa rfl (zco rfl rfl rfl rfl rfl rfl) ?_
    refine rs_appendT 0 (putB (cntB v m k) (lowB v m k) (fnB v m k)) rfl rfl rfl rfl ⟨hc1, by simp only [maxLen]; omega⟩ (by omega) rfl rfl (if_pos rfl) (fun s _ _ => if_neg (by omega)) fun a' ca' h1 h2 => ?_
    repeat first | refine zaa rfl (zay rfl) ?_ | refine zaa rfl (zaz rfl) ?_ | (refine zac ?_; refine zaa rfl (zbb rfl rfl (by omega)) ?_) | refine zah ?_ | (refine zcr ?_; first | refine zcs ?_ | refine zcv ?_) | (refine zdb ?_; refine zdd ?_)
    refine done_round (k + 1, a', ca') ⟨by simp only; omega, by simp only [e1]; exact h1, h2⟩ (by simp only; omega) ?_ (fun w h => ?_)
    · simp only [e1]
      rw [show ((k + 1 : Nat) : Int) = (k : Int) + 1 by omega]
      (repeat (first | exact Env.sub_nil _ | refine Env.sub_cons rfl ?_))
    · simp only [e1, e2]
      exact h
end Go.Ab
namespace Go.Ab
open Go.Proofs
section
variable {x y : FV} {p q : Rat}
theorem dvn (hx : Vl .f32 x p) (hy : Vl .f32 y q) (hq : 0 < q) (A : Rat) (h1 : -(A * q) ≤ p) (h2 : p ≤ A * q) (hA : A ≤ 100000) : ∃ r v, Vl .f32 (fbin .quo .f32 x y) r ∧ v * q = p ∧ (-A ≤ v ∧ v ≤ A) ∧ -((A + 1) / 8388608) ≤ r - v ∧ r - v ≤ (A + 1) / 8388608 := by
  have e : p / q * q = p := Rat.div_mul_cancel (Rat.ne_of_gt hq)
  have b : -A ≤ p / q ∧ p / q ≤ A := ⟨le_div_of hq (by grind), div_le_of hq h2⟩
  have : (100000 : Rat) ≤ p2 (ftop .f32 - 1) := by decide +kernel
  obtain ⟨r, v, h⟩ := vl_div hx hy (Rat.ne_of_gt hq) (by constructor <;> grind)
  have := rnd_abs h A b.1 b.2
  exact ⟨r, p / q, v, e, b, by grind, by grind⟩
end
end Go.Ab
namespace Go.Ab
open Go.Proofs
theorem rep_wide {x : FV} {p : Rat} (h : Vl .f32 x p) : Rep .f64 p := by
  have h1 : FloatKind.f32.format.leastPlace = -149 := by decide
  have h2 : FloatKind.f64.format.leastPlace = -1074 := by decide
  rcases vl_rep h with ⟨M, E, hM, hE, hB⟩ | ⟨M, E, hM, hE, hB⟩
  · exact .inl ⟨M, E, Nat.le_trans hM (by decide), by omega, hB⟩
  · exact .inr ⟨M, E, Nat.le_trans hM (by decide), by omega, hB⟩
end Go.Ab
namespace Go.Ab
theorem finC_vl {p : CV} {x y : Rat} (hx : Vl .f32 p.1 x) (hy : Vl .f32 p.2 y) : finC p = true := by
  unfold finC finB
  rw [vl_fin hx, vl_fin hy]
  rfl
/-- Near a point. -/
def Nea (p : CV) (x y E : Rat) : Prop := ∃ u v, Vl .f32 p.1 u ∧ Vl .f32 p.2 v ∧ (-E ≤ u - x ∧ u - x ≤ E) ∧ (-E ≤ v - y ∧ v - y ≤ E)
theorem Nea.fin {p : CV} {x y E : Rat} (h : Nea p x y E) : finC p = true := by
  obtain ⟨u, v, vu, vv, _⟩ := h
  exact finC_vl vu vv
theorem Pv.fin {n : Nat} {P : Nat → CV} {x y : Nat → Rat} {B : Rat} (h : Pv n P x y B) : (tabC n P).all finC = true := by
  unfold tabC
  rw [List.all_eq_true]
  intro p hp
  obtain ⟨i, hi, rfl⟩ := List.mem_map.1 hp
  have := List.mem_range.1 hi
  exact finC_vl (h.vx i this) (h.vy i this)
theorem zvl (k : FloatKind) : Vl k (fv k 0) 0 := by cases k <;> exact Vl.c (by decide +kernel)
theorem above_vl {x : FV} {r : Rat} (h : Vl .f32 x r) (h0 : 0 < r) : aboveB x = true := by
  unfold aboveB finB
  rw [vl_fin h, vl_gtr h (zvl .f32), decide_eq_true h0]
  rfl
theorem Wts.above {f : Int → FV} {n : Nat} (h : Wts f n) : (tab n f).all aboveB = true := by
  unfold tab
  rw [List.all_eq_true]
  intro p hp
  obtain ⟨i, hi, rfl⟩ := List.mem_map.1 hp
  obtain ⟨r, vr, h1, _⟩ := h i (List.mem_range.1 hi)
  exact above_vl vr (by grind)
end Go.Ab
