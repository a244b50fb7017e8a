/- Part 18 of the texts on which the law leans, joined: Where a curve meets itself, the reference's; walked. No conditions. -/
import Derived.Test.YtcbobcpbfdehhaaZaq
namespace Go.Ab
open Go.Proofs
variable {R : World → Prop} [RStab R]
attribute [local irreducible] WS RS Done OpJ Then InBlock Round Ret Env.sub FnH
attribute [local irreducible] tab tabC
set_option maxRecDepth 100000 in
set_option maxHeartbeats 4000000 in
theorem specMeetsOf_fn {np nq J : Nat} {N : FV} {P Q : Nat → CV} {a b ca cb u v du dv : Nat} (hp : 2 ≤ np ∧ np ≤ 5) (hq : 2 ≤ nq ∧ nq ≤ 5) (hJ : NearJ J N) (hN0 : finB N = true) (hN1 : cmpB .geq (fcmp .f32 N (fv .f32 981467136)) = true) (hBp : B1 np P) (hBq : B1 nq Q) (hca : np ≤ ca ∧ ca ≤ maxLen) (hcb : np ≤ cb ∧ cb ≤ maxLen) (hdu : nq ≤ du ∧ du ≤ maxLen) (hdv : nq ≤ dv ∧ dv ≤ maxLen) :
    FnH (X := Mk) Try.prog 12 (fun _ => [crvOc a b np ca cb, crvOc u v nq du dv, .f .f32 N]) [entC a np P ca, entF b 31 np oneF cb, entC u nq Q du, entF v 31 nq oneF dv]
      (fun y => .tup [slOr y.ok y.g y.L.length y.c, .raw (.bool y.ok)]) (fun y => [entC a np P ca, entF b 31 np oneF cb, entC u nq Q du, entF v 31 nq oneF dv, entM y.g (tmM J) y.L y.c])
      (fun y => (y.L.length ≤ y.c ∧ y.c ≤ maxLen) ∧ match meetR np nq (J + J) J J 0 0 P Q (0, []) with
        | some s => y.ok = true ∧ s = (y.n, y.L)
        | none => y.ok = false) := by
  have hV1 : Fn Try.prog 21 (fun w => [crvP w np P oneF]) (.raw (.bool true)) := l02Is_yes ⟨hp.1, by omega⟩ hBp.fin (wts_one np).above
  have hV2 : Fn Try.prog 21 (fun w => [crvP w nq Q oneF]) (.raw (.bool true)) := l02Is_yes ⟨hq.1, by omega⟩ hBq.fin (wts_one nq).above
  have hN := l03Ends_yes hN0 hN1
  refine fn_intro Try.func12 rfl Try.ntmps12 (fun _ => Nat.le_of_ble_eq_true rfl) fun w0 => ?_
  repeat first | refine zai rfl rfl ?_ | refine zaa rfl (zay rfl) ?_ | refine zaa rfl (zaz rfl) ?_ | (refine zad ?_; (refine zaa rfl (zci rfl rfl (hN) ?_) ?_; (focus ((repeat (first | exact Takes.nil | refine Takes.sl ?_ | refine Takes.lit ?_ | refine Takes.fa ?_ | refine Takes.fc ?_ | refine Takes.net ?_ | (refine Takes.ownE ?_ ?_ ?_ ?_ ?_; (focus (exact ⟨_, _, (by (repeat (first | exact mh | refine mt ?_)); done)⟩)); (focus (simp; done)); (focus omega); (focus (simp only [maxLen]; omega))) | refine Takes.same ?_)); done)))) | (refine zae ?_; refine zaa rfl (zcg rfl rfl (by (repeat (first | exact mh | refine mt ?_)); done) rfl rfl) ?_) | refine zaa rfl (zcb rfl rfl) ?_ | refine zaa rfl (zcc rfl) ?_ | refine zah ?_ | (refine zcr ?_; refine zcs ?_) | (refine zdb ?_; first | refine zdc ?_ | refine zdd ?_ | refine zdf ?_ | refine zdj rfl ?_) | (refine zak rfl rfl rfl ?_; intro g) | refine zaa rfl (zci rfl rfl hV1 (Takes.crvPOc (mt mh) (mt (mt mh)) (mt (mt (mt mh))) hca hcb Takes.nil)) ?_ | refine zaa rfl (zci rfl rfl hV2 (Takes.crvPOc mh (mt (mt (mt (mt mh)))) (mt (mt (mt (mt (mt mh))))) hdu hdv Takes.nil)) ?_ | (refine rs_litM0 rfl ?_; intro g) | refine zaa rfl (opj_buildD rfl rfl rfl) ?_
  rename_i g3 g4 ga gb
  obtain ⟨gL, hgL⟩ : ∃ x, x = g := ⟨g, rfl⟩
  subst hgL
  generalize List.map (fun x : Ent => x.g) [entC a np P ca, entF b 31 np oneF cb, entC u nq Q du, entF v 31 nq oneF dv] = gs
  have hK := meets_all (np := np) (nq := nq) (J := J) (N := N) hp hq hJ (J + J) J J rfl (Nat.le_refl _) (Nat.le_refl _) 0 0 P Q 0 [] ga a b ca cb gb u v du dv gL 0 (by rw [Nat.sub_self]; decide) (by rw [Nat.sub_self]; decide) hBp hBq ⟨fun _ h => (nomatch h), by decide, by decide⟩ ⟨hca, hcb⟩ ⟨hdu, hdv⟩ ⟨Nat.le_refl _, by decide⟩
  rw [Nat.sub_self, show tmF 0 ((0 : Nat) : Int) = fv .f32 0 by decide +kernel, show tmF 0 (((0 : Nat) : Int) + 1) = one1 by decide +kernel] at hK
  refine RS.weakS (e' := [(25, .raw (.pointer (some ⟨ga, 0, none⟩))), (28, .raw (.pointer (some ⟨gb, 0, none⟩))), (29, .f .f32 N), (30, .raw (.slice (some ⟨gL, 0, none⟩) 0 0))]) (RS.st (S' := StR (fun _ => True) w0 gs ([⟨ga, 75, [.raw (.slice (some ⟨a, 0, none⟩) np ca), .raw (.slice (some ⟨b, 0, none⟩) np cb), .f .f32 (fv .f32 0), .f .f32 one1], 4⟩, entC a np P ca, entF b 31 np oneF cb, ⟨gb, 75, [.raw (.slice (some ⟨u, 0, none⟩) nq du), .raw (.slice (some ⟨v, 0, none⟩) nq dv), .f .f32 (fv .f32 0), .f .f32 one1], 4⟩, entC u nq Q du, entF v 31 nq oneF dv, ⟨gL, 43, [], 0⟩] ++ [])) ?_ (fun w h => h.sel [2, 5, 6, 1, 7, 8, 0] (by decide) rfl)) (by (repeat (first | exact Env.sub_nil _ | refine Env.sub_cons rfl ?_)))
  refine rs_call (pre := [⟨ga, 75, [.raw (.slice (some ⟨a, 0, none⟩) np ca), .raw (.slice (some ⟨b, 0, none⟩) np cb), .f .f32 (fv .f32 0), .f .f32 one1], 4⟩, entC a np P ca, entF b 31 np oneF cb, ⟨gb, 75, [.raw (.slice (some ⟨u, 0, none⟩) nq du), .raw (.slice (some ⟨v, 0, none⟩) nq dv), .f .f32 (fv .f32 0), .f .f32 one1], 4⟩, entC u nq Q du, entF v 31 nq oneF dv, entM gL (tmM J) [] 0]) hK rfl rfl (fun _ _ _ h => h) rfl ?_
  rintro ⟨k1, L1, g1, c1, ok1⟩ ⟨hcc, hres⟩
  dsimp only at hcc hres ⊢
  cases ok1
  all_goals
    repeat first | refine zaa rfl (zay rfl) ?_ | refine zaa rfl (zaz rfl) ?_ | refine zaa rfl (zbz rfl rfl) ?_ | refine zaa rfl (zcc rfl) ?_ | refine zah ?_ | (refine zcr ?_; first | refine zcs ?_ | refine zct ?_) | (refine zdb ?_; first | refine zdc ?_ | refine zdd ?_ | refine zdf ?_ | refine zdg ?_ | refine zdi rfl ?_ | refine zdj rfl ?_)
    refine done_ret2 rfl (⟨k1, L1, g1, c1, _⟩ : Mk) rfl rfl rfl ⟨hcc, hres⟩ (.cons _ (.cons_cons _ (.cons_cons _ (.cons _ (.cons_cons _ (.cons_cons _ (.cons_cons _ (List.nil_sublist _))))))))
end Go.Ab
namespace Go.Ab
open Go.Proofs
variable {R : World → Prop} [RStab R]
attribute [local irreducible] WS RS Done OpJ Then InBlock Round Ret Env.sub FnH
attribute [local irreducible] tab tabC
theorem specCutCurve_fn {n : Nat} {P : Nat → CV} (hn : 2 ≤ n ∧ n ≤ 8) (hP : (tabC n P).all finC = true) (hL : (tabC n (leftP P)).all finC = true) (hR : (tabC n (rightP n P)).all finC = true) (ht : Fn Try.prog 37 (fun _ => [.f .f32 hfT]) (.raw (.bool true))) :
    FnH (X := Ct) Try.prog 49 (fun w => [crvA w n P oneF, .f .f32 hfT]) []
      (fun y => .tup [crvOc y.a y.b n y.ca y.cb, crvOc y.a2 y.b2 n y.ca2 y.cb2, .raw (.bool true)]) (fun y => [entF y.b2 31 n oneF y.cb2, entC y.a2 n (rightP n P) y.ca2, entC y.a n (leftP P) y.ca, entF y.b 31 n oneF y.cb]) (fun y => ((n ≤ y.ca ∧ y.ca ≤ maxLen) ∧ n ≤ y.cb ∧ y.cb ≤ maxLen) ∧ (n ≤ y.ca2 ∧ y.ca2 ≤ maxLen) ∧ n ≤ y.cb2 ∧ y.cb2 ≤ maxLen) := by
  have hV : Fn Try.prog 21 (fun w => [crvP w n P oneF]) (.raw (.bool true)) := l02Is_yes hn hP (wts_one n).above
  have hV1 : Fn Try.prog 21 (fun w => [crvP w n (leftP P) oneF]) (.raw (.bool true)) := l02Is_yes hn hL (wts_one n).above
  have hV2 : Fn Try.prog 21 (fun w => [crvP w n (rightP n P) oneF]) (.raw (.bool true)) := l02Is_yes hn hR (wts_one n).above
  have hC := l02Cut_fn (n := n) (P := P) hn
  refine fn_intro Try.func49 rfl Try.ntmps49 (fun _ => Nat.le_of_ble_eq_true rfl) fun w0 => ?_
  repeat first | refine zai rfl rfl ?_ | refine zaa rfl (zay rfl) ?_ | refine zaa rfl (zaz rfl) ?_ | (refine zad ?_; (refine zaa rfl (zci rfl rfl (ht) ?_) ?_; (focus ((repeat (first | exact Takes.nil | refine Takes.sl ?_ | refine Takes.lit ?_ | refine Takes.fa ?_ | refine Takes.fc ?_ | refine Takes.net ?_ | (refine Takes.ownE ?_ ?_ ?_ ?_ ?_; (focus (exact ⟨_, _, (by (repeat (first | exact mh | refine mt ?_)); done)⟩)); (focus (simp; done)); (focus omega); (focus (simp only [maxLen]; omega))) | refine Takes.same ?_)); done)))) | refine zaa rfl (zcb rfl rfl) ?_ | refine zaa rfl (zcc rfl) ?_ | refine zah ?_ | (refine zcr ?_; refine zcs ?_) | (refine zdb ?_; first | refine zdc ?_ | refine zdd ?_ | refine zdf ?_ | refine zdj rfl ?_) | (refine zak rfl rfl rfl ?_; intro g) | (refine zal rfl rfl ?_; intro g) | refine zaa rfl (zci rfl rfl hV (Takes.crvPt (mt (mt mh)) Takes.nil)) ?_
  refine rs_callM3 hC rfl rfl (Takes.crvZi (mt (mt mh)) (Takes.same Takes.nil)) rfl ?_
  rintro ⟨k, a, b, ca, cb, a2, b2, ca2, cb2, ra, rb, rca, rcb⟩ ⟨⟨h1, h2⟩, h3, h4⟩
  dsimp only at h1 h2 h3 h4 ⊢
  repeat first | refine zai rfl rfl ?_ | refine zaa rfl (zay rfl) ?_ | refine zaa rfl (zbz rfl rfl) ?_ | refine zaa rfl (zcb rfl rfl) ?_ | refine zaa rfl (zcc rfl) ?_ | refine zah ?_ | (refine zcr ?_; refine zcs ?_) | (refine zdb ?_; first | refine zdc ?_ | refine zdd ?_ | refine zdf ?_ | refine zdj rfl ?_) | (refine zal rfl rfl ?_; intro g) | (refine zag ?_; first | refine zan 0 rfl rfl rfl rfl rfl rfl rfl rfl rfl ?_ | refine zan 1 rfl rfl rfl rfl rfl rfl rfl rfl rfl ?_) | refine zaa rfl (zci rfl rfl hV1 (Takes.crvPOc (mt mh) (mt (mt (mt (mt mh)))) (mt (mt (mt (mt (mt mh))))) h1 h2 Takes.nil)) ?_ | refine zaa rfl (zci rfl rfl hV2 (Takes.crvPOc mh (mt (mt (mt mh))) (mt (mt mh)) h3 h4 Takes.nil)) ?_
  rename_i g2 g4 g5 g7
  obtain ⟨g8, hg8⟩ : ∃ x, x = g := ⟨g, rfl⟩
  subst hg8
  refine WS.weak (e' := [(4, .raw (.pointer (some ⟨g4, 0, none⟩))), (5, .raw (.pointer (some ⟨g5, 0, none⟩))), (7, .raw (.pointer (some ⟨g7, 0, none⟩))), (8, .raw (.pointer (some ⟨g8, 0, none⟩)))]) ?_ (by (repeat (first | exact Env.sub_nil _ | refine Env.sub_cons rfl ?_))) (fun w h => h)
  refine ws_drawP (ix := [0, 1]) (W := St w0 [] [⟨g7, 27, [.raw (.slice (some ⟨a, 0, none⟩) n ca), .raw (.slice (some ⟨b, 0, none⟩) n cb)], 2⟩, ⟨g8, 27, [.raw (.slice (some ⟨a2, 0, none⟩) n ca2), .raw (.slice (some ⟨b2, 0, none⟩) n cb2)], 2⟩]) mixed (by decide +kernel) (fun _ h => h.sel [1, 0] (by decide) rfl) ?_
  repeat first | (refine zat ?_; refine zap rfl (zcg rfl rfl (by (repeat (first | exact mh | refine mt ?_)); done) rfl rfl) ?_) | refine zav ?_
  refine ⟨rfl, ?_⟩
  refine gp_name fun o ho Q' hQ => ?_
  have q2 := op_at (i := 2) ho rfl
  have q3 := op_at (i := 3) ho rfl
  have q4 := op_at (i := 4) ho rfl
  refine gp_step [2] (by rw [ho]; decide +kernel) fun x hx => ?_
  obtain rfl : x = 2 := by simpa using hx
  refine sp_eff q2 (by rw [ho]; decide +kernel) (effj_storeAX 7 rfl rfl rfl rfl rfl rfl rfl rfl rfl) (cont_go (fun _ h => h.sel [1, 0] (by decide) rfl) ?_)
  refine gp_step [3] (by rw [ho]; decide +kernel) fun x hx => ?_
  obtain rfl : x = 3 := by simpa using hx
  refine sp_eff q3 (by rw [ho]; decide +kernel) (effj_storeAX 6 rfl rfl rfl rfl rfl rfl rfl rfl rfl) (cont_set (by rw [ho]; decide +kernel) rfl ?_)
  refine gp_step [4] (by rw [ho]; decide +kernel) fun x hx => ?_
  obtain rfl : x = 4 := by simpa using hx
  refine sp_op q4 (by rw [ho]; decide +kernel) rfl (zaz rfl) rfl (cont_set rfl rfl ?_)
  refine gp_end (by rw [ho]; decide +kernel) ?_
  rw [hQ]
  repeat first | (refine zcr ?_; refine zcs ?_) | (refine zdb ?_; refine zdg ?_)
  exact done_retXXT rfl rfl (⟨k, a, b, ca, cb, a2, b2, ca2, cb2, ra, rb, rca, rcb⟩ : Ct) rfl rfl rfl (mt (mt (mt (mt (mt (mt (mt mh))))))) (mt (mt (mt (mt (mt (mt mh)))))) rfl rfl rfl rfl rfl ⟨⟨h1, h2⟩, h3, h4⟩ (.cons _ (.cons _ (.cons_cons _ (.cons_cons _ (.cons_cons _ (.cons_cons _ (List.nil_sublist _)))))))
end Go.Ab
namespace Go.Ab
open Go.Proofs
variable {R : World → Prop} [RStab R]
def flatP : List (FV × FV) → List AV
  | [] => []
  | i :: L => .f .f32 i.1 :: .f .f32 i.2 :: flatP L
theorem flatP_len : ∀ L, (flatP L).length = L.length * 2
  | [] => rfl
  | i :: L => by
    simp only [flatP, List.length_cons, flatP_len L]
    omega
theorem flatP_snoc (i : FV × FV) : ∀ L, flatP L ++ [.f .f32 i.1, .f .f32 i.2] = flatP (L ++ [i])
  | [] => rfl
  | k :: L => by
    show _ :: _ :: (flatP L ++ _) = _ :: _ :: flatP (L ++ [i])
    rw [flatP_snoc i L]
theorem flatM_cut (τ : Nat → FV) : ∀ (L : List (Nat × Nat)) (k : Nat), k < L.length → ((flatM τ L).drop (k * 2)).take 2 = [.f .f32 (τ (L.getD k default).1), .f .f32 (τ (L.getD k default).2)]
  | [], k, h => by simp at h
  | i :: L, 0, _ => rfl
  | i :: L, k + 1, h => by
    have := flatM_cut τ L k (by simpa using h)
    rw [show (k + 1) * 2 = k * 2 + 1 + 1 by omega]
    simpa [flatM] using this
section
variable {P : Program} {t el : TypeId} {S : World → Prop} {N : Nat} {e : Env} {Q : Exit → Env → World → Prop} {ops : Array Oper} {l : List Oper} {dst : Option Tmp} {ty : TypeId} {pos : String} {after : Array Edge} {guard : Option (Nat × Bool)}
variable {w0 : World} {gs : List Nat} {H : List Ent}
theorem rs_appendP (k : Nat) (L : List (FV × FV)) (i : FV × FV) {d : Tmp} {A B : Operand} {g cap : Nat} {z : Value} {b : Nat} [hu : TyU P t (.slice el)] [hi : TyI P el z 2 b] (hd : Nat.blt d N = true)
    (hA : e.ev A = some (.raw (.slice (some ⟨g, 0, none⟩) L.length cap))) (hB : e.ev B = some (AV.litM [.f .f32 i.1, .f .f32 i.2])) (hH : H[k]? = some ⟨g, el, flatP L, cap * 2⟩) (hn : L.length ≤ cap ∧ cap ≤ maxLen)
    (hm : L.length < 2 ^ 40) (hby : Nat.ble b 64 = true) (hzc : z.cells.size = 2)
    (hk : ∀ g' cap', (L ++ [i]).length ≤ cap' → cap' ≤ maxLen → RS P N ops l ((d, .raw (.slice (some ⟨g', 0, none⟩) (L ++ [i]).length cap')) :: e.keep) (StR R w0 gs (H.set k ⟨g', el, flatP (L ++ [i]), cap' * 2⟩)) Q) :
    RS P N ops (⟨some d, .call { callee := .builtin .append, args := #[A, B], argTypes := #[t, t] }, ty, pos, after, none⟩ :: l) e (StR R w0 gs H) Q := by
  have hb := Nat.le_of_ble_eq_true hby
  have hll : (L ++ [i]).length = L.length + 1 := by simp
  rw [hll] at hk
  intro a w hS hF
  refine wpList_plain rfl fun K hK => ?_
  have hA' := (hF.eval hA).inv_raw
  obtain ⟨g', cap', w', h2, h3, hr, hS'⟩ := append_run (P := P) (t := t) (el := el) (d := d) (ty := ty) (pos := pos) (after := after) (m := 1) k hS (by decide) hA' (hF.eval hB).inv_p.2 hH ⟨flatP_len L, hn.1, hn.2⟩ rfl (Nat.le_refl _) rfl (by simp only [maxLen]; omega)
    (Nat.le_trans (Nat.mul_le_mul (show L.length + 1 ≤ 2 ^ 40 from by omega) hb) (by decide)) hzc
  unfold Oper.wp
  rw [hr]
  rw [flatP_snoc] at hS'
  exact hK _ _ (hk g' cap' h2 h3 _ w' hS' (Fr.put (some d) hF.keep (fun _ h => by cases h; exact Nat.le_of_ble_eq_true hd) .raw))
theorem opj_loadM {R0 : World → Prop} {τ : Nat → FV} {L : List (Nat × Nat)} {X : Operand} {g c : Nat} {i : Int} {d : TypeDesc} {z : Value} {b : Nat} [hd : TyU P t d] [hi : TyI P t z 2 b] (ha : aggD d = true) (hx : e.ev X = some (.raw (.pointer (some ⟨g, i.toNat * 2, none⟩)))) (hm : entM g τ L c ∈ H) (h0 : 0 ≤ i ∧ i < (L.length : Int)) :
    OpJ P (StR R0 w0 gs H) e ⟨dst, .load t X, ty, pos, after, guard⟩ (.agg [.f .f32 (τ (L.getD i.toNat default).1), .f .f32 (τ (L.getD i.toNat default).2)]) := by
  have h := opj_loadAO (P := P) (R0 := R0) (w0 := w0) (gs := gs) (H := H) (e := e) (dst := dst) (ty := ty) (pos := pos) (after := after) (guard := guard) (en := entM g τ L c) (t := t) ha hx hm (by show i.toNat * 2 + 2 ≤ (flatM τ L).length; rw [flatM_len]; omega)
  have e1 : ((entM g τ L c).xs.drop (i.toNat * 2)).take 2 = _ := flatM_cut τ L i.toNat (by omega)
  rw [e1] at h
  exact h
end
/-- What is kept of a list, some of it skipped. -/
def selL (skip : Nat × Nat → Bool) (half : Nat × Nat → FV × FV) (L : List (Nat × Nat)) : Nat → List (FV × FV)
  | 0 => []
  | k + 1 => match skip (L.getD k default) with
    | true => selL skip half L k
    | false => selL skip half L k ++ [half (L.getD k default)]
theorem selL_succ (skip : Nat × Nat → Bool) (half : Nat × Nat → FV × FV) (L : List (Nat × Nat)) (k : Nat) : selL skip half L (k + 1) = (match skip (L.getD k default) with | true => selL skip half L k | false => selL skip half L k ++ [half (L.getD k default)]) := rfl
theorem selL_le (skip : Nat × Nat → Bool) (half : Nat × Nat → FV × FV) (L : List (Nat × Nat)) : ∀ k, (selL skip half L k).length ≤ k
  | 0 => Nat.le_refl _
  | k + 1 => by
    have := selL_le skip half L k
    unfold selL
    cases skip (L.getD k default)
    · simp only [List.length_append, List.length_singleton]
      omega
    · simp only
      omega
def n7 : FV := fv .f32 1006632960
def wideI : FV := fbin .mul .f32 (fv .f32 1090519040) n7
def halfI (i : Nat × Nat) : FV × FV := (fbin .quo .f32 (tmM 7 i.1) (fv .f32 1073741824), fbin .add .f32 hfT (fbin .quo .f32 (tmM 7 i.2) (fv .f32 1073741824)))
def skipP (x : FV × FV) : Bool := cmpB .gtr (fcmp .f32 x.1 (fbin .sub .f32 hfT wideI)) && cmpB .lss (fcmp .f32 x.2 (fbin .add .f32 hfT wideI))
def skipI (i : Nat × Nat) : Bool := skipP (halfI i)
structure SmI where
  n : Nat
  g : Nat
  c : Nat
  xs : List AV
  ok : Bool
attribute [local irreducible] WS RS Done OpJ Then InBlock Round Ret Env.sub FnH
attribute [local irreducible] tab tabC
set_option maxRecDepth 100000 in
set_option maxHeartbeats 4000000 in
theorem selfMeets_fn {n : Nat} {P : Nat → CV} (hn : 2 ≤ n ∧ n ≤ 5) (hB : B1 n P) :
    FnH (X := SmI) Try.prog 16 (fun w => [crvA w n P oneF, .f .f32 n7]) []
      (fun y => .tup [slOr y.ok y.g y.n y.c, .raw (.bool y.ok)]) (fun y => [⟨y.g, 43, y.xs, y.c * 2⟩])
      (fun y => (y.n ≤ y.c ∧ y.c ≤ maxLen) ∧ match meetR n n (7 + 7) 7 7 0 0 (leftP P) (rightP n P) (0, []) with
        | some s => y.ok = true ∧ y.n = (selL skipI halfI s.2 s.2.length).length
        | none => y.ok = false) := by
  have hC := cutCurve_fn (n := n) (P := P) ⟨hn.1, by omega⟩ hB.fin hB.left.fin hB.right.fin
  refine fn_intro Try.func16 rfl Try.ntmps16 (fun _ => Nat.le_of_ble_eq_true rfl) fun w0 => ?_
  repeat first | refine zaa rfl (zaz rfl) ?_ | (refine zae ?_; refine zaa rfl (zcg rfl rfl (by (repeat (first | exact mh | refine mt ?_)); done) rfl rfl) ?_) | refine zah ?_ | (refine zcr ?_; refine zcs ?_) | (refine zdb ?_; first | refine zdc ?_ | refine zdd ?_) | (refine zak rfl rfl rfl ?_; intro g)
  refine rs_callM3 hC rfl rfl (Takes.crv (Takes.same Takes.nil)) rfl ?_
  rintro ⟨kk, a, b, ca, cb, a2, b2, ca2, cb2, ra, rb, rca, rcb⟩ ⟨⟨h1, h2⟩, h3, h4⟩
  dsimp only at h1 h2 h3 h4 ⊢
  have hMt := meetsOf_fn (np := n) (nq := n) (J := 7) (N := n7) (P := leftP P) (Q := rightP n P) (a := a) (b := b) (ca := ca) (cb := cb) (u := a2) (v := b2) (du := ca2) (dv := cb2) hn hn nearJ7 (by decide +kernel) (by decide +kernel) hB.left hB.right h1 h2 h3 h4
  repeat first | refine zaa rfl (zay rfl) ?_ | refine zaa rfl (zaz rfl) ?_ | (refine zae ?_; refine zaa rfl (zcg rfl rfl (by (repeat (first | exact mh | refine mt ?_)); done) rfl rfl) ?_) | refine zaa rfl (zbz rfl rfl) ?_ | refine zaa rfl (zcc rfl) ?_ | refine zah ?_ | (refine zcr ?_; refine zcs ?_) | (refine zdb ?_; first | refine zdc ?_ | refine zdd ?_ | refine zdf ?_ | refine zdj rfl ?_) | (refine zal rfl rfl ?_; intro g) | (refine zag ?_; first | refine zan 0 rfl rfl rfl rfl rfl rfl rfl rfl rfl ?_ | refine zan 1 rfl rfl rfl rfl rfl rfl rfl rfl rfl ?_)
  refine RS.weakS (e' := [(25, .f .f32 n7), (24, crvOc a2 b2 n ca2 cb2), (23, crvOc a b n ca cb), (1, .f .f32 n7)]) (RS.st (S' := StR (fun _ => True) w0 [] ([entC a n (leftP P) ca, entF b 31 n oneF cb, entC a2 n (rightP n P) ca2, entF b2 31 n oneF cb2] ++ [])) ?_ (fun w h => h.sel [4, 5, 3, 2] (by decide) rfl)) (by (repeat (first | exact Env.sub_nil _ | refine Env.sub_cons rfl ?_)))
  refine rs_call hMt rfl rfl (fun _ _ _ h => h) rfl ?_
  rintro ⟨k1, L1, g1, c1, ok1⟩ ⟨hcc, hres⟩
  dsimp only at hcc hres ⊢
  cases hm : meetR n n (7 + 7) 7 7 0 0 (leftP P) (rightP n P) (0, []) with
  | none =>
    rw [hm] at hres
    dsimp only at hres
    subst hres
    repeat first | refine zaa rfl (zay rfl) ?_ | refine zaa rfl (zaz rfl) ?_ | refine zaa rfl (zbz rfl rfl) ?_ | refine zaa rfl (zcc rfl) ?_ | refine zah ?_ | (refine zcr ?_; first | refine zcs ?_ | refine zct ?_) | (refine zdb ?_; first | refine zdc ?_ | refine zdd ?_ | refine zdg ?_ | refine zdi rfl ?_)
    exact done_ret2 rfl (⟨L1.length, g1, c1, flatM (tmM 7) L1, false⟩ : SmI) rfl rfl rfl ⟨hcc, rfl⟩ (.cons _ (.cons _ (.cons _ (.cons _ (List.Sublist.refl _)))))
  | some s1 =>
    rw [hm] at hres
    dsimp only at hres
    obtain ⟨rfl, rfl⟩ := hres
    have hMet := meet_met (np := n) (nq := n) (J := 7) 7 7 0 0 (leftP P) (rightP n P) (0, []) (k1, L1) (Nat.le_refl _) (Nat.le_refl _) (Nat.lt_succ_self 0) (Nat.lt_succ_self 0) ⟨fun _ h => (nomatch h), Nat.zero_le _, Nat.zero_le _⟩ hm
    have hlen := hMet.len
    dsimp only at hlen
    clear hm
    repeat first | refine zaa rfl (zay rfl) ?_ | refine zaa rfl (zaz rfl) ?_ | (refine zac ?_; refine zaa rfl (zba rfl rfl rfl) ?_) | (refine zad ?_; refine zaa rfl (zbn rfl) ?_) | refine zaa rfl (zbz rfl rfl) ?_ | refine zaa rfl (zcc rfl) ?_ | refine zah ?_ | (refine zcr ?_; refine zcs ?_) | (refine zdb ?_; first | refine zdc ?_ | refine zdd ?_ | refine zde ?_ | refine zdf ?_ | refine zdj rfl ?_) | (refine rs_litM0 rfl ?_; intro g)
    refine ws_loop (ι := Nat × Nat × Nat) (fun y => [(1, .f .f32 n7), (10, .raw (.slice (some ⟨y.2.1, 0, none⟩) (selL skipI halfI L1 y.1).length y.2.2)), (11, .f .f32 wideI), (34, .raw (.slice (some ⟨g1, 0, none⟩) L1.length c1)), (35, .raw (.int .i64 (L1.length : Nat))), (36, .raw (.int .i64 (y.1 : Nat)))])
      (fun y => St w0 [] [⟨y.2.1, 43, flatP (selL skipI halfI L1 y.1), y.2.2 * 2⟩, entM g1 (tmM 7) L1 c1]) (fun y => y.1 ≤ L1.length ∧ (selL skipI halfI L1 y.1).length ≤ y.2.2 ∧ y.2.2 ≤ maxLen) (fun y => L1.length - y.1) (0, g, 0) ⟨Nat.zero_le _, Nat.le_refl _, Nat.zero_le _⟩ ?_ (fun w h => h.sel [0, 5] (by decide) rfl) (fun y hy => ?_)
    · (repeat (first | exact Env.sub_nil _ | refine Env.sub_cons rfl ?_))
    obtain ⟨k, g2, c2⟩ := y
    dsimp only at hy ⊢
    obtain ⟨hk, hc2⟩ := hy
    have hsl := selL_le skipI halfI L1 k
    repeat first | (refine zac ?_; refine zaa rfl (zbe rfl rfl) ?_) | refine zah ?_ | (refine zcr ?_; refine zcs ?_) | (refine zdb ?_; first | refine zdc ?_ | refine zdd ?_)
    refine ws_cond rfl (fun hd => ?_) (fun hd => ?_)
    case' refine_2 =>
      have hkn : k = L1.length := by have := of_decide_eq_false hd; omega
      subst hkn
      repeat first | refine zaa rfl (zay rfl) ?_ | refine zaa rfl (zaz rfl) ?_ | refine zah ?_ | (refine zcr ?_; first | refine zcs ?_ | refine zcu ?_ | refine zcx ?_ | refine zda ?_) | (refine zdb ?_; first | refine zdc ?_ | refine zdd ?_ | refine zdg ?_ | refine zdh ?_)
      exact done_ret2 rfl (⟨_, g2, c2, flatP (selL skipI halfI L1 L1.length), true⟩ : SmI) rfl rfl rfl ⟨hc2, rfl, rfl⟩ (.cons_cons _ (List.nil_sublist _))
    have hlt : (k : Int) < (L1.length : Int) := of_decide_eq_true hd
    clear hd
    have hst := selL_succ skipI halfI L1 k
    obtain ⟨b1, hb1⟩ : ∃ b, b = cmpB .gtr (fcmp .f32 (fbin .quo .f32 (tmM 7 (L1.getD (k : Int).toNat default).1) (fv .f32 1073741824)) (fbin .sub .f32 (fv .f32 1056964608) wideI)) := ⟨_, rfl⟩
    obtain ⟨b2, hb2⟩ : ∃ b, b = cmpB .lss (fcmp .f32 (fbin .add .f32 (fv .f32 1056964608) (fbin .quo .f32 (tmM 7 (L1.getD (k : Int).toNat default).2) (fv .f32 1073741824))) (fbin .add .f32 (fv .f32 1056964608) wideI)) := ⟨_, rfl⟩
    have hsk : skipI (L1.getD k default) = (b1 && b2) := by
      rw [hb1, hb2, show (k : Int).toNat = k from rfl]
      unfold skipI skipP halfI hfT
      rfl
    have hhf : halfI (L1.getD k default) = (fbin .quo .f32 (tmM 7 (L1.getD (k : Int).toNat default).1) (fv .f32 1073741824), fbin .add .f32 (fv .f32 1056964608) (fbin .quo .f32 (tmM 7 (L1.getD (k : Int).toNat default).2) (fv .f32 1073741824))) := by
      rw [show (k : Int).toNat = k from rfl]
      unfold halfI hfT
      rfl
    rw [hsk, hhf] at hst
    repeat first | refine zaa rfl (zay rfl) ?_ | (refine zac ?_; first | refine zaa rfl (zba rfl rfl rfl) ?_ | refine zaa rfl (zbd rfl rfl rfl) ?_) | (refine zae ?_; refine zaa rfl (zcf rfl rfl (by (repeat (first | exact mh | refine mt ?_)); done) rfl) ?_) | (refine zaf ?_; refine zaa rfl (zbw rfl rfl (by omega) (by omega)) ?_) | refine zaa rfl (zcd rfl) ?_ | refine zah ?_ | (refine zcr ?_; refine zcs ?_) | (refine zdb ?_; first | refine zdc ?_ | refine zdd ?_ | refine zde ?_ | refine zdf ?_) | (refine zal rfl rfl ?_; intro g) | (refine zag ?_; refine zan 0 rfl rfl rfl rfl rfl rfl rfl rfl rfl ?_) | refine zaa rfl (opj_loadM rfl rfl (mt mh) ⟨by omega, hlt⟩) ?_ | refine zaa rfl (opj_buildM rfl rfl) ?_
    rw [← hb1]
    clear hb1
    cases b1
    case' true =>
      repeat first | refine zai rfl rfl ?_ | refine zaa rfl (zay rfl) ?_ | (refine zac ?_; first | refine zaa rfl (zba rfl rfl rfl) ?_ | refine zaa rfl (zbd rfl rfl rfl) ?_) | (refine zae ?_; refine zaa rfl (zcf rfl rfl (by (repeat (first | exact mh | refine mt ?_)); done) rfl) ?_) | refine zaa rfl (zcd rfl) ?_ | refine zaa rfl (zca rfl rfl) ?_ | refine zah ?_ | (refine zcr ?_; refine zcs ?_)
      rw [← hb2]
      clear hb2
      cases b2
      case' true =>
        replace hst : selL skipI halfI L1 (k + 1) = selL skipI halfI L1 k := hst
        repeat first | refine zaa rfl (zay rfl) ?_ | (refine zac ?_; refine zaa rfl (zbb rfl rfl (by omega)) ?_) | refine zah ?_ | (refine zcr ?_; first | refine zcs ?_ | refine zcu ?_ | refine zcx ?_) | (refine zdb ?_; first | refine zdd ?_ | refine zdh ?_ | refine zdi rfl ?_)
        refine done_round (k + 1, g2, c2) ⟨by simp only; omega, by simp only; rw [hst]; exact hc2⟩ (by simp only; omega) ?_ (fun w h => by simp only; rw [hst]; exact h.sel [1, 2] (by decide) rfl)
        simp only
        rw [hst, show ((k + 1 : Nat) : Int) = (k : Int) + 1 by omega]
        (repeat (first | exact Env.sub_nil _ | refine Env.sub_cons rfl ?_))
    all_goals
      replace hst : selL skipI halfI L1 (k + 1) = selL skipI halfI L1 k ++ [(fbin .quo .f32 (tmM 7 (L1.getD (k : Int).toNat default).1) (fv .f32 1073741824), fbin .add .f32 (fv .f32 1056964608) (fbin .quo .f32 (tmM 7 (L1.getD (k : Int).toNat default).2) (fv .f32 1073741824)))] := hst
      repeat first | refine zaj rfl rfl rfl rfl ?_ | refine zaa rfl (zay rfl) ?_ | refine zaa rfl (zaz rfl) ?_ | (refine zac ?_; refine zaa rfl (zbb rfl rfl (by omega)) ?_) | (refine zae ?_; refine zaa rfl (zcg rfl rfl (by (repeat (first | exact mh | refine mt ?_)); done) rfl rfl) ?_) | refine zaa rfl (zcb rfl rfl) ?_ | refine zah ?_ | (refine zcr ?_; first | refine zcs ?_ | refine zcv ?_) | (refine zdb ?_; first | refine zdd ?_ | refine zdf ?_ | refine zdj rfl ?_) | refine zaa rfl (opj_litM rfl) ?_ | (refine rs_appendP 1 (selL skipI halfI L1 k) (fbin .quo .f32 (tmM 7 (L1.getD (k : Int).toNat default).1) (fv .f32 1073741824), fbin .add .f32 (fv .f32 1056964608) (fbin .quo .f32 (tmM 7 (L1.getD (k : Int).toNat default).2) (fv .f32 1073741824))) rfl rfl rfl rfl hc2 (by omega) rfl rfl ?_; intro g3 c3 h5 h6)
      refine done_round (k + 1, g3, c3) ⟨by simp only; omega, by simp only; rw [hst]; exact ⟨h5, h6⟩⟩ (by simp only; omega) ?_ (fun w h => by simp only; rw [hst]; exact h.sel [1, 2] (by decide) rfl)
      simp only
      rw [hst, show ((k + 1 : Nat) : Int) = (k : Int) + 1 by omega]
      (repeat (first | exact Env.sub_nil _ | refine Env.sub_cons rfl ?_))
end Go.Ab
namespace Go.Ab
open Go.Proofs
variable {R : World → Prop} [RStab R]
def halfS (i : Nat × Nat) : FV × FV := (fbin .mul .f32 hfT (tmM 7 i.1), fbin .add .f32 hfT (fbin .mul .f32 hfT (tmM 7 i.2)))
def skipS (i : Nat × Nat) : Bool := skipP (halfS i)
theorem half_dec : allLt (fun j => decide (fbin .quo .f32 (tmM 7 j) (fv .f32 1073741824) = fbin .mul .f32 hfT (tmM 7 j))) 128 = true := by decide +kernel
theorem halfI_eq {i : Nat × Nat} (h : i.1 < 128 ∧ i.2 < 128) : halfI i = halfS i := by
  have e1 := allLt_of half_dec i.1 h.1
  have e2 := allLt_of half_dec i.2 h.2
  simp only [decide_eq_true_eq] at e1 e2
  unfold halfI halfS
  generalize fbin .quo .f32 (tmM 7 i.1) (fv .f32 1073741824) = x at *
  generalize fbin .quo .f32 (tmM 7 i.2) (fv .f32 1073741824) = y at *
  subst e1 e2
  rfl
theorem skipI_eq {i : Nat × Nat} (h : i.1 < 128 ∧ i.2 < 128) : skipI i = skipS i := congrArg skipP (halfI_eq h)
theorem selL_zero (skip : Nat × Nat → Bool) (half : Nat × Nat → FV × FV) (L : List (Nat × Nat)) : selL skip half L 0 = [] := rfl
theorem selL_eq {L : List (Nat × Nat)} (h : ∀ x ∈ L, x.1 < 128 ∧ x.2 < 128) : ∀ k, k ≤ L.length → selL skipI halfI L k = selL skipS halfS L k
  | 0, _ => by rw [selL_zero, selL_zero]
  | k + 1, hk => by
    have hx := h (L.getD k default) (by rw [List.getD_eq_getElem?_getD, List.getElem?_eq_getElem (by omega)]; exact List.getElem_mem _)
    rw [selL_succ, selL_succ, skipI_eq hx, halfI_eq hx, selL_eq h k (by omega)]
theorem halfS_ok (L : List (Nat × Nat)) (k : Nat) : halfS (L.getD k default) = (fbin .mul .f32 (fv .f32 1056964608) (tmM 7 (L.getD (k : Int).toNat default).1), fbin .add .f32 (fv .f32 1056964608) (fbin .mul .f32 (fv .f32 1056964608) (tmM 7 (L.getD (k : Int).toNat default).2))) := by
  rw [show (k : Int).toNat = k from rfl]
  unfold halfS hfT
  rfl
attribute [local irreducible] WS RS Done OpJ Then InBlock Round Ret Env.sub FnH
attribute [local irreducible] tab tabC
set_option maxRecDepth 100000 in
set_option maxHeartbeats 4000000 in
theorem specSelfMeets_fn {n : Nat} {P : Nat → CV} (hn : 2 ≤ n ∧ n ≤ 5) (hB : B1 n P) (ht : Fn Try.prog 37 (fun _ => [.f .f32 hfT]) (.raw (.bool true))) :
    FnH (X := SmI) Try.prog 17 (fun w => [crvA w n P oneF, .f .f32 n7]) []
      (fun y => .tup [slOr y.ok y.g y.n y.c, .raw (.bool y.ok)]) (fun y => [⟨y.g, 43, y.xs, y.c * 2⟩])
      (fun y => (y.n ≤ y.c ∧ y.c ≤ maxLen) ∧ match meetR n n (7 + 7) 7 7 0 0 (leftP P) (rightP n P) (0, []) with
        | some s => y.ok = true ∧ y.n = (selL skipI halfI s.2 s.2.length).length
        | none => y.ok = false) := by
  have hC := specCutCurve_fn (n := n) (P := P) ⟨hn.1, by omega⟩ hB.fin hB.left.fin hB.right.fin ht
  refine fn_intro Try.func17 rfl Try.ntmps17 (fun _ => Nat.le_of_ble_eq_true rfl) fun w0 => ?_
  repeat first | refine zaa rfl (zaz rfl) ?_ | (refine zae ?_; refine zaa rfl (zcg rfl rfl (by (repeat (first | exact mh | refine mt ?_)); done) rfl rfl) ?_) | refine zah ?_ | (refine zcr ?_; refine zcs ?_) | (refine zdb ?_; first | refine zdc ?_ | refine zdd ?_) | (refine zak rfl rfl rfl ?_; intro g)
  refine rs_callM3 hC rfl rfl (Takes.crv (Takes.same Takes.nil)) rfl ?_
  rintro ⟨kk, a, b, ca, cb, a2, b2, ca2, cb2, ra, rb, rca, rcb⟩ ⟨⟨h1, h2⟩, h3, h4⟩
  dsimp only at h1 h2 h3 h4 ⊢
  have hMt := specMeetsOf_fn (np := n) (nq := n) (J := 7) (N := n7) (P := leftP P) (Q := rightP n P) (a := a) (b := b) (ca := ca) (cb := cb) (u := a2) (v := b2) (du := ca2) (dv := cb2) hn hn nearJ7 (by decide +kernel) (by decide +kernel) hB.left hB.right h1 h2 h3 h4
  repeat first | refine zaa rfl (zay rfl) ?_ | refine zaa rfl (zaz rfl) ?_ | (refine zae ?_; refine zaa rfl (zcg rfl rfl (by (repeat (first | exact mh | refine mt ?_)); done) rfl rfl) ?_) | refine zaa rfl (zbz rfl rfl) ?_ | refine zaa rfl (zcc rfl) ?_ | refine zah ?_ | (refine zcr ?_; refine zcs ?_) | (refine zdb ?_; first | refine zdc ?_ | refine zdd ?_ | refine zdf ?_ | refine zdj rfl ?_) | (refine zal rfl rfl ?_; intro g) | (refine zag ?_; first | refine zan 0 rfl rfl rfl rfl rfl rfl rfl rfl rfl ?_ | refine zan 1 rfl rfl rfl rfl rfl rfl rfl rfl rfl ?_)
  refine RS.weakS (e' := [(25, .f .f32 n7), (24, crvOc a2 b2 n ca2 cb2), (23, crvOc a b n ca cb), (1, .f .f32 n7)]) (RS.st (S' := StR (fun _ => True) w0 [] ([entC a n (leftP P) ca, entF b 31 n oneF cb, entC a2 n (rightP n P) ca2, entF b2 31 n oneF cb2] ++ [])) ?_ (fun w h => h.sel [4, 5, 3, 2] (by decide) rfl)) (by (repeat (first | exact Env.sub_nil _ | refine Env.sub_cons rfl ?_)))
  refine rs_call hMt rfl rfl (fun _ _ _ h => h) rfl ?_
  rintro ⟨k1, L1, g1, c1, ok1⟩ ⟨hcc, hres⟩
  dsimp only at hcc hres ⊢
  cases hm : meetR n n (7 + 7) 7 7 0 0 (leftP P) (rightP n P) (0, []) with
  | none =>
    rw [hm] at hres
    dsimp only at hres
    subst hres
    repeat first | refine zaa rfl (zay rfl) ?_ | refine zaa rfl (zaz rfl) ?_ | refine zaa rfl (zbz rfl rfl) ?_ | refine zaa rfl (zcc rfl) ?_ | refine zah ?_ | (refine zcr ?_; first | refine zcs ?_ | refine zct ?_) | (refine zdb ?_; first | refine zdc ?_ | refine zdd ?_ | refine zdg ?_ | refine zdi rfl ?_)
    exact done_ret2 rfl (⟨L1.length, g1, c1, flatM (tmM 7) L1, false⟩ : SmI) rfl rfl rfl ⟨hcc, rfl⟩ (.cons _ (.cons _ (.cons _ (.cons _ (List.Sublist.refl _)))))
  | some s1 =>
    rw [hm] at hres
    dsimp only at hres
    obtain ⟨rfl, rfl⟩ := hres
    have hMet := meet_met (np := n) (nq := n) (J := 7) 7 7 0 0 (leftP P) (rightP n P) (0, []) (k1, L1) (Nat.le_refl _) (Nat.le_refl _) (Nat.lt_succ_self 0) (Nat.lt_succ_self 0) ⟨fun _ h => (nomatch h), Nat.zero_le _, Nat.zero_le _⟩ hm
    have hlen := hMet.len
    have hidx := hMet.g
    dsimp only at hlen hidx
    have hsame := selL_eq (L := L1) (fun x hx => hidx x hx) L1.length (Nat.le_refl _)
    dsimp only
    rw [hsame]
    clear hm hsame hidx
    repeat first | refine zaa rfl (zay rfl) ?_ | refine zaa rfl (zaz rfl) ?_ | (refine zad ?_; refine zaa rfl (zbn rfl) ?_) | refine zaa rfl (zbz rfl rfl) ?_ | refine zaa rfl (zcc rfl) ?_ | refine zah ?_ | (refine zcr ?_; refine zcs ?_) | (refine zdb ?_; first | refine zdc ?_ | refine zdd ?_ | refine zde ?_ | refine zdf ?_ | refine zdj rfl ?_) | (refine rs_litM0 rfl ?_; intro g)
    refine ws_loop (ι := Nat × Nat × Nat) (fun y => [(1, .f .f32 n7), (9, .raw (.slice (some ⟨g1, 0, none⟩) L1.length c1)), (11, .raw (.slice (some ⟨y.2.1, 0, none⟩) (selL skipS halfS L1 y.1).length y.2.2)), (33, .raw (.int .i64 (L1.length : Nat))), (34, .raw (.int .i64 (y.1 : Nat)))])
      (fun y => St w0 [] [⟨y.2.1, 43, flatP (selL skipS halfS L1 y.1), y.2.2 * 2⟩, entM g1 (tmM 7) L1 c1]) (fun y => y.1 ≤ L1.length ∧ (selL skipS halfS L1 y.1).length ≤ y.2.2 ∧ y.2.2 ≤ maxLen) (fun y => L1.length - y.1) (0, g, 0) ⟨Nat.zero_le _, Nat.le_refl _, Nat.zero_le _⟩ ?_ (fun w h => h.sel [0, 5] (by decide) rfl) (fun y hy => ?_)
    · (repeat (first | exact Env.sub_nil _ | refine Env.sub_cons rfl ?_))
    obtain ⟨k, g2, c2⟩ := y
    dsimp only at hy ⊢
    obtain ⟨hk, hc2⟩ := hy
    have hsl := selL_le skipS halfS L1 k
    repeat first | (refine zac ?_; refine zaa rfl (zbe rfl rfl) ?_) | refine zah ?_ | (refine zcr ?_; refine zcs ?_) | (refine zdb ?_; first | refine zdc ?_ | refine zdd ?_)
    refine ws_cond rfl (fun hd => ?_) (fun hd => ?_)
    case' refine_2 =>
      have hkn : k = L1.length := by have := of_decide_eq_false hd; omega
      subst hkn
      repeat first | refine zaa rfl (zay rfl) ?_ | refine zaa rfl (zaz rfl) ?_ | refine zah ?_ | (refine zcr ?_; first | refine zcs ?_ | refine zcu ?_ | refine zcx ?_ | refine zda ?_) | (refine zdb ?_; first | refine zdc ?_ | refine zdd ?_ | refine zdg ?_ | refine zdh ?_)
      exact done_ret2 rfl (⟨_, g2, c2, flatP (selL skipS halfS L1 L1.length), true⟩ : SmI) rfl rfl rfl ⟨hc2, rfl, rfl⟩ (.cons_cons _ (List.nil_sublist _))
    have hlt : (k : Int) < (L1.length : Int) := of_decide_eq_true hd
    clear hd
    have hst := selL_succ skipS halfS L1 k
    obtain ⟨X, hX⟩ : ∃ X, X = fbin .mul .f32 (fv .f32 1056964608) (tmM 7 (L1.getD (k : Int).toNat default).1) := ⟨_, rfl⟩
    obtain ⟨Y, hY⟩ : ∃ Y, Y = fbin .add .f32 (fv .f32 1056964608) (fbin .mul .f32 (fv .f32 1056964608) (tmM 7 (L1.getD (k : Int).toNat default).2)) := ⟨_, rfl⟩
    have hhf : halfS (L1.getD k default) = (X, Y) := by rw [hX, hY]; exact halfS_ok L1 k
    obtain ⟨b1, hb1⟩ : ∃ b, b = cmpB .gtr (fcmp .f32 X (fbin .sub .f32 (fv .f32 1056964608) (fbin .mul .f32 (fv .f32 1090519040) n7))) := ⟨_, rfl⟩
    obtain ⟨b2, hb2⟩ : ∃ b, b = cmpB .lss (fcmp .f32 Y (fbin .add .f32 (fv .f32 1056964608) (fbin .mul .f32 (fv .f32 1090519040) n7))) := ⟨_, rfl⟩
    have hsk : skipS (L1.getD k default) = (b1 && b2) := by
      rw [hb1, hb2]
      unfold skipS
      rw [hhf]
      rfl
    rw [hsk, hhf] at hst
    repeat first | refine zaa rfl (zay rfl) ?_ | refine zaa rfl (zaz rfl) ?_ | refine zah ?_ | (refine zcr ?_; refine zcs ?_) | (refine zdb ?_; first | refine zdc ?_ | refine zdd ?_ | refine zde ?_ | refine zdf ?_)
    refine ws_drawP (ix := [0, 1, 2, 3, 4, 5, 6, 7, 8, 9, 10, 11, 12, 13]) (W := St w0 [] [entM g1 (tmM 7) L1 c1]) mixed (by decide +kernel) (fun _ h => h.sel [1] (by decide) rfl) ?_
    repeat first | refine zap rfl (zay rfl) ?_ | (refine zar ?_; refine zap rfl (zba rfl rfl rfl) ?_) | (refine zau ?_; refine zap rfl (zbw rfl rfl (by omega) (by omega)) ?_) | refine zap rfl (zcd rfl) ?_ | refine zav ?_ | refine zap rfl (opj_loadMa rfl rfl mh ⟨by omega, hlt⟩) ?_ | refine zap rfl (opj_loadMb rfl rfl mh ⟨by omega, hlt⟩) ?_ | refine zap rfl (opj_buildM rfl rfl) ?_
    rw [← hX, ← hY]
    refine ⟨rfl, ?_⟩
    refine gp_name fun o ho Q' hQ => ?_
    have q14 := op_at (i := 14) ho rfl
    have q15 := op_at (i := 15) ho rfl
    refine gp_step [14] (by rw [ho]; decide +kernel) fun x hx => ?_
    obtain rfl : x = 14 := by simpa using hx
    refine sp_makes q14 rfl (by rw [ho]; decide +kernel) rfl (makesX_alloc rfl rfl rfl) fun g13 => cont_go (fun _ h => h.sel [2] (by decide) rfl) ?_
    refine gp_step [15] (by rw [ho]; decide +kernel) fun x hx => ?_
    obtain rfl : x = 15 := by simpa using hx
    refine sp_eff q15 (by rw [ho]; decide +kernel) (effj_storeAX 0 rfl rfl rfl rfl rfl rfl rfl rfl rfl) (cont_set (by rw [ho]; decide +kernel) rfl ?_)
    refine gp_end (by rw [ho]; decide +kernel) ?_
    rw [hQ]
    clear hQ ho q14 q15
    repeat first | refine zaa rfl (zay rfl) ?_ | (refine zac ?_; first | refine zaa rfl (zba rfl rfl rfl) ?_ | refine zaa rfl (zbd rfl rfl rfl) ?_) | (refine zae ?_; refine zaa rfl (zcf rfl rfl (by (repeat (first | exact mh | refine mt ?_)); done) rfl) ?_) | refine zaa rfl (zcd rfl) ?_ | (refine zcr ?_; refine zcs ?_) | (refine zdb ?_; first | refine zdc ?_ | refine zdd ?_)
    rw [← hb1]
    clear hb1
    cases b1
    case' true =>
      repeat first | refine zai rfl rfl ?_ | refine zaa rfl (zay rfl) ?_ | (refine zac ?_; first | refine zaa rfl (zba rfl rfl rfl) ?_ | refine zaa rfl (zbd rfl rfl rfl) ?_) | (refine zae ?_; refine zaa rfl (zcf rfl rfl (by (repeat (first | exact mh | refine mt ?_)); done) rfl) ?_) | refine zaa rfl (zcd rfl) ?_ | refine zaa rfl (zca rfl rfl) ?_ | refine zah ?_ | (refine zcr ?_; refine zcs ?_)
      rw [← hb2]
      clear hb2
      cases b2
      case' true =>
        replace hst : selL skipS halfS L1 (k + 1) = selL skipS halfS L1 k := hst
        repeat first | refine zaa rfl (zay rfl) ?_ | (refine zac ?_; refine zaa rfl (zbb rfl rfl (by omega)) ?_) | refine zah ?_ | (refine zcr ?_; first | refine zcs ?_ | refine zcu ?_ | refine zcx ?_) | (refine zdb ?_; first | refine zdd ?_ | refine zdh ?_ | refine zdi rfl ?_)
        refine done_round (k + 1, g2, c2) ⟨by simp only; omega, by simp only; rw [hst]; exact hc2⟩ (by simp only; omega) ?_ (fun w h => by simp only; rw [hst]; exact h.sel [1, 2] (by decide) rfl)
        simp only
        rw [hst, show ((k + 1 : Nat) : Int) = (k : Int) + 1 by omega]
        (repeat (first | exact Env.sub_nil _ | refine Env.sub_cons rfl ?_))
    all_goals
      replace hst : selL skipS halfS L1 (k + 1) = selL skipS halfS L1 k ++ [(X, Y)] := hst
      repeat first | refine zaj rfl rfl rfl rfl ?_ | refine zaa rfl (zay rfl) ?_ | refine zaa rfl (zaz rfl) ?_ | (refine zac ?_; refine zaa rfl (zbb rfl rfl (by omega)) ?_) | (refine zae ?_; refine zaa rfl (zcg rfl rfl (by (repeat (first | exact mh | refine mt ?_)); done) rfl rfl) ?_) | refine zaa rfl (zcb rfl rfl) ?_ | refine zah ?_ | (refine zcr ?_; first | refine zcs ?_ | refine zcv ?_) | (refine zdb ?_; first | refine zdd ?_ | refine zdf ?_ | refine zdj rfl ?_) | refine zaa rfl (opj_litM rfl) ?_ | (refine rs_appendP 1 (selL skipS halfS L1 k) (X, Y) rfl rfl rfl rfl hc2 (by omega) rfl rfl ?_; intro g3 c3 h5 h6)
      refine done_round (k + 1, g3, c3) ⟨by simp only; omega, by simp only; rw [hst]; exact ⟨h5, h6⟩⟩ (by simp only; omega) ?_ (fun w h => by simp only; rw [hst]; exact h.sel [1, 2] (by decide) rfl)
      simp only
      rw [hst, show ((k + 1 : Nat) : Int) = (k : Int) + 1 by omega]
      (repeat (first | exact Env.sub_nil _ | refine Env.sub_cons rfl ?_))
end Go.Ab
