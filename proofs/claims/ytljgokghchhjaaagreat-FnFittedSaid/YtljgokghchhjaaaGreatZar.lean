/- Part 18 of the texts on which the law leans, joined: What a row asks of the whole program: that its start may be entered. No conditions. -/
import Derived.Test.YtljgokghchhjaaaGreatRows
import Derived.KernelRfl
import Derived.Test.YtljgokghchhjaaaGreatZaq
namespace Go.Ab
open Go.Proofs
theorem BdQ.fin {Q : Nat → CV} (h : BdQ Q) : (tabC 4 Q).all finC = true := tabC_fin fun j hj => by
  obtain ⟨x, y, vx, vy, _⟩ := h j hj
  exact finC_of vx vy
theorem long_zero2 {p : CV} (hx : Vl .f32 p.1 0) (hy : Vl .f32 p.2 0) : LongOk p ∧ Vl .f32 (longC p) 0 := by
  have p70 : (0 : Rat) ≤ p2 70 := by decide +kernel
  obtain ⟨R, vR, ok, h0, hs, _⟩ := vl_longB hx hy (by constructor <;> grind) (by constructor <;> grind)
  have h1 := (hs 0 ⟨0, FloatKind.f32.format.leastPlace, Nat.zero_le _, Int.le_refl _, by rw [show ((0 : Nat) : Rat) = 0 from rfl, Rat.zero_mul]⟩).1 (by grind)
  have e : R = 0 := Rat.le_antisymm h1 h0
  rw [e] at vR
  exact ⟨ok, vR⟩
theorem maxTo_ex {f : Nat → FV} {B : Rat → Prop} (h0 : B 0) {k : Nat} (h : ∀ j, j < k → ∃ r, Vl .f32 (f j) r ∧ B r) : ∀ i, i ≤ k → ∃ r, Vl .f32 (maxTo f i) r ∧ B r
  | 0, _ => ⟨0, Vl.c (k := .f32) (b := 0) (q := 0) (by decide +kernel), h0⟩
  | i + 1, hi => by
    obtain ⟨r, vr, br⟩ := maxTo_ex h0 h i (by omega)
    obtain ⟨s, vs, bs⟩ := h i (by omega)
    obtain ⟨u, vu, u1, u2, u3⟩ := vl_max vr vs
    exact ⟨u, vu, by rcases u3 with rfl | rfl <;> assumption⟩
theorem slope1 {A B C D : FV} {a b c d : Rat} (vA : Vl .f32 A a) (vB : Vl .f32 B b) (vC : Vl .f32 C c) (vD : Vl .f32 D d) (ha : -p66 ≤ a ∧ a ≤ p66) (hb : -p66 ≤ b ∧ b ≤ p66) (hc : -p66 ≤ c ∧ c ≤ p66) (hd : -p66 ≤ d ∧ d ≤ p66) :
    ∃ r, Vl .f32 (fbin .sub .f32 (fbin .sub .f32 A B) (fbin .sub .f32 C D)) r ∧ -p2 70 ≤ r ∧ r ≤ p2 70 := by
  have e67 : p2 67 = p66 + p66 := by decide +kernel
  have e68 : p2 68 = p2 67 + p2 67 := by decide +kernel
  have e70 : p2 68 ≤ p2 70 := by decide +kernel
  obtain ⟨x, vx, x1, x2⟩ := subB vA vB (E := 67) (by decide) (by grind) (by grind)
  obtain ⟨y, vy, y1, y2⟩ := subB vC vD (E := 67) (by decide) (by grind) (by grind)
  obtain ⟨z, vz, z1, z2⟩ := subB vx vy (E := 68) (by decide) (by grind) (by grind)
  exact ⟨z, vz, by grind, by grind⟩
def endT (Q : Nat → Nat → CV) (k : Nat) : FV := maxTo (fun j => longC (endC Q j)) (k - 1)
def slopeT (Q : Nat → Nat → CV) (k : Nat) : FV := maxTo (fun j => longC (slopeC Q j)) (k - 1)
section
variable {n k : Nat} {P : Nat → CV} {Q : Nat → Nat → CV}
theorem Chn.e0 (h : Chn n P k Q) {i : Nat} (hi : i + 1 < k) : LongOk (endC Q i) ∧ Vl .f32 (longC (endC Q i)) 0 := by
  obtain ⟨x, y, vx, vy, _⟩ := h.b i (by omega) 3 (by omega)
  unfold endC
  rw [h.j i hi]
  exact long_zero2 (p := subC2 (Q i 3) (Q i 3)) (sub_self_ex vx vx) (sub_self_ex vy vy)
theorem Chn.s0 (h : Chn n P k Q) {i : Nat} (hi : i + 1 < k) : LongOk (slopeC Q i) ∧ ∃ r, Vl .f32 (longC (slopeC Q i)) r := by
  obtain ⟨x0, y0, vx0, vy0, bx0, by0⟩ := h.b (i + 1) hi 0 (by omega)
  obtain ⟨x1, y1, vx1, vy1, bx1, by1⟩ := h.b (i + 1) hi 1 (by omega)
  obtain ⟨x2, y2, vx2, vy2, bx2, by2⟩ := h.b i (by omega) 2 (by omega)
  obtain ⟨x3, y3, vx3, vy3, bx3, by3⟩ := h.b i (by omega) 3 (by omega)
  obtain ⟨r, vr, r1, r2⟩ := slope1 vx1 vx0 vx3 vx2 bx1 bx0 bx3 bx2
  obtain ⟨s, vs, s1, s2⟩ := slope1 vy1 vy0 vy3 vy2 by1 by0 by3 by2
  obtain ⟨R, vR, ok, _⟩ := vl_longB vr vs ⟨r1, r2⟩ ⟨s1, s2⟩
  exact ⟨ok, R, vR⟩
theorem Chn.join (h : Chn n P k Q) (hn : n ≤ 48) : Fn Tryz.prog 9 (fun w => [crvsA w Q k]) (.tup [.f .f32 (endT Q k), .f .f32 (slopeT Q k), .raw (.bool true)]) := by
  have hk := h.hk
  have m1 := maxTo_ex (f := fun j => longC (endC Q j)) (B := fun _ => True) trivial (k := k - 1) (fun j hj => ⟨0, (h.e0 (by omega)).2, trivial⟩)
  have m2 := maxTo_ex (f := fun j => longC (slopeC Q j)) (B := fun _ => True) trivial (k := k - 1) (fun j hj => by
    obtain ⟨r, vr⟩ := (h.s0 (i := j) (by omega)).2
    exact ⟨r, vr, trivial⟩)
  refine joinMiss_fn ⟨hk.1, by omega⟩ (fun i hi => BdQ.fin (h.b i hi)) (fun i hi => ⟨(h.e0 hi).1, (h.s0 hi).1, ⟨0, (h.e0 hi).2⟩, (h.s0 hi).2⟩) (fun i hi => ⟨?_, ?_⟩)
  · obtain ⟨r, vr, _⟩ := m1 i (by omega)
    exact ⟨r, vr⟩
  · obtain ⟨r, vr, _⟩ := m2 i (by omega)
    exact ⟨r, vr⟩
theorem Chn.end_no (h : Chn n P k Q) : cmpB .neq (fcmp .f32 (endT Q k) (fv .f32 0)) = false := by
  obtain ⟨r, vr, r0⟩ := maxTo_ex (f := fun j => longC (endC Q j)) (B := fun r => r = 0) rfl (k := k - 1) (fun j hj => ⟨0, (h.e0 (by omega)).2, rfl⟩) (k - 1) (Nat.le_refl _)
  rw [r0] at vr
  have v0 : Vl .f32 (fv .f32 0) 0 := Vl.c (by decide +kernel)
  rw [vl_neq (show Vl .f32 (endT Q k) 0 from vr) v0]
  exact decide_eq_false (by simp)
end
end Go.Ab
namespace Go.Ab
open Go.Proofs
variable {R : World → Prop} [RStab R]
section
variable {P : Program} {N : Nat} {S : World → Prop} {e : Env} {Q : Exit → Env → World → Prop} {ops : Array Oper} {l : List Oper}
variable {w0 : World} {gs : List Nat} {H : List Ent} {dst : Option Tmp} {ty : TypeId} {pos : String} {after : Array Edge} {guard : Option (Nat × Bool)}
theorem RS.weakF {e' : Env} (h : RS P N ops l e' S Q) (he : Env.sub e' e) : RS P N ops l e S Q := fun a w hw hF => h a w hw (hF.sub he)
theorem crvF_get (A B : Nat → Nat) (k i : Nat) (h : i < k) : (crvCells A B k)[i * 2]? = some (.raw (.slice (some ⟨A i, 0, none⟩) 4 4)) ∧ (crvCells A B k)[i * 2 + 1]? = some (.raw (.slice (some ⟨B i, 0, none⟩) 4 4)) := by
  unfold crvCells
  rw [pairs_get (fun i => .raw (.slice (some ⟨A i, 0, none⟩) 4 4)) (fun i => .raw (.slice (some ⟨B i, 0, none⟩) 4 4)), pairs_get (fun i => .raw (.slice (some ⟨A i, 0, none⟩) 4 4)) (fun i => .raw (.slice (some ⟨B i, 0, none⟩) 4 4)), if_pos (by omega), if_pos (by omega), if_pos (by omega), if_neg (by omega),
    show i * 2 / 2 = i by omega, show (i * 2 + 1) / 2 = i by omega]
  exact ⟨rfl, rfl⟩
theorem opj_loadFP {R0 : World → Prop} {A B : Nat → Nat} {k cap g : Nat} {i : Int} {X : Operand} {t : TypeId} {d : TypeDesc} [hd : TyU P t d] (ha : aggD d = false) (hx : e.ev X = some (.raw (.pointer (some ⟨g, i.toNat * 2 + 0, none⟩)))) (hm : entV g A B k cap ∈ H) (h0 : 0 ≤ i ∧ i < k) :
    OpJ P (StR R0 w0 gs H) e ⟨dst, .load t X, ty, pos, after, guard⟩ (.raw (.slice (some ⟨A i.toNat, 0, none⟩) 4 4)) :=
  opj_load_own (en := entV g A B k cap) ha hx hm (crvF_get A B k i.toNat (by omega)).1
end
theorem ceqF_no {p : CV} {x y : Rat} (hx : Vl .f32 p.1 x) (hy : Vl .f32 p.2 y) : (!(cmpB .eql (fcmp .f32 p.1 p.1) && cmpB .eql (fcmp .f32 p.2 p.2))) = false := by
  rw [vl_eql hx hx, vl_eql hy hy]
  simp
theorem entC_nil (g c : Nat) (F : Nat → CV) : (⟨g, 36, [], c⟩ : Ent) = entC g 0 F c := by
  unfold entC tabC
  rfl
attribute [local irreducible] WS RS Done OpJ Then InBlock Round Ret Env.sub FnH
attribute [local irreducible] tab tabC crvsC
theorem leastF_fn (x : FV) (h1 : finB x = true) (h2 : cmpB .geq (fcmp .f32 x (fv .f32 0)) = true) : Fn Tryz.prog 16 (fun _ => [.f .f32 x]) (.raw (.bool true)) := by
  have h := l01Finite_fn x
  rw [h1] at h
  refine fn_intro Tryz.func16 rfl Tryz.ntmps16 (fun _ => Nat.le_of_ble_eq_true rfl) fun w0 => ?_
  repeat first | refine zai rfl rfl ?_ | refine zaa rfl (zay rfl) ?_ | refine zaa rfl (zaz rfl) ?_ | (refine zac ?_; refine zaa rfl (zbd rfl rfl rfl) ?_) | (refine zad ?_; (refine zaa rfl (zci rfl rfl (h) ?_) ?_; (focus ((repeat (first | exact Takes.nil | refine Takes.sl ?_ | refine Takes.lit ?_ | refine Takes.fa ?_ | refine Takes.fc ?_ | refine Takes.net ?_ | (refine Takes.ownE ?_ ?_ ?_ ?_ ?_; (focus (exact ⟨_, _, (by (repeat (first | exact mh | refine mt ?_)); done)⟩)); (focus (simp; done)); (focus omega); (focus (simp only [maxLen]; omega))) | refine Takes.same ?_)); done)))) | refine zaa rfl (zca rfl rfl) ?_ | refine zah ?_ | (refine zcr ?_; refine zcs ?_) | (refine zdb ?_; first | refine zdc ?_ | refine zdd ?_ | refine zdg ?_)
  rw [h2]
  exact done_ret1 rfl () rfl trivial (List.nil_sublist _)
set_option maxRecDepth 100000 in
set_option maxHeartbeats 40000000 in
theorem law_fitted (L M : List By) : Fn Tryz.prog 3 (fun w => [slB w L, slB w M]) (.raw (.bool true)) := by
  have hlong := b10Long_fn L M
  cases hb : (decide ((1048576 : Int) < L.length) || decide ((1048576 : Int) < M.length)) <;> rw [hb] at hlong
  case' true =>
    refine fn_intro Tryz.func3 rfl Tryz.ntmps3 (fun _ => Nat.le_of_ble_eq_true rfl) fun w0 => ?_
    repeat first | refine zaa rfl (zay rfl) ?_ | refine zaa rfl (zaz rfl) ?_ | (refine zad ?_; (refine zaa rfl (zci rfl rfl (hlong) ?_) ?_; (focus ((repeat (first | exact Takes.nil | refine Takes.sl ?_ | refine Takes.lit ?_ | refine Takes.fa ?_ | refine Takes.fc ?_ | refine Takes.net ?_ | (refine Takes.ownE ?_ ?_ ?_ ?_ ?_; (focus (exact ⟨_, _, (by (repeat (first | exact mh | refine mt ?_)); done)⟩)); (focus (simp; done)); (focus omega); (focus (simp only [maxLen]; omega))) | refine Takes.same ?_)); done)))) | refine zah ?_ | (refine zcr ?_; first | refine zcs ?_ | refine zct ?_) | (refine zdb ?_; first | refine zdc ?_ | refine zdd ?_ | refine zdg ?_ | refine zdi rfl ?_)
    exact done_ret1 rfl () rfl trivial (List.nil_sublist _)
  rw [Bool.or_eq_false_iff, decide_eq_false_iff_not, decide_eq_false_iff_not] at hb
  have hL : L.length < 2 ^ 40 := by omega
  have hM : M.length < 2 ^ 40 := by omega
  clear hb
  refine fn_intro Tryz.func3 rfl Tryz.ntmps3 (fun _ => Nat.le_of_ble_eq_true rfl) fun w0 => ?_
  repeat first | refine zaa rfl (zay rfl) ?_ | refine zaa rfl (zaz rfl) ?_ | (refine zac ?_; refine zaa rfl (zbb rfl rfl (by omega)) ?_) | (refine zad ?_; (refine zaa rfl (zci rfl rfl (hlong) ?_) ?_; (focus ((repeat (first | exact Takes.nil | refine Takes.sl ?_ | refine Takes.lit ?_ | refine Takes.fa ?_ | refine Takes.fc ?_ | refine Takes.net ?_ | (refine Takes.ownE ?_ ?_ ?_ ?_ ?_; (focus (exact ⟨_, _, (by (repeat (first | exact mh | refine mt ?_)); done)⟩)); (focus (simp; done)); (focus omega); (focus (simp only [maxLen]; omega))) | refine Takes.same ?_)); done)))) | refine zah ?_ | (refine zcr ?_; refine zcs ?_) | (refine zdb ?_; first | refine zdc ?_ | refine zdd ?_ | refine zdf ?_ | refine zdj rfl ?_) | (refine rs_call0 (b10At_fn M 0 6 (by omega) (by omega)) rfl rfl ?_ rfl ?_; (focus ((repeat (first | exact Takes.nil | refine Takes.sl ?_ | refine Takes.lit ?_ | refine Takes.fa ?_ | refine Takes.fc ?_ | refine Takes.net ?_ | (refine Takes.ownE ?_ ?_ ?_ ?_ ?_; (focus (exact ⟨_, _, (by (repeat (first | exact mh | refine mt ?_)); done)⟩)); (focus (simp; done)); (focus omega); (focus (simp only [maxLen]; omega))) | refine Takes.same ?_)); done)); rintro c0 ⟨hc1, hc2⟩)
  obtain ⟨N, hN0⟩ : ∃ N : Nat, 2 + c0 = (N : Int) := ⟨(2 + c0).toNat, by omega⟩
  rw [hN0]
  have hN : 2 ≤ N ∧ N ≤ 7 := by omega
  clear hN0 hc1 hc2
  have hP := path_fn L N (by omega) hL
  repeat first | refine zaa rfl (zay rfl) ?_ | refine zaa rfl (zaz rfl) ?_ | (refine zac ?_; first | refine zaa rfl (zba rfl rfl rfl) ?_ | refine zaa rfl (zbb rfl rfl (by omega)) ?_) | (refine zad ?_; (refine rs_call1 (hP) rfl rfl ?_ rfl ?_; (focus ((repeat (first | exact Takes.nil | refine Takes.sl ?_ | refine Takes.lit ?_ | refine Takes.fa ?_ | refine Takes.fc ?_ | refine Takes.net ?_ | (refine Takes.ownE ?_ ?_ ?_ ?_ ?_; (focus (exact ⟨_, _, (by (repeat (first | exact mh | refine mt ?_)); done)⟩)); (focus (simp; done)); (focus omega); (focus (simp only [maxLen]; omega))) | refine Takes.same ?_)); done)); rintro ⟨_, gp, cp, P, pa, pc, _, _, _, _⟩ ⟨hcp1, hcp2, hpth⟩; simp only [maxLen] at hcp1 hcp2 hpth)) | refine zaa rfl (zby rfl) ?_ | refine zah ?_ | (refine zcr ?_; refine zcs ?_) | (refine zdb ?_; first | refine zdc ?_ | refine zdd ?_) | (refine rs_call0 (b10At_fn M 1 8 (by omega) (by omega)) rfl rfl ?_ rfl ?_; (focus ((repeat (first | exact Takes.nil | refine Takes.sl ?_ | refine Takes.lit ?_ | refine Takes.fa ?_ | refine Takes.fc ?_ | refine Takes.net ?_ | (refine Takes.ownE ?_ ?_ ?_ ?_ ?_; (focus (exact ⟨_, _, (by (repeat (first | exact mh | refine mt ?_)); done)⟩)); (focus (simp; done)); (focus omega); (focus (simp only [maxLen]; omega))) | refine Takes.same ?_)); done)); rintro c1 ⟨hc3, hc4⟩)
  clear hP
  have hnr := near_ok hc3 hc4
  generalize fbin .quo .f32 (some (FloatKind.f32.nearest (1 + c1))) (fv .f32 1107296256) = near at *
  obtain ⟨hn1, hn2⟩ := hnr
  have hSp := specPieces_fn hpth hN (leastF_fn near hn1 hn2)
  have hFp : FpC fitPM N P near := fitPieces_path ⟨hN, _, _, hpth⟩ hn1 hn2
  unfold FpC at hFp
  have hfx : ∀ i, i < N → ∃ x y, Vl .f32 (P i).1 x ∧ Vl .f32 (P i).2 y := fun i hi => ⟨_, _, hpth.vx i hi, hpth.vy i hi⟩
  clear hc3 hc4 hpth
  refine RS.weakF (e' := [(38, .f .f32 near), (37, .raw (.slice (some ⟨gp, 0, none⟩) N cp)), (6, .f .f32 near), (4, .raw (.bool false)), (5, .raw (.slice (some ⟨gp, 0, none⟩) N cp))]) ?_ ?_
  rotate_left
  · (repeat (first | exact Env.sub_nil _ | refine Env.sub_cons rfl ?_))
  repeat first | refine zaa rfl (zay rfl) ?_ | refine zaa rfl (zaz rfl) ?_ | (refine zad ?_; (refine zaa rfl (zci rfl rfl (hSp) ?_) ?_; (focus ((repeat (first | exact Takes.nil | refine Takes.sl ?_ | refine Takes.lit ?_ | refine Takes.fa ?_ | refine Takes.fc ?_ | refine Takes.net ?_ | (refine Takes.ownE ?_ ?_ ?_ ?_ ?_; (focus (exact ⟨_, _, (by (repeat (first | exact mh | refine mt ?_)); done)⟩)); (focus (simp; done)); (focus omega); (focus (simp only [maxLen]; omega))) | refine Takes.same ?_)); done)))) | refine zaa rfl (zbz rfl rfl) ?_ | refine zah ?_ | (refine zcr ?_; refine zcs ?_) | (refine zdb ?_; first | refine zdc ?_ | refine zdd ?_)
  refine rs_callM2 hFp rfl rfl ?_ rfl ?_
  · (repeat (first | exact Takes.nil | refine Takes.sl ?_ | refine Takes.lit ?_ | refine Takes.fa ?_ | refine Takes.fc ?_ | refine Takes.net ?_ | (refine Takes.ownE ?_ ?_ ?_ ?_ ?_; (focus (exact ⟨_, _, (by (repeat (first | exact mh | refine mt ?_)); done)⟩)); (focus (simp; done)); (focus omega); (focus (simp only [maxLen]; omega))) | refine Takes.same ?_)); done
  rintro ⟨g1, cap1, A, B, k, Q⟩ ⟨⟨hk1, hk2⟩, hch, -⟩
  dsimp only at hk1 hk2 hch ⊢
  simp only [maxLen] at hk1 hk2
  have hkk : 1 ≤ k ∧ k + 1 ≤ N := hch.hk
  obtain ⟨HH, hHH⟩ : ∃ HH, HH = (entV g1 A B k cap1 :: rowsV A B Q k) ++ [entC gp N P cp] := ⟨_, rfl⟩
  rw [← hHH]
  have mC : entC gp N P cp ∈ HH := by rw [hHH]; simp
  have mV : entV g1 A B k cap1 ∈ HH := by rw [hHH]; simp
  have mR : ∀ x ∈ rowsV A B Q k, x ∈ HH := fun x hx => by rw [hHH]; simp [hx]
  have mA1 : entC (A 0) 4 (Q 0) 4 ∈ HH := mR _ (rowsV_mem (by omega)).2
  have mA2 : entC (A (k - 1)) 4 (Q (k - 1)) 4 ∈ HH := mR _ (rowsV_mem (by omega)).2
  clear hHH hFp hSp
  have hJ := hch.join (by omega)
  have hE := hch.end_no
  have ha : Q 0 0 = P 0 := hch.a
  have hz : Q (k - 1) 3 = P (N - 1) := hch.z
  clear hch
  repeat first | refine zaa rfl (zay rfl) ?_ | refine zaa rfl (zaz rfl) ?_ | (refine zac ?_; refine zaa rfl (zbl rfl rfl) ?_) | refine zaa rfl (zbz rfl rfl) ?_ | refine zah ?_ | (refine zcr ?_; refine zcs ?_) | (refine zdb ?_; first | refine zdc ?_ | refine zdd ?_ | refine zdf ?_ | refine zdi rfl ?_ | refine zdj rfl ?_) | refine zaa rfl (zci rfl rfl hJ (Takes.crvs mV mR (by simp only [maxLen]; omega) Takes.nil)) ?_
  have t0 : (0 : Int).toNat = 0 := rfl
  have t3 : (3 : Int).toNat = 3 := rfl
  have tk : ((k : Int) - 1).toNat = k - 1 := by omega
  have tn : ((N : Int) - 1).toNat = N - 1 := by omega
  obtain ⟨x0, y0, vx0, vy0⟩ := hfx 0 (by omega)
  obtain ⟨xn, yn, vxn, vyn⟩ := hfx (N - 1) (by omega)
  have n1 := ceqF_no vx0 vy0
  have n2 := ceqF_no vxn vyn
  have d1 : decide ((k : Int) < 1) = false := decide_eq_false (by omega)
  have d2 : decide ((N : Int) - 1 < (k : Int)) = false := decide_eq_false (by omega)
  have d44 : decide (((4 : Nat) : Int) ≠ 4) = false := by decide
  refine ws_draw (n := 68) mixed (by decide +kernel) ?_
  repeat first | refine zaw rfl rfl ?_ | refine zap rfl (zay rfl) ?_ | (refine zar ?_; refine zap rfl (zbd rfl rfl rfl) ?_) | refine zap rfl (zcb rfl rfl) ?_ | refine zap rfl (zcc rfl) ?_
  rw [hE]
  repeat first | refine zaw rfl rfl ?_ | refine zap rfl (zay rfl) ?_ | (refine zar ?_; refine zap rfl (zbe rfl rfl) ?_) | (refine zas ?_; refine zap rfl (zbn rfl) ?_) | refine zap rfl (zcb rfl rfl) ?_
  rw [d1]
  repeat first | refine zaw rfl rfl ?_ | refine zap rfl (zay rfl) ?_ | (refine zar ?_; first | refine zap rfl (zbc rfl rfl (by omega)) ?_ | refine zap rfl (zbg rfl rfl) ?_) | (refine zas ?_; refine zap rfl (zbn rfl) ?_) | refine zap rfl (zcb rfl rfl) ?_
  rw [d2]
  repeat first | refine zaw rfl rfl ?_ | refine zap rfl (zay rfl) ?_ | (refine zar ?_; first | refine zap rfl (zbc rfl rfl (by omega)) ?_ | refine zap rfl (zbj rfl rfl) ?_) | (refine zas ?_; refine zap rfl (zbn rfl) ?_) | (refine zau ?_; refine zap rfl (zbw rfl rfl (by omega) (by omega)) ?_) | refine zap rfl (zcd rfl) ?_ | refine zap rfl (zcb rfl rfl) ?_ | refine zap rfl (opj_loadFP rfl rfl mV (by omega)) ?_
  rw [d44]
  repeat first | refine zaw rfl rfl ?_ | refine zap rfl (zay rfl) ?_ | (refine zar ?_; refine zap rfl (opj_cneq rfl rfl) ?_) | (refine zau ?_; refine zap rfl (zbw rfl rfl (by omega) (by omega)) ?_) | refine zap rfl (zcb rfl rfl) ?_ | refine zap rfl (opj_loadC rfl rfl mA1 (by omega)) ?_ | refine zap rfl (opj_loadC rfl rfl mC (by omega)) ?_
  rw [t0, ha, n1]
  repeat first | refine zaw rfl rfl ?_ | refine zap rfl (zay rfl) ?_ | (refine zar ?_; refine zap rfl (zbc rfl rfl (by omega)) ?_) | (refine zas ?_; refine zap rfl (zbn rfl) ?_) | (refine zau ?_; refine zap rfl (zbw rfl rfl (by omega) (by omega)) ?_) | refine zap rfl (zcd rfl) ?_ | refine zap rfl (opj_loadFP rfl rfl mV (by omega)) ?_
  rw [tk]
  repeat first | refine zaw rfl rfl ?_ | refine zap rfl (zay rfl) ?_ | (refine zar ?_; first | refine zap rfl (zbc rfl rfl (by omega)) ?_ | refine zap rfl (opj_cneq rfl rfl) ?_) | (refine zas ?_; refine zap rfl (zbn rfl) ?_) | (refine zau ?_; refine zap rfl (zbw rfl rfl (by omega) (by omega)) ?_) | refine zap rfl (zcb rfl rfl) ?_ | refine zav ?_ | refine zap rfl (opj_loadC rfl rfl mA2 (by omega)) ?_ | refine zap rfl (opj_loadC rfl rfl mC (by omega)) ?_
  rw [t3, hz, tn, n2]
  skip
  clear n1 n2 d1 d2 hE hJ ha hz
  repeat first | refine zaa rfl (zaz rfl) ?_ | refine zah ?_ | (refine zcr ?_; refine zcs ?_) | (refine zdb ?_; first | refine zdc ?_ | refine zdd ?_ | refine zde ?_ | refine zdf ?_ | refine zdj rfl ?_) | (refine rs_lit0 rfl ?_; intro g2)
  rw [entC_nil (F := lineP)]
  refine ws_loop (ι := Nat × Nat × Nat) (fun y => [(4, .raw (.bool false)), (14, .raw (.slice (some ⟨y.2.1, 0, none⟩) y.1 y.2.2)), (15, .raw (.int .i64 (y.1 : Nat)))])
    (fun y => St w0 [] (entC y.2.1 y.1 lineP y.2.2 :: HH)) (fun y => y.1 ≤ 5 ∧ y.1 ≤ y.2.2 ∧ y.2.2 ≤ maxLen) (fun y => 5 - y.1) (0, g2, 0) ⟨by simp only; omega, Nat.le_refl _, Nat.zero_le _⟩ ?_ (fun _ h => h) (fun y hy => ?_)
  · (repeat (first | exact Env.sub_nil _ | refine Env.sub_cons rfl ?_))
  obtain ⟨j, gl, cl⟩ := y
  simp only at hy ⊢
  obtain ⟨hj, hcl1, hcl2⟩ := hy
  simp only [maxLen] at hcl1 hcl2
  repeat first | refine zaa rfl (zay rfl) ?_ | (refine zac ?_; refine zaa rfl (zbe rfl rfl) ?_) | refine zah ?_ | (refine zcr ?_; refine zcs ?_) | (refine zdb ?_; first | refine zdc ?_ | refine zdd ?_)
  refine ws_cond rfl (fun hd => ?_) (fun hd => ?_)
  case' refine_1 =>
    have hlt : (j : Int) < 5 := of_decide_eq_true hd
    clear hd
    repeat first | refine zaa rfl (zay rfl) ?_ | (refine zac ?_; refine zaa rfl (zba rfl rfl rfl) ?_) | (refine zad ?_; refine zaa rfl (zbr rfl rfl) ?_) | refine zaa rfl (zby rfl) ?_ | (refine zcr ?_; refine zcs ?_) | (refine zdb ?_; first | refine zdc ?_ | refine zdd ?_ | refine zde ?_ | refine zdf ?_) | refine zaa rfl (zco rfl rfl rfl rfl rfl rfl) ?_
    refine rs_appendC 0 lineP rfl rfl rfl rfl ⟨hcl1, by simp only [maxLen]; omega⟩ (by omega) rfl rfl rfl (fun s _ => rfl) fun g3 c3 h3 h3' => ?_
    repeat first | refine zaa rfl (zay rfl) ?_ | refine zaa rfl (zaz rfl) ?_ | (refine zac ?_; refine zaa rfl (zbb rfl rfl (by omega)) ?_) | refine zah ?_ | (refine zcr ?_; first | refine zcs ?_ | refine zcv ?_) | (refine zdb ?_; refine zdd ?_)
    refine done_round (j + 1, g3, c3) ⟨by simp only; omega, h3, h3'⟩ (by simp only; omega) ?_ (fun _ h => h)
    simp only
    rw [show ((j + 1 : Nat) : Int) = (j : Int) + 1 by omega]
    (repeat (first | exact Env.sub_nil _ | refine Env.sub_cons rfl ?_))
  have hj5 : j = 5 := by have := of_decide_eq_false hd; omega
  subst hj5
  clear hd hj
  repeat first | refine zaa rfl (zay rfl) ?_ | (refine zcr ?_; first | refine zcs ?_ | refine zcu ?_ | refine zcx ?_ | refine zda ?_) | (refine zdb ?_; first | refine zdc ?_ | refine zdd ?_ | refine zdh ?_)
  refine rs_callM2 line_cubic rfl rfl ?_ rfl ?_
  · (repeat (first | exact Takes.nil | refine Takes.sl ?_ | refine Takes.lit ?_ | refine Takes.fa ?_ | refine Takes.fc ?_ | refine Takes.net ?_ | (refine Takes.ownE ?_ ?_ ?_ ?_ ?_; (focus (exact ⟨_, _, (by (repeat (first | exact mh | refine mt ?_)); done)⟩)); (focus (simp; done)); (focus omega); (focus (simp only [maxLen]; omega))) | refine Takes.same ?_)); done
  rintro ⟨a1, b1⟩ -
  dsimp only
  repeat first | refine zaa rfl (zay rfl) ?_ | refine zaa rfl (zaz rfl) ?_ | refine zaa rfl (zbz rfl rfl) ?_ | refine zah ?_ | (refine zcr ?_; refine zcs ?_) | (refine zdb ?_; first | refine zdc ?_ | refine zdd ?_) | (refine zal rfl rfl ?_; intro g) | (refine zag ?_; refine zan 0 rfl rfl rfl rfl rfl rfl rfl rfl rfl ?_)
  rename_i g16
  have hLP := line_pieces
  unfold FpC at hLP
  refine rs_callM2 hLP rfl rfl ?_ rfl ?_
  · (repeat (first | exact Takes.nil | refine Takes.sl ?_ | refine Takes.lit ?_ | refine Takes.fa ?_ | refine Takes.fc ?_ | refine Takes.net ?_ | (refine Takes.ownE ?_ ?_ ?_ ?_ ?_; (focus (exact ⟨_, _, (by (repeat (first | exact mh | refine mt ?_)); done)⟩)); (focus (simp; done)); (focus omega); (focus (simp only [maxLen]; omega))) | refine Takes.same ?_)); done
  rintro ⟨g4, cap4, A4, B4, k4, Q4⟩ ⟨⟨hk4, hk4'⟩, hch4, hone⟩
  dsimp only at hk4 hk4' hone ⊢
  obtain rfl : k4 = 1 := hone line_one
  clear hone hch4 hLP hk4
  refine RS.drop (H' := [⟨g, 35, [.raw (.slice (some ⟨a1, 0, none⟩) 4 4), .raw (.slice (some ⟨b1, 0, none⟩) 4 4)], 2⟩, entF b1 27 4 (fun _ => one1) 4, entC a1 4 lineQ 4]) ?_ ?_
  rotate_left
  · exact List.Sublist.trans (.cons_cons _ (.cons_cons _ (.cons_cons _ (List.nil_sublist _)))) (List.sublist_append_right _ _)
  have hl := specLongOf_fn _ line_off.1
  repeat first | refine zai rfl rfl ?_ | refine zaa rfl (zay rfl) ?_ | refine zaa rfl (zaz rfl) ?_ | (refine zac ?_; first | refine zaa rfl (zbd rfl rfl rfl) ?_ | refine zaa rfl (zbj rfl rfl) ?_) | (refine zad ?_; refine zaa rfl (zbn rfl) ?_) | (refine zae ?_; first | refine zaa rfl (zcf rfl rfl (by (repeat (first | exact mh | refine mt ?_)); done) rfl) ?_ | refine zaa rfl (zcg rfl rfl (by (repeat (first | exact mh | refine mt ?_)); done) rfl rfl) ?_) | refine zaa rfl (zcd rfl) ?_ | refine zaa rfl (zbx rfl) ?_ | refine zaa rfl (zbz rfl rfl) ?_ | refine zaa rfl (zcb rfl rfl) ?_ | refine zaa rfl (zcc rfl) ?_ | refine zah ?_ | (refine zcr ?_; refine zcs ?_) | (refine zdb ?_; first | refine zdc ?_ | refine zdd ?_ | refine zdf ?_ | refine zdj rfl ?_)
  rw [line_miss]
  repeat first | refine zai rfl rfl ?_ | refine zaa rfl (zay rfl) ?_ | refine zaa rfl (zaz rfl) ?_ | (refine zac ?_; first | refine zaa rfl (zbd rfl rfl rfl) ?_ | refine zaa rfl (opj_csub rfl rfl) ?_) | (refine zad ?_; (refine zaa rfl (zci rfl rfl (hl) ?_) ?_; (focus ((repeat (first | exact Takes.nil | refine Takes.sl ?_ | refine Takes.lit ?_ | refine Takes.fa ?_ | refine Takes.fc ?_ | refine Takes.net ?_ | (refine Takes.ownE ?_ ?_ ?_ ?_ ?_; (focus (exact ⟨_, _, (by (repeat (first | exact mh | refine mt ?_)); done)⟩)); (focus (simp; done)); (focus omega); (focus (simp only [maxLen]; omega))) | refine Takes.same ?_)); done)))) | refine zaa rfl (zbx rfl) ?_ | refine zaa rfl (zbz rfl rfl) ?_ | refine zaa rfl (zca rfl rfl) ?_ | refine zah ?_ | (refine zcr ?_; refine zcs ?_) | (refine zdb ?_; first | refine zdc ?_ | refine zdd ?_ | refine zdg ?_) | refine zaa rfl (zci rfl rfl line_point (Takes.crvO (mt (mt mh)) (mt mh) (by decide) (Takes.same Takes.nil))) ?_
  rw [line_off.2]
  skip
  exact done_ret1 rfl () rfl trivial (List.nil_sublist _)
end Go.Ab
namespace Go.Ab
open Go.Proofs
theorem k_enter : Tryz.prog.mayEnter = true := by kernel_rfl
end Go.Ab
