/- The law FnSplines, walked. No conditions. -/
import Derived.Test.YtijihljfpeajlaaZan
namespace Go.Ab
open Go.Proofs
variable {R : World → Prop} [RStab R]
section
variable {P : Program} {N : Nat} {S : World → Prop} {e : Env} {Q : Exit → Env → World → Prop} {ops : Array Oper} {l : List Oper}
theorem RS.weakS {e' : Env} (h : RS P N ops l e' S Q) (he : Env.sub e' e) : RS P N ops l e S Q := fun a w hw hF => h a w hw (hF.sub he)
end
section
variable {P : Program} {N : Nat} {S : World → Prop} {e : Env} {Q : Exit → Env → World → Prop} {ops : Array Oper} {l : List Oper}
/-- What comes behind a statement is shown once for all ways through it. -/
theorem rs_K3 {E : Env} {SS : World → Prop} {c d : Code} (h : Done .normal E SS (Then P N d Q) → RS P N ops l e S (Then P N (.seq c d) Q)) (hD : Done .normal E SS (Then P N d Q)) : RS P N ops l e S (Then P N (.seq c d) Q) := h hD
end
theorem cu_get (m : Nat) (A B C : Nat → Nat) (k i : Nat) (h : i < k) : (cuCells m A B C k)[i * 2]? = some (.raw (.slice (some ⟨A i, 0, none⟩) m (C i))) ∧ (cuCells m A B C k)[i * 2 + 1]? = some (.raw (.slice (some ⟨B i, 0, none⟩) m m)) := by
  unfold cuCells
  rw [pairs_get (fun i => .raw (.slice (some ⟨A i, 0, none⟩) m (C i))) (fun i => .raw (.slice (some ⟨B i, 0, none⟩) m m)), pairs_get (fun i => .raw (.slice (some ⟨A i, 0, none⟩) m (C i))) (fun i => .raw (.slice (some ⟨B i, 0, none⟩) m m)), if_pos (by omega), if_pos (by omega), if_pos (by omega), if_neg (by omega),
    show i * 2 / 2 = i by omega, show (i * 2 + 1) / 2 = i by omega]
  exact ⟨rfl, rfl⟩
section
variable {P : Program} {S : World → Prop} {e : Env} {w0 : World} {gs : List Nat} {H : List Ent} {dst : Option Tmp} {ty : TypeId} {pos : String} {after : Array Edge} {guard : Option (Nat × Bool)}
theorem opj_loadUP (j : Nat) {R0 : World → Prop} {A B C : Nat → Nat} {m k cap g : Nat} {i : Int} {X : Operand} {t : TypeId} {d : TypeDesc} [hd : TyU P t d] (ha : aggD d = false) (hx : e.ev X = some (.raw (.pointer (some ⟨g, i.toNat * 2 + 0, none⟩)))) (hm : entU g m A B C k cap ∈ H) (hj : i.toNat = j) (h0 : j < k) :
    OpJ P (StR R0 w0 gs H) e ⟨dst, .load t X, ty, pos, after, guard⟩ (.raw (.slice (some ⟨A j, 0, none⟩) m (C j))) :=
  opj_load_own (en := entU g m A B C k cap) ha hx hm (by rw [hj]; exact (cu_get m A B C k j h0).1)
theorem opj_loadUA (j : Nat) {R0 : World → Prop} {A B C : Nat → Nat} {m k cap g : Nat} {i : Int} {X : Operand} {t : TypeId} {d : TypeDesc} {z : Value} {b : Nat} [hd : TyU P t d] [hi : TyI P t z 2 b] (ha : aggD d = true) (hx : e.ev X = some (.raw (.pointer (some ⟨g, i.toNat * 2, none⟩)))) (hm : entU g m A B C k cap ∈ H) (hj : i.toNat = j) (h0 : j < k) :
    OpJ P (StR R0 w0 gs H) e ⟨dst, .load t X, ty, pos, after, guard⟩ (crvOc (A j) (B j) m (C j) m) := by
  subst hj
  have hl := cuCells_length m A B C k
  obtain ⟨h1, h2⟩ := cu_get m A B C k i.toNat h0
  refine zcg (xs := cuCells m A B C k) ha hx hm (Nat.ble_eq_true_of_le (by rw [hl]; omega)) ?_
  have e1 := List.drop_eq_getElem_cons (l := cuCells m A B C k) (i := i.toNat * 2) (by rw [hl]; omega)
  have e2 := List.drop_eq_getElem_cons (l := cuCells m A B C k) (i := i.toNat * 2 + 1) (by rw [hl]; omega)
  rw [e1, e2, List.take_succ_cons, List.take_succ_cons, List.take_zero]
  rw [List.getElem?_eq_getElem (by rw [hl]; omega)] at h1 h2
  rw [Option.some.inj h1, Option.some.inj h2]
end
theorem rowsU_mem {m : Nat} {A B C : Nat → Nat} {Q : Nat → Nat → CV} {k j : Nat} (h : j < k) : entF (B j) 29 m (fun _ => one1) m ∈ rowsU m A B C Q k ∧ entC (A j) m (Q j) (C j) ∈ rowsU m A B C Q k := by
  unfold rowsU
  constructor <;> exact List.mem_flatMap.2 ⟨j, List.mem_range.2 h, by simp⟩
/-- The law's list of knots. -/
def lkF (y : Dsp) (r : Int) : FV := some (FloatKind.f32.nearest (knK y r.toNat))
def lkC (y : Dsp) : Nat → Nat
  | 0 => 0
  | i + 1 => rkN y.m i + 1
theorem ceqK_no {p : CV} {x y : Rat} (hx : Vl .f32 p.1 x) (hy : Vl .f32 p.2 y) : (!(cmpB .eql (fcmp .f32 p.1 p.1) && cmpB .eql (fcmp .f32 p.2 p.2))) = false := by
  rw [vl_eql hx hx, vl_eql hy hy]
  simp
theorem nine_c : cA nineC = AV.c .f32 (fv .f32 1091567616) (fv .f32 0) := rfl
attribute [local irreducible] WS RS Done OpJ Then InBlock Round Ret Env.sub FnH
attribute [local irreducible] tab tabC
set_option maxRecDepth 100000 in
set_option maxHeartbeats 40000000 in
theorem law_splines (L M : List By) : Fn Try.prog 3 (fun w => [slB w L, slB w M]) (.raw (.bool true)) := by
  have hlong := r8Long_fn L M
  cases hb : (decide ((48 : Int) < L.length) || decide ((48 : Int) < M.length)) <;> rw [hb] at hlong
  case' true =>
    refine fn_intro Try.func3 rfl Try.ntmps3 (fun _ => Nat.le_of_ble_eq_true rfl) fun w0 => ?_
    repeat first | refine zaa rfl (zay rfl) ?_ | refine zaa rfl (zaz rfl) ?_ | (refine zad ?_; (refine zaa rfl (zci rfl rfl (hlong) ?_) ?_; (focus ((repeat (first | exact Takes.nil | refine Takes.sl ?_ | refine Takes.lit ?_ | refine Takes.fa ?_ | refine Takes.fc ?_ | refine Takes.net ?_ | (refine Takes.ownE ?_ ?_ ?_ ?_ ?_; (focus (exact ⟨_, _, (by (repeat (first | exact mh | refine mt ?_)); done)⟩)); (focus (simp; done)); (focus omega); (focus (simp only [maxLen]; omega))) | refine Takes.same ?_)); done)))) | refine zah ?_ | (refine zcr ?_; first | refine zcs ?_ | refine zct ?_) | (refine zdb ?_; first | refine zdc ?_ | refine zdd ?_ | refine zdg ?_ | refine zdi rfl ?_)
    exact done_ret1 rfl () rfl trivial (List.nil_sublist _)
  rw [Bool.or_eq_false_iff, decide_eq_false_iff_not, decide_eq_false_iff_not] at hb
  have hL : L.length < 2 ^ 40 := by omega
  have hM : M.length < 2 ^ 40 := by omega
  clear hb
  have hC := r8Spline_fn L hL
  refine fn_intro Try.func3 rfl Try.ntmps3 (fun _ => Nat.le_of_ble_eq_true rfl) fun w0 => ?_
  repeat first | refine zaa rfl (zay rfl) ?_ | refine zaa rfl (zaz rfl) ?_ | (refine zad ?_; (refine zaa rfl (zci rfl rfl (hlong) ?_) ?_; (focus ((repeat (first | exact Takes.nil | refine Takes.sl ?_ | refine Takes.lit ?_ | refine Takes.fa ?_ | refine Takes.fc ?_ | refine Takes.net ?_ | (refine Takes.ownE ?_ ?_ ?_ ?_ ?_; (focus (exact ⟨_, _, (by (repeat (first | exact mh | refine mt ?_)); done)⟩)); (focus (simp; done)); (focus omega); (focus (simp only [maxLen]; omega))) | refine Takes.same ?_)); done)))) | refine zah ?_ | (refine zcr ?_; refine zcs ?_) | (refine zdb ?_; first | refine zdc ?_ | refine zdd ?_ | refine zdf ?_ | refine zdj rfl ?_)
  refine rs_callM3 hC rfl rfl ?_ rfl ?_
  · (repeat (first | exact Takes.nil | refine Takes.sl ?_ | refine Takes.lit ?_ | refine Takes.fa ?_ | refine Takes.fc ?_ | refine Takes.net ?_ | (refine Takes.ownE ?_ ?_ ?_ ?_ ?_; (focus (exact ⟨_, _, (by (repeat (first | exact mh | refine mt ?_)); done)⟩)); (focus (simp; done)); (focus omega); (focus (simp only [maxLen]; omega))) | refine Takes.same ?_)); done
  intro y h
  obtain ⟨d1, d2⟩ := h.d
  obtain ⟨n1, n2⟩ := h.n
  have hca := h.ca
  have hcb := h.cb
  simp only [maxLen] at hca hcb
  obtain ⟨z0, zl⟩ := h.ends
  have eL : mF y.m (((y.n + y.d + 1 : Nat) : Int) - 1) = some (FloatKind.f32.nearest (y.m y.n)) := by
    have := h.spok.last ((y.n : Int) + y.d) (by omega)
    unfold mF
    rw [show ((y.n + y.d + 1 : Nat) : Int) - 1 = (y.n : Int) + y.d by omega, show y.m ((y.n : Int) + y.d) = y.m y.n by omega]
  repeat first | refine zaa rfl (zay rfl) ?_ | refine zaa rfl (zaz rfl) ?_ | (refine zac ?_; refine zaa rfl (zbc rfl rfl (by omega)) ?_) | (refine zad ?_; refine zaa rfl (zbn rfl) ?_) | (refine zae ?_; first | refine zaa rfl (zbt rfl rfl (by (repeat (first | exact mh | refine mt ?_)); done) (by omega)) ?_ | refine zaa rfl (zcf rfl rfl (by (repeat (first | exact mh | refine mt ?_)); done) rfl) ?_) | (refine zaf ?_; refine zaa rfl (zbw rfl rfl (by omega) (by omega)) ?_) | refine zaa rfl (zcd rfl) ?_ | refine zah ?_ | (refine zcr ?_; refine zcs ?_) | (refine zdb ?_; first | refine zdc ?_ | refine zdd ?_) | (refine zal rfl rfl ?_; intro g5) | refine zan 0 rfl rfl rfl rfl rfl rfl rfl rfl rfl ?_
  rw [eL]
  repeat first | refine zaa rfl (zay rfl) ?_ | refine zaa rfl (zaz rfl) ?_ | (refine zac ?_; refine zaa rfl (zba rfl rfl rfl) ?_) | refine zaa rfl (zby rfl) ?_ | refine zah ?_ | (refine zcr ?_; refine zcs ?_) | (refine zdb ?_; first | refine zdc ?_ | refine zdd ?_) | (refine rs_call0 (r8At_fn M 0 65 (by omega) (by omega)) rfl rfl ?_ rfl ?_; (focus ((repeat (first | exact Takes.nil | refine Takes.sl ?_ | refine Takes.lit ?_ | refine Takes.fa ?_ | refine Takes.fc ?_ | refine Takes.net ?_ | (refine Takes.ownE ?_ ?_ ?_ ?_ ?_; (focus (exact ⟨_, _, (by (repeat (first | exact mh | refine mt ?_)); done)⟩)); (focus (simp; done)); (focus omega); (focus (simp only [maxLen]; omega))) | refine Takes.same ?_)); done)); rintro k0 ⟨hk0, hk1⟩)
  have ht := time_gd (k := k0) (l := y.m y.n) hk0 (by omega) (by omega) (by omega)
  obtain ⟨t, hte⟩ : ∃ t, t = fbin .mul .f32 (fbin .quo .f32 (some (FloatKind.f32.nearest k0)) (fv .f32 1115684864)) (some (FloatKind.f32.nearest (y.m y.n))) := ⟨_, rfl⟩
  rw [← hte] at ht ⊢
  clear hte
  have b0 : 0 ≤ k0 * y.m y.n := Int.mul_nonneg hk0 (by omega)
  have b1 : k0 * y.m y.n ≤ 64 * y.m y.n := Int.mul_le_mul_of_nonneg_right (by omega) (by omega)
  obtain ⟨τ, hτ⟩ : ∃ τ, τ = k0 * y.m y.n := ⟨_, rfl⟩
  rw [← hτ] at ht b0 b1
  clear hτ hk0 hk1
  repeat first | refine zaa rfl (zay rfl) ?_ | refine zaa rfl (zaz rfl) ?_ | (refine zac ?_; first | refine zaa rfl (zba rfl rfl rfl) ?_ | refine zaa rfl (zbb rfl rfl (by omega)) ?_) | (refine zae ?_; refine zaa rfl (zcg rfl rfl (by (repeat (first | exact mh | refine mt ?_)); done) rfl rfl) ?_) | refine zaa rfl (zby rfl) ?_ | refine zah ?_ | (refine zcr ?_; refine zcs ?_) | (refine zdb ?_; first | refine zdc ?_ | refine zdd ?_) | (refine rs_call0 (r8At_fn M 1 63 (by omega) (by omega)) rfl rfl ?_ rfl ?_; (focus ((repeat (first | exact Takes.nil | refine Takes.sl ?_ | refine Takes.lit ?_ | refine Takes.fa ?_ | refine Takes.fc ?_ | refine Takes.net ?_ | (refine Takes.ownE ?_ ?_ ?_ ?_ ?_; (focus (exact ⟨_, _, (by (repeat (first | exact mh | refine mt ?_)); done)⟩)); (focus (simp; done)); (focus omega); (focus (simp only [maxLen]; omega))) | refine Takes.same ?_)); done)); rintro k1 ⟨hk0, hk1⟩)
  have hu := time_gd (k := 1 + k1) (l := y.m y.n) (by omega) (by omega) (by omega) (by omega)
  obtain ⟨u, hue⟩ : ∃ u, u = fbin .mul .f32 (fbin .quo .f32 (some (FloatKind.f32.nearest (1 + k1))) (fv .f32 1115684864)) (some (FloatKind.f32.nearest (y.m y.n))) := ⟨_, rfl⟩
  rw [← hue] at hu ⊢
  clear hue
  have c0 : 1 * y.m y.n ≤ (1 + k1) * y.m y.n := Int.mul_le_mul_of_nonneg_right (by omega) (by omega)
  have c1 : (1 + k1) * y.m y.n ≤ 63 * y.m y.n := Int.mul_le_mul_of_nonneg_right (by omega) (by omega)
  obtain ⟨υ, hυ⟩ : ∃ υ, υ = (1 + k1) * y.m y.n := ⟨_, rfl⟩
  rw [← hυ] at hu c0 c1
  clear hυ hk0 hk1
  have hSp := h.spok
  have hs := h.span b0
  have hN := h.at ht b0 b1 hs
  have hAt := splineAt_fn hSp ht (by show 64 * y.m 0 ≤ τ; omega) b1 hN.fin
  have hBs := basisAt_fn hSp ht (by show 64 * y.m 0 ≤ τ; omega) b1 (h.outFin ht b1 hs)
  have hSn := spanAt_fn hSp ht (by show 64 * y.m 0 ≤ τ; omega) b1
  have hgaps := h.gaps ht b0 b1 hs
  have hlow := h.low ht b1 hs
  have hsl := h.slp ht b1 hs
  have hSs := splineSlope_fn hSp ht (by show 64 * y.m 0 ≤ τ; omega) b1 hsl
  have hkn := (gd_cmp (hSp.kn.g (spanN (fun i => 64 * y.m i) y.d τ (y.n - 1) : Nat) (by have := hs.hi; omega) (by have := hs.hi; omega)) ht).2.2.2.1
  rw [decide_eq_false (by have := hs.le; omega)] at hkn
  have hlo := hs.lo
  have hhi := hs.hi
  obtain ⟨k, hk⟩ : ∃ k, k = spanN (fun i => 64 * y.m i) y.d τ (y.n - 1) := ⟨_, rfl⟩
  rw [← hk] at hs hN hAt hBs hSn hgaps hlow hSs hkn hlo hhi
  obtain ⟨Z, hZ⟩ : ∃ Z, Z = deBF (mF y.m) t y.d (ptI y.P) k := ⟨_, rfl⟩
  rw [← hZ] at hN hAt hgaps
  refine RS.weakS (e' := [(72, .f .f32 t), (71, splO y.ga y.gb y.d y.n y.ca y.cb), (8, .f .f32 u), (7, .f .f32 t), (6, .f .f32 (some (FloatKind.f32.nearest (y.m y.n)))), (5, .raw (.pointer (some ⟨g5, 0, none⟩))), (4, .raw (.bool false))]) (RS.st (S' := StR (fun _ => True) w0 [] [⟨g5, 27, [.raw (.int .i64 (y.d : Int)), .raw (.slice (some ⟨y.ga, 0, none⟩) (y.n + y.d + 1) y.ca), .raw (.slice (some ⟨y.gb, 0, none⟩) y.n y.cb)], 3⟩, entF y.ga 29 (y.n + y.d + 1) (mF y.m) y.ca, entC y.gb y.n y.P y.cb]) ?_ (fun w hw => hw)) (by (repeat (first | exact Env.sub_nil _ | refine Env.sub_cons rfl ?_)))
  repeat first | refine zaa rfl (zay rfl) ?_ | refine zaa rfl (zaz rfl) ?_ | (refine zae ?_; refine zaa rfl (zcg rfl rfl (by (repeat (first | exact mh | refine mt ?_)); done) rfl rfl) ?_) | refine zaa rfl (zbz rfl rfl) ?_ | refine zah ?_ | (refine zcr ?_; refine zcs ?_) | (refine zdb ?_; first | refine zdc ?_ | refine zdd ?_) | refine zaa rfl (zci rfl rfl hAt (Takes.splO (mt mh) (mt (mt mh)) h.ca h.cb (Takes.same Takes.nil))) ?_
  refine rs_callM3 hBs rfl rfl (Takes.splO (mt mh) (mt (mt mh)) h.ca h.cb (Takes.same Takes.nil)) rfl ?_
  intro gbs _
  repeat first | refine zai rfl rfl ?_ | refine zaa rfl (zay rfl) ?_ | refine zaa rfl (zaz rfl) ?_ | (refine zac ?_; refine zaa rfl (zbj rfl rfl) ?_) | (refine zad ?_; refine zaa rfl (zbn rfl) ?_) | (refine zae ?_; first | refine zaa rfl (zcf rfl rfl (by (repeat (first | exact mh | refine mt ?_)); done) rfl) ?_ | refine zaa rfl (zcg rfl rfl (by (repeat (first | exact mh | refine mt ?_)); done) rfl rfl) ?_) | refine zaa rfl (zcd rfl) ?_ | refine zaa rfl (zbz rfl rfl) ?_ | refine zaa rfl (zcb rfl rfl) ?_ | refine zaa rfl (zcc rfl) ?_ | refine zah ?_ | (refine zcr ?_; refine zcs ?_) | (refine zdb ?_; first | refine zdc ?_ | refine zdd ?_) | refine zaa rfl (zci rfl rfl hSn (Takes.splO (mt (mt mh)) (mt (mt (mt mh))) h.ca h.cb (Takes.same Takes.nil))) ?_
  rw [show decide ((y.n : Int) ≠ (y.n : Int)) = false from decide_eq_false (by omega)]
  repeat first | refine zai rfl rfl ?_ | refine zaa rfl (zay rfl) ?_ | (refine zac ?_; refine zaa rfl (zbe rfl rfl) ?_) | (refine zae ?_; refine zaa rfl (zcf rfl rfl (by (repeat (first | exact mh | refine mt ?_)); done) rfl) ?_) | refine zaa rfl (zcd rfl) ?_ | refine zaa rfl (zcb rfl rfl) ?_
  rw [decide_eq_false (show ¬ (k : Int) < (y.d : Int) by omega)]
  repeat first | refine zai rfl rfl ?_ | refine zaa rfl (zay rfl) ?_ | (refine zac ?_; refine zaa rfl (zbh rfl rfl) ?_) | (refine zad ?_; refine zaa rfl (zbn rfl) ?_) | (refine zae ?_; refine zaa rfl (zcf rfl rfl (by (repeat (first | exact mh | refine mt ?_)); done) rfl) ?_) | refine zaa rfl (zcd rfl) ?_ | refine zaa rfl (zcb rfl rfl) ?_
  rw [decide_eq_false (show ¬ (y.n : Int) ≤ (k : Int) by omega)]
  repeat first | refine zai rfl rfl ?_ | refine zaa rfl (zay rfl) ?_ | (refine zac ?_; refine zaa rfl (zbd rfl rfl rfl) ?_) | (refine zae ?_; first | refine zaa rfl (zbt rfl rfl (by (repeat (first | exact mh | refine mt ?_)); done) (by omega)) ?_ | refine zaa rfl (zcf rfl rfl (by (repeat (first | exact mh | refine mt ?_)); done) rfl) ?_) | (refine zaf ?_; refine zaa rfl (zbw rfl rfl (by omega) (by omega)) ?_) | refine zaa rfl (zcd rfl) ?_ | refine zaa rfl (zcb rfl rfl) ?_ | refine zah ?_ | (refine zcr ?_; refine zcs ?_)
  rw [hkn]
  repeat first | refine zaa rfl (zaz rfl) ?_ | refine zah ?_ | (refine zcr ?_; refine zcs ?_) | (refine zdb ?_; first | refine zdc ?_ | refine zdd ?_ | refine zde ?_ | refine zdf ?_ | refine zdj rfl ?_)
  refine ws_loop (ι := Nat) (fun i => [(4, .raw (.bool false)), (5, .raw (.pointer (some ⟨g5, 0, none⟩))), (6, .f .f32 (some (FloatKind.f32.nearest (y.m y.n)))), (7, .f .f32 t), (8, .f .f32 u), (9, cA Z), (11, .raw (.slice (some ⟨gbs, 0, none⟩) y.n y.n)), (13, .raw (.int .i64 (k : Int))),
      (15, .f .f64 (accF (fun i => fconv .f32 .f64 (outB (mF y.m) t k y.d i)) i)), (16, .f .f64 (accF (fun i => fbin .mul .f64 (fconv .f32 .f64 (outB (mF y.m) t k y.d i)) (fconv .f32 .f64 (y.P i).1)) i)), (17, .f .f64 (accF (fun i => fbin .mul .f64 (fconv .f32 .f64 (outB (mF y.m) t k y.d i)) (fconv .f32 .f64 (y.P i).2)) i)), (18, .raw (.int .i64 (i : Nat)))])
    (fun _ => St w0 [] [entF gbs 29 y.n (outB (mF y.m) t k y.d) y.n, ⟨g5, 27, [.raw (.int .i64 (y.d : Int)), .raw (.slice (some ⟨y.ga, 0, none⟩) (y.n + y.d + 1) y.ca), .raw (.slice (some ⟨y.gb, 0, none⟩) y.n y.cb)], 3⟩, entF y.ga 29 (y.n + y.d + 1) (mF y.m) y.ca, entC y.gb y.n y.P y.cb]) (fun i => i ≤ y.n) (fun i => y.n - i) 0 (Nat.zero_le _) ?_ (fun _ hw => hw) (fun i hi => ?_)
  · (repeat (first | exact Env.sub_nil _ | refine Env.sub_cons rfl ?_))
  repeat first | refine zaa rfl (zay rfl) ?_ | (refine zac ?_; refine zaa rfl (zbe rfl rfl) ?_) | (refine zad ?_; refine zaa rfl (zbn rfl) ?_) | refine zah ?_ | (refine zcr ?_; refine zcs ?_) | (refine zdb ?_; first | refine zdc ?_ | refine zdd ?_)
  refine ws_cond rfl (fun hd => ?_) (fun hd => ?_)
  case' refine_1 =>
    have hlt : (i : Int) < (y.n : Int) := of_decide_eq_true hd
    clear hd
    have hli := hlow i
    repeat first | refine zaa rfl (zay rfl) ?_ | refine zaa rfl (zaz rfl) ?_ | (refine zac ?_; refine zaa rfl (zba rfl rfl rfl) ?_) | (refine zae ?_; refine zaa rfl (zbt rfl rfl (by (repeat (first | exact mh | refine mt ?_)); done) (by omega)) ?_) | (refine zaf ?_; refine zaa rfl (zbw rfl rfl (by omega) (by omega)) ?_) | refine zaa rfl (zbx rfl) ?_ | refine zah ?_ | (refine zcr ?_; refine zcs ?_) | (refine zdb ?_; first | refine zdc ?_ | refine zdd ?_ | refine zde ?_ | refine zdf ?_)
    refine ws_draw (n := 15) mixed (by decide +kernel) ?_
    repeat first | refine zap rfl (zay rfl) ?_ | (refine zar ?_; refine zap rfl (zba rfl rfl rfl) ?_) | (refine zas ?_; refine zap rfl (zbp rfl) ?_) | (refine zat ?_; first | refine zap rfl (opj_loadC rfl rfl (by (repeat (first | exact mh | refine mt ?_)); done) (by omega)) ?_ | refine zap rfl (zbt rfl rfl (by (repeat (first | exact mh | refine mt ?_)); done) (by omega)) ?_ | refine zap rfl (zcf rfl rfl (by (repeat (first | exact mh | refine mt ?_)); done) rfl) ?_) | (refine zau ?_; refine zap rfl (zbw rfl rfl (by omega) (by omega)) ?_) | refine zap rfl (zcd rfl) ?_ | refine zap rfl (zbx rfl) ?_ | refine zav ?_
    repeat first | refine zaa rfl (zaz rfl) ?_ | refine zah ?_ | (refine zcr ?_; refine zcs ?_) | (refine zdb ?_; refine zdc ?_)
    refine ws_draw (n := 15) mixed (by decide +kernel) ?_
    repeat first | refine zap rfl (zay rfl) ?_ | (refine zar ?_; refine zap rfl (zba rfl rfl rfl) ?_) | (refine zas ?_; refine zap rfl (zbq rfl) ?_) | (refine zat ?_; first | refine zap rfl (opj_loadC rfl rfl (by (repeat (first | exact mh | refine mt ?_)); done) (by omega)) ?_ | refine zap rfl (zbt rfl rfl (by (repeat (first | exact mh | refine mt ?_)); done) (by omega)) ?_ | refine zap rfl (zcf rfl rfl (by (repeat (first | exact mh | refine mt ?_)); done) rfl) ?_) | (refine zau ?_; refine zap rfl (zbw rfl rfl (by omega) (by omega)) ?_) | refine zap rfl (zcd rfl) ?_ | refine zap rfl (zbx rfl) ?_ | refine zav ?_
    repeat first | refine zaa rfl (zay rfl) ?_ | refine zaa rfl (zaz rfl) ?_ | (refine zac ?_; refine zaa rfl (zbd rfl rfl rfl) ?_) | (refine zae ?_; refine zaa rfl (zbt rfl rfl (by (repeat (first | exact mh | refine mt ?_)); done) (by omega)) ?_) | (refine zaf ?_; refine zaa rfl (zbw rfl rfl (by omega) (by omega)) ?_) | refine zaa rfl (zbx rfl) ?_ | refine zah ?_ | (refine zcr ?_; refine zcs ?_) | (refine zdb ?_; first | refine zdc ?_ | refine zdd ?_)
    unfold cLow at hli
    rw [hli]
    by_cases hw : (k : Int) - y.d ≤ i ∧ (i : Int) ≤ k
    · cases hz : cmpB .neq (fcmp .f32 (outB (mF y.m) t k y.d i) (fv .f32 0))
      · repeat first | refine zai rfl rfl ?_ | refine zaa rfl (zay rfl) ?_ | (refine zac ?_; refine zaa rfl (zbd rfl rfl rfl) ?_) | (refine zae ?_; refine zaa rfl (zbt rfl rfl (by (repeat (first | exact mh | refine mt ?_)); done) (by omega)) ?_) | (refine zaf ?_; refine zaa rfl (zbw rfl rfl (by omega) (by omega)) ?_)
        rw [hz]
        repeat first | refine zai rfl rfl ?_ | refine zaj rfl rfl rfl rfl ?_ | refine zaa rfl (zay rfl) ?_ | refine zaa rfl (zaz rfl) ?_ | (refine zac ?_; refine zaa rfl (zbb rfl rfl (by omega)) ?_) | refine zaa rfl (zcb rfl rfl) ?_ | refine zah ?_ | (refine zcr ?_; first | refine zcs ?_ | refine zcv ?_) | (refine zdb ?_; first | refine zdd ?_ | refine zdf ?_ | refine zdj rfl ?_) | refine rs_nu rfl rfl rfl ?_
        refine done_round (i + 1) (by omega) (by omega) ?_ (fun _ hw => hw)
        rw [show ((i + 1 : Nat) : Int) = (i : Int) + 1 by omega]
        (repeat (first | exact Env.sub_nil _ | refine Env.sub_cons rfl ?_))
      · repeat first | refine zai rfl rfl ?_ | refine zaa rfl (zay rfl) ?_ | (refine zac ?_; refine zaa rfl (zbd rfl rfl rfl) ?_) | (refine zae ?_; refine zaa rfl (zbt rfl rfl (by (repeat (first | exact mh | refine mt ?_)); done) (by omega)) ?_) | (refine zaf ?_; refine zaa rfl (zbw rfl rfl (by omega) (by omega)) ?_)
        rw [hz]
        repeat first | refine zai rfl rfl ?_ | refine zaa rfl (zay rfl) ?_ | (refine zac ?_; first | refine zaa rfl (zbc rfl rfl (by omega)) ?_ | refine zaa rfl (zbe rfl rfl) ?_) | (refine zae ?_; refine zaa rfl (zcf rfl rfl (by (repeat (first | exact mh | refine mt ?_)); done) rfl) ?_) | refine zaa rfl (zcd rfl) ?_
        rw [decide_eq_false (show ¬ (i : Int) < (k : Int) - (y.d : Int) by omega)]
        repeat first | refine zai rfl rfl ?_ | refine zaa rfl (zay rfl) ?_ | (refine zac ?_; refine zaa rfl (zbg rfl rfl) ?_) | refine zaa rfl (zca rfl rfl) ?_ | refine zaa rfl (zcb rfl rfl) ?_ | refine zah ?_ | (refine zcr ?_; refine zcs ?_)
        rw [decide_eq_false (show ¬ (k : Int) < (i : Int) by omega)]
        repeat first | refine zaa rfl (zay rfl) ?_ | refine zaa rfl (zaz rfl) ?_ | (refine zac ?_; refine zaa rfl (zbb rfl rfl (by omega)) ?_) | refine zah ?_ | (refine zcr ?_; first | refine zcs ?_ | refine zcv ?_) | (refine zdb ?_; first | refine zdd ?_ | refine zdf ?_ | refine zdj rfl ?_)
        refine done_round (i + 1) (by omega) (by omega) ?_ (fun _ hw => hw)
        rw [show ((i + 1 : Nat) : Int) = (i : Int) + 1 by omega]
        (repeat (first | exact Env.sub_nil _ | refine Env.sub_cons rfl ?_))
    · have hz := DspOk.zero (t := t) (y := y) hlo hw
      repeat first | refine zai rfl rfl ?_ | refine zaa rfl (zay rfl) ?_ | (refine zac ?_; refine zaa rfl (zbd rfl rfl rfl) ?_) | (refine zae ?_; refine zaa rfl (zbt rfl rfl (by (repeat (first | exact mh | refine mt ?_)); done) (by omega)) ?_) | (refine zaf ?_; refine zaa rfl (zbw rfl rfl (by omega) (by omega)) ?_)
      rw [hz]
      repeat first | refine zai rfl rfl ?_ | refine zaj rfl rfl rfl rfl ?_ | refine zaa rfl (zay rfl) ?_ | refine zaa rfl (zaz rfl) ?_ | (refine zac ?_; refine zaa rfl (zbb rfl rfl (by omega)) ?_) | refine zaa rfl (zcb rfl rfl) ?_ | refine zah ?_ | (refine zcr ?_; first | refine zcs ?_ | refine zcv ?_) | (refine zdb ?_; first | refine zdd ?_ | refine zdf ?_ | refine zdj rfl ?_) | refine rs_nu rfl rfl rfl ?_
      refine done_round (i + 1) (by omega) (by omega) ?_ (fun _ hw => hw)
      rw [show ((i + 1 : Nat) : Int) = (i : Int) + 1 by omega]
      (repeat (first | exact Env.sub_nil _ | refine Env.sub_cons rfl ?_))
  have hin : i = y.n := by have := of_decide_eq_false hd; omega
  subst hin
  clear hd hlow
  obtain ⟨G1, G2, G3⟩ := hgaps
  obtain ⟨⟨p1, v1⟩, ⟨q1, w1⟩, x1⟩ := G1
  obtain ⟨⟨p2, v2⟩, ⟨q2, w2⟩, x2⟩ := G2
  obtain ⟨⟨p3, v3⟩, ⟨q3, w3⟩, x3⟩ := G3
  have g1 := r8Gap_fn v1 w1
  have g2 := r8Gap_fn v2 w2
  have g3 := r8Gap_fn v3 w3
  unfold one64 c001 at x1
  unfold one64 at g1
  unfold c01 at x2 x3
  repeat first | refine zaa rfl (zay rfl) ?_ | (refine zac ?_; refine zaa rfl (zbd rfl rfl rfl) ?_) | (refine zad ?_; (refine zaa rfl (zci rfl rfl (g1) ?_) ?_; (focus ((repeat (first | exact Takes.nil | refine Takes.sl ?_ | refine Takes.lit ?_ | refine Takes.fa ?_ | refine Takes.fc ?_ | refine Takes.net ?_ | (refine Takes.ownE ?_ ?_ ?_ ?_ ?_; (focus (exact ⟨_, _, (by (repeat (first | exact mh | refine mt ?_)); done)⟩)); (focus (simp; done)); (focus omega); (focus (simp only [maxLen]; omega))) | refine Takes.same ?_)); done)))) | (refine zcr ?_; first | refine zcs ?_ | refine zcu ?_ | refine zcx ?_ | refine zda ?_) | (refine zdb ?_; first | refine zdc ?_ | refine zdd ?_ | refine zdh ?_)
  rw [x1]
  repeat first | refine zai rfl rfl ?_ | refine zaa rfl (zay rfl) ?_ | (refine zac ?_; refine zaa rfl (zbd rfl rfl rfl) ?_) | (refine zad ?_; first | refine zaa rfl (zbp rfl) ?_ | (refine zaa rfl (zci rfl rfl (g2) ?_) ?_; (focus ((repeat (first | exact Takes.nil | refine Takes.sl ?_ | refine Takes.lit ?_ | refine Takes.fa ?_ | refine Takes.fc ?_ | refine Takes.net ?_ | (refine Takes.ownE ?_ ?_ ?_ ?_ ?_; (focus (exact ⟨_, _, (by (repeat (first | exact mh | refine mt ?_)); done)⟩)); (focus (simp; done)); (focus omega); (focus (simp only [maxLen]; omega))) | refine Takes.same ?_)); done)))) | refine zaa rfl (zbx rfl) ?_ | refine zaa rfl (zcb rfl rfl) ?_
  rw [x2]
  repeat first | refine zai rfl rfl ?_ | refine zaa rfl (zay rfl) ?_ | (refine zac ?_; refine zaa rfl (zbd rfl rfl rfl) ?_) | (refine zad ?_; first | refine zaa rfl (zbq rfl) ?_ | (refine zaa rfl (zci rfl rfl (g3) ?_) ?_; (focus ((repeat (first | exact Takes.nil | refine Takes.sl ?_ | refine Takes.lit ?_ | refine Takes.fa ?_ | refine Takes.fc ?_ | refine Takes.net ?_ | (refine Takes.ownE ?_ ?_ ?_ ?_ ?_; (focus (exact ⟨_, _, (by (repeat (first | exact mh | refine mt ?_)); done)⟩)); (focus (simp; done)); (focus omega); (focus (simp only [maxLen]; omega))) | refine Takes.same ?_)); done)))) | refine zaa rfl (zbx rfl) ?_ | refine zaa rfl (zcb rfl rfl) ?_ | refine zah ?_ | (refine zcr ?_; refine zcs ?_)
  rw [x3]
  repeat first | refine zaa rfl (zay rfl) ?_ | (refine zae ?_; refine zaa rfl (zcg rfl rfl (by (repeat (first | exact mh | refine mt ?_)); done) rfl rfl) ?_) | (refine zcr ?_; refine zcs ?_) | (refine zdb ?_; first | refine zdc ?_ | refine zdd ?_ | refine zdf ?_ | refine zdj rfl ?_)
  clear g1 g2 g3 x1 x2 x3 v1 w1 v2 w2 v3 w3 hBs hSn hkn
  refine RS.weakS (e' := [(218, .f .f32 u), (217, splO y.ga y.gb y.d y.n y.ca y.cb), (9, cA Z), (4, .raw (.bool false)), (5, .raw (.pointer (some ⟨g5, 0, none⟩))), (6, .f .f32 (some (FloatKind.f32.nearest (y.m y.n)))), (7, .f .f32 t)]) (RS.st (S' := StR (fun _ => True) w0 [] [⟨g5, 27, [.raw (.int .i64 (y.d : Int)), .raw (.slice (some ⟨y.ga, 0, none⟩) (y.n + y.d + 1) y.ca), .raw (.slice (some ⟨y.gb, 0, none⟩) y.n y.cb)], 3⟩, entF y.ga 29 (y.n + y.d + 1) (mF y.m) y.ca, entC y.gb y.n y.P y.cb]) ?_ (fun w hw => hw.sel [1, 2, 3] (by decide) rfl)) (by (repeat (first | exact Env.sub_nil _ | refine Env.sub_cons rfl ?_)))
  refine rs_K3 (E := [(4, .raw (.bool false)), (5, .raw (.pointer (some ⟨g5, 0, none⟩))), (6, .f .f32 (some (FloatKind.f32.nearest (y.m y.n)))), (7, .f .f32 t)]) (SS := St w0 [] [⟨g5, 27, [.raw (.int .i64 (y.d : Int)), .raw (.slice (some ⟨y.ga, 0, none⟩) (y.n + y.d + 1) y.ca), .raw (.slice (some ⟨y.gb, 0, none⟩) y.n y.cb)], 3⟩, entF y.ga 29 (y.n + y.d + 1) (mF y.m) y.ca, entC y.gb y.n y.P y.cb]) (fun hD => ?_) ?_
  · rcases Nat.lt_or_ge (cnF (mF y.m) u (y.n + y.d + 1)) y.d with hc | hc
    · have hl := h.ps.lo
      have hcn := cnF_cntA (N := y.n + y.d + 1) (fun i i0 i1 => hSp.kn.g i i0 (by omega)) hu (y.n + y.d + 1) (Nat.le_refl _)
      have hca2 := cntA_all (d := y.d) hl hSp.kn.up (v := υ) (by show 64 * y.m 0 < υ; omega) (by show υ < 64 * y.m y.n; omega)
      have hPs := h.ps.put hu (by show 64 * y.m 0 < υ; omega) (by show υ < 64 * y.m y.n; omega) (by omega) (by omega)
      have hSp2 := hPs.spok (by omega) (by omega)
      have hPK := putKnot_yes hSp hu (by show 64 * y.m 0 < υ; omega) (by show υ < 64 * y.m y.n; omega) hc hSp2
      have hFar := h.putFar ht b0 b1 hPs (by omega)
      have hN2 := hPs.at ht (by show 64 * y.m 0 ≤ τ; omega) b1 d2 (by omega) hs
      rw [← hk, ← hZ] at hFar
      have e0 := hPs.e0
      have en := hPs.en
      have hAt2 := splineAt_fn hSp2 ht (by rw [e0]; show 64 * y.m 0 ≤ τ; omega) (by rw [en]; exact b1) hN2.fin
      obtain ⟨Z2, hZ2⟩ : ∃ Z2, Z2 = deBF (insKF (mF y.m) (spanN (fun i => 64 * y.m i) y.d υ (y.n - 1) : Nat) u) t y.d (ptI (putP (mF y.m) (spanN (fun i => 64 * y.m i) y.d υ (y.n - 1) : Nat) u y.d y.P)) (spanN (insA (fun i => 64 * y.m i) (spanN (fun i => 64 * y.m i) y.d υ (y.n - 1) : Nat) υ) y.d τ (y.n + 1 - 1) : Nat) := ⟨_, rfl⟩
      rw [← hZ2] at hFar hAt2
      generalize insKF (mF y.m) (spanN (fun i => 64 * y.m i) y.d υ (y.n - 1) : Nat) u = f2 at *
      generalize putP (mF y.m) (spanN (fun i => 64 * y.m i) y.d υ (y.n - 1) : Nat) u y.d y.P = P2 at *
      obtain ⟨hf1, hf2⟩ := hFar
      have hfar := r8Far_fn _ _ hf1
      unfold c01 at hf2
      refine rs_callM3 hPK rfl rfl (Takes.splO (mt mh) (mt (mt mh)) h.ca h.cb (Takes.same Takes.nil)) rfl ?_
      rintro ⟨⟨ga2, gb2⟩, ca2, cb2⟩ ⟨hca2, hcb2⟩
      dsimp only at hca2 hcb2 ⊢
      repeat first | refine zaa rfl (zay rfl) ?_ | refine zaa rfl (zaz rfl) ?_ | refine zaa rfl (zbz rfl rfl) ?_ | refine zah ?_ | (refine zal rfl rfl ?_; intro g19) | refine zan 0 rfl rfl rfl rfl rfl rfl rfl rfl rfl ?_
      refine zcs ?_
      refine zdc ?_
      refine zdc ?_
      refine zdd ?_
      repeat first | refine zaa rfl (zay rfl) ?_ | refine zah ?_
      refine zcs ?_
      refine zdi rfl ?_
      refine zdc ?_
      refine zdd ?_
      repeat first | refine zaa rfl (zay rfl) ?_ | refine zaa rfl (zaz rfl) ?_ | (refine zae ?_; refine zaa rfl (zcg rfl rfl (by (repeat (first | exact mh | refine mt ?_)); done) rfl rfl) ?_) | refine zaa rfl (zbz rfl rfl) ?_ | refine zah ?_ | refine zaa rfl (zci rfl rfl hAt2 (Takes.splO (mt mh) (mt (mt mh)) hca2 hcb2 (Takes.same Takes.nil))) ?_
      refine zcs ?_
      refine zdc ?_
      refine zdd ?_
      repeat first | refine zai rfl rfl ?_ | refine zaa rfl (zay rfl) ?_ | (refine zac ?_; refine zaa rfl (zbd rfl rfl rfl) ?_) | (refine zad ?_; (refine zaa rfl (zci rfl rfl (hfar) ?_) ?_; (focus ((repeat (first | exact Takes.nil | refine Takes.sl ?_ | refine Takes.lit ?_ | refine Takes.fa ?_ | refine Takes.fc ?_ | refine Takes.net ?_ | (refine Takes.ownE ?_ ?_ ?_ ?_ ?_; (focus (exact ⟨_, _, (by (repeat (first | exact mh | refine mt ?_)); done)⟩)); (focus (simp; done)); (focus omega); (focus (simp only [maxLen]; omega))) | refine Takes.same ?_)); done)))) | refine zaa rfl (zcb rfl rfl) ?_ | refine zaa rfl (zcc rfl) ?_
      rw [hf2]
      repeat first | refine zai rfl rfl ?_ | refine zaa rfl (zay rfl) ?_ | (refine zac ?_; first | refine zaa rfl (zbb rfl rfl (by omega)) ?_ | refine zaa rfl (zbj rfl rfl) ?_) | (refine zad ?_; refine zaa rfl (zbn rfl) ?_) | (refine zae ?_; refine zaa rfl (zcf rfl rfl (by (repeat (first | exact mh | refine mt ?_)); done) rfl) ?_) | refine zaa rfl (zcd rfl) ?_ | refine zaa rfl (zcb rfl rfl) ?_
      rw [show decide (((y.n + 1 : Nat) : Int) ≠ (y.n : Int) + 1) = false from decide_eq_false (by omega)]
      repeat first | refine zai rfl rfl ?_ | (refine zac ?_; first | refine zaa rfl (zbb rfl rfl (by omega)) ?_ | refine zaa rfl (zbj rfl rfl) ?_) | (refine zad ?_; refine zaa rfl (zbn rfl) ?_) | (refine zae ?_; refine zaa rfl (zcf rfl rfl (by (repeat (first | exact mh | refine mt ?_)); done) rfl) ?_) | refine zaa rfl (zcd rfl) ?_ | refine zaa rfl (zcb rfl rfl) ?_ | refine zah ?_
      rw [show decide (((y.n + 1 + y.d + 1 : Nat) : Int) ≠ ((y.n + y.d + 1 : Nat) : Int) + 1) = false from decide_eq_false (by omega)]
      skip
      refine zcs ?_
      refine zdj rfl ?_
      refine zdf ?_
      exact done_thenW hD (by (repeat (first | exact Env.sub_nil _ | refine Env.sub_cons rfl ?_))) (fun w hw => hw.sel [3, 4, 5] (by decide) rfl)
    · have hPK := putKnot_no hSp hu (by show 64 * y.m 0 < υ; omega) (by show υ < 64 * y.m y.n; omega) hc
      refine rs_callM3 hPK rfl rfl (Takes.splO (mt mh) (mt (mt mh)) h.ca h.cb (Takes.same Takes.nil)) rfl ?_
      intro _ _
      repeat first | refine zaa rfl (zay rfl) ?_ | refine zaa rfl (zaz rfl) ?_ | refine zaa rfl (zbz rfl rfl) ?_ | refine zah ?_ | (refine zal rfl rfl ?_; intro g19) | refine zan 0 rfl rfl rfl rfl rfl rfl rfl rfl rfl ?_
      refine zcs ?_
      refine zdc ?_
      refine zdc ?_
      refine zdd ?_
      repeat first | refine zaa rfl (zay rfl) ?_ | refine zah ?_
      refine zcs ?_
      refine zdj rfl ?_
      refine zdf ?_
      exact done_thenW hD (by (repeat (first | exact Env.sub_nil _ | refine Env.sub_cons rfl ?_))) (fun w hw => hw.sel [1, 2, 3] (by decide) rfl)
  clear hAt hu c0 c1 hN
  have hF0 := h.firstFar gd_zero
  have hF1 := h.lastFar (z := some (FloatKind.f32.nearest (y.m y.n))) (gd_whole (by omega) (by omega))
  have hF2 := h.movedFar gd_zero
  obtain ⟨f0a, f0b, f0c⟩ := hF0
  obtain ⟨f1a, f1b, f1c⟩ := hF1
  obtain ⟨f2a, f2b, f2c⟩ := hF2
  have hA0 := splineAt_fn hSp gd_zero (by show 64 * y.m 0 ≤ 0; omega) (by show 0 ≤ 64 * y.m y.n; omega) f0c
  have hA1 := splineAt_fn hSp (gd_whole (x := y.m y.n) (by omega) (by omega)) (by show 64 * y.m 0 ≤ 64 * y.m y.n; omega) (Int.le_refl _) f1c
  have hA2 := splineAt_fn h.movedOk gd_zero (by show 64 * y.m 0 ≤ 0; omega) (by show 0 ≤ 64 * y.m y.n; omega) f2c
  have hMv := moveCorner_fn hSp (i := 0) (by omega) (q := nineC) (by decide +kernel)
  have hEvO := even_ok (P := y.P) h.d h.n h.p.pv.fin
  have hEv := evenSpline_fn hEvO
  have hVe := validSpline_fn hEvO
  have r0 := r8Far_fn _ _ f0a
  have r1 := r8Far_fn _ _ f1a
  have r2 := r8Far_fn _ _ f2a
  rw [nine_c] at r2
  unfold c001 at f0b f1b f2b
  generalize deBF (mF y.m) (fv .f32 0) y.d (ptI y.P) (spanN (fun i => 64 * y.m i) y.d 0 (y.n - 1) : Nat) = Z0 at *
  generalize deBF (mF y.m) (some (FloatKind.f32.nearest (y.m y.n))) y.d (ptI y.P) (spanN (fun i => 64 * y.m i) y.d (64 * y.m y.n) (y.n - 1) : Nat) = Z1 at *
  generalize deBF (mF y.m) (fv .f32 0) y.d (ptI (putU 0 nineC y.P)) (spanN (fun i => 64 * y.m i) y.d 0 (y.n - 1) : Nat) = Z2 at *
  repeat first | refine zaa rfl (zay rfl) ?_ | refine zaa rfl (zaz rfl) ?_ | (refine zae ?_; refine zaa rfl (zcg rfl rfl (by (repeat (first | exact mh | refine mt ?_)); done) rfl rfl) ?_) | refine zaa rfl (zbz rfl rfl) ?_ | refine zah ?_ | (refine zcr ?_; refine zcs ?_) | (refine zdb ?_; first | refine zdc ?_ | refine zdd ?_) | refine zaa rfl (zci rfl rfl hA0 (Takes.splO (mt mh) (mt (mt mh)) h.ca h.cb (Takes.same Takes.nil))) ?_ | refine zaa rfl (zci rfl rfl hA1 (Takes.splO (mt mh) (mt (mt mh)) h.ca h.cb (Takes.same Takes.nil))) ?_
  refine rs_callM3 hMv rfl rfl (Takes.splO (mt mh) (mt (mt mh)) h.ca h.cb (Takes.same (Takes.same Takes.nil))) rfl ?_
  rintro ⟨⟨ga2, gb2⟩, ca2, cb2⟩ ⟨hca2, hcb2⟩
  dsimp only at hca2 hcb2 ⊢
  repeat first | refine zaa rfl (zay rfl) ?_ | refine zaa rfl (zaz rfl) ?_ | (refine zae ?_; first | refine zaa rfl (zcf rfl rfl (by (repeat (first | exact mh | refine mt ?_)); done) rfl) ?_ | refine zaa rfl (zcg rfl rfl (by (repeat (first | exact mh | refine mt ?_)); done) rfl rfl) ?_) | refine zaa rfl (zcd rfl) ?_ | refine zaa rfl (zbz rfl rfl) ?_ | refine zah ?_ | (refine zcr ?_; refine zcs ?_) | (refine zdb ?_; first | refine zdc ?_ | refine zdd ?_) | (refine zal rfl rfl ?_; intro g27) | refine zan 0 rfl rfl rfl rfl rfl rfl rfl rfl rfl ?_ | refine zaa rfl (zci rfl rfl hA2 (Takes.splO (mt mh) (mt (mt mh)) hca2 hcb2 (Takes.same Takes.nil))) ?_ | refine zaa rfl (zci rfl rfl hSs (Takes.splO (mt (mt (mt (mt mh)))) (mt (mt (mt (mt (mt mh))))) h.ca h.cb (Takes.same Takes.nil))) ?_
  refine RS.weakS (e' := [(288, .raw (.int .i64 (y.d : Int))), (286, .raw (.slice (some ⟨y.gb, 0, none⟩) y.n y.cb)), (23, cA Z0), (24, .raw (.bool true)), (25, cA Z1), (26, .raw (.bool true)), (28, .raw (.bool true)), (29, cA Z2), (30, .raw (.bool true)), (32, .raw (.bool true)), (4, .raw (.bool false)), (5, .raw (.pointer (some ⟨g5, 0, none⟩))), (6, .f .f32 (some (FloatKind.f32.nearest (y.m y.n)))), (7, .f .f32 t)]) (RS.st (S' := StR (fun _ => True) w0 [] [⟨g5, 27, [.raw (.int .i64 (y.d : Int)), .raw (.slice (some ⟨y.ga, 0, none⟩) (y.n + y.d + 1) y.ca), .raw (.slice (some ⟨y.gb, 0, none⟩) y.n y.cb)], 3⟩, entF y.ga 29 (y.n + y.d + 1) (mF y.m) y.ca, entC y.gb y.n y.P y.cb]) ?_ (fun w hw => hw.sel [3, 4, 5] (by decide) rfl)) (by (repeat (first | exact Env.sub_nil _ | refine Env.sub_cons rfl ?_)))
  clear hA0 hA1 hA2 hMv f0a f1a f2a f0c f1c f2c hSs hsl hs hlo hhi
  refine rs_callM3 hEv rfl rfl (Takes.ownE ⟨_, _, mt (mt mh)⟩ (by simp) (by omega) h.cb.2 (Takes.same Takes.nil)) rfl ?_
  rintro ⟨⟨ga3, gb3⟩, ca3, cb3⟩ ⟨hca3, hcb3⟩
  dsimp only at hca3 hcb3 ⊢
  repeat first | refine zaa rfl (zay rfl) ?_ | refine zaa rfl (zaz rfl) ?_ | refine zaa rfl (zbz rfl rfl) ?_ | refine zah ?_ | (refine zal rfl rfl ?_; intro g33) | refine zan 0 rfl rfl rfl rfl rfl rfl rfl rfl rfl ?_
  refine zcs ?_
  refine WS.weak (e' := [(23, cA Z0), (24, .raw (.bool true)), (25, cA Z1), (26, .raw (.bool true)), (28, .raw (.bool true)), (29, cA Z2), (30, .raw (.bool true)), (32, .raw (.bool true)), (33, .raw (.pointer (some ⟨g33, 0, none⟩))), (34, .raw (.bool true)), (4, .raw (.bool false)), (5, .raw (.pointer (some ⟨g5, 0, none⟩))), (6, .f .f32 (some (FloatKind.f32.nearest (y.m y.n)))), (7, .f .f32 t)])
    (S' := StR (fun _ => True) w0 [] [⟨g33, 27, [.raw (.int .i64 (y.d : Int)), .raw (.slice (some ⟨ga3, 0, none⟩) (y.n + y.d + 1) ca3), .raw (.slice (some ⟨gb3, 0, none⟩) y.n cb3)], 3⟩, entF ga3 29 (y.n + y.d + 1) (evF y.d y.n) ca3, entC gb3 y.n y.P cb3, ⟨g5, 27, [.raw (.int .i64 (y.d : Int)), .raw (.slice (some ⟨y.ga, 0, none⟩) (y.n + y.d + 1) y.ca), .raw (.slice (some ⟨y.gb, 0, none⟩) y.n y.cb)], 3⟩, entF y.ga 29 (y.n + y.d + 1) (mF y.m) y.ca, entC y.gb y.n y.P y.cb]) ?_ (by (repeat (first | exact Env.sub_nil _ | refine Env.sub_cons rfl ?_))) (fun w hw => hw)
  repeat first | refine zai rfl rfl ?_ | refine zaa rfl (zay rfl) ?_ | (refine zac ?_; refine zaa rfl (zbd rfl rfl rfl) ?_) | (refine zad ?_; (refine zaa rfl (zci rfl rfl (r0) ?_) ?_; (focus ((repeat (first | exact Takes.nil | refine Takes.sl ?_ | refine Takes.lit ?_ | refine Takes.fa ?_ | refine Takes.fc ?_ | refine Takes.net ?_ | (refine Takes.ownE ?_ ?_ ?_ ?_ ?_; (focus (exact ⟨_, _, (by (repeat (first | exact mh | refine mt ?_)); done)⟩)); (focus (simp; done)); (focus omega); (focus (simp only [maxLen]; omega))) | refine Takes.same ?_)); done)))) | (refine zae ?_; first | refine zaa rfl (opj_loadC rfl rfl (by (repeat (first | exact mh | refine mt ?_)); done) (by omega)) ?_ | refine zaa rfl (zcf rfl rfl (by (repeat (first | exact mh | refine mt ?_)); done) rfl) ?_) | (refine zaf ?_; refine zaa rfl (zbw rfl rfl (by omega) (by omega)) ?_) | refine zaa rfl (zcd rfl) ?_ | refine zaa rfl (zcb rfl rfl) ?_ | refine zaa rfl (zcc rfl) ?_ | (refine zdb ?_; first | refine zdc ?_ | refine zdd ?_)
  rw [f0b]
  repeat first | refine zai rfl rfl ?_ | refine zaa rfl (zay rfl) ?_ | (refine zac ?_; refine zaa rfl (zbc rfl rfl (by omega)) ?_) | (refine zad ?_; refine zaa rfl (zbn rfl) ?_) | (refine zae ?_; first | refine zaa rfl (opj_loadC rfl rfl (by (repeat (first | exact mh | refine mt ?_)); done) (by omega)) ?_ | refine zaa rfl (zcf rfl rfl (by (repeat (first | exact mh | refine mt ?_)); done) rfl) ?_) | (refine zaf ?_; refine zaa rfl (zbw rfl rfl (by omega) (by omega)) ?_) | refine zaa rfl (zcd rfl) ?_
  rw [show ((y.n : Int) - 1).toNat = y.n - 1 by omega]
  repeat first | refine zai rfl rfl ?_ | refine zaa rfl (zay rfl) ?_ | (refine zac ?_; refine zaa rfl (zbd rfl rfl rfl) ?_) | (refine zad ?_; (refine zaa rfl (zci rfl rfl (r1) ?_) ?_; (focus ((repeat (first | exact Takes.nil | refine Takes.sl ?_ | refine Takes.lit ?_ | refine Takes.fa ?_ | refine Takes.fc ?_ | refine Takes.net ?_ | (refine Takes.ownE ?_ ?_ ?_ ?_ ?_; (focus (exact ⟨_, _, (by (repeat (first | exact mh | refine mt ?_)); done)⟩)); (focus (simp; done)); (focus omega); (focus (simp only [maxLen]; omega))) | refine Takes.same ?_)); done)))) | refine zaa rfl (zcb rfl rfl) ?_
  rw [f1b]
  repeat first | refine zai rfl rfl ?_ | refine zaa rfl (zay rfl) ?_
  refine zaa rfl (zci rfl rfl r2 (Takes.same (Takes.same Takes.nil))) ?_
  refine zai rfl rfl ?_
  refine zaa rfl (zbd rfl rfl rfl) ?_
  rw [f2b]
  repeat first | refine zai rfl rfl ?_ | refine zaa rfl (zay rfl) ?_ | (refine zae ?_; refine zaa rfl (zcg rfl rfl (by (repeat (first | exact mh | refine mt ?_)); done) rfl rfl) ?_) | refine zaa rfl (zcb rfl rfl) ?_ | refine zaa rfl (zcc rfl) ?_ | refine zah ?_ | (refine zcr ?_; refine zcs ?_) | (refine zdb ?_; first | refine zdc ?_ | refine zdd ?_ | refine zdf ?_ | refine zdj rfl ?_) | refine zaa rfl (zci rfl rfl hVe (Takes.splO (mt mh) (mt (mt mh)) hca3 hcb3 Takes.nil)) ?_
  clear hVe hEv hEvO r0 r1 r2 f0b f1b f2b hca3 hcb3
  refine RS.weakS (e' := [(347, splO y.ga y.gb y.d y.n y.ca y.cb), (4, .raw (.bool false)), (5, .raw (.pointer (some ⟨g5, 0, none⟩)))]) (RS.st (S' := StR (fun _ => True) w0 [] ([entF y.ga 29 (y.n + y.d + 1) (mF y.m) y.ca, entC y.gb y.n y.P y.cb] ++ [⟨g5, 27, [.raw (.int .i64 (y.d : Int)), .raw (.slice (some ⟨y.ga, 0, none⟩) (y.n + y.d + 1) y.ca), .raw (.slice (some ⟨y.gb, 0, none⟩) y.n y.cb)], 3⟩])) ?_ (fun w hw => hw.sel [4, 5, 3] (by decide) rfl)) (by (repeat (first | exact Env.sub_nil _ | refine Env.sub_cons rfl ?_)))
  refine rs_call (pre := [entF y.ga 29 (y.n + y.d + 1) (mF y.m) y.ca, entC y.gb y.n y.P y.cb]) (pieces_fn h) rfl rfl (Takes.same Takes.nil) rfl ?_
  rintro ⟨gz, cz, A, B, C, nz, fz, PZ⟩ ⟨hzc, hzC, hzE⟩
  dsimp only at hzc hzC hzE ⊢
  have hq := knQ_le h
  have hp0 : PZ (0 + 0 * y.d) = y.P 0 := by
    obtain ⟨_, _, _, _, hP⟩ := hzE
    rw [Nat.zero_mul]
    exact hP.p0
  obtain ⟨HU, hHU⟩ : ∃ HU, HU = entU gz (y.d + 1) A B C (knQ y + 1) cz :: rowsU (y.d + 1) A B C (fun r i => PZ (i + r * y.d)) (knQ y + 1) := ⟨_, rfl⟩
  have mU : entU gz (y.d + 1) A B C (knQ y + 1) cz ∈ HU := by rw [hHU]; exact List.mem_cons_self
  have mR : ∀ x ∈ rowsU (y.d + 1) A B C (fun r i => PZ (i + r * y.d)) (knQ y + 1), x ∈ HU := fun x hx => by rw [hHU]; exact List.mem_cons_of_mem _ hx
  have mP : ∀ j, j < knQ y + 1 → entC (A j) (y.d + 1) (fun i => PZ (i + j * y.d)) (C j) ∈ HU := fun j hj => mR _ (rowsU_mem (Q := fun r i => PZ (i + r * y.d)) hj).2
  have mW : ∀ j, j < knQ y + 1 → entF (B j) 29 (y.d + 1) (fun _ => one1) (y.d + 1) ∈ HU := fun j hj => mR _ (rowsU_mem (Q := fun r i => PZ (i + r * y.d)) hj).1
  refine RS.perm (H' := [⟨g5, 27, [.raw (.int .i64 (y.d : Int)), .raw (.slice (some ⟨y.ga, 0, none⟩) (y.n + y.d + 1) y.ca), .raw (.slice (some ⟨y.gb, 0, none⟩) y.n y.cb)], 3⟩] ++ ([entF y.ga 29 (y.n + y.d + 1) (mF y.m) y.ca, entC y.gb y.n y.P y.cb] ++ HU)) ?_ ?_
  rotate_left
  · rw [hHU]
    exact (List.Perm.append_left _ List.perm_append_comm).trans List.perm_append_comm
  clear hHU mR
  simp only [maxLen] at hzc
  repeat first | refine zaa rfl (zay rfl) ?_ | refine zaa rfl (zaz rfl) ?_ | refine zaa rfl (zbz rfl rfl) ?_ | refine zaa rfl (zcc rfl) ?_ | refine zah ?_ | (refine zcr ?_; refine zcs ?_) | (refine zdb ?_; first | refine zdc ?_ | refine zdd ?_ | refine zdf ?_ | refine zdj rfl ?_)
  obtain ⟨nz0, nb1, nb2⟩ := h.spv.nea 0 (Int.le_refl _) (by omega)
  have nz1 : Nea (y.P 0) (ixR y.a 0) (ixR y.b 0) 0 := nz0
  have hfs := far_small nz1 nz1 (by grind) (by grind) (by grind) nb1 nb2
  obtain ⟨fs1, fs2⟩ := hfs
  unfold c001 at fs2
  have rs0 := r8Far_fn _ _ fs1
  refine ws_draw (n := 17) mixed (by decide +kernel) ?_
  repeat first | refine zaw rfl rfl ?_ | refine zap rfl (zay rfl) ?_ | (refine zar ?_; refine zap rfl (zbe rfl rfl) ?_) | (refine zas ?_; refine zap rfl (zbn rfl) ?_) | (refine zau ?_; refine zap rfl (zbw rfl rfl (by omega) (by omega)) ?_) | refine zap rfl (zcd rfl) ?_
  rw [decide_eq_false (show ¬ ((knQ y + 1 : Nat) : Int) < 1 by omega)]
  repeat first | refine zaw rfl rfl ?_ | (refine zat ?_; first | refine zap rfl (opj_loadC rfl rfl (by (repeat (first | exact mh | refine mt ?_)); done) (by omega)) ?_ | refine zap rfl (zcf rfl rfl (by (repeat (first | exact mh | refine mt ?_)); done) rfl) ?_) | (refine zau ?_; refine zap rfl (zbw rfl rfl (by omega) (by omega)) ?_) | refine zap rfl (zcd rfl) ?_ | refine zap rfl (opj_loadUP 0 rfl rfl (mt (mt (mt mU))) rfl (by omega)) ?_ | refine zap rfl (opj_loadC rfl rfl (mt (mt (mt (mP 0 (by omega))))) (by omega)) ?_
  have hp0' : PZ (Int.toNat 0 + 0 * y.d) = y.P 0 := hp0
  rw [hp0']
  repeat first | refine zaw rfl rfl ?_ | (refine zar ?_; refine zap rfl (zbd rfl rfl rfl) ?_) | (refine zas ?_; (refine zap rfl (zci rfl rfl (rs0) ?_) ?_; (focus ((repeat (first | exact Takes.nil | refine Takes.sl ?_ | refine Takes.lit ?_ | refine Takes.fa ?_ | refine Takes.fc ?_ | refine Takes.net ?_ | (refine Takes.ownE ?_ ?_ ?_ ?_ ?_; (focus (exact ⟨_, _, (by (repeat (first | exact mh | refine mt ?_)); done)⟩)); (focus (simp; done)); (focus omega); (focus (simp only [maxLen]; omega))) | refine Takes.same ?_)); done)))) | refine zap rfl (zcb rfl rfl) ?_ | refine zav ?_
  rw [fs2]
  skip
  repeat first | refine zaa rfl (zaz rfl) ?_ | refine zah ?_ | (refine zcr ?_; refine zcs ?_) | (refine zdb ?_; first | refine zdc ?_ | refine zdd ?_ | refine zde ?_ | refine zdf ?_ | refine zdj rfl ?_) | (refine rs_lit0 rfl ?_; intro gk0)
  rw [entF_nilU (f := lkF y)]
  obtain ⟨qe1, qe2⟩ := knQ_end h
  refine ws_loop (ι := Nat × Nat × Nat) (fun z => [(37, .raw (.slice (some ⟨z.2.1, 0, none⟩) (lkC y z.1) z.2.2)), (38, .raw (.int .i64 (z.1 : Nat))), (4, .raw (.bool false)), (5, .raw (.pointer (some ⟨g5, 0, none⟩))), (35, .raw (.slice (some ⟨gz, 0, none⟩) (knQ y + 1) cz))])
    (fun z => StR (fun _ => True) w0 [] (entF z.2.1 29 (lkC y z.1) (lkF y) z.2.2 :: ⟨g5, 27, [.raw (.int .i64 (y.d : Int)), .raw (.slice (some ⟨y.ga, 0, none⟩) (y.n + y.d + 1) y.ca), .raw (.slice (some ⟨y.gb, 0, none⟩) y.n y.cb)], 3⟩ :: entF y.ga 29 (y.n + y.d + 1) (mF y.m) y.ca :: entC y.gb y.n y.P y.cb :: HU)) (fun z => z.1 ≤ y.n + y.d + 1 ∧ lkC y z.1 ≤ z.2.2 ∧ z.2.2 ≤ maxLen) (fun z => y.n + y.d + 1 - z.1) (0, gk0, 0) ⟨Nat.zero_le _, Nat.le_refl _, Nat.zero_le _⟩ ?_ (fun _ hw => hw) (fun z hz => ?_)
  · (repeat (first | exact Env.sub_nil _ | refine Env.sub_cons rfl ?_))
  obtain ⟨i, gk, ck⟩ := z
  obtain ⟨hi, hck⟩ := hz
  dsimp only at hi hck ⊢
  simp only [maxLen] at hck
  repeat first | refine zaa rfl (zay rfl) ?_ | (refine zac ?_; refine zaa rfl (zbe rfl rfl) ?_) | (refine zad ?_; refine zaa rfl (zbn rfl) ?_) | (refine zae ?_; refine zaa rfl (zcf rfl rfl (by (repeat (first | exact mh | refine mt ?_)); done) rfl) ?_) | refine zaa rfl (zcd rfl) ?_ | refine zah ?_ | (refine zcr ?_; refine zcs ?_) | (refine zdb ?_; first | refine zdc ?_ | refine zdd ?_)
  refine ws_cond rfl (fun hd => ?_) (fun hd => ?_)
  case' refine_1 =>
    have hlt : (i : Int) < ((y.n + y.d + 1 : Nat) : Int) := of_decide_eq_true hd
    clear hd
    cases i with
    | zero =>
      have e0 : lkF y ((lkC y 0 : Nat) : Int) = mF y.m ((0 : Nat) : Int) := by
        show some (FloatKind.f32.nearest (knK y 0)) = some (FloatKind.f32.nearest (y.m 0))
        unfold knK
        rw [kpN_zero]
      repeat first | (refine zcr ?_; refine zcs ?_) | (refine zdb ?_; first | refine zdc ?_ | refine zde ?_ | refine zdf ?_)
      refine ws_draw (n := 17) mixed (by decide +kernel) ?_
      repeat first | refine zax rfl rfl rfl rfl ?_ | refine zap rfl (zay rfl) ?_ | (refine zar ?_; refine zap rfl (zbi rfl rfl) ?_) | (refine zas ?_; refine zap rfl (zbn rfl) ?_) | refine zap rfl (zca rfl rfl) ?_ | refine zav ?_
      repeat first | refine zaa rfl (zay rfl) ?_ | (refine zae ?_; first | refine zaa rfl (zbt rfl rfl (by (repeat (first | exact mh | refine mt ?_)); done) (by omega)) ?_ | refine zaa rfl (zcf rfl rfl (by (repeat (first | exact mh | refine mt ?_)); done) rfl) ?_) | (refine zaf ?_; refine zaa rfl (zbw rfl rfl (by omega) (by omega)) ?_) | refine zaa rfl (zcd rfl) ?_ | refine zah ?_ | (refine zcr ?_; refine zcs ?_) | (refine zdb ?_; first | refine zdd ?_ | refine zdi rfl ?_) | refine zaa rfl (zco rfl rfl rfl rfl rfl rfl) ?_
      refine rs_appendT 0 (lkF y) rfl rfl rfl rfl ⟨hck.1, by simp only [maxLen]; omega⟩ (by show 0 < 2 ^ 40; omega) rfl rfl e0 (fun _ _ _ => rfl) fun g' c' h1 h2 => ?_
      repeat first | refine zaa rfl (zay rfl) ?_ | refine zaa rfl (zaz rfl) ?_ | (refine zac ?_; refine zaa rfl (zbb rfl rfl (by omega)) ?_) | refine zah ?_ | (refine zcr ?_; first | refine zcs ?_ | refine zcv ?_) | (refine zdb ?_; refine zdd ?_)
      refine done_round (1, g', c') ⟨by simp only; omega, h1, h2⟩ (by simp only; omega) ?_ (fun _ hw => hw)
      (repeat (first | exact Env.sub_nil _ | refine Env.sub_cons rfl ?_))
    | succ j =>
      have hjn : j + 1 ≤ y.n + y.d := by omega
      have hkj := kpN_at y.m (y.n + y.d) j (by omega)
      have hkj1 := kpN_at y.m (y.n + y.d) (j + 1) (by omega)
      have eL1 : lkF y ((rkN y.m j + 1 : Nat) - 1 : Int) = some (FloatKind.f32.nearest (y.m j)) := by
        unfold lkF knK
        rw [show (((rkN y.m j + 1 : Nat) : Int) - 1).toNat = rkN y.m j by omega, hkj]
      have hcmp := (gd_cmp (gd_whole (h.mb ((j + 1 : Nat) : Int)).1 (by have := (h.mb ((j + 1 : Nat) : Int)).2; omega)) (gd_whole (h.mb j).1 (by have := (h.mb j).2; omega))).2.2.2.1
      have hup := h.k.up j ((j + 1 : Nat) : Int) (by omega)
      have ej : ((j : Int) + 1) = ((j + 1 : Nat) : Int) := by omega
      have hrk := rkN_up y.m (j + 1) 0
      have hrl : rkN y.m (j + 1) ≤ knQ y + 1 := by
        have := (rkN_up y.m (j + 1) (y.n + y.d - (j + 1))).1
        rw [show j + 1 + (y.n + y.d - (j + 1)) = y.n + y.d by omega] at this
        omega
      have hrj := rkN_step y.m j
      have hcc : lkC y (j + 1) = rkN y.m j + 1 := rfl
      rw [hcc] at hck ⊢
      repeat first | (refine zcr ?_; refine zcs ?_) | (refine zdb ?_; first | refine zdc ?_ | refine zde ?_ | refine zdf ?_)
      refine ws_draw (n := 17) mixed (by decide +kernel) ?_
      repeat first | refine zaw rfl rfl ?_ | refine zap rfl (zay rfl) ?_ | (refine zar ?_; first | refine zap rfl (zbc rfl rfl (by omega)) ?_ | refine zap rfl (zbd rfl rfl rfl) ?_ | refine zap rfl (zbi rfl rfl) ?_) | (refine zas ?_; refine zap rfl (zbn rfl) ?_) | (refine zat ?_; first | refine zap rfl (zbt rfl rfl (by (repeat (first | exact mh | refine mt ?_)); done) (by omega)) ?_ | refine zap rfl (zcf rfl rfl (by (repeat (first | exact mh | refine mt ?_)); done) rfl) ?_) | (refine zau ?_; refine zap rfl (zbw rfl rfl (by omega) (by omega)) ?_) | refine zap rfl (zcd rfl) ?_ | refine zap rfl (zcb rfl rfl) ?_ | refine zav ?_
      rw [decide_eq_false (show ¬ ((rkN y.m j + 1 : Nat) : Int) = 0 by omega)]
      skip
      rw [eL1]
      have hcmp' : cmpB .gtr (fcmp .f32 (mF y.m ((j + 1 : Nat) : Int)) (some (FloatKind.f32.nearest (y.m j)))) = decide (64 * y.m j < 64 * y.m ((j + 1 : Nat) : Int)) := hcmp
      rw [hcmp']
      cases he : decide (64 * y.m j < 64 * y.m ((j + 1 : Nat) : Int))
      · have hne := of_decide_eq_false he
        have heq : y.m ((j : Int) + 1) = y.m j := by rw [ej]; omega
        have hr := rkN_eq heq
        skip
        repeat first | refine zaa rfl (zay rfl) ?_ | refine zaa rfl (zaz rfl) ?_ | (refine zac ?_; refine zaa rfl (zbb rfl rfl (by omega)) ?_) | refine zah ?_ | (refine zcr ?_; first | refine zcs ?_ | refine zcv ?_) | (refine zdb ?_; first | refine zdd ?_ | refine zdf ?_ | refine zdj rfl ?_)
        refine done_round (j + 1 + 1, gk, ck) ⟨by simp only; omega, by show rkN y.m (j + 1) + 1 ≤ ck ∧ ck ≤ maxLen; simp only [maxLen]; omega⟩ (by simp only; omega) ?_ (fun w hw => ?_)
        · simp only
          rw [show lkC y (j + 1 + 1) = rkN y.m j + 1 by show rkN y.m (j + 1) + 1 = _; omega, show ((j + 1 + 1 : Nat) : Int) = ((j + 1 : Nat) : Int) + 1 by omega]
          (repeat (first | exact Env.sub_nil _ | refine Env.sub_cons rfl ?_))
        · simp only
          rw [show lkC y (j + 1 + 1) = rkN y.m j + 1 by show rkN y.m (j + 1) + 1 = _; omega]
          exact hw
      · have hlt2 := of_decide_eq_true he
        have hne : ¬ y.m ((j : Int) + 1) = y.m j := by rw [ej]; omega
        have hr := rkN_ne hne
        have eN : lkF y ((rkN y.m j + 1 : Nat) : Int) = mF y.m ((j + 1 : Nat) : Int) := by
          unfold lkF knK mF
          rw [show (((rkN y.m j + 1 : Nat) : Int)).toNat = rkN y.m (j + 1) by omega, hkj1]
        skip
        repeat first | refine zaa rfl (zay rfl) ?_ | (refine zae ?_; first | refine zaa rfl (zbt rfl rfl (by (repeat (first | exact mh | refine mt ?_)); done) (by omega)) ?_ | refine zaa rfl (zcf rfl rfl (by (repeat (first | exact mh | refine mt ?_)); done) rfl) ?_) | (refine zaf ?_; refine zaa rfl (zbw rfl rfl (by omega) (by omega)) ?_) | refine zaa rfl (zcd rfl) ?_ | refine zah ?_ | (refine zcr ?_; refine zcs ?_) | (refine zdb ?_; first | refine zdd ?_ | refine zdi rfl ?_) | refine zaa rfl (zco rfl rfl rfl rfl rfl rfl) ?_
        refine rs_appendT 0 (lkF y) rfl rfl rfl rfl ⟨hck.1, by simp only [maxLen]; omega⟩ (by omega) rfl rfl eN (fun _ _ _ => rfl) fun g' c' h1 h2 => ?_
        repeat first | refine zaa rfl (zay rfl) ?_ | refine zaa rfl (zaz rfl) ?_ | (refine zac ?_; refine zaa rfl (zbb rfl rfl (by omega)) ?_) | refine zah ?_ | (refine zcr ?_; first | refine zcs ?_ | refine zcv ?_) | (refine zdb ?_; refine zdd ?_)
        refine done_round (j + 1 + 1, g', c') ⟨by simp only; omega, by show rkN y.m (j + 1) + 1 ≤ c' ∧ c' ≤ maxLen; rw [hr]; exact ⟨h1, h2⟩⟩ (by simp only; omega) ?_ (fun w hw => ?_)
        · simp only
          rw [show lkC y (j + 1 + 1) = rkN y.m j + 1 + 1 by show rkN y.m (j + 1) + 1 = _; omega, show ((j + 1 + 1 : Nat) : Int) = ((j + 1 : Nat) : Int) + 1 by omega]
          (repeat (first | exact Env.sub_nil _ | refine Env.sub_cons rfl ?_))
        · simp only
          rw [show lkC y (j + 1 + 1) = rkN y.m j + 1 + 1 by show rkN y.m (j + 1) + 1 = _; omega]
          exact hw
  have hin : i = y.n + y.d + 1 := by have := of_decide_eq_false hd; omega
  subst hin
  clear hd
  rw [show lkC y (y.n + y.d + 1) = knQ y + 2 by show rkN y.m (y.n + y.d) + 1 = _; omega] at hck ⊢
  repeat first | refine zaa rfl (zay rfl) ?_ | (refine zac ?_; first | refine zaa rfl (zbb rfl rfl (by omega)) ?_ | refine zaa rfl (zbj rfl rfl) ?_) | (refine zad ?_; refine zaa rfl (zbn rfl) ?_) | refine zah ?_ | (refine zcr ?_; first | refine zcs ?_ | refine zcu ?_ | refine zcx ?_ | refine zda ?_) | (refine zdb ?_; first | refine zdc ?_ | refine zdd ?_ | refine zdh ?_)
  rw [show decide (((knQ y + 2 : Nat) : Int) ≠ ((knQ y + 1 : Nat) : Int) + 1) = false from decide_eq_false (by omega)]
  repeat first | refine zaa rfl (zaz rfl) ?_ | refine zah ?_ | (refine zcr ?_; refine zcs ?_) | (refine zdb ?_; first | refine zdc ?_ | refine zdd ?_ | refine zde ?_ | refine zdf ?_ | refine zdj rfl ?_)
  refine ws_loop (ι := Nat) (fun k => [(39, .raw (.int .i64 (k : Nat))), (4, .raw (.bool false)), (5, .raw (.pointer (some ⟨g5, 0, none⟩))), (35, .raw (.slice (some ⟨gz, 0, none⟩) (knQ y + 1) cz)), (37, .raw (.slice (some ⟨gk, 0, none⟩) (knQ y + 2) ck))])
    (fun _ => StR (fun _ => True) w0 [] (entF gk 29 (knQ y + 2) (lkF y) ck :: ⟨g5, 27, [.raw (.int .i64 (y.d : Int)), .raw (.slice (some ⟨y.ga, 0, none⟩) (y.n + y.d + 1) y.ca), .raw (.slice (some ⟨y.gb, 0, none⟩) y.n y.cb)], 3⟩ :: entF y.ga 29 (y.n + y.d + 1) (mF y.m) y.ca :: entC y.gb y.n y.P y.cb :: HU)) (fun k => k ≤ knQ y + 1) (fun k => knQ y + 1 - k) 0 (Nat.zero_le _) ?_ (fun _ hw => hw) (fun k hk => ?_)
  · (repeat (first | exact Env.sub_nil _ | refine Env.sub_cons rfl ?_))
  repeat first | refine zaa rfl (zay rfl) ?_ | (refine zac ?_; refine zaa rfl (zbe rfl rfl) ?_) | (refine zad ?_; refine zaa rfl (zbn rfl) ?_) | refine zah ?_ | (refine zcr ?_; refine zcs ?_) | (refine zdb ?_; first | refine zdc ?_ | refine zdd ?_)
  refine ws_cond rfl (fun hd => ?_) (fun hd => ?_)
  case' refine_2 =>
    clear hd
    repeat first | refine zaa rfl (zaz rfl) ?_ | refine zah ?_ | (refine zcr ?_; first | refine zcs ?_ | refine zcu ?_ | refine zcx ?_ | refine zda ?_) | (refine zdb ?_; first | refine zdc ?_ | refine zdd ?_ | refine zdg ?_ | refine zdh ?_)
    exact done_ret1 rfl () rfl trivial (List.nil_sublist _)
  have hlt : (k : Int) < ((knQ y + 1 : Nat) : Int) := of_decide_eq_true hd
  clear hd
  have hkq : k < knQ y + 1 := by omega
  have hCk := hzC k hkq
  have kb0 := knK_bd h k
  have kb1 := knK_bd h (k + 1)
  have hM := mid_gd (k := knK y k) (l := knK y (k + 1)) kb0.1 (by omega) kb1.1 (by omega)
  have hKK := h.kq
  have hKlt := hKK.lt k (by omega)
  have hKle := hKK.le (r := k + 1) (s := knQ y + 1) (by omega) (Nat.le_refl _)
  have hKn := hKK.kn
  have t0 : 0 ≤ 32 * (knK y k + knK y (k + 1)) := by omega
  have t1 : 32 * (knK y k + knK y (k + 1)) ≤ 64 * y.m y.n := by
    unfold kn64 at hKlt hKle hKn
    omega
  have hsM := h.span t0
  have nA := piece_mid h hzE (r := k) (by omega) rfl hsM
  have nB := h.at hM t0 t1 hsM
  obtain ⟨bb1, bb2⟩ := h.bnd t0 t1 hsM
  obtain ⟨fr1, fr2⟩ := far_no nA nB (by grind) (by grind) (by grind) (by constructor <;> grind) (by constructor <;> grind)
  unfold c01 at fr2
  have hfr := r8Far_fn _ _ fr1
  have hSA := splineAt_fn hSp hM (by show 64 * y.m 0 ≤ _; omega) t1 nB.fin
  have eM : fbin .quo .f32 (fbin .add .f32 (lkF y (k : Int)) (lkF y ((k : Int) + 1))) (fv .f32 1073741824) = fbin .quo .f32 (fbin .add .f32 (some (FloatKind.f32.nearest (knK y k))) (some (FloatKind.f32.nearest (knK y (k + 1))))) (fv .f32 1073741824) := by
    unfold lkF
    rw [show ((k : Int)).toNat = k from rfl, show ((k : Int) + 1).toNat = k + 1 by omega]
  obtain ⟨_, _, _, _, hPj⟩ := hzE
  have hPfin := hPj.ps.v.finP
  have hnE := hPj.lenE hKK
  have hkd : (k + 1) * y.d ≤ (knQ y + 1) * y.d := Nat.mul_le_mul_right _ (by omega)
  have hks : (k + 1) * y.d = k * y.d + y.d := Nat.succ_mul _ _
  have hF2 : (tabC (y.d + 1) (fun i => PZ (i + k * y.d))).all finC = true := by
    unfold tabC at hPfin ⊢
    rw [List.all_eq_true] at hPfin ⊢
    intro p hp
    obtain ⟨i, hi, rfl⟩ := List.mem_map.1 hp
    have := List.mem_range.1 hi
    exact hPfin _ (List.mem_map.2 ⟨i + k * y.d, List.mem_range.2 (by omega), rfl⟩)
  have hCA := curveAt_fn (n := y.d + 1) (P := fun i => PZ (i + k * y.d)) (f := fun _ => one1) (t := fv .f32 1056964608) (by omega) hF2 (wts_one _).above (isTime_yes half_tm.v ⟨half_tm.lo, half_tm.hi⟩) nA.fin
  generalize pointP (y.d + 1) (fun i => PZ (i + k * y.d)) (fun _ => one1) (fv .f32 1056964608) = ZA at *
  generalize deBF (mF y.m) (fbin .quo .f32 (fbin .add .f32 (some (FloatKind.f32.nearest (knK y k))) (some (FloatKind.f32.nearest (knK y (k + 1))))) (fv .f32 1073741824)) y.d (ptI y.P) (spanN (fun i => 64 * y.m i) y.d (32 * (knK y k + knK y (k + 1))) (y.n - 1) : Nat) = ZB at *
  generalize fbin .quo .f32 (fbin .add .f32 (some (FloatKind.f32.nearest (knK y k))) (some (FloatKind.f32.nearest (knK y (k + 1))))) (fv .f32 1073741824) = MID at *
  repeat first | (refine zcr ?_; refine zcs ?_) | (refine zdb ?_; first | refine zdc ?_ | refine zde ?_ | refine zdf ?_)
  refine ws_draw (n := 34) mixed (by decide +kernel) ?_
  repeat first | refine zap rfl (zay rfl) ?_ | (refine zar ?_; first | refine zap rfl (zbb rfl rfl (by omega)) ?_ | refine zap rfl (zbj rfl rfl) ?_) | (refine zas ?_; refine zap rfl (zbn rfl) ?_) | (refine zat ?_; refine zap rfl (zcf rfl rfl (by (repeat (first | exact mh | refine mt ?_)); done) rfl) ?_) | (refine zau ?_; refine zap rfl (zbw rfl rfl (by omega) (by omega)) ?_) | refine zap rfl (zcd rfl) ?_ | refine zap rfl (opj_loadUP k rfl rfl (mt (mt (mt (mt mU)))) rfl hkq) ?_
  rw [show decide (((y.d + 1 : Nat) : Int) ≠ (y.d : Int) + 1) = false from decide_eq_false (by omega)]
  repeat first | refine zaw rfl rfl ?_ | refine zap rfl (zay rfl) ?_ | (refine zar ?_; refine zap rfl (zbg rfl rfl) ?_)
  cases k with
  | zero =>
    repeat first | refine zaw rfl rfl ?_ | refine zax rfl rfl rfl rfl ?_ | refine zap rfl (zcb rfl rfl) ?_ | refine zav ?_
    repeat first | refine zaa rfl (zay rfl) ?_ | refine zaa rfl (zaz rfl) ?_ | (refine zaf ?_; refine zaa rfl (zbw rfl rfl (by omega) (by omega)) ?_) | refine zaa rfl (zbz rfl rfl) ?_ | refine zah ?_ | (refine zcr ?_; refine zcs ?_) | (refine zdb ?_; first | refine zdc ?_ | refine zdd ?_ | refine zdf ?_ | refine zdj rfl ?_) | refine zaa rfl (opj_loadUA 0 rfl rfl (mt (mt (mt (mt mU)))) rfl hkq) ?_ | refine zaa rfl (zci rfl rfl hCA (Takes.crvOc (mt (mt (mt (mt (mP 0 hkq))))) (mt (mt (mt (mt (mW 0 hkq))))) hCk ⟨Nat.le_refl _, by simp only [maxLen]; omega⟩ (Takes.same Takes.nil))) ?_
    refine ws_draw (n := 18) mixed (by decide +kernel) ?_
    repeat first | refine zap rfl (zay rfl) ?_ | (refine zar ?_; first | refine zap rfl (zba rfl rfl rfl) ?_ | refine zap rfl (zbb rfl rfl (by omega)) ?_) | (refine zat ?_; first | refine zap rfl (zbt rfl rfl (by (repeat (first | exact mh | refine mt ?_)); done) (by omega)) ?_ | refine zap rfl (zcg rfl rfl (by (repeat (first | exact mh | refine mt ?_)); done) rfl rfl) ?_) | (refine zau ?_; refine zap rfl (zbw rfl rfl (by omega) (by omega)) ?_)
    rw [eM]
    repeat first | refine zap rfl (zay rfl) ?_ | refine zap rfl (zaz rfl) ?_ | refine zap rfl (zbz rfl rfl) ?_ | refine zav ?_ | refine zap rfl (zci rfl rfl hSA (Takes.splO (mt (mt mh)) (mt (mt (mt mh))) h.ca h.cb (Takes.same Takes.nil))) ?_
    repeat first | refine zai rfl rfl ?_ | refine zaa rfl (zay rfl) ?_ | (refine zac ?_; refine zaa rfl (zbd rfl rfl rfl) ?_) | (refine zad ?_; (refine zaa rfl (zci rfl rfl (hfr) ?_) ?_; (focus ((repeat (first | exact Takes.nil | refine Takes.sl ?_ | refine Takes.lit ?_ | refine Takes.fa ?_ | refine Takes.fc ?_ | refine Takes.net ?_ | (refine Takes.ownE ?_ ?_ ?_ ?_ ?_; (focus (exact ⟨_, _, (by (repeat (first | exact mh | refine mt ?_)); done)⟩)); (focus (simp; done)); (focus omega); (focus (simp only [maxLen]; omega))) | refine Takes.same ?_)); done)))) | refine zaa rfl (zcb rfl rfl) ?_ | refine zaa rfl (zcc rfl) ?_ | refine zah ?_ | (refine zcr ?_; refine zcs ?_) | (refine zdb ?_; first | refine zdc ?_ | refine zdd ?_)
    rw [fr2]
    repeat first | refine zaa rfl (zay rfl) ?_ | refine zaa rfl (zaz rfl) ?_ | (refine zac ?_; refine zaa rfl (zbb rfl rfl (by omega)) ?_) | refine zah ?_ | (refine zcr ?_; first | refine zcs ?_ | refine zcv ?_) | (refine zdb ?_; first | refine zdd ?_ | refine zdf ?_ | refine zdj rfl ?_)
    refine done_round (0 + 1) (by omega) (by omega) ?_ (fun _ hw => hw)
    rw [show ((0 + 1 : Nat) : Int) = ((0 : Nat) : Int) + 1 by omega]
    (repeat (first | exact Env.sub_nil _ | refine Env.sub_cons rfl ?_))
  | succ j =>
    rw [decide_eq_true (show (0 : Int) < ((j + 1 : Nat) : Int) by omega)]
    repeat first | refine zaw rfl rfl ?_ | refine zap rfl (zay rfl) ?_ | (refine zar ?_; refine zap rfl (zbc rfl rfl (by omega)) ?_) | (refine zat ?_; refine zap rfl (zcf rfl rfl (by (repeat (first | exact mh | refine mt ?_)); done) rfl) ?_) | (refine zau ?_; refine zap rfl (zbw rfl rfl (by omega) (by omega)) ?_) | refine zap rfl (zcd rfl) ?_ | refine zap rfl (zca rfl rfl) ?_ | refine zap rfl (zcb rfl rfl) ?_ | refine zav ?_ | refine zap rfl (opj_loadUP (j + 1) rfl rfl (mt (mt (mt (mt mU)))) rfl hkq) ?_ | refine zap rfl (opj_loadUP j rfl rfl (mt (mt (mt (mt mU)))) (by omega) (by omega)) ?_ | refine zap rfl (opj_loadC rfl rfl (mt (mt (mt (mt (mP (j + 1) hkq))))) (by omega)) ?_ | refine zap rfl (opj_loadC rfl rfl (mt (mt (mt (mt (mP j (by omega)))))) (by omega)) ?_ | refine zap rfl (opj_cneq rfl rfl) ?_
    have hjd : (j + 1) * y.d = j * y.d + y.d := Nat.succ_mul _ _
    have ePt : PZ (Int.toNat 0 + (j + 1) * y.d) = PZ ((y.d : Int).toNat + j * y.d) := by
      rw [show Int.toNat 0 + (j + 1) * y.d = (y.d : Int).toNat + j * y.d by rw [hjd]; omega]
    obtain ⟨⟨uu, vv, vu, vv2, _⟩, _⟩ := hPj.ps.v.nea (((y.d : Int).toNat + j * y.d : Nat) : Int) (by omega) (by omega)
    have eQ := ceqK_no (p := PZ ((y.d : Int).toNat + j * y.d)) vu vv2
    rw [ePt, eQ]
    repeat first | refine zaa rfl (zay rfl) ?_ | refine zaa rfl (zaz rfl) ?_ | (refine zaf ?_; refine zaa rfl (zbw rfl rfl (by omega) (by omega)) ?_) | refine zaa rfl (zbz rfl rfl) ?_ | refine zah ?_ | (refine zcr ?_; refine zcs ?_) | (refine zdb ?_; first | refine zdc ?_ | refine zdd ?_ | refine zdf ?_ | refine zdj rfl ?_) | refine zaa rfl (opj_loadUA (j + 1) rfl rfl (mt (mt (mt (mt mU)))) rfl hkq) ?_ | refine zaa rfl (zci rfl rfl hCA (Takes.crvOc (mt (mt (mt (mt (mP (j + 1) hkq))))) (mt (mt (mt (mt (mW (j + 1) hkq))))) hCk ⟨Nat.le_refl _, by simp only [maxLen]; omega⟩ (Takes.same Takes.nil))) ?_
    refine ws_draw (n := 18) mixed (by decide +kernel) ?_
    repeat first | refine zap rfl (zay rfl) ?_ | (refine zar ?_; first | refine zap rfl (zba rfl rfl rfl) ?_ | refine zap rfl (zbb rfl rfl (by omega)) ?_) | (refine zat ?_; first | refine zap rfl (zbt rfl rfl (by (repeat (first | exact mh | refine mt ?_)); done) (by omega)) ?_ | refine zap rfl (zcg rfl rfl (by (repeat (first | exact mh | refine mt ?_)); done) rfl rfl) ?_) | (refine zau ?_; refine zap rfl (zbw rfl rfl (by omega) (by omega)) ?_)
    rw [eM]
    repeat first | refine zap rfl (zay rfl) ?_ | refine zap rfl (zaz rfl) ?_ | refine zap rfl (zbz rfl rfl) ?_ | refine zav ?_ | refine zap rfl (zci rfl rfl hSA (Takes.splO (mt (mt mh)) (mt (mt (mt mh))) h.ca h.cb (Takes.same Takes.nil))) ?_
    repeat first | refine zai rfl rfl ?_ | refine zaa rfl (zay rfl) ?_ | (refine zac ?_; refine zaa rfl (zbd rfl rfl rfl) ?_) | (refine zad ?_; (refine zaa rfl (zci rfl rfl (hfr) ?_) ?_; (focus ((repeat (first | exact Takes.nil | refine Takes.sl ?_ | refine Takes.lit ?_ | refine Takes.fa ?_ | refine Takes.fc ?_ | refine Takes.net ?_ | (refine Takes.ownE ?_ ?_ ?_ ?_ ?_; (focus (exact ⟨_, _, (by (repeat (first | exact mh | refine mt ?_)); done)⟩)); (focus (simp; done)); (focus omega); (focus (simp only [maxLen]; omega))) | refine Takes.same ?_)); done)))) | refine zaa rfl (zcb rfl rfl) ?_ | refine zaa rfl (zcc rfl) ?_ | refine zah ?_ | (refine zcr ?_; refine zcs ?_) | (refine zdb ?_; first | refine zdc ?_ | refine zdd ?_)
    rw [fr2]
    repeat first | refine zaa rfl (zay rfl) ?_ | refine zaa rfl (zaz rfl) ?_ | (refine zac ?_; refine zaa rfl (zbb rfl rfl (by omega)) ?_) | refine zah ?_ | (refine zcr ?_; first | refine zcs ?_ | refine zcv ?_) | (refine zdb ?_; first | refine zdd ?_ | refine zdf ?_ | refine zdj rfl ?_)
    refine done_round (j + 1 + 1) (by omega) (by omega) ?_ (fun _ hw => hw)
    rw [show ((j + 1 + 1 : Nat) : Int) = ((j + 1 : Nat) : Int) + 1 by omega]
    (repeat (first | exact Env.sub_nil _ | refine Env.sub_cons rfl ?_))
end Go.Ab
