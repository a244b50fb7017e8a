/- Part 10 of the texts on which the law leans, joined: Arrays of four numbers, the shares of the points of a cubic curve, powers; parts of lists. No conditions. -/
import Derived.Test.YtljgokghchhjaaaGreatZai
namespace Go.Ab
open Go.Proofs
variable {R : World → Prop} [RStab R]
theorem pairs_get (f h : Nat → AV) : ∀ (k i : Nat), ((List.range k).flatMap fun i => [f i, h i])[i]? = if i < k * 2 then some (if i % 2 = 0 then f (i / 2) else h (i / 2)) else none
  | 0, i => by simp
  | k + 1, i => by
    have hl : ∀ k, ((List.range k).flatMap fun i => [f i, h i]).length = k * 2 := fun k => by
      induction k with
      | zero => rfl
      | succ k ih =>
        rw [List.range_succ, List.flatMap_append, List.length_append, ih]
        simp only [List.flatMap_cons, List.flatMap_nil, List.append_nil, List.length_cons, List.length_nil]
        omega
    rw [List.range_succ, List.flatMap_append]
    rcases Nat.lt_or_ge i (k * 2) with h1 | h1
    · rw [List.getElem?_append_left (by rw [hl]; exact h1), pairs_get f h k i, if_pos h1, if_pos (show i < (k + 1) * 2 by omega)]
    · rw [List.getElem?_append_right (by rw [hl]; exact h1), hl]
      simp only [List.flatMap_cons, List.flatMap_nil, List.append_nil]
      obtain h2 | h2 | h2 : i = k * 2 ∨ i = k * 2 + 1 ∨ k * 2 + 2 ≤ i := by omega
      · subst h2
        rw [if_pos (by omega), if_pos (by omega), show k * 2 / 2 = k by omega, Nat.sub_self]
        rfl
      · subst h2
        rw [if_pos (by omega), if_neg (by omega), show (k * 2 + 1) / 2 = k by omega, show k * 2 + 1 - k * 2 = 1 by omega]
        rfl
      · rw [if_neg (by omega), List.getElem?_eq_none (by simp only [List.length_cons, List.length_nil]; omega)]
/-- Curves of four points that came in. -/
def crvsC (w : World) (Q : Nat → Nat → CV) (k : Nat) : List AV := (List.range k).flatMap fun i => [slC w (tabC 4 (Q i)), AV.sl w 1 ((tab 4 (fun _ => one1)).map (AV.f .f32))]
abbrev crvsA (w : World) (Q : Nat → Nat → CV) (k : Nat) : AV := AV.sl w 2 (crvsC w Q k)
theorem crvsC_length (w : World) (Q : Nat → Nat → CV) (k : Nat) : (crvsC w Q k).length = k * 2 := by
  have h1 : (crvsC w Q k)[k * 2]? = none := by unfold crvsC; rw [pairs_get, if_neg (by omega)]
  have h2 := List.getElem?_eq_none_iff.1 h1
  rcases Nat.eq_zero_or_pos k with h0 | h0
  · subst h0; rfl
  · have h3 : (crvsC w Q k)[k * 2 - 1]? ≠ none := by unfold crvsC; rw [pairs_get, if_pos (by omega)]; simp
    have h4 : ¬ (crvsC w Q k).length ≤ k * 2 - 1 := fun h => h3 (List.getElem?_eq_none h)
    omega
section
variable {w0 : World} {gs : List Nat} {H : List Ent} {args : List AV} {A' : World → List AV}
theorem rowsV_mem {A B : Nat → Nat} {Q : Nat → Nat → CV} {k j : Nat} (h : j < k) : entF (B j) 27 4 (fun _ => one1) 4 ∈ rowsV A B Q k ∧ entC (A j) 4 (Q j) 4 ∈ rowsV A B Q k := by
  unfold rowsV
  constructor <;> exact List.mem_flatMap.2 ⟨j, by simpa using h, by simp⟩
theorem Takes.crvs {R0 : World → Prop} {g cap k : Nat} {A B : Nat → Nat} {Q : Nat → Nat → CV} (hV : entV g A B k cap ∈ H) (hR : ∀ x ∈ rowsV A B Q k, x ∈ H) (hc : k ≤ cap ∧ cap ≤ maxLen) (h : Takes (StR R0 w0 gs H) args A') : Takes (StR R0 w0 gs H) (.raw (.slice (some ⟨g, 0, none⟩) k cap) :: args) (fun w => crvsA w Q k :: A' w) := fun w vs hS hr => by
  obtain ⟨v, r, rfl, hv, hrr⟩ := hr.inv_cons
  have hv := hv.inv_raw
  subst hv
  refine .cons (.q ⟨_, k, cap, rfl, crvsC_length w Q k, hc.1, hc.2, fun i x hi => ⟨_, rfl, rfl, ?_⟩⟩) (h w r hS hrr)
  unfold crvsC at hi
  rw [pairs_get] at hi
  split at hi
  · rename_i hlt
    have hj : i / 2 < k := by omega
    have hx : (entV g A B k cap).xs[i]? = some (if i % 2 = 0 then .raw (.slice (some ⟨A (i / 2), 0, none⟩) 4 4) else .raw (.slice (some ⟨B (i / 2), 0, none⟩) 4 4)) := by
      simp only [entV]
      unfold crvCells
      rw [pairs_get (fun i => .raw (.slice (some ⟨A i, 0, none⟩) 4 4)) (fun i => .raw (.slice (some ⟨B i, 0, none⟩) 4 4)), if_pos hlt]
    obtain ⟨u, hu, hev⟩ := (hS.own _ hV).2.cell hx
    obtain ⟨m1, m2⟩ := rowsV_mem (A := A) (B := B) (Q := Q) hj
    refine ⟨u, by simpa using hu, fun w' => ?_⟩
    cases hi
    by_cases h2 : i % 2 = 0
    · rw [if_pos h2] at hev ⊢
      exact .q (rd_ownC hS (hev w) (hR _ m2) (Nat.le_refl _) ⟨Nat.le_refl _, by decide⟩)
    · rw [if_neg h2] at hev ⊢
      exact .q (rd_own hS (hev w) (hR _ m1) (Nat.le_refl _) ⟨Nat.le_refl _, by decide⟩)
  · cases hi
end
section
variable {P : Program} {S : World → Prop} {e : Env} {dst : Option Tmp} {ty : TypeId} {pos : String} {after : Array Edge} {guard : Option (Nat × Bool)} {t el : TypeId}
variable {w0 : World} {H : List Ent}
theorem opj_indexV {R0 : World → Prop} {Q : Nat → Nat → CV} {k : Nat} {X I : Operand} {i : Int} {b : Nat} {z : Value} [hu : TyU P t (.slice el)] [hi : TyI P el z 2 b]
    (hx : e.ev X = some (crvsA w0 Q k)) (hI : e.ev I = some (.raw (.int .i64 i))) (h0 : 0 ≤ i) (hlt : i < k) :
    OpJ P (StR R0 w0 [] H) e ⟨dst, .indexAddr t X I, ty, pos, after, guard⟩ (AV.ptr [slC w0 (tabC 4 (Q i.toNat)), AV.sl w0 1 ((tab 4 (fun _ => one1)).map (AV.f .f32))]) := by
  have h := opj_index_sl (P := P) (R0 := R0) (H := H) (dst := dst) (ty := ty) (pos := pos) (after := after) (guard := guard) (hu := hu) (hi := hi) hx hI h0 (by rw [crvsC_length]; omega) (by decide)
  intro a w K Q' hS ho hK
  refine h a w K Q' hS ho fun u w' hw hr => hK u w' hw ?_
  obtain ⟨_, bb, hv, hsp, hr⟩ := hr.inv_p
  refine .p (mono_ptrTo _) ⟨bb, hv, hsp, fun j x hj => hr j x ?_⟩
  rw [List.getElem?_drop]
  unfold crvsC
  rw [pairs_get]
  match j, hj with
  | 0, hj => cases hj; rw [if_pos (by omega), if_pos (by omega), show (i.toNat * 2 + 0) / 2 = i.toNat by omega]
  | 1, hj => cases hj; rw [if_pos (by omega), if_neg (by omega)]
theorem opj_lenV {R0 : World → Prop} {Q : Nat → Nat → CV} {k : Nat} {X : Operand} {t2 : TypeId} {b : Nat} {z : Value} [hu : TyU P t (.slice el)] [hi : TyI P el z 2 b] (hx : e.ev X = some (crvsA w0 Q k)) :
    OpJ P (StR R0 w0 [] H) e ⟨dst, .call { callee := .builtin .len, args := #[X], argTypes := #[t] }, t2, pos, after, guard⟩ (.raw (.int .i64 (k : Int))) := by
  have h := opj_len_sl (P := P) (R0 := R0) (H := H) (dst := dst) (pos := pos) (after := after) (guard := guard) (t2 := t2) (hu := hu) (hi := hi) (by decide) hx
  rw [crvsC_length, Nat.mul_div_cancel _ (by decide)] at h
  exact h
end
attribute [local irreducible] WS RS Done OpJ Then InBlock Round Ret Env.sub FnH
attribute [local irreducible] tab tabC crvsC
theorem isPlain1_fn (x : FV) : Fn Tryz.prog 82 (fun _ => [.f .f32 x]) (.raw (.bool (cmpB .neq (fcmp .f32 x one1)))) := by
  refine fn_intro Tryz.func82 rfl Tryz.ntmps82 (fun _ => Nat.le_of_ble_eq_true rfl) fun w0 => ?_
  repeat first | refine zaa rfl (zay rfl) ?_ | refine zaa rfl (zaz rfl) ?_ | (refine zac ?_; refine zaa rfl (zbd rfl rfl rfl) ?_) | refine zah ?_ | (refine zcr ?_; refine zcs ?_) | (refine zdb ?_; first | refine zdc ?_ | refine zdd ?_ | refine zdg ?_)
  exact done_ret1 rfl () rfl trivial (List.nil_sublist _)
theorem ones_above : (tab 4 (fun _ => one1)).all aboveB = true := by
  unfold tab
  decide +kernel
theorem isPlain_yes {P : Nat → CV} (hP : (tabC 4 P).all finC = true) : Fn Tryz.prog 56 (fun w => [crvA w 4 P (fun _ => one1)]) (.raw (.bool true)) := by
  have hV := validCurve_yes (n := 4) (by omega) hP ones_above
  have hD := degree_fn 4 P (fun _ => one1) (by omega)
  have hC := containsFunc_fn (tab 4 fun _ => one1) (by simp) 82 _ isPlain1_fn
  rw [show ((tab 4 fun _ => one1).any fun x => cmpB .neq (fcmp .f32 x one1)) = false from by unfold tab; decide +kernel] at hC
  refine fn_intro Tryz.func56 rfl Tryz.ntmps56 (fun _ => Nat.le_of_ble_eq_true rfl) fun w0 => ?_
  repeat first | refine zai rfl rfl ?_ | refine zaa rfl (zay rfl) ?_ | refine zaa rfl (zaz rfl) ?_ | (refine zac ?_; refine zaa rfl (zbh rfl rfl) ?_) | (refine zad ?_; (refine zaa rfl (zci rfl rfl (hC) ?_) ?_; (focus ((repeat (first | exact Takes.nil | refine Takes.sl ?_ | refine Takes.lit ?_ | refine Takes.fa ?_ | refine Takes.fc ?_ | refine Takes.net ?_ | (refine Takes.ownE ?_ ?_ ?_ ?_ ?_; (focus (exact ⟨_, _, (by (repeat (first | exact mh | refine mt ?_)); done)⟩)); (focus (simp; done)); (focus omega); (focus (simp only [maxLen]; omega))) | refine Takes.same ?_)); done)))) | (refine zae ?_; first | refine zaa rfl (zcf rfl rfl (by (repeat (first | exact mh | refine mt ?_)); done) rfl) ?_ | refine zaa rfl (zcg rfl rfl (by (repeat (first | exact mh | refine mt ?_)); done) rfl rfl) ?_) | refine zaa rfl (zcd rfl) ?_ | refine zaa rfl (zca rfl rfl) ?_ | refine zaa rfl (zcc rfl) ?_ | refine zah ?_ | (refine zcr ?_; refine zcs ?_) | (refine zdb ?_; first | refine zdc ?_ | refine zdd ?_ | refine zdg ?_) | (refine zak rfl rfl rfl ?_; intro g) | refine zaa rfl (zci rfl rfl hV (Takes.crv Takes.nil)) ?_ | refine zaa rfl (zci rfl rfl hD (Takes.crv Takes.nil)) ?_
  exact done_ret1 rfl () rfl trivial (List.nil_sublist _)
theorem areCubics1_no {P : Nat → CV} (hP : (tabC 4 P).all finC = true) : Fn Tryz.prog 55 (fun w => [crvA w 4 P (fun _ => one1)]) (.raw (.bool false)) := by
  have hV := isPlain_yes hP
  have hD := degree_fn 4 P (fun _ => one1) (by omega)
  refine fn_intro Tryz.func55 rfl Tryz.ntmps55 (fun _ => Nat.le_of_ble_eq_true rfl) fun w0 => ?_
  repeat first | refine zai rfl rfl ?_ | refine zaa rfl (zay rfl) ?_ | refine zaa rfl (zaz rfl) ?_ | (refine zac ?_; refine zaa rfl (zbj rfl rfl) ?_) | (refine zae ?_; refine zaa rfl (zcg rfl rfl (by (repeat (first | exact mh | refine mt ?_)); done) rfl rfl) ?_) | refine zaa rfl (zcb rfl rfl) ?_ | refine zaa rfl (zcc rfl) ?_ | refine zah ?_ | (refine zcr ?_; refine zcs ?_) | (refine zdb ?_; first | refine zdc ?_ | refine zdd ?_ | refine zdg ?_) | (refine zak rfl rfl rfl ?_; intro g) | refine zaa rfl (zci rfl rfl hV (Takes.crv Takes.nil)) ?_ | refine zaa rfl (zci rfl rfl hD (Takes.crv Takes.nil)) ?_
  exact done_ret1 rfl () rfl trivial (List.nil_sublist _)
theorem indexFuncV_none {k : Nat} {Q : Nat → Nat → CV} (hk : k ≤ 1000) (hQ : ∀ i, i < k → (tabC 4 (Q i)).all finC = true) :
    Fn Tryz.prog 80 (fun w => [crvsA w Q k, .raw (.func (.func 55) #[] #[])]) (.raw (.int .i64 (-1))) := by
  refine fn_intro Tryz.func80 rfl Tryz.ntmps80 (fun _ => Nat.le_of_ble_eq_true rfl) fun w0 => ?_
  repeat first | refine zaa rfl (zay rfl) ?_ | refine zaa rfl (zaz rfl) ?_ | refine zah ?_ | (refine zcr ?_; refine zcs ?_) | (refine zdb ?_; first | refine zdc ?_ | refine zdd ?_ | refine zde ?_) | refine zaa rfl (opj_lenV rfl) ?_
  refine ws_loop (ι := Nat) (fun j => [(0, crvsA w0 Q k), (1, .raw (.func (.func 55) #[] #[])), (7, .raw (.int .i64 k)), (8, .raw (.int .i64 j))]) (fun _ => St w0 [] []) (fun j => j ≤ k) (fun j => k - j) 0 (Nat.zero_le _) ?_ (fun _ h => h) (fun j hj => ?_)
  · (repeat (first | exact Env.sub_nil _ | refine Env.sub_cons rfl ?_))
  repeat first | (refine zac ?_; refine zaa rfl (zbe rfl rfl) ?_) | refine zah ?_ | (refine zcr ?_; refine zcs ?_) | (refine zdb ?_; first | refine zdc ?_ | refine zdd ?_)
  refine ws_cond rfl (fun hc => ?_) (fun hc => ?_)
  · have hlt : (j : Int) < k := of_decide_eq_true hc
    have hN := areCubics1_no (hQ j (by omega))
    repeat first | refine zaa rfl (zay rfl) ?_ | refine zaa rfl (zaz rfl) ?_ | (refine zac ?_; refine zaa rfl (zbb rfl rfl (by omega)) ?_) | (refine zae ?_; refine zaa rfl (zch rfl rfl rfl rfl) ?_) | refine zah ?_ | (refine zcr ?_; first | refine zcs ?_ | refine zcv ?_) | (refine zdb ?_; first | refine zdc ?_ | refine zdd ?_ | refine zde ?_ | refine zdf ?_ | refine zdj rfl ?_) | refine zaa rfl (opj_indexV rfl rfl (by omega) (by omega)) ?_ | refine zaa rfl (zci rfl rfl hN (Takes.crv Takes.nil)) ?_
    refine done_round (j + 1) (by omega) (by omega) ?_ (fun _ h => h)
    (repeat (first | exact Env.sub_nil _ | refine Env.sub_cons rfl ?_))
  · repeat first | refine zaa rfl (zaz rfl) ?_ | refine zah ?_ | (refine zcr ?_; first | refine zcs ?_ | refine zcu ?_ | refine zcx ?_ | refine zda ?_) | (refine zdb ?_; first | refine zdc ?_ | refine zdd ?_ | refine zdg ?_ | refine zdh ?_)
    exact done_ret1 rfl () rfl trivial (List.nil_sublist _)
theorem Takes.crvsI {w0 : World} {H : List Ent} {args : List AV} {A' : World → List AV} {R0 : World → Prop} {Q : Nat → Nat → CV} {k : Nat} (h : Takes (StR R0 w0 [] H) args A') : Takes (StR R0 w0 [] H) (crvsA w0 Q k :: args) (fun w => crvsA w Q k :: A' w) := fun w vs hS hr => by
  obtain ⟨v, r, rfl, hv, hrr⟩ := hr.inv_cons
  refine .cons (.q ?_) (h w r hS hrr)
  obtain ⟨a, len, cap, hv, hl, hc, hm, hx⟩ := hS.rd hv.inv_q
  refine ⟨a, len, cap, hv, by rw [crvsC_length] at hl ⊢; exact hl, hc, hm, fun i x hi => ?_⟩
  unfold crvsC at hi hx
  rw [pairs_get] at hi
  split at hi
  · rename_i hlt
    obtain ⟨b, h1, h2, u, h3, h4⟩ := hx i _ (by rw [pairs_get, if_pos hlt])
    refine ⟨b, h1, h2, u, h3, fun w' => ?_⟩
    cases hi
    have h5 := h4 w'
    by_cases h6 : i % 2 = 0
    · rw [if_pos h6] at h5 ⊢
      exact .q (hS.rd h5.inv_q)
    · rw [if_neg h6] at h5 ⊢
      exact .q (hS.rd h5.inv_q)
  · cases hi
theorem containsFuncV_no {k : Nat} {Q : Nat → Nat → CV} (hk : k ≤ 1000) (hQ : ∀ i, i < k → (tabC 4 (Q i)).all finC = true) :
    Fn Tryz.prog 54 (fun w => [crvsA w Q k, .raw (.func (.func 55) #[] #[])]) (.raw (.bool false)) := by
  have hI := indexFuncV_none hk hQ
  refine fn_intro Tryz.func54 rfl Tryz.ntmps54 (fun _ => Nat.le_of_ble_eq_true rfl) fun w0 => ?_
  repeat first | refine zaa rfl (zay rfl) ?_ | refine zaa rfl (zaz rfl) ?_ | (refine zac ?_; refine zaa rfl (zbh rfl rfl) ?_) | refine zah ?_ | (refine zcr ?_; refine zcs ?_) | (refine zdb ?_; first | refine zdc ?_ | refine zdd ?_ | refine zdg ?_) | refine zaa rfl (zci rfl rfl hI (Takes.crvsI (Takes.same Takes.nil))) ?_
  exact done_ret1 rfl () rfl trivial (List.nil_sublist _)
theorem areCubics_yes {k : Nat} {Q : Nat → Nat → CV} (hk : 1 ≤ k ∧ k ≤ 48) (hQ : ∀ i, i < k → (tabC 4 (Q i)).all finC = true) :
    Fn Tryz.prog 24 (fun w => [crvsA w Q k]) (.raw (.bool true)) := by
  have hC := containsFuncV_no (by omega) hQ
  have d1 : decide ((1 : Int) ≤ k) = true := decide_eq_true (by omega)
  have d2 : decide ((k : Int) ≤ 48) = true := decide_eq_true (by omega)
  refine fn_intro Tryz.func24 rfl Tryz.ntmps24 (fun _ => Nat.le_of_ble_eq_true rfl) fun w0 => ?_
  repeat first | refine zaa rfl (zay rfl) ?_ | refine zaa rfl (zaz rfl) ?_ | (refine zac ?_; refine zaa rfl (zbh rfl rfl) ?_) | refine zah ?_ | (refine zcr ?_; refine zcs ?_) | (refine zdb ?_; first | refine zdc ?_ | refine zdd ?_) | refine zaa rfl (opj_lenV rfl) ?_
  rw [d1]
  repeat first | refine zai rfl rfl ?_ | refine zaa rfl (zay rfl) ?_ | (refine zac ?_; refine zaa rfl (zbf rfl rfl) ?_) | refine zaa rfl (zca rfl rfl) ?_ | refine zaa rfl (opj_lenV rfl) ?_
  rw [d2]
  repeat first | refine zai rfl rfl ?_ | refine zaa rfl (zay rfl) ?_ | refine zaa rfl (zaz rfl) ?_ | refine zaa rfl (zca rfl rfl) ?_ | refine zaa rfl (zcc rfl) ?_ | refine zah ?_ | (refine zcr ?_; refine zcs ?_) | (refine zdb ?_; refine zdg ?_) | refine zaa rfl (zci rfl rfl hC (Takes.crvsI (Takes.same Takes.nil))) ?_
  exact done_ret1 rfl () rfl trivial (List.nil_sublist _)
end Go.Ab
namespace Go.Ab
open Go.Proofs
variable {R : World → Prop} [RStab R]
def endC (Q : Nat → Nat → CV) (i : Nat) : CV := subC2 (Q (i + 1) 0) (Q i 3)
def slopeC (Q : Nat → Nat → CV) (i : Nat) : CV := subC2 (subC2 (Q (i + 1) 1) (Q (i + 1) 0)) (subC2 (Q i 3) (Q i 2))
def maxTo (f : Nat → FV) : Nat → FV
  | 0 => fv .f32 0
  | i + 1 => maxF .f32 (maxTo f i) (f i)
attribute [local irreducible] WS RS Done OpJ Then InBlock Round Ret Env.sub FnH
attribute [local irreducible] tab tabC crvsC
theorem joinMiss_fn {k : Nat} {Q : Nat → Nat → CV} (hk : 1 ≤ k ∧ k ≤ 48) (hQ : ∀ i, i < k → (tabC 4 (Q i)).all finC = true)
    (hE : ∀ i, i + 1 < k → LongOk (endC Q i) ∧ LongOk (slopeC Q i) ∧ (∃ r, Vl .f32 (longC (endC Q i)) r) ∧ ∃ r, Vl .f32 (longC (slopeC Q i)) r)
    (hM : ∀ i, i < k → (∃ r, Vl .f32 (maxTo (fun j => longC (endC Q j)) i) r) ∧ ∃ r, Vl .f32 (maxTo (fun j => longC (slopeC Q j)) i) r) :
    Fn Tryz.prog 9 (fun w => [crvsA w Q k]) (.tup [.f .f32 (maxTo (fun j => longC (endC Q j)) (k - 1)), .f .f32 (maxTo (fun j => longC (slopeC Q j)) (k - 1)), .raw (.bool true)]) := by
  have hA := areCubics_yes hk hQ
  refine fn_intro Tryz.func9 rfl Tryz.ntmps9 (fun _ => Nat.le_of_ble_eq_true rfl) fun w0 => ?_
  repeat first | refine zaa rfl (zay rfl) ?_ | refine zaa rfl (zaz rfl) ?_ | refine zaa rfl (zcc rfl) ?_ | refine zah ?_ | (refine zcr ?_; refine zcs ?_) | (refine zdb ?_; first | refine zdc ?_ | refine zdd ?_ | refine zde ?_ | refine zdf ?_ | refine zdj rfl ?_) | refine zaa rfl (zci rfl rfl hA (Takes.crvsI Takes.nil)) ?_
  refine ws_loop (ι := Nat) (fun j => [(0, crvsA w0 Q k), (5, .f .f32 (maxTo (fun j => longC (endC Q j)) j)), (6, .f .f32 (maxTo (fun j => longC (slopeC Q j)) j)), (7, .raw (.int .i64 ((j : Int) + 1)))]) (fun _ => St w0 [] []) (fun j => j + 1 ≤ k) (fun j => k - j) 0 (by omega) ?_ (fun _ h => h) (fun j hj => ?_)
  · (repeat (first | exact Env.sub_nil _ | refine Env.sub_cons rfl ?_))
  repeat first | refine zaa rfl (zay rfl) ?_ | (refine zac ?_; refine zaa rfl (zbe rfl rfl) ?_) | refine zah ?_ | (refine zcr ?_; refine zcs ?_) | (refine zdb ?_; first | refine zdc ?_ | refine zdd ?_) | refine zaa rfl (opj_lenV rfl) ?_
  refine ws_cond rfl (fun hc => ?_) (fun hc => ?_)
  · have hlt : (j : Int) + 1 < k := of_decide_eq_true hc
    repeat first | (refine zcr ?_; refine zcs ?_) | (refine zdb ?_; first | refine zdc ?_ | refine zde ?_ | refine zdf ?_)
    refine ws_draw (n := 13) mixed (by decide +kernel) ?_
    repeat first | refine zap rfl (zay rfl) ?_ | refine zap rfl (zaz rfl) ?_ | (refine zar ?_; refine zap rfl (zbc rfl rfl (by omega)) ?_) | refine zap rfl (zce rfl) ?_ | refine zav ?_ | refine zap rfl (opj_indexV rfl rfl (by omega) (by omega)) ?_ | refine zap rfl (opj_load_ptr rfl rfl rfl) ?_
    have ej : ((j : Int) + 1 - 1).toNat = j := by omega
    have ej' : ((j : Int) + 1).toNat = j + 1 := by omega
    rw [ej, ej']
    obtain ⟨l1, l2, ⟨r1, v1⟩, r2, v2⟩ := hE j (by omega)
    obtain ⟨⟨m1, u1⟩, m2, u2⟩ := hM j (by omega)
    have hs1 := minus_fn (Q (j + 1) 0) (Q j 3)
    have hs2 := minus_fn (Q (j + 1) 1) (Q (j + 1) 0)
    have hs3 := minus_fn (Q j 3) (Q j 2)
    have hs4 := minus_fn (subC2 (Q (j + 1) 1) (Q (j + 1) 0)) (subC2 (Q j 3) (Q j 2))
    have hl1 := longOf_fn _ l1
    have hl2 := longOf_fn _ l2
    have hF := areFinite_fn [longC (endC Q j), longC (slopeC Q j)] (by simp)
    rw [show [longC (endC Q j), longC (slopeC Q j)].all finB = true from by have := finC_of (p := (longC (endC Q j), longC (slopeC Q j))) v1 v2; simpa [finC] using this] at hF
    repeat first | refine zah ?_ | (refine zcr ?_; refine zcs ?_) | (refine zdb ?_; refine zdc ?_)
    refine ws_draw (n := 8) mixed (by decide +kernel) ?_
    repeat first | refine zap rfl (zay rfl) ?_ | (refine zas ?_; first | (refine zap rfl (zci rfl rfl (hs1) ?_) ?_; (focus ((repeat (first | exact Takes.nil | refine Takes.sl ?_ | refine Takes.lit ?_ | refine Takes.fa ?_ | refine Takes.fc ?_ | refine Takes.net ?_ | (refine Takes.ownE ?_ ?_ ?_ ?_ ?_; (focus (exact ⟨_, _, (by (repeat (first | exact mh | refine mt ?_)); done)⟩)); (focus (simp; done)); (focus omega); (focus (simp only [maxLen]; omega))) | refine Takes.same ?_)); done))) | (refine zap rfl (zci rfl rfl (hl1) ?_) ?_; (focus ((repeat (first | exact Takes.nil | refine Takes.sl ?_ | refine Takes.lit ?_ | refine Takes.fa ?_ | refine Takes.fc ?_ | refine Takes.net ?_ | (refine Takes.ownE ?_ ?_ ?_ ?_ ?_; (focus (exact ⟨_, _, (by (repeat (first | exact mh | refine mt ?_)); done)⟩)); (focus (simp; done)); (focus omega); (focus (simp only [maxLen]; omega))) | refine Takes.same ?_)); done)))) | (refine zat ?_; refine zap rfl (zbu rfl rfl) ?_) | (refine zau ?_; refine zap rfl (opj_indexC rfl rfl (by omega) (by omega)) ?_) | refine zav ?_
    repeat first | refine zaa rfl (zaz rfl) ?_ | refine zah ?_ | (refine zcr ?_; refine zcs ?_) | (refine zdb ?_; refine zdc ?_)
    refine ws_draw (n := 16) mixed (by decide +kernel) ?_
    repeat first | refine zap rfl (zay rfl) ?_ | (refine zas ?_; first | (refine zap rfl (zci rfl rfl (hs2) ?_) ?_; (focus ((repeat (first | exact Takes.nil | refine Takes.sl ?_ | refine Takes.lit ?_ | refine Takes.fa ?_ | refine Takes.fc ?_ | refine Takes.net ?_ | (refine Takes.ownE ?_ ?_ ?_ ?_ ?_; (focus (exact ⟨_, _, (by (repeat (first | exact mh | refine mt ?_)); done)⟩)); (focus (simp; done)); (focus omega); (focus (simp only [maxLen]; omega))) | refine Takes.same ?_)); done))) | (refine zap rfl (zci rfl rfl (hs3) ?_) ?_; (focus ((repeat (first | exact Takes.nil | refine Takes.sl ?_ | refine Takes.lit ?_ | refine Takes.fa ?_ | refine Takes.fc ?_ | refine Takes.net ?_ | (refine Takes.ownE ?_ ?_ ?_ ?_ ?_; (focus (exact ⟨_, _, (by (repeat (first | exact mh | refine mt ?_)); done)⟩)); (focus (simp; done)); (focus omega); (focus (simp only [maxLen]; omega))) | refine Takes.same ?_)); done))) | (refine zap rfl (zci rfl rfl (hs4) ?_) ?_; (focus ((repeat (first | exact Takes.nil | refine Takes.sl ?_ | refine Takes.lit ?_ | refine Takes.fa ?_ | refine Takes.fc ?_ | refine Takes.net ?_ | (refine Takes.ownE ?_ ?_ ?_ ?_ ?_; (focus (exact ⟨_, _, (by (repeat (first | exact mh | refine mt ?_)); done)⟩)); (focus (simp; done)); (focus omega); (focus (simp only [maxLen]; omega))) | refine Takes.same ?_)); done))) | (refine zap rfl (zci rfl rfl (hl2) ?_) ?_; (focus ((repeat (first | exact Takes.nil | refine Takes.sl ?_ | refine Takes.lit ?_ | refine Takes.fa ?_ | refine Takes.fc ?_ | refine Takes.net ?_ | (refine Takes.ownE ?_ ?_ ?_ ?_ ?_; (focus (exact ⟨_, _, (by (repeat (first | exact mh | refine mt ?_)); done)⟩)); (focus (simp; done)); (focus omega); (focus (simp only [maxLen]; omega))) | refine Takes.same ?_)); done)))) | (refine zat ?_; refine zap rfl (zbu rfl rfl) ?_) | (refine zau ?_; refine zap rfl (opj_indexC rfl rfl (by omega) (by omega)) ?_) | refine zav ?_
    repeat first | refine zaa rfl (zay rfl) ?_ | refine zaa rfl (zaz rfl) ?_ | (refine zac ?_; refine zaa rfl (zbb rfl rfl (by omega)) ?_) | (refine zad ?_; (refine zaa rfl (zci rfl rfl (hF) ?_) ?_; (focus ((repeat (first | exact Takes.nil | refine Takes.sl ?_ | refine Takes.lit ?_ | refine Takes.fa ?_ | refine Takes.fc ?_ | refine Takes.net ?_ | (refine Takes.ownE ?_ ?_ ?_ ?_ ?_; (focus (exact ⟨_, _, (by (repeat (first | exact mh | refine mt ?_)); done)⟩)); (focus (simp; done)); (focus omega); (focus (simp only [maxLen]; omega))) | refine Takes.same ?_)); done)))) | refine zaa rfl (zcc rfl) ?_ | refine zah ?_ | (refine zcr ?_; first | refine zcs ?_ | refine zcv ?_) | (refine zdb ?_; first | refine zdc ?_ | refine zdd ?_ | refine zdf ?_ | refine zdj rfl ?_) | refine zaa rfl (zco rfl rfl rfl rfl rfl rfl) ?_ | refine zaa rfl (opj_maxV u1 v1 rfl rfl) ?_ | refine zaa rfl (opj_maxV u2 v2 rfl rfl) ?_
    refine done_round (j + 1) (by omega) (by omega) ?_ (fun _ h => h)
    have hnext : ((j + 1 : Nat) : Int) = (j : Int) + 1 := by omega
    rw [hnext]
    (repeat (first | exact Env.sub_nil _ | refine Env.sub_cons rfl ?_))
  · have hkj : k - 1 = j := by have := of_decide_eq_false hc; omega
    subst hkj
    repeat first | refine zaa rfl (zay rfl) ?_ | refine zaa rfl (zaz rfl) ?_ | refine zah ?_ | (refine zcr ?_; first | refine zcs ?_ | refine zcu ?_ | refine zcx ?_ | refine zda ?_) | (refine zdb ?_; first | refine zdc ?_ | refine zdd ?_ | refine zdg ?_ | refine zdh ?_)
    exact done_ret3 rfl () rfl rfl rfl rfl trivial (List.nil_sublist _)
end Go.Ab
namespace Go.Ab
def drawOkF (ops : Array Oper) (m f df : Nat) : Bool :=
  decide (m ≤ f) &&
  (match ops[f]? with
    | some o => o.dst == some df && o.guard.isNone && (looks ops o).isEmpty && (directs o).isEmpty
    | none => false) &&
  (List.range m).all (fun j => gslot ops j != some df) &&
  (List.range m).all (fun i => match ops[i]? with
    | some o => o.dst.isSome && (List.range m).all (fun j => j == i || gslot ops j != o.dst) &&
        (looks ops o).all (fun t => t != df && (List.range m).all fun j => gslot ops j != some t || (decide (j < i) && (directs o).contains j))
    | none => false) &&
  (List.range ops.size).all (fun k => decide (k < m) || k == f || (List.range m).all fun i => ((Region.before ops).getD k 0).testBit i) &&
  (List.range ops.size).all (fun k => match ops[k]? with
    | some o => (directs o).all fun j => decide (j < k)
    | none => false)
def listA (n m : Nat) : Array Bool := ((List.range n).map fun i => decide (i < m)).toArray
section
variable {P : Program} {N : Nat} {S S0 W : World → Prop} {e : Env} {Q : Exit → Env → World → Prop} {ops : Array Oper} {l : List Oper} {o : Oper}
theorem drawOkF_spec {m f df : Nat} (h : drawOkF ops m f df = true) : m ≤ f ∧ (∃ o, ops[f]? = some o ∧ o.dst = some df ∧ o.guard = none ∧ looks ops o = [] ∧ directs o = []) ∧ (∀ j, j < m → gslot ops j ≠ some df) ∧
    (∀ i o, i < m → ops[i]? = some o → (∃ d, o.dst = some d) ∧ (∀ j, j < m → j ≠ i → gslot ops j ≠ o.dst) ∧ ∀ t ∈ looks ops o, ∀ j, j < m → gslot ops j = some t → j < i ∧ j ∈ directs o) ∧
    (∀ k i, m ≤ k → k < ops.size → k ≠ f → i < m → Must ops i k) ∧ (∀ k o, ops[k]? = some o → ∀ j ∈ directs o, j < k) := by
  unfold drawOkF at h
  simp only [Bool.and_eq_true, List.all_eq_true, List.mem_range, decide_eq_true_eq] at h
  obtain ⟨⟨⟨⟨⟨hmf, h1⟩, h0⟩, h2⟩, h3⟩, h4⟩ := h
  refine ⟨hmf, ?_, fun j hj => by simpa using h0 j hj, fun i o hi ho => ?_, fun k i hk hks hkf him => ?_, fun k o ho j hj => ?_⟩
  · cases ho : ops[f]? with
    | none => simp [ho] at h1
    | some o =>
      simp only [ho, Bool.and_eq_true, Option.isNone_iff_eq_none, beq_iff_eq, List.isEmpty_iff] at h1
      obtain ⟨⟨⟨ha, hb⟩, hc⟩, hd⟩ := h1
      exact ⟨o, rfl, ha, hb, hc, hd⟩
  · have := h2 i hi
    simp only [ho, Bool.and_eq_true, List.all_eq_true, List.mem_range, Bool.or_eq_true, beq_iff_eq, bne_iff_ne, decide_eq_true_eq, List.contains_iff_mem] at this
    obtain ⟨⟨ha, hb⟩, hc⟩ := this
    refine ⟨Option.isSome_iff_exists.1 ha, fun j hj hji => (hb j hj).resolve_left hji, fun t ht j hj hg => ?_⟩
    exact ((hc t ht).2 j hj).resolve_left (fun hne => hne hg)
  · have := h3 k hks
    simp only [Bool.or_eq_true, decide_eq_true_eq, List.all_eq_true, List.mem_range, beq_iff_eq] at this
    rcases this with (h5 | h5) | h5
    · omega
    · exact absurd h5 hkf
    · exact before_must ops k i (h5 i him)
  · have hk : k < ops.size := (Array.getElem?_eq_some_iff.1 ho).1
    have := h4 k hk
    simp only [ho, List.all_eq_true, decide_eq_true_eq] at this
    exact this j hj
theorem listA_eq {n m : Nat} {L : Array Bool} (hL : L.size = n) (h : ∀ i, i < n → (Listed L i ↔ i < m)) : L = listA n m := by
  refine Array.ext (by simp [listA, hL]) fun i h1 h2 => ?_
  have hi : i < n := by omega
  have := h i hi
  unfold Listed at this
  rw [Array.getD_eq_getD_getElem?, Array.getElem?_eq_getElem h1] at this
  simp only [Option.getD_some] at this
  simp only [listA, List.getElem_toArray, List.getElem_map, List.getElem_range]
  by_cases hm : i < m
  · rw [decide_eq_true hm]; exact this.2 hm
  · rw [decide_eq_false hm]
    cases hb : L[i] with
    | false => rfl
    | true => exact absurd (this.1 hb) hm
theorem listAf_eq {n m f : Nat} {L : Array Bool} (hL : L.size = n) (hf : f < n) (hmf : m ≤ f) (h : ∀ i, i < n → (Listed L i ↔ i < m ∨ i = f)) : L = (listA n m).setIfInBounds f true := by
  refine Array.ext (by simp [listA, hL]) fun i h1 h2 => ?_
  have hi : i < n := by omega
  have := h i hi
  unfold Listed at this
  rw [Array.getD_eq_getD_getElem?, Array.getElem?_eq_getElem h1] at this
  simp only [Option.getD_some] at this
  rw [Array.getElem_setIfInBounds (by simp [listA, hi])]
  by_cases hfi : f = i
  · rw [if_pos hfi]; exact this.2 (.inr hfi.symm)
  · rw [if_neg hfi]
    simp only [listA, List.getElem_toArray, List.getElem_map, List.getElem_range]
    by_cases hm : i < m
    · rw [decide_eq_true hm]; exact this.2 (.inl hm)
    · rw [decide_eq_false hm]
      cases hb : L[i] with
      | false => rfl
      | true => rcases this.1 hb with h | h <;> omega
theorem unL_listA {n m : Nat} (_ : m ≤ n) : unL (listA n m) = n - m := by
  have h : ∀ n, ((List.range n).map fun i => decide (i < m)).count false = n - m := by
    intro n
    induction n with
    | zero => simp
    | succ n ih =>
      rw [List.range_succ, List.map_append, List.count_append, ih]
      simp only [List.map_cons, List.map_nil]
      by_cases hm : n < m
      · rw [decide_eq_true hm]
        simp only [List.count_cons, List.count_nil]
        simp
        omega
      · rw [decide_eq_false hm]
        simp only [List.count_cons, List.count_nil]
        simp
        omega
  unfold unL listA
  exact h n
theorem listed_listA {n m i : Nat} : Listed (listA n m) i ↔ i < n ∧ i < m := by
  unfold Listed listA
  rw [Array.getD_eq_getD_getElem?]
  simp only [List.getElem?_toArray, List.getElem?_map]
  by_cases h : i < n
  · rw [List.getElem?_range h]
    simp [h]
  · rw [List.getElem?_eq_none (by simp; omega)]
    simp [h]
theorem unL_listAf {n m f : Nat} (hf : f < n) (hmf : m ≤ f) : unL ((listA n m).setIfInBounds f true) = n - m - 1 := by
  have h1 := unL_listA (n := n) (m := m) (by omega)
  have h2 := unL_set (L := listA n m) (i := f) (by simp [listA, hf]) (fun h => by have := (listed_listA.1 h).2; omega)
  omega
/-- An operation that makes a block. -/
def MakesX (P : Program) (S0 : World → Prop) (S1 : Nat → World → Prop) (o : Oper) : Prop :=
  ∀ (a : Act) (w : World) (K : Act → World → Prop) (Q : Exit → Act → World → Prop), S0 w → (∀ g w', Ext w w' → S1 g w' → K (a.put o.dst (.pointer (some ⟨g, 0, none⟩))) w') → o.wp P a w K Q
theorem ws_drawF {m f rid df : Nat} {S1 : Nat → World → Prop} [Cl W] [Cl S0] [hT : ∀ g, Cl (S1 g)] (hm : P.follows .mixedOrders = true) (hchk : drawOkF ops m f df = true) (hdN : Nat.blt df N = true) (hfr : e.look df = none) (hW0 : ∀ w, S0 w → W w) (hW1 : ∀ g w, S1 g w → W w)
    (hf : ∀ o, ops[f]? = some o → MakesX P S0 S1 o)
    (h : Run1 P N W ops (ops.toList.take m) e (fun e' => RA P N ops (listA ops.size m) (ops.size - m) e' S0 Q ∧ ∀ g, RA P N ops ((listA ops.size m).setIfInBounds f true) (ops.size - m - 1) ((df, .raw (.pointer (some ⟨g, 0, none⟩))) :: e') (S1 g) Q)) : WS P N (.region rid ops true) e S0 Q := by
  obtain ⟨hmf, ⟨of, hof, hofdst, hofgd, hofl, hofd⟩, hnd, hfirst, hmust, hback⟩ := drawOkF_spec hchk
  have hfn : f < ops.size := (Array.getElem?_eq_some_iff.1 hof).1
  obtain ⟨ps, hlen, ⟨hRA0, hRA1⟩, hall⟩ := run1_spec h
  have hlen' : ps.length = m := by rw [hlen]; simp; omega
  have hop : ∀ i, i < m → ∃ o p, ops[i]? = some o ∧ ps[i]? = some p ∧ o.dst = some p.1 ∧ p.1 < N ∧ OpG P W ops (after1 (ps.take i) e) o p.2 := fun i hi => by
    have ho : ops[i]? = some (ops[i]'(by omega)) := by simp
    have hp : ps[i]? = some (ps[i]'(by omega)) := by simp
    obtain ⟨h1, h2, h3⟩ := hall i (ops[i]'(by omega)) (ps[i]'(by omega)) (by rw [List.getElem?_take, if_pos hi]; simp) hp
    exact ⟨_, _, ho, hp, h1, h2, h3⟩
  have hslot : ∀ i p, ps[i]? = some p → gslot ops i = some p.1 := fun i p hp => by
    have hi : i < m := by rw [← hlen']; exact (List.getElem?_eq_some_iff.1 hp).1
    obtain ⟨o, p', ho, hp', hd, _⟩ := hop i hi
    rw [hp'] at hp; cases hp
    simp [gslot, ho, hd]
  have hdps : ∀ q ∈ ps, q.1 ≠ df := fun q hq he => by
    obtain ⟨j, hj⟩ := List.mem_iff_getElem?.1 hq
    exact hnd j (by rw [← hlen']; exact (List.getElem?_eq_some_iff.1 hj).1) (by rw [hslot j q hj, he])
  have hsubE : ∀ c, Env.sub e ((df, .raw c) :: e) := fun c t v ht => by
    simp only [Env.look]
    cases hb : Nat.beq df t with
    | true => rw [← Nat.eq_of_beq_eq_true hb, hfr] at ht; cases ht
    | false => exact ht
  have hsubA : ∀ (c : Value) (l : List (Nat × AV)), Env.sub (after1 l e) (after1 l ((df, .raw c) :: e)) := fun c l t v ht => by
    unfold after1 at ht ⊢
    rw [look_append] at ht ⊢
    cases hl : Env.look l.reverse t with
    | some x => simp only [hl] at ht ⊢; exact ht
    | none => simp only [hl] at ht ⊢; exact hsubE c t v ht
  have hop1 : ∀ (c : Value) i, i < m → ∃ o p, ops[i]? = some o ∧ ps[i]? = some p ∧ o.dst = some p.1 ∧ p.1 < N ∧ OpG P W ops (after1 (ps.take i) ((df, .raw c) :: e)) o p.2 := fun c i hi => by
    obtain ⟨o, p, h1, h2, h3, h4, h5⟩ := hop i hi
    exact ⟨o, p, h1, h2, h3, h4, opG_sub (hsubA c _) h5⟩
  have hfull : ∀ (e0 : Env) (S : World → Prop) (L : Array Bool) (a : Act) (w : World), DI N ops ps e0 S id L a w → (∀ i, i < m → Listed L i) → ∀ t v, (after1 ps e0).look t = some v → ∃ u, a.tmps[t]? = some u ∧ Rel w v u := fun e0 S L a w hI hal t v ht => by
    unfold after1 at ht
    rw [look_append] at ht
    cases hl : Env.look ps.reverse t with
    | some x =>
      simp only [hl, Option.some.injEq] at ht; subst ht
      obtain ⟨i, hi⟩ := List.mem_iff_getElem?.1 (List.mem_reverse.1 (look_mem _ _ _ hl))
      exact hI.vals i _ hi (hal i (by have := (List.getElem?_eq_some_iff.1 hi).1; omega))
    | none =>
      simp only [hl] at ht
      exact hI.base t v (by have := (look_none_iff _ _).1 hl; simpa using this) ht
  have hsub1 : ∀ c : Value, Env.sub ((df, .raw c) :: after1 ps e) (after1 ps ((df, .raw c) :: e)) := fun c t v ht => by
    simp only [Env.look] at ht
    cases hb : Nat.beq df t with
    | true =>
      simp only [hb, Option.some.injEq] at ht
      subst ht
      rw [← Nat.eq_of_beq_eq_true hb]
      unfold after1
      rw [look_append]
      have : Env.look ps.reverse df = none := by
        rw [look_none_iff]
        intro hm'
        rw [List.map_reverse, List.mem_reverse] at hm'
        obtain ⟨q, hq, hqd⟩ := List.mem_map.1 hm'
        exact hdps q hq hqd
      rw [this]
      simp only [Env.look, Nat.beq_refl]
    | false =>
      simp only [hb] at ht
      exact hsubA c ps t v ht
  -- the block is made
  have key1 : ∀ (g : Nat) (fuel : Nat) (L : Array Bool) (a : Act) (w : World), DI N ops ps ((df, .raw (.pointer (some ⟨g, 0, none⟩))) :: e) (S1 g) id L a w → Listed L f → (∀ k, Listed L k → k < m ∨ k = f) → unL L = fuel →
      wpAny P .any ops (fun x a' w' => ∃ e', Fr N e' a' w' ∧ Q x e' w') fuel L a w := by
    intro g fuel
    induction fuel with
    | zero =>
      intro L a w hI hlf hno hu
      have hal : ∀ i, i < ops.size → Listed L i := fun i hi => unL_zero hu (by rw [hI.hL]; exact hi)
      have hs : ops.size - m - 1 = 0 := by
        have h1 : ∀ k, k < ops.size → k < m ∨ k = f := fun k hk => hno k (hal k hk)
        have h2 : m = f := by
          rcases Nat.lt_or_ge m f with h | h
          · have := h1 m (by omega); omega
          · omega
        rcases Nat.lt_or_ge (f + 1) ops.size with h | h
        · have := h1 (f + 1) h; omega
        · omega
      have hLe : L = (listA ops.size m).setIfInBounds f true := listAf_eq hI.hL hfn hmf fun i hi => ⟨hno i, fun _ => hal i hi⟩
      have := hRA1 g a w hI.hS ⟨hI.df, hI.sz, fun t v ht => hfull _ _ _ _ _ hI (fun i hi => hal i (by omega)) t v (hsub1 _ t v ht)⟩
      rw [hs] at this
      rw [hLe]
      exact this
    | succ fuel ih =>
      intro L a w hI hlf hno hu
      by_cases hal : ∀ i, i < m → Listed L i
      · have hLe : L = (listA ops.size m).setIfInBounds f true := listAf_eq hI.hL hfn hmf fun i hi => ⟨hno i, fun h => h.elim (hal i) fun h => h ▸ hlf⟩
        have := hRA1 g a w hI.hS ⟨hI.df, hI.sz, fun t v ht => hfull _ _ _ _ _ hI hal t v (hsub1 _ t v ht)⟩
        have hcount : unL ((listA ops.size m).setIfInBounds f true) = ops.size - m - 1 := unL_listAf hfn hmf
        rw [hLe] at hu ⊢
        rw [hcount] at hu
        rw [← hu]
        exact this
      · have hex : ∃ i, i < m ∧ ¬ Listed L i := by
          false_or_by_contra
          rename_i hc
          exact hal fun i hi => by
            false_or_by_contra
            rename_i hn'
            exact hc ⟨i, hi, hn'⟩
        obtain ⟨i0, hi0, hil0⟩ := hex
        refine ⟨fun hnil => absurd hnil (ready_ne hI.hL hback (by omega) hil0), fun i hi => ?_⟩
        obtain ⟨h1, h2, h3⟩ := (ready_iff hI.hL i).1 hi
        have hin : i < m := by
          rcases Nat.lt_or_ge i m with h' | h'
          · exact h'
          · have hif : i ≠ f := fun h => h2 (h ▸ hlf)
            exact absurd (fun j hj => (hmust i j h' h1 hif hj).listed hI.hd h3) hal
        refine DI.pure_step (n := m) hlen' (by omega) (fun _ _ _ h => h) (hW1 g) (hop1 _) hslot hfirst hI hi hin (fun _ _ _ _ _ _ => rfl) (fun a' w' hI' => ?_)
        have hiL : i < L.size := by rw [hI.hL]; omega
        refine ih _ a' w' hI' ((listed_set hiL).2 (.inr hlf)) (fun k hk => ?_) (by have := unL_set hiL h2; omega)
        rcases (listed_set hiL).1 hk with rfl | hk
        · exact .inl hin
        · exact hno k hk
  -- it is not
  have key0 : ∀ (fuel : Nat) (L : Array Bool) (a : Act) (w : World), DI N ops ps e S0 id L a w → (∀ k, Listed L k → k < m) → unL L = fuel →
      wpAny P .any ops (fun x a' w' => ∃ e', Fr N e' a' w' ∧ Q x e' w') fuel L a w := by
    intro fuel
    induction fuel with
    | zero =>
      intro L a w hI hno hu
      have := hno f (unL_zero hu (by rw [hI.hL]; exact hfn))
      omega
    | succ fuel ih =>
      intro L a w hI hno hu
      by_cases hal : ∀ i, i < m → Listed L i
      · have hLe : L = listA ops.size m := listA_eq hI.hL fun i hi => ⟨hno i, hal i⟩
        have := hRA0 a w hI.hS ⟨hI.df, hI.sz, fun t v ht => hfull _ _ _ _ _ hI hal t v ht⟩
        have hcount : unL (listA ops.size m) = ops.size - m := unL_listA (by omega)
        rw [hLe] at hu ⊢
        rw [hcount] at hu
        rw [← hu]
        exact this
      · have hex : ∃ i, i < m ∧ ¬ Listed L i := by
          false_or_by_contra
          rename_i hc
          exact hal fun i hi => by
            false_or_by_contra
            rename_i hn'
            exact hc ⟨i, hi, hn'⟩
        obtain ⟨i0, hi0, hil0⟩ := hex
        refine ⟨fun hnil => absurd hnil (ready_ne hI.hL hback (by omega) hil0), fun i hi => ?_⟩
        obtain ⟨h1, h2, h3⟩ := (ready_iff hI.hL i).1 hi
        have hiL : i < L.size := by rw [hI.hL]; omega
        rcases Nat.lt_or_ge i m with hin | hin
        · refine DI.pure_step (n := m) hlen' (by omega) (fun _ _ _ h => h) hW0 hop hslot hfirst hI hi hin (fun _ _ _ _ _ _ => rfl) (fun a' w' hI' => ?_)
          refine ih _ a' w' hI' (fun k hk => ?_) (by have := unL_set hiL h2; omega)
          rcases (listed_set hiL).1 hk with rfl | hk
          · exact hin
          · exact hno k hk
        · have hif : i = f := by
            false_or_by_contra
            rename_i hne
            exact hal fun j hj => (hmust i j hin h1 hne hj).listed hI.hd h3
          subst hif
          unfold wpOp
          simp only [hof]
          rw [if_pos (by simp [Region.wanted, hofgd])]
          refine .inl (hf of hof a w _ _ hI.hS (fun g w' hx hS1 => ?_))
          have hdN' : df < a.tmps.size := by rw [hI.sz]; exact Nat.le_of_ble_eq_true hdN
          have hother : ∀ t u, t ≠ df → a.tmps[t]? = some u → (a.put of.dst (.pointer (some ⟨g, 0, none⟩))).tmps[t]? = some u := fun t u hne hu => by
            simp [hofdst, Act.put, Array.getElem?_setIfInBounds_ne (Ne.symm hne), hu]
          refine key1 g fuel _ (a.put of.dst (.pointer (some ⟨g, 0, none⟩))) w' ⟨by simpa using hI.hL, fun k x hx hk j hj => ?_, hS1, by simp [hofdst, Act.put, hI.df], by simp [hofdst, Act.put, hI.sz], fun j q hq hj => ?_, fun t v ht hv => ?_⟩ ((listed_set hiL).2 (.inl rfl)) (fun k hk => ?_) (by have := unL_set hiL h2; omega)
          · rw [listed_set hiL]
            rcases (listed_set hiL).1 hk with rfl | hk
            · exact .inr (h3 x hx j hj)
            · exact .inr (hI.hd k x hx hk j hj)
          · have hjn : j < m := by rw [← hlen']; exact (List.getElem?_eq_some_iff.1 hq).1
            obtain ⟨u, hu', hr⟩ := hI.vals j q hq (((listed_set hiL).1 hj).resolve_left (by omega))
            exact ⟨u, hother _ _ (hdps q (List.mem_of_getElem? hq)) hu', hr.ext hx⟩
          · simp only [Env.look] at hv
            cases hb : Nat.beq df t with
            | true =>
              simp only [hb, Option.some.injEq] at hv
              subst hv
              rw [← Nat.eq_of_beq_eq_true hb]
              exact ⟨_, by simp [hofdst, Act.put, hdN'], .raw⟩
            | false =>
              simp only [hb] at hv
              obtain ⟨u, hu', hr⟩ := hI.base t v ht hv
              have hne : t ≠ df := fun he => by rw [he, Nat.beq_refl] at hb; cases hb
              exact ⟨u, hother _ _ hne hu', hr.ext hx⟩
          · rcases (listed_set hiL).1 hk with rfl | hk
            · exact .inr rfl
            · exact .inl (hno k hk)
  intro a w hS hF
  refine wp_region_any hm ?_
  have hw0 : Ext w { w with drawn := w.drawn + 1 } := Ext.of_quiet (.inr rfl)
  have hS0 : S0 { w with drawn := w.drawn + 1 } := Cl.ext hS hw0
  have hF0 := hF.ext hw0
  generalize ({ w with drawn := w.drawn + 1 } : World) = w1 at hS0 hF0
  have hnl : ∀ k, ¬ Listed (Array.replicate ops.size false) k := fun k hk => by
    unfold Listed at hk; rw [Array.getD_eq_getD_getElem?, Array.getElem?_replicate] at hk; split at hk <;> simp at hk
  exact key0 ops.size _ a w1 ⟨by simp, fun k o _ hk => absurd hk (hnl k), hS0, hF0.defers, hF0.size, fun i p _ hi => absurd hi (hnl i), fun t v _ ht => hF0.rel t v ht⟩ (fun k hk => absurd hk (hnl k)) (by unfold unL; simp)
/-- A variable of its own. -/
theorem makesX_alloc {R : World → Prop} [RStab R] {w0 : World} {gs : List Nat} {H : List Ent} {d : Tmp} {ty : TypeId} {pos : String} {after : Array Edge} {el : TypeId} {z : Value} {sz b : Nat} [hi : TyI P el z sz b] (hzo : z.cells.toList.all okv1 = true) {xs : List AV} {c : Nat} (hxs : z.cells.toList.map cv1 = xs) (hc : z.cells.size = c) :
    MakesX P (StR R w0 gs H) (fun g => StR R w0 gs (⟨g, el, xs, c⟩ :: H)) ⟨some d, .alloc el, ty, pos, after, none⟩ := by
  subst hxs hc
  intro a w K Q hS hK
  unfold Oper.wp
  have hex : (execOp a.eval ⟨some d, .alloc el, ty, pos, after, none⟩).run P w = .ok (.value (.pointer (some ⟨w.heap.size, 0, none⟩))) (w.alloc (.cells z.cells el)) := by
    simp [execOp, Instr.alloc, run_zero hi, newVar, newRow]
  rw [hex]
  refine hK _ _ (Ext.alloc _ _) ?_
  refine hS.new (e := ⟨w.heap.size, el, z.cells.toList.map cv1, z.cells.size⟩) (Ext.alloc _ _) (Nat.le_refl _) (ext_alloc_own fun j x hj => ?_)
  simp only [List.getElem?_map, Option.map_eq_some_iff] at hj
  obtain ⟨v, hv, rfl⟩ := hj
  exact ⟨v, by simpa using hv, cv1_ev v (List.all_eq_true.1 hzo v (List.mem_of_getElem? hv))⟩
end
end Go.Ab
namespace Go.Ab
variable {R : World → Prop} [RStab R]
section
variable {P : Program} {t el : TypeId} {S S' : World → Prop} {N : Nat} {e e' E : Env} {Q : Exit → Env → World → Prop} {ops : Array Oper} {l : List Oper} {dst : Option Tmp} {ty : TypeId} {pos : String} {after : Array Edge} {guard : Option (Nat × Bool)}
variable {w0 : World} {gs : List Nat} {H : List Ent} {L : Array Bool} {fuel i : Nat}
theorem RA.weak (h : RA P N ops L fuel e' S' Q) (he : Env.sub e' e) (hS : ∀ w, S w → S' w) : RA P N ops L fuel e S Q := fun a w hw hF => h a w (hS w hw) (hF.sub he)
theorem RA.toL' {L' : Array Bool} (h : RA P N ops L' fuel e S Q) (hl : L = L') : RA P N ops L fuel e S Q := hl ▸ h
/-- All that are ready. -/
def ROs (P : Program) (N : Nat) (ops : Array Oper) (L : Array Bool) (fuel : Nat) (e : Env) (S : World → Prop) (Q : Exit → Env → World → Prop) : List Nat → Prop
  | [] => True
  | i :: r => RO P N ops i L fuel e S Q ∧ ROs P N ops L fuel e S Q r
theorem ros_mem {r : List Nat} (h : ROs P N ops L fuel e S Q r) (hi : i ∈ r) : RO P N ops i L fuel e S Q := by
  induction r with
  | nil => cases hi
  | cons j r ih =>
    rcases List.mem_cons.1 hi with rfl | hi
    · exact h.1
    · exact ih h.2 hi
theorem ra_list (r : List Nat) (hr : Region.ready .any ops L = r) (hne : r.isEmpty = false) (h : ROs P N ops L fuel e S Q r) : RA P N ops L (fuel + 1) e S Q :=
  fun a w hS hF => ⟨fun hn => (by rw [hr] at hn; rw [hn] at hne; cases hne), fun k hk => ros_mem h (hr ▸ hk) a w hS hF⟩
theorem ro_callM {X : Type} {A : World → List AV} {mk : X → AV} {post : X → List Ent} {good : X → Prop} {c : FuncId} {xs : List Operand} {F : Operand} {args : List AV} {d : Tmp} {ts : Array TypeId} [hb : HasBody P c]
    (ho : ops[i]? = some ⟨some d, .call { callee := .value F, args := xs.toArray, argTypes := ts }, ty, pos, after, none⟩)
    (hc : FnH P c A [] mk post good) (hF' : e.ev F = some (.raw (.func (.func c) #[] #[]))) (hx : evL e xs = some args) (ht : Takes (StR R w0 gs H) args A) (hd : Nat.blt d N = true)
    (h : ∀ y, good y → RA P N ops (L.setIfInBounds i true) fuel ((d, mk y) :: e) (StR R w0 gs (post y ++ H)) Q) : RO P N ops i L fuel e (StR R w0 gs H) Q := by
  intro a w hS hF
  unfold wpOp
  simp only [ho]
  rw [if_pos (by simp [Region.wanted])]
  obtain ⟨fnc, hf, hbd, hn⟩ := hb.h
  have h1 := (hF.eval hF').inv_raw
  have hrl : RelL w (A w) (xs.map a.eval) := ht w _ hS (evL_rel hx fun x _ y hy => hF.eval hy)
  have hcall := hc w _ hrl (fun _ h => by cases h) List.Pairwise.nil
  left
  unfold Oper.wp
  have hrun : (execOp a.eval ⟨some d, .call { callee := .value F, args := xs.toArray, argTypes := ts }, ty, pos, after, none⟩).run P w = .ok (.enter c (xs.map a.eval).toArray) w := by
    simp [execOp, resolve, h1, Deferred.ofValue, invoke, run_callFn hf hbd hn]
  rw [hrun]
  refine Calls.mono hcall fun x w' ⟨v, y, hx', hy, hrv, hm, hp, hpn⟩ => ?_
  subst hx'
  exact h y hy _ w' (StR.call (A := []) (H := H) hS hm hp hpn) (Fr.put (some d) (hF.ext hm.to_ext) (fun _ h => by cases h; exact Nat.le_of_ble_eq_true hd) hrv)
theorem ro_makes {S0 : World → Prop} {S1 : Nat → World → Prop} {o : Oper} {d : Tmp} (ho : ops[i]? = some o) (hg : o.guard = none) (hdo : o.dst = some d) (hd : Nat.blt d N = true) (hm : MakesX P S0 S1 o)
    (h : ∀ g, RA P N ops (L.setIfInBounds i true) fuel ((d, .raw (.pointer (some ⟨g, 0, none⟩))) :: e) (S1 g) Q) : RO P N ops i L fuel e S0 Q := by
  intro a w hS hF
  unfold wpOp
  simp only [ho]
  rw [if_pos (by simp [Region.wanted, hg])]
  refine .inl (hm a w _ _ hS fun g w' hx hS1 => ?_)
  rw [hdo]
  exact h g _ w' hS1 (Fr.put (some d) (hF.ext hx) (fun _ h => by cases h; exact Nat.le_of_ble_eq_true hd) .raw)
/-- An operation that turns the world and gives nothing. -/
def EffS (P : Program) (N : Nat) (e : Env) (S0 : World → Prop) (E : Env) (S1 : World → Prop) (o : Oper) : Prop :=
  ∀ (a : Act) (w : World), S0 w → Fr N e a w → ∀ (K : Act → World → Prop) (Q : Exit → Act → World → Prop), (∀ a' w', Fr N E a' w' → S1 w' → K a' w') → o.wp P a w K Q
theorem ro_effs {S0 S1 : World → Prop} {o : Oper} (ho : ops[i]? = some o) (hg : o.guard = none) (hm : EffS P N e S0 E S1 o) (h : RA P N ops (L.setIfInBounds i true) fuel E S1 Q) : RO P N ops i L fuel e S0 Q := by
  intro a w hS hF
  unfold wpOp
  simp only [ho]
  rw [if_pos (by simp [Region.wanted, hg])]
  exact .inl (hm a w hS hF _ _ fun a' w' hF' hS' => h a' w' hS' hF')
theorem effs_storeAG (k : Nat) {en : Ent} {i : Nat} {t : TypeId} {z : Value} {sz b : Nat} [hi : TyI P t z sz b] {A X : Operand} {ys : List AV} (hA : e.ev A = some (.raw (.pointer (some ⟨en.g, i, none⟩)))) (hx : e.ev X = some (.agg ys)) (h1 : OneL ys) (hs : AV.stillL ys = true)
    (hH : H[k]? = some en) (hl : ys.length = sz) (hi' : i + sz ≤ en.xs.length) (hc : en.xs.length = en.csz) :
    EffS P N e (StR R w0 gs H) e.keep (StR R w0 gs (H.set k { en with xs := splice i ys en.xs })) ⟨none, .store t A X, ty, pos, after, none⟩ := by
  intro a w hS hF K Q hK
  have h2 := (hF.eval hA).inv_raw
  obtain ⟨vs, hv, hr⟩ := (hF.eval hx).inv_agg
  have hvl : vs.length = sz := by rw [hr.length, hl]
  have hmem : en ∈ H := List.mem_of_getElem? hH
  obtain ⟨cur, hb, hcs, hcx⟩ := (hS.own en hmem).2
  have hone : ∀ v ∈ vs, v.oneCell' = true := fun v hv' => by
    obtain ⟨j, hj⟩ := List.mem_iff_getElem?.1 hv'
    have hjl : j < ys.length := by rw [← hr.length]; exact (List.getElem?_eq_some_iff.1 hj).1
    obtain ⟨u, hu, hru⟩ := hr.get (List.getElem?_eq_getElem hjl)
    rw [hj] at hu; cases hu
    exact h1 _ (List.getElem_mem _) _ _ hru
  have hst := run_storeCells_at (P := P) en.g i en.T vs 0 cur w hb (by omega) hone
  have hrun : (execOp a.eval ⟨none, .store t A X, ty, pos, after, none⟩).run P w = .ok .skip (w.setRow en.g (cur.toList.take (i + 0) ++ vs ++ cur.toList.drop (i + 0 + vs.length)).toArray) := by
    have hcs' : (Value.agg vs.toArray).cells = vs.toArray := rfl
    simp [execOp, h2, hv, Instr.storeAt, Instr.sureAddr, storeVar, run_size hi, hcs', hvl, hst]
  simp only [Nat.add_zero] at hrun
  unfold Oper.wp
  rw [hrun]
  have hrow : ((w.setRow en.g (cur.toList.take i ++ vs ++ cur.toList.drop (i + vs.length)).toArray)).heap[en.g]? = some (.cells (cur.toList.take i ++ vs ++ cur.toList.drop (i + vs.length)).toArray en.T (0, 0)) := setRow_heap w en.g cur _ en.T _ hb
  have hto : (cur.toList.take i).length = i := by simp; omega
  have hto' : (en.xs.take i).length = i := by simp; omega
  refine hK _ _ hF.keep (hS.updAt (e' := { en with xs := splice i ys en.xs }) hH ?_ (.inl rfl) ?_)
  · refine ⟨rfl, rfl, rfl, by simp, fun k _ hk => setRow_other w en.g k _ (fun e => hk (by simp [e]))⟩
  · refine ⟨_, hrow, ?_, fun j x hj => ?_⟩
    · simp only [List.size_toArray, List.length_append, List.length_drop, hto, Array.length_toList, hvl]; omega
    · simp only [splice] at hj
      simp only [List.getElem?_toArray]
      rcases Nat.lt_or_ge j i with h | h
      · rw [List.append_assoc, List.getElem?_append_left (by omega), List.getElem?_take, if_pos h] at hj
        obtain ⟨u, hu, hev⟩ := hcx j x hj
        exact ⟨u, by rw [List.append_assoc, List.getElem?_append_left (by omega), List.getElem?_take, if_pos h]; simpa using hu, hev⟩
      · rcases Nat.lt_or_ge j (i + sz) with h' | h'
        · rw [List.append_assoc, List.getElem?_append_right (by omega), hto', List.getElem?_append_left (by omega)] at hj
          obtain ⟨u, hu, hru⟩ := hr.get hj
          refine ⟨u, ?_, hru.ev (still_mem hs x (List.mem_of_getElem? hj))⟩
          rw [List.append_assoc, List.getElem?_append_right (by omega), hto, List.getElem?_append_left (by omega)]
          exact hu
        · rw [List.getElem?_append_right (by simp; omega), List.getElem?_drop] at hj
          have e1 : i + ys.length + (j - (en.xs.take i ++ ys).length) = j := by simp; omega
          rw [e1] at hj
          obtain ⟨u, hu, hev⟩ := hcx j x hj
          refine ⟨u, ?_, hev⟩
          rw [List.getElem?_append_right (by simp; omega), List.getElem?_drop]
          have e2 : i + vs.length + (j - (cur.toList.take i ++ vs).length) = j := by simp; omega
          rw [e2]
          simpa using hu
theorem effs_storeAX (k : Nat) {g i c : Nat} {T : TypeId} {xs zs : List AV} {t : TypeId} {z : Value} {sz b : Nat} [hi : TyI P t z sz b] {A X : Operand} {ys : List AV} (hA : e.ev A = some (.raw (.pointer (some ⟨g, i, none⟩)))) (hx : e.ev X = some (.agg ys)) (h1 : ys.all AV.one = true) (hs : AV.stillL ys = true)
    (hH : H[k]? = some ⟨g, T, xs, c⟩) (hl : ys.length = sz) (hi' : Nat.ble (i + sz) xs.length = true) (hc : xs.length = c) (hz : splice i ys xs = zs) :
    EffS P N e (StR R w0 gs H) e.keep (StR R w0 gs (H.set k ⟨g, T, zs, c⟩)) ⟨none, .store t A X, ty, pos, after, none⟩ := by
  subst hz
  exact effs_storeAG k (en := ⟨g, T, xs, c⟩) hA hx (oneL_of h1) hs hH hl (Nat.le_of_ble_eq_true hi') hc
end
end Go.Ab
namespace Go.Ab
open Go.Proofs
variable {R : World → Prop} [RStab R]
class Arr4 (P : Program) (t el : outParam TypeId) : Prop where
  b4 : ∀ (w : World) (a b c d : Nat), (Instr.build t #[(0, .float .f32 a), (1, .float .f32 b), (2, .float .f32 c), (3, .float .f32 d)]).run P w = .ok (.agg #[.float .f32 a, .float .f32 b, .float .f32 c, .float .f32 d]) w
instance arr4 : Arr4 Tryz.prog 79 27 := ⟨fun w a b c d => by kernel_rfl⟩
section
variable {P : Program} {t el : TypeId} {S : World → Prop} {e : Env} {dst : Option Tmp} {ty : TypeId} {pos : String} {after : Array Edge} {guard : Option (Nat × Bool)}
variable {w0 : World} {gs : List Nat} {H : List Ent}
abbrev arrA (x0 x1 x2 x3 : FV) : AV := .agg [.f .f32 x0, .f .f32 x1, .f .f32 x2, .f .f32 x3]
theorem opj_build4 [hb : Arr4 P t el] {X Y Z V : Operand} {x y z v : FV} (hx : e.ev X = some (.f .f32 x)) (hy : e.ev Y = some (.f .f32 y)) (hz : e.ev Z = some (.f .f32 z)) (hv : e.ev V = some (.f .f32 v)) :
    OpJ P S e ⟨dst, .build t #[(0, X), (1, Y), (2, Z), (3, V)], ty, pos, after, guard⟩ (arrA x y z v) :=
  opj_value fun ac w _ h => by
    obtain ⟨a, h1, e1, l1⟩ := (h X (by simp [Op.operands]) _ hx).inv_f
    obtain ⟨b, h2, e2, l2⟩ := (h Y (by simp [Op.operands]) _ hy).inv_f
    obtain ⟨c, h3, e3, l3⟩ := (h Z (by simp [Op.operands]) _ hz).inv_f
    obtain ⟨d, h4, e4, l4⟩ := (h V (by simp [Op.operands]) _ hv).inv_f
    refine ⟨_, w, ?_, Ext.refl _, .agg (vs := [.float .f32 a, .float .f32 b, .float .f32 c, .float .f32 d]) (.cons (Rel.f' l1 e1) (.cons (Rel.f' l2 e2) (.cons (Rel.f' l3 e3) (.cons (Rel.f' l4 e4) .nil))))⟩
    simp only [execOp, List.map_toArray, List.map_cons, List.map_nil, h1, h2, h3, h4, Sem.run_bind, hb.b4, Result.andThen_ok]
    rfl
/-- A place of an array of the call's own. -/
theorem opj_indexA4 {X : Operand} {g : Nat} {i : Int} {z : Value} {b : Nat} [hu : TyU P t (.array 4 el)] [hi : TyI P el z 1 b] {I : Operand} (hx : e.ev X = some (.raw (.pointer (some ⟨g, 0, none⟩)))) (hI : e.ev I = some (.raw (.int .i64 i))) (h0 : 0 ≤ i) (h1 : i < 4) :
    OpJ P S e ⟨dst, .indexAddr t X I, ty, pos, after, guard⟩ (.raw (.pointer (some ⟨g, i.toNat, none⟩))) :=
  opj_value fun a w hS h => by
    have h1' := (h X (by simp [Op.operands]) _ hx).inv_raw
    have h2 := (h I (by simp [Op.operands]) _ hI).inv_raw
    refine ⟨_, w, ?_, Ext.refl _, .raw⟩
    have := addr_add ⟨g, 0, none⟩ rfl i.toNat
    simp only [Nat.zero_add] at this
    simp [execOp, h1', h2, Instr.indexAt, Instr.sureAddr, asIntOf, run_underlying hu.h, run_size hi, h0, h1, this]
/-- A number of four. -/
def sel4 (x0 x1 x2 x3 : FV) (i : Int) : FV := if i = 0 then x0 else if i = 1 then x1 else if i = 2 then x2 else x3
theorem opj_index4 {X I : Operand} {i : Int} {x0 x1 x2 x3 : FV} {z0 : Value} {b : Nat} [hu : TyU P t (.array 4 el)] {d : TypeDesc} [hd : TyU P el d] (ha : aggD d = false) [hi : TyI P el z0 1 b] (hx : e.ev X = some (arrA x0 x1 x2 x3)) (hI : e.ev I = some (.raw (.int .i64 i))) (h0 : 0 ≤ i ∧ i < 4) :
    OpJ P S e ⟨dst, .index t X I, ty, pos, after, guard⟩ (.f .f32 (sel4 x0 x1 x2 x3 i)) :=
  opj_value fun a w _ h => by
    obtain ⟨vs, h1, hr⟩ := (h X (by simp [Op.operands]) _ hx).inv_agg
    have h2 := (h I (by simp [Op.operands]) _ hI).inv_raw
    obtain ⟨v0, r0, rfl, hv0, hr⟩ := hr.inv_cons
    obtain ⟨v1, r1, rfl, hv1, hr⟩ := hr.inv_cons
    obtain ⟨v2, r2, rfl, hv2, hr⟩ := hr.inv_cons
    obtain ⟨v3, r3, rfl, hv3, hr⟩ := hr.inv_cons
    obtain rfl := hr.inv_nil
    have hpart : ∀ (k : Nat) (v : Value), #[v0, v1, v2, v3][k]? = some v → (part el #[v0, v1, v2, v3] k).run P w = .ok v w := fun k v hv => by
      simp [part, run_isAgg hd.h, ha, hv]
    have hc : i = 0 ∨ i = 1 ∨ i = 2 ∨ i = 3 := by omega
    rcases hc with rfl | rfl | rfl | rfl
    · exact ⟨v0, w, by simp [execOp, h1, h2, Instr.index, asIntOf, run_underlying hu.h, run_size hi, hpart 0 v0 rfl], Ext.refl _, hv0⟩
    · exact ⟨v1, w, by simp [execOp, h1, h2, Instr.index, asIntOf, run_underlying hu.h, run_size hi, hpart 1 v1 rfl], Ext.refl _, hv1⟩
    · exact ⟨v2, w, by simp [execOp, h1, h2, Instr.index, asIntOf, run_underlying hu.h, run_size hi, hpart 2 v2 rfl], Ext.refl _, hv2⟩
    · exact ⟨v3, w, by simp [execOp, h1, h2, Instr.index, asIntOf, run_underlying hu.h, run_size hi, hpart 3 v3 rfl], Ext.refl _, hv3⟩
theorem rd_take {w : World} {v : Value} {xs : List AV} (h : Rd w 1 v xs) {k : Nat} (hk : k ≤ xs.length) (h0 : 0 < k) : ∃ a len cap, v = .slice a len cap ∧ k ≤ cap ∧ Rd w 1 (sliced a 0 k cap 1) (xs.take k) := by
  obtain ⟨a, len, cap, rfl, hlen, hc, hm, hx⟩ := h
  refine ⟨a, len, cap, rfl, by omega, ?_⟩
  unfold sliced
  refine ⟨_, _, _, rfl, by simp; omega, by omega, by omega, fun i x hi => ?_⟩
  rw [List.getElem?_take] at hi
  split at hi
  · obtain ⟨b, rfl, hs, u, hu, hev⟩ := hx _ _ hi
    rw [if_neg (by omega)]
    refine ⟨b.add (0 * 1), rfl, ?_, u, ?_, hev⟩
    · unfold Addr.add; split <;> simp_all
    · have : (b.add (0 * 1)).block = b.block ∧ (b.add (0 * 1)).off = b.off := by unfold Addr.add; split <;> simp_all
      rw [this.1, this.2]
      exact hu
  · cases hi
theorem opj_slice_h {z : Value} {b : Nat} {X Y : Operand} {xs : List AV} {k : IntKind} {h : Int} [hu : TyU P t (.slice el)] [hi : TyI P el z 1 b]
    (hx : e.ev X = some (AV.sl w0 1 xs)) (hy : e.ev Y = some (.raw (.int k h))) (h0 : 0 < h) (hl : h ≤ xs.length) :
    OpJ P S e ⟨dst, .slice t X none (some Y) none, ty, pos, after, guard⟩ (AV.sl w0 1 (xs.take h.toNat)) :=
  opj_value fun a w _ ho => by
    have h1 := (ho X (by simp [Op.operands]) _ hx).inv_q
    have h2 := (ho Y (by simp [Op.operands]) _ hy).inv_raw
    obtain ⟨c, len, cap, hv, hc, hrd⟩ := rd_take h1 (k := h.toNat) (by omega) (by omega)
    have hel : P.elem t = el := by simp [Program.elem, hu.h]
    have ht : P.underlying t = some (.slice (P.elem t)) := by rw [hel]; exact hu.h
    have hr := run_slice_h (P := P) (w := w) t c len cap ht k h (by omega) (by omega)
    rw [hel, run_size hi] at hr
    refine ⟨_, w, ?_, Ext.refl _, .q hrd⟩
    have hs := run_sliceAt_slice (P := P) w t (.slice c len cap) none (some (.int k h)) none ht
    simp [execOp, h2, hv, hs, hr]
theorem tabC_take {n k : Nat} (f : Nat → CV) (h : k ≤ n) : ((tabC n f).map cA).take k = (tabC k f).map cA := by
  rw [← List.map_take]
  congr 1
  unfold tabC
  rw [← List.map_take, List.take_range, Nat.min_eq_left h]
theorem tabC_drop {n k : Nat} (f : Nat → CV) (h : k ≤ n) : ((tabC n f).map cA).drop k = (tabC (n - k) (fun i => f (i + k))).map cA := by
  rw [← List.map_drop]
  congr 1
  refine List.ext_getElem? fun i => ?_
  rw [List.getElem?_drop]
  rcases Nat.lt_or_ge i (n - k) with h1 | h1
  · rw [tabC_get f (by omega), tabC_get _ h1, Nat.add_comm]
  · rw [List.getElem?_eq_none (by rw [tabC_length]; omega), List.getElem?_eq_none (by rw [tabC_length]; omega)]
end
def thr3 : FV := fv .f32 1077936128
/-- The share of a point. -/
def shr (t : FV) (j : Int) : FV :=
  let r := fbin .sub .f32 one1 t
  sel4 (fbin .mul .f32 (fbin .mul .f32 r r) r) (fbin .mul .f32 (fbin .mul .f32 (fbin .mul .f32 thr3 t) r) r) (fbin .mul .f32 (fbin .mul .f32 (fbin .mul .f32 thr3 t) t) r) (fbin .mul .f32 (fbin .mul .f32 t t) t) j
def powC (p : CV) : FV := fconv .f64 .f32 (powF p.1 p.2)
def PowOk (p : CV) : Prop := ConvOk .f64 .f32 (powF p.1 p.2)
attribute [local irreducible] WS RS Done OpJ Then InBlock Round Ret Env.sub FnH
attribute [local irreducible] tab tabC
theorem powerOf_fn (p : CV) (hp : PowOk p) : Fn Tryz.prog 50 (fun _ => [cA p]) (.f .f32 (powC p)) := by
  have h := power_fn p
  refine fn_intro Tryz.func50 rfl Tryz.ntmps50 (fun _ => Nat.le_of_ble_eq_true rfl) fun w0 => ?_
  repeat first | refine zaa rfl (zay rfl) ?_ | refine zaa rfl (zaz rfl) ?_ | (refine zad ?_; (refine zaa rfl (zci rfl rfl (h) ?_) ?_; (focus ((repeat (first | exact Takes.nil | refine Takes.sl ?_ | refine Takes.lit ?_ | refine Takes.fa ?_ | refine Takes.fc ?_ | refine Takes.net ?_ | (refine Takes.ownE ?_ ?_ ?_ ?_ ?_; (focus (exact ⟨_, _, (by (repeat (first | exact mh | refine mt ?_)); done)⟩)); (focus (simp; done)); (focus omega); (focus (simp only [maxLen]; omega))) | refine Takes.same ?_)); done)))) | refine zah ?_ | (refine zcr ?_; refine zcs ?_) | (refine zdb ?_; first | refine zdc ?_ | refine zdd ?_ | refine zdg ?_) | refine zaa rfl (opj_fconv rfl hp) ?_
  exact done_ret1 rfl () rfl trivial (List.nil_sublist _)
theorem fourShares_fn (t : FV) : Fn Tryz.prog 48 (fun _ => [.f .f32 t]) (arrA (shr t 0) (shr t 1) (shr t 2) (shr t 3)) := by
  have h0 := productOf_fn [fbin .sub .f32 one1 t, fbin .sub .f32 one1 t, fbin .sub .f32 one1 t] (by simp) (by simp)
  have h1 := productOf_fn [thr3, t, fbin .sub .f32 one1 t, fbin .sub .f32 one1 t] (by simp) (by simp)
  have h2 := productOf_fn [thr3, t, t, fbin .sub .f32 one1 t] (by simp) (by simp)
  have h3 := productOf_fn [t, t, t] (by simp) (by simp)
  refine fn_intro Tryz.func48 rfl Tryz.ntmps48 (fun _ => Nat.le_of_ble_eq_true rfl) fun w0 => ?_
  repeat first | refine zaa rfl (zay rfl) ?_ | refine zaa rfl (zaz rfl) ?_ | (refine zac ?_; refine zaa rfl (zba rfl rfl rfl) ?_) | (refine zad ?_; first | (refine zaa rfl (zci rfl rfl (h0) ?_) ?_; (focus ((repeat (first | exact Takes.nil | refine Takes.sl ?_ | refine Takes.lit ?_ | refine Takes.fa ?_ | refine Takes.fc ?_ | refine Takes.net ?_ | (refine Takes.ownE ?_ ?_ ?_ ?_ ?_; (focus (exact ⟨_, _, (by (repeat (first | exact mh | refine mt ?_)); done)⟩)); (focus (simp; done)); (focus omega); (focus (simp only [maxLen]; omega))) | refine Takes.same ?_)); done))) | (refine zaa rfl (zci rfl rfl (h1) ?_) ?_; (focus ((repeat (first | exact Takes.nil | refine Takes.sl ?_ | refine Takes.lit ?_ | refine Takes.fa ?_ | refine Takes.fc ?_ | refine Takes.net ?_ | (refine Takes.ownE ?_ ?_ ?_ ?_ ?_; (focus (exact ⟨_, _, (by (repeat (first | exact mh | refine mt ?_)); done)⟩)); (focus (simp; done)); (focus omega); (focus (simp only [maxLen]; omega))) | refine Takes.same ?_)); done))) | (refine zaa rfl (zci rfl rfl (h2) ?_) ?_; (focus ((repeat (first | exact Takes.nil | refine Takes.sl ?_ | refine Takes.lit ?_ | refine Takes.fa ?_ | refine Takes.fc ?_ | refine Takes.net ?_ | (refine Takes.ownE ?_ ?_ ?_ ?_ ?_; (focus (exact ⟨_, _, (by (repeat (first | exact mh | refine mt ?_)); done)⟩)); (focus (simp; done)); (focus omega); (focus (simp only [maxLen]; omega))) | refine Takes.same ?_)); done))) | (refine zaa rfl (zci rfl rfl (h3) ?_) ?_; (focus ((repeat (first | exact Takes.nil | refine Takes.sl ?_ | refine Takes.lit ?_ | refine Takes.fa ?_ | refine Takes.fc ?_ | refine Takes.net ?_ | (refine Takes.ownE ?_ ?_ ?_ ?_ ?_; (focus (exact ⟨_, _, (by (repeat (first | exact mh | refine mt ?_)); done)⟩)); (focus (simp; done)); (focus omega); (focus (simp only [maxLen]; omega))) | refine Takes.same ?_)); done)))) | refine zah ?_ | (refine zcr ?_; refine zcs ?_) | (refine zdb ?_; first | refine zdc ?_ | refine zdd ?_ | refine zdg ?_) | (refine zal rfl rfl ?_; intro g) | (refine zag ?_; refine zan 0 rfl rfl rfl rfl rfl rfl rfl rfl rfl ?_) | refine zaa rfl (zco rfl rfl rfl rfl rfl rfl) ?_ | refine zaa rfl (opj_build4 rfl rfl rfl rfl) ?_
  exact done_retX rfl rfl () rfl mh rfl rfl rfl trivial (List.nil_sublist _)
/-- The greatest. -/
def maxL (f : Int → FV) : Nat → FV
  | 0 => f 0
  | k + 1 => maxF .f32 (maxL f k) (f ((k : Int) + 1))
theorem maxL_vl {f : Int → FV} {n : Nat} (h : ∀ i : Nat, i < n → ∃ r, Vl .f32 (f i) r) : ∀ k, k < n → ∃ r, Vl .f32 (maxL f k) r
  | 0, hk => h 0 hk
  | k + 1, hk => by
    obtain ⟨r, vr⟩ := maxL_vl h k (by omega)
    obtain ⟨s, vs⟩ := h (k + 1) hk
    obtain ⟨u, vu, _⟩ := vl_max vr vs
    exact ⟨u, vu⟩
theorem max_fn {f : Int → FV} {n : Nat} (hn : 1 ≤ n ∧ n ≤ 1000) (h : ∀ i : Nat, i < n → ∃ r, Vl .f32 (f i) r) : Fn Tryz.prog 23 (fun w => [slF w (tab n f)]) (.f .f32 (maxL f (n - 1))) := by
  have d0 : decide ((n : Int) < 1) = false := decide_eq_false (by omega)
  refine fn_intro Tryz.func23 rfl Tryz.ntmps23 (fun _ => Nat.le_of_ble_eq_true rfl) fun w0 => ?_
  repeat first | refine zaa rfl (zay rfl) ?_ | refine zaa rfl (zaz rfl) ?_ | (refine zac ?_; refine zaa rfl (zbe rfl rfl) ?_) | (refine zad ?_; refine zaa rfl (zbo rfl) ?_) | refine zah ?_ | (refine zcr ?_; refine zcs ?_) | (refine zdb ?_; first | refine zdc ?_ | refine zdd ?_)
  rw [d0]
  repeat first | refine zaa rfl (zay rfl) ?_ | refine zaa rfl (zaz rfl) ?_ | (refine zae ?_; refine zaa rfl (zbu rfl rfl) ?_) | (refine zaf ?_; refine zaa rfl (zbs rfl rfl (by omega) (by omega)) ?_) | refine zah ?_ | (refine zcr ?_; refine zcs ?_) | (refine zdb ?_; first | refine zdc ?_ | refine zdd ?_ | refine zde ?_ | refine zdf ?_ | refine zdj rfl ?_)
  refine ws_loop (ι := Nat) (fun k => [(0, slF w0 (tab n f)), (3, .f .f32 (maxL f k)), (4, .raw (.int .i64 ((k : Int) + 1)))]) (fun _ => St w0 [] []) (fun k => k + 1 ≤ n) (fun k => n - k) 0 (by omega) ?_ (fun _ h => h) (fun k hk => ?_)
  · (repeat (first | exact Env.sub_nil _ | refine Env.sub_cons rfl ?_))
  repeat first | refine zaa rfl (zay rfl) ?_ | (refine zac ?_; refine zaa rfl (zbe rfl rfl) ?_) | (refine zad ?_; refine zaa rfl (zbo rfl) ?_) | refine zah ?_ | (refine zcr ?_; refine zcs ?_) | (refine zdb ?_; first | refine zdc ?_ | refine zdd ?_)
  refine ws_cond rfl (fun hd => ?_) (fun hd => ?_)
  · have hlt : (k : Int) + 1 < n := of_decide_eq_true hd
    have hnext : ((k + 1 : Nat) : Int) = (k : Int) + 1 := by omega
    obtain ⟨r, vr⟩ := maxL_vl h k (by omega)
    obtain ⟨s, vs⟩ := h (k + 1) (by omega)
    rw [hnext] at vs
    repeat first | refine zaa rfl (zay rfl) ?_ | refine zaa rfl (zaz rfl) ?_ | (refine zac ?_; refine zaa rfl (zbb rfl rfl (by omega)) ?_) | (refine zae ?_; refine zaa rfl (zbu rfl rfl) ?_) | (refine zaf ?_; refine zaa rfl (zbs rfl rfl (by omega) (by omega)) ?_) | refine zah ?_ | (refine zcr ?_; first | refine zcs ?_ | refine zcv ?_) | (refine zdb ?_; first | refine zdc ?_ | refine zdd ?_ | refine zde ?_ | refine zdf ?_) | refine zaa rfl (opj_maxV vr vs rfl rfl) ?_
    refine done_round (k + 1) (by omega) (by omega) ?_ (fun _ h => h)
    rw [hnext]
    (repeat (first | exact Env.sub_nil _ | refine Env.sub_cons rfl ?_))
  · have hkn : n - 1 = k := by have := of_decide_eq_false hd; omega
    subst hkn
    repeat first | refine zaa rfl (zay rfl) ?_ | refine zaa rfl (zaz rfl) ?_ | refine zah ?_ | (refine zcr ?_; first | refine zcs ?_ | refine zcu ?_ | refine zcx ?_ | refine zda ?_) | (refine zdb ?_; first | refine zdc ?_ | refine zdd ?_ | refine zdg ?_ | refine zdh ?_)
    exact done_ret1 rfl () rfl trivial (List.nil_sublist _)
end Go.Ab
