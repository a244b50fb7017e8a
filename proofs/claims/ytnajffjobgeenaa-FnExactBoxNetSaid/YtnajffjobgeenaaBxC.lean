/- The net of a box, as the program makes it. No conditions. -/
import Derived.Test.YtnajffjobgeenaaBxB
namespace Go.Ab
open Go.Proofs
variable {R : World → Prop} [RStab R]
section
variable {P : Program} {t el : TypeId} {S : World → Prop} {e : Env} {dst : Option Tmp} {ty : TypeId} {pos : String} {after : Array Edge} {guard : Option (Nat × Bool)}
theorem opj_lit3z [hb : SpotL P t el] {X : Operand} {x y z : FV} (hx : e.ev X = some (.agg [.f .f32 x, .f .f32 y, .f .f32 z])) : OpJ P S e ⟨dst, .buildSlice t 1 #[(0, X)], ty, pos, after, guard⟩ (AV.litN 3 (cell3 (x, y, z))) := opj_lit3 (p := (x, y, z)) hx
end
def bS1 (a b c : FV) (k : Nat) : T3 := (if k % 2 = 1 then a else fv .f32 0, if k / 2 % 2 = 1 then b else fv .f32 0, if k / 4 = 1 then c else fv .f32 0)
def bSp (a b c : FV) (k : Nat) : List T3 := (List.range k).map (bS1 a b c)
@[simp] theorem bSp_length (a b c : FV) (k : Nat) : (bSp a b c k).length = k := by simp [bSp]
theorem bSp_snoc (a b c : FV) (k : Nat) : bSp a b c (k + 1) = bSp a b c k ++ [bS1 a b c k] := by simp [bSp, List.range_succ]
def sEnts (gr gn : Nat) (L : List T3) (k : Nat) : Option (Nat × Nat) → List Ent
  | none => [⟨gn, 47, [nilA, nilA], 2⟩, ⟨gr, 47, [nilA, nilA], 2⟩]
  | some y => [⟨gn, 47, [.raw (.slice (some ⟨y.1, 0, none⟩) k y.2), nilA], 2⟩, ⟨gr, 47, [nilA, nilA], 2⟩, entT y.1 65 L y.2]
def okS (k : Nat) : Option (Nat × Nat) → Prop
  | none => k = 0
  | some y => 1 ≤ k ∧ k ≤ y.2 ∧ y.2 ≤ maxLen
theorem perm_three' {α : Type} {a b c : α} : [b, c, a].Perm [a, b, c] := List.perm_append_comm (l₁ := [b, c]) (l₂ := [a])
theorem perm_boxA {α : Type} {a b c d e : α} : (d :: e :: c :: a :: ([] ++ [b])).Perm [a, b, d, e, c] := List.perm_append_comm (l₁ := [d, e, c]) (l₂ := [a, b])
theorem perm_boxB {α : Type} {a b c d x : α} {L : List α} : (a :: b :: c :: d :: (L ++ [x])).Perm (x :: a :: b :: c :: d :: L) := List.perm_append_singleton x (a :: b :: c :: d :: L)
/-- What lies there while facets are appended. -/
def fEnts (gr gn x xc : Nat) (L : List T3) (n : Nat) (F : List (List Int)) (k : Nat) : Option ((Nat × Nat) × (Nat → Nat × Nat)) → List Ent
  | none => [⟨gn, 47, [.raw (.slice (some ⟨x, 0, none⟩) n xc), nilA], 2⟩, ⟨gr, 47, [nilA, nilA], 2⟩, entT x 65 L xc]
  | some y => ⟨gn, 47, [.raw (.slice (some ⟨x, 0, none⟩) n xc), .raw (.slice (some ⟨y.1.1, 0, none⟩) k y.1.2)], 2⟩ :: ⟨gr, 47, [nilA, nilA], 2⟩ :: entT x 65 L xc :: entG y.1.1 k (facW F y.2) y.1.2 :: cornsW F y.2 k
def okF (k : Nat) : Option ((Nat × Nat) × (Nat → Nat × Nat)) → Prop
  | none => k = 0
  | some y => 1 ≤ k ∧ (k ≤ y.1.2 ∧ y.1.2 ≤ maxLen) ∧ ∀ i, i < k → 4 ≤ (y.2 i).2 ∧ (y.2 i).2 ≤ maxLen
attribute [local irreducible] WS RS Done OpJ Then InBlock Round Ret Env.sub FnH
attribute [local irreducible] tab tabA corners cellsT ramp cornsW facW bSp

set_option maxHeartbeats 16000000 in
theorem implBox_fn (a b c : FV) (hfin : [a, b, c].all finB = false → validB 8 (sOf (bSp a b c 8)) boxC = false) : FnH (X := NB) Try.prog 61 (fun _ => [.f .f32 a, .f .f32 b, .f .f32 c]) [] (fun y => giveN y 8 boxC (validB 8 (sOf (bSp a b c 8)) boxC))
    (fun y => netE y 8 (sOf (bSp a b c 8)) boxC) (fun y => OkN y 8 boxC) := by
  have hsn := bSp_snoc a b c
  have hsl := bSp_length a b c
  refine fn_intro Try.func61 rfl Try.ntmps61 (fun _ => Nat.le_of_ble_eq_true rfl) fun w0 => ?_
  repeat first | refine zaa rfl (zay rfl) ?_ | refine zaa rfl (zaz rfl) ?_ | (refine zac ?_; first | refine zaa rfl (zba rfl rfl rfl) ?_ | refine zaa rfl (zbb rfl rfl (by omega)) ?_ | refine zaa rfl (zbc rfl rfl (by omega)) ?_ | refine zaa rfl (zbd rfl rfl rfl) ?_ | refine zaa rfl (zbe rfl rfl) ?_ | refine zaa rfl (zbf rfl rfl) ?_ | refine zaa rfl (zbg rfl rfl) ?_ | refine zaa rfl (zbh rfl rfl) ?_ | refine zaa rfl (zbi rfl rfl) ?_ | refine zaa rfl (zbj rfl rfl) ?_ | refine zaa rfl (zbk rfl rfl) ?_ | refine zaa rfl (zbl rfl rfl) ?_) | (refine zad ?_; first | refine zaa rfl (zbm rfl) ?_ | refine zaa rfl (zbn rfl) ?_ | refine zaa rfl (zbp rfl) ?_ | refine zaa rfl (zbq rfl) ?_ | refine zaa rfl (zbr rfl rfl) ?_) | (refine zae ?_; first | refine zaa rfl (zcf rfl rfl (by (repeat (first | exact mh | refine mt ?_)); done) rfl) ?_ | refine zaa rfl (zcg rfl rfl (by (repeat (first | exact mh | refine mt ?_)); done) rfl rfl) ?_ | refine zaa rfl (zch rfl rfl rfl rfl) ?_ | refine zaa rfl (zbu rfl rfl) ?_) | (refine zaf ?_; first | refine zaa rfl (zbv rfl rfl (by omega) (by omega)) ?_ | refine zaa rfl (zbw rfl rfl (by omega) (by omega)) ?_) | refine zaa rfl (zcd rfl) ?_ | refine zaa rfl (zce rfl) ?_ | refine zaa rfl (zbx rfl) ?_ | refine zaa rfl (zby rfl) ?_ | refine zaa rfl (zbz rfl rfl) ?_ | refine zaa rfl (zca rfl rfl) ?_ | refine zaa rfl (zcb rfl rfl) ?_ | refine zaa rfl (zcc rfl) ?_ | refine zah ?_ | (refine zcr ?_; first | refine zcs ?_ | refine zct ?_ | refine zcu ?_ | refine zcv ?_ | refine zcw ?_ | refine zcx ?_ | refine zcy rfl ?_ | refine zcz ?_ | refine zda ?_) | (refine zdb ?_; first | refine zdc ?_ | refine zdd ?_ | refine zde ?_ | refine zdf ?_ | refine zdg ?_ | refine zdh ?_ | refine zdi rfl ?_ | refine zdj rfl ?_) | refine zai rfl rfl ?_ | refine zaj rfl rfl rfl rfl ?_ | (refine zak rfl rfl rfl ?_; intro g) | (refine zal rfl rfl ?_; intro g) | (refine zag ?_; first | refine zam 0 rfl rfl rfl rfl rfl rfl ?_ | refine zam 1 rfl rfl rfl rfl rfl rfl ?_ | refine zam 2 rfl rfl rfl rfl rfl rfl ?_ | refine zam 3 rfl rfl rfl rfl rfl rfl ?_ | refine zam 4 rfl rfl rfl rfl rfl rfl ?_ | refine zam 5 rfl rfl rfl rfl rfl rfl ?_ | refine zan 0 rfl rfl rfl rfl rfl rfl rfl rfl rfl ?_ | refine zan 1 rfl rfl rfl rfl rfl rfl rfl rfl rfl ?_ | refine zan 2 rfl rfl rfl rfl rfl rfl rfl rfl rfl ?_ | refine zan 3 rfl rfl rfl rfl rfl rfl rfl rfl rfl ?_ | refine zan 4 rfl rfl rfl rfl rfl rfl rfl rfl rfl ?_ | refine zan 5 rfl rfl rfl rfl rfl rfl rfl rfl rfl ?_ | refine zao 0 rfl rfl rfl rfl rfl rfl ?_ | refine zao 1 rfl rfl rfl rfl rfl rfl ?_ | refine zao 2 rfl rfl rfl rfl rfl rfl ?_ | refine zao 3 rfl rfl rfl rfl rfl rfl ?_) | refine zaa rfl opj_buildN ?_
  rename_i g6
  refine ws_loop (ι := Nat × Option (Nat × Nat)) (fun y => [(0, .f .f32 a), (1, .f .f32 b), (2, .f .f32 c), (6, .raw (.pointer (some ⟨g6, 0, none⟩))), (8, .raw (.pointer (some ⟨g, 0, none⟩))), (14, .raw (.int .i64 y.1))])
    (fun y => St w0 [] (sEnts g6 g (bSp a b c y.1) y.1 y.2)) (fun y => y.1 ≤ 8 ∧ okS y.1 y.2) (fun y => 8 - y.1) (0, none) ⟨Nat.zero_le _, rfl⟩ ?_ (fun _ h => h) (fun y hy => ?_)
  · (repeat (first | exact Env.sub_nil _ | refine Env.sub_cons rfl ?_))
  obtain ⟨k, o⟩ := y
  simp only at hy ⊢
  obtain ⟨hk, hok⟩ := hy
  repeat first | refine zaa rfl (zay rfl) ?_ | refine zaa rfl (zaz rfl) ?_ | (refine zac ?_; first | refine zaa rfl (zba rfl rfl rfl) ?_ | refine zaa rfl (zbb rfl rfl (by omega)) ?_ | refine zaa rfl (zbc rfl rfl (by omega)) ?_ | refine zaa rfl (zbd rfl rfl rfl) ?_ | refine zaa rfl (zbe rfl rfl) ?_ | refine zaa rfl (zbf rfl rfl) ?_ | refine zaa rfl (zbg rfl rfl) ?_ | refine zaa rfl (zbh rfl rfl) ?_ | refine zaa rfl (zbi rfl rfl) ?_ | refine zaa rfl (zbj rfl rfl) ?_ | refine zaa rfl (zbk rfl rfl) ?_ | refine zaa rfl (zbl rfl rfl) ?_) | (refine zad ?_; first | refine zaa rfl (zbm rfl) ?_ | refine zaa rfl (zbn rfl) ?_ | refine zaa rfl (zbp rfl) ?_ | refine zaa rfl (zbq rfl) ?_ | refine zaa rfl (zbr rfl rfl) ?_) | (refine zae ?_; first | refine zaa rfl (zcf rfl rfl (by (repeat (first | exact mh | refine mt ?_)); done) rfl) ?_ | refine zaa rfl (zcg rfl rfl (by (repeat (first | exact mh | refine mt ?_)); done) rfl rfl) ?_ | refine zaa rfl (zch rfl rfl rfl rfl) ?_ | refine zaa rfl (zbu rfl rfl) ?_) | (refine zaf ?_; first | refine zaa rfl (zbv rfl rfl (by omega) (by omega)) ?_ | refine zaa rfl (zbw rfl rfl (by omega) (by omega)) ?_) | refine zaa rfl (zcd rfl) ?_ | refine zaa rfl (zce rfl) ?_ | refine zaa rfl (zbx rfl) ?_ | refine zaa rfl (zby rfl) ?_ | refine zaa rfl (zbz rfl rfl) ?_ | refine zaa rfl (zca rfl rfl) ?_ | refine zaa rfl (zcb rfl rfl) ?_ | refine zaa rfl (zcc rfl) ?_ | refine zah ?_ | (refine zcr ?_; first | refine zcs ?_ | refine zct ?_ | refine zcu ?_ | refine zcv ?_ | refine zcw ?_ | refine zcx ?_ | refine zcy rfl ?_ | refine zcz ?_ | refine zda ?_) | (refine zdb ?_; first | refine zdc ?_ | refine zdd ?_ | refine zde ?_ | refine zdf ?_ | refine zdg ?_ | refine zdh ?_ | refine zdi rfl ?_ | refine zdj rfl ?_) | refine zai rfl rfl ?_ | refine zaj rfl rfl rfl rfl ?_ | (refine zak rfl rfl rfl ?_; intro g) | (refine zal rfl rfl ?_; intro g) | (refine zag ?_; first | refine zam 0 rfl rfl rfl rfl rfl rfl ?_ | refine zam 1 rfl rfl rfl rfl rfl rfl ?_ | refine zam 2 rfl rfl rfl rfl rfl rfl ?_ | refine zam 3 rfl rfl rfl rfl rfl rfl ?_ | refine zam 4 rfl rfl rfl rfl rfl rfl ?_ | refine zam 5 rfl rfl rfl rfl rfl rfl ?_ | refine zan 0 rfl rfl rfl rfl rfl rfl rfl rfl rfl ?_ | refine zan 1 rfl rfl rfl rfl rfl rfl rfl rfl rfl ?_ | refine zan 2 rfl rfl rfl rfl rfl rfl rfl rfl rfl ?_ | refine zan 3 rfl rfl rfl rfl rfl rfl rfl rfl rfl ?_ | refine zan 4 rfl rfl rfl rfl rfl rfl rfl rfl rfl ?_ | refine zan 5 rfl rfl rfl rfl rfl rfl rfl rfl rfl ?_ | refine zao 0 rfl rfl rfl rfl rfl rfl ?_ | refine zao 1 rfl rfl rfl rfl rfl rfl ?_ | refine zao 2 rfl rfl rfl rfl rfl rfl ?_ | refine zao 3 rfl rfl rfl rfl rfl rfl ?_)
  refine ws_cond rfl (fun hc => ?_) (fun hc => ?_)
  · have hlt : (k : Int) < 8 := of_decide_eq_true hc
    clear hc
    cases o with
    | none =>
      simp only [okS] at hok
      subst hok
      simp only [sEnts]
      repeat first | refine zaa rfl (zay rfl) ?_ | refine zaa rfl (zaz rfl) ?_ | (refine zac ?_; first | refine zaa rfl (zba rfl rfl rfl) ?_ | refine zaa rfl (zbb rfl rfl (by omega)) ?_ | refine zaa rfl (zbc rfl rfl (by omega)) ?_ | refine zaa rfl (zbd rfl rfl rfl) ?_ | refine zaa rfl (zbe rfl rfl) ?_ | refine zaa rfl (zbf rfl rfl) ?_ | refine zaa rfl (zbg rfl rfl) ?_ | refine zaa rfl (zbh rfl rfl) ?_ | refine zaa rfl (zbi rfl rfl) ?_ | refine zaa rfl (zbj rfl rfl) ?_ | refine zaa rfl (zbk rfl rfl) ?_ | refine zaa rfl (zbl rfl rfl) ?_ | (refine zaa rfl (opj_and (v := 0) rfl rfl ?_) ?_; (focus (decide +kernel))) | (refine zaa rfl (opj_and (v := 1) rfl rfl ?_) ?_; (focus (decide +kernel))) | (refine zaa rfl (opj_shr (v := 0) rfl rfl rfl ?_) ?_; (focus (decide +kernel)))) | (refine zad ?_; first | refine zaa rfl (zbm rfl) ?_ | refine zaa rfl (zbn rfl) ?_ | refine zaa rfl (zbp rfl) ?_ | refine zaa rfl (zbq rfl) ?_ | refine zaa rfl (zbr rfl rfl) ?_) | (refine zae ?_; first | refine zaa rfl (zcf rfl rfl (by (repeat (first | exact mh | refine mt ?_)); done) rfl) ?_ | refine zaa rfl (zcg rfl rfl (by (repeat (first | exact mh | refine mt ?_)); done) rfl rfl) ?_ | refine zaa rfl (zch rfl rfl rfl rfl) ?_ | refine zaa rfl (zbu rfl rfl) ?_) | (refine zaf ?_; first | refine zaa rfl (zbv rfl rfl (by omega) (by omega)) ?_ | refine zaa rfl (zbw rfl rfl (by omega) (by omega)) ?_) | refine zaa rfl (zcd rfl) ?_ | refine zaa rfl (zce rfl) ?_ | refine zaa rfl (zbx rfl) ?_ | refine zaa rfl (zby rfl) ?_ | refine zaa rfl (zbz rfl rfl) ?_ | refine zaa rfl (zca rfl rfl) ?_ | refine zaa rfl (zcb rfl rfl) ?_ | refine zaa rfl (zcc rfl) ?_ | refine zah ?_ | (refine zcr ?_; first | refine zcs ?_ | refine zct ?_ | refine zcu ?_ | refine zcv ?_ | refine zcw ?_ | refine zcx ?_ | refine zcy rfl ?_ | refine zcz ?_ | refine zda ?_) | (refine zdb ?_; first | refine zdc ?_ | refine zdd ?_ | refine zde ?_ | refine zdf ?_ | refine zdg ?_ | refine zdh ?_ | refine zdi rfl ?_ | refine zdj rfl ?_) | refine zai rfl rfl ?_ | refine zaj rfl rfl rfl rfl ?_ | (refine zak rfl rfl rfl ?_; intro g) | (refine zal rfl rfl ?_; intro g) | (refine zag ?_; first | refine zam 0 rfl rfl rfl rfl rfl rfl ?_ | refine zam 1 rfl rfl rfl rfl rfl rfl ?_ | refine zam 2 rfl rfl rfl rfl rfl rfl ?_ | refine zam 3 rfl rfl rfl rfl rfl rfl ?_ | refine zam 4 rfl rfl rfl rfl rfl rfl ?_ | refine zam 5 rfl rfl rfl rfl rfl rfl ?_ | refine zan 0 rfl rfl rfl rfl rfl rfl rfl rfl rfl ?_ | refine zan 1 rfl rfl rfl rfl rfl rfl rfl rfl rfl ?_ | refine zan 2 rfl rfl rfl rfl rfl rfl rfl rfl rfl ?_ | refine zan 3 rfl rfl rfl rfl rfl rfl rfl rfl rfl ?_ | refine zan 4 rfl rfl rfl rfl rfl rfl rfl rfl rfl ?_ | refine zan 5 rfl rfl rfl rfl rfl rfl rfl rfl rfl ?_ | refine zao 0 rfl rfl rfl rfl rfl rfl ?_ | refine zao 1 rfl rfl rfl rfl rfl rfl ?_ | refine zao 2 rfl rfl rfl rfl rfl rfl ?_ | refine zao 3 rfl rfl rfl rfl rfl rfl ?_) | refine zaa rfl opj_build0 ?_ | refine zaa rfl (opj_lit3z rfl) ?_
      refine rs_appendNil (sz := 3) (m := 1) (ys := cell3 (bS1 a b c 0)) rfl (by decide) rfl ⟨_, rfl, fun w v _ h => h.inv_p.2⟩ rfl (Nat.le_refl _) rfl (by decide) (by decide) rfl fun a1 c1 h1 h1' => ?_
      repeat first | refine zaa rfl (zay rfl) ?_ | refine zaa rfl (zaz rfl) ?_ | (refine zac ?_; first | refine zaa rfl (zba rfl rfl rfl) ?_ | refine zaa rfl (zbb rfl rfl (by omega)) ?_ | refine zaa rfl (zbc rfl rfl (by omega)) ?_ | refine zaa rfl (zbd rfl rfl rfl) ?_ | refine zaa rfl (zbe rfl rfl) ?_ | refine zaa rfl (zbf rfl rfl) ?_ | refine zaa rfl (zbg rfl rfl) ?_ | refine zaa rfl (zbh rfl rfl) ?_ | refine zaa rfl (zbi rfl rfl) ?_ | refine zaa rfl (zbj rfl rfl) ?_ | refine zaa rfl (zbk rfl rfl) ?_ | refine zaa rfl (zbl rfl rfl) ?_) | (refine zad ?_; first | refine zaa rfl (zbm rfl) ?_ | refine zaa rfl (zbn rfl) ?_ | refine zaa rfl (zbp rfl) ?_ | refine zaa rfl (zbq rfl) ?_ | refine zaa rfl (zbr rfl rfl) ?_) | (refine zae ?_; first | refine zaa rfl (zcf rfl rfl (by (repeat (first | exact mh | refine mt ?_)); done) rfl) ?_ | refine zaa rfl (zcg rfl rfl (by (repeat (first | exact mh | refine mt ?_)); done) rfl rfl) ?_ | refine zaa rfl (zch rfl rfl rfl rfl) ?_ | refine zaa rfl (zbu rfl rfl) ?_) | (refine zaf ?_; first | refine zaa rfl (zbv rfl rfl (by omega) (by omega)) ?_ | refine zaa rfl (zbw rfl rfl (by omega) (by omega)) ?_) | refine zaa rfl (zcd rfl) ?_ | refine zaa rfl (zce rfl) ?_ | refine zaa rfl (zbx rfl) ?_ | refine zaa rfl (zby rfl) ?_ | refine zaa rfl (zbz rfl rfl) ?_ | refine zaa rfl (zca rfl rfl) ?_ | refine zaa rfl (zcb rfl rfl) ?_ | refine zaa rfl (zcc rfl) ?_ | refine zah ?_ | (refine zcr ?_; first | refine zcs ?_ | refine zct ?_ | refine zcu ?_ | refine zcv ?_ | refine zcw ?_ | refine zcx ?_ | refine zcy rfl ?_ | refine zcz ?_ | refine zda ?_) | (refine zdb ?_; first | refine zdc ?_ | refine zdd ?_ | refine zde ?_ | refine zdf ?_ | refine zdg ?_ | refine zdh ?_ | refine zdi rfl ?_ | refine zdj rfl ?_) | refine zai rfl rfl ?_ | refine zaj rfl rfl rfl rfl ?_ | (refine zak rfl rfl rfl ?_; intro g) | (refine zal rfl rfl ?_; intro g) | (refine zag ?_; first | refine zam 0 rfl rfl rfl rfl rfl rfl ?_ | refine zam 1 rfl rfl rfl rfl rfl rfl ?_ | refine zam 2 rfl rfl rfl rfl rfl rfl ?_ | refine zam 3 rfl rfl rfl rfl rfl rfl ?_ | refine zam 4 rfl rfl rfl rfl rfl rfl ?_ | refine zam 5 rfl rfl rfl rfl rfl rfl ?_ | refine zan 0 rfl rfl rfl rfl rfl rfl rfl rfl rfl ?_ | refine zan 1 rfl rfl rfl rfl rfl rfl rfl rfl rfl ?_ | refine zan 2 rfl rfl rfl rfl rfl rfl rfl rfl rfl ?_ | refine zan 3 rfl rfl rfl rfl rfl rfl rfl rfl rfl ?_ | refine zan 4 rfl rfl rfl rfl rfl rfl rfl rfl rfl ?_ | refine zan 5 rfl rfl rfl rfl rfl rfl rfl rfl rfl ?_ | refine zao 0 rfl rfl rfl rfl rfl rfl ?_ | refine zao 1 rfl rfl rfl rfl rfl rfl ?_ | refine zao 2 rfl rfl rfl rfl rfl rfl ?_ | refine zao 3 rfl rfl rfl rfl rfl rfl ?_)
      refine done_round (0 + 1, some (a1, c1)) ⟨by simp only; omega, by simp only; omega, h1, h1'⟩ (by simp only; omega) ?_ (fun _ h => ?_)
      · (repeat (first | exact Env.sub_nil _ | refine Env.sub_cons rfl ?_))
      · have e0 : bSp a b c 0 = [] := List.eq_nil_of_length_eq_zero (hsl 0)
        simp only [sEnts, entT]
        rw [hsn, e0, cellsT_snoc, cellsT_nil, List.nil_append]
        exact (h.weak (List.Sublist.cons_cons _ (List.Sublist.cons _ (List.Sublist.refl _)))).perm perm_three'
    | some y =>
      obtain ⟨x, xc⟩ := y
      obtain ⟨hk1, hx, hx'⟩ := hok
      simp only at hx hx'
      simp only [sEnts]
      have hk7 : k = 1 ∨ k = 2 ∨ k = 3 ∨ k = 4 ∨ k = 5 ∨ k = 6 ∨ k = 7 := by omega
      rcases hk7 with rfl | rfl | rfl | rfl | rfl | rfl | rfl
      all_goals
        repeat first | refine zaa rfl (zay rfl) ?_ | refine zaa rfl (zaz rfl) ?_ | (refine zac ?_; first | refine zaa rfl (zba rfl rfl rfl) ?_ | refine zaa rfl (zbb rfl rfl (by omega)) ?_ | refine zaa rfl (zbc rfl rfl (by omega)) ?_ | refine zaa rfl (zbd rfl rfl rfl) ?_ | refine zaa rfl (zbe rfl rfl) ?_ | refine zaa rfl (zbf rfl rfl) ?_ | refine zaa rfl (zbg rfl rfl) ?_ | refine zaa rfl (zbh rfl rfl) ?_ | refine zaa rfl (zbi rfl rfl) ?_ | refine zaa rfl (zbj rfl rfl) ?_ | refine zaa rfl (zbk rfl rfl) ?_ | refine zaa rfl (zbl rfl rfl) ?_ | (refine zaa rfl (opj_and (v := 0) rfl rfl ?_) ?_; (focus (decide +kernel))) | (refine zaa rfl (opj_and (v := 1) rfl rfl ?_) ?_; (focus (decide +kernel))) | (refine zaa rfl (opj_shr (v := 0) rfl rfl rfl ?_) ?_; (focus (decide +kernel))) | (refine zaa rfl (opj_shr (v := 1) rfl rfl rfl ?_) ?_; (focus (decide +kernel))) | (refine zaa rfl (opj_shr (v := 2) rfl rfl rfl ?_) ?_; (focus (decide +kernel))) | (refine zaa rfl (opj_shr (v := 3) rfl rfl rfl ?_) ?_; (focus (decide +kernel)))) | (refine zad ?_; first | refine zaa rfl (zbm rfl) ?_ | refine zaa rfl (zbn rfl) ?_ | refine zaa rfl (zbp rfl) ?_ | refine zaa rfl (zbq rfl) ?_ | refine zaa rfl (zbr rfl rfl) ?_) | (refine zae ?_; first | refine zaa rfl (zcf rfl rfl (by (repeat (first | exact mh | refine mt ?_)); done) rfl) ?_ | refine zaa rfl (zcg rfl rfl (by (repeat (first | exact mh | refine mt ?_)); done) rfl rfl) ?_ | refine zaa rfl (zch rfl rfl rfl rfl) ?_ | refine zaa rfl (zbu rfl rfl) ?_) | (refine zaf ?_; first | refine zaa rfl (zbv rfl rfl (by omega) (by omega)) ?_ | refine zaa rfl (zbw rfl rfl (by omega) (by omega)) ?_) | refine zaa rfl (zcd rfl) ?_ | refine zaa rfl (zce rfl) ?_ | refine zaa rfl (zbx rfl) ?_ | refine zaa rfl (zby rfl) ?_ | refine zaa rfl (zbz rfl rfl) ?_ | refine zaa rfl (zca rfl rfl) ?_ | refine zaa rfl (zcb rfl rfl) ?_ | refine zaa rfl (zcc rfl) ?_ | refine zah ?_ | (refine zcr ?_; first | refine zcs ?_ | refine zct ?_ | refine zcu ?_ | refine zcv ?_ | refine zcw ?_ | refine zcx ?_ | refine zcy rfl ?_ | refine zcz ?_ | refine zda ?_) | (refine zdb ?_; first | refine zdc ?_ | refine zdd ?_ | refine zde ?_ | refine zdf ?_ | refine zdg ?_ | refine zdh ?_ | refine zdi rfl ?_ | refine zdj rfl ?_) | refine zai rfl rfl ?_ | refine zaj rfl rfl rfl rfl ?_ | (refine zak rfl rfl rfl ?_; intro g) | (refine zal rfl rfl ?_; intro g) | (refine zag ?_; first | refine zam 0 rfl rfl rfl rfl rfl rfl ?_ | refine zam 1 rfl rfl rfl rfl rfl rfl ?_ | refine zam 2 rfl rfl rfl rfl rfl rfl ?_ | refine zam 3 rfl rfl rfl rfl rfl rfl ?_ | refine zam 4 rfl rfl rfl rfl rfl rfl ?_ | refine zam 5 rfl rfl rfl rfl rfl rfl ?_ | refine zan 0 rfl rfl rfl rfl rfl rfl rfl rfl rfl ?_ | refine zan 1 rfl rfl rfl rfl rfl rfl rfl rfl rfl ?_ | refine zan 2 rfl rfl rfl rfl rfl rfl rfl rfl rfl ?_ | refine zan 3 rfl rfl rfl rfl rfl rfl rfl rfl rfl ?_ | refine zan 4 rfl rfl rfl rfl rfl rfl rfl rfl rfl ?_ | refine zan 5 rfl rfl rfl rfl rfl rfl rfl rfl rfl ?_ | refine zao 0 rfl rfl rfl rfl rfl rfl ?_ | refine zao 1 rfl rfl rfl rfl rfl rfl ?_ | refine zao 2 rfl rfl rfl rfl rfl rfl ?_ | refine zao 3 rfl rfl rfl rfl rfl rfl ?_) | refine zaa rfl opj_build0 ?_ | refine zaa rfl (opj_lit3z rfl) ?_ | (refine rs_appendS 3 rfl rfl rfl rfl ⟨hsl _, hx, hx'⟩ (by decide) rfl rfl ?_; intro a1 c1 h1 h1')
        refine done_round (_, some (a1, c1)) ⟨by simp only; omega, by simp only; omega, h1, h1'⟩ (by simp only; omega) ?_ (fun _ h => ?_)
        · (repeat (first | exact Env.sub_nil _ | refine Env.sub_cons rfl ?_))
        · simp only [sEnts, entT]
          rw [hsn]
          exact h.weak (List.Sublist.cons _ (List.Sublist.refl _))
  · have hge : ¬ (k : Int) < 8 := of_decide_eq_false hc
    obtain rfl : k = 8 := by omega
    clear hc hge hk
    cases o with
    | none => simp only [okS] at hok; omega
    | some y =>
    obtain ⟨x, xc⟩ := y
    obtain ⟨-, hx, hx'⟩ := hok
    simp only at hx hx'
    simp only [sEnts]
    have hF6 : boxC.length = 6 := rfl
    have hrow := fun k (h : k < 6) => bq_row h
    have h4F : ∀ i, i < boxC.length → (boxC.getD i []).length = 4 := fun i h => by rw [hrow i h]; rfl
    have hLF : ∀ L ∈ boxC, L.length < 2 ^ 60 := by decide
    have hV := fun y hy => ifNet_fn y 8 (sOf (bSp a b c 8)) boxC hy (by decide) (by decide) hLF
    have hAF := areFinite_fn [a, b, c] (by simp)
    generalize validB 8 (sOf (bSp a b c 8)) boxC = vb at *
    have he8 : ∀ x xc, entT x 65 (bSp a b c 8) xc = entF x 65 (3 * 8) (sOf (bSp a b c 8)) (xc * 3) := fun x xc => by rw [entT_B, hsl]
    clear hsn
    generalize bSp a b c 8 = L at *
    generalize boxC = F at *
    repeat first | refine zaa rfl (zay rfl) ?_ | refine zaa rfl (zaz rfl) ?_ | (refine zac ?_; first | refine zaa rfl (zba rfl rfl rfl) ?_ | refine zaa rfl (zbb rfl rfl (by omega)) ?_ | refine zaa rfl (zbc rfl rfl (by omega)) ?_ | refine zaa rfl (zbd rfl rfl rfl) ?_ | refine zaa rfl (zbe rfl rfl) ?_ | refine zaa rfl (zbf rfl rfl) ?_ | refine zaa rfl (zbg rfl rfl) ?_ | refine zaa rfl (zbh rfl rfl) ?_ | refine zaa rfl (zbi rfl rfl) ?_ | refine zaa rfl (zbj rfl rfl) ?_ | refine zaa rfl (zbk rfl rfl) ?_ | refine zaa rfl (zbl rfl rfl) ?_) | (refine zad ?_; first | refine zaa rfl (zbm rfl) ?_ | refine zaa rfl (zbn rfl) ?_ | refine zaa rfl (zbp rfl) ?_ | refine zaa rfl (zbq rfl) ?_ | refine zaa rfl (zbr rfl rfl) ?_) | (refine zae ?_; first | refine zaa rfl (zcf rfl rfl (by (repeat (first | exact mh | refine mt ?_)); done) rfl) ?_ | refine zaa rfl (zcg rfl rfl (by (repeat (first | exact mh | refine mt ?_)); done) rfl rfl) ?_ | refine zaa rfl (zch rfl rfl rfl rfl) ?_ | refine zaa rfl (zbu rfl rfl) ?_) | (refine zaf ?_; first | refine zaa rfl (zbv rfl rfl (by omega) (by omega)) ?_ | refine zaa rfl (zbw rfl rfl (by omega) (by omega)) ?_) | refine zaa rfl (zcd rfl) ?_ | refine zaa rfl (zce rfl) ?_ | refine zaa rfl (zbx rfl) ?_ | refine zaa rfl (zby rfl) ?_ | refine zaa rfl (zbz rfl rfl) ?_ | refine zaa rfl (zca rfl rfl) ?_ | refine zaa rfl (zcb rfl rfl) ?_ | refine zaa rfl (zcc rfl) ?_ | refine zah ?_ | (refine zcr ?_; first | refine zcs ?_ | refine zct ?_ | refine zcu ?_ | refine zcv ?_ | refine zcw ?_ | refine zcx ?_ | refine zcy rfl ?_ | refine zcz ?_ | refine zda ?_) | (refine zdb ?_; first | refine zdc ?_ | refine zdd ?_ | refine zde ?_ | refine zdf ?_ | refine zdg ?_ | refine zdh ?_ | refine zdi rfl ?_ | refine zdj rfl ?_) | refine zai rfl rfl ?_ | refine zaj rfl rfl rfl rfl ?_ | (refine zak rfl rfl rfl ?_; intro g) | (refine zal rfl rfl ?_; intro g) | (refine zag ?_; first | refine zam 0 rfl rfl rfl rfl rfl rfl ?_ | refine zam 1 rfl rfl rfl rfl rfl rfl ?_ | refine zam 2 rfl rfl rfl rfl rfl rfl ?_ | refine zam 3 rfl rfl rfl rfl rfl rfl ?_ | refine zam 4 rfl rfl rfl rfl rfl rfl ?_ | refine zam 5 rfl rfl rfl rfl rfl rfl ?_ | refine zan 0 rfl rfl rfl rfl rfl rfl rfl rfl rfl ?_ | refine zan 1 rfl rfl rfl rfl rfl rfl rfl rfl rfl ?_ | refine zan 2 rfl rfl rfl rfl rfl rfl rfl rfl rfl ?_ | refine zan 3 rfl rfl rfl rfl rfl rfl rfl rfl rfl ?_ | refine zan 4 rfl rfl rfl rfl rfl rfl rfl rfl rfl ?_ | refine zan 5 rfl rfl rfl rfl rfl rfl rfl rfl rfl ?_ | refine zao 0 rfl rfl rfl rfl rfl rfl ?_ | refine zao 1 rfl rfl rfl rfl rfl rfl ?_ | refine zao 2 rfl rfl rfl rfl rfl rfl ?_ | refine zao 3 rfl rfl rfl rfl rfl rfl ?_) | refine zaa rfl (opj_buildQ rfl rfl rfl rfl) ?_ | refine zaa rfl (opj_buildB rfl rfl rfl rfl rfl rfl) ?_
    refine ws_loop (ι := Nat × Option ((Nat × Nat) × (Nat → Nat × Nat))) (fun y => [(0, .f .f32 a), (1, .f .f32 b), (2, .f .f32 c), (6, .raw (.pointer (some ⟨g6, 0, none⟩))), (8, .raw (.pointer (some ⟨g, 0, none⟩))), (48, .agg (boxL.map intA)), (49, .raw (.int .i64 y.1))])
      (fun y => St w0 [] (fEnts g6 g x xc L 8 F y.1 y.2)) (fun y => y.1 ≤ 6 ∧ okF y.1 y.2) (fun y => 6 - y.1) (0, none) ⟨Nat.zero_le _, rfl⟩ ?_ (fun _ h => h) (fun y hy => ?_)
    · (repeat (first | exact Env.sub_nil _ | refine Env.sub_cons rfl ?_))
    obtain ⟨k, o⟩ := y
    simp only at hy ⊢
    obtain ⟨hk, hok⟩ := hy
    repeat first | refine zaa rfl (zay rfl) ?_ | refine zaa rfl (zaz rfl) ?_ | (refine zac ?_; first | refine zaa rfl (zba rfl rfl rfl) ?_ | refine zaa rfl (zbb rfl rfl (by omega)) ?_ | refine zaa rfl (zbc rfl rfl (by omega)) ?_ | refine zaa rfl (zbd rfl rfl rfl) ?_ | refine zaa rfl (zbe rfl rfl) ?_ | refine zaa rfl (zbf rfl rfl) ?_ | refine zaa rfl (zbg rfl rfl) ?_ | refine zaa rfl (zbh rfl rfl) ?_ | refine zaa rfl (zbi rfl rfl) ?_ | refine zaa rfl (zbj rfl rfl) ?_ | refine zaa rfl (zbk rfl rfl) ?_ | refine zaa rfl (zbl rfl rfl) ?_) | (refine zad ?_; first | refine zaa rfl (zbm rfl) ?_ | refine zaa rfl (zbn rfl) ?_ | refine zaa rfl (zbp rfl) ?_ | refine zaa rfl (zbq rfl) ?_ | refine zaa rfl (zbr rfl rfl) ?_) | (refine zae ?_; first | refine zaa rfl (zcf rfl rfl (by (repeat (first | exact mh | refine mt ?_)); done) rfl) ?_ | refine zaa rfl (zcg rfl rfl (by (repeat (first | exact mh | refine mt ?_)); done) rfl rfl) ?_ | refine zaa rfl (zch rfl rfl rfl rfl) ?_ | refine zaa rfl (zbu rfl rfl) ?_) | (refine zaf ?_; first | refine zaa rfl (zbv rfl rfl (by omega) (by omega)) ?_ | refine zaa rfl (zbw rfl rfl (by omega) (by omega)) ?_) | refine zaa rfl (zcd rfl) ?_ | refine zaa rfl (zce rfl) ?_ | refine zaa rfl (zbx rfl) ?_ | refine zaa rfl (zby rfl) ?_ | refine zaa rfl (zbz rfl rfl) ?_ | refine zaa rfl (zca rfl rfl) ?_ | refine zaa rfl (zcb rfl rfl) ?_ | refine zaa rfl (zcc rfl) ?_ | refine zah ?_ | (refine zcr ?_; first | refine zcs ?_ | refine zct ?_ | refine zcu ?_ | refine zcv ?_ | refine zcw ?_ | refine zcx ?_ | refine zcy rfl ?_ | refine zcz ?_ | refine zda ?_) | (refine zdb ?_; first | refine zdc ?_ | refine zdd ?_ | refine zde ?_ | refine zdf ?_ | refine zdg ?_ | refine zdh ?_ | refine zdi rfl ?_ | refine zdj rfl ?_) | refine zai rfl rfl ?_ | refine zaj rfl rfl rfl rfl ?_ | (refine zak rfl rfl rfl ?_; intro g) | (refine zal rfl rfl ?_; intro g) | (refine zag ?_; first | refine zam 0 rfl rfl rfl rfl rfl rfl ?_ | refine zam 1 rfl rfl rfl rfl rfl rfl ?_ | refine zam 2 rfl rfl rfl rfl rfl rfl ?_ | refine zam 3 rfl rfl rfl rfl rfl rfl ?_ | refine zam 4 rfl rfl rfl rfl rfl rfl ?_ | refine zam 5 rfl rfl rfl rfl rfl rfl ?_ | refine zan 0 rfl rfl rfl rfl rfl rfl rfl rfl rfl ?_ | refine zan 1 rfl rfl rfl rfl rfl rfl rfl rfl rfl ?_ | refine zan 2 rfl rfl rfl rfl rfl rfl rfl rfl rfl ?_ | refine zan 3 rfl rfl rfl rfl rfl rfl rfl rfl rfl ?_ | refine zan 4 rfl rfl rfl rfl rfl rfl rfl rfl rfl ?_ | refine zan 5 rfl rfl rfl rfl rfl rfl rfl rfl rfl ?_ | refine zao 0 rfl rfl rfl rfl rfl rfl ?_ | refine zao 1 rfl rfl rfl rfl rfl rfl ?_ | refine zao 2 rfl rfl rfl rfl rfl rfl ?_ | refine zao 3 rfl rfl rfl rfl rfl rfl ?_)
    refine ws_cond rfl (fun hc => ?_) (fun hc => ?_)
    · have hlt : (k : Int) < 6 := of_decide_eq_true hc
      clear hc
      have hrk := hrow k (by omega)
      have hcl := cloneI_fn [bq k 0, bq k 1, bq k 2, bq k 3] (by simp) (by simp)
      cases o with
      | none =>
        simp only [okF] at hok
        subst hok
        simp only [fEnts]
        repeat first | refine zaa rfl (zay rfl) ?_ | refine zaa rfl (zaz rfl) ?_ | (refine zac ?_; first | refine zaa rfl (zba rfl rfl rfl) ?_ | refine zaa rfl (zbb rfl rfl (by omega)) ?_ | refine zaa rfl (zbc rfl rfl (by omega)) ?_ | refine zaa rfl (zbd rfl rfl rfl) ?_ | refine zaa rfl (zbe rfl rfl) ?_ | refine zaa rfl (zbf rfl rfl) ?_ | refine zaa rfl (zbg rfl rfl) ?_ | refine zaa rfl (zbh rfl rfl) ?_ | refine zaa rfl (zbi rfl rfl) ?_ | refine zaa rfl (zbj rfl rfl) ?_ | refine zaa rfl (zbk rfl rfl) ?_ | refine zaa rfl (zbl rfl rfl) ?_) | (refine zad ?_; first | refine zaa rfl (zbm rfl) ?_ | refine zaa rfl (zbn rfl) ?_ | refine zaa rfl (zbp rfl) ?_ | refine zaa rfl (zbq rfl) ?_ | refine zaa rfl (zbr rfl rfl) ?_) | (refine zae ?_; first | refine zaa rfl (zcf rfl rfl (by (repeat (first | exact mh | refine mt ?_)); done) rfl) ?_ | refine zaa rfl (zcg rfl rfl (by (repeat (first | exact mh | refine mt ?_)); done) rfl rfl) ?_ | refine zaa rfl (zch rfl rfl rfl rfl) ?_ | refine zaa rfl (zbu rfl rfl) ?_) | (refine zaf ?_; first | refine zaa rfl (zbv rfl rfl (by omega) (by omega)) ?_ | refine zaa rfl (zbw rfl rfl (by omega) (by omega)) ?_) | refine zaa rfl (zcd rfl) ?_ | refine zaa rfl (zce rfl) ?_ | refine zaa rfl (zbx rfl) ?_ | refine zaa rfl (zby rfl) ?_ | refine zaa rfl (zbz rfl rfl) ?_ | refine zaa rfl (zca rfl rfl) ?_ | refine zaa rfl (zcb rfl rfl) ?_ | refine zaa rfl (zcc rfl) ?_ | refine zah ?_ | (refine zcr ?_; first | refine zcs ?_ | refine zct ?_ | refine zcu ?_ | refine zcv ?_ | refine zcw ?_ | refine zcx ?_ | refine zcy rfl ?_ | refine zcz ?_ | refine zda ?_) | (refine zdb ?_; first | refine zdc ?_ | refine zdd ?_ | refine zde ?_ | refine zdf ?_ | refine zdg ?_ | refine zdh ?_ | refine zdi rfl ?_ | refine zdj rfl ?_) | refine zai rfl rfl ?_ | refine zaj rfl rfl rfl rfl ?_ | (refine zak rfl rfl rfl ?_; intro g) | (refine zal rfl rfl ?_; intro g) | (refine zag ?_; first | refine zam 0 rfl rfl rfl rfl rfl rfl ?_ | refine zam 1 rfl rfl rfl rfl rfl rfl ?_ | refine zam 2 rfl rfl rfl rfl rfl rfl ?_ | refine zam 3 rfl rfl rfl rfl rfl rfl ?_ | refine zam 4 rfl rfl rfl rfl rfl rfl ?_ | refine zam 5 rfl rfl rfl rfl rfl rfl ?_ | refine zan 0 rfl rfl rfl rfl rfl rfl rfl rfl rfl ?_ | refine zan 1 rfl rfl rfl rfl rfl rfl rfl rfl rfl ?_ | refine zan 2 rfl rfl rfl rfl rfl rfl rfl rfl rfl ?_ | refine zan 3 rfl rfl rfl rfl rfl rfl rfl rfl rfl ?_ | refine zan 4 rfl rfl rfl rfl rfl rfl rfl rfl rfl ?_ | refine zan 5 rfl rfl rfl rfl rfl rfl rfl rfl rfl ?_ | refine zao 0 rfl rfl rfl rfl rfl rfl ?_ | refine zao 1 rfl rfl rfl rfl rfl rfl ?_ | refine zao 2 rfl rfl rfl rfl rfl rfl ?_ | refine zao 3 rfl rfl rfl rfl rfl rfl ?_) | refine zaa rfl (opj_indexB rfl rfl (by omega)) ?_
        rename_i g8
        refine ws_cut (n := 6) (fuel := 3) #[true, true, true, true, true, true, false, false, false]
          (fun g3 c3 => [(0, .f .f32 a), (1, .f .f32 b), (2, .f .f32 c), (6, .raw (.pointer (some ⟨g6, 0, none⟩))), (8, .raw (.pointer (some ⟨g8, 0, none⟩))), (48, .agg (boxL.map intA)), (49, .raw (.int .i64 0)), (53, nilA), (57, AV.lit [.raw (.slice (some ⟨g3, 0, none⟩) 4 c3)])])
          (fun g3 c3 w => (4 ≤ c3 ∧ c3 ≤ maxLen) ∧ St w0 [] (⟨g3, 2, quadA (bq 0 0) (bq 0 1) (bq 0 2) (bq 0 3), c3⟩ :: ⟨g, 133, quadA (bq 0 0) (bq 0 1) (bq 0 2) (bq 0 3), 4⟩ :: fEnts g6 g8 x xc L 8 F 0 none) w)
          mixed (by decide +kernel) (by decide +kernel) rfl rfl (fun g3 c3 => ?_) (fun hcut => ?_)
        rotate_left
        · skip
          refine ra_two 0 2 (by decide +kernel) ?_ ?_
          · refine ro_op rfl rfl (zcd rfl) ?_
            refine ra_two 1 2 (by decide +kernel) ?_ ?_
            · refine ro_op rfl rfl (zcf rfl rfl (by (repeat (first | exact mh | refine mt ?_)); done) rfl) ?_
              refine ra_one 2 (by decide +kernel) ?_
              refine ro_op rfl rfl (opj_sliceA rfl rfl) ?_
              refine ra_one 3 (by decide +kernel) ?_
              (refine ro_callN rfl hcl rfl rfl (Takes.ownE ⟨_, _, (by (repeat (first | exact mh | refine mt ?_)); done)⟩ rfl (Nat.le_refl _) (by simp [maxLen]) Takes.nil) rfl ?_; rintro ⟨g3, c3⟩ hg3)
              refine ra_one 4 (by decide +kernel) ?_
              refine ro_op rfl rfl (opj_buildF rfl) ?_
              refine ra_one 5 (by decide +kernel) ?_
              refine ro_op rfl rfl (opj_litF rfl) ?_
              (refine RA.toL (x := 55) hcut _ _ rfl rfl ?_ ?_; (focus ((repeat (first | exact Env.sub_nil _ | refine Env.sub_cons rfl ?_)))); (focus (exact fun w hw => ⟨hg3, hw⟩)))
            · refine ro_op rfl rfl (opj_sliceA rfl rfl) ?_
              refine ra_two 1 3 (by decide +kernel) ?_ ?_
              · refine ro_op rfl rfl (zcf rfl rfl (by (repeat (first | exact mh | refine mt ?_)); done) rfl) ?_
                refine ra_one 3 (by decide +kernel) ?_
                (refine ro_callN rfl hcl rfl rfl (Takes.ownE ⟨_, _, (by (repeat (first | exact mh | refine mt ?_)); done)⟩ rfl (Nat.le_refl _) (by simp [maxLen]) Takes.nil) rfl ?_; rintro ⟨g3, c3⟩ hg3)
                refine ra_one 4 (by decide +kernel) ?_
                refine ro_op rfl rfl (opj_buildF rfl) ?_
                refine ra_one 5 (by decide +kernel) ?_
                refine ro_op rfl rfl (opj_litF rfl) ?_
                (refine RA.toL (x := 55) hcut _ _ rfl rfl ?_ ?_; (focus ((repeat (first | exact Env.sub_nil _ | refine Env.sub_cons rfl ?_)))); (focus (exact fun w hw => ⟨hg3, hw⟩)))
              · (refine ro_callN rfl hcl rfl rfl (Takes.ownE ⟨_, _, (by (repeat (first | exact mh | refine mt ?_)); done)⟩ rfl (Nat.le_refl _) (by simp [maxLen]) Takes.nil) rfl ?_; rintro ⟨g3, c3⟩ hg3)
                refine ra_two 1 4 (by decide +kernel) ?_ ?_
                · refine ro_op rfl rfl (zcf rfl rfl (by (repeat (first | exact mh | refine mt ?_)); done) rfl) ?_
                  refine ra_one 4 (by decide +kernel) ?_
                  refine ro_op rfl rfl (opj_buildF rfl) ?_
                  refine ra_one 5 (by decide +kernel) ?_
                  refine ro_op rfl rfl (opj_litF rfl) ?_
                  (refine RA.toL (x := 55) hcut _ _ rfl rfl ?_ ?_; (focus ((repeat (first | exact Env.sub_nil _ | refine Env.sub_cons rfl ?_)))); (focus (exact fun w hw => ⟨hg3, hw⟩)))
                · refine ro_op rfl rfl (opj_buildF rfl) ?_
                  refine ra_two 1 5 (by decide +kernel) ?_ ?_
                  · refine ro_op rfl rfl (zcf rfl rfl (by (repeat (first | exact mh | refine mt ?_)); done) rfl) ?_
                    refine ra_one 5 (by decide +kernel) ?_
                    refine ro_op rfl rfl (opj_litF rfl) ?_
                    (refine RA.toL (x := 55) hcut _ _ rfl rfl ?_ ?_; (focus ((repeat (first | exact Env.sub_nil _ | refine Env.sub_cons rfl ?_)))); (focus (exact fun w hw => ⟨hg3, hw⟩)))
                  · refine ro_op rfl rfl (opj_litF rfl) ?_
                    refine ra_one 1 (by decide +kernel) ?_
                    refine ro_op rfl rfl (zcf rfl rfl (by (repeat (first | exact mh | refine mt ?_)); done) rfl) ?_
                    (refine RA.toL (x := 55) hcut _ _ rfl rfl ?_ ?_; (focus ((repeat (first | exact Env.sub_nil _ | refine Env.sub_cons rfl ?_)))); (focus (exact fun w hw => ⟨hg3, hw⟩)))
          · refine ro_op rfl rfl (opj_sliceA rfl rfl) ?_
            refine ra_two 0 3 (by decide +kernel) ?_ ?_
            · refine ro_op rfl rfl (zcd rfl) ?_
              refine ra_two 1 3 (by decide +kernel) ?_ ?_
              · refine ro_op rfl rfl (zcf rfl rfl (by (repeat (first | exact mh | refine mt ?_)); done) rfl) ?_
                refine ra_one 3 (by decide +kernel) ?_
                (refine ro_callN rfl hcl rfl rfl (Takes.ownE ⟨_, _, (by (repeat (first | exact mh | refine mt ?_)); done)⟩ rfl (Nat.le_refl _) (by simp [maxLen]) Takes.nil) rfl ?_; rintro ⟨g3, c3⟩ hg3)
                refine ra_one 4 (by decide +kernel) ?_
                refine ro_op rfl rfl (opj_buildF rfl) ?_
                refine ra_one 5 (by decide +kernel) ?_
                refine ro_op rfl rfl (opj_litF rfl) ?_
                (refine RA.toL (x := 55) hcut _ _ rfl rfl ?_ ?_; (focus ((repeat (first | exact Env.sub_nil _ | refine Env.sub_cons rfl ?_)))); (focus (exact fun w hw => ⟨hg3, hw⟩)))
              · (refine ro_callN rfl hcl rfl rfl (Takes.ownE ⟨_, _, (by (repeat (first | exact mh | refine mt ?_)); done)⟩ rfl (Nat.le_refl _) (by simp [maxLen]) Takes.nil) rfl ?_; rintro ⟨g3, c3⟩ hg3)
                refine ra_two 1 4 (by decide +kernel) ?_ ?_
                · refine ro_op rfl rfl (zcf rfl rfl (by (repeat (first | exact mh | refine mt ?_)); done) rfl) ?_
                  refine ra_one 4 (by decide +kernel) ?_
                  refine ro_op rfl rfl (opj_buildF rfl) ?_
                  refine ra_one 5 (by decide +kernel) ?_
                  refine ro_op rfl rfl (opj_litF rfl) ?_
                  (refine RA.toL (x := 55) hcut _ _ rfl rfl ?_ ?_; (focus ((repeat (first | exact Env.sub_nil _ | refine Env.sub_cons rfl ?_)))); (focus (exact fun w hw => ⟨hg3, hw⟩)))
                · refine ro_op rfl rfl (opj_buildF rfl) ?_
                  refine ra_two 1 5 (by decide +kernel) ?_ ?_
                  · refine ro_op rfl rfl (zcf rfl rfl (by (repeat (first | exact mh | refine mt ?_)); done) rfl) ?_
                    refine ra_one 5 (by decide +kernel) ?_
                    refine ro_op rfl rfl (opj_litF rfl) ?_
                    (refine RA.toL (x := 55) hcut _ _ rfl rfl ?_ ?_; (focus ((repeat (first | exact Env.sub_nil _ | refine Env.sub_cons rfl ?_)))); (focus (exact fun w hw => ⟨hg3, hw⟩)))
                  · refine ro_op rfl rfl (opj_litF rfl) ?_
                    refine ra_one 1 (by decide +kernel) ?_
                    refine ro_op rfl rfl (zcf rfl rfl (by (repeat (first | exact mh | refine mt ?_)); done) rfl) ?_
                    (refine RA.toL (x := 55) hcut _ _ rfl rfl ?_ ?_; (focus ((repeat (first | exact Env.sub_nil _ | refine Env.sub_cons rfl ?_)))); (focus (exact fun w hw => ⟨hg3, hw⟩)))
            · (refine ro_callN rfl hcl rfl rfl (Takes.ownE ⟨_, _, (by (repeat (first | exact mh | refine mt ?_)); done)⟩ rfl (Nat.le_refl _) (by simp [maxLen]) Takes.nil) rfl ?_; rintro ⟨g3, c3⟩ hg3)
              refine ra_two 0 4 (by decide +kernel) ?_ ?_
              · refine ro_op rfl rfl (zcd rfl) ?_
                refine ra_two 1 4 (by decide +kernel) ?_ ?_
                · refine ro_op rfl rfl (zcf rfl rfl (by (repeat (first | exact mh | refine mt ?_)); done) rfl) ?_
                  refine ra_one 4 (by decide +kernel) ?_
                  refine ro_op rfl rfl (opj_buildF rfl) ?_
                  refine ra_one 5 (by decide +kernel) ?_
                  refine ro_op rfl rfl (opj_litF rfl) ?_
                  (refine RA.toL (x := 55) hcut _ _ rfl rfl ?_ ?_; (focus ((repeat (first | exact Env.sub_nil _ | refine Env.sub_cons rfl ?_)))); (focus (exact fun w hw => ⟨hg3, hw⟩)))
                · refine ro_op rfl rfl (opj_buildF rfl) ?_
                  refine ra_two 1 5 (by decide +kernel) ?_ ?_
                  · refine ro_op rfl rfl (zcf rfl rfl (by (repeat (first | exact mh | refine mt ?_)); done) rfl) ?_
                    refine ra_one 5 (by decide +kernel) ?_
                    refine ro_op rfl rfl (opj_litF rfl) ?_
                    (refine RA.toL (x := 55) hcut _ _ rfl rfl ?_ ?_; (focus ((repeat (first | exact Env.sub_nil _ | refine Env.sub_cons rfl ?_)))); (focus (exact fun w hw => ⟨hg3, hw⟩)))
                  · refine ro_op rfl rfl (opj_litF rfl) ?_
                    refine ra_one 1 (by decide +kernel) ?_
                    refine ro_op rfl rfl (zcf rfl rfl (by (repeat (first | exact mh | refine mt ?_)); done) rfl) ?_
                    (refine RA.toL (x := 55) hcut _ _ rfl rfl ?_ ?_; (focus ((repeat (first | exact Env.sub_nil _ | refine Env.sub_cons rfl ?_)))); (focus (exact fun w hw => ⟨hg3, hw⟩)))
              · refine ro_op rfl rfl (opj_buildF rfl) ?_
                refine ra_two 0 5 (by decide +kernel) ?_ ?_
                · refine ro_op rfl rfl (zcd rfl) ?_
                  refine ra_two 1 5 (by decide +kernel) ?_ ?_
                  · refine ro_op rfl rfl (zcf rfl rfl (by (repeat (first | exact mh | refine mt ?_)); done) rfl) ?_
                    refine ra_one 5 (by decide +kernel) ?_
                    refine ro_op rfl rfl (opj_litF rfl) ?_
                    (refine RA.toL (x := 55) hcut _ _ rfl rfl ?_ ?_; (focus ((repeat (first | exact Env.sub_nil _ | refine Env.sub_cons rfl ?_)))); (focus (exact fun w hw => ⟨hg3, hw⟩)))
                  · refine ro_op rfl rfl (opj_litF rfl) ?_
                    refine ra_one 1 (by decide +kernel) ?_
                    refine ro_op rfl rfl (zcf rfl rfl (by (repeat (first | exact mh | refine mt ?_)); done) rfl) ?_
                    (refine RA.toL (x := 55) hcut _ _ rfl rfl ?_ ?_; (focus ((repeat (first | exact Env.sub_nil _ | refine Env.sub_cons rfl ?_)))); (focus (exact fun w hw => ⟨hg3, hw⟩)))
                · refine ro_op rfl rfl (opj_litF rfl) ?_
                  refine ra_one 0 (by decide +kernel) ?_
                  refine ro_op rfl rfl (zcd rfl) ?_
                  refine ra_one 1 (by decide +kernel) ?_
                  refine ro_op rfl rfl (zcf rfl rfl (by (repeat (first | exact mh | refine mt ?_)); done) rfl) ?_
                  (refine RA.toL (x := 55) hcut _ _ rfl rfl ?_ ?_; (focus ((repeat (first | exact Env.sub_nil _ | refine Env.sub_cons rfl ?_)))); (focus (exact fun w hw => ⟨hg3, hw⟩)))
        · refine RS.and fun hg3 => ?_
          simp only [fEnts]
          refine rs_appendNil (sz := 1) (m := 1) (ys := [.raw (.slice (some ⟨g3, 0, none⟩) 4 c3)]) rfl (by decide) rfl ⟨_, rfl, fun w v _ h => h.inv_p.2⟩ rfl (Nat.le_refl _) rfl (by decide) (by decide) rfl fun b1 d1 h2 h2' => ?_
          repeat first | refine zaa rfl (zay rfl) ?_ | refine zaa rfl (zaz rfl) ?_ | (refine zac ?_; first | refine zaa rfl (zba rfl rfl rfl) ?_ | refine zaa rfl (zbb rfl rfl (by omega)) ?_ | refine zaa rfl (zbc rfl rfl (by omega)) ?_ | refine zaa rfl (zbd rfl rfl rfl) ?_ | refine zaa rfl (zbe rfl rfl) ?_ | refine zaa rfl (zbf rfl rfl) ?_ | refine zaa rfl (zbg rfl rfl) ?_ | refine zaa rfl (zbh rfl rfl) ?_ | refine zaa rfl (zbi rfl rfl) ?_ | refine zaa rfl (zbj rfl rfl) ?_ | refine zaa rfl (zbk rfl rfl) ?_ | refine zaa rfl (zbl rfl rfl) ?_) | (refine zad ?_; first | refine zaa rfl (zbm rfl) ?_ | refine zaa rfl (zbn rfl) ?_ | refine zaa rfl (zbp rfl) ?_ | refine zaa rfl (zbq rfl) ?_ | refine zaa rfl (zbr rfl rfl) ?_) | (refine zae ?_; first | refine zaa rfl (zcf rfl rfl (by (repeat (first | exact mh | refine mt ?_)); done) rfl) ?_ | refine zaa rfl (zcg rfl rfl (by (repeat (first | exact mh | refine mt ?_)); done) rfl rfl) ?_ | refine zaa rfl (zch rfl rfl rfl rfl) ?_ | refine zaa rfl (zbu rfl rfl) ?_) | (refine zaf ?_; first | refine zaa rfl (zbv rfl rfl (by omega) (by omega)) ?_ | refine zaa rfl (zbw rfl rfl (by omega) (by omega)) ?_) | refine zaa rfl (zcd rfl) ?_ | refine zaa rfl (zce rfl) ?_ | refine zaa rfl (zbx rfl) ?_ | refine zaa rfl (zby rfl) ?_ | refine zaa rfl (zbz rfl rfl) ?_ | refine zaa rfl (zca rfl rfl) ?_ | refine zaa rfl (zcb rfl rfl) ?_ | refine zaa rfl (zcc rfl) ?_ | refine zah ?_ | (refine zcr ?_; first | refine zcs ?_ | refine zct ?_ | refine zcu ?_ | refine zcv ?_ | refine zcw ?_ | refine zcx ?_ | refine zcy rfl ?_ | refine zcz ?_ | refine zda ?_) | (refine zdb ?_; first | refine zdc ?_ | refine zdd ?_ | refine zde ?_ | refine zdf ?_ | refine zdg ?_ | refine zdh ?_ | refine zdi rfl ?_ | refine zdj rfl ?_) | refine zai rfl rfl ?_ | refine zaj rfl rfl rfl rfl ?_ | (refine zak rfl rfl rfl ?_; intro g) | (refine zal rfl rfl ?_; intro g) | (refine zag ?_; first | refine zam 0 rfl rfl rfl rfl rfl rfl ?_ | refine zam 1 rfl rfl rfl rfl rfl rfl ?_ | refine zam 2 rfl rfl rfl rfl rfl rfl ?_ | refine zam 3 rfl rfl rfl rfl rfl rfl ?_ | refine zam 4 rfl rfl rfl rfl rfl rfl ?_ | refine zam 5 rfl rfl rfl rfl rfl rfl ?_ | refine zan 0 rfl rfl rfl rfl rfl rfl rfl rfl rfl ?_ | refine zan 1 rfl rfl rfl rfl rfl rfl rfl rfl rfl ?_ | refine zan 2 rfl rfl rfl rfl rfl rfl rfl rfl rfl ?_ | refine zan 3 rfl rfl rfl rfl rfl rfl rfl rfl rfl ?_ | refine zan 4 rfl rfl rfl rfl rfl rfl rfl rfl rfl ?_ | refine zan 5 rfl rfl rfl rfl rfl rfl rfl rfl rfl ?_ | refine zao 0 rfl rfl rfl rfl rfl rfl ?_ | refine zao 1 rfl rfl rfl rfl rfl rfl ?_ | refine zao 2 rfl rfl rfl rfl rfl rfl ?_ | refine zao 3 rfl rfl rfl rfl rfl rfl ?_)
          refine done_round (0 + 1, some ((b1, d1), putG 0 (g3, c3) fun _ => (0, 0))) ⟨by simp only; omega, Nat.le_refl _, ⟨h2, h2'⟩, fun t ht => ?_⟩ (by simp only; omega) ?_ (fun _ h => ?_)
          · simp only at ht ⊢
            have : t = 0 := by omega
            unfold putG
            rw [if_pos this]
            exact hg3
          · (repeat (first | exact Env.sub_nil _ | refine Env.sub_cons rfl ?_))
          · have e0 : cornsW F (fun _ => ((0 : Nat), (0 : Nat))) 0 = [] := by unfold cornsW; rfl
            have e1 : tabA (0 + 1) (facW F (putG 0 (g3, c3) fun _ => (0, 0))) = [.raw (.slice (some ⟨g3, 0, none⟩) 4 c3)] := by
              rw [← tabA_snoc (a := facW F fun _ => (0, 0)) (fun t ht => by omega) (facW_new F _ 0 (g3, c3)), tabA_zero, hrk]; rfl
            simp only [entG]
            rw [cornsW_succ, e0, e1, hrk]
            simp only [Nat.mul_one] at h
            exact (h.weak (List.Sublist.cons_cons _ (List.Sublist.cons_cons _ (List.Sublist.cons _ (List.Sublist.refl _))))).perm perm_boxA
      | some y =>
        obtain ⟨⟨b0, bc⟩, G⟩ := y
        obtain ⟨hk1, hbc, hG⟩ := hok
        simp only at hbc hG
        simp only [fEnts]
        repeat first | refine zaa rfl (zay rfl) ?_ | refine zaa rfl (zaz rfl) ?_ | (refine zac ?_; first | refine zaa rfl (zba rfl rfl rfl) ?_ | refine zaa rfl (zbb rfl rfl (by omega)) ?_ | refine zaa rfl (zbc rfl rfl (by omega)) ?_ | refine zaa rfl (zbd rfl rfl rfl) ?_ | refine zaa rfl (zbe rfl rfl) ?_ | refine zaa rfl (zbf rfl rfl) ?_ | refine zaa rfl (zbg rfl rfl) ?_ | refine zaa rfl (zbh rfl rfl) ?_ | refine zaa rfl (zbi rfl rfl) ?_ | refine zaa rfl (zbj rfl rfl) ?_ | refine zaa rfl (zbk rfl rfl) ?_ | refine zaa rfl (zbl rfl rfl) ?_) | (refine zad ?_; first | refine zaa rfl (zbm rfl) ?_ | refine zaa rfl (zbn rfl) ?_ | refine zaa rfl (zbp rfl) ?_ | refine zaa rfl (zbq rfl) ?_ | refine zaa rfl (zbr rfl rfl) ?_) | (refine zae ?_; first | refine zaa rfl (zcf rfl rfl (by (repeat (first | exact mh | refine mt ?_)); done) rfl) ?_ | refine zaa rfl (zcg rfl rfl (by (repeat (first | exact mh | refine mt ?_)); done) rfl rfl) ?_ | refine zaa rfl (zch rfl rfl rfl rfl) ?_ | refine zaa rfl (zbu rfl rfl) ?_) | (refine zaf ?_; first | refine zaa rfl (zbv rfl rfl (by omega) (by omega)) ?_ | refine zaa rfl (zbw rfl rfl (by omega) (by omega)) ?_) | refine zaa rfl (zcd rfl) ?_ | refine zaa rfl (zce rfl) ?_ | refine zaa rfl (zbx rfl) ?_ | refine zaa rfl (zby rfl) ?_ | refine zaa rfl (zbz rfl rfl) ?_ | refine zaa rfl (zca rfl rfl) ?_ | refine zaa rfl (zcb rfl rfl) ?_ | refine zaa rfl (zcc rfl) ?_ | refine zah ?_ | (refine zcr ?_; first | refine zcs ?_ | refine zct ?_ | refine zcu ?_ | refine zcv ?_ | refine zcw ?_ | refine zcx ?_ | refine zcy rfl ?_ | refine zcz ?_ | refine zda ?_) | (refine zdb ?_; first | refine zdc ?_ | refine zdd ?_ | refine zde ?_ | refine zdf ?_ | refine zdg ?_ | refine zdh ?_ | refine zdi rfl ?_ | refine zdj rfl ?_) | refine zai rfl rfl ?_ | refine zaj rfl rfl rfl rfl ?_ | (refine zak rfl rfl rfl ?_; intro g) | (refine zal rfl rfl ?_; intro g) | (refine zag ?_; first | refine zam 0 rfl rfl rfl rfl rfl rfl ?_ | refine zam 1 rfl rfl rfl rfl rfl rfl ?_ | refine zam 2 rfl rfl rfl rfl rfl rfl ?_ | refine zam 3 rfl rfl rfl rfl rfl rfl ?_ | refine zam 4 rfl rfl rfl rfl rfl rfl ?_ | refine zam 5 rfl rfl rfl rfl rfl rfl ?_ | refine zan 0 rfl rfl rfl rfl rfl rfl rfl rfl rfl ?_ | refine zan 1 rfl rfl rfl rfl rfl rfl rfl rfl rfl ?_ | refine zan 2 rfl rfl rfl rfl rfl rfl rfl rfl rfl ?_ | refine zan 3 rfl rfl rfl rfl rfl rfl rfl rfl rfl ?_ | refine zan 4 rfl rfl rfl rfl rfl rfl rfl rfl rfl ?_ | refine zan 5 rfl rfl rfl rfl rfl rfl rfl rfl rfl ?_ | refine zao 0 rfl rfl rfl rfl rfl rfl ?_ | refine zao 1 rfl rfl rfl rfl rfl rfl ?_ | refine zao 2 rfl rfl rfl rfl rfl rfl ?_ | refine zao 3 rfl rfl rfl rfl rfl rfl ?_) | refine zaa rfl (opj_indexB rfl rfl (by omega)) ?_
        rename_i g8
        refine ws_cut (n := 6) (fuel := 3) #[true, true, true, true, true, true, false, false, false]
          (fun g3 c3 => [(0, .f .f32 a), (1, .f .f32 b), (2, .f .f32 c), (6, .raw (.pointer (some ⟨g6, 0, none⟩))), (8, .raw (.pointer (some ⟨g8, 0, none⟩))), (48, .agg (boxL.map intA)), (49, .raw (.int .i64 k)), (53, .raw (.slice (some ⟨b0, 0, none⟩) k bc)), (57, AV.lit [.raw (.slice (some ⟨g3, 0, none⟩) 4 c3)])])
          (fun g3 c3 w => (4 ≤ c3 ∧ c3 ≤ maxLen) ∧ St w0 [] (⟨g3, 2, quadA (bq k 0) (bq k 1) (bq k 2) (bq k 3), c3⟩ :: ⟨g, 133, quadA (bq k 0) (bq k 1) (bq k 2) (bq k 3), 4⟩ :: fEnts g6 g8 x xc L 8 F k (some ((b0, bc), G))) w)
          mixed (by decide +kernel) (by decide +kernel) rfl rfl (fun g3 c3 => ?_) (fun hcut => ?_)
        rotate_left
        · skip
          refine ra_two 0 2 (by decide +kernel) ?_ ?_
          · refine ro_op rfl rfl (zcd rfl) ?_
            refine ra_two 1 2 (by decide +kernel) ?_ ?_
            · refine ro_op rfl rfl (zcf rfl rfl (by (repeat (first | exact mh | refine mt ?_)); done) rfl) ?_
              refine ra_one 2 (by decide +kernel) ?_
              refine ro_op rfl rfl (opj_sliceA rfl rfl) ?_
              refine ra_one 3 (by decide +kernel) ?_
              (refine ro_callN rfl hcl rfl rfl (Takes.ownE ⟨_, _, (by (repeat (first | exact mh | refine mt ?_)); done)⟩ rfl (Nat.le_refl _) (by simp [maxLen]) Takes.nil) rfl ?_; rintro ⟨g3, c3⟩ hg3)
              refine ra_one 4 (by decide +kernel) ?_
              refine ro_op rfl rfl (opj_buildF rfl) ?_
              refine ra_one 5 (by decide +kernel) ?_
              refine ro_op rfl rfl (opj_litF rfl) ?_
              (refine RA.toL (x := 55) hcut _ _ rfl rfl ?_ ?_; (focus ((repeat (first | exact Env.sub_nil _ | refine Env.sub_cons rfl ?_)))); (focus (exact fun w hw => ⟨hg3, hw⟩)))
            · refine ro_op rfl rfl (opj_sliceA rfl rfl) ?_
              refine ra_two 1 3 (by decide +kernel) ?_ ?_
              · refine ro_op rfl rfl (zcf rfl rfl (by (repeat (first | exact mh | refine mt ?_)); done) rfl) ?_
                refine ra_one 3 (by decide +kernel) ?_
                (refine ro_callN rfl hcl rfl rfl (Takes.ownE ⟨_, _, (by (repeat (first | exact mh | refine mt ?_)); done)⟩ rfl (Nat.le_refl _) (by simp [maxLen]) Takes.nil) rfl ?_; rintro ⟨g3, c3⟩ hg3)
                refine ra_one 4 (by decide +kernel) ?_
                refine ro_op rfl rfl (opj_buildF rfl) ?_
                refine ra_one 5 (by decide +kernel) ?_
                refine ro_op rfl rfl (opj_litF rfl) ?_
                (refine RA.toL (x := 55) hcut _ _ rfl rfl ?_ ?_; (focus ((repeat (first | exact Env.sub_nil _ | refine Env.sub_cons rfl ?_)))); (focus (exact fun w hw => ⟨hg3, hw⟩)))
              · (refine ro_callN rfl hcl rfl rfl (Takes.ownE ⟨_, _, (by (repeat (first | exact mh | refine mt ?_)); done)⟩ rfl (Nat.le_refl _) (by simp [maxLen]) Takes.nil) rfl ?_; rintro ⟨g3, c3⟩ hg3)
                refine ra_two 1 4 (by decide +kernel) ?_ ?_
                · refine ro_op rfl rfl (zcf rfl rfl (by (repeat (first | exact mh | refine mt ?_)); done) rfl) ?_
                  refine ra_one 4 (by decide +kernel) ?_
                  refine ro_op rfl rfl (opj_buildF rfl) ?_
                  refine ra_one 5 (by decide +kernel) ?_
                  refine ro_op rfl rfl (opj_litF rfl) ?_
                  (refine RA.toL (x := 55) hcut _ _ rfl rfl ?_ ?_; (focus ((repeat (first | exact Env.sub_nil _ | refine Env.sub_cons rfl ?_)))); (focus (exact fun w hw => ⟨hg3, hw⟩)))
                · refine ro_op rfl rfl (opj_buildF rfl) ?_
                  refine ra_two 1 5 (by decide +kernel) ?_ ?_
                  · refine ro_op rfl rfl (zcf rfl rfl (by (repeat (first | exact mh | refine mt ?_)); done) rfl) ?_
                    refine ra_one 5 (by decide +kernel) ?_
                    refine ro_op rfl rfl (opj_litF rfl) ?_
                    (refine RA.toL (x := 55) hcut _ _ rfl rfl ?_ ?_; (focus ((repeat (first | exact Env.sub_nil _ | refine Env.sub_cons rfl ?_)))); (focus (exact fun w hw => ⟨hg3, hw⟩)))
                  · refine ro_op rfl rfl (opj_litF rfl) ?_
                    refine ra_one 1 (by decide +kernel) ?_
                    refine ro_op rfl rfl (zcf rfl rfl (by (repeat (first | exact mh | refine mt ?_)); done) rfl) ?_
                    (refine RA.toL (x := 55) hcut _ _ rfl rfl ?_ ?_; (focus ((repeat (first | exact Env.sub_nil _ | refine Env.sub_cons rfl ?_)))); (focus (exact fun w hw => ⟨hg3, hw⟩)))
          · refine ro_op rfl rfl (opj_sliceA rfl rfl) ?_
            refine ra_two 0 3 (by decide +kernel) ?_ ?_
            · refine ro_op rfl rfl (zcd rfl) ?_
              refine ra_two 1 3 (by decide +kernel) ?_ ?_
              · refine ro_op rfl rfl (zcf rfl rfl (by (repeat (first | exact mh | refine mt ?_)); done) rfl) ?_
                refine ra_one 3 (by decide +kernel) ?_
                (refine ro_callN rfl hcl rfl rfl (Takes.ownE ⟨_, _, (by (repeat (first | exact mh | refine mt ?_)); done)⟩ rfl (Nat.le_refl _) (by simp [maxLen]) Takes.nil) rfl ?_; rintro ⟨g3, c3⟩ hg3)
                refine ra_one 4 (by decide +kernel) ?_
                refine ro_op rfl rfl (opj_buildF rfl) ?_
                refine ra_one 5 (by decide +kernel) ?_
                refine ro_op rfl rfl (opj_litF rfl) ?_
                (refine RA.toL (x := 55) hcut _ _ rfl rfl ?_ ?_; (focus ((repeat (first | exact Env.sub_nil _ | refine Env.sub_cons rfl ?_)))); (focus (exact fun w hw => ⟨hg3, hw⟩)))
              · (refine ro_callN rfl hcl rfl rfl (Takes.ownE ⟨_, _, (by (repeat (first | exact mh | refine mt ?_)); done)⟩ rfl (Nat.le_refl _) (by simp [maxLen]) Takes.nil) rfl ?_; rintro ⟨g3, c3⟩ hg3)
                refine ra_two 1 4 (by decide +kernel) ?_ ?_
                · refine ro_op rfl rfl (zcf rfl rfl (by (repeat (first | exact mh | refine mt ?_)); done) rfl) ?_
                  refine ra_one 4 (by decide +kernel) ?_
                  refine ro_op rfl rfl (opj_buildF rfl) ?_
                  refine ra_one 5 (by decide +kernel) ?_
                  refine ro_op rfl rfl (opj_litF rfl) ?_
                  (refine RA.toL (x := 55) hcut _ _ rfl rfl ?_ ?_; (focus ((repeat (first | exact Env.sub_nil _ | refine Env.sub_cons rfl ?_)))); (focus (exact fun w hw => ⟨hg3, hw⟩)))
                · refine ro_op rfl rfl (opj_buildF rfl) ?_
                  refine ra_two 1 5 (by decide +kernel) ?_ ?_
                  · refine ro_op rfl rfl (zcf rfl rfl (by (repeat (first | exact mh | refine mt ?_)); done) rfl) ?_
                    refine ra_one 5 (by decide +kernel) ?_
                    refine ro_op rfl rfl (opj_litF rfl) ?_
                    (refine RA.toL (x := 55) hcut _ _ rfl rfl ?_ ?_; (focus ((repeat (first | exact Env.sub_nil _ | refine Env.sub_cons rfl ?_)))); (focus (exact fun w hw => ⟨hg3, hw⟩)))
                  · refine ro_op rfl rfl (opj_litF rfl) ?_
                    refine ra_one 1 (by decide +kernel) ?_
                    refine ro_op rfl rfl (zcf rfl rfl (by (repeat (first | exact mh | refine mt ?_)); done) rfl) ?_
                    (refine RA.toL (x := 55) hcut _ _ rfl rfl ?_ ?_; (focus ((repeat (first | exact Env.sub_nil _ | refine Env.sub_cons rfl ?_)))); (focus (exact fun w hw => ⟨hg3, hw⟩)))
            · (refine ro_callN rfl hcl rfl rfl (Takes.ownE ⟨_, _, (by (repeat (first | exact mh | refine mt ?_)); done)⟩ rfl (Nat.le_refl _) (by simp [maxLen]) Takes.nil) rfl ?_; rintro ⟨g3, c3⟩ hg3)
              refine ra_two 0 4 (by decide +kernel) ?_ ?_
              · refine ro_op rfl rfl (zcd rfl) ?_
                refine ra_two 1 4 (by decide +kernel) ?_ ?_
                · refine ro_op rfl rfl (zcf rfl rfl (by (repeat (first | exact mh | refine mt ?_)); done) rfl) ?_
                  refine ra_one 4 (by decide +kernel) ?_
                  refine ro_op rfl rfl (opj_buildF rfl) ?_
                  refine ra_one 5 (by decide +kernel) ?_
                  refine ro_op rfl rfl (opj_litF rfl) ?_
                  (refine RA.toL (x := 55) hcut _ _ rfl rfl ?_ ?_; (focus ((repeat (first | exact Env.sub_nil _ | refine Env.sub_cons rfl ?_)))); (focus (exact fun w hw => ⟨hg3, hw⟩)))
                · refine ro_op rfl rfl (opj_buildF rfl) ?_
                  refine ra_two 1 5 (by decide +kernel) ?_ ?_
                  · refine ro_op rfl rfl (zcf rfl rfl (by (repeat (first | exact mh | refine mt ?_)); done) rfl) ?_
                    refine ra_one 5 (by decide +kernel) ?_
                    refine ro_op rfl rfl (opj_litF rfl) ?_
                    (refine RA.toL (x := 55) hcut _ _ rfl rfl ?_ ?_; (focus ((repeat (first | exact Env.sub_nil _ | refine Env.sub_cons rfl ?_)))); (focus (exact fun w hw => ⟨hg3, hw⟩)))
                  · refine ro_op rfl rfl (opj_litF rfl) ?_
                    refine ra_one 1 (by decide +kernel) ?_
                    refine ro_op rfl rfl (zcf rfl rfl (by (repeat (first | exact mh | refine mt ?_)); done) rfl) ?_
                    (refine RA.toL (x := 55) hcut _ _ rfl rfl ?_ ?_; (focus ((repeat (first | exact Env.sub_nil _ | refine Env.sub_cons rfl ?_)))); (focus (exact fun w hw => ⟨hg3, hw⟩)))
              · refine ro_op rfl rfl (opj_buildF rfl) ?_
                refine ra_two 0 5 (by decide +kernel) ?_ ?_
                · refine ro_op rfl rfl (zcd rfl) ?_
                  refine ra_two 1 5 (by decide +kernel) ?_ ?_
                  · refine ro_op rfl rfl (zcf rfl rfl (by (repeat (first | exact mh | refine mt ?_)); done) rfl) ?_
                    refine ra_one 5 (by decide +kernel) ?_
                    refine ro_op rfl rfl (opj_litF rfl) ?_
                    (refine RA.toL (x := 55) hcut _ _ rfl rfl ?_ ?_; (focus ((repeat (first | exact Env.sub_nil _ | refine Env.sub_cons rfl ?_)))); (focus (exact fun w hw => ⟨hg3, hw⟩)))
                  · refine ro_op rfl rfl (opj_litF rfl) ?_
                    refine ra_one 1 (by decide +kernel) ?_
                    refine ro_op rfl rfl (zcf rfl rfl (by (repeat (first | exact mh | refine mt ?_)); done) rfl) ?_
                    (refine RA.toL (x := 55) hcut _ _ rfl rfl ?_ ?_; (focus ((repeat (first | exact Env.sub_nil _ | refine Env.sub_cons rfl ?_)))); (focus (exact fun w hw => ⟨hg3, hw⟩)))
                · refine ro_op rfl rfl (opj_litF rfl) ?_
                  refine ra_one 0 (by decide +kernel) ?_
                  refine ro_op rfl rfl (zcd rfl) ?_
                  refine ra_one 1 (by decide +kernel) ?_
                  refine ro_op rfl rfl (zcf rfl rfl (by (repeat (first | exact mh | refine mt ?_)); done) rfl) ?_
                  (refine RA.toL (x := 55) hcut _ _ rfl rfl ?_ ?_; (focus ((repeat (first | exact Env.sub_nil _ | refine Env.sub_cons rfl ?_)))); (focus (exact fun w hw => ⟨hg3, hw⟩)))
        · refine RS.and fun hg3 => ?_
          simp only [fEnts]
          have hlen : (F.getD k []).length = 4 := by rw [hrk]; rfl
          refine rs_append 5 (xs := tabA k (facW F G)) (ys := [.raw (.slice (some ⟨g3, 0, none⟩) 4 c3)]) (n := k) rfl rfl ⟨_, rfl, fun w v _ h => h.inv_p.2⟩ rfl ⟨by simp, hbc.1, hbc.2⟩ (by simp) rfl (by simp only [maxLen, List.length_cons, List.length_nil]; omega) (by simp only [List.length_cons, List.length_nil]; omega) rfl fun b1 d1 h2 h2' => ?_
          rw [tabA_snoc (b := facW F (putG k (g3, c3) G)) (fun t ht => facW_old F G _ ht) (by rw [facW_new, hlen])]
          repeat first | refine zaa rfl (zay rfl) ?_ | refine zaa rfl (zaz rfl) ?_ | (refine zac ?_; first | refine zaa rfl (zba rfl rfl rfl) ?_ | refine zaa rfl (zbb rfl rfl (by omega)) ?_ | refine zaa rfl (zbc rfl rfl (by omega)) ?_ | refine zaa rfl (zbd rfl rfl rfl) ?_ | refine zaa rfl (zbe rfl rfl) ?_ | refine zaa rfl (zbf rfl rfl) ?_ | refine zaa rfl (zbg rfl rfl) ?_ | refine zaa rfl (zbh rfl rfl) ?_ | refine zaa rfl (zbi rfl rfl) ?_ | refine zaa rfl (zbj rfl rfl) ?_ | refine zaa rfl (zbk rfl rfl) ?_ | refine zaa rfl (zbl rfl rfl) ?_) | (refine zad ?_; first | refine zaa rfl (zbm rfl) ?_ | refine zaa rfl (zbn rfl) ?_ | refine zaa rfl (zbp rfl) ?_ | refine zaa rfl (zbq rfl) ?_ | refine zaa rfl (zbr rfl rfl) ?_) | (refine zae ?_; first | refine zaa rfl (zcf rfl rfl (by (repeat (first | exact mh | refine mt ?_)); done) rfl) ?_ | refine zaa rfl (zcg rfl rfl (by (repeat (first | exact mh | refine mt ?_)); done) rfl rfl) ?_ | refine zaa rfl (zch rfl rfl rfl rfl) ?_ | refine zaa rfl (zbu rfl rfl) ?_) | (refine zaf ?_; first | refine zaa rfl (zbv rfl rfl (by omega) (by omega)) ?_ | refine zaa rfl (zbw rfl rfl (by omega) (by omega)) ?_) | refine zaa rfl (zcd rfl) ?_ | refine zaa rfl (zce rfl) ?_ | refine zaa rfl (zbx rfl) ?_ | refine zaa rfl (zby rfl) ?_ | refine zaa rfl (zbz rfl rfl) ?_ | refine zaa rfl (zca rfl rfl) ?_ | refine zaa rfl (zcb rfl rfl) ?_ | refine zaa rfl (zcc rfl) ?_ | refine zah ?_ | (refine zcr ?_; first | refine zcs ?_ | refine zct ?_ | refine zcu ?_ | refine zcv ?_ | refine zcw ?_ | refine zcx ?_ | refine zcy rfl ?_ | refine zcz ?_ | refine zda ?_) | (refine zdb ?_; first | refine zdc ?_ | refine zdd ?_ | refine zde ?_ | refine zdf ?_ | refine zdg ?_ | refine zdh ?_ | refine zdi rfl ?_ | refine zdj rfl ?_) | refine zai rfl rfl ?_ | refine zaj rfl rfl rfl rfl ?_ | (refine zak rfl rfl rfl ?_; intro g) | (refine zal rfl rfl ?_; intro g) | (refine zag ?_; first | refine zam 0 rfl rfl rfl rfl rfl rfl ?_ | refine zam 1 rfl rfl rfl rfl rfl rfl ?_ | refine zam 2 rfl rfl rfl rfl rfl rfl ?_ | refine zam 3 rfl rfl rfl rfl rfl rfl ?_ | refine zam 4 rfl rfl rfl rfl rfl rfl ?_ | refine zam 5 rfl rfl rfl rfl rfl rfl ?_ | refine zan 0 rfl rfl rfl rfl rfl rfl rfl rfl rfl ?_ | refine zan 1 rfl rfl rfl rfl rfl rfl rfl rfl rfl ?_ | refine zan 2 rfl rfl rfl rfl rfl rfl rfl rfl rfl ?_ | refine zan 3 rfl rfl rfl rfl rfl rfl rfl rfl rfl ?_ | refine zan 4 rfl rfl rfl rfl rfl rfl rfl rfl rfl ?_ | refine zan 5 rfl rfl rfl rfl rfl rfl rfl rfl rfl ?_ | refine zao 0 rfl rfl rfl rfl rfl rfl ?_ | refine zao 1 rfl rfl rfl rfl rfl rfl ?_ | refine zao 2 rfl rfl rfl rfl rfl rfl ?_ | refine zao 3 rfl rfl rfl rfl rfl rfl ?_)
          refine done_round (k + 1, some ((b1, d1), putG k (g3, c3) G)) ⟨by simp only; omega, by simp only; omega, ⟨h2, h2'⟩, fun t ht => ?_⟩ (by simp only; omega) ?_ (fun _ h => ?_)
          · simp only at ht ⊢
            unfold putG
            split
            · exact hg3
            · exact hG t (by omega)
          · (repeat (first | exact Env.sub_nil _ | refine Env.sub_cons rfl ?_))
          · simp only [entG]
            rw [cornsW_succ, hrk]
            exact (h.weak (List.Sublist.cons_cons _ (List.Sublist.cons _ (List.Sublist.refl _)))).perm perm_boxB
    · have hge : ¬ (k : Int) < 6 := of_decide_eq_false hc
      obtain rfl : k = 6 := by omega
      cases o with
      | none => simp only [okF] at hok; omega
      | some y =>
      obtain ⟨⟨b0, bc⟩, G⟩ := y
      obtain ⟨-, hbc, hG⟩ := hok
      simp only at hbc hG
      have hy : OkN ⟨x, xc, b0, bc, G⟩ 8 F := ⟨⟨hx, hx'⟩, by rw [hF6]; exact hbc, fun i hi => by
        rw [h4F i hi]
        exact hG i (by omega)⟩
      have he : fEnts g6 g x xc L 8 F 6 (some ((b0, bc), G)) = [⟨g, 47, [.raw (.slice (some ⟨x, 0, none⟩) 8 xc), .raw (.slice (some ⟨b0, 0, none⟩) F.length bc)], 2⟩, ⟨g6, 47, [nilA, nilA], 2⟩] ++ netE ⟨x, xc, b0, bc, G⟩ 8 (sOf L) F := by
        simp only [fEnts, netE, he8, hF6]
        rfl
      rw [he]
      clear he hrow
      cases hfn : [a, b, c].all finB
      · rw [hfn] at hAF
        have hvb := hfin hfn
        subst hvb
        repeat first | refine zaa rfl (zay rfl) ?_ | refine zaa rfl (zaz rfl) ?_ | (refine zac ?_; first | refine zaa rfl (zba rfl rfl rfl) ?_ | refine zaa rfl (zbb rfl rfl (by omega)) ?_ | refine zaa rfl (zbc rfl rfl (by omega)) ?_ | refine zaa rfl (zbd rfl rfl rfl) ?_ | refine zaa rfl (zbe rfl rfl) ?_ | refine zaa rfl (zbf rfl rfl) ?_ | refine zaa rfl (zbg rfl rfl) ?_ | refine zaa rfl (zbh rfl rfl) ?_ | refine zaa rfl (zbi rfl rfl) ?_ | refine zaa rfl (zbj rfl rfl) ?_ | refine zaa rfl (zbk rfl rfl) ?_ | refine zaa rfl (zbl rfl rfl) ?_) | (refine zad ?_; first | refine zaa rfl (zbm rfl) ?_ | refine zaa rfl (zbn rfl) ?_ | refine zaa rfl (zbp rfl) ?_ | refine zaa rfl (zbq rfl) ?_ | refine zaa rfl (zbr rfl rfl) ?_) | (refine zae ?_; first | refine zaa rfl (zcf rfl rfl (by (repeat (first | exact mh | refine mt ?_)); done) rfl) ?_ | refine zaa rfl (zcg rfl rfl (by (repeat (first | exact mh | refine mt ?_)); done) rfl rfl) ?_ | refine zaa rfl (zch rfl rfl rfl rfl) ?_ | refine zaa rfl (zbu rfl rfl) ?_) | (refine zaf ?_; first | refine zaa rfl (zbv rfl rfl (by omega) (by omega)) ?_ | refine zaa rfl (zbw rfl rfl (by omega) (by omega)) ?_) | refine zaa rfl (zcd rfl) ?_ | refine zaa rfl (zce rfl) ?_ | refine zaa rfl (zbx rfl) ?_ | refine zaa rfl (zby rfl) ?_ | refine zaa rfl (zbz rfl rfl) ?_ | refine zaa rfl (zca rfl rfl) ?_ | refine zaa rfl (zcb rfl rfl) ?_ | refine zaa rfl (zcc rfl) ?_ | refine zah ?_ | (refine zcr ?_; first | refine zcs ?_ | refine zct ?_ | refine zcu ?_ | refine zcv ?_ | refine zcw ?_ | refine zcx ?_ | refine zcy rfl ?_ | refine zcz ?_ | refine zda ?_) | (refine zdb ?_; first | refine zdc ?_ | refine zdd ?_ | refine zde ?_ | refine zdf ?_ | refine zdg ?_ | refine zdh ?_ | refine zdi rfl ?_ | refine zdj rfl ?_) | refine zai rfl rfl ?_ | refine zaj rfl rfl rfl rfl ?_ | (refine zak rfl rfl rfl ?_; intro g) | (refine zal rfl rfl ?_; intro g) | (refine zag ?_; first | refine zam 0 rfl rfl rfl rfl rfl rfl ?_ | refine zam 1 rfl rfl rfl rfl rfl rfl ?_ | refine zam 2 rfl rfl rfl rfl rfl rfl ?_ | refine zam 3 rfl rfl rfl rfl rfl rfl ?_ | refine zam 4 rfl rfl rfl rfl rfl rfl ?_ | refine zam 5 rfl rfl rfl rfl rfl rfl ?_ | refine zan 0 rfl rfl rfl rfl rfl rfl rfl rfl rfl ?_ | refine zan 1 rfl rfl rfl rfl rfl rfl rfl rfl rfl ?_ | refine zan 2 rfl rfl rfl rfl rfl rfl rfl rfl rfl ?_ | refine zan 3 rfl rfl rfl rfl rfl rfl rfl rfl rfl ?_ | refine zan 4 rfl rfl rfl rfl rfl rfl rfl rfl rfl ?_ | refine zan 5 rfl rfl rfl rfl rfl rfl rfl rfl rfl ?_ | refine zao 0 rfl rfl rfl rfl rfl rfl ?_ | refine zao 1 rfl rfl rfl rfl rfl rfl ?_ | refine zao 2 rfl rfl rfl rfl rfl rfl ?_ | refine zao 3 rfl rfl rfl rfl rfl rfl ?_) | refine zaa rfl opj_buildN ?_ | refine zaa rfl (zco rfl rfl rfl rfl rfl rfl) ?_ | refine zaa rfl (zci rfl rfl hAF (Takes.lit Takes.nil)) ?_
        exact done_ret2X rfl rfl ⟨x, xc, b0, bc, G⟩ rfl rfl (by (repeat (first | exact mh | refine mt ?_)); done) rfl rfl rfl hy (List.Sublist.cons _ (List.Sublist.cons _ (List.Sublist.refl _)))
      · rw [hfn] at hAF
        repeat first | refine zaa rfl (zay rfl) ?_ | refine zaa rfl (zaz rfl) ?_ | (refine zac ?_; first | refine zaa rfl (zba rfl rfl rfl) ?_ | refine zaa rfl (zbb rfl rfl (by omega)) ?_ | refine zaa rfl (zbc rfl rfl (by omega)) ?_ | refine zaa rfl (zbd rfl rfl rfl) ?_ | refine zaa rfl (zbe rfl rfl) ?_ | refine zaa rfl (zbf rfl rfl) ?_ | refine zaa rfl (zbg rfl rfl) ?_ | refine zaa rfl (zbh rfl rfl) ?_ | refine zaa rfl (zbi rfl rfl) ?_ | refine zaa rfl (zbj rfl rfl) ?_ | refine zaa rfl (zbk rfl rfl) ?_ | refine zaa rfl (zbl rfl rfl) ?_) | (refine zad ?_; first | refine zaa rfl (zbm rfl) ?_ | refine zaa rfl (zbn rfl) ?_ | refine zaa rfl (zbp rfl) ?_ | refine zaa rfl (zbq rfl) ?_ | refine zaa rfl (zbr rfl rfl) ?_) | (refine zae ?_; first | refine zaa rfl (zcf rfl rfl (by (repeat (first | exact mh | refine mt ?_)); done) rfl) ?_ | refine zaa rfl (zcg rfl rfl (by (repeat (first | exact mh | refine mt ?_)); done) rfl rfl) ?_ | refine zaa rfl (zch rfl rfl rfl rfl) ?_ | refine zaa rfl (zbu rfl rfl) ?_) | (refine zaf ?_; first | refine zaa rfl (zbv rfl rfl (by omega) (by omega)) ?_ | refine zaa rfl (zbw rfl rfl (by omega) (by omega)) ?_) | refine zaa rfl (zcd rfl) ?_ | refine zaa rfl (zce rfl) ?_ | refine zaa rfl (zbx rfl) ?_ | refine zaa rfl (zby rfl) ?_ | refine zaa rfl (zbz rfl rfl) ?_ | refine zaa rfl (zca rfl rfl) ?_ | refine zaa rfl (zcb rfl rfl) ?_ | refine zaa rfl (zcc rfl) ?_ | refine zah ?_ | (refine zcr ?_; first | refine zcs ?_ | refine zct ?_ | refine zcu ?_ | refine zcv ?_ | refine zcw ?_ | refine zcx ?_ | refine zcy rfl ?_ | refine zcz ?_ | refine zda ?_) | (refine zdb ?_; first | refine zdc ?_ | refine zdd ?_ | refine zde ?_ | refine zdf ?_ | refine zdg ?_ | refine zdh ?_ | refine zdi rfl ?_ | refine zdj rfl ?_) | refine zai rfl rfl ?_ | refine zaj rfl rfl rfl rfl ?_ | (refine zak rfl rfl rfl ?_; intro g) | (refine zal rfl rfl ?_; intro g) | (refine zag ?_; first | refine zam 0 rfl rfl rfl rfl rfl rfl ?_ | refine zam 1 rfl rfl rfl rfl rfl rfl ?_ | refine zam 2 rfl rfl rfl rfl rfl rfl ?_ | refine zam 3 rfl rfl rfl rfl rfl rfl ?_ | refine zam 4 rfl rfl rfl rfl rfl rfl ?_ | refine zam 5 rfl rfl rfl rfl rfl rfl ?_ | refine zan 0 rfl rfl rfl rfl rfl rfl rfl rfl rfl ?_ | refine zan 1 rfl rfl rfl rfl rfl rfl rfl rfl rfl ?_ | refine zan 2 rfl rfl rfl rfl rfl rfl rfl rfl rfl ?_ | refine zan 3 rfl rfl rfl rfl rfl rfl rfl rfl rfl ?_ | refine zan 4 rfl rfl rfl rfl rfl rfl rfl rfl rfl ?_ | refine zan 5 rfl rfl rfl rfl rfl rfl rfl rfl rfl ?_ | refine zao 0 rfl rfl rfl rfl rfl rfl ?_ | refine zao 1 rfl rfl rfl rfl rfl rfl ?_ | refine zao 2 rfl rfl rfl rfl rfl rfl ?_ | refine zao 3 rfl rfl rfl rfl rfl rfl ?_) | refine zaa rfl (zco rfl rfl rfl rfl rfl rfl) ?_ | refine zaa rfl (zci rfl rfl hAF (Takes.lit Takes.nil)) ?_
        refine RS.perm (H' := netE ⟨x, xc, b0, bc, G⟩ 8 (sOf L) F ++ [⟨g, 47, [.raw (.slice (some ⟨x, 0, none⟩) 8 xc), .raw (.slice (some ⟨b0, 0, none⟩) F.length bc)], 2⟩, ⟨g6, 47, [nilA, nilA], 2⟩]) ?_ List.perm_append_comm
        refine rs_call (hV ⟨x, xc, b0, bc, G⟩ hy) rfl rfl (Takes.same Takes.nil) rfl fun _ _ => ?_
        refine RS.perm (H' := ⟨g, 47, [.raw (.slice (some ⟨x, 0, none⟩) 8 xc), .raw (.slice (some ⟨b0, 0, none⟩) F.length bc)], 2⟩ :: ⟨g6, 47, [nilA, nilA], 2⟩ :: netE ⟨x, xc, b0, bc, G⟩ 8 (sOf L) F) ?_ (List.perm_append_comm (l₁ := [_, _]))
        cases vb
        all_goals
          repeat first | refine zaa rfl (zay rfl) ?_ | refine zaa rfl (zaz rfl) ?_ | (refine zac ?_; first | refine zaa rfl (zba rfl rfl rfl) ?_ | refine zaa rfl (zbb rfl rfl (by omega)) ?_ | refine zaa rfl (zbc rfl rfl (by omega)) ?_ | refine zaa rfl (zbd rfl rfl rfl) ?_ | refine zaa rfl (zbe rfl rfl) ?_ | refine zaa rfl (zbf rfl rfl) ?_ | refine zaa rfl (zbg rfl rfl) ?_ | refine zaa rfl (zbh rfl rfl) ?_ | refine zaa rfl (zbi rfl rfl) ?_ | refine zaa rfl (zbj rfl rfl) ?_ | refine zaa rfl (zbk rfl rfl) ?_ | refine zaa rfl (zbl rfl rfl) ?_) | (refine zad ?_; first | refine zaa rfl (zbm rfl) ?_ | refine zaa rfl (zbn rfl) ?_ | refine zaa rfl (zbp rfl) ?_ | refine zaa rfl (zbq rfl) ?_ | refine zaa rfl (zbr rfl rfl) ?_) | (refine zae ?_; first | refine zaa rfl (zcf rfl rfl (by (repeat (first | exact mh | refine mt ?_)); done) rfl) ?_ | refine zaa rfl (zcg rfl rfl (by (repeat (first | exact mh | refine mt ?_)); done) rfl rfl) ?_ | refine zaa rfl (zch rfl rfl rfl rfl) ?_ | refine zaa rfl (zbu rfl rfl) ?_) | (refine zaf ?_; first | refine zaa rfl (zbv rfl rfl (by omega) (by omega)) ?_ | refine zaa rfl (zbw rfl rfl (by omega) (by omega)) ?_) | refine zaa rfl (zcd rfl) ?_ | refine zaa rfl (zce rfl) ?_ | refine zaa rfl (zbx rfl) ?_ | refine zaa rfl (zby rfl) ?_ | refine zaa rfl (zbz rfl rfl) ?_ | refine zaa rfl (zca rfl rfl) ?_ | refine zaa rfl (zcb rfl rfl) ?_ | refine zaa rfl (zcc rfl) ?_ | refine zah ?_ | (refine zcr ?_; first | refine zcs ?_ | refine zct ?_ | refine zcu ?_ | refine zcv ?_ | refine zcw ?_ | refine zcx ?_ | refine zcy rfl ?_ | refine zcz ?_ | refine zda ?_) | (refine zdb ?_; first | refine zdc ?_ | refine zdd ?_ | refine zde ?_ | refine zdf ?_ | refine zdg ?_ | refine zdh ?_ | refine zdi rfl ?_ | refine zdj rfl ?_) | refine zai rfl rfl ?_ | refine zaj rfl rfl rfl rfl ?_ | (refine zak rfl rfl rfl ?_; intro g) | (refine zal rfl rfl ?_; intro g) | (refine zag ?_; first | refine zam 0 rfl rfl rfl rfl rfl rfl ?_ | refine zam 1 rfl rfl rfl rfl rfl rfl ?_ | refine zam 2 rfl rfl rfl rfl rfl rfl ?_ | refine zam 3 rfl rfl rfl rfl rfl rfl ?_ | refine zam 4 rfl rfl rfl rfl rfl rfl ?_ | refine zam 5 rfl rfl rfl rfl rfl rfl ?_ | refine zan 0 rfl rfl rfl rfl rfl rfl rfl rfl rfl ?_ | refine zan 1 rfl rfl rfl rfl rfl rfl rfl rfl rfl ?_ | refine zan 2 rfl rfl rfl rfl rfl rfl rfl rfl rfl ?_ | refine zan 3 rfl rfl rfl rfl rfl rfl rfl rfl rfl ?_ | refine zan 4 rfl rfl rfl rfl rfl rfl rfl rfl rfl ?_ | refine zan 5 rfl rfl rfl rfl rfl rfl rfl rfl rfl ?_ | refine zao 0 rfl rfl rfl rfl rfl rfl ?_ | refine zao 1 rfl rfl rfl rfl rfl rfl ?_ | refine zao 2 rfl rfl rfl rfl rfl rfl ?_ | refine zao 3 rfl rfl rfl rfl rfl rfl ?_)
          exact done_ret2X rfl rfl ⟨x, xc, b0, bc, G⟩ rfl rfl (by (repeat (first | exact mh | refine mt ?_)); done) rfl rfl rfl hy (List.Sublist.cons _ (List.Sublist.cons _ (List.Sublist.refl _)))
end Go.Ab
