/- Part 12 of the texts on which the law leans, joined: A straight path, and the path beside it, reckoned. No conditions. -/
import Derived.Test.YtljgokghchhjaaaZak
namespace Go.Ab
open Go.Proofs
variable {R : World → Prop} [RStab R]
abbrev two2 : FV := fv .f32 1073741824
abbrev three3 : FV := fv .f32 1077936128
abbrev six6 : FV := fv .f32 1086324736
def ahS (h a b : FV) : FV := fbin .quo .f32 (fbin .sub .f32 b a) h
def ahU (h a b m n : FV) : FV := fbin .quo .f32 (fbin .mul .f32 (fbin .sub .f32 (ahS h a b) (fbin .quo .f32 (fbin .mul .f32 h (fbin .add .f32 (fbin .mul .f32 two2 m) n)) six6)) h) three3
def ahV (h a b m n : FV) : FV := fbin .quo .f32 (fbin .mul .f32 (fbin .add .f32 (ahS h a b) (fbin .quo .f32 (fbin .mul .f32 h (fbin .add .f32 m (fbin .mul .f32 two2 n))) six6)) h) three3
attribute [local irreducible] WS RS Done OpJ Then InBlock Round Ret Env.sub FnH
attribute [local irreducible] tab tabC crvsC
theorem ahead_fn (h a b m n : FV) : Fn Try.prog 45 (fun _ => [.f .f32 a, .f .f32 b, .f .f32 m, .f .f32 n, AV.ptr [.f .f32 h]]) (.tup [.f .f32 (ahU h a b m n), .f .f32 (ahV h a b m n)]) := by
  refine fn_intro Try.func45 rfl Try.ntmps45 (fun _ => Nat.le_of_ble_eq_true rfl) fun w0 => ?_
  repeat first | refine zai rfl rfl ?_ | refine zaj rfl rfl rfl rfl ?_ | refine zaa rfl (zay rfl) ?_ | refine zaa rfl (zaz rfl) ?_ | (refine zac ?_; first | refine zaa rfl (zba rfl rfl rfl) ?_ | refine zaa rfl (zbb rfl rfl (by omega)) ?_ | refine zaa rfl (zbc rfl rfl (by omega)) ?_ | refine zaa rfl (zbd rfl rfl rfl) ?_ | refine zaa rfl (zbe rfl rfl) ?_ | refine zaa rfl (zbf rfl rfl) ?_ | refine zaa rfl (zbg rfl rfl) ?_ | refine zaa rfl (zbh rfl rfl) ?_ | refine zaa rfl (zbi rfl rfl) ?_ | refine zaa rfl (zbj rfl rfl) ?_ | refine zaa rfl (zbk rfl rfl) ?_ | refine zaa rfl (zbl rfl rfl) ?_) | (refine zad ?_; first | refine zaa rfl (opj_lenC rfl) ?_ | refine zaa rfl (zbo rfl) ?_ | refine zaa rfl (zbm rfl) ?_ | refine zaa rfl (zbn rfl) ?_ | refine zaa rfl (zbp rfl) ?_ | refine zaa rfl (zbq rfl) ?_ | refine zaa rfl (zbr rfl rfl) ?_) | (refine zae ?_; first | refine zaa rfl (opj_loadC rfl rfl (by (repeat (first | exact mh | refine mt ?_)); done) (by omega)) ?_ | refine zaa rfl (zbt rfl rfl (by (repeat (first | exact mh | refine mt ?_)); done) (by omega)) ?_ | refine zaa rfl (zcf rfl rfl (by (repeat (first | exact mh | refine mt ?_)); done) rfl) ?_ | refine zaa rfl (zcg rfl rfl (by (repeat (first | exact mh | refine mt ?_)); done) rfl rfl) ?_ | refine zaa rfl (zch rfl rfl rfl rfl) ?_ | refine zaa rfl (zbu rfl rfl) ?_) | (refine zaf ?_; first | refine zaa rfl (opj_indexC rfl rfl (by omega) (by omega)) ?_ | refine zaa rfl (zbs rfl rfl (by omega) (by omega)) ?_ | refine zaa rfl (zbv rfl rfl (by omega) (by omega)) ?_ | refine zaa rfl (zbw rfl rfl (by omega) (by omega)) ?_) | refine zaa rfl (zcd rfl) ?_ | refine zaa rfl (zce rfl) ?_ | refine zaa rfl (zbx rfl) ?_ | refine zaa rfl (zby rfl) ?_ | refine zaa rfl (zbz rfl rfl) ?_ | refine zaa rfl (zca rfl rfl) ?_ | refine zaa rfl (zcb rfl rfl) ?_ | refine zaa rfl (zcc rfl) ?_ | refine zah ?_ | (refine zcr ?_; first | refine zcs ?_ | refine zct ?_ | refine zcu ?_ | refine zcv ?_ | refine zcw ?_ | refine zcx ?_ | refine zcy rfl ?_ | refine zcz ?_ | refine zda ?_) | (refine zdb ?_; first | refine zdc ?_ | refine zdd ?_ | refine zde ?_ | refine zdf ?_ | refine zdg ?_ | refine zdh ?_ | refine zdi rfl ?_ | refine zdj rfl ?_) | (refine zak rfl rfl rfl ?_; intro g) | (refine zal rfl rfl ?_; intro g) | (refine zag ?_; first | refine zam 0 rfl rfl rfl rfl rfl rfl ?_ | refine zam 1 rfl rfl rfl rfl rfl rfl ?_ | refine zan 0 rfl rfl rfl rfl rfl rfl rfl rfl rfl ?_ | refine zan 1 rfl rfl rfl rfl rfl rfl rfl rfl rfl ?_ | refine zao 0 rfl rfl rfl rfl rfl rfl ?_ | refine zao 1 rfl rfl rfl rfl rfl rfl ?_)
  exact done_ret2 rfl () rfl rfl rfl trivial (List.nil_sublist _)
def reF (P : Nat → CV) (i : Int) : FV := (P i.toNat).1
def imF (P : Nat → CV) (i : Int) : FV := (P i.toNat).2
/-- The points of a piece that goes without waves. -/
def natQ (at_ : Int → FV) (n : Nat) (P : Nat → CV) (i j : Nat) : CV :=
  let h := fbin .sub .f32 (at_ ((i : Int) + 1)) (at_ i)
  let x := bendT n at_ (reF P)
  let y := bendT n at_ (imF P)
  if j = 0 then P i
  else if j = 1 then addC2 (P i) (ahU h (P i).1 (P (i + 1)).1 (x i) (x ((i : Int) + 1)), ahU h (P i).2 (P (i + 1)).2 (y i) (y ((i : Int) + 1)))
  else if j = 2 then subC2 (P (i + 1)) (ahV h (P i).1 (P (i + 1)).1 (x i) (x ((i : Int) + 1)), ahV h (P i).2 (P (i + 1)).2 (y i) (y ((i : Int) + 1)))
  else P (i + 1)
section
variable {P : Program} {S : World → Prop} {e : Env} {dst : Option Tmp} {ty : TypeId} {pos : String} {after : Array Edge} {guard : Option (Nat × Bool)}
theorem opj_makeFunc1 {c : FuncId} {X : Operand} {u : Value} (hx : e.ev X = some (.raw u)) :
    OpJ P S e ⟨dst, .makeFunc (.func c) #[] #[X], ty, pos, after, guard⟩ (.raw (.func (.func c) #[] #[u])) :=
  opj_value fun a w _ h => by
    have h1 := (h X (by simp [Op.operands]) _ hx).inv_raw
    exact ⟨_, w, by simp [execOp, h1, Instr.makeFunc], Ext.refl _, .raw⟩
end
set_option maxRecDepth 100000 in
set_option maxHeartbeats 4000000 in
theorem natural_fn {n : Nat} {P : Nat → CV} {at_ : Int → FV} (hn : 2 ≤ n ∧ n ≤ 48)
    (hP : FnH (X := Nat × Nat) Try.prog 13 (fun W => [slC W (tabC n P), .f .f32 (fv .f32 1065353216)]) [] (fun y => .tup [.raw (.slice (some ⟨y.1, 0, none⟩) n y.2), .raw (.bool true)]) (fun y => [entF y.1 24 n at_ y.2]) (fun y => n ≤ y.2 ∧ y.2 ≤ maxLen))
    (hX : FnH (X := Nat) Try.prog 44 (fun w => [slF w (tab n at_), slF w (tab n (reF P))]) [] (fun q => lstT q n) (fun q => [entF q 24 n (bendT n at_ (reF P)) n]) (fun _ => True))
    (hY : FnH (X := Nat) Try.prog 44 (fun w => [slF w (tab n at_), slF w (tab n (imF P))]) [] (fun q => lstT q n) (fun q => [entF q 24 n (bendT n at_ (imF P)) n]) (fun _ => True))
    (hQ : ∀ i, i + 1 < n → (tabC 4 (natQ at_ n P i)).all finC = true) :
    FnH (X := Nat × Nat × (Nat → Nat) × (Nat → Nat)) Try.prog 15 (fun w => [slC w (tabC n P)]) []
      (fun y => .tup [.raw (.slice (some ⟨y.1, 0, none⟩) (n - 1) y.2.1), .raw (.bool true)]) (fun y => entV y.1 y.2.2.1 y.2.2.2 (n - 1) y.2.1 :: rowsV y.2.2.1 y.2.2.2 (natQ at_ n P) (n - 1)) (fun y => n - 1 ≤ y.2.1 ∧ y.2.1 ≤ maxLen) := by
  refine fn_intro Try.func15 rfl Try.ntmps15 (fun _ => Nat.le_of_ble_eq_true rfl) fun w0 => ?_
  repeat first | refine zai rfl rfl ?_ | refine zaj rfl rfl rfl rfl ?_ | refine zaa rfl (zay rfl) ?_ | refine zaa rfl (zaz rfl) ?_ | (refine zac ?_; first | refine zaa rfl (zba rfl rfl rfl) ?_ | refine zaa rfl (zbb rfl rfl (by omega)) ?_ | refine zaa rfl (zbc rfl rfl (by omega)) ?_ | refine zaa rfl (zbd rfl rfl rfl) ?_ | refine zaa rfl (zbe rfl rfl) ?_ | refine zaa rfl (zbf rfl rfl) ?_ | refine zaa rfl (zbg rfl rfl) ?_ | refine zaa rfl (zbh rfl rfl) ?_ | refine zaa rfl (zbi rfl rfl) ?_ | refine zaa rfl (zbj rfl rfl) ?_ | refine zaa rfl (zbk rfl rfl) ?_ | refine zaa rfl (zbl rfl rfl) ?_) | (refine zad ?_; first | refine zaa rfl (opj_lenC rfl) ?_ | refine zaa rfl (zbo rfl) ?_ | refine zaa rfl (zbm rfl) ?_ | refine zaa rfl (zbn rfl) ?_ | refine zaa rfl (zbp rfl) ?_ | refine zaa rfl (zbq rfl) ?_ | refine zaa rfl (zbr rfl rfl) ?_ | (refine rs_call1 (hP) rfl rfl ?_ rfl ?_; (focus ((repeat (first | exact Takes.nil | refine Takes.sl ?_ | refine Takes.lit ?_ | refine Takes.fa ?_ | refine Takes.fc ?_ | refine Takes.net ?_ | (refine Takes.ownE ?_ ?_ ?_ ?_ ?_; (focus (exact ⟨_, _, (by (repeat (first | exact mh | refine mt ?_)); done)⟩)); (focus (simp; done)); (focus omega); (focus (simp only [maxLen]; omega))) | refine Takes.same ?_)); done)); rintro ⟨ga, ca⟩ ⟨ha1, ha2⟩; simp only at ha1 ha2)) | (refine zae ?_; first | refine zaa rfl (opj_loadC rfl rfl (by (repeat (first | exact mh | refine mt ?_)); done) (by omega)) ?_ | refine zaa rfl (zbt rfl rfl (by (repeat (first | exact mh | refine mt ?_)); done) (by omega)) ?_ | refine zaa rfl (zcf rfl rfl (by (repeat (first | exact mh | refine mt ?_)); done) rfl) ?_ | refine zaa rfl (zcg rfl rfl (by (repeat (first | exact mh | refine mt ?_)); done) rfl rfl) ?_ | refine zaa rfl (zch rfl rfl rfl rfl) ?_ | refine zaa rfl (zbu rfl rfl) ?_) | (refine zaf ?_; first | refine zaa rfl (opj_indexC rfl rfl (by omega) (by omega)) ?_ | refine zaa rfl (zbs rfl rfl (by omega) (by omega)) ?_ | refine zaa rfl (zbv rfl rfl (by omega) (by omega)) ?_ | refine zaa rfl (zbw rfl rfl (by omega) (by omega)) ?_) | refine zaa rfl (zcd rfl) ?_ | refine zaa rfl (zce rfl) ?_ | refine zaa rfl (zbx rfl) ?_ | refine zaa rfl (zby rfl) ?_ | refine zaa rfl (zbz rfl rfl) ?_ | refine zaa rfl (zca rfl rfl) ?_ | refine zaa rfl (zcb rfl rfl) ?_ | refine zaa rfl (zcc rfl) ?_ | refine zah ?_ | (refine zcr ?_; first | refine zcs ?_ | refine zct ?_ | refine zcu ?_ | refine zcv ?_ | refine zcw ?_ | refine zcx ?_ | refine zcy rfl ?_ | refine zcz ?_ | refine zda ?_) | (refine zdb ?_; first | refine zdc ?_ | refine zdd ?_ | refine zde ?_ | refine zdf ?_ | refine zdg ?_ | refine zdh ?_ | refine zdi rfl ?_ | refine zdj rfl ?_) | (refine zak rfl rfl rfl ?_; intro g) | (refine zal rfl rfl ?_; intro g) | (refine zag ?_; first | refine zam 0 rfl rfl rfl rfl rfl rfl ?_ | refine zam 1 rfl rfl rfl rfl rfl rfl ?_ | refine zan 0 rfl rfl rfl rfl rfl rfl rfl rfl rfl ?_ | refine zan 1 rfl rfl rfl rfl rfl rfl rfl rfl rfl ?_ | refine zao 0 rfl rfl rfl rfl rfl rfl ?_ | refine zao 1 rfl rfl rfl rfl rfl rfl ?_) | (refine rs_lit0 rfl ?_; intro g0)
  rename_i gx
  have z1 : ∀ (g : Nat) (f : Int → FV), (⟨g, 24, [], 0⟩ : Ent) = entF g 24 0 f 0 := fun g f => by unfold entF tab; rfl
  rw [z1 g0 (imF P), z1 gx (reF P)]
  refine ws_loop (ι := Nat × (Nat × Nat) × (Nat × Nat)) (fun y => [(0, slC w0 (tabC n P)), (4, .raw (.slice (some ⟨ga, 0, none⟩) n ca)), (6, .raw (.slice (some ⟨y.2.1.1, 0, none⟩) y.1 y.2.1.2)), (7, .raw (.slice (some ⟨y.2.2.1, 0, none⟩) y.1 y.2.2.2)), (35, slC w0 (tabC n P)), (36, .raw (.int .i64 n)), (37, .raw (.int .i64 y.1))])
    (fun y => St w0 [] [entF y.2.2.1 24 y.1 (imF P) y.2.2.2, entF y.2.1.1 24 y.1 (reF P) y.2.1.2, entF ga 24 n at_ ca]) (fun y => y.1 ≤ n ∧ (y.1 ≤ y.2.1.2 ∧ y.2.1.2 ≤ maxLen) ∧ y.1 ≤ y.2.2.2 ∧ y.2.2.2 ≤ maxLen) (fun y => n - y.1) (0, (gx, 0), (g0, 0)) ⟨Nat.zero_le _, ⟨Nat.le_refl _, Nat.zero_le _⟩, Nat.le_refl _, Nat.zero_le _⟩ ?_ (fun _ h => h) (fun y hy => ?_)
  · (repeat (first | exact Env.sub_nil _ | refine Env.sub_cons rfl ?_))
  obtain ⟨k, ⟨gx, cx⟩, gy, cy⟩ := y
  simp only at hy ⊢
  obtain ⟨hk, ⟨hx1, hx2⟩, hy1, hy2⟩ := hy
  repeat first | refine zai rfl rfl ?_ | refine zaj rfl rfl rfl rfl ?_ | refine zaa rfl (zay rfl) ?_ | refine zaa rfl (zaz rfl) ?_ | (refine zac ?_; first | refine zaa rfl (zba rfl rfl rfl) ?_ | refine zaa rfl (zbb rfl rfl (by omega)) ?_ | refine zaa rfl (zbc rfl rfl (by omega)) ?_ | refine zaa rfl (zbd rfl rfl rfl) ?_ | refine zaa rfl (zbe rfl rfl) ?_ | refine zaa rfl (zbf rfl rfl) ?_ | refine zaa rfl (zbg rfl rfl) ?_ | refine zaa rfl (zbh rfl rfl) ?_ | refine zaa rfl (zbi rfl rfl) ?_ | refine zaa rfl (zbj rfl rfl) ?_ | refine zaa rfl (zbk rfl rfl) ?_ | refine zaa rfl (zbl rfl rfl) ?_) | (refine zad ?_; first | refine zaa rfl (opj_lenC rfl) ?_ | refine zaa rfl (zbo rfl) ?_ | refine zaa rfl (zbm rfl) ?_ | refine zaa rfl (zbn rfl) ?_ | refine zaa rfl (zbp rfl) ?_ | refine zaa rfl (zbq rfl) ?_ | refine zaa rfl (zbr rfl rfl) ?_) | (refine zae ?_; first | refine zaa rfl (opj_loadC rfl rfl (by (repeat (first | exact mh | refine mt ?_)); done) (by omega)) ?_ | refine zaa rfl (zbt rfl rfl (by (repeat (first | exact mh | refine mt ?_)); done) (by omega)) ?_ | refine zaa rfl (zcf rfl rfl (by (repeat (first | exact mh | refine mt ?_)); done) rfl) ?_ | refine zaa rfl (zcg rfl rfl (by (repeat (first | exact mh | refine mt ?_)); done) rfl rfl) ?_ | refine zaa rfl (zch rfl rfl rfl rfl) ?_ | refine zaa rfl (zbu rfl rfl) ?_) | (refine zaf ?_; first | refine zaa rfl (opj_indexC rfl rfl (by omega) (by omega)) ?_ | refine zaa rfl (zbs rfl rfl (by omega) (by omega)) ?_ | refine zaa rfl (zbv rfl rfl (by omega) (by omega)) ?_ | refine zaa rfl (zbw rfl rfl (by omega) (by omega)) ?_) | refine zaa rfl (zcd rfl) ?_ | refine zaa rfl (zce rfl) ?_ | refine zaa rfl (zbx rfl) ?_ | refine zaa rfl (zby rfl) ?_ | refine zaa rfl (zbz rfl rfl) ?_ | refine zaa rfl (zca rfl rfl) ?_ | refine zaa rfl (zcb rfl rfl) ?_ | refine zaa rfl (zcc rfl) ?_ | refine zah ?_ | (refine zcr ?_; first | refine zcs ?_ | refine zct ?_ | refine zcu ?_ | refine zcv ?_ | refine zcw ?_ | refine zcx ?_ | refine zcy rfl ?_ | refine zcz ?_ | refine zda ?_) | (refine zdb ?_; first | refine zdc ?_ | refine zdd ?_ | refine zde ?_ | refine zdf ?_ | refine zdg ?_ | refine zdh ?_ | refine zdi rfl ?_ | refine zdj rfl ?_) | (refine zak rfl rfl rfl ?_; intro g) | (refine zal rfl rfl ?_; intro g) | (refine zag ?_; first | refine zam 0 rfl rfl rfl rfl rfl rfl ?_ | refine zam 1 rfl rfl rfl rfl rfl rfl ?_ | refine zan 0 rfl rfl rfl rfl rfl rfl rfl rfl rfl ?_ | refine zan 1 rfl rfl rfl rfl rfl rfl rfl rfl rfl ?_ | refine zao 0 rfl rfl rfl rfl rfl rfl ?_ | refine zao 1 rfl rfl rfl rfl rfl rfl ?_)
  refine ws_cond rfl (fun hd => ?_) (fun hd => ?_)
  · have hlt : (k : Int) < n := of_decide_eq_true hd
    have hnext : ((k + 1 : Nat) : Int) = (k : Int) + 1 := by omega
    repeat first | refine zai rfl rfl ?_ | refine zaj rfl rfl rfl rfl ?_ | refine zaa rfl (zay rfl) ?_ | refine zaa rfl (zaz rfl) ?_ | (refine zac ?_; first | refine zaa rfl (zba rfl rfl rfl) ?_ | refine zaa rfl (zbb rfl rfl (by omega)) ?_ | refine zaa rfl (zbc rfl rfl (by omega)) ?_ | refine zaa rfl (zbd rfl rfl rfl) ?_ | refine zaa rfl (zbe rfl rfl) ?_ | refine zaa rfl (zbf rfl rfl) ?_ | refine zaa rfl (zbg rfl rfl) ?_ | refine zaa rfl (zbh rfl rfl) ?_ | refine zaa rfl (zbi rfl rfl) ?_ | refine zaa rfl (zbj rfl rfl) ?_ | refine zaa rfl (zbk rfl rfl) ?_ | refine zaa rfl (zbl rfl rfl) ?_) | (refine zad ?_; first | refine zaa rfl (opj_lenC rfl) ?_ | refine zaa rfl (zbo rfl) ?_ | refine zaa rfl (zbm rfl) ?_ | refine zaa rfl (zbn rfl) ?_ | refine zaa rfl (zbp rfl) ?_ | refine zaa rfl (zbq rfl) ?_ | refine zaa rfl (zbr rfl rfl) ?_) | (refine zae ?_; first | refine zaa rfl (opj_loadC rfl rfl (by (repeat (first | exact mh | refine mt ?_)); done) (by omega)) ?_ | refine zaa rfl (zbt rfl rfl (by (repeat (first | exact mh | refine mt ?_)); done) (by omega)) ?_ | refine zaa rfl (zcf rfl rfl (by (repeat (first | exact mh | refine mt ?_)); done) rfl) ?_ | refine zaa rfl (zcg rfl rfl (by (repeat (first | exact mh | refine mt ?_)); done) rfl rfl) ?_ | refine zaa rfl (zch rfl rfl rfl rfl) ?_ | refine zaa rfl (zbu rfl rfl) ?_) | (refine zaf ?_; first | refine zaa rfl (opj_indexC rfl rfl (by omega) (by omega)) ?_ | refine zaa rfl (zbs rfl rfl (by omega) (by omega)) ?_ | refine zaa rfl (zbv rfl rfl (by omega) (by omega)) ?_ | refine zaa rfl (zbw rfl rfl (by omega) (by omega)) ?_) | refine zaa rfl (zcd rfl) ?_ | refine zaa rfl (zce rfl) ?_ | refine zaa rfl (zbx rfl) ?_ | refine zaa rfl (zby rfl) ?_ | refine zaa rfl (zbz rfl rfl) ?_ | refine zaa rfl (zca rfl rfl) ?_ | refine zaa rfl (zcb rfl rfl) ?_ | refine zaa rfl (zcc rfl) ?_ | refine zah ?_ | (refine zcr ?_; first | refine zcs ?_ | refine zct ?_ | refine zcu ?_ | refine zcv ?_ | refine zcw ?_ | refine zcx ?_ | refine zcy rfl ?_ | refine zcz ?_ | refine zda ?_) | (refine zdb ?_; first | refine zdc ?_ | refine zdd ?_ | refine zde ?_ | refine zdf ?_ | refine zdg ?_ | refine zdh ?_ | refine zdi rfl ?_ | refine zdj rfl ?_) | (refine zak rfl rfl rfl ?_; intro g) | (refine zal rfl rfl ?_; intro g) | (refine zag ?_; first | refine zam 0 rfl rfl rfl rfl rfl rfl ?_ | refine zam 1 rfl rfl rfl rfl rfl rfl ?_ | refine zan 0 rfl rfl rfl rfl rfl rfl rfl rfl rfl ?_ | refine zan 1 rfl rfl rfl rfl rfl rfl rfl rfl rfl ?_ | refine zao 0 rfl rfl rfl rfl rfl rfl ?_ | refine zao 1 rfl rfl rfl rfl rfl rfl ?_) | refine zaa rfl (zco (t := 37) rfl rfl rfl rfl rfl rfl) ?_ | (refine rs_appendT 1 (reF P) (n := k) rfl rfl rfl rfl ⟨hx1, hx2⟩ (by omega) rfl rfl rfl (fun _ _ _ => rfl) ?_; intro gx' cx' hx1' hx2') | (refine rs_appendT 0 (imF P) (n := k) rfl rfl rfl rfl ⟨hy1, hy2⟩ (by omega) rfl rfl rfl (fun _ _ _ => rfl) ?_; intro gy' cy' hy1' hy2')
    refine done_round (k + 1, (gx', cx'), (gy', cy')) (by simp only; omega) (by simp only; omega) ?_ (fun _ h => h)
    simp only
    rw [hnext]
    (repeat (first | exact Env.sub_nil _ | refine Env.sub_cons rfl ?_))
  · have hkn : k = n := by have := of_decide_eq_false hd; omega
    subst hkn
    unfold lstT at hX hY
    simp only [maxLen] at ha2 hx2 hy2
    repeat first | refine zai rfl rfl ?_ | refine zaj rfl rfl rfl rfl ?_ | refine zaa rfl (zay rfl) ?_ | refine zaa rfl (zaz rfl) ?_ | (refine zac ?_; first | refine zaa rfl (zba rfl rfl rfl) ?_ | refine zaa rfl (zbb rfl rfl (by omega)) ?_ | refine zaa rfl (zbc rfl rfl (by omega)) ?_ | refine zaa rfl (zbd rfl rfl rfl) ?_ | refine zaa rfl (zbe rfl rfl) ?_ | refine zaa rfl (zbf rfl rfl) ?_ | refine zaa rfl (zbg rfl rfl) ?_ | refine zaa rfl (zbh rfl rfl) ?_ | refine zaa rfl (zbi rfl rfl) ?_ | refine zaa rfl (zbj rfl rfl) ?_ | refine zaa rfl (zbk rfl rfl) ?_ | refine zaa rfl (zbl rfl rfl) ?_) | (refine zad ?_; first | refine zaa rfl (opj_lenC rfl) ?_ | refine zaa rfl (zbo rfl) ?_ | refine zaa rfl (zbm rfl) ?_ | refine zaa rfl (zbn rfl) ?_ | refine zaa rfl (zbp rfl) ?_ | refine zaa rfl (zbq rfl) ?_ | refine zaa rfl (zbr rfl rfl) ?_ | (refine rs_call1 (hX) rfl rfl ?_ rfl ?_; (focus ((repeat (first | exact Takes.nil | refine Takes.sl ?_ | refine Takes.lit ?_ | refine Takes.fa ?_ | refine Takes.fc ?_ | refine Takes.net ?_ | (refine Takes.ownE ?_ ?_ ?_ ?_ ?_; (focus (exact ⟨_, _, (by (repeat (first | exact mh | refine mt ?_)); done)⟩)); (focus (simp; done)); (focus omega); (focus (simp only [maxLen]; omega))) | refine Takes.same ?_)); done)); rintro bx -) | (refine rs_call1 (hY) rfl rfl ?_ rfl ?_; (focus ((repeat (first | exact Takes.nil | refine Takes.sl ?_ | refine Takes.lit ?_ | refine Takes.fa ?_ | refine Takes.fc ?_ | refine Takes.net ?_ | (refine Takes.ownE ?_ ?_ ?_ ?_ ?_; (focus (exact ⟨_, _, (by (repeat (first | exact mh | refine mt ?_)); done)⟩)); (focus (simp; done)); (focus omega); (focus (simp only [maxLen]; omega))) | refine Takes.same ?_)); done)); rintro by_ -)) | (refine zae ?_; first | refine zaa rfl (opj_loadC rfl rfl (by (repeat (first | exact mh | refine mt ?_)); done) (by omega)) ?_ | refine zaa rfl (zbt rfl rfl (by (repeat (first | exact mh | refine mt ?_)); done) (by omega)) ?_ | refine zaa rfl (zcf rfl rfl (by (repeat (first | exact mh | refine mt ?_)); done) rfl) ?_ | refine zaa rfl (zcg rfl rfl (by (repeat (first | exact mh | refine mt ?_)); done) rfl rfl) ?_ | refine zaa rfl (zch rfl rfl rfl rfl) ?_ | refine zaa rfl (zbu rfl rfl) ?_) | (refine zaf ?_; first | refine zaa rfl (opj_indexC rfl rfl (by omega) (by omega)) ?_ | refine zaa rfl (zbs rfl rfl (by omega) (by omega)) ?_ | refine zaa rfl (zbv rfl rfl (by omega) (by omega)) ?_ | refine zaa rfl (zbw rfl rfl (by omega) (by omega)) ?_) | refine zaa rfl (zcd rfl) ?_ | refine zaa rfl (zce rfl) ?_ | refine zaa rfl (zbx rfl) ?_ | refine zaa rfl (zby rfl) ?_ | refine zaa rfl (zbz rfl rfl) ?_ | refine zaa rfl (zca rfl rfl) ?_ | refine zaa rfl (zcb rfl rfl) ?_ | refine zaa rfl (zcc rfl) ?_ | refine zah ?_ | (refine zcr ?_; first | refine zcs ?_ | refine zct ?_ | refine zcu ?_ | refine zcv ?_ | refine zcw ?_ | refine zcx ?_ | refine zcy rfl ?_ | refine zcz ?_ | refine zda ?_) | (refine zdb ?_; first | refine zdc ?_ | refine zdd ?_ | refine zde ?_ | refine zdf ?_ | refine zdg ?_ | refine zdh ?_ | refine zdi rfl ?_ | refine zdj rfl ?_) | (refine zak rfl rfl rfl ?_; intro g) | (refine zal rfl rfl ?_; intro g) | (refine zag ?_; first | refine zam 0 rfl rfl rfl rfl rfl rfl ?_ | refine zam 1 rfl rfl rfl rfl rfl rfl ?_ | refine zan 0 rfl rfl rfl rfl rfl rfl rfl rfl rfl ?_ | refine zan 1 rfl rfl rfl rfl rfl rfl rfl rfl rfl ?_ | refine zao 0 rfl rfl rfl rfl rfl rfl ?_ | refine zao 1 rfl rfl rfl rfl rfl rfl ?_) | (refine rs_lit0 rfl ?_; intro g1)
    clear hX hY
    refine ws_loop (ι := Nat × Nat × Nat × (Nat → Nat) × (Nat → Nat)) (fun y => [(0, slC w0 (tabC k P)), (4, .raw (.slice (some ⟨ga, 0, none⟩) k ca)), (10, .raw (.slice (some ⟨bx, 0, none⟩) k k)), (12, .raw (.slice (some ⟨by_, 0, none⟩) k k)), (14, .raw (.slice (some ⟨y.2.1, 0, none⟩) y.1 y.2.2.1)), (73, .raw (.int .i64 ((k : Int) - 1))), (74, .raw (.int .i64 y.1))])
      (fun y => St w0 [] (entV y.2.1 y.2.2.2.1 y.2.2.2.2 y.1 y.2.2.1 :: entF by_ 24 k (bendT k at_ (imF P)) k :: entF bx 24 k (bendT k at_ (reF P)) k :: entF ga 24 k at_ ca :: rowsV y.2.2.2.1 y.2.2.2.2 (natQ at_ k P) y.1)) (fun y => y.1 + 1 ≤ k ∧ y.1 ≤ y.2.2.1 ∧ y.2.2.1 ≤ maxLen) (fun y => k - y.1) (0, g1, 0, id, id) ⟨by simp only; omega, Nat.le_refl _, Nat.zero_le _⟩ ?_ (fun _ h => h.weak (.cons_cons _ (.cons_cons _ (.cons_cons _ (.cons _ (.cons _ (List.Sublist.refl _))))))) (fun y hy => ?_)
    · (repeat (first | exact Env.sub_nil _ | refine Env.sub_cons rfl ?_))
    obtain ⟨i, g, cap, A, B⟩ := y
    simp only at hy ⊢
    obtain ⟨hi, hc1, hc2⟩ := hy
    repeat first | refine zai rfl rfl ?_ | refine zaj rfl rfl rfl rfl ?_ | refine zaa rfl (zay rfl) ?_ | refine zaa rfl (zaz rfl) ?_ | (refine zac ?_; first | refine zaa rfl (zba rfl rfl rfl) ?_ | refine zaa rfl (zbb rfl rfl (by omega)) ?_ | refine zaa rfl (zbc rfl rfl (by omega)) ?_ | refine zaa rfl (zbd rfl rfl rfl) ?_ | refine zaa rfl (zbe rfl rfl) ?_ | refine zaa rfl (zbf rfl rfl) ?_ | refine zaa rfl (zbg rfl rfl) ?_ | refine zaa rfl (zbh rfl rfl) ?_ | refine zaa rfl (zbi rfl rfl) ?_ | refine zaa rfl (zbj rfl rfl) ?_ | refine zaa rfl (zbk rfl rfl) ?_ | refine zaa rfl (zbl rfl rfl) ?_) | (refine zad ?_; first | refine zaa rfl (opj_lenC rfl) ?_ | refine zaa rfl (zbo rfl) ?_ | refine zaa rfl (zbm rfl) ?_ | refine zaa rfl (zbn rfl) ?_ | refine zaa rfl (zbp rfl) ?_ | refine zaa rfl (zbq rfl) ?_ | refine zaa rfl (zbr rfl rfl) ?_) | (refine zae ?_; first | refine zaa rfl (opj_loadC rfl rfl (by (repeat (first | exact mh | refine mt ?_)); done) (by omega)) ?_ | refine zaa rfl (zbt rfl rfl (by (repeat (first | exact mh | refine mt ?_)); done) (by omega)) ?_ | refine zaa rfl (zcf rfl rfl (by (repeat (first | exact mh | refine mt ?_)); done) rfl) ?_ | refine zaa rfl (zcg rfl rfl (by (repeat (first | exact mh | refine mt ?_)); done) rfl rfl) ?_ | refine zaa rfl (zch rfl rfl rfl rfl) ?_ | refine zaa rfl (zbu rfl rfl) ?_) | (refine zaf ?_; first | refine zaa rfl (opj_indexC rfl rfl (by omega) (by omega)) ?_ | refine zaa rfl (zbs rfl rfl (by omega) (by omega)) ?_ | refine zaa rfl (zbv rfl rfl (by omega) (by omega)) ?_ | refine zaa rfl (zbw rfl rfl (by omega) (by omega)) ?_) | refine zaa rfl (zcd rfl) ?_ | refine zaa rfl (zce rfl) ?_ | refine zaa rfl (zbx rfl) ?_ | refine zaa rfl (zby rfl) ?_ | refine zaa rfl (zbz rfl rfl) ?_ | refine zaa rfl (zca rfl rfl) ?_ | refine zaa rfl (zcb rfl rfl) ?_ | refine zaa rfl (zcc rfl) ?_ | refine zah ?_ | (refine zcr ?_; first | refine zcs ?_ | refine zct ?_ | refine zcu ?_ | refine zcv ?_ | refine zcw ?_ | refine zcx ?_ | refine zcy rfl ?_ | refine zcz ?_ | refine zda ?_) | (refine zdb ?_; first | refine zdc ?_ | refine zdd ?_ | refine zde ?_ | refine zdf ?_ | refine zdg ?_ | refine zdh ?_ | refine zdi rfl ?_ | refine zdj rfl ?_) | (refine zak rfl rfl rfl ?_; intro g) | (refine zal rfl rfl ?_; intro g) | (refine zag ?_; first | refine zam 0 rfl rfl rfl rfl rfl rfl ?_ | refine zam 1 rfl rfl rfl rfl rfl rfl ?_ | refine zan 0 rfl rfl rfl rfl rfl rfl rfl rfl rfl ?_ | refine zan 1 rfl rfl rfl rfl rfl rfl rfl rfl rfl ?_ | refine zao 0 rfl rfl rfl rfl rfl rfl ?_ | refine zao 1 rfl rfl rfl rfl rfl rfl ?_)
    refine ws_cond rfl (fun hd => ?_) (fun hd => ?_)
    · have hlt : (i : Int) < (k : Int) - 1 := of_decide_eq_true hd
      clear hd
      have hnext : ((i + 1 : Nat) : Int) = (i : Int) + 1 := by omega
      repeat first | refine zai rfl rfl ?_ | refine zaj rfl rfl rfl rfl ?_ | refine zaa rfl (zay rfl) ?_ | refine zaa rfl (zaz rfl) ?_ | (refine zac ?_; first | refine zaa rfl (zba rfl rfl rfl) ?_ | refine zaa rfl (zbb rfl rfl (by omega)) ?_ | refine zaa rfl (zbc rfl rfl (by omega)) ?_ | refine zaa rfl (zbd rfl rfl rfl) ?_ | refine zaa rfl (zbe rfl rfl) ?_ | refine zaa rfl (zbf rfl rfl) ?_ | refine zaa rfl (zbg rfl rfl) ?_ | refine zaa rfl (zbh rfl rfl) ?_ | refine zaa rfl (zbi rfl rfl) ?_ | refine zaa rfl (zbj rfl rfl) ?_ | refine zaa rfl (zbk rfl rfl) ?_ | refine zaa rfl (zbl rfl rfl) ?_) | (refine zad ?_; first | refine zaa rfl (opj_lenC rfl) ?_ | refine zaa rfl (zbo rfl) ?_ | refine zaa rfl (zbm rfl) ?_ | refine zaa rfl (zbn rfl) ?_ | refine zaa rfl (zbp rfl) ?_ | refine zaa rfl (zbq rfl) ?_ | refine zaa rfl (zbr rfl rfl) ?_) | (refine zae ?_; first | refine zaa rfl (opj_loadC rfl rfl (by (repeat (first | exact mh | refine mt ?_)); done) (by omega)) ?_ | refine zaa rfl (zbt rfl rfl (by (repeat (first | exact mh | refine mt ?_)); done) (by omega)) ?_ | refine zaa rfl (zcf rfl rfl (by (repeat (first | exact mh | refine mt ?_)); done) rfl) ?_ | refine zaa rfl (zcg rfl rfl (by (repeat (first | exact mh | refine mt ?_)); done) rfl rfl) ?_ | refine zaa rfl (zch rfl rfl rfl rfl) ?_ | refine zaa rfl (zbu rfl rfl) ?_) | (refine zaf ?_; first | refine zaa rfl (opj_indexC rfl rfl (by omega) (by omega)) ?_ | refine zaa rfl (zbs rfl rfl (by omega) (by omega)) ?_ | refine zaa rfl (zbv rfl rfl (by omega) (by omega)) ?_ | refine zaa rfl (zbw rfl rfl (by omega) (by omega)) ?_) | refine zaa rfl (zcd rfl) ?_ | refine zaa rfl (zce rfl) ?_ | refine zaa rfl (zbx rfl) ?_ | refine zaa rfl (zby rfl) ?_ | refine zaa rfl (zbz rfl rfl) ?_ | refine zaa rfl (zca rfl rfl) ?_ | refine zaa rfl (zcb rfl rfl) ?_ | refine zaa rfl (zcc rfl) ?_ | refine zah ?_ | (refine zcr ?_; first | refine zcs ?_ | refine zct ?_ | refine zcu ?_ | refine zcv ?_ | refine zcw ?_ | refine zcx ?_ | refine zcy rfl ?_ | refine zcz ?_ | refine zda ?_) | (refine zdb ?_; first | refine zdc ?_ | refine zdd ?_ | refine zde ?_ | refine zdf ?_ | refine zdg ?_ | refine zdh ?_ | refine zdi rfl ?_ | refine zdj rfl ?_) | (refine zak rfl rfl rfl ?_; intro g) | (refine zal rfl rfl ?_; intro g) | (refine zag ?_; first | refine zam 0 rfl rfl rfl rfl rfl rfl ?_ | refine zam 1 rfl rfl rfl rfl rfl rfl ?_ | refine zan 0 rfl rfl rfl rfl rfl rfl rfl rfl rfl ?_ | refine zan 1 rfl rfl rfl rfl rfl rfl rfl rfl rfl ?_ | refine zao 0 rfl rfl rfl rfl rfl rfl ?_ | refine zao 1 rfl rfl rfl rfl rfl rfl ?_)
      refine ws_draw (n := 11) mixed (by decide +kernel) ?_
      repeat first | refine zaw rfl rfl ?_ | refine zax rfl rfl rfl rfl ?_ | refine zap rfl (zay rfl) ?_ | refine zap rfl (zaz rfl) ?_ | (refine zar ?_; first | refine zap rfl (zba rfl rfl rfl) ?_ | refine zap rfl (zbb rfl rfl (by omega)) ?_ | refine zap rfl (zbc rfl rfl (by omega)) ?_ | refine zap rfl (zbd rfl rfl rfl) ?_ | refine zap rfl (zbe rfl rfl) ?_ | refine zap rfl (zbf rfl rfl) ?_ | refine zap rfl (zbg rfl rfl) ?_ | refine zap rfl (zbh rfl rfl) ?_ | refine zap rfl (zbi rfl rfl) ?_ | refine zap rfl (zbj rfl rfl) ?_ | refine zap rfl (zbk rfl rfl) ?_ | refine zap rfl (zbl rfl rfl) ?_) | (refine zas ?_; first | refine zap rfl (opj_lenC rfl) ?_ | refine zap rfl (zbo rfl) ?_ | refine zap rfl (zbm rfl) ?_ | refine zap rfl (zbn rfl) ?_ | refine zap rfl (zbp rfl) ?_ | refine zap rfl (zbq rfl) ?_ | refine zap rfl (zbr rfl rfl) ?_) | (refine zat ?_; first | refine zap rfl (opj_loadC rfl rfl (by (repeat (first | exact mh | refine mt ?_)); done) (by omega)) ?_ | refine zap rfl (zbt rfl rfl (by (repeat (first | exact mh | refine mt ?_)); done) (by omega)) ?_ | refine zap rfl (zcf rfl rfl (by (repeat (first | exact mh | refine mt ?_)); done) rfl) ?_ | refine zap rfl (zcg rfl rfl (by (repeat (first | exact mh | refine mt ?_)); done) rfl rfl) ?_ | refine zap rfl (zch rfl rfl rfl rfl) ?_ | refine zap rfl (zbu rfl rfl) ?_) | (refine zau ?_; first | refine zap rfl (opj_indexC rfl rfl (by omega) (by omega)) ?_ | refine zap rfl (zbs rfl rfl (by omega) (by omega)) ?_ | refine zap rfl (zbv rfl rfl (by omega) (by omega)) ?_ | refine zap rfl (zbw rfl rfl (by omega) (by omega)) ?_) | refine zap rfl (zcd rfl) ?_ | refine zap rfl (zce rfl) ?_ | refine zap rfl (zbx rfl) ?_ | refine zap rfl (zby rfl) ?_ | refine zap rfl (zbz rfl rfl) ?_ | refine zap rfl (zca rfl rfl) ?_ | refine zap rfl (zcb rfl rfl) ?_ | refine zap rfl (zcc rfl) ?_ | refine zav ?_
      have ei : ((i : Nat) : Int).toNat = i := rfl
      have ei1 : ((i : Int) + 1).toNat = i + 1 := by omega
      rw [ei1, ei]
      have hA1 := ahead_fn (fbin .sub .f32 (at_ ((i : Int) + 1)) (at_ i)) (P i).1 (P (i + 1)).1 (bendT k at_ (reF P) i) (bendT k at_ (reF P) ((i : Int) + 1))
      have hA2 := ahead_fn (fbin .sub .f32 (at_ ((i : Int) + 1)) (at_ i)) (P i).2 (P (i + 1)).2 (bendT k at_ (imF P) i) (bendT k at_ (imF P) ((i : Int) + 1))
      have hp1 := plus_fn (P i) (ahU (fbin .sub .f32 (at_ ((i : Int) + 1)) (at_ i)) (P i).1 (P (i + 1)).1 (bendT k at_ (reF P) i) (bendT k at_ (reF P) ((i : Int) + 1)), ahU (fbin .sub .f32 (at_ ((i : Int) + 1)) (at_ i)) (P i).2 (P (i + 1)).2 (bendT k at_ (imF P) i) (bendT k at_ (imF P) ((i : Int) + 1)))
      have hp2 := minus_fn (P (i + 1)) (ahV (fbin .sub .f32 (at_ ((i : Int) + 1)) (at_ i)) (P i).1 (P (i + 1)).1 (bendT k at_ (reF P) i) (bendT k at_ (reF P) ((i : Int) + 1)), ahV (fbin .sub .f32 (at_ ((i : Int) + 1)) (at_ i)) (P i).2 (P (i + 1)).2 (bendT k at_ (imF P) i) (bendT k at_ (imF P) ((i : Int) + 1)))
      have hC := cubic_fn (natQ at_ k P i) (hQ i (by omega))
      repeat first | refine zai rfl rfl ?_ | refine zaj rfl rfl rfl rfl ?_ | refine zaa rfl (zay rfl) ?_ | refine zaa rfl (zaz rfl) ?_ | (refine zac ?_; first | refine zaa rfl (zba rfl rfl rfl) ?_ | refine zaa rfl (zbb rfl rfl (by omega)) ?_ | refine zaa rfl (zbc rfl rfl (by omega)) ?_ | refine zaa rfl (zbd rfl rfl rfl) ?_ | refine zaa rfl (zbe rfl rfl) ?_ | refine zaa rfl (zbf rfl rfl) ?_ | refine zaa rfl (zbg rfl rfl) ?_ | refine zaa rfl (zbh rfl rfl) ?_ | refine zaa rfl (zbi rfl rfl) ?_ | refine zaa rfl (zbj rfl rfl) ?_ | refine zaa rfl (zbk rfl rfl) ?_ | refine zaa rfl (zbl rfl rfl) ?_) | (refine zad ?_; first | refine zaa rfl (opj_lenC rfl) ?_ | refine zaa rfl (zbo rfl) ?_ | refine zaa rfl (zbm rfl) ?_ | refine zaa rfl (zbn rfl) ?_ | refine zaa rfl (zbp rfl) ?_ | refine zaa rfl (zbq rfl) ?_ | refine zaa rfl (zbr rfl rfl) ?_) | (refine zae ?_; first | refine zaa rfl (opj_loadC rfl rfl (by (repeat (first | exact mh | refine mt ?_)); done) (by omega)) ?_ | refine zaa rfl (zbt rfl rfl (by (repeat (first | exact mh | refine mt ?_)); done) (by omega)) ?_ | refine zaa rfl (zcf rfl rfl (by (repeat (first | exact mh | refine mt ?_)); done) rfl) ?_ | refine zaa rfl (zcg rfl rfl (by (repeat (first | exact mh | refine mt ?_)); done) rfl rfl) ?_ | refine zaa rfl (zch rfl rfl rfl rfl) ?_ | refine zaa rfl (zbu rfl rfl) ?_) | (refine zaf ?_; first | refine zaa rfl (opj_indexC rfl rfl (by omega) (by omega)) ?_ | refine zaa rfl (zbs rfl rfl (by omega) (by omega)) ?_ | refine zaa rfl (zbv rfl rfl (by omega) (by omega)) ?_ | refine zaa rfl (zbw rfl rfl (by omega) (by omega)) ?_) | refine zaa rfl (zcd rfl) ?_ | refine zaa rfl (zce rfl) ?_ | refine zaa rfl (zbx rfl) ?_ | refine zaa rfl (zby rfl) ?_ | refine zaa rfl (zbz rfl rfl) ?_ | refine zaa rfl (zca rfl rfl) ?_ | refine zaa rfl (zcb rfl rfl) ?_ | refine zaa rfl (zcc rfl) ?_ | refine zah ?_ | (refine zcr ?_; first | refine zcs ?_ | refine zct ?_ | refine zcu ?_ | refine zcv ?_ | refine zcw ?_ | refine zcx ?_ | refine zcy rfl ?_ | refine zcz ?_ | refine zda ?_) | (refine zdb ?_; first | refine zdc ?_ | refine zdd ?_ | refine zde ?_ | refine zdf ?_ | refine zdg ?_ | refine zdh ?_ | refine zdi rfl ?_ | refine zdj rfl ?_) | (refine zak rfl rfl rfl ?_; intro g) | (refine zal rfl rfl ?_; intro g) | (refine zag ?_; first | refine zam 0 rfl rfl rfl rfl rfl rfl ?_ | refine zam 1 rfl rfl rfl rfl rfl rfl ?_ | refine zan 0 rfl rfl rfl rfl rfl rfl rfl rfl rfl ?_ | refine zan 1 rfl rfl rfl rfl rfl rfl rfl rfl rfl ?_ | refine zao 0 rfl rfl rfl rfl rfl rfl ?_ | refine zao 1 rfl rfl rfl rfl rfl rfl ?_)
      generalize hHH : entV g A B i cap :: entF by_ 24 k (bendT k at_ (imF P)) k :: entF bx 24 k (bendT k at_ (reF P)) k :: entF ga 24 k at_ ca :: rowsV A B (natQ at_ k P) i = HH
      refine ws_drawG (n := 10) (d := 18) (W := St w0 [] HH) (T1 := NewAt (fun _ => True) w0 [] HH 24 [.f .f32 (fv .f32 0)] 1) mixed (by decide +kernel) rfl rfl (fun _ h => h) (fun _ w ⟨_, _, h⟩ => h.weak (.cons _ (List.Sublist.refl _))) ?_
      subst hHH
      repeat first | refine zaw rfl rfl ?_ | refine zax rfl rfl rfl rfl ?_ | refine zap rfl (zay rfl) ?_ | refine zap rfl (zaz rfl) ?_ | (refine zar ?_; first | refine zap rfl (zba rfl rfl rfl) ?_ | refine zap rfl (zbb rfl rfl (by omega)) ?_ | refine zap rfl (zbc rfl rfl (by omega)) ?_ | refine zap rfl (zbd rfl rfl rfl) ?_ | refine zap rfl (zbe rfl rfl) ?_ | refine zap rfl (zbf rfl rfl) ?_ | refine zap rfl (zbg rfl rfl) ?_ | refine zap rfl (zbh rfl rfl) ?_ | refine zap rfl (zbi rfl rfl) ?_ | refine zap rfl (zbj rfl rfl) ?_ | refine zap rfl (zbk rfl rfl) ?_ | refine zap rfl (zbl rfl rfl) ?_) | (refine zas ?_; first | refine zap rfl (opj_lenC rfl) ?_ | refine zap rfl (zbo rfl) ?_ | refine zap rfl (zbm rfl) ?_ | refine zap rfl (zbn rfl) ?_ | refine zap rfl (zbp rfl) ?_ | refine zap rfl (zbq rfl) ?_ | refine zap rfl (zbr rfl rfl) ?_) | (refine zat ?_; first | refine zap rfl (opj_loadC rfl rfl (by (repeat (first | exact mh | refine mt ?_)); done) (by omega)) ?_ | refine zap rfl (zbt rfl rfl (by (repeat (first | exact mh | refine mt ?_)); done) (by omega)) ?_ | refine zap rfl (zcf rfl rfl (by (repeat (first | exact mh | refine mt ?_)); done) rfl) ?_ | refine zap rfl (zcg rfl rfl (by (repeat (first | exact mh | refine mt ?_)); done) rfl rfl) ?_ | refine zap rfl (zch rfl rfl rfl rfl) ?_ | refine zap rfl (zbu rfl rfl) ?_) | (refine zau ?_; first | refine zap rfl (opj_indexC rfl rfl (by omega) (by omega)) ?_ | refine zap rfl (zbs rfl rfl (by omega) (by omega)) ?_ | refine zap rfl (zbv rfl rfl (by omega) (by omega)) ?_ | refine zap rfl (zbw rfl rfl (by omega) (by omega)) ?_) | refine zap rfl (zcd rfl) ?_ | refine zap rfl (zce rfl) ?_ | refine zap rfl (zbx rfl) ?_ | refine zap rfl (zby rfl) ?_ | refine zap rfl (zbz rfl rfl) ?_ | refine zap rfl (zca rfl rfl) ?_ | refine zap rfl (zcb rfl rfl) ?_ | refine zap rfl (zcc rfl) ?_ | refine zav ?_
      refine ⟨rfl, fun o ho => ?_, fun c => ?_⟩
      · cases ho
        exact effg_alloc (P := Try.prog) (el := 24) (R := fun _ => True) (w0 := w0) (gs := []) rfl rfl rfl
      refine RS.newAt fun gh hgh => ?_
      subst hgh
      repeat first | refine zai rfl rfl ?_ | refine zaj rfl rfl rfl rfl ?_ | refine zaa rfl (zay rfl) ?_ | refine zaa rfl (zaz rfl) ?_ | (refine zac ?_; first | refine zaa rfl (zba rfl rfl rfl) ?_ | refine zaa rfl (zbb rfl rfl (by omega)) ?_ | refine zaa rfl (zbc rfl rfl (by omega)) ?_ | refine zaa rfl (zbd rfl rfl rfl) ?_ | refine zaa rfl (zbe rfl rfl) ?_ | refine zaa rfl (zbf rfl rfl) ?_ | refine zaa rfl (zbg rfl rfl) ?_ | refine zaa rfl (zbh rfl rfl) ?_ | refine zaa rfl (zbi rfl rfl) ?_ | refine zaa rfl (zbj rfl rfl) ?_ | refine zaa rfl (zbk rfl rfl) ?_ | refine zaa rfl (zbl rfl rfl) ?_) | (refine zad ?_; first | refine zaa rfl (opj_lenC rfl) ?_ | refine zaa rfl (zbo rfl) ?_ | refine zaa rfl (zbm rfl) ?_ | refine zaa rfl (zbn rfl) ?_ | refine zaa rfl (zbp rfl) ?_ | refine zaa rfl (zbq rfl) ?_ | refine zaa rfl (zbr rfl rfl) ?_) | (refine zae ?_; first | refine zaa rfl (opj_loadC rfl rfl (by (repeat (first | exact mh | refine mt ?_)); done) (by omega)) ?_ | refine zaa rfl (zbt rfl rfl (by (repeat (first | exact mh | refine mt ?_)); done) (by omega)) ?_ | refine zaa rfl (zcf rfl rfl (by (repeat (first | exact mh | refine mt ?_)); done) rfl) ?_ | refine zaa rfl (zcg rfl rfl (by (repeat (first | exact mh | refine mt ?_)); done) rfl rfl) ?_ | refine zaa rfl (zch rfl rfl rfl rfl) ?_ | refine zaa rfl (zbu rfl rfl) ?_) | (refine zaf ?_; first | refine zaa rfl (opj_indexC rfl rfl (by omega) (by omega)) ?_ | refine zaa rfl (zbs rfl rfl (by omega) (by omega)) ?_ | refine zaa rfl (zbv rfl rfl (by omega) (by omega)) ?_ | refine zaa rfl (zbw rfl rfl (by omega) (by omega)) ?_) | refine zaa rfl (zcd rfl) ?_ | refine zaa rfl (zce rfl) ?_ | refine zaa rfl (zbx rfl) ?_ | refine zaa rfl (zby rfl) ?_ | refine zaa rfl (zbz rfl rfl) ?_ | refine zaa rfl (zca rfl rfl) ?_ | refine zaa rfl (zcb rfl rfl) ?_ | refine zaa rfl (zcc rfl) ?_ | refine zah ?_ | (refine zcr ?_; first | refine zcs ?_ | refine zct ?_ | refine zcu ?_ | refine zcv ?_ | refine zcw ?_ | refine zcx ?_ | refine zcy rfl ?_ | refine zcz ?_ | refine zda ?_) | (refine zdb ?_; first | refine zdc ?_ | refine zdd ?_ | refine zde ?_ | refine zdf ?_ | refine zdg ?_ | refine zdh ?_ | refine zdi rfl ?_ | refine zdj rfl ?_) | (refine zak rfl rfl rfl ?_; intro g) | (refine zal rfl rfl ?_; intro g) | (refine zag ?_; first | refine zam 0 rfl rfl rfl rfl rfl rfl ?_ | refine zam 1 rfl rfl rfl rfl rfl rfl ?_ | refine zan 0 rfl rfl rfl rfl rfl rfl rfl rfl rfl ?_ | refine zan 1 rfl rfl rfl rfl rfl rfl rfl rfl rfl ?_ | refine zao 0 rfl rfl rfl rfl rfl rfl ?_ | refine zao 1 rfl rfl rfl rfl rfl rfl ?_) | refine zaa rfl (opj_makeFunc1 rfl) ?_
      refine ws_draw (n := 20) mixed (by decide +kernel) ?_
      repeat first | refine zaw rfl rfl ?_ | refine zax rfl rfl rfl rfl ?_ | refine zap rfl (zay rfl) ?_ | refine zap rfl (zaz rfl) ?_ | (refine zar ?_; first | refine zap rfl (zba rfl rfl rfl) ?_ | refine zap rfl (zbb rfl rfl (by omega)) ?_ | refine zap rfl (zbc rfl rfl (by omega)) ?_ | refine zap rfl (zbd rfl rfl rfl) ?_ | refine zap rfl (zbe rfl rfl) ?_ | refine zap rfl (zbf rfl rfl) ?_ | refine zap rfl (zbg rfl rfl) ?_ | refine zap rfl (zbh rfl rfl) ?_ | refine zap rfl (zbi rfl rfl) ?_ | refine zap rfl (zbj rfl rfl) ?_ | refine zap rfl (zbk rfl rfl) ?_ | refine zap rfl (zbl rfl rfl) ?_) | (refine zas ?_; first | refine zap rfl (opj_lenC rfl) ?_ | refine zap rfl (zbo rfl) ?_ | refine zap rfl (zbm rfl) ?_ | refine zap rfl (zbn rfl) ?_ | refine zap rfl (zbp rfl) ?_ | refine zap rfl (zbq rfl) ?_ | refine zap rfl (zbr rfl rfl) ?_) | (refine zat ?_; first | refine zap rfl (opj_loadC rfl rfl (by (repeat (first | exact mh | refine mt ?_)); done) (by omega)) ?_ | refine zap rfl (zbt rfl rfl (by (repeat (first | exact mh | refine mt ?_)); done) (by omega)) ?_ | refine zap rfl (zcf rfl rfl (by (repeat (first | exact mh | refine mt ?_)); done) rfl) ?_ | refine zap rfl (zcg rfl rfl (by (repeat (first | exact mh | refine mt ?_)); done) rfl rfl) ?_ | refine zap rfl (zch rfl rfl rfl rfl) ?_ | refine zap rfl (zbu rfl rfl) ?_) | (refine zau ?_; first | refine zap rfl (opj_indexC rfl rfl (by omega) (by omega)) ?_ | refine zap rfl (zbs rfl rfl (by omega) (by omega)) ?_ | refine zap rfl (zbv rfl rfl (by omega) (by omega)) ?_ | refine zap rfl (zbw rfl rfl (by omega) (by omega)) ?_) | refine zap rfl (zcd rfl) ?_ | refine zap rfl (zce rfl) ?_ | refine zap rfl (zbx rfl) ?_ | refine zap rfl (zby rfl) ?_ | refine zap rfl (zbz rfl rfl) ?_ | refine zap rfl (zca rfl rfl) ?_ | refine zap rfl (zcb rfl rfl) ?_ | refine zap rfl (zcc rfl) ?_ | refine zav ?_ | refine zap rfl (opj_callC rfl rfl hA1 (Takes.same (Takes.same (Takes.same (Takes.same (Takes.ptrE ⟨_, _, mh⟩ Takes.nil)))))) ?_
      repeat first | refine zai rfl rfl ?_ | refine zaj rfl rfl rfl rfl ?_ | refine zaa rfl (zay rfl) ?_ | refine zaa rfl (zaz rfl) ?_ | (refine zac ?_; first | refine zaa rfl (zba rfl rfl rfl) ?_ | refine zaa rfl (zbb rfl rfl (by omega)) ?_ | refine zaa rfl (zbc rfl rfl (by omega)) ?_ | refine zaa rfl (zbd rfl rfl rfl) ?_ | refine zaa rfl (zbe rfl rfl) ?_ | refine zaa rfl (zbf rfl rfl) ?_ | refine zaa rfl (zbg rfl rfl) ?_ | refine zaa rfl (zbh rfl rfl) ?_ | refine zaa rfl (zbi rfl rfl) ?_ | refine zaa rfl (zbj rfl rfl) ?_ | refine zaa rfl (zbk rfl rfl) ?_ | refine zaa rfl (zbl rfl rfl) ?_) | (refine zad ?_; first | refine zaa rfl (opj_lenC rfl) ?_ | refine zaa rfl (zbo rfl) ?_ | refine zaa rfl (zbm rfl) ?_ | refine zaa rfl (zbn rfl) ?_ | refine zaa rfl (zbp rfl) ?_ | refine zaa rfl (zbq rfl) ?_ | refine zaa rfl (zbr rfl rfl) ?_) | (refine zae ?_; first | refine zaa rfl (opj_loadC rfl rfl (by (repeat (first | exact mh | refine mt ?_)); done) (by omega)) ?_ | refine zaa rfl (zbt rfl rfl (by (repeat (first | exact mh | refine mt ?_)); done) (by omega)) ?_ | refine zaa rfl (zcf rfl rfl (by (repeat (first | exact mh | refine mt ?_)); done) rfl) ?_ | refine zaa rfl (zcg rfl rfl (by (repeat (first | exact mh | refine mt ?_)); done) rfl rfl) ?_ | refine zaa rfl (zch rfl rfl rfl rfl) ?_ | refine zaa rfl (zbu rfl rfl) ?_) | (refine zaf ?_; first | refine zaa rfl (opj_indexC rfl rfl (by omega) (by omega)) ?_ | refine zaa rfl (zbs rfl rfl (by omega) (by omega)) ?_ | refine zaa rfl (zbv rfl rfl (by omega) (by omega)) ?_ | refine zaa rfl (zbw rfl rfl (by omega) (by omega)) ?_) | refine zaa rfl (zcd rfl) ?_ | refine zaa rfl (zce rfl) ?_ | refine zaa rfl (zbx rfl) ?_ | refine zaa rfl (zby rfl) ?_ | refine zaa rfl (zbz rfl rfl) ?_ | refine zaa rfl (zca rfl rfl) ?_ | refine zaa rfl (zcb rfl rfl) ?_ | refine zaa rfl (zcc rfl) ?_ | refine zah ?_ | (refine zcr ?_; first | refine zcs ?_ | refine zct ?_ | refine zcu ?_ | refine zcv ?_ | refine zcw ?_ | refine zcx ?_ | refine zcy rfl ?_ | refine zcz ?_ | refine zda ?_) | (refine zdb ?_; first | refine zdc ?_ | refine zdd ?_ | refine zde ?_ | refine zdf ?_ | refine zdg ?_ | refine zdh ?_ | refine zdi rfl ?_ | refine zdj rfl ?_) | (refine zak rfl rfl rfl ?_; intro g) | (refine zal rfl rfl ?_; intro g) | (refine zag ?_; first | refine zam 0 rfl rfl rfl rfl rfl rfl ?_ | refine zam 1 rfl rfl rfl rfl rfl rfl ?_ | refine zan 0 rfl rfl rfl rfl rfl rfl rfl rfl rfl ?_ | refine zan 1 rfl rfl rfl rfl rfl rfl rfl rfl rfl ?_ | refine zao 0 rfl rfl rfl rfl rfl rfl ?_ | refine zao 1 rfl rfl rfl rfl rfl rfl ?_)
      refine ws_draw (n := 20) mixed (by decide +kernel) ?_
      repeat first | refine zaw rfl rfl ?_ | refine zax rfl rfl rfl rfl ?_ | refine zap rfl (zay rfl) ?_ | refine zap rfl (zaz rfl) ?_ | (refine zar ?_; first | refine zap rfl (zba rfl rfl rfl) ?_ | refine zap rfl (zbb rfl rfl (by omega)) ?_ | refine zap rfl (zbc rfl rfl (by omega)) ?_ | refine zap rfl (zbd rfl rfl rfl) ?_ | refine zap rfl (zbe rfl rfl) ?_ | refine zap rfl (zbf rfl rfl) ?_ | refine zap rfl (zbg rfl rfl) ?_ | refine zap rfl (zbh rfl rfl) ?_ | refine zap rfl (zbi rfl rfl) ?_ | refine zap rfl (zbj rfl rfl) ?_ | refine zap rfl (zbk rfl rfl) ?_ | refine zap rfl (zbl rfl rfl) ?_) | (refine zas ?_; first | refine zap rfl (opj_lenC rfl) ?_ | refine zap rfl (zbo rfl) ?_ | refine zap rfl (zbm rfl) ?_ | refine zap rfl (zbn rfl) ?_ | refine zap rfl (zbp rfl) ?_ | refine zap rfl (zbq rfl) ?_ | refine zap rfl (zbr rfl rfl) ?_) | (refine zat ?_; first | refine zap rfl (opj_loadC rfl rfl (by (repeat (first | exact mh | refine mt ?_)); done) (by omega)) ?_ | refine zap rfl (zbt rfl rfl (by (repeat (first | exact mh | refine mt ?_)); done) (by omega)) ?_ | refine zap rfl (zcf rfl rfl (by (repeat (first | exact mh | refine mt ?_)); done) rfl) ?_ | refine zap rfl (zcg rfl rfl (by (repeat (first | exact mh | refine mt ?_)); done) rfl rfl) ?_ | refine zap rfl (zch rfl rfl rfl rfl) ?_ | refine zap rfl (zbu rfl rfl) ?_) | (refine zau ?_; first | refine zap rfl (opj_indexC rfl rfl (by omega) (by omega)) ?_ | refine zap rfl (zbs rfl rfl (by omega) (by omega)) ?_ | refine zap rfl (zbv rfl rfl (by omega) (by omega)) ?_ | refine zap rfl (zbw rfl rfl (by omega) (by omega)) ?_) | refine zap rfl (zcd rfl) ?_ | refine zap rfl (zce rfl) ?_ | refine zap rfl (zbx rfl) ?_ | refine zap rfl (zby rfl) ?_ | refine zap rfl (zbz rfl rfl) ?_ | refine zap rfl (zca rfl rfl) ?_ | refine zap rfl (zcb rfl rfl) ?_ | refine zap rfl (zcc rfl) ?_ | refine zav ?_ | refine zap rfl (opj_callC rfl rfl hA2 (Takes.same (Takes.same (Takes.same (Takes.same (Takes.ptrE ⟨_, _, mh⟩ Takes.nil)))))) ?_
      repeat first | refine zai rfl rfl ?_ | refine zaj rfl rfl rfl rfl ?_ | refine zaa rfl (zay rfl) ?_ | refine zaa rfl (zaz rfl) ?_ | (refine zac ?_; first | refine zaa rfl (zba rfl rfl rfl) ?_ | refine zaa rfl (zbb rfl rfl (by omega)) ?_ | refine zaa rfl (zbc rfl rfl (by omega)) ?_ | refine zaa rfl (zbd rfl rfl rfl) ?_ | refine zaa rfl (zbe rfl rfl) ?_ | refine zaa rfl (zbf rfl rfl) ?_ | refine zaa rfl (zbg rfl rfl) ?_ | refine zaa rfl (zbh rfl rfl) ?_ | refine zaa rfl (zbi rfl rfl) ?_ | refine zaa rfl (zbj rfl rfl) ?_ | refine zaa rfl (zbk rfl rfl) ?_ | refine zaa rfl (zbl rfl rfl) ?_) | (refine zad ?_; first | refine zaa rfl (opj_lenC rfl) ?_ | refine zaa rfl (zbo rfl) ?_ | refine zaa rfl (zbm rfl) ?_ | refine zaa rfl (zbn rfl) ?_ | refine zaa rfl (zbp rfl) ?_ | refine zaa rfl (zbq rfl) ?_ | refine zaa rfl (zbr rfl rfl) ?_ | (refine zaa rfl (zci rfl rfl (hp1) ?_) ?_; (focus ((repeat (first | exact Takes.nil | refine Takes.sl ?_ | refine Takes.lit ?_ | refine Takes.fa ?_ | refine Takes.fc ?_ | refine Takes.net ?_ | (refine Takes.ownE ?_ ?_ ?_ ?_ ?_; (focus (exact ⟨_, _, (by (repeat (first | exact mh | refine mt ?_)); done)⟩)); (focus (simp; done)); (focus omega); (focus (simp only [maxLen]; omega))) | refine Takes.same ?_)); done))) | (refine zaa rfl (zci rfl rfl (hp2) ?_) ?_; (focus ((repeat (first | exact Takes.nil | refine Takes.sl ?_ | refine Takes.lit ?_ | refine Takes.fa ?_ | refine Takes.fc ?_ | refine Takes.net ?_ | (refine Takes.ownE ?_ ?_ ?_ ?_ ?_; (focus (exact ⟨_, _, (by (repeat (first | exact mh | refine mt ?_)); done)⟩)); (focus (simp; done)); (focus omega); (focus (simp only [maxLen]; omega))) | refine Takes.same ?_)); done)))) | (refine zae ?_; first | refine zaa rfl (opj_loadC rfl rfl (by (repeat (first | exact mh | refine mt ?_)); done) (by omega)) ?_ | refine zaa rfl (zbt rfl rfl (by (repeat (first | exact mh | refine mt ?_)); done) (by omega)) ?_ | refine zaa rfl (zcf rfl rfl (by (repeat (first | exact mh | refine mt ?_)); done) rfl) ?_ | refine zaa rfl (zcg rfl rfl (by (repeat (first | exact mh | refine mt ?_)); done) rfl rfl) ?_ | refine zaa rfl (zch rfl rfl rfl rfl) ?_ | refine zaa rfl (zbu rfl rfl) ?_) | (refine zaf ?_; first | refine zaa rfl (opj_indexC rfl rfl (by omega) (by omega)) ?_ | refine zaa rfl (zbs rfl rfl (by omega) (by omega)) ?_ | refine zaa rfl (zbv rfl rfl (by omega) (by omega)) ?_ | refine zaa rfl (zbw rfl rfl (by omega) (by omega)) ?_) | refine zaa rfl (zcd rfl) ?_ | refine zaa rfl (zce rfl) ?_ | refine zaa rfl (zbx rfl) ?_ | refine zaa rfl (zby rfl) ?_ | refine zaa rfl (zbz rfl rfl) ?_ | refine zaa rfl (zca rfl rfl) ?_ | refine zaa rfl (zcb rfl rfl) ?_ | refine zaa rfl (zcc rfl) ?_ | refine zah ?_ | (refine zcr ?_; first | refine zcs ?_ | refine zct ?_ | refine zcu ?_ | refine zcv ?_ | refine zcw ?_ | refine zcx ?_ | refine zcy rfl ?_ | refine zcz ?_ | refine zda ?_) | (refine zdb ?_; first | refine zdc ?_ | refine zdd ?_ | refine zde ?_ | refine zdf ?_ | refine zdg ?_ | refine zdh ?_ | refine zdi rfl ?_ | refine zdj rfl ?_) | (refine zak rfl rfl rfl ?_; intro g) | (refine zal rfl rfl ?_; intro g) | (refine zag ?_; first | refine zam 0 rfl rfl rfl rfl rfl rfl ?_ | refine zam 1 rfl rfl rfl rfl rfl rfl ?_ | refine zan 0 rfl rfl rfl rfl rfl rfl rfl rfl rfl ?_ | refine zan 1 rfl rfl rfl rfl rfl rfl rfl rfl rfl ?_ | refine zao 0 rfl rfl rfl rfl rfl rfl ?_ | refine zao 1 rfl rfl rfl rfl rfl rfl ?_)
      refine rs_call2 hC rfl rfl (Takes.same (Takes.same (Takes.same (Takes.same Takes.nil)))) rfl ?_
      rintro ⟨a, b⟩ -
      repeat first | refine zai rfl rfl ?_ | refine zaj rfl rfl rfl rfl ?_ | refine zaa rfl (zay rfl) ?_ | refine zaa rfl (zaz rfl) ?_ | (refine zac ?_; first | refine zaa rfl (zba rfl rfl rfl) ?_ | refine zaa rfl (zbb rfl rfl (by omega)) ?_ | refine zaa rfl (zbc rfl rfl (by omega)) ?_ | refine zaa rfl (zbd rfl rfl rfl) ?_ | refine zaa rfl (zbe rfl rfl) ?_ | refine zaa rfl (zbf rfl rfl) ?_ | refine zaa rfl (zbg rfl rfl) ?_ | refine zaa rfl (zbh rfl rfl) ?_ | refine zaa rfl (zbi rfl rfl) ?_ | refine zaa rfl (zbj rfl rfl) ?_ | refine zaa rfl (zbk rfl rfl) ?_ | refine zaa rfl (zbl rfl rfl) ?_) | (refine zad ?_; first | refine zaa rfl (opj_lenC rfl) ?_ | refine zaa rfl (zbo rfl) ?_ | refine zaa rfl (zbm rfl) ?_ | refine zaa rfl (zbn rfl) ?_ | refine zaa rfl (zbp rfl) ?_ | refine zaa rfl (zbq rfl) ?_ | refine zaa rfl (zbr rfl rfl) ?_) | (refine zae ?_; first | refine zaa rfl (opj_loadC rfl rfl (by (repeat (first | exact mh | refine mt ?_)); done) (by omega)) ?_ | refine zaa rfl (zbt rfl rfl (by (repeat (first | exact mh | refine mt ?_)); done) (by omega)) ?_ | refine zaa rfl (zcf rfl rfl (by (repeat (first | exact mh | refine mt ?_)); done) rfl) ?_ | refine zaa rfl (zcg rfl rfl (by (repeat (first | exact mh | refine mt ?_)); done) rfl rfl) ?_ | refine zaa rfl (zch rfl rfl rfl rfl) ?_ | refine zaa rfl (zbu rfl rfl) ?_) | (refine zaf ?_; first | refine zaa rfl (opj_indexC rfl rfl (by omega) (by omega)) ?_ | refine zaa rfl (zbs rfl rfl (by omega) (by omega)) ?_ | refine zaa rfl (zbv rfl rfl (by omega) (by omega)) ?_ | refine zaa rfl (zbw rfl rfl (by omega) (by omega)) ?_) | refine zaa rfl (zcd rfl) ?_ | refine zaa rfl (zce rfl) ?_ | refine zaa rfl (zbx rfl) ?_ | refine zaa rfl (zby rfl) ?_ | refine zaa rfl (zbz rfl rfl) ?_ | refine zaa rfl (zca rfl rfl) ?_ | refine zaa rfl (zcb rfl rfl) ?_ | refine zaa rfl (zcc rfl) ?_ | refine zah ?_ | (refine zcr ?_; first | refine zcs ?_ | refine zct ?_ | refine zcu ?_ | refine zcv ?_ | refine zcw ?_ | refine zcx ?_ | refine zcy rfl ?_ | refine zcz ?_ | refine zda ?_) | (refine zdb ?_; first | refine zdc ?_ | refine zdd ?_ | refine zde ?_ | refine zdf ?_ | refine zdg ?_ | refine zdh ?_ | refine zdi rfl ?_ | refine zdj rfl ?_) | (refine zak rfl rfl rfl ?_; intro g) | (refine zal rfl rfl ?_; intro g) | (refine zag ?_; first | refine zam 0 rfl rfl rfl rfl rfl rfl ?_ | refine zam 1 rfl rfl rfl rfl rfl rfl ?_ | refine zan 0 rfl rfl rfl rfl rfl rfl rfl rfl rfl ?_ | refine zan 1 rfl rfl rfl rfl rfl rfl rfl rfl rfl ?_ | refine zao 0 rfl rfl rfl rfl rfl rfl ?_ | refine zao 1 rfl rfl rfl rfl rfl rfl ?_) | refine zaa rfl (opj_litV rfl) ?_
      refine rs_appendN 4 (sz := 2) (m := 1) (xs := crvCells A B i) rfl (by omega) rfl ⟨_, rfl, fun w v _ h => h.inv_p.2⟩ rfl ⟨crvCells_length A B i, hc1, hc2⟩ rfl (by omega) rfl (by simp only [maxLen]; omega) (by omega) rfl fun g' cap' h1 h2 => ?_
      rw [crvCells_snoc]
      repeat first | refine zai rfl rfl ?_ | refine zaj rfl rfl rfl rfl ?_ | refine zaa rfl (zay rfl) ?_ | refine zaa rfl (zaz rfl) ?_ | (refine zac ?_; first | refine zaa rfl (zba rfl rfl rfl) ?_ | refine zaa rfl (zbb rfl rfl (by omega)) ?_ | refine zaa rfl (zbc rfl rfl (by omega)) ?_ | refine zaa rfl (zbd rfl rfl rfl) ?_ | refine zaa rfl (zbe rfl rfl) ?_ | refine zaa rfl (zbf rfl rfl) ?_ | refine zaa rfl (zbg rfl rfl) ?_ | refine zaa rfl (zbh rfl rfl) ?_ | refine zaa rfl (zbi rfl rfl) ?_ | refine zaa rfl (zbj rfl rfl) ?_ | refine zaa rfl (zbk rfl rfl) ?_ | refine zaa rfl (zbl rfl rfl) ?_) | (refine zad ?_; first | refine zaa rfl (opj_lenC rfl) ?_ | refine zaa rfl (zbo rfl) ?_ | refine zaa rfl (zbm rfl) ?_ | refine zaa rfl (zbn rfl) ?_ | refine zaa rfl (zbp rfl) ?_ | refine zaa rfl (zbq rfl) ?_ | refine zaa rfl (zbr rfl rfl) ?_) | (refine zae ?_; first | refine zaa rfl (opj_loadC rfl rfl (by (repeat (first | exact mh | refine mt ?_)); done) (by omega)) ?_ | refine zaa rfl (zbt rfl rfl (by (repeat (first | exact mh | refine mt ?_)); done) (by omega)) ?_ | refine zaa rfl (zcf rfl rfl (by (repeat (first | exact mh | refine mt ?_)); done) rfl) ?_ | refine zaa rfl (zcg rfl rfl (by (repeat (first | exact mh | refine mt ?_)); done) rfl rfl) ?_ | refine zaa rfl (zch rfl rfl rfl rfl) ?_ | refine zaa rfl (zbu rfl rfl) ?_) | (refine zaf ?_; first | refine zaa rfl (opj_indexC rfl rfl (by omega) (by omega)) ?_ | refine zaa rfl (zbs rfl rfl (by omega) (by omega)) ?_ | refine zaa rfl (zbv rfl rfl (by omega) (by omega)) ?_ | refine zaa rfl (zbw rfl rfl (by omega) (by omega)) ?_) | refine zaa rfl (zcd rfl) ?_ | refine zaa rfl (zce rfl) ?_ | refine zaa rfl (zbx rfl) ?_ | refine zaa rfl (zby rfl) ?_ | refine zaa rfl (zbz rfl rfl) ?_ | refine zaa rfl (zca rfl rfl) ?_ | refine zaa rfl (zcb rfl rfl) ?_ | refine zaa rfl (zcc rfl) ?_ | refine zah ?_ | (refine zcr ?_; first | refine zcs ?_ | refine zct ?_ | refine zcu ?_ | refine zcv ?_ | refine zcw ?_ | refine zcx ?_ | refine zcy rfl ?_ | refine zcz ?_ | refine zda ?_) | (refine zdb ?_; first | refine zdc ?_ | refine zdd ?_ | refine zde ?_ | refine zdf ?_ | refine zdg ?_ | refine zdh ?_ | refine zdi rfl ?_ | refine zdj rfl ?_) | (refine zak rfl rfl rfl ?_; intro g) | (refine zal rfl rfl ?_; intro g) | (refine zag ?_; first | refine zam 0 rfl rfl rfl rfl rfl rfl ?_ | refine zam 1 rfl rfl rfl rfl rfl rfl ?_ | refine zan 0 rfl rfl rfl rfl rfl rfl rfl rfl rfl ?_ | refine zan 1 rfl rfl rfl rfl rfl rfl rfl rfl rfl ?_ | refine zao 0 rfl rfl rfl rfl rfl rfl ?_ | refine zao 1 rfl rfl rfl rfl rfl rfl ?_)
      refine done_round (i + 1, g', cap', putN i a A, putN i b B) (by simp only; omega) (by simp only; omega) ?_ (fun w h => ?_)
      · simp only
        rw [hnext]
        (repeat (first | exact Env.sub_nil _ | refine Env.sub_cons rfl ?_))
      · simp only
        rw [← rowsV_snoc]
        exact (h.weak (.cons _ (.cons_cons _ (.cons_cons _ (.cons _ (List.Sublist.refl _)))))).perm (List.perm_append_comm (l₁ := entV g' (putN i a A) (putN i b B) (i + 1) cap' :: entF by_ 24 k (bendT k at_ (imF P)) k :: entF bx 24 k (bendT k at_ (reF P)) k :: entF ga 24 k at_ ca :: rowsV A B (natQ at_ k P) i) (l₂ := [entF b 24 4 (fun _ => one1) 4, entC a 4 (natQ at_ k P i) 4]))
    · have hge : ¬ (i : Int) < (k : Int) - 1 := of_decide_eq_false hd
      have hkn : i = k - 1 := by omega
      subst hkn
      repeat first | refine zai rfl rfl ?_ | refine zaj rfl rfl rfl rfl ?_ | refine zaa rfl (zay rfl) ?_ | refine zaa rfl (zaz rfl) ?_ | (refine zac ?_; first | refine zaa rfl (zba rfl rfl rfl) ?_ | refine zaa rfl (zbb rfl rfl (by omega)) ?_ | refine zaa rfl (zbc rfl rfl (by omega)) ?_ | refine zaa rfl (zbd rfl rfl rfl) ?_ | refine zaa rfl (zbe rfl rfl) ?_ | refine zaa rfl (zbf rfl rfl) ?_ | refine zaa rfl (zbg rfl rfl) ?_ | refine zaa rfl (zbh rfl rfl) ?_ | refine zaa rfl (zbi rfl rfl) ?_ | refine zaa rfl (zbj rfl rfl) ?_ | refine zaa rfl (zbk rfl rfl) ?_ | refine zaa rfl (zbl rfl rfl) ?_) | (refine zad ?_; first | refine zaa rfl (opj_lenC rfl) ?_ | refine zaa rfl (zbo rfl) ?_ | refine zaa rfl (zbm rfl) ?_ | refine zaa rfl (zbn rfl) ?_ | refine zaa rfl (zbp rfl) ?_ | refine zaa rfl (zbq rfl) ?_ | refine zaa rfl (zbr rfl rfl) ?_) | (refine zae ?_; first | refine zaa rfl (opj_loadC rfl rfl (by (repeat (first | exact mh | refine mt ?_)); done) (by omega)) ?_ | refine zaa rfl (zbt rfl rfl (by (repeat (first | exact mh | refine mt ?_)); done) (by omega)) ?_ | refine zaa rfl (zcf rfl rfl (by (repeat (first | exact mh | refine mt ?_)); done) rfl) ?_ | refine zaa rfl (zcg rfl rfl (by (repeat (first | exact mh | refine mt ?_)); done) rfl rfl) ?_ | refine zaa rfl (zch rfl rfl rfl rfl) ?_ | refine zaa rfl (zbu rfl rfl) ?_) | (refine zaf ?_; first | refine zaa rfl (opj_indexC rfl rfl (by omega) (by omega)) ?_ | refine zaa rfl (zbs rfl rfl (by omega) (by omega)) ?_ | refine zaa rfl (zbv rfl rfl (by omega) (by omega)) ?_ | refine zaa rfl (zbw rfl rfl (by omega) (by omega)) ?_) | refine zaa rfl (zcd rfl) ?_ | refine zaa rfl (zce rfl) ?_ | refine zaa rfl (zbx rfl) ?_ | refine zaa rfl (zby rfl) ?_ | refine zaa rfl (zbz rfl rfl) ?_ | refine zaa rfl (zca rfl rfl) ?_ | refine zaa rfl (zcb rfl rfl) ?_ | refine zaa rfl (zcc rfl) ?_ | refine zah ?_ | (refine zcr ?_; first | refine zcs ?_ | refine zct ?_ | refine zcu ?_ | refine zcv ?_ | refine zcw ?_ | refine zcx ?_ | refine zcy rfl ?_ | refine zcz ?_ | refine zda ?_) | (refine zdb ?_; first | refine zdc ?_ | refine zdd ?_ | refine zde ?_ | refine zdf ?_ | refine zdg ?_ | refine zdh ?_ | refine zdi rfl ?_ | refine zdj rfl ?_) | (refine zak rfl rfl rfl ?_; intro g) | (refine zal rfl rfl ?_; intro g) | (refine zag ?_; first | refine zam 0 rfl rfl rfl rfl rfl rfl ?_ | refine zam 1 rfl rfl rfl rfl rfl rfl ?_ | refine zan 0 rfl rfl rfl rfl rfl rfl rfl rfl rfl ?_ | refine zan 1 rfl rfl rfl rfl rfl rfl rfl rfl rfl ?_ | refine zao 0 rfl rfl rfl rfl rfl rfl ?_ | refine zao 1 rfl rfl rfl rfl rfl rfl ?_)
      exact done_ret2 rfl (g, cap, A, B) rfl rfl rfl ⟨hc1, hc2⟩ (.cons_cons _ (.cons _ (.cons _ (.cons _ (List.Sublist.refl _)))))
end Go.Ab
namespace Go.Ab
open Go.Proofs
theorem vl_two2 : Vl .f32 two2 2 := Vl.c (by decide +kernel)
theorem vl_three3 : Vl .f32 three3 3 := Vl.c (by decide +kernel)
theorem vl_six6 : Vl .f32 six6 6 := Vl.c (by decide +kernel)
section
variable {h a b m n : FV} {H S M N : Rat}
/-- The parts of a piece's inner points. -/
theorem ah_vl (vh : Vl .f32 h H) (vs : Vl .f32 (ahS h a b) S) (vm : Vl .f32 m M) (vn : Vl .f32 n N) (hH : 35 / 1000 ≤ H ∧ H ≤ 101 / 100) (hS : -14 ≤ S ∧ S ≤ 14) (hM : -10000 ≤ M ∧ M ≤ 10000) (hN : -10000 ≤ N ∧ N ≤ 10000)
    (hHM : -800 ≤ H * M ∧ H * M ≤ 800) (hHN : -800 ≤ H * N ∧ H * N ≤ 800) :
    ∃ U V, Vl .f32 (ahU h a b m n) U ∧ Vl .f32 (ahV h a b m n) V ∧ (-(140 * H) ≤ U ∧ U ≤ 140 * H) ∧ (-(140 * H) ≤ V ∧ V ≤ 140 * H) ∧
      (-(15000 / 8388608 * H) ≤ 3 * U - (S - H * (2 * M + N) / 6) * H ∧ 3 * U - (S - H * (2 * M + N) / 6) * H ≤ 15000 / 8388608 * H) ∧
      (-(15000 / 8388608 * H) ≤ 3 * V - (S + H * (M + 2 * N) / 6) * H ∧ 3 * V - (S + H * (M + 2 * N) / 6) * H ≤ 15000 / 8388608 * H) := by
  -- the sixth of a step's product
  have six : ∀ {z : FV} {T X Y : Rat}, Vl .f32 z T → (-800 ≤ H * X ∧ H * X ≤ 800) → (-800 ≤ H * Y ∧ H * Y ≤ 800) → -(60000 / 8388608) ≤ T - (2 * X + Y) → T - (2 * X + Y) ≤ 60000 / 8388608 →
      ∃ w, Vl .f32 (fbin .quo .f32 (fbin .mul .f32 h z) six6) w ∧ -(12000 / 8388608) ≤ w - H * (2 * X + Y) / 6 ∧ w - H * (2 * X + Y) / 6 ≤ 12000 / 8388608 := fun {z T X Y} vz hX hY t1 t2 => by
    have k := mul_bnd (p := T - (2 * X + Y)) (q := H) (a := 60000 / 8388608) (b := 101 / 100) (by grind) (by grind) (by grind) (by grind)
    obtain ⟨p, vp, p1, p2⟩ := mln vh vz 2401 (by grind) (by grind) (by decide +kernel)
    obtain ⟨w, v, vw, e, _, w1, w2⟩ := dvn vp vl_six6 (by decide +kernel) 402 (by grind) (by grind) (by decide +kernel)
    exact ⟨w, vw, by grind, by grind⟩
  -- the last steps
  have fin : ∀ {z : FV} {Z K : Rat}, Vl .f32 z Z → (-415 ≤ Z ∧ Z ≤ 415) → -(12500 / 8388608) ≤ Z - K → Z - K ≤ 12500 / 8388608 →
      ∃ U, Vl .f32 (fbin .quo .f32 (fbin .mul .f32 z h) three3) U ∧ (-(140 * H) ≤ U ∧ U ≤ 140 * H) ∧ -(15000 / 8388608 * H) ≤ 3 * U - K * H ∧ 3 * U - K * H ≤ 15000 / 8388608 * H := fun {z Z K} vz hZ k1 k2 => by
    have b1 := Rat.mul_le_mul_of_nonneg_right hZ.1 (show 0 ≤ H by grind)
    have b2 := Rat.mul_le_mul_of_nonneg_right hZ.2 (show 0 ≤ H by grind)
    have b3 := Rat.mul_le_mul_of_nonneg_right k1 (show 0 ≤ H by grind)
    have b4 := Rat.mul_le_mul_of_nonneg_right k2 (show 0 ≤ H by grind)
    obtain ⟨p, vp, p1, p2⟩ := mln vz vh (415 * H) (by grind) (by grind) (by grind)
    obtain ⟨U, v, vU, e, ⟨v1, v2⟩, u1, u2⟩ := dvn vp vl_three3 (by decide +kernel) (139 * H) (by grind) (by grind) (by grind)
    exact ⟨U, vU, ⟨by grind, by grind⟩, by grind, by grind⟩
  obtain ⟨d1, vd1, d11, d12⟩ := mln vl_two2 vm 20000 (by grind) (by grind) (by decide +kernel)
  obtain ⟨t1, vt1, t11, t12⟩ := adn vd1 vn 30001 (by grind) (by grind) (by decide +kernel)
  obtain ⟨w1, vw1, w11, w12⟩ := six vt1 hHM hHN (by grind) (by grind)
  obtain ⟨d2, vd2, d21, d22⟩ := mln vl_two2 vn 20000 (by grind) (by grind) (by decide +kernel)
  obtain ⟨t2, vt2, t21, t22⟩ := adn vm vd2 30001 (by grind) (by grind) (by decide +kernel)
  obtain ⟨w2, vw2, w21, w22⟩ := six vt2 hHN hHM (by grind) (by grind)
  obtain ⟨z1, vz1, z11, z12⟩ := sbn vs vw1 415 (by grind) (by grind) (by decide +kernel)
  obtain ⟨z2, vz2, z21, z22⟩ := adn vs vw2 415 (by grind) (by grind) (by decide +kernel)
  obtain ⟨U, vU, bU, U1, U2⟩ := fin vz1 (K := S - H * (2 * M + N) / 6) ⟨by grind, by grind⟩ (by grind) (by grind)
  obtain ⟨V, vV, bV, V1, V2⟩ := fin vz2 (K := S + H * (M + 2 * N) / 6) ⟨by grind, by grind⟩ (by grind) (by grind)
  exact ⟨U, V, vU, vV, bU, bV, ⟨by grind, by grind⟩, by grind, by grind⟩
end
section
variable {n : Nat} {P : Nat → CV} {a c : Nat → Int} {l : Nat → Rat} {t : Nat → Rat}
/-- The graph of a part of the points over the parameters. -/
def hR (at_ : Int → FV) (i : Int) : Rat := ratL (hT at_ i)
def sR (at_ g : Int → FV) (i : Int) : Rat := ratL (stpT at_ g i)
/-- What the parameters are. -/
structure Par (n : Nat) (l : Nat → Rat) (at_ : Int → FV) (t : Nat → Rat) : Prop where
  hn : 2 ≤ n ∧ n ≤ 7
  v : ∀ i : Nat, i < n → Vl .f32 (at_ i) (t i)
  b : ∀ i, i < n → 0 ≤ t i ∧ t i ≤ 1
  st : ∀ i, i + 1 < n → l i ≤ 1388 / 100 * (t (i + 1) - t i)
  l : ∀ i, i + 1 < n → 49 / 100 ≤ l i
variable {at_ : Int → FV}
theorem Par.h_vl (T : Par n l at_ t) {i : Nat} (hi : i + 1 < n) : Vl .f32 (hT at_ ((i : Int) + 1)) (hR at_ ((i : Int) + 1)) ∧ -(5 / 2 / 8388608 * (t (i + 1) - t i)) ≤ hR at_ ((i : Int) + 1) - (t (i + 1) - t i) ∧ hR at_ ((i : Int) + 1) - (t (i + 1) - t i) ≤ 5 / 2 / 8388608 * (t (i + 1) - t i) ∧ 353 / 10000 ≤ t (i + 1) - t i ∧ t (i + 1) - t i ≤ 1 := by
  have h1 := T.v i (by omega)
  have h2 := T.v (i + 1) hi
  have b1 := T.b i (by omega)
  have b2 := T.b (i + 1) hi
  have s1 := T.st i hi
  have l1 := T.l i hi
  have e : hT at_ ((i : Int) + 1) = fbin .sub .f32 (at_ ((i + 1 : Nat) : Int)) (at_ i) := by
    rw [hT_pos at_ (by omega), show (i : Int) + 1 - 1 = i by omega, show ((i + 1 : Nat) : Int) = (i : Int) + 1 by omega]
  obtain ⟨r, vr, hr⟩ := vl_sub h2 h1 (fitN (A := 1) (by grind) (by grind) (by decide +kernel))
  have k := rnd_rel hr (t (i + 1) - t i) (by grind) (by grind)
  rw [← e] at vr
  have e2 : hR at_ ((i : Int) + 1) = r := ratL_eq vr
  rw [e2]
  exact ⟨vr, by grind, by grind, by grind, by grind⟩
/-- One part of the points. -/
structure Cmp (n : Nat) (l : Nat → Rat) (g : Int → FV) (x : Nat → Rat) : Prop where
  v : ∀ i : Nat, i < n → Vl .f32 (g i) (x i)
  st : ∀ i : Nat, i + 1 < n → Vl .f32 (fbin .sub .f32 (g ((i + 1 : Nat) : Int)) (g i)) (x (i + 1) - x i)
  le : ∀ i, i + 1 < n → -(l i * (1 + 1 / 500000)) ≤ x (i + 1) - x i ∧ x (i + 1) - x i ≤ l i * (1 + 1 / 500000)
  b : ∀ i, i < n → -12 ≤ x i ∧ x i ≤ 12
variable {g : Int → FV} {x : Nat → Rat}
theorem Cmp.s_vl (C : Cmp n l g x) (T : Par n l at_ t) {i : Nat} (hi : i + 1 < n) : Vl .f32 (stpT at_ g ((i : Int) + 1)) (sR at_ g ((i : Int) + 1)) ∧ -14 ≤ sR at_ g ((i : Int) + 1) ∧ sR at_ g ((i : Int) + 1) ≤ 14 := by
  obtain ⟨vh, h1, h2, h3, h4⟩ := T.h_vl hi
  have b := C.le i hi
  have s1 := T.st i hi
  have l1 := T.l i hi
  have e : stpT at_ g ((i : Int) + 1) = fbin .quo .f32 (fbin .sub .f32 (g ((i + 1 : Nat) : Int)) (g i)) (hT at_ ((i : Int) + 1)) := by
    rw [stpT_pos at_ g (by omega), show (i : Int) + 1 - 1 = i by omega, show ((i + 1 : Nat) : Int) = (i : Int) + 1 by omega]
  obtain ⟨r, v, vr, ev, _, r1, r2⟩ := dvn (C.st i hi) vh (by grind) (1399 / 100) (by grind) (by grind) (by decide +kernel)
  rw [← e] at vr
  have e2 : sR at_ g ((i : Int) + 1) = r := ratL_eq vr
  rw [e2]
  exact ⟨vr, by grind, by grind⟩
theorem Cmp.nb (C : Cmp n l g x) (T : Par n l at_ t) : NB n at_ g (hR at_) (sR at_ g) := by
  have at1 : ∀ i : Int, 1 ≤ i → ∃ j : Nat, i = (j : Int) + 1 := fun i h => ⟨(i - 1).toNat, by omega⟩
  refine ⟨T.hn, fun i h1 h2 => ?_, fun i h1 h2 => ?_, fun i h1 h2 => ?_, fun i h1 h2 => ?_⟩
  · obtain ⟨j, rfl⟩ := at1 i h1
    exact (T.h_vl (by omega)).1
  · obtain ⟨j, rfl⟩ := at1 i h1
    obtain ⟨_, k1, k2, k3, k4⟩ := T.h_vl (i := j) (by omega)
    constructor <;> grind
  · obtain ⟨j, rfl⟩ := at1 i h1
    obtain ⟨_, k1, k2, k3, k4⟩ := T.h_vl (i := j) (by omega)
    obtain ⟨_, m1, m2, m3, m4⟩ := T.h_vl (i := j + 1) (by omega)
    rw [show ((j + 1 : Nat) : Int) = (j : Int) + 1 by omega] at m1 m2
    have b0 := T.b j (by omega)
    have b1 := T.b (j + 1 + 1) (by omega)
    grind
  · obtain ⟨j, rfl⟩ := at1 i h1
    exact C.s_vl T (by omega)
/-- The inner points of a piece. -/
def pU (at_ g : Int → FV) (n i : Nat) : FV := ahU (fbin .sub .f32 (at_ ((i : Int) + 1)) (at_ i)) (g i) (g ((i : Int) + 1)) (bendT n at_ g i) (bendT n at_ g ((i : Int) + 1))
def pV (at_ g : Int → FV) (n i : Nat) : FV := ahV (fbin .sub .f32 (at_ ((i : Int) + 1)) (at_ i)) (g i) (g ((i : Int) + 1)) (bendT n at_ g i) (bendT n at_ g ((i : Int) + 1))
/-- How fast the curve goes at the ends of a piece, a third of it. -/
def kB (n : Nat) (at_ g : Int → FV) (i : Int) : Rat := (sR at_ g (i + 1) - hR at_ (i + 1) * (2 * nO n at_ g i + nO n at_ g (i + 1)) / 6) / 3
def kA (n : Nat) (at_ g : Int → FV) (i : Int) : Rat := (sR at_ g (i + 1) + hR at_ (i + 1) * (nO n at_ g i + 2 * nO n at_ g (i + 1)) / 6) / 3
theorem Cmp.uv (C : Cmp n l g x) (T : Par n l at_ t) {i : Nat} (hi : i + 1 < n) : ∃ U V, Vl .f32 (pU at_ g n i) U ∧ Vl .f32 (pV at_ g n i) V ∧ (-(140 * hR at_ ((i : Int) + 1)) ≤ U ∧ U ≤ 140 * hR at_ ((i : Int) + 1)) ∧ (-(140 * hR at_ ((i : Int) + 1)) ≤ V ∧ V ≤ 140 * hR at_ ((i : Int) + 1)) ∧
    (-(5000 / 8388608 * hR at_ ((i : Int) + 1)) ≤ U - kB n at_ g i * hR at_ ((i : Int) + 1) ∧ U - kB n at_ g i * hR at_ ((i : Int) + 1) ≤ 5000 / 8388608 * hR at_ ((i : Int) + 1)) ∧
    (-(5000 / 8388608 * hR at_ ((i : Int) + 1)) ≤ V - kA n at_ g i * hR at_ ((i : Int) + 1) ∧ V - kA n at_ g i * hR at_ ((i : Int) + 1) ≤ 5000 / 8388608 * hR at_ ((i : Int) + 1)) ∧
    (-139 ≤ kB n at_ g i ∧ kB n at_ g i ≤ 139) ∧ -139 ≤ kA n at_ g i ∧ kA n at_ g i ≤ 139 := by
  have B := C.nb T
  obtain ⟨vs, s1, s2⟩ := C.s_vl T hi
  have vh := B.hv ((i : Int) + 1) (by omega) (by omega)
  have hb := B.hb ((i : Int) + 1) (by omega) (by omega)
  obtain ⟨v0, o0, _, p0, _⟩ := B.bend (t := i) (by omega) (by omega)
  obtain ⟨v1, o1, p1, _, _⟩ := B.bend (t := (i : Int) + 1) (by omega) (by omega)
  have p0' := p0 (by omega)
  have p1' := p1 (by omega)
  have eh : hT at_ ((i : Int) + 1) = fbin .sub .f32 (at_ ((i : Int) + 1)) (at_ i) := by
    rw [hT_pos at_ (by omega), show (i : Int) + 1 - 1 = i by omega]
  have es : stpT at_ g ((i : Int) + 1) = ahS (fbin .sub .f32 (at_ ((i : Int) + 1)) (at_ i)) (g i) (g ((i : Int) + 1)) := by
    unfold ahS
    rw [stpT_pos at_ g (by omega), eh, show (i : Int) + 1 - 1 = i by omega]
  rw [eh] at vh
  rw [es] at vs
  obtain ⟨U, V, vU, vV, bU, bV, ⟨u1, u2⟩, w1, w2⟩ := ah_vl vh vs v0 v1 hb ⟨s1, s2⟩ o0 o1 p0' p1'
  refine ⟨U, V, vU, vV, bU, bV, ?_, ?_, ?_, ?_⟩
  all_goals (simp only [kB, kA]; constructor <;> grind)
/-- At a joint both sides go nearly alike. -/
theorem Cmp.joint (C : Cmp n l g x) (T : Par n l at_ t) {i : Nat} (h1 : 1 ≤ i) (h2 : i + 1 < n) : -(1 / 540) ≤ kA n at_ g ((i : Int) - 1) - kB n at_ g i ∧ kA n at_ g ((i : Int) - 1) - kB n at_ g i ≤ 1 / 540 := by
  have r := (C.nb T).res (i := (i : Int)) (by omega) (by omega)
  unfold kA kB
  rw [show (i : Int) - 1 + 1 = i by omega]
  constructor <;> grind
/-- The inner points, and their differences to the ends. -/
def pB (at_ g : Int → FV) (n i : Nat) : FV := fbin .add .f32 (g i) (pU at_ g n i)
def pC (at_ g : Int → FV) (n i : Nat) : FV := fbin .sub .f32 (g ((i : Int) + 1)) (pV at_ g n i)
theorem Cmp.pts (C : Cmp n l g x) (T : Par n l at_ t) {i : Nat} (hi : i + 1 < n) : ∃ B D r q, Vl .f32 (pB at_ g n i) B ∧ Vl .f32 (pC at_ g n i) D ∧ (-160 ≤ B ∧ B ≤ 160) ∧ (-160 ≤ D ∧ D ≤ 160) ∧
    Vl .f32 (fbin .sub .f32 (pB at_ g n i) (g i)) r ∧ Vl .f32 (fbin .sub .f32 (g ((i : Int) + 1)) (pC at_ g n i)) q ∧
    (-(141 * hR at_ ((i : Int) + 1)) ≤ r ∧ r ≤ 141 * hR at_ ((i : Int) + 1)) ∧ (-(141 * hR at_ ((i : Int) + 1)) ≤ q ∧ q ≤ 141 * hR at_ ((i : Int) + 1)) ∧
    (-(6000 / 8388608 * hR at_ ((i : Int) + 1)) ≤ r - kB n at_ g i * hR at_ ((i : Int) + 1) ∧ r - kB n at_ g i * hR at_ ((i : Int) + 1) ≤ 6000 / 8388608 * hR at_ ((i : Int) + 1)) ∧
    (-(6000 / 8388608 * hR at_ ((i : Int) + 1)) ≤ q - kA n at_ g i * hR at_ ((i : Int) + 1) ∧ q - kA n at_ g i * hR at_ ((i : Int) + 1) ≤ 6000 / 8388608 * hR at_ ((i : Int) + 1)) := by
  obtain ⟨U, V, vU, vV, ⟨u1, u2⟩, ⟨w1, w2⟩, ⟨u3, u4⟩, ⟨w3, w4⟩, _⟩ := C.uv T hi
  have hb := (C.nb T).hb ((i : Int) + 1) (by omega) (by omega)
  have v0 := C.v i (by omega)
  have v1 := C.v (i + 1) hi
  rw [show ((i + 1 : Nat) : Int) = (i : Int) + 1 by omega] at v1
  have b0 := C.b i (by omega)
  have b1 := C.b (i + 1) hi
  generalize hR at_ ((i : Int) + 1) = h at *
  generalize kB n at_ g i = k1 at *
  generalize kA n at_ g i = k2 at *
  obtain ⟨B, vB, B1, B2⟩ := adn v0 vU (12 + 140 * h) (by grind) (by grind) (by grind)
  obtain ⟨D, vD, D1, D2⟩ := sbn v1 vV (12 + 140 * h) (by grind) (by grind) (by grind)
  obtain ⟨r, vr, r1, r2⟩ := sbn vB v0 (1405 / 10 * h) (by grind) (by grind) (by grind)
  obtain ⟨q, vq, q1, q2⟩ := sbn v1 vD (1405 / 10 * h) (by grind) (by grind) (by grind)
  exact ⟨B, D, r, q, vB, vD, ⟨by grind, by grind⟩, ⟨by grind, by grind⟩, vr, vq, ⟨by grind, by grind⟩, ⟨by grind, by grind⟩, ⟨by grind, by grind⟩, by grind, by grind⟩
end
/-- Divided by the step, as the reference tells it. -/
theorem quo_k {H H' d r k s u : Rat} (hd : 353 / 10000 ≤ d ∧ d ≤ 1) (h1 : -(5 / 2 / 8388608 * d) ≤ H - d) (h2 : H - d ≤ 5 / 2 / 8388608 * d) (h3 : -(5 / 2 / 8388608 * d) ≤ H' - d) (h4 : H' - d ≤ 5 / 2 / 8388608 * d)
    (r1 : -(6000 / 8388608 * H) ≤ r - k * H) (r2 : r - k * H ≤ 6000 / 8388608 * H) (hk : -139 ≤ k ∧ k ≤ 139) (hs : s * H' = r) (u1 : -((142 + 2) / 8388608) ≤ u - s) (u2 : u - s ≤ (142 + 2) / 8388608) : -(9 / 10000) ≤ u - k ∧ u - k ≤ 9 / 10000 := by
  have b := mul_bnd (p := k) (q := H - H') (a := 139) (b := 5 / 8388608 * d) hk.1 hk.2 (by grind) (by grind)
  have e : (s - k) * H' = r - k * H + k * (H - H') := by grind
  have c1 : (s - k) * H' ≤ 6710 / 8388608 * H' := by grind
  have c2 : -(6710 / 8388608) * H' ≤ (s - k) * H' := by grind
  have c3 := Rat.le_of_mul_le_mul_right c1 (show 0 < H' by grind)
  have c4 := Rat.le_of_mul_le_mul_right c2 (show 0 < H' by grind)
  constructor <;> grind
section
variable {n : Nat} {P : Nat → CV} {a c : Nat → Int} {l : Nat → Rat} {t : Nat → Rat} {at_ ev : Int → FV} {x y : Nat → Rat}
/-- All of a natural curve that the law asks for: points that are numbers. -/
theorem nat_fin (X : Cmp n l (reF P) x) (Y : Cmp n l (imF P) y) (T : Par n l at_ t) {i : Nat} (hi : i + 1 < n) : (tabC 4 (natQ at_ n P i)).all finC = true := tabC_fin fun j hj => by
  obtain ⟨B, D, _, _, vB, vD, _⟩ := X.pts T hi
  obtain ⟨B', D', _, _, vB', vD', _⟩ := Y.pts T hi
  have hj' : j = 0 ∨ j = 1 ∨ j = 2 ∨ j = 3 := by omega
  rcases hj' with rfl | rfl | rfl | rfl
  · exact finC_of (X.v i (by omega)) (Y.v i (by omega))
  · exact finC_of (p := natQ at_ n P i 1) vB vB'
  · exact finC_of (p := natQ at_ n P i 2) vD vD'
  · exact finC_of (p := natQ at_ n P i 3) (X.v (i + 1) hi) (Y.v (i + 1) hi)
abbrev d001 : FV := fv .f64 4576918229304087675
abbrev dOne : FV := fv .f64 4607182418800017408
theorem last_ok {p q : CV} {u v u' v' : Rat} (hp : Vl .f32 p.1 u ∧ Vl .f32 p.2 v) (hq : Vl .f32 q.1 u' ∧ Vl .f32 q.2 v') (b1 : -150 ≤ u ∧ u ≤ 150) (b2 : -150 ≤ v ∧ v ≤ 150) (d1 : -(38 / 10000) ≤ u - u') (d2 : u - u' ≤ 38 / 10000) (d3 : -(38 / 10000) ≤ v - v') (d4 : v - v' ≤ 38 / 10000) :
    LongOk (subC2 p q) ∧ LongOk p ∧ cmpB .gtr (fcmp .f64 (w64 (longC (subC2 p q))) (fbin .mul .f64 d001 (fbin .add .f64 dOne (w64 (longC p))))) = false := by
  obtain ⟨r, vr, r1, r2⟩ := sbn hp.1 hq.1 (1 / 100) (by grind) (by grind) (by decide +kernel)
  obtain ⟨s, vs, s1, s2⟩ := sbn hp.2 hq.2 (1 / 100) (by grind) (by grind) (by decide +kernel)
  obtain ⟨R, vR, ok1, R0, R1⟩ := long_up vr vs (Le2.of_abs (a := 39 / 10000) (b := 39 / 10000) (by grind) (by grind) (by grind) (by grind)) (by decide +kernel)
  obtain ⟨S, vS, ok2, S0, S1⟩ := long_up hp.1 hp.2 (Le2.of_abs (a := 150) (b := 150) b1.1 b1.2 b2.1 b2.2) (by decide +kernel)
  refine ⟨ok1, ok2, ?_⟩
  have vO : Vl .f64 dOne 1 := Vl.c (by decide +kernel)
  obtain ⟨k, vk, k1, k2⟩ : ∃ k, Vl .f64 d001 k ∧ 99 / 10000 ≤ k ∧ k ≤ 101 / 10000 := ⟨_, Vl.c (q := 5764607523034235 / 576460752303423488) (by decide +kernel), by decide +kernel, by decide +kernel⟩
  have f100 : (1000000 : Rat) < p2 (ftop .f64) := by decide +kernel
  obtain ⟨A, vA, rA⟩ := vl_add vO (vl_wide vS) (by constructor <;> grind)
  have n1 := near64r rA 1000 (by grind) (by grind) (by decide +kernel)
  have m := mul_bnd (p := k) (q := A) (a := 101 / 10000) (b := 1000) (by grind) k2 (by grind) (by grind)
  obtain ⟨M, vM, rM⟩ := vl_mul vk vA (by constructor <;> grind)
  have n2 := near64r rM 1000 (by grind) (by grind) (by decide +kernel)
  have hg := vl_gtr (vl_wide vR) vM
  refine (show _ = decide (M < R) from hg).trans (decide_eq_false ?_)
  have m2 := Rat.mul_nonneg (show 0 ≤ k - 99 / 10000 by grind) (show 0 ≤ A by grind)
  grind
theorem close3 {u v k m : Rat} (h1 : -(9 / 10000) ≤ u - k ∧ u - k ≤ 9 / 10000) (h2 : -(9 / 10000) ≤ v - m ∧ v - m ≤ 9 / 10000) (h3 : -(1 / 540) ≤ k - m ∧ k - m ≤ 1 / 540) (h4 : -139 ≤ k ∧ k ≤ 139) : -(38 / 10000) ≤ u - v ∧ u - v ≤ 38 / 10000 ∧ (-150 ≤ u ∧ u ≤ 150) := by
  refine ⟨by grind, by grind, by grind, by grind⟩
/-- At a joint the curve goes on as fast, nearly. -/
theorem nat_last (X : Cmp n l (reF P) x) (Y : Cmp n l (imF P) y) (T : Par n l at_ t) (E : Par n l ev t) {i : Nat} (h1 : 1 ≤ i) (h2 : i + 1 < n) :
    CdOk (subC2 (natQ at_ n P (i - 1) 3) (natQ at_ n P (i - 1) 2)) (hT ev i) ∧ CdOk (subC2 (natQ at_ n P i 1) (natQ at_ n P i 0)) (hT ev ((i : Int) + 1)) ∧
    LongOk (subC2 (cdC (subC2 (natQ at_ n P (i - 1) 3) (natQ at_ n P (i - 1) 2)) (hT ev i)) (cdC (subC2 (natQ at_ n P i 1) (natQ at_ n P i 0)) (hT ev ((i : Int) + 1)))) ∧
    LongOk (cdC (subC2 (natQ at_ n P (i - 1) 3) (natQ at_ n P (i - 1) 2)) (hT ev i)) ∧
    cmpB .gtr (fcmp .f64 (w64 (longC (subC2 (cdC (subC2 (natQ at_ n P (i - 1) 3) (natQ at_ n P (i - 1) 2)) (hT ev i)) (cdC (subC2 (natQ at_ n P i 1) (natQ at_ n P i 0)) (hT ev ((i : Int) + 1)))))) (fbin .mul .f64 d001 (fbin .add .f64 dOne (w64 (longC (cdC (subC2 (natQ at_ n P (i - 1) 3) (natQ at_ n P (i - 1) 2)) (hT ev i))))))) = false := by
  obtain ⟨j, rfl⟩ : ∃ j, i = j + 1 := ⟨i - 1, by omega⟩
  rw [show j + 1 - 1 = j from rfl]
  have ej : ((j + 1 : Nat) : Int) = (j : Int) + 1 := by omega
  obtain ⟨_, _, _, q1, _, _, _, _, _, vq1, _, bq1, _, kq1, kq1'⟩ := X.pts T (i := j) (by omega)
  obtain ⟨_, _, _, q2, _, _, _, _, _, vq2, _, bq2, _, kq2, kq2'⟩ := Y.pts T (i := j) (by omega)
  obtain ⟨_, _, r1, _, _, _, _, _, vr1, _, br1, _, ⟨kr1, kr1'⟩, _⟩ := X.pts T (i := j + 1) h2
  obtain ⟨_, _, r2, _, _, _, _, _, vr2, _, br2, _, ⟨kr2, kr2'⟩, _⟩ := Y.pts T (i := j + 1) h2
  obtain ⟨_, _, _, _, _, _, _, _, _, kx0⟩ := X.uv T (i := j) (by omega)
  obtain ⟨_, _, _, _, _, _, _, _, _, ky0⟩ := Y.uv T (i := j) (by omega)
  obtain ⟨_, _, _, _, _, _, _, _, kx1, _⟩ := X.uv T (i := j + 1) h2
  obtain ⟨_, _, _, _, _, _, _, _, ky1, _⟩ := Y.uv T (i := j + 1) h2
  have jx := X.joint T h1 h2
  have jy := Y.joint T h1 h2
  obtain ⟨_, g1, g2, g3⟩ := T.h_vl (i := j) (by omega)
  obtain ⟨_, g4, g5, g6⟩ := T.h_vl (i := j + 1) h2
  obtain ⟨w1, g7, g8, _⟩ := E.h_vl (i := j) (by omega)
  obtain ⟨w2, g9, g10, _⟩ := E.h_vl (i := j + 1) h2
  rw [ej] at *
  rw [show (j : Int) + 1 - 1 = j by omega] at jx jy
  generalize hR at_ ((j : Int) + 1) = H1 at *
  generalize hR at_ ((j : Int) + 1 + 1) = H2 at *
  generalize hR ev ((j : Int) + 1) = G1 at *
  generalize hR ev ((j : Int) + 1 + 1) = G2 at *
  obtain ⟨ok1, u1, u2, s1, s2, vu1, vu2, e1, e2, t1, t2, ⟨x1, x2⟩, x3, x4⟩ := cdC_vl (p := subC2 (natQ at_ n P j 3) (natQ at_ n P j 2)) vq1 vq2 w1 (by grind) 142 (by grind) (by grind) (by grind) (by grind) (by decide +kernel) (by constructor <;> grind) (by constructor <;> grind) (by grind)
  obtain ⟨ok2, v1, v2, s3, s4, vv1, vv2, e3, e4, t3, t4, ⟨x5, x6⟩, x7, x8⟩ := cdC_vl (p := subC2 (natQ at_ n P (j + 1) 1) (natQ at_ n P (j + 1) 0)) vr1 vr2 w2 (by grind) 142 (by grind) (by grind) (by grind) (by grind) (by decide +kernel) (by constructor <;> grind) (by constructor <;> grind) (by grind)
  have z1 := quo_k g3 g1 g2 g7 g8 kq1 kq1' kx0 e1 x1 x2
  have z2 := quo_k g3 g1 g2 g7 g8 kq2 kq2' ky0 e2 x3 x4
  have z3 := quo_k g6 g4 g5 g9 g10 kr1 kr1' kx1 e3 x5 x6
  have z4 := quo_k g6 g4 g5 g9 g10 kr2 kr2' ky1 e4 x7 x8
  obtain ⟨c1, c2, c3⟩ := close3 z1 z3 jx kx0
  obtain ⟨c4, c5, c6⟩ := close3 z2 z4 jy ky0
  obtain ⟨l1, l2, l3⟩ := last_ok ⟨vu1, vu2⟩ ⟨vv1, vv2⟩ c3 c6 c1 c2 c4 c5
  exact ⟨ok1, ok2, l1, l2, l3⟩
end
end Go.Ab
namespace Go.Ab
open Go.Proofs
section
variable {n : Nat} {P : Nat → CV} {a c : Nat → Int} {l : Nat → Rat}
theorem Lth.cmpX (h : Lth n P a c l) (hp : Pth n P a c) (hn : n ≤ 7) : Cmp n l (reF P) (pX a) :=
  ⟨fun i hi => hp.vx i hi, fun i hi => (hp.step_vl hi hn).1, fun i hi => (h.le i hi).x, fun i hi => by have := (hp.bdx hn hi).1; constructor <;> grind⟩
theorem Lth.cmpY (h : Lth n P a c l) (hp : Pth n P a c) (hn : n ≤ 7) : Cmp n l (imF P) (pX c) :=
  ⟨fun i hi => hp.vy i hi, fun i hi => (hp.step_vl hi hn).2.1, fun i hi => (h.le i hi).y, fun i hi => by have := (hp.bdx hn hi).2; constructor <;> grind⟩
theorem Lth.par (h : Lth n P a c l) (hp : Pth n P a c) (hn : 2 ≤ n ∧ n ≤ 7) : ∃ t, Par n l (parF one1 P n) t ∧ Par n l (parS one1 P n) t := by
  obtain ⟨t, ht, t0, t1, tb, _⟩ := par_vl h hn vl_one1 (by decide +kernel)
  have hs := parS_vl h hn vl_one1 (by decide +kernel) ht t0 t1
  exact ⟨t, ⟨hn, ht, tb, fun i hi => h.steps hp hn ht hi, fun i hi => (h.b i hi).1⟩, ⟨hn, hs, tb, fun i hi => h.steps hp hn ht hi, fun i hi => (h.b i hi).1⟩⟩
/-- Parameters of any power. -/
theorem Lth.par_ok (h : Lth n P a c l) (hn : 2 ≤ n ∧ n ≤ 7) {w : FV} {ω : Rat} (vw : Vl .f32 w ω) (hw : 0 ≤ ω ∧ ω ≤ 1) : cmpB .neq (fcmp .f32 (parF w P n 0) (fv .f32 0)) = false ∧ cmpB .neq (fcmp .f32 (parF w P n ((n : Int) - 1)) one1) = false ∧
    ∀ i : Nat, i + 1 < n → cmpB .leq (fcmp .f32 (parF w P n ((i : Int) + 1)) (parF w P n i)) = false := by
  obtain ⟨t, ht, t0, t1, tb, ts⟩ := par_vl h hn vw hw
  have v0 : Vl .f32 (fv .f32 0) 0 := Vl.c (by decide +kernel)
  refine ⟨?_, ?_, fun i hi => ?_⟩
  · have := ht 0 (by omega)
    rw [t0] at this
    rw [vl_neq (show Vl .f32 (parF w P n 0) 0 from this) v0]
    exact decide_eq_false (by simp)
  · have := ht (n - 1) (by omega)
    rw [t1, show ((n - 1 : Nat) : Int) = (n : Int) - 1 by omega] at this
    rw [vl_neq this vl_one1]
    exact decide_eq_false (by simp)
  · have h1 := ht (i + 1) hi
    rw [show ((i + 1 : Nat) : Int) = (i : Int) + 1 by omega] at h1
    rw [vl_leq h1 (ht i (by omega))]
    have := ts i hi
    exact decide_eq_false (by grind)
end
theorem long_zero {p : CV} (hx : Vl .f32 p.1 0) (hy : Vl .f32 p.2 0) : LongOk p ∧ Vl .f32 (longC p) 0 := by
  have p30 : (0 : Rat) ≤ p2 30 := by decide +kernel
  obtain ⟨R, vR, ok, h0, hs, _⟩ := vl_long hx hy (by constructor <;> grind) (by constructor <;> grind)
  have h1 := (hs 0 ⟨0, FloatKind.f32.format.leastPlace, Nat.zero_le _, Int.le_refl _, by rw [show ((0 : Nat) : Rat) = 0 from rfl, Rat.zero_mul]⟩).1 (by grind)
  have e : R = 0 := Rat.le_antisymm h1 h0
  rw [e] at vR
  exact ⟨ok, vR⟩
theorem maxTo_vl {f : Nat → FV} {B : Rat} (hB : 0 ≤ B) {k : Nat} (h : ∀ j, j < k → ∃ r, Vl .f32 (f j) r ∧ 0 ≤ r ∧ r ≤ B) : ∀ i, i ≤ k → ∃ r, Vl .f32 (maxTo f i) r ∧ 0 ≤ r ∧ r ≤ B
  | 0, _ => ⟨0, Vl.c (k := .f32) (b := 0) (q := 0) (by decide +kernel), Rat.le_refl, hB⟩
  | i + 1, hi => by
    obtain ⟨r, vr, r0, r1⟩ := maxTo_vl hB h i (by omega)
    obtain ⟨s, vs, s0, s1⟩ := h i (by omega)
    obtain ⟨u, vu, u1, u2, u3⟩ := vl_max vr vs
    exact ⟨u, vu, by grind, by rcases u3 with rfl | rfl <;> assumption⟩
/-- Pieces that are joined. -/
structure Jnd (k : Nat) (Q : Nat → Nat → CV) (B : Rat) : Prop where
  hk : 1 ≤ k ∧ k ≤ 48
  hB : 0 ≤ B ∧ B ≤ 400
  fin : ∀ i, i < k → (tabC 4 (Q i)).all finC = true
  e : ∀ i, i + 1 < k → Q (i + 1) 0 = Q i 3 ∧ ∃ x y, Vl .f32 (Q i 3).1 x ∧ Vl .f32 (Q i 3).2 y
  s : ∀ i, i + 1 < k → ∃ d e, Vl .f32 (slopeC Q i).1 d ∧ Vl .f32 (slopeC Q i).2 e ∧ (-B ≤ d ∧ d ≤ B) ∧ -B ≤ e ∧ e ≤ B
def endTo (Q : Nat → Nat → CV) (k : Nat) : FV := maxTo (fun j => longC (endC Q j)) (k - 1)
def slopeTo (Q : Nat → Nat → CV) (k : Nat) : FV := maxTo (fun j => longC (slopeC Q j)) (k - 1)
section
variable {k : Nat} {Q : Nat → Nat → CV} {B : Rat}
theorem Jnd.e0 (h : Jnd k Q B) {i : Nat} (hi : i + 1 < k) : LongOk (endC Q i) ∧ Vl .f32 (longC (endC Q i)) 0 := by
  obtain ⟨e, x, y, vx, vy⟩ := h.e i hi
  unfold endC
  rw [e]
  exact long_zero (p := subC2 (Q i 3) (Q i 3)) (sub_self_ex vx vx) (sub_self_ex vy vy)
theorem Jnd.s0 (h : Jnd k Q B) {i : Nat} (hi : i + 1 < k) : LongOk (slopeC Q i) ∧ ∃ r, Vl .f32 (longC (slopeC Q i)) r ∧ 0 ≤ r ∧ r ≤ (B + B) * (1 + 1 / 1000000) + 1 / 1000000000 := by
  obtain ⟨d, e, vd, ve, ⟨d1, d2⟩, e1, e2⟩ := h.s i hi
  have hB := h.hB
  obtain ⟨R, vR, ok, r0, r1⟩ := long_up vd ve (Le2.of_abs (a := B) (b := B) d1 d2 e1 e2) (by grind)
  exact ⟨ok, R, vR, r0, r1⟩
theorem Jnd.fn (h : Jnd k Q B) : Fn Try.prog 18 (fun w => [crvsA w Q k]) (.tup [.f .f32 (endTo Q k), .f .f32 (slopeTo Q k), .raw (.bool true)]) := by
  have hB := h.hB
  have m1 := maxTo_vl (f := fun j => longC (endC Q j)) (B := 0) Rat.le_refl (k := k - 1) (fun j hj => ⟨0, (h.e0 (by omega)).2, Rat.le_refl, Rat.le_refl⟩)
  have m2 := maxTo_vl (f := fun j => longC (slopeC Q j)) (B := (B + B) * (1 + 1 / 1000000) + 1 / 1000000000) (by grind) (k := k - 1) (fun j hj => (h.s0 (by omega)).2)
  refine joinMiss_fn h.hk h.fin (fun i hi => ⟨(h.e0 hi).1, (h.s0 hi).1, ⟨0, (h.e0 hi).2⟩, ?_⟩) (fun i hi => ⟨?_, ?_⟩)
  · obtain ⟨r, vr, _⟩ := (h.s0 hi).2
    exact ⟨r, vr⟩
  · obtain ⟨r, vr, _⟩ := m1 i (by omega)
    exact ⟨r, vr⟩
  · obtain ⟨r, vr, _⟩ := m2 i (by omega)
    exact ⟨r, vr⟩
theorem Jnd.end_no (h : Jnd k Q B) : cmpB .neq (fcmp .f32 (endTo Q k) (fv .f32 0)) = false := by
  obtain ⟨r, vr, r0, r1⟩ := maxTo_vl (f := fun j => longC (endC Q j)) (B := 0) Rat.le_refl (k := k - 1) (fun j hj => ⟨0, (h.e0 (by omega)).2, Rat.le_refl, Rat.le_refl⟩) (k - 1) (Nat.le_refl _)
  have e : r = 0 := Rat.le_antisymm r1 r0
  rw [e] at vr
  have v0 : Vl .f32 (fv .f32 0) 0 := Vl.c (by decide +kernel)
  rw [vl_neq (show Vl .f32 (endTo Q k) 0 from vr) v0]
  exact decide_eq_false (by simp)
theorem Jnd.slope_vl (h : Jnd k Q B) : ∃ r, Vl .f32 (slopeTo Q k) r ∧ 0 ≤ r ∧ r ≤ (B + B) * (1 + 1 / 1000000) + 1 / 1000000000 := by
  have hB := h.hB
  exact maxTo_vl (f := fun j => longC (slopeC Q j)) (B := (B + B) * (1 + 1 / 1000000) + 1 / 1000000000) (by grind) (k := k - 1) (fun j hj => (h.s0 (by omega)).2) (k - 1) (Nat.le_refl _)
end
section
variable {n : Nat} {P : Nat → CV} {a c : Nat → Int} {l : Nat → Rat} {t : Nat → Rat} {at_ : Int → FV} {x y : Nat → Rat}
theorem nat_jnd (X : Cmp n l (reF P) x) (Y : Cmp n l (imF P) y) (T : Par n l at_ t) : Jnd (n - 1) (natQ at_ n P) 300 := by
  have hn := T.hn
  refine ⟨by omega, by decide +kernel, fun i hi => nat_fin X Y T (by omega), fun i hi => ⟨rfl, x (i + 1), y (i + 1), X.v (i + 1) (by omega), Y.v (i + 1) (by omega)⟩, fun i hi => ?_⟩
  obtain ⟨_, _, _, q1, _, _, _, _, _, vq1, _, bq1, _⟩ := X.pts T (i := i) (by omega)
  obtain ⟨_, _, _, q2, _, _, _, _, _, vq2, _, bq2, _⟩ := Y.pts T (i := i) (by omega)
  obtain ⟨_, _, r1, _, _, _, _, _, vr1, _, br1, _⟩ := X.pts T (i := i + 1) (by omega)
  obtain ⟨_, _, r2, _, _, _, _, _, vr2, _, br2, _⟩ := Y.pts T (i := i + 1) (by omega)
  have h1 := (X.nb T).hb ((i : Int) + 1) (by omega) (by omega)
  have h2 := (X.nb T).hb (((i + 1 : Nat) : Int) + 1) (by omega) (by omega)
  generalize hR at_ ((i : Int) + 1) = H1 at *
  generalize hR at_ (((i + 1 : Nat) : Int) + 1) = H2 at *
  clear X Y T
  obtain ⟨d, vd, d1, d2⟩ := sbn vr1 vq1 290 (by grind) (by grind) (by decide +kernel)
  obtain ⟨e, ve, e1, e2⟩ := sbn vr2 vq2 290 (by grind) (by grind) (by decide +kernel)
  exact ⟨d, e, vd, ve, ⟨by grind, by grind⟩, by grind, by grind⟩
theorem Cmp.graph {g : Int → FV} (X : Cmp n l g x) (T : Par n l at_ t) : graphB (tab n at_) (tab n g) = true := by
  have hn := T.hn
  unfold graphB
  rw [tab_length, tab_length, decide_eq_false (by omega), decide_eq_false (by omega), decide_eq_false (by omega), tab_fin T.v, tab_fin X.v, upB_true]
  · rfl
  · intro i h1 h2
    rw [tab_length] at h2
    obtain ⟨j, rfl⟩ : ∃ j, i = j + 1 := ⟨i - 1, by omega⟩
    have e1 : (tab n at_).getD (j + 1) default = at_ ((j + 1 : Nat) : Int) := getD_tab (i := ((j + 1 : Nat) : Int)) (by omega) (by omega)
    have e2 : (tab n at_).getD (j + 1 - 1) default = at_ (j : Int) := getD_tab (i := (j : Int)) (by omega) (by omega)
    rw [e1, e2, vl_gtr (T.v (j + 1) h2) (T.v j (by omega))]
    refine decide_eq_true ?_
    have h3 := T.st j (by omega)
    have h4 := T.l j (by omega)
    grind
theorem Cmp.bfin {g : Int → FV} (X : Cmp n l g x) (T : Par n l at_ t) : (tab n (bendT n at_ g)).all finB = true := tab_all_fin fun i h0 h1 => ⟨_, ((X.nb T).bend h0 h1).1⟩
/-- There and back again. -/
theorem back_near {p u : FV} {X U : Rat} (vp : Vl .f32 p X) (vu : Vl .f32 u U) (hX : -12 ≤ X ∧ X ≤ 12) (hU : -5 ≤ U ∧ U ≤ 5) : (∃ s, Vl .f32 (fbin .add .f32 p u) s) ∧ (∃ s, Vl .f32 (fbin .sub .f32 p u) s) ∧
    ∃ d, Vl .f32 (fbin .sub .f32 (fbin .sub .f32 (fbin .add .f32 p u) p) (fbin .sub .f32 p (fbin .sub .f32 p u))) d ∧ -(1 / 100000) ≤ d ∧ d ≤ 1 / 100000 := by
  obtain ⟨s, vs, s1, s2⟩ := adn vp vu 17 (by grind) (by grind) (by decide +kernel)
  obtain ⟨r, vr, r1, r2⟩ := sbn vp vu 17 (by grind) (by grind) (by decide +kernel)
  obtain ⟨f, vf, f1, f2⟩ := sbn vs vp 6 (by grind) (by grind) (by decide +kernel)
  obtain ⟨g, vg, g1, g2⟩ := sbn vp vr 6 (by grind) (by grind) (by decide +kernel)
  obtain ⟨d, vd, d1, d2⟩ := sbn vf vg 1 (by grind) (by grind) (by decide +kernel)
  exact ⟨⟨s, vs⟩, ⟨r, vr⟩, d, vd, by grind, by grind⟩
theorem sixth_vl : ∃ q, Vl .f32 sixth q ∧ 0 ≤ q ∧ q ≤ 17 / 100 := by
  obtain ⟨r, v, vr, e, _, r1, r2⟩ := dvn (x := fv .f32 1065353216) (y := fv .f32 1086324736) (p := 1) (q := 6) (Vl.c (by decide +kernel)) (Vl.c (by decide +kernel)) (by decide +kernel) 1 (by decide +kernel) (by decide +kernel) (by decide +kernel)
  exact ⟨r, vr, by grind, by grind⟩
theorem sixth_of {p q : FV} {X Y : Rat} (vp : Vl .f32 p X) (vq : Vl .f32 q Y) (hX : -12 ≤ X ∧ X ≤ 12) (hY : -12 ≤ Y ∧ Y ≤ 12) : ∃ u, Vl .f32 (fbin .mul .f32 (fbin .sub .f32 p q) sixth) u ∧ -5 ≤ u ∧ u ≤ 5 := by
  obtain ⟨k, vk, k0, k1⟩ := sixth_vl
  obtain ⟨d, vd, d1, d2⟩ := sbn vp vq 24 (by grind) (by grind) (by decide +kernel)
  have m := mul_bnd (p := d) (q := k) (a := 241 / 10) (b := 17 / 100) (by grind) (by grind) (by grind) k1
  obtain ⟨u, vu, u1, u2⟩ := mln vd vk 5 (by grind) (by grind) (by decide +kernel)
  exact ⟨u, vu, by grind, by grind⟩
theorem loose_fin (X : Cmp n l (reF P) x) (Y : Cmp n l (imF P) y) {i : Nat} (hi : i + 1 < n) : (tabC 4 (looseQ n P i)).all finC = true := tabC_fin fun j hj => by
  have hx : ∀ j, j < n → Vl .f32 (P j).1 (x j) := fun j hj => X.v j hj
  have hy : ∀ j, j < n → Vl .f32 (P j).2 (y j) := fun j hj => Y.v j hj
  have hj' : j = 0 ∨ j = 1 ∨ j = 2 ∨ j = 3 := by omega
  rcases hj' with rfl | rfl | rfl | rfl
  · exact finC_of (p := looseQ n P i 0) (hx i (by omega)) (hy i (by omega))
  · obtain ⟨u, vu, u1⟩ := sixth_of (hx (i + 1) hi) (hx (i - 1) (by omega)) (X.b _ hi) (X.b _ (by omega))
    obtain ⟨v, vv, v1⟩ := sixth_of (hy (i + 1) hi) (hy (i - 1) (by omega)) (Y.b _ hi) (Y.b _ (by omega))
    obtain ⟨⟨s, vs⟩, _⟩ := back_near (hx i (by omega)) vu (X.b _ (by omega)) u1
    obtain ⟨⟨r, vr⟩, _⟩ := back_near (hy i (by omega)) vv (Y.b _ (by omega)) v1
    exact finC_of (p := looseQ n P i 1) vs vr
  · obtain ⟨u, vu, u1⟩ := sixth_of (hx (min (n - 1) (i + 2)) (by omega)) (hx i (by omega)) (X.b _ (by omega)) (X.b _ (by omega))
    obtain ⟨v, vv, v1⟩ := sixth_of (hy (min (n - 1) (i + 2)) (by omega)) (hy i (by omega)) (Y.b _ (by omega)) (Y.b _ (by omega))
    obtain ⟨_, ⟨s, vs⟩, _⟩ := back_near (hx (i + 1) (by omega)) vu (X.b _ (by omega)) u1
    obtain ⟨_, ⟨r, vr⟩, _⟩ := back_near (hy (i + 1) (by omega)) vv (Y.b _ (by omega)) v1
    exact finC_of (p := looseQ n P i 2) vs vr
  · exact finC_of (p := looseQ n P i 3) (hx (i + 1) hi) (hy (i + 1) hi)
theorem loose_jnd (X : Cmp n l (reF P) x) (Y : Cmp n l (imF P) y) (hn : 2 ≤ n ∧ n ≤ 7) : Jnd (n - 1) (looseQ n P) (1 / 100000) := by
  have hx : ∀ j, j < n → Vl .f32 (P j).1 (x j) := fun j hj => X.v j hj
  have hy : ∀ j, j < n → Vl .f32 (P j).2 (y j) := fun j hj => Y.v j hj
  refine ⟨by omega, by decide +kernel, fun i hi => loose_fin X Y (by omega), fun i hi => ⟨rfl, x (i + 1), y (i + 1), hx (i + 1) (by omega), hy (i + 1) (by omega)⟩, fun i hi => ?_⟩
  have e : looseV n P i = looseU P (i + 1) := by
    unfold looseV looseU
    rw [show min (n - 1) (i + 2) = i + 1 + 1 by omega, show i + 1 - 1 = i by omega]
  obtain ⟨u, vu, u1⟩ := sixth_of (hx (i + 1 + 1) (by omega)) (hx i (by omega)) (X.b _ (by omega)) (X.b _ (by omega))
  obtain ⟨v, vv, v1⟩ := sixth_of (hy (i + 1 + 1) (by omega)) (hy i (by omega)) (Y.b _ (by omega)) (Y.b _ (by omega))
  obtain ⟨_, _, d, vd, d1⟩ := back_near (hx (i + 1) (by omega)) vu (X.b _ (by omega)) u1
  obtain ⟨_, _, f, vf, f1⟩ := back_near (hy (i + 1) (by omega)) vv (Y.b _ (by omega)) v1
  have es : slopeC (looseQ n P) i = subC2 (subC2 (addC2 (P (i + 1)) (looseU P (i + 1))) (P (i + 1))) (subC2 (P (i + 1)) (subC2 (P (i + 1)) (looseV n P i))) := rfl
  rw [es, e]
  exact ⟨d, f, vd, vf, d1, f1⟩
end
end Go.Ab
namespace Go.Ab
open Go.Proofs
end Go.Ab
namespace Go.Ab
open Go.Proofs
variable {R : World → Prop} [RStab R]
theorem RS.weakE {P : Program} {N : Nat} {ops : Array Oper} {l : List Oper} {e e' : Env} {S : World → Prop} {Q : Exit → Env → World → Prop} (h : RS P N ops l e' S Q) (he : Env.sub e' e) : RS P N ops l e S Q := fun a w hw hF => h a w hw (hF.sub he)
attribute [local irreducible] WS RS Done OpJ Then InBlock Round Ret Env.sub FnH
attribute [local irreducible] tab tabC
end Go.Ab
