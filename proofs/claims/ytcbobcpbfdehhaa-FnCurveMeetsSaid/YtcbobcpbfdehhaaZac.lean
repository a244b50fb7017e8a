/- Part 3 of the texts on which the law leans, joined: From a walk of a law to its row: what was read is read again, the answer is true. No conditions. -/
import Derived.KernelRfl
import Derived.ProofKit
import Derived.OpenShut
import Derived.Deep.Slices
import Derived.Test.YtcbobcpbfdehhaaZab
namespace Go.Ab
open Go.Proofs
abbrev CV := FV × FV
def cA (p : CV) : AV := .c .f32 p.1 p.2
/-- A list of complex numbers that came in. -/
abbrev slC (w : World) (L : List CV) : AV := AV.sl w 1 (L.map cA)
def tabC (n : Nat) (f : Nat → CV) : List CV := (List.range n).map f
@[simp] theorem tabC_length (n : Nat) (f : Nat → CV) : (tabC n f).length = n := by simp [tabC]
theorem tabC_get {n : Nat} (f : Nat → CV) {i : Nat} (h : i < n) : (tabC n f)[i]? = some (f i) := by simp [tabC, h]
theorem tabC_getD {n : Nat} (f : Nat → CV) {i : Nat} (h : i < n) : (tabC n f).getD i default = f i := by simp [List.getD, tabC_get f h]
theorem tabC_ext {L : List CV} {n : Nat} {f : Nat → CV} (hl : L.length = n) (h : ∀ i, i < n → L[i]? = some (f i)) : L = tabC n f := by
  apply List.ext_getElem?
  intro i
  rcases Nat.lt_or_ge i n with hi | hi
  · rw [h i hi, tabC_get f hi]
  · rw [List.getElem?_eq_none (by omega), List.getElem?_eq_none (by rw [tabC_length]; exact hi)]
theorem tabC_congr {n : Nat} {f g : Nat → CV} (h : ∀ i, i < n → f i = g i) : tabC n f = tabC n g := tabC_ext (tabC_length n f) fun i hi => by rw [tabC_get f hi, h i hi]
theorem tabC_set {n : Nat} {f g : Nat → CV} {i : Nat} {x : CV} (hi : i < n) (hx : g i = x) (hg : ∀ t, t < n → t ≠ i → g t = f t) : (tabC n f).set i x = tabC n g :=
  tabC_ext (by simp) fun t ht => by
    rw [List.getElem?_set]
    split
    · rename_i h
      subst h
      rw [if_pos (by rw [tabC_length]; exact hi), hx]
    · rename_i h
      rw [tabC_get f ht, hg t ht (by omega)]
theorem tabC_snoc (n : Nat) (f : Nat → CV) : tabC n f ++ [f n] = tabC (n + 1) f := by unfold tabC; rw [List.range_succ, List.map_append]; rfl
abbrev entC (g n : Nat) (f : Nat → CV) (c : Nat) : Ent := ⟨g, 30, (tabC n f).map cA, c⟩
attribute [local irreducible] WS RS Done OpJ Then InBlock Round Ret Env.sub FnH
theorem entC_congr {g n c : Nat} {f f' : Nat → CV} (h : ∀ t, t < n → f t = f' t) : entC g n f c = entC g n f' c := by unfold entC; rw [tabC_congr h]
def finC (p : CV) : Bool := finB p.1 && finB p.2
theorem isFiniteComplex_fn (p : CV) : Fn Try.prog 60 (fun _ => [cA p]) (.raw (.bool (finC p))) := by
  have h1 := isFinite_fn p.1
  have h2 := isFinite_fn p.2
  unfold finC
  cases hb : finB p.1 <;> rw [hb] at h1
  all_goals
    refine fn_intro Try.func60 rfl Try.ntmps60 (fun _ => Nat.le_of_ble_eq_true rfl) fun w0 => ?_
    unfold cA
    repeat first | refine zai rfl rfl ?_ | refine zaj rfl rfl rfl rfl ?_ | refine zaa rfl (zay rfl) ?_ | refine zaa rfl (zaz rfl) ?_ | (refine zad ?_; first | refine zaa rfl (zbp rfl) ?_ | refine zaa rfl (zbq rfl) ?_ | (refine zaa rfl (zci rfl rfl (h1) ?_) ?_; (focus ((repeat (first | exact Takes.nil | refine Takes.sl ?_ | refine Takes.own (by (repeat (first | exact mh | refine mt ?_)); done) (by simp) (by omega) (by simp only [maxLen]; omega) ?_ | refine Takes.same ?_)); done))) | (refine zaa rfl (zci rfl rfl (h2) ?_) ?_; (focus ((repeat (first | exact Takes.nil | refine Takes.sl ?_ | refine Takes.own (by (repeat (first | exact mh | refine mt ?_)); done) (by simp) (by omega) (by simp only [maxLen]; omega) ?_ | refine Takes.same ?_)); done)))) | refine zaa rfl (zca rfl rfl) ?_ | refine zaa rfl (zcb rfl rfl) ?_ | refine zah ?_ | (refine zcr ?_; refine zcs ?_) | (refine zdb ?_; first | refine zdc ?_ | refine zdd ?_ | refine zdg ?_)
    exact done_ret1 rfl () rfl trivial (List.nil_sublist _)
theorem l01CFinite_fn (p : CV) : Fn Try.prog 22 (fun _ => [cA p]) (.raw (.bool (finC p))) := by
  have h1 := l01Finite_fn p.1
  have h2 := l01Finite_fn p.2
  unfold finC
  cases hb : finB p.1 <;> rw [hb] at h1
  all_goals
    refine fn_intro Try.func22 rfl Try.ntmps22 (fun _ => Nat.le_of_ble_eq_true rfl) fun w0 => ?_
    unfold cA
    repeat first | refine zai rfl rfl ?_ | refine zaj rfl rfl rfl rfl ?_ | refine zaa rfl (zay rfl) ?_ | refine zaa rfl (zaz rfl) ?_ | (refine zad ?_; first | refine zaa rfl (zbp rfl) ?_ | refine zaa rfl (zbq rfl) ?_ | (refine zaa rfl (zci rfl rfl (h1) ?_) ?_; (focus ((repeat (first | exact Takes.nil | refine Takes.sl ?_ | refine Takes.own (by (repeat (first | exact mh | refine mt ?_)); done) (by simp) (by omega) (by simp only [maxLen]; omega) ?_ | refine Takes.same ?_)); done))) | (refine zaa rfl (zci rfl rfl (h2) ?_) ?_; (focus ((repeat (first | exact Takes.nil | refine Takes.sl ?_ | refine Takes.own (by (repeat (first | exact mh | refine mt ?_)); done) (by simp) (by omega) (by simp only [maxLen]; omega) ?_ | refine Takes.same ?_)); done)))) | refine zaa rfl (zca rfl rfl) ?_ | refine zaa rfl (zcb rfl rfl) ?_ | refine zah ?_ | (refine zcr ?_; refine zcs ?_) | (refine zdb ?_; first | refine zdc ?_ | refine zdd ?_ | refine zdg ?_)
    exact done_ret1 rfl () rfl trivial (List.nil_sublist _)
theorem arePoints1_fn (p : CV) : Fn Try.prog 59 (fun _ => [cA p]) (.raw (.bool (!(finC p)))) := by
  refine fn_intro Try.func59 rfl Try.ntmps59 (fun _ => Nat.le_of_ble_eq_true rfl) fun w0 => ?_
  repeat first | refine zaa rfl (zay rfl) ?_ | refine zaa rfl (zaz rfl) ?_ | (refine zad ?_; (refine zaa rfl (zci rfl rfl (isFiniteComplex_fn p) ?_) ?_; (focus ((repeat (first | exact Takes.nil | refine Takes.sl ?_ | refine Takes.own (by (repeat (first | exact mh | refine mt ?_)); done) (by simp) (by omega) (by simp only [maxLen]; omega) ?_ | refine Takes.same ?_)); done)))) | refine zaa rfl (zcc rfl) ?_ | refine zah ?_ | (refine zcr ?_; refine zcs ?_) | (refine zdb ?_; first | refine zdc ?_ | refine zdd ?_ | refine zdg ?_)
  exact done_ret1 rfl () rfl trivial (List.nil_sublist _)
theorem indexFuncC_fn (L : List CV) (hL : L.length < 2 ^ 62) (c : FuncId) [HasBody Try.prog c] (p : CV → Bool) (hp : ∀ x, Fn Try.prog c (fun _ => [cA x]) (.raw (.bool (p x)))) :
    Fn Try.prog 74 (fun w => [slC w L, .raw (.func (.func c) #[] #[])]) (.raw (.int .i64 (idxOf p L))) := by
  refine fn_intro Try.func74 rfl Try.ntmps74 (fun _ => Nat.le_of_ble_eq_true rfl) fun w0 => ?_
  repeat first | refine zaa rfl (zay rfl) ?_ | refine zaa rfl (zaz rfl) ?_ | (refine zad ?_; refine zaa rfl (zbm rfl) ?_) | refine zah ?_ | (refine zcr ?_; refine zcs ?_) | (refine zdb ?_; first | refine zdc ?_ | refine zdd ?_ | refine zde ?_)
  refine ws_loop (ι := Nat) (fun k => [(0, slC w0 L), (1, .raw (.func (.func c) #[] #[])), (7, .raw (.int .i64 L.length)), (8, .raw (.int .i64 k))]) (fun _ => St w0 [] []) (fun k => k ≤ L.length ∧ ∀ i, i < k → p (L.getD i default) = false) (fun k => L.length - k) 0 ⟨Nat.zero_le _, fun i hi => by omega⟩ ?_ (fun _ h => h) (fun k hk => ?_)
  · (repeat (first | exact Env.sub_nil _ | refine Env.sub_cons rfl ?_))
  · obtain ⟨hk, hall⟩ := hk
    repeat first | (refine zac ?_; refine zaa rfl (zbe rfl rfl) ?_) | refine zah ?_ | (refine zcr ?_; refine zcs ?_) | (refine zdb ?_; first | refine zdc ?_ | refine zdd ?_)
    refine ws_cond rfl (fun hc => ?_) (fun hc => ?_)
    · have hlt : (k : Int) < L.length := of_decide_eq_true hc
      repeat first | refine zaa rfl (zay rfl) ?_ | refine zaa rfl (zaz rfl) ?_ | (refine zad ?_; refine zaa rfl (zci rfl rfl (hp _) (by (repeat (first | exact Takes.nil | refine Takes.sl ?_ | refine Takes.own (by (repeat (first | exact mh | refine mt ?_)); done) (by simp) (by omega) (by simp only [maxLen]; omega) ?_ | refine Takes.same ?_)); done)) ?_) | refine zaa rfl (zbu rfl rfl) ?_ | refine zaa rfl (zbv rfl rfl (by omega) (by omega)) ?_ | refine zah ?_ | (refine zcr ?_; refine zcs ?_) | (refine zdb ?_; first | refine zdc ?_ | refine zdd ?_ | refine zde ?_ | refine zdf ?_)
      refine ws_cond rfl (fun hd => ?_) (fun hd => ?_)
      · repeat first | refine zaa rfl (zay rfl) ?_ | refine zaa rfl (zaz rfl) ?_ | refine zah ?_ | (refine zcr ?_; first | refine zcs ?_ | refine zct ?_ | refine zcw ?_ | refine zcz ?_) | (refine zdb ?_; first | refine zdc ?_ | refine zdd ?_ | refine zdg ?_)
        exact done_ret1 rfl () (by rw [idxOf_found (by omega) hall hd]; rfl) trivial (List.nil_sublist _)
      · repeat first | refine zaa rfl (zay rfl) ?_ | (refine zac ?_; refine zaa rfl (zbb rfl rfl (by omega)) ?_) | refine zah ?_ | (refine zcr ?_; first | refine zcs ?_ | refine zcv ?_) | (refine zdb ?_; first | refine zdd ?_ | refine zdf ?_)
        refine done_round (k + 1) ⟨by omega, fun i hi => ?_⟩ (by omega) ?_ (fun _ h => h)
        · rcases Nat.lt_or_ge i k with h | h
          · exact hall i h
          · obtain rfl : i = k := by omega
            exact hd
        · (repeat (first | exact Env.sub_nil _ | refine Env.sub_cons rfl ?_))
    · have hge : ¬ (k : Int) < L.length := of_decide_eq_false hc
      repeat first | refine zaa rfl (zaz rfl) ?_ | refine zah ?_ | (refine zcr ?_; first | refine zcs ?_ | refine zcu ?_ | refine zcx ?_ | refine zda ?_) | (refine zdb ?_; first | refine zdc ?_ | refine zdd ?_ | refine zdg ?_ | refine zdh ?_)
      exact done_ret1 rfl () (by rw [idxOf_none (fun i hi => hall i (by omega))]; rfl) trivial (List.nil_sublist _)
theorem containsFuncC_fn (L : List CV) (hL : L.length < 2 ^ 62) (c : FuncId) [HasBody Try.prog c] (p : CV → Bool) (hp : ∀ x, Fn Try.prog c (fun _ => [cA x]) (.raw (.bool (p x)))) :
    Fn Try.prog 58 (fun w => [slC w L, .raw (.func (.func c) #[] #[])]) (.raw (.bool (L.any p))) := by
  refine fn_intro Try.func58 rfl Try.ntmps58 (fun _ => Nat.le_of_ble_eq_true rfl) fun w0 => ?_
  repeat first | refine zaa rfl (zay rfl) ?_ | refine zaa rfl (zaz rfl) ?_ | (refine zac ?_; refine zaa rfl (zbh rfl rfl) ?_) | (refine zad ?_; (refine zaa rfl (zci rfl rfl (indexFuncC_fn _ hL _ _ hp) ?_) ?_; (focus ((repeat (first | exact Takes.nil | refine Takes.sl ?_ | refine Takes.own (by (repeat (first | exact mh | refine mt ?_)); done) (by simp) (by omega) (by simp only [maxLen]; omega) ?_ | refine Takes.same ?_)); done)))) | refine zah ?_ | (refine zcr ?_; refine zcs ?_) | (refine zdb ?_; first | refine zdc ?_ | refine zdd ?_ | refine zdg ?_)
  exact done_ret1 rfl () (by rw [← idxOf_nonneg]; rfl) trivial (List.nil_sublist _)
theorem arePoints_fn (L : List CV) (hL : L.length < 2 ^ 62) : Fn Try.prog 26 (fun w => [slC w L]) (.raw (.bool (L.all finC))) := by
  refine fn_intro Try.func26 rfl Try.ntmps26 (fun _ => Nat.le_of_ble_eq_true rfl) fun w0 => ?_
  repeat first | refine zaa rfl (zay rfl) ?_ | refine zaa rfl (zaz rfl) ?_ | (refine zad ?_; (refine zaa rfl (zci rfl rfl (containsFuncC_fn _ hL _ _ arePoints1_fn) ?_) ?_; (focus ((repeat (first | exact Takes.nil | refine Takes.sl ?_ | refine Takes.own (by (repeat (first | exact mh | refine mt ?_)); done) (by simp) (by omega) (by simp only [maxLen]; omega) ?_ | refine Takes.same ?_)); done)))) | refine zaa rfl (zcc rfl) ?_ | refine zah ?_ | (refine zcr ?_; refine zcs ?_) | (refine zdb ?_; first | refine zdc ?_ | refine zdd ?_ | refine zdg ?_)
  exact done_ret1 rfl () (by rw [show L.all finC = !(L.any fun x => !(finC x)) from by simp [List.all_eq_not_any_not]]; rfl) trivial (List.nil_sublist _)
end Go.Ab
namespace Go.Ab
open Go.Proofs
def addC2 (p q : CV) : CV := (fbin .add .f32 p.1 q.1, fbin .add .f32 p.2 q.2)
def scaleC (p : CV) (h : FV) : CV := (fbin .mul .f32 p.1 h, fbin .mul .f32 p.2 h)
def aboveB (x : FV) : Bool := finB x && cmpB .gtr (fcmp .f32 x (fv .f32 0))
attribute [local irreducible] WS RS Done OpJ Then InBlock Round Ret Env.sub FnH
theorem areMore1_fn (x : FV) : Fn Try.prog 73 (fun _ => [.f .f32 x]) (.raw (.bool (!(aboveB x)))) := by
  have h1 := isFinite_fn x
  unfold aboveB
  cases hb : finB x <;> rw [hb] at h1
  all_goals
    refine fn_intro Try.func73 rfl Try.ntmps73 (fun _ => Nat.le_of_ble_eq_true rfl) fun w0 => ?_
    repeat first | refine zai rfl rfl ?_ | refine zaj rfl rfl rfl rfl ?_ | refine zaa rfl (zay rfl) ?_ | refine zaa rfl (zaz rfl) ?_ | (refine zac ?_; refine zaa rfl (zbd rfl rfl rfl) ?_) | (refine zad ?_; (refine zaa rfl (zci rfl rfl (h1) ?_) ?_; (focus ((repeat (first | exact Takes.nil | refine Takes.sl ?_ | refine Takes.lit ?_ | (refine Takes.ownE ?_ ?_ ?_ ?_ ?_; (focus (exact ⟨_, _, (by (repeat (first | exact mh | refine mt ?_)); done)⟩)); (focus (simp; done)); (focus omega); (focus (simp only [maxLen]; omega))) | refine Takes.same ?_)); done)))) | refine zaa rfl (zca rfl rfl) ?_ | refine zaa rfl (zcb rfl rfl) ?_ | refine zaa rfl (zcc rfl) ?_ | refine zah ?_ | (refine zcr ?_; refine zcs ?_) | (refine zdb ?_; first | refine zdc ?_ | refine zdd ?_ | refine zdg ?_)
    exact done_ret1 rfl () rfl trivial (List.nil_sublist _)
theorem areMore_fn (L : List FV) (hL : L.length < 2 ^ 62) : Fn Try.prog 57 (fun w => [slF w L]) (.raw (.bool (L.all aboveB))) := by
  refine fn_intro Try.func57 rfl Try.ntmps57 (fun _ => Nat.le_of_ble_eq_true rfl) fun w0 => ?_
  repeat first | refine zaa rfl (zay rfl) ?_ | refine zaa rfl (zaz rfl) ?_ | (refine zad ?_; (refine zaa rfl (zci rfl rfl (containsFunc_fn _ hL _ _ areMore1_fn) ?_) ?_; (focus ((repeat (first | exact Takes.nil | refine Takes.sl ?_ | refine Takes.lit ?_ | (refine Takes.ownE ?_ ?_ ?_ ?_ ?_; (focus (exact ⟨_, _, (by (repeat (first | exact mh | refine mt ?_)); done)⟩)); (focus (simp; done)); (focus omega); (focus (simp only [maxLen]; omega))) | refine Takes.same ?_)); done)))) | refine zaa rfl (zcc rfl) ?_ | refine zah ?_ | (refine zcr ?_; refine zcs ?_) | (refine zdb ?_; first | refine zdc ?_ | refine zdd ?_ | refine zdg ?_)
  exact done_ret1 rfl () (by rw [show L.all aboveB = !(L.any fun x => !(aboveB x)) from by simp [List.all_eq_not_any_not]]; rfl) trivial (List.nil_sublist _)
theorem l02Above_fn (x : FV) : Fn Try.prog 51 (fun _ => [.f .f32 x]) (.raw (.bool (aboveB x))) := by
  have h1 := l01Finite_fn x
  unfold aboveB
  cases hb : finB x <;> rw [hb] at h1
  all_goals
    refine fn_intro Try.func51 rfl Try.ntmps51 (fun _ => Nat.le_of_ble_eq_true rfl) fun w0 => ?_
    repeat first | refine zai rfl rfl ?_ | refine zaj rfl rfl rfl rfl ?_ | refine zaa rfl (zay rfl) ?_ | refine zaa rfl (zaz rfl) ?_ | (refine zac ?_; refine zaa rfl (zbd rfl rfl rfl) ?_) | (refine zad ?_; (refine zaa rfl (zci rfl rfl (h1) ?_) ?_; (focus ((repeat (first | exact Takes.nil | refine Takes.sl ?_ | refine Takes.lit ?_ | (refine Takes.ownE ?_ ?_ ?_ ?_ ?_; (focus (exact ⟨_, _, (by (repeat (first | exact mh | refine mt ?_)); done)⟩)); (focus (simp; done)); (focus omega); (focus (simp only [maxLen]; omega))) | refine Takes.same ?_)); done)))) | refine zaa rfl (zca rfl rfl) ?_ | refine zaa rfl (zcb rfl rfl) ?_ | refine zah ?_ | (refine zcr ?_; refine zcs ?_) | (refine zdb ?_; first | refine zdc ?_ | refine zdd ?_ | refine zdg ?_)
    exact done_ret1 rfl () rfl trivial (List.nil_sublist _)
theorem plus_fn (p q : CV) : Fn Try.prog 86 (fun _ => [cA p, cA q]) (cA (addC2 p q)) := by
  refine fn_intro Try.func86 rfl Try.ntmps86 (fun _ => Nat.le_of_ble_eq_true rfl) fun w0 => ?_
  unfold cA
  repeat first | refine zaa rfl (zay rfl) ?_ | refine zaa rfl (zaz rfl) ?_ | (refine zac ?_; refine zaa rfl (zba rfl rfl rfl) ?_) | (refine zad ?_; first | refine zaa rfl (zbp rfl) ?_ | refine zaa rfl (zbq rfl) ?_ | refine zaa rfl (zbr rfl rfl) ?_) | refine zah ?_ | (refine zcr ?_; refine zcs ?_) | (refine zdb ?_; first | refine zdc ?_ | refine zdd ?_ | refine zdg ?_)
  exact done_ret1 rfl () rfl trivial (List.nil_sublist _)
end Go.Ab
namespace Go.Ab
open Go.Proofs
instance tf27_0 : TyF Try.prog 27 0 0 := ⟨⟨Try.prog.fieldsOf 26, (Try.prog.fieldsOf 26)[0]?.getD default, (Try.prog.info? ((Try.prog.fieldsOf 26)[0]?.getD default).type).getD default, by kernel_rfl, by kernel_rfl, by kernel_rfl, by kernel_rfl, by kernel_rfl⟩⟩
instance tf27_1 : TyF Try.prog 27 1 1 := ⟨⟨Try.prog.fieldsOf 26, (Try.prog.fieldsOf 26)[1]?.getD default, (Try.prog.info? ((Try.prog.fieldsOf 26)[1]?.getD default).type).getD default, by kernel_rfl, by kernel_rfl, by kernel_rfl, by kernel_rfl, by kernel_rfl⟩⟩
instance tf43_0 : TyF Try.prog 43 0 0 := ⟨⟨Try.prog.fieldsOf 42, (Try.prog.fieldsOf 42)[0]?.getD default, (Try.prog.info? ((Try.prog.fieldsOf 42)[0]?.getD default).type).getD default, by kernel_rfl, by kernel_rfl, by kernel_rfl, by kernel_rfl, by kernel_rfl⟩⟩
instance tf43_1 : TyF Try.prog 43 1 1 := ⟨⟨Try.prog.fieldsOf 42, (Try.prog.fieldsOf 42)[1]?.getD default, (Try.prog.info? ((Try.prog.fieldsOf 42)[1]?.getD default).type).getD default, by kernel_rfl, by kernel_rfl, by kernel_rfl, by kernel_rfl, by kernel_rfl⟩⟩
instance tf62_0 : TyF Try.prog 62 0 0 := ⟨⟨Try.prog.fieldsOf 61, (Try.prog.fieldsOf 61)[0]?.getD default, (Try.prog.info? ((Try.prog.fieldsOf 61)[0]?.getD default).type).getD default, by kernel_rfl, by kernel_rfl, by kernel_rfl, by kernel_rfl, by kernel_rfl⟩⟩
instance tf62_1 : TyF Try.prog 62 1 2 := ⟨⟨Try.prog.fieldsOf 61, (Try.prog.fieldsOf 61)[1]?.getD default, (Try.prog.info? ((Try.prog.fieldsOf 61)[1]?.getD default).type).getD default, by kernel_rfl, by kernel_rfl, by kernel_rfl, by kernel_rfl, by kernel_rfl⟩⟩
instance tf62_2 : TyF Try.prog 62 2 3 := ⟨⟨Try.prog.fieldsOf 61, (Try.prog.fieldsOf 61)[2]?.getD default, (Try.prog.info? ((Try.prog.fieldsOf 61)[2]?.getD default).type).getD default, by kernel_rfl, by kernel_rfl, by kernel_rfl, by kernel_rfl, by kernel_rfl⟩⟩
instance tf75_0 : TyF Try.prog 75 0 0 := ⟨⟨Try.prog.fieldsOf 74, (Try.prog.fieldsOf 74)[0]?.getD default, (Try.prog.info? ((Try.prog.fieldsOf 74)[0]?.getD default).type).getD default, by kernel_rfl, by kernel_rfl, by kernel_rfl, by kernel_rfl, by kernel_rfl⟩⟩
instance tf75_1 : TyF Try.prog 75 1 2 := ⟨⟨Try.prog.fieldsOf 74, (Try.prog.fieldsOf 74)[1]?.getD default, (Try.prog.info? ((Try.prog.fieldsOf 74)[1]?.getD default).type).getD default, by kernel_rfl, by kernel_rfl, by kernel_rfl, by kernel_rfl, by kernel_rfl⟩⟩
instance tf75_2 : TyF Try.prog 75 2 3 := ⟨⟨Try.prog.fieldsOf 74, (Try.prog.fieldsOf 74)[2]?.getD default, (Try.prog.info? ((Try.prog.fieldsOf 74)[2]?.getD default).type).getD default, by kernel_rfl, by kernel_rfl, by kernel_rfl, by kernel_rfl, by kernel_rfl⟩⟩
instance tf86_0 : TyF Try.prog 86 0 0 := ⟨⟨Try.prog.fieldsOf 85, (Try.prog.fieldsOf 85)[0]?.getD default, (Try.prog.info? ((Try.prog.fieldsOf 85)[0]?.getD default).type).getD default, by kernel_rfl, by kernel_rfl, by kernel_rfl, by kernel_rfl, by kernel_rfl⟩⟩
instance tf86_1 : TyF Try.prog 86 1 1 := ⟨⟨Try.prog.fieldsOf 85, (Try.prog.fieldsOf 85)[1]?.getD default, (Try.prog.info? ((Try.prog.fieldsOf 85)[1]?.getD default).type).getD default, by kernel_rfl, by kernel_rfl, by kernel_rfl, by kernel_rfl, by kernel_rfl⟩⟩
instance tf86_2 : TyF Try.prog 86 2 2 := ⟨⟨Try.prog.fieldsOf 85, (Try.prog.fieldsOf 85)[2]?.getD default, (Try.prog.info? ((Try.prog.fieldsOf 85)[2]?.getD default).type).getD default, by kernel_rfl, by kernel_rfl, by kernel_rfl, by kernel_rfl, by kernel_rfl⟩⟩
end Go.Ab
namespace Go.Ab
open Go.Proofs
variable {R : World → Prop} [RStab R]
section
variable {P : Program} {S : World → Prop} {N : Nat} {e : Env} {Q : Exit → Env → World → Prop} {ops : Array Oper} {l : List Oper} {dst : Option Tmp} {ty : TypeId} {pos : String} {after : Array Edge} {guard : Option (Nat × Bool)}
variable {w0 : World} {gs : List Nat} {H : List Ent}
theorem opj_loadC {R0 : World → Prop} {X : Operand} {g n c : Nat} {i : Int} {f : Nat → CV} {t : TypeId} {d : TypeDesc} [hd : TyU P t d] (ha : aggD d = false)
    (hx : e.ev X = some (.raw (.pointer (some ⟨g, i.toNat * 1, none⟩)))) (hm : entC g n f c ∈ H) (h0 : 0 ≤ i ∧ i < n) : OpJ P (StR R0 w0 gs H) e ⟨dst, .load t X, ty, pos, after, guard⟩ (cA (f i.toNat)) := by
  refine opj_load_own (en := entC g n f c) ha hx hm ?_
  have hi : i.toNat < n := by omega
  rw [Nat.mul_one, List.getElem?_map, tabC_get f hi]
  rfl
end
attribute [local irreducible] WS RS Done OpJ Then InBlock Round Ret Env.sub FnH
attribute [local irreducible] tabC
end Go.Ab
namespace Go.Ab
/-- A product of bounded numbers. -/
theorem mul_bnd {p q a b : Rat} (h1 : -a ≤ p) (h2 : p ≤ a) (h3 : -b ≤ q) (h4 : q ≤ b) : -(a * b) ≤ p * q ∧ p * q ≤ a * b := by
  have x1 := Rat.mul_nonneg (show 0 ≤ a - p by grind) (show 0 ≤ b - q by grind)
  have x2 := Rat.mul_nonneg (show 0 ≤ a + p by grind) (show 0 ≤ b + q by grind)
  have x3 := Rat.mul_nonneg (show 0 ≤ a - p by grind) (show 0 ≤ b + q by grind)
  have x4 := Rat.mul_nonneg (show 0 ≤ a + p by grind) (show 0 ≤ b - q by grind)
  constructor <;> grind
theorem natCast_intCast (n : Nat) : ((n : Int) : Rat) = (n : Rat) := rfl
/-- A multiple of a small power of a half. -/
theorem dy_rep {q : Rat} (n : Int) (j : Nat) (hn : n.natAbs ≤ 2 ^ 24) (hj : j ≤ 100) (hq : q * ((2 ^ j : Nat) : Rat) = (n : Rat)) : Rep .f32 q ∧ -p2 24 ≤ q ∧ q ≤ p2 24 := by
  have hp := p2_mul_neg (j : Int)
  rw [p2_nat] at hp
  have h2 := p2_pos (-(j : Int))
  have hq' : q = (n : Rat) * p2 (-(j : Int)) := by
    rw [← hq, Rat.mul_assoc, hp, Rat.mul_one]
  have hle : p2 (-(j : Int)) ≤ 1 := by
    have := p2_le (show -(j : Int) ≤ 0 by omega)
    rwa [p2_zero] at this
  have hn1 : ((n.natAbs : Nat) : Rat) ≤ p2 24 := by
    have h3 : ((n.natAbs : Nat) : Rat) ≤ ((2 ^ 24 : Nat) : Rat) := Rat.natCast_le_natCast.2 hn
    rw [← p2_nat] at h3
    exact h3
  have hb : n.natAbs ≤ 2 ^ (FloatKind.f32.format.fractionBits + 1) := hn
  have hl : FloatKind.f32.format.leastPlace ≤ -(j : Int) := by
    have : FloatKind.f32.format.leastPlace = -149 := by decide
    omega
  have hN0 : (0 : Rat) ≤ ((n.natAbs : Nat) : Rat) := Rat.natCast_nonneg
  have hmul : ((n.natAbs : Nat) : Rat) * p2 (-(j : Int)) ≤ p2 24 := by
    have := Rat.mul_le_mul_of_nonneg_left hle hN0
    grind
  have hpos := Rat.mul_nonneg hN0 (Rat.le_of_lt h2)
  rcases Int.le_total 0 n with h0 | h0
  · have hc : ((n.natAbs : Nat) : Rat) = (n : Rat) := by
      rw [← Rat.intCast_natCast]
      congr 1
      omega
    rw [hc] at hmul hpos
    exact ⟨.inl ⟨n.natAbs, -(j : Int), hb, hl, by rw [hc]; exact hq'⟩, by grind, by grind⟩
  · have hc : ((n.natAbs : Nat) : Rat) = -(n : Rat) := by
      rw [← Rat.intCast_natCast, ← Rat.intCast_neg]
      congr 1
      omega
    rw [hc] at hmul hpos
    exact ⟨.inr ⟨n.natAbs, -(j : Int), hb, hl, by rw [hc, hq']; grind⟩, by grind, by grind⟩
theorem fit_24 {q : Rat} (h1 : -p2 24 ≤ q) (h2 : q ≤ p2 24) : Fit .f32 q := by
  have : p2 24 < p2 (ftop .f32) := by decide +kernel
  constructor <;> grind
theorem fit_24' {q : Rat} (h1 : -p2 24 ≤ q) (h2 : q ≤ p2 24) : -p2 (ftop .f32 - 1) ≤ q ∧ q ≤ p2 (ftop .f32 - 1) := by
  have : p2 24 ≤ p2 (ftop .f32 - 1) := by decide +kernel
  constructor <;> grind
section
variable {x y : FV} {p q : Rat}
theorem div_ex (hx : Vl .f32 x p) (hy : Vl .f32 y q) (h0 : q ≠ 0) {v : Rat} (hv : v * q = p) (n : Int) (j : Nat) (hn : n.natAbs ≤ 2 ^ 24) (hj : j ≤ 100) (hq : v * ((2 ^ j : Nat) : Rat) = (n : Rat)) : Vl .f32 (fbin .quo .f32 x y) v := by
  have he : p / q = v := by
    rw [← hv]
    exact Rat.mul_div_cancel h0
  obtain ⟨hr, h1, h2⟩ := dy_rep n j hn hj hq
  obtain ⟨r, h3, h4⟩ := vl_div hx hy h0 (by rw [he]; exact fit_24' h1 h2)
  rw [he] at h4
  rwa [rnd_rep h4 hr] at h3
end
/-- What a float is can be written. -/
theorem vl_rep {x : FV} {p : Rat} (h : Vl .f32 x p) : Rep .f32 p := by
  obtain ⟨b, s, m, e, rfl, hd, rfl⟩ := h
  obtain ⟨h1, h2, h3⟩ := single_number hd
  have hb : m ≤ 2 ^ (FloatKind.f32.format.fractionBits + 1) := Nat.le_of_lt h1
  have hl : FloatKind.f32.format.leastPlace ≤ e := Int.le_trans (by decide) h2
  unfold vl sgn
  cases s
  · refine .inl ⟨m, e, hb, hl, ?_⟩
    simp
  · refine .inr ⟨m, e, hb, hl, ?_⟩
    simp only [if_true]
    grind
theorem one_mul_ex {x y : FV} {p : Rat} (hx : Vl .f32 x 1) (hy : Vl .f32 y p) (hf : Fit .f32 p) : Vl .f32 (fbin .mul .f32 x y) p := by
  obtain ⟨r, h3, h4⟩ := vl_mul hx hy (by rw [Rat.one_mul]; exact hf)
  rw [Rat.one_mul] at h4
  rwa [rnd_rep h4 (vl_rep hy)] at h3
/-- A quotient is bounded by what bounds products. -/
theorem div_le_of {p q c : Rat} (hq : 0 < q) (h : p ≤ c * q) : p / q ≤ c := by
  have h1 : p / q * q = p := Rat.div_mul_cancel (Rat.ne_of_gt hq)
  exact Rat.le_of_mul_le_mul_right (by rw [h1]; exact h) hq
theorem le_div_of {p q c : Rat} (hq : 0 < q) (h : c * q ≤ p) : c ≤ p / q := by
  have h1 : p / q * q = p := Rat.div_mul_cancel (Rat.ne_of_gt hq)
  exact Rat.le_of_mul_le_mul_right (by rw [h1]; exact h) hq
end Go.Ab
namespace Go.Ab
theorem rootFrom_spec (n : Nat) : ∀ (todo root : Nat), root * root ≤ n → n < (root + 2 ^ todo) * (root + 2 ^ todo) →
    Ieee.Datum.rootFrom n todo root * Ieee.Datum.rootFrom n todo root ≤ n ∧ n < (Ieee.Datum.rootFrom n todo root + 1) * (Ieee.Datum.rootFrom n todo root + 1)
  | 0, root, h1, h2 => ⟨h1, h2⟩
  | todo + 1, root, h1, h2 => by
    unfold Ieee.Datum.rootFrom
    rw [Nat.one_shiftLeft]
    dsimp only
    have hp : 2 ^ (todo + 1) = 2 ^ todo + 2 ^ todo := by rw [Nat.pow_succ]; omega
    rw [hp, ← Nat.add_assoc] at h2
    split
    · rename_i h
      exact rootFrom_spec n todo _ h h2
    · rename_i h
      exact rootFrom_spec n todo _ h1 (by omega)
theorem root_start (n : Nat) : n < (0 + 2 ^ (n.log2 / 2 + 1)) * (0 + 2 ^ (n.log2 / 2 + 1)) := by
  rw [Nat.zero_add, ← Nat.pow_add]
  exact Nat.lt_of_lt_of_le Nat.lt_log2_self (Nat.pow_le_pow_right (by decide) (by omega))
theorem sq_le_of {a b : Rat} (ha : 0 ≤ a) (hb : 0 ≤ b) (h : a * a ≤ b * b) : a ≤ b := by
  rcases Rat.le_total (a := a) (b := b) with h1 | h1
  · exact h1
  · rcases Rat.le_iff_lt_or_eq.1 h1 with h2 | h2
    · have h3 : b * b ≤ b * a := Rat.mul_le_mul_of_nonneg_left h1 hb
      have h4 : b * a < a * a := Rat.mul_lt_mul_of_pos_right h2 (by grind)
      grind
    · rw [h2]; exact Rat.le_refl
theorem nsq_le {a b : Nat} (h : a * a ≤ b * b) : a ≤ b := Nat.mul_self_le_mul_self_iff.1 h
theorem nsq_lt {a b : Nat} (h : a * a < b * b) : a < b := Nat.mul_self_lt_mul_self_iff.1 h
/-- A root's digits with a sticky one, beside what can be written. -/
theorem root_side {k : FloatKind} {W st n : Nat} {e : Int} (hW : 2 ^ (k.format.fractionBits + 1) ≤ W) (hst : (st = 0 ∧ n = W * W) ∨ (st = 1 ∧ W * W < n ∧ n < (W + 1) * (W + 1))) {B : Rat} (hB : RepN k B) :
    ((n : Rat) * (2 * p2 e * (2 * p2 e)) ≤ B * B → ((2 * W + st : Nat) : Rat) * p2 e ≤ B) ∧ (B * B ≤ (n : Rat) * (2 * p2 e * (2 * p2 e)) → B ≤ ((2 * W + st : Nat) : Rat) * p2 e) := by
  have hup := p2_pos e
  obtain ⟨M, E, hM, hE, hBe⟩ := hB
  have hWn : W * W ≤ n := by rcases hst with ⟨_, h⟩ | ⟨_, h, _⟩ <;> omega
  rcases (show e + 1 ≤ E ∨ E ≤ e from by omega) with hle | hle
  · have hB2 : B = ((M * 2 ^ (E - (e + 1)).toNat : Nat) : Rat) * (2 * p2 e) := by
      rw [hBe, p2_split hle, p2_add, p2_one, Rat.natCast_mul]
      grind
    generalize M * 2 ^ (E - (e + 1)).toNat = N at *
    have hsq : B * B = ((N * N : Nat) : Rat) * (2 * p2 e * (2 * p2 e)) := by
      rw [hB2, Rat.natCast_mul]
      grind
    have hu2 : 0 < 2 * p2 e * (2 * p2 e) := Rat.mul_pos (by grind) (by grind)
    rw [hsq]
    refine ⟨fun h => ?_, fun h => ?_⟩
    · have h1 : n ≤ N * N := Rat.natCast_le_natCast.1 (Rat.le_of_mul_le_mul_right h hu2)
      have h2 : 2 * W + st ≤ 2 * N := by
        rcases hst with ⟨h0, h3⟩ | ⟨h0, h3, _⟩
        · have := nsq_le (a := W) (b := N) (by omega)
          omega
        · have := nsq_lt (a := W) (b := N) (by omega)
          omega
      have h3 := mul_p2_le h2 e
      rw [hB2]
      rw [Rat.natCast_mul] at h3
      have e2 : ((2 : Nat) : Rat) = 2 := rfl
      rw [e2] at h3
      grind
    · have h1 : N * N ≤ n := Rat.natCast_le_natCast.1 (Rat.le_of_mul_le_mul_right h hu2)
      have h2 : 2 * N ≤ 2 * W + st := by
        rcases hst with ⟨h0, h3⟩ | ⟨h0, _, h3⟩
        · have := nsq_le (a := N) (b := W) (by omega)
          omega
        · have := nsq_lt (a := N) (b := W + 1) (by omega)
          omega
      have h3 := mul_p2_le h2 e
      rw [hB2]
      rw [Rat.natCast_mul] at h3
      have e2 : ((2 : Nat) : Rat) = 2 := rfl
      rw [e2] at h3
      grind
  · have h3 : B ≤ (W : Rat) * p2 e := by
      rw [hBe]
      exact Rat.le_trans (Rat.mul_le_mul_of_nonneg_left (p2_le hle) Rat.natCast_nonneg) (mul_p2_le (Nat.le_trans hM hW) e)
    have hB0 : 0 ≤ B := by
      rw [hBe]
      exact Rat.mul_nonneg Rat.natCast_nonneg (Rat.le_of_lt (p2_pos E))
    have hW0 : (0 : Rat) < W := by
      rw [show (0 : Rat) = ((0 : Nat) : Rat) from rfl]
      exact Rat.natCast_lt_natCast.2 (Nat.lt_of_lt_of_le (Nat.two_pow_pos _) hW)
    have hX : 0 < (W : Rat) * p2 e := Rat.mul_pos hW0 hup
    have hc : ((2 * W + st : Nat) : Rat) * p2 e = 2 * ((W : Rat) * p2 e) + (st : Rat) * p2 e := by
      rw [Rat.natCast_add, Rat.natCast_mul]
      show (2 * (W : Rat) + st) * p2 e = _
      grind
    have hst0 : 0 ≤ (st : Rat) * p2 e := Rat.mul_nonneg Rat.natCast_nonneg (Rat.le_of_lt hup)
    rw [hc]
    refine ⟨fun h => ?_, fun _ => by grind⟩
    exfalso
    have h4 : ((W * W : Nat) : Rat) ≤ (n : Rat) := Rat.natCast_le_natCast.2 hWn
    rw [Rat.natCast_mul] at h4
    have h5 := Rat.mul_le_mul_of_nonneg_right h4 (show 0 ≤ 2 * p2 e * (2 * p2 e) from Rat.mul_nonneg (by grind) (by grind))
    have h6 : B * B ≤ (W : Rat) * p2 e * ((W : Rat) * p2 e) := Rat.le_trans (Rat.mul_le_mul_of_nonneg_left h3 hB0) (Rat.mul_le_mul_of_nonneg_right h3 (Rat.le_of_lt hX))
    have h7 := Rat.mul_pos hX hX
    grind
/-- A root of a 64-bit number. -/
theorem vl_sqrt {x : FV} {p : Rat} (hx : Vl .f64 x p) (h1 : p2 (-400) ≤ p) (h2 : p ≤ p2 200) :
    ∃ r, Vl .f64 (fsqrt x) r ∧ 0 < r ∧ (∀ B, RepN .f64 B → (p ≤ B * B → r ≤ B) ∧ (B * B ≤ p → B ≤ r)) ∧ p ≤ r * r * (1 + p2 (-40)) ∧ r * r ≤ p * (1 + p2 (-40)) := by
  obtain ⟨b, s, m, i, rfl, hd, hq⟩ := hx
  have hp0 : 0 < p := Std.lt_of_lt_of_le (p2_pos _) h1
  have hs : s = false := by
    cases s
    · rfl
    · exfalso
      have := Rat.mul_nonneg (Rat.natCast_nonneg (a := m)) (Rat.le_of_lt (p2_pos i))
      unfold vl sgn at hq
      simp only [if_true] at hq
      grind
  subst hs
  have hm : m ≠ 0 := fun h => by
    subst h
    rw [vl_zero] at hq
    grind
  have hpv : p = (m : Rat) * p2 i := by
    rw [← hq]
    unfold vl sgn
    simp
  have hroot : ∃ more : Nat, 108 ≤ m.log2 + more ∧ (i - more) % 2 = 0 ∧ fsqrt (some b) = some (FloatKind.f64.format.nearest false (2 * Ieee.Datum.rootFrom (m <<< more) ((m <<< more).log2 / 2 + 1) 0 + (Ieee.Datum.rootFrom (m <<< more) ((m <<< more).log2 / 2 + 1) 0 * Ieee.Datum.rootFrom (m <<< more) ((m <<< more).log2 / 2 + 1) 0 != m <<< more).toNat) ((i - more) / 2 - 1)) := by
    refine ⟨2 * 54 - m.log2 + ((i - (2 * 54 - m.log2 : Nat)) % 2).toNat, by omega, by omega, ?_⟩
    have hd' : FloatKind.f64.format.read b = .number false m i := hd
    have hfb : FloatKind.f64.format.fractionBits + 2 = 54 := rfl
    simp [fsqrt, Ieee.Format.sqrt, hd', Ieee.Datum.root, hm, Ieee.Format.write, hfb]
  obtain ⟨more, hmore, hev, hfs⟩ := hroot
  rw [hfs]
  clear hfs hd
  have hn0 : 2 ^ 108 ≤ m <<< more := by
    rw [Nat.shiftLeft_eq]
    have h3 : 2 ^ m.log2 * 2 ^ more ≤ m * 2 ^ more := Nat.mul_le_mul_right _ (Nat.log2_self_le hm)
    rw [← Nat.pow_add] at h3
    exact Nat.le_trans (Nat.pow_le_pow_right (by decide) (by omega)) h3
  have hval := mul_shl m more (i - more)
  rw [show i - (more : Int) + more = i from by omega, ← hpv] at hval
  have hu : p2 (i - more) = 2 * p2 ((i - more) / 2 - 1) * (2 * p2 ((i - more) / 2 - 1)) := by
    have e1 : (2 : Rat) * p2 ((i - more) / 2 - 1) = p2 ((i - more) / 2) := by
      rw [← p2_one, ← p2_add]
      congr 1
      omega
    rw [e1, ← p2_add]
    congr 1
    omega
  rw [hu] at hval
  generalize m <<< more = n at *
  obtain ⟨hw1, hw2⟩ := rootFrom_spec n (n.log2 / 2 + 1) 0 (Nat.zero_le _) (root_start n)
  generalize Ieee.Datum.rootFrom n (n.log2 / 2 + 1) 0 = W at *
  generalize (i - more) / 2 - 1 = e at *
  have hW : 2 ^ (FloatKind.f64.format.fractionBits + 1) ≤ W := by
    show 2 ^ 53 ≤ W
    have := nsq_lt (a := 2 ^ 53) (b := W + 1) (by omega)
    omega
  obtain ⟨st, hst, hstc⟩ : ∃ st, (W * W != n).toNat = st ∧ ((st = 0 ∧ n = W * W) ∨ (st = 1 ∧ W * W < n ∧ n < (W + 1) * (W + 1))) := by
    refine ⟨_, rfl, ?_⟩
    by_cases h : W * W = n
    · left
      simp [h]
    · right
      have : (W * W != n) = true := by simpa using h
      rw [this]
      exact ⟨rfl, by omega, hw2⟩
  rw [hst]
  have hside := fun {B} (hB : RepN .f64 B) => root_side (k := .f64) (e := e) hW hstc (B := B) hB
  rw [hval] at hside
  have hr100 : RepN .f64 (p2 100) := ⟨1, 100, Nat.one_le_two_pow, by decide, by rw [show ((1 : Nat) : Rat) = 1 from rfl, Rat.one_mul]⟩
  have hrm : RepN .f64 (p2 (-200)) := ⟨1, -200, Nat.one_le_two_pow, by decide, by rw [show ((1 : Nat) : Rat) = 1 from rfl, Rat.one_mul]⟩
  have hA1 := (hside hr100).1 (by rw [← p2_add]; exact h2)
  have hA2 := (hside hrm).2 (by rw [← p2_add]; exact h1)
  have htop : p2 100 < p2 (ftop .f64) := by decide +kernel
  obtain ⟨m', e', g1, g2, g3, g4, g5⟩ := nearest_rnd' .f64 false (2 * W + st) e (Std.lt_of_le_of_lt hA1 htop)
  have hup := p2_pos e
  have hWr : (1 : Rat) ≤ W * p2 (-53) := by
    have h3 := mul_p2_le hW (-53)
    rw [p2_shl] at h3
    exact h3
  have hc : ((2 * W + st : Nat) : Rat) * p2 e = 2 * ((W : Rat) * p2 e) + (st : Rat) * p2 e := by
    rw [Rat.natCast_add, Rat.natCast_mul]
    show (2 * (W : Rat) + st) * p2 e = _
    grind
  -- p beside the square of what is rounded
  have hpA : p ≤ (((2 * W + st : Nat) : Rat) * p2 e + p2 e) * (((2 * W + st : Nat) : Rat) * p2 e + p2 e) ∧ (((2 * W + st : Nat) : Rat) * p2 e - p2 e) * (((2 * W + st : Nat) : Rat) * p2 e - p2 e) ≤ p := by
    rw [hc, ← hval]
    rcases hstc with ⟨h0, h3⟩ | ⟨h0, h3, h4⟩
    · subst h0
      rw [show ((0 : Nat) : Rat) = 0 from rfl, Rat.zero_mul, Rat.add_zero]
      have h5 : (n : Rat) = (W : Rat) * W := by rw [h3, Rat.natCast_mul]
      rw [h5]
      have h6 : 0 ≤ (W : Rat) * p2 e := Rat.mul_nonneg Rat.natCast_nonneg (Rat.le_of_lt hup)
      have h7 := Rat.mul_nonneg h6 (Rat.le_of_lt hup)
      have h8 := Rat.mul_pos hup hup
      have h9 : p2 e * p2 e ≤ (W : Rat) * p2 e * p2 e := by
        have hW1 : (1 : Rat) ≤ W := by
          have := Rat.natCast_le_natCast.2 (show 1 ≤ W from Nat.le_trans (by decide) hW)
          exact this
        have := Rat.mul_le_mul_of_nonneg_right hW1 (Rat.le_of_lt h8)
        grind
      constructor <;> grind
    · subst h0
      rw [show ((1 : Nat) : Rat) = 1 from rfl, Rat.one_mul]
      have h5 : ((W * W : Nat) : Rat) < n := Rat.natCast_lt_natCast.2 h3
      have h6 : (n : Rat) < (((W + 1) * (W + 1) : Nat) : Rat) := Rat.natCast_lt_natCast.2 h4
      rw [Rat.natCast_mul] at h5 h6
      rw [Rat.natCast_add, show ((1 : Nat) : Rat) = 1 from rfl] at h6
      have hu2 : 0 < 2 * p2 e * (2 * p2 e) := Rat.mul_pos (by grind) (by grind)
      have h7 := Rat.mul_lt_mul_of_pos_right h5 hu2
      have h8 := Rat.mul_lt_mul_of_pos_right h6 hu2
      constructor <;> grind
  have huA : p2 e ≤ ((2 * W + st : Nat) : Rat) * p2 e * p2 (-54) := by
    rw [hc]
    have h3 : 0 ≤ (st : Rat) * p2 e := Rat.mul_nonneg Rat.natCast_nonneg (Rat.le_of_lt hup)
    have h4 := Rat.mul_nonneg h3 (Rat.le_of_lt (p2_pos (-54)))
    have h5 := Rat.mul_le_mul_of_nonneg_right hWr (Rat.le_of_lt hup)
    have h6 : p2 (-53) = 2 * p2 (-54) := by decide +kernel
    rw [h6] at h5
    grind
  have e1 : feps .f64 = p2 (-52) := rfl
  have e2 : ftiny .f64 ≤ p2 (-200) * p2 (-52) := by decide +kernel
  have hr' : vl false m' e' = (m' : Rat) * p2 e' := by unfold vl sgn; simp
  have hv := Vl.of (k := .f64) g1
  rw [hr'] at hv
  have hrv : ∀ B, RepN .f64 B → (p ≤ B * B → (m' : Rat) * p2 e' ≤ B) ∧ (B * B ≤ p → B ≤ (m' : Rat) * p2 e') := fun B hB => ⟨fun h => (g3 B hB).1 ((hside hB).1 h), fun h => (g3 B hB).2 ((hside hB).2 h)⟩
  generalize (m' : Rat) * p2 e' = r at *
  generalize ((2 * W + st : Nat) : Rat) * p2 e = A at *
  have hp100 := p2_pos (-200)
  have hr0 : 0 < r := Std.lt_of_lt_of_le hp100 ((hrv _ hrm).2 (by rw [← p2_add]; exact h1))
  rw [e1] at g4 g5
  have hA0 : 0 < A := Std.lt_of_lt_of_le hp100 hA2
  have e3 := Rat.mul_le_mul_of_nonneg_right hA2 (Rat.le_of_lt (p2_pos (-52)))
  -- A within a small share of r
  have c52 : p2 (-52) = 1 / 4503599627370496 := by decide +kernel
  have c54 : p2 (-54) = 1 / 18014398509481984 := by decide +kernel
  have c40 : p2 (-40) = 1 / 1099511627776 := by decide +kernel
  rw [c52] at g4 g5 e2 e3
  rw [c54] at huA
  have k1 : A ≤ r * (1 + 1 / 1000000000000000) := by grind
  have k2 : r ≤ A * (1 + 1 / 1000000000000000) := by grind
  have k3 : A + p2 e ≤ r * (1 + 1 / 100000000000000) := by grind
  have k4 : r * (1 - 1 / 100000000000000) ≤ A - p2 e := by grind
  refine ⟨r, hv, hr0, hrv, ?_, ?_⟩
  · rw [c40]
    have q1 : (A + p2 e) * (A + p2 e) ≤ r * (1 + 1 / 100000000000000) * (r * (1 + 1 / 100000000000000)) :=
      Rat.le_trans (Rat.mul_le_mul_of_nonneg_left k3 (by grind)) (Rat.mul_le_mul_of_nonneg_right k3 (by grind))
    have q2 := Rat.mul_pos hr0 hr0
    grind
  · rw [c40]
    have q1 : r * (1 - 1 / 100000000000000) * (r * (1 - 1 / 100000000000000)) ≤ (A - p2 e) * (A - p2 e) :=
      Rat.le_trans (Rat.mul_le_mul_of_nonneg_left k4 (by grind)) (Rat.mul_le_mul_of_nonneg_right k4 (by grind))
    have q2 := Rat.mul_pos hr0 hr0
    grind
end Go.Ab
namespace Go.Ab
def powF (x y : FV) : FV := fbin .add .f64 (fbin .mul .f64 (fconv .f32 .f64 x) (fconv .f32 .f64 x)) (fbin .mul .f64 (fconv .f32 .f64 y) (fconv .f32 .f64 y))
def longF (x y : FV) : FV := fconv .f64 .f32 (fsqrt (powF x y))
theorem rep_sq {B : Rat} (h : Rep .f32 B) : RepN .f64 (B * B) ∧ (B = 0 ∨ p2 (-298) ≤ B * B) := by
  have key : ∀ B : Rat, RepN .f32 B → RepN .f64 (B * B) ∧ (B = 0 ∨ p2 (-298) ≤ B * B) := fun B ⟨M, E, hM, hE, hB⟩ => by
    have hM' : M ≤ 2 ^ 24 := hM
    have hE' : -149 ≤ E := hE
    have e : B * B = ((M * M : Nat) : Rat) * p2 (E + E) := by rw [hB, Rat.natCast_mul, p2_add]; grind
    refine ⟨⟨M * M, E + E, ?_, ?_, e⟩, ?_⟩
    · have h1 : M * M ≤ 2 ^ 24 * 2 ^ 24 := Nat.mul_le_mul hM' hM'
      exact Nat.le_trans h1 (by decide)
    · have : FloatKind.f64.format.leastPlace = -1074 := by decide
      omega
    · rcases Nat.eq_zero_or_pos M with h0 | h0
      · left
        rw [hB, h0, show ((0 : Nat) : Rat) = 0 from rfl, Rat.zero_mul]
      · right
        rw [e]
        have h1 : (1 : Rat) ≤ ((M * M : Nat) : Rat) := by
          have := Rat.natCast_le_natCast.2 (show 1 ≤ M * M from Nat.mul_pos h0 h0)
          exact this
        have h2 := p2_le (show -298 ≤ E + E by omega)
        have h3 := Rat.mul_le_mul_of_nonneg_right h1 (Rat.le_of_lt (p2_pos (E + E)))
        rw [Rat.one_mul] at h3
        exact Rat.le_trans h2 h3
  rcases h with h | h
  · exact key B h
  · have := key (-B) h
    have e : -B * -B = B * B := by grind
    rw [e] at this
    exact ⟨this.1, this.2.imp (fun h => by grind) id⟩
theorem sqrt_zero {x : FV} (hx : Vl .f64 x 0) : Vl .f64 (fsqrt x) 0 := by
  obtain ⟨b, s, m, i, rfl, hd, hq⟩ := hx
  have hm : m = 0 := by
    rcases Nat.eq_zero_or_pos m with h | h
    · exact h
    · exfalso
      have h1 : (1 : Rat) ≤ ((m : Nat) : Rat) := by
        have := Rat.natCast_le_natCast.2 h
        exact this
      have h2 := p2_pos i
      have h3 := Rat.mul_le_mul_of_nonneg_right h1 (Rat.le_of_lt h2)
      unfold vl sgn at hq
      cases s
      · simp only [Bool.false_eq_true, if_false] at hq
        grind
      · simp only [if_true] at hq
        grind
  subst hm
  have hd' : FloatKind.f64.format.read b = .number s 0 i := hd
  have hfb : FloatKind.f64.format.fractionBits + 2 = 54 := rfl
  cases s
  · have : fsqrt (some b) = some (FloatKind.f64.format.nearest false 0 i) := by
      simp [fsqrt, Ieee.Format.sqrt, hd', Ieee.Datum.root, Ieee.Format.write]
    rw [this]
    have h0 : FloatKind.f64.format.nearest false 0 i = 0 := by unfold Ieee.Format.nearest; rw [if_pos rfl]; rfl
    rw [h0]
    exact Vl.cs (by decide +kernel)
  · have : fsqrt (some b) = some (FloatKind.f64.format.nearest true 0 i) := by
      simp [fsqrt, Ieee.Format.sqrt, hd', Ieee.Datum.root, Ieee.Format.write]
    rw [this]
    have h0 : FloatKind.f64.format.nearest true 0 i = 9223372036854775808 := by unfold Ieee.Format.nearest; rw [if_pos rfl]; rfl
    rw [h0]
    exact Vl.cs (by decide +kernel)
section
variable {x y : FV} {p q : Rat}
theorem vl_powB (hx : Vl .f32 x p) (hy : Vl .f32 y q) (hp : -p2 70 ≤ p ∧ p ≤ p2 70) (hq : -p2 70 ≤ q ∧ q ≤ p2 70) : ∃ P, Vl .f64 (powF x y) P ∧ Rnd .f64 (p * p + q * q) P ∧ p * p + q * q ≤ p2 141 := by
  have e60 : p2 70 * p2 70 = p2 140 := by decide +kernel
  have e61 : p2 140 + p2 140 = p2 141 := by decide +kernel
  have f60 : p2 141 < p2 (ftop .f64) := by decide +kernel
  have n60 := p2_pos 140
  have b1 := mul_bnd hp.1 hp.2 hp.1 hp.2
  have b2 := mul_bnd hq.1 hq.2 hq.1 hq.2
  rw [e60] at b1 b2
  obtain ⟨a, ha, ra⟩ := vl_mul (vl_wide hx) (vl_wide hx) (show Fit .f64 (p * p) by constructor <;> grind)
  obtain ⟨b, hb, rb⟩ := vl_mul (vl_wide hy) (vl_wide hy) (show Fit .f64 (q * q) by constructor <;> grind)
  rw [rnd_rep ra (.inl (rep_sq (vl_rep hx)).1)] at ha
  rw [rnd_rep rb (.inl (rep_sq (vl_rep hy)).1)] at hb
  obtain ⟨P, hP, rP⟩ := vl_add ha hb (show Fit .f64 (p * p + q * q) by constructor <;> grind)
  exact ⟨P, hP, rP, by grind⟩
theorem vl_longB (hx : Vl .f32 x p) (hy : Vl .f32 y q) (hp : -p2 70 ≤ p ∧ p ≤ p2 70) (hq : -p2 70 ≤ q ∧ q ≤ p2 70) :
    ∃ R, Vl .f32 (longF x y) R ∧ ConvOk .f64 .f32 (fsqrt (powF x y)) ∧ 0 ≤ R ∧ (∀ B, RepN .f32 B → (p * p + q * q ≤ B * B → R ≤ B) ∧ (B * B ≤ p * p + q * q → B ≤ R)) ∧
      (p2 (-90) ≤ p * p + q * q → p * p + q * q ≤ R * R * (1 + p2 (-20)) ∧ R * R ≤ (p * p + q * q) * (1 + p2 (-20))) := by
  obtain ⟨P, hP, rP, P61⟩ := vl_powB hx hy hp hq
  have hs1 := rep_sq (vl_rep hx)
  have hs2 := rep_sq (vl_rep hy)
  have hpp : 0 ≤ p * p := by
    rcases Rat.le_total (a := 0) (b := p) with h | h
    · exact Rat.mul_nonneg h h
    · have := Rat.mul_nonneg (show 0 ≤ -p by grind) (show 0 ≤ -p by grind); grind
  have hqq : 0 ≤ q * q := by
    rcases Rat.le_total (a := 0) (b := q) with h | h
    · exact Rat.mul_nonneg h h
    · have := Rat.mul_nonneg (show 0 ≤ -q by grind) (show 0 ≤ -q by grind); grind
  have n298 := p2_pos (-298)
  have hsd : ∀ B, RepN .f32 B → (p * p + q * q ≤ B * B → P ≤ B * B) ∧ (B * B ≤ p * p + q * q → B * B ≤ P) := fun B hB => rP.side _ (.inl (rep_sq (.inl hB)).1)
  by_cases h0 : p * p + q * q = 0
  · have hP0 : P = 0 := by
      rw [h0] at rP
      exact rnd_rep rP (rep_zero _)
    rw [hP0] at hP
    have h1 := sqrt_zero hP
    have hf : Fit .f32 0 := ⟨by decide +kernel, by decide +kernel⟩
    obtain ⟨R, hR, hRr⟩ := vl_narrow h1 hf
    obtain rfl := rnd_rep hRr (rep_zero _)
    refine ⟨0, hR, vl_narrow_ok h1 hf, Rat.le_refl, fun B hB => ⟨fun _ => ?_, fun h => ?_⟩, fun h => ?_⟩
    · obtain ⟨M, E, _, _, rfl⟩ := hB
      exact Rat.mul_nonneg Rat.natCast_nonneg (Rat.le_of_lt (p2_pos E))
    · rw [h0] at h
      obtain ⟨M, E, _, _, rfl⟩ := hB
      have hb : 0 ≤ (M : Rat) * p2 E := Rat.mul_nonneg Rat.natCast_nonneg (Rat.le_of_lt (p2_pos E))
      rcases (show (M : Rat) * p2 E = 0 ∨ 0 < (M : Rat) * p2 E from by grind) with h4 | h4
      · grind
      · have := Rat.mul_pos h4 h4
        grind
    · have := p2_pos (-90)
      grind
  · have hge : p2 (-298) ≤ p * p + q * q := by
      rcases hs1.2 with h1 | h1
      · rcases hs2.2 with h2 | h2
        · subst h1 h2
          exfalso
          exact h0 (by grind)
        · grind
      · grind
    have hPge : p2 (-298) ≤ P := (rP.side _ (.inl ⟨1, -298, by decide, by decide, by rw [show ((1 : Nat) : Rat) = 1 from rfl, Rat.one_mul]⟩)).2 hge
    have hPle : P ≤ p2 141 := (rP.side _ (.inl ⟨1, 141, by decide, by decide, by rw [show ((1 : Nat) : Rat) = 1 from rfl, Rat.one_mul]⟩)).1 P61
    obtain ⟨r, hr, hr0, hside, hn1, hn2⟩ := vl_sqrt hP (Rat.le_trans (p2_le (by decide)) hPge) (Rat.le_trans hPle (p2_le (by decide)))
    have hwide : ∀ B, RepN .f32 B → RepN .f64 B := fun B ⟨M, E, hM, hE, hB⟩ => ⟨M, E, Nat.le_trans hM (by decide), Int.le_trans (by decide) hE, hB⟩
    have hr50 : RepN .f32 (p2 72) := ⟨1, 72, Nat.one_le_two_pow, by decide, by rw [show ((1 : Nat) : Rat) = 1 from rfl, Rat.one_mul]⟩
    have k1 := (hside _ (hwide _ hr50)).1 (by rw [← p2_add]; exact Rat.le_trans hPle (p2_le (by decide)))
    have htop : p2 72 < p2 (ftop .f32) := by decide +kernel
    have hfit : Fit .f32 r := ⟨by have := p2_pos (ftop .f32); grind, Std.lt_of_le_of_lt k1 htop⟩
    obtain ⟨R, hR, hRr⟩ := vl_narrow hr hfit
    have hR0 : 0 ≤ R := (hRr.side 0 (rep_zero _)).2 (Rat.le_of_lt hr0)
    have hs3 : ∀ B, RepN .f32 B → (p * p + q * q ≤ B * B → R ≤ B) ∧ (B * B ≤ p * p + q * q → B ≤ R) := fun B hB => ⟨fun h => (hRr.side B (.inl hB)).1 ((hside B (hwide B hB)).1 ((hsd B hB).1 h)), fun h => (hRr.side B (.inl hB)).2 ((hside B (hwide B hB)).2 ((hsd B hB).2 h))⟩
    refine ⟨R, hR, vl_narrow_ok hr hfit, hR0, hs3, fun h90 => ?_⟩
    have hrm : RepN .f32 (p2 (-45)) := ⟨1, -45, Nat.one_le_two_pow, by decide, by rw [show ((1 : Nat) : Rat) = 1 from rfl, Rat.one_mul]⟩
    have k2 := (hside _ (hwide _ hrm)).2 ((hsd _ hrm).2 (by rw [← p2_add]; exact h90))
    have k3 := (hs3 _ hrm).2 (by rw [← p2_add]; exact h90)
    have h45 := p2_pos (-45)
    obtain ⟨n1, n2⟩ := hRr.near r (by grind) Rat.le_refl
    obtain ⟨n3, n4⟩ := rP.near (p * p + q * q) (by grind) Rat.le_refl
    have e1 : feps .f32 = 1 / 8388608 := by decide +kernel
    have e2 : ftiny .f32 ≤ p2 (-45) * (1 / 1000000000000) := by decide +kernel
    have e3 : p2 (-20) = 1 / 1048576 := by decide +kernel
    have e4 : p2 (-40) = 1 / 1099511627776 := by decide +kernel
    have e5 : feps .f64 = 1 / 4503599627370496 := by decide +kernel
    have e6 : ftiny .f64 ≤ p2 (-90) * (1 / 1000000000000) := by decide +kernel
    rw [e1] at n1 n2
    rw [e4] at hn1 hn2
    rw [e5] at n3 n4
    have e7 := Rat.mul_le_mul_of_nonneg_right k2 (show (0 : Rat) ≤ 1 / 1000000000000 by decide +kernel)
    have e8 := Rat.mul_le_mul_of_nonneg_right h90 (show (0 : Rat) ≤ 1 / 1000000000000 by decide +kernel)
    have m1 : r ≤ R * (1 + 13 / 100000000) := by grind
    have m2 : R ≤ r * (1 + 13 / 100000000) := by grind
    have q1 : r * r ≤ R * (1 + 13 / 100000000) * (R * (1 + 13 / 100000000)) :=
      Rat.le_trans (Rat.mul_le_mul_of_nonneg_left m1 (by grind)) (Rat.mul_le_mul_of_nonneg_right m1 (by grind))
    have q2 : R * R ≤ r * (1 + 13 / 100000000) * (r * (1 + 13 / 100000000)) :=
      Rat.le_trans (Rat.mul_le_mul_of_nonneg_left m2 (by grind)) (Rat.mul_le_mul_of_nonneg_right m2 (by grind))
    have hRp : 0 < R := by grind
    have q3 := Rat.mul_pos hRp hRp
    have q4 := Rat.mul_pos hr0 hr0
    rw [e3]
    generalize p * p + q * q = T at *
    have m3 : T ≤ P * (1 + 1 / 100000000000) := by grind
    have m4 : P ≤ T * (1 + 1 / 100000000000) := by grind
    constructor
    · grind
    · grind
theorem vl_long (hx : Vl .f32 x p) (hy : Vl .f32 y q) (hp : -p2 30 ≤ p ∧ p ≤ p2 30) (hq : -p2 30 ≤ q ∧ q ≤ p2 30) :
    ∃ R, Vl .f32 (longF x y) R ∧ ConvOk .f64 .f32 (fsqrt (powF x y)) ∧ 0 ≤ R ∧ (∀ B, RepN .f32 B → (p * p + q * q ≤ B * B → R ≤ B) ∧ (B * B ≤ p * p + q * q → B ≤ R)) ∧
      (p2 (-90) ≤ p * p + q * q → p * p + q * q ≤ R * R * (1 + p2 (-20)) ∧ R * R ≤ (p * p + q * q) * (1 + p2 (-20))) := by
  have h : p2 30 ≤ p2 70 := p2_le (by decide)
  exact vl_longB hx hy (by constructor <;> grind) (by constructor <;> grind)
end
end Go.Ab
namespace Go.Ab
open Go.Proofs
variable {R : World → Prop} [RStab R]
section
variable {P : Program} {S : World → Prop} {N : Nat} {e : Env} {Q : Exit → Env → World → Prop} {ops : Array Oper} {l : List Oper} {dst : Option Tmp} {ty : TypeId} {pos : String} {after : Array Edge} {guard : Option (Nat × Bool)}
variable {w0 : World} {gs : List Nat} {H : List Ent}
theorem opj_lenC {R0 : World → Prop} {n : Nat} {f : Nat → CV} {X : Operand} {t t2 : TypeId} {b : Nat} {z : Value} {el : TypeId} [hu : TyU P t (.slice el)] [hi : TyI P el z 1 b] (hx : e.ev X = some (AV.sl w0 1 ((tabC n f).map cA))) :
    OpJ P (StR R0 w0 [] H) e ⟨dst, .call { callee := .builtin .len, args := #[X], argTypes := #[t] }, t2, pos, after, guard⟩ (.raw (.int .i64 (n : Int))) := by
  have h := zbm (P := P) (R0 := R0) (H := H) (dst := dst) (pos := pos) (after := after) (guard := guard) (t2 := t2) (hu := hu) (hi := hi) hx
  rw [tabC_length] at h
  exact h
theorem opj_indexC {R0 : World → Prop} {n : Nat} {f : Nat → CV} {X I : Operand} {i : Int} {t : TypeId} {b : Nat} {z : Value} {el : TypeId} [hu : TyU P t (.slice el)] [hi : TyI P el z 1 b]
    (hx : e.ev X = some (AV.sl w0 1 ((tabC n f).map cA))) (hI : e.ev I = some (.raw (.int .i64 i))) (h0 : 0 ≤ i) (hlt : i < (n : Int)) :
    OpJ P (StR R0 w0 [] H) e ⟨dst, .indexAddr t X I, ty, pos, after, guard⟩ (AV.ptr [cA (f i.toNat)]) := by
  have h := zbv (P := P) (R0 := R0) (H := H) (dst := dst) (ty := ty) (pos := pos) (after := after) (guard := guard) (hu := hu) (hi := hi) hx hI h0 (by rw [tabC_length]; exact hlt)
  have hg : (tabC n f).getD i.toNat default = f i.toNat := tabC_getD f (by omega)
  rw [hg] at h
  exact h
/-- 'append' of one complex number to a list of the call's own. -/
theorem rs_appendC (k : Nat) (f' : Nat → CV) {d : Tmp} {A B : Operand} {g n cap : Nat} {f : Nat → CV} {x : CV} {t : TypeId} {z : Value} {b : Nat} [hu : TyU P t (.slice 30)] [hi : TyI P 30 z 1 b] (hd : Nat.blt d N = true)
    (hA : e.ev A = some (.raw (.slice (some ⟨g, 0, none⟩) n cap))) (hB : e.ev B = some (AV.lit [cA x])) (hH : H[k]? = some (entC g n f cap)) (hn : n ≤ cap ∧ cap ≤ maxLen)
    (hm : n < 2 ^ 40) (hby : Nat.ble b 64 = true) (hzc : z.cells.size = 1) (hf : f' n = x) (hf' : ∀ s, s < n → f' s = f s)
    (hk : ∀ g' cap', n + 1 ≤ cap' → cap' ≤ maxLen → RS P N ops l ((d, .raw (.slice (some ⟨g', 0, none⟩) (n + 1) cap')) :: e.keep) (StR R w0 gs (H.set k (entC g' (n + 1) f' cap'))) Q) :
    RS P N ops (⟨some d, .call { callee := .builtin .append, args := #[A, B], argTypes := #[t, t] }, ty, pos, after, none⟩ :: l) e (StR R w0 gs H) Q := by
  have hb := Nat.le_of_ble_eq_true hby
  refine rs_append k (ys := [cA x]) hd hA ⟨_, hB, fun w v _ h => h.inv_p.2⟩ hH ⟨by simp [tabC_length], hn.1, hn.2⟩ (by simp) rfl (by simp only [maxLen, List.length_cons, List.length_nil]; omega)
    (Nat.le_trans (Nat.mul_le_mul (show n + ([cA x] : List AV).length ≤ 2 ^ 40 from by simp only [List.length_cons, List.length_nil]; omega) hb) (by decide)) hzc fun g' cap' h1 h2 => ?_
  have : ((tabC n f).map cA ++ [cA x] : List AV) = (tabC (n + 1) f').map cA := by
    rw [← tabC_snoc n f', List.map_append, tabC_congr hf', ← hf]
    rfl
  rw [this]
  exact hk g' cap' h1 h2
end
def subC2 (p q : CV) : CV := (fbin .sub .f32 p.1 q.1, fbin .sub .f32 p.2 q.2)
def longC (p : CV) : FV := longF p.1 p.2
/-- The length does not overflow. -/
def LongOk (p : CV) : Prop := ConvOk .f64 .f32 (fsqrt (powF p.1 p.2))
attribute [local irreducible] WS RS Done OpJ Then InBlock Round Ret Env.sub FnH
attribute [local irreducible] tabC
theorem minus_fn (p q : CV) : Fn Try.prog 28 (fun _ => [cA p, cA q]) (cA (subC2 p q)) := by
  refine fn_intro Try.func28 rfl Try.ntmps28 (fun _ => Nat.le_of_ble_eq_true rfl) fun w0 => ?_
  unfold cA
  repeat first | refine zaa rfl (zay rfl) ?_ | refine zaa rfl (zaz rfl) ?_ | (refine zac ?_; refine zaa rfl (zba rfl rfl rfl) ?_) | (refine zad ?_; first | refine zaa rfl (zbp rfl) ?_ | refine zaa rfl (zbq rfl) ?_ | refine zaa rfl (zbr rfl rfl) ?_) | refine zah ?_ | (refine zcr ?_; refine zcs ?_) | (refine zdb ?_; first | refine zdc ?_ | refine zdd ?_ | refine zdg ?_)
  exact done_ret1 rfl () rfl trivial (List.nil_sublist _)
theorem l01PowerWide_fn (p : CV) : Fn Try.prog 64 (fun _ => [cA p]) (.f .f64 (powF p.1 p.2)) := by
  refine fn_intro Try.func64 rfl Try.ntmps64 (fun _ => Nat.le_of_ble_eq_true rfl) fun w0 => ?_
  unfold cA
  repeat first | refine zaa rfl (zay rfl) ?_ | refine zaa rfl (zaz rfl) ?_ | (refine zac ?_; refine zaa rfl (zba rfl rfl rfl) ?_) | (refine zad ?_; first | refine zaa rfl (zbp rfl) ?_ | refine zaa rfl (zbq rfl) ?_) | refine zaa rfl (zbx rfl) ?_ | refine zah ?_ | (refine zcr ?_; refine zcs ?_) | (refine zdb ?_; first | refine zdc ?_ | refine zdd ?_ | refine zdg ?_)
  exact done_ret1 rfl () rfl trivial (List.nil_sublist _)
theorem l01Long_fn (p : CV) (hp : LongOk p) : Fn Try.prog 40 (fun _ => [cA p]) (.f .f32 (longC p)) := by
  have h := l01PowerWide_fn p
  have h2 := l01Narrow_fn _ hp
  refine fn_intro Try.func40 rfl Try.ntmps40 (fun _ => Nat.le_of_ble_eq_true rfl) fun w0 => ?_
  repeat first | refine zaa rfl (zay rfl) ?_ | refine zaa rfl (zaz rfl) ?_ | (refine zad ?_; first | (refine zaa rfl (zci rfl rfl (h) ?_) ?_; (focus ((repeat (first | exact Takes.nil | refine Takes.sl ?_ | refine Takes.lit ?_ | (refine Takes.ownE ?_ ?_ ?_ ?_ ?_; (focus (exact ⟨_, _, (by (repeat (first | exact mh | refine mt ?_)); done)⟩)); (focus (simp; done)); (focus omega); (focus (simp only [maxLen]; omega))) | refine Takes.same ?_)); done))) | refine zaa rfl (zci rfl rfl (mathSqrt_fn _) (by (repeat (first | exact Takes.nil | refine Takes.sl ?_ | refine Takes.lit ?_ | (refine Takes.ownE ?_ ?_ ?_ ?_ ?_; (focus (exact ⟨_, _, (by (repeat (first | exact mh | refine mt ?_)); done)⟩)); (focus (simp; done)); (focus omega); (focus (simp only [maxLen]; omega))) | refine Takes.same ?_)); done)) ?_ | (refine zaa rfl (zci rfl rfl (h2) ?_) ?_; (focus ((repeat (first | exact Takes.nil | refine Takes.sl ?_ | refine Takes.lit ?_ | (refine Takes.ownE ?_ ?_ ?_ ?_ ?_; (focus (exact ⟨_, _, (by (repeat (first | exact mh | refine mt ?_)); done)⟩)); (focus (simp; done)); (focus omega); (focus (simp only [maxLen]; omega))) | refine Takes.same ?_)); done)))) | refine zah ?_ | (refine zcr ?_; refine zcs ?_) | (refine zdb ?_; first | refine zdc ?_ | refine zdd ?_ | refine zdg ?_)
  exact done_ret1 rfl () rfl trivial (List.nil_sublist _)
theorem specLongOf_fn (p : CV) (hp : LongOk p) : Fn Try.prog 11 (fun _ => [cA p]) (.f .f32 (longC p)) := by
  have h := l01Long_fn p hp
  refine fn_intro Try.func11 rfl Try.ntmps11 (fun _ => Nat.le_of_ble_eq_true rfl) fun w0 => ?_
  repeat first | refine zaa rfl (zay rfl) ?_ | refine zaa rfl (zaz rfl) ?_ | (refine zad ?_; (refine zaa rfl (zci rfl rfl (h) ?_) ?_; (focus ((repeat (first | exact Takes.nil | refine Takes.sl ?_ | refine Takes.lit ?_ | (refine Takes.ownE ?_ ?_ ?_ ?_ ?_; (focus (exact ⟨_, _, (by (repeat (first | exact mh | refine mt ?_)); done)⟩)); (focus (simp; done)); (focus omega); (focus (simp only [maxLen]; omega))) | refine Takes.same ?_)); done)))) | refine zah ?_ | (refine zcr ?_; refine zcs ?_) | (refine zdb ?_; first | refine zdc ?_ | refine zdd ?_ | refine zdg ?_)
  exact done_ret1 rfl () rfl trivial (List.nil_sublist _)
end Go.Ab
namespace Go.Ab
theorem sqr_nonneg (a : Rat) : 0 ≤ a * a := by
  rcases Rat.le_total (a := 0) (b := a) with h | h
  · exact Rat.mul_nonneg h h
  · have := Rat.mul_nonneg (show 0 ≤ -a by grind) (show 0 ≤ -a by grind)
    grind
/-- No longer than. -/
structure Le2 (x y B : Rat) : Prop where
  nn : 0 ≤ B
  sq : x * x + y * y ≤ B * B
theorem Le2.dot {x y A u v B : Rat} (h : Le2 x y A) (h' : Le2 u v B) : x * u + y * v ≤ A * B := by
  have n := Rat.mul_nonneg h.nn h'.nn
  rcases Rat.le_total (a := 0) (b := x * u + y * v) with h0 | h0
  · refine sq_le_of h0 n ?_
    have h1 := sqr_nonneg (x * v - y * u)
    have h2 : (x * u + y * v) * (x * u + y * v) ≤ (x * x + y * y) * (u * u + v * v) := by grind
    have a0 : 0 ≤ u * u + v * v := by
      have := sqr_nonneg u
      have := sqr_nonneg v
      grind
    have h3 := Rat.mul_le_mul_of_nonneg_right h.sq a0
    have h4 := Rat.mul_le_mul_of_nonneg_left h'.sq (sqr_nonneg A)
    grind
  · exact Rat.le_trans h0 n
theorem Le2.add {x y A u v B : Rat} (h : Le2 x y A) (h' : Le2 u v B) : Le2 (x + u) (y + v) (A + B) := by
  have n1 := h.nn
  have n2 := h'.nn
  have s1 := h.sq
  have s2 := h'.sq
  have d := h.dot h'
  exact ⟨by grind, by grind⟩
theorem Le2.of_abs {x y a b : Rat} (h1 : -a ≤ x) (h2 : x ≤ a) (h3 : -b ≤ y) (h4 : y ≤ b) : Le2 x y (a + b) := by
  have n1 : 0 ≤ a := by grind
  have n2 : 0 ≤ b := by grind
  have m1 := (mul_bnd h1 h2 h1 h2).2
  have m2 := (mul_bnd h3 h4 h3 h4).2
  have m3 := Rat.mul_nonneg n1 n2
  exact ⟨by grind, by grind⟩
theorem Le2.x {x y A : Rat} (h : Le2 x y A) : -A ≤ x ∧ x ≤ A := by
  have n := h.nn
  have s := h.sq
  have := sqr_nonneg y
  have hx : x * x ≤ A * A := by grind
  constructor
  · rcases Rat.le_total (a := 0) (b := x) with h0 | h0
    · grind
    · have := sq_le_of (a := -x) (b := A) (by grind) n (by grind)
      grind
  · rcases Rat.le_total (a := 0) (b := x) with h0 | h0
    · exact sq_le_of h0 n hx
    · grind
theorem Le2.y {x y A : Rat} (h : Le2 x y A) : -A ≤ y ∧ y ≤ A := Le2.x (x := y) (y := x) ⟨h.nn, by have := h.sq; grind⟩
/-- The length of what is computed, beside a bound. -/
theorem long_up {x y : FV} {p q B : Rat} (hx : Vl .f32 x p) (hy : Vl .f32 y q) (h : Le2 p q B) (hB : B ≤ 1000) : ∃ R, Vl .f32 (longF x y) R ∧ ConvOk .f64 .f32 (fsqrt (powF x y)) ∧ 0 ≤ R ∧ R ≤ B * (1 + 1 / 1000000) + 1 / 1000000000 := by
  have p30 : (1000 : Rat) ≤ p2 30 := by decide +kernel
  have hx' := h.x
  have hy' := h.y
  obtain ⟨R, hR, hc, h0, hs, hn⟩ := vl_long hx hy (by constructor <;> grind) (by constructor <;> grind)
  have n := h.nn
  have s := h.sq
  refine ⟨R, hR, hc, h0, ?_⟩
  have e45 : p2 (-45) ≤ 1 / 1000000000 := by decide +kernel
  have e20 : p2 (-20) ≤ 1 / 1000000 := by decide +kernel
  rcases Rat.le_total (a := p * p + q * q) (b := p2 (-90)) with h90 | h90
  · have := (hs (p2 (-45)) ⟨1, -45, by decide, by decide, by rw [show ((1 : Nat) : Rat) = 1 from rfl, Rat.one_mul]⟩).1 (by rw [← p2_add]; exact h90)
    grind
  · have h1 := (hn h90).2
    have h2 : R * R ≤ B * (1 + 1 / 1000000) * (B * (1 + 1 / 1000000)) := by
      have h4 := sqr_nonneg B
      have h3 := Rat.mul_le_mul_of_nonneg_left e20 (show 0 ≤ p * p + q * q by
        have := sqr_nonneg p
        have := sqr_nonneg q
        grind)
      grind
    have := sq_le_of h0 (show 0 ≤ B * (1 + 1 / 1000000) by grind) h2
    grind
theorem long_lo {x y : FV} {p q B R : Rat} (hx : Vl .f32 x p) (hy : Vl .f32 y q) (hp : -1000 ≤ p ∧ p ≤ 1000) (hq : -1000 ≤ q ∧ q ≤ 1000) (hB : 1 / 1000000000 ≤ B) (h : B * B ≤ p * p + q * q) (hR : Vl .f32 (longF x y) R) : B * (1 - 1 / 1000000) ≤ R := by
  have p30 : (1000 : Rat) ≤ p2 30 := by decide +kernel
  obtain ⟨R', hR', _, h0, hs, hn⟩ := vl_long hx hy (by constructor <;> grind) (by constructor <;> grind)
  obtain rfl := Vl.unique hR hR'
  have e90 : p2 (-90) ≤ 1 / 1000000000 * (1 / 1000000000) := by decide +kernel
  have e20 : p2 (-20) ≤ 1 / 1000000 := by decide +kernel
  have b1 : 1 / 1000000000 * (1 / 1000000000) ≤ B * B := by
    have h1 := Rat.mul_le_mul_of_nonneg_left hB (show (0 : Rat) ≤ 1 / 1000000000 by decide +kernel)
    have h2 := Rat.mul_le_mul_of_nonneg_right hB (show 0 ≤ B by grind)
    grind
  have h1 := (hn (by grind)).1
  have h3 := sqr_nonneg R
  have h4 := Rat.mul_le_mul_of_nonneg_left e20 h3
  have h5 := sqr_nonneg B
  refine sq_le_of (by grind) h0 ?_
  grind
end Go.Ab
namespace Go.Ab
open Go.ChangeShapes Go.WideShapes Go.ChangeAt Go.RowKit
section
variable {H : Type} {enc : TypeId × Value → H} {P : Program}
theorem stays_all (hl : laidOutB P = true) {W W' : World} (hw : Ext W W') : ∀ {ts : List TypeId} {vs : List Value} {ds : List (DataW H)} {ps : List MemPlace}, (∀ t ∈ ts, P.readableRec t = true ∧ t < P.types.size) →
    DataW.TrodAll enc P W 0 (fun _ => true) true ts vs ds ps → (∀ p ∈ ps, p.block < W.heap.size) → ∀ sp : Nat → Bool, (∀ p ∈ ps, sp p.block = true) → DataW.TrodAll enc P W' 0 sp true ts vs ds ps
  | [], vs, ds, ps, _, h, _, sp, _ => by
    obtain ⟨rfl, rfl, rfl⟩ := trodAll_nil h
    exact rfl
  | t :: ts, vs, ds, ps, ht, h, hlt, sp, hsp => by
    obtain ⟨v, vs', d, ds', p, q, rfl, rfl, rfl, h1, h2⟩ := trodAll_cons h
    refine ⟨p, q, ?_, stays_all hl hw (fun t' h' => ht t' (by simp [h'])) h2 (fun x hx => hlt x (by simp [hx])) sp (fun x hx => hsp x (by simp [hx])), rfl⟩
    exact WideElems.Trod_stays hl (ht t (by simp)).1 (ht t (by simp)).2 h1 (fun x hx => RowKit.Below.same hw (hlt x (by simp [hx]))) (fun x hx => hsp x (by simp [hx]))

/-- The row's step of a law that only reads. -/
theorem law_lift {C : Checked} {os : Os} {f : FuncId} {fn : Func} {s : ChangeSpec} {T : TypeId}
    (own : ownKnob C.prog.godebug = none) (started : os.Started) (noInit : C.prog.inits.idxOf? f = none) (hfn : C.prog.funcs[f]? = some fn)
    (witness : ∃ (w : World) (tape : Tape) (i : Input), w.os = os ∧ (w.forCall tape i).Shaped C.prog ∧ i.vars = [] ∧ Input.okWide C.prog (w.forCall tape i) .any w.heap.size f i ∧
      s.pre6 enc C.prog fn [] false (w.forCall tape i).memory i.args ∧ ({} : Assume).holds C.prog (lone (Frame.enter C.prog f i.args .normal) [] (w.forCall tape i)))
    (hvars : s.vars = []) (hspec : ∀ ds : List (DataW H), ds.length = fn.params.size → (s.fn H ds).results = [.lit (.bool true)] ∧ (s.fn H ds).args = ds ∧ (s.fn H ds).vars = [])
    (hres : fn.resultTypes = #[T]) (hT : C.prog.underlying T = some .bool) (hl : laidOutB C.prog = true) (hts : ∀ t ∈ fn.params.toList, C.prog.readableRec t = true ∧ t < C.prog.types.size)
    (h : ∀ (W : World) (base : Nat) (args : Array Value) (ds : List (DataW H)) (ps : List MemPlace), (∀ (j : Nat) t v, fn.params[j]? = some t → args[j]? = some v → Value.okWide C.prog W .any base t v) →
      DataW.TrodAll enc C.prog W 0 (fun _ => true) true fn.params.toList args.toList ds ps → Calls C.prog f args W fun e W' => e = .returned (.bool true) ∧ Ext W W') :
    ReturnsInHanded {} C os f .any (s.pre6 enc C.prog fn [] false) (s.post enc C.prog fn false true false false) := by
  refine returnsInHanded_of_change own started noInit hfn witness ?_
  intro W base args ds gs before hval hW _ _
  obtain ⟨p, q, hA, hV, hps, hnf, hnd⟩ := hW
  have hW : DataW.Whole enc C.prog fn.params.toList s.vars false W args.toList ds gs before := ⟨p, q, hA, hV, hps, hnf, hnd⟩
  have hlen : ds.length = fn.params.size := by
    have : ∀ (ts : List TypeId) (vs : List Value) (ds : List (DataW H)) (ps : List MemPlace), DataW.TrodAll enc C.prog W 0 (fun _ => true) true ts vs ds ps → ds.length = ts.length := by
      intro ts
      induction ts with
      | nil => intro vs ds ps h; obtain ⟨_, rfl, _⟩ := trodAll_nil h; rfl
      | cons t ts ih => intro vs ds ps h; obtain ⟨v, vs', d, ds', p, q, rfl, rfl, rfl, _, h2⟩ := trodAll_cons h; simp [ih _ _ _ h2]
    simpa using this _ _ _ _ hA
  rw [hvars] at hV
  have hgs : gs = [] ∧ q = [] := by
    cases gs with
    | nil => exact ⟨rfl, hV⟩
    | cons g gs => cases hV
  obtain ⟨rfl, rfl⟩ := hgs
  refine (h W base args ds p hval hA).mono fun e W' ⟨he, hext⟩ => ⟨.bool true, he, ?_⟩
  obtain ⟨hr1, hr2, hr3⟩ := hspec (ds ++ []) (by simpa using hlen)
  have hlt : ∀ x ∈ before, x.block < W.heap.size := fun x hx => hW.lt x hx
  have hbp : before = p := by simpa using hps
  subst hbp
  have hargs : ∀ sp : Nat → Bool, (∀ x ∈ before, sp x.block = true) → DataW.TrodAll enc C.prog W' 0 sp true fn.params.toList args.toList (s.fn H (ds ++ [])).args before := fun sp hsp => by
    rw [hr2, List.append_nil]
    exact stays_all hl hext hts hA hlt sp hsp
  have hresu : ∀ (b : Nat) (sp : Nat → Bool) (hd : Bool), DataW.TrodAll enc C.prog W' b sp hd fn.resultTypes.toList ((Value.bool true).resultList fn.resultTypes.size) (s.fn H (ds ++ [])).results [] := fun b sp hd => by
    rw [hr1, hres]
    exact trodAll_mk1 (shut_bool hT true)
  have hvs : ∀ sp : Nat → Bool, DataW.TrodVars enc C.prog W' sp s.vars (s.fn H (ds ++ [])).vars [] := fun sp => by
    rw [hvars, hr3]; exact rfl
  have hok : ∀ (j : Nat) (t : TypeId) (r : Value), fn.resultTypes[j]? = some t → ((Value.bool true).resultList fn.resultTypes.size)[j]? = some r → Value.okWide C.prog W' .any 0 t r := by
    rw [hres]
    intro j t r h1 h2
    have e : (Value.bool true).resultList (#[T] : Array TypeId).size = [.bool true] := rfl
    rw [e] at h2
    cases j with
    | zero =>
      simp at h1 h2
      subst h1; subst h2
      exact okWide_bool_mk hT true
    | succ j => simp at h1
  have hold : ∀ x ∈ before, (fun b => decide (b < W.heap.size)) x.block = true := fun x hx => by simpa using hlt x hx
  refine ⟨ds, [], before, [], before, [], hW, hresu _ _ _, hargs _ hold, hvs _, World.keptBut_mono (fun x hx => ⟨hx, .inr (by simpa using hx)⟩) (RowKit.Below.frame hext (· ∈ before)), fun h => by cases h⟩

theorem trod_int1 {W : World} {t : TypeId} {k : IntKind} {sp : Nat → Bool} {hd : Bool} {fuel base : Nat} {cs : List Value} {x : DataW H × List MemPlace} (ht : P.underlying t = some (.int k)) (h : DataW.trod enc P W base sp hd fuel t cs = some x) :
    ∃ n, cs = [.int k n] ∧ k.min ≤ n ∧ n ≤ k.max := by
  cases fuel with
  | zero => simp [DataW.trod] at h
  | succ fuel =>
    unfold DataW.trod at h
    rw [ht] at h
    split at h <;> simp_all
    rename_i k' b hk
    obtain ⟨⟨rfl, hw⟩, _⟩ := h
    simpa [Lit.wf] using hw

theorem spot_of_cell {W : World} {a : Addr} {u : Value} (h : W.cell? a = some u) : a.spot = none := by
  unfold World.cell? at h
  split at h
  · cases hs : a.spot with
    | none => rfl
    | some s => simp [hs] at h
  · cases h
/-- A slice of one-cell elements that came in: each element is as its reading says. -/
theorem open_sl {α : Type} {m : α → AV} {W : World} {t e : TypeId} {v : Value} {d : DataW H} {p : List MemPlace} {base b2 : Nat} {sp : Nat → Bool} {hd : Bool} [ht : TyU P t (.slice e)] (hc : P.cellsOf e = 1)
    (helem : ∀ (n : Nat) (u : Value) (y : DataW H × List MemPlace), DataW.trod enc P W base sp hd n e [u] = some y → ∃ x : α, Ev (m x) u)
    (hval : Value.okWide P W .any b2 t v) (h : DataW.Trod enc P W base sp hd t v d p) : ∃ L : List α, Rd W 1 v (L.map m) := by
  obtain ⟨a0, n0, c0, rfl⟩ := okWide_slice ht.h hval
  obtain ⟨fuel, h⟩ := h
  rcases Deep.open_slice1 ht.h hc h with ⟨hcs, _⟩ | ⟨a, len, cap, mm, n, V, D, Pl, hcs, _, hl, hm, hmm, _, hx⟩
  · simp [Value.cells] at hcs
    obtain ⟨rfl, rfl, rfl⟩ := hcs
    exact ⟨[], none, 0, 0, rfl, rfl, Nat.le_refl _, by simp [maxLen], fun i x hi => by simp at hi⟩
  · simp [Value.cells] at hcs
    obtain ⟨rfl, rfl, rfl⟩ := hcs
    have hle : n0 ≤ mm := by rw [hmm]; split <;> omega
    have hex : ∀ k, k ≤ n0 → ∃ L : List α, L.length = k ∧ ∀ i x, L[i]? = some x → Ev (m x) (V i) := by
      intro k
      induction k with
      | zero => intro _; exact ⟨[], rfl, fun i x hi => by simp at hi⟩
      | succ k ih =>
        intro hk
        obtain ⟨L, hL, hall⟩ := ih (by omega)
        obtain ⟨x, hxk⟩ := helem _ _ _ (hx k (by omega)).2
        refine ⟨L ++ [x], by simp [hL], fun i y hi => ?_⟩
        rcases Nat.lt_or_ge i k with hik | hik
        · rw [List.getElem?_append_left (by omega)] at hi; exact hall i y hi
        · rw [List.getElem?_append_right (by omega)] at hi
          have : i - L.length = 0 := by
            false_or_by_contra
            rename_i hne
            rw [List.getElem?_eq_none (by simp; omega)] at hi
            cases hi
          have hik' : i = k := by omega
          subst hik'
          rw [this] at hi
          simp at hi
          subst hi
          exact hxk
    obtain ⟨L, hL, hall⟩ := hex n0 (Nat.le_refl _)
    refine ⟨L, some a, n0, c0, rfl, by simp [hL], hl, hm, fun i x hi => ?_⟩
    rw [List.getElem?_map] at hi
    obtain ⟨y, hy, rfl⟩ := Option.map_eq_some_iff.1 hi
    have hin : i < n0 := by rw [← hL]; exact (List.getElem?_eq_some_iff.1 hy).1
    have h0 := (hx 0 (by omega)).1
    have hsp : a.spot = none := by
      have := spot_of_cell h0
      simpa [Addr.add] using this
    refine ⟨a, rfl, hsp, V i, ?_, hall i y hy⟩
    have := (hx i (by omega)).1
    rw [addr_add a hsp] at this
    exact this
end
end Go.Ab
