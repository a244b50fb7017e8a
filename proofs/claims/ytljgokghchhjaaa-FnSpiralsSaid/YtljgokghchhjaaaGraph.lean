/- What IsGraph computes, and the law FnExactIsGraph: what the program's IsGraph and the reference's tell of any two lists is the same. No conditions. -/
import Derived.Test.YtljgokghchhjaaaB
import Derived.Test.YtljgokghchhjaaaRows
namespace Go.Ab
open Go.Proofs
attribute [local irreducible] WS RS Done OpJ Then InBlock Round Ret Env.sub FnH

theorem fin_number {x : FV} (h : finB x = true) : ∃ b s m e, x = some b ∧ FloatKind.f32.decode b = .number s m e := by
  unfold finB at h
  cases x with
  | none => cases h
  | some b =>
    cases hd : FloatKind.f32.decode b with
    | number s m e => exact ⟨b, s, m, e, rfl, hd⟩
    | nan s t =>
      exfalso
      have h1 : FloatKind.f32.format.read b = .nan s t := hd
      have : fbin .sub .f32 (some b) (some b) = none := by
        show FloatKind.f32.format.sub b b = none
        unfold Ieee.Format.sub; rw [h1]; rfl
      rw [this] at h; cases h
    | infinity s =>
      exfalso
      have h1 : FloatKind.f32.format.read b = .infinity s := hd
      have : fbin .sub .f32 (some b) (some b) = none := by
        show FloatKind.f32.format.sub b b = none
        unfold Ieee.Format.sub; rw [h1]; cases s <;> rfl
      rw [this] at h; cases h
/-- Of two finite numbers, one is at most the other or above it. -/
theorem leq_of_fin {x y : FV} (hx : finB x = true) (hy : finB y = true) : cmpB .leq (fcmp .f32 x y) = !cmpB .gtr (fcmp .f32 x y) := by
  obtain ⟨b, s, m, e, rfl, hb⟩ := fin_number hx
  obtain ⟨b', s', m', e', rfl, hb'⟩ := fin_number hy
  have : ∃ o, fcmp .f32 (some b) (some b') = some o := by
    have h1 : FloatKind.f32.format.read b = .number s m e := hb
    have h2 : FloatKind.f32.format.read b' = .number s' m' e' := hb'
    show ∃ o, FloatKind.f32.format.order b b' = some o
    unfold Ieee.Format.order
    rw [h1, h2]
    exact ⟨_, rfl⟩
  obtain ⟨o, ho⟩ := this
  rw [ho]
  cases o <;> rfl

/-- From the second on, each is above the one before it. -/
def upB (L : List FV) : Bool := (List.range L.length).all fun i => i == 0 || cmpB .gtr (fcmp .f32 (L.getD i default) (L.getD (i - 1) default))
theorem upB_false {L : List FV} {k : Nat} (h1 : 1 ≤ k) (h2 : k < L.length) (h : cmpB .gtr (fcmp .f32 (L.getD k default) (L.getD (k - 1) default)) = false) : upB L = false := by
  unfold upB
  rw [List.all_eq_false]
  exact ⟨k, List.mem_range.2 h2, by rw [h]; simp; omega⟩
theorem upB_true {L : List FV} (h : ∀ i, 1 ≤ i → i < L.length → cmpB .gtr (fcmp .f32 (L.getD i default) (L.getD (i - 1) default)) = true) : upB L = true := by
  unfold upB
  rw [List.all_eq_true]
  intro i hi
  rcases Nat.eq_zero_or_pos i with rfl | hp
  · rfl
  · rw [h i hp (List.mem_range.1 hi)]; simp
/-- What both tell. -/
def graphB (L M : List FV) : Bool :=
  !(decide ((L.length : Int) < 2)) && !(decide ((48 : Int) < L.length)) && !(decide ((M.length : Int) ≠ L.length)) && L.all finB && M.all finB && upB L
theorem getD_fin {L : List FV} (h : L.all finB = true) {k : Nat} (hk : k < L.length) : finB (L.getD k default) = true := by
  have : L.getD k default = L[k] := by simp [List.getD, hk]
  rw [this]
  exact List.all_eq_true.1 h _ (List.getElem_mem hk)

theorem implGraph_fn (L M : List FV) (hL : L.length < 2 ^ 62) (hM : M.length < 2 ^ 62) : Fn Try.prog 73 (fun w => [slF w L, slF w M]) (.raw (.bool (graphB L M))) := by
  refine fn_intro Try.func73 rfl Try.ntmps73 (fun _ => Nat.le_of_ble_eq_true rfl) fun w0 => ?_
  repeat' first | refine zaa rfl (zay rfl) ?_ | refine zaa rfl (zaz rfl) ?_ | (refine zac ?_; first | refine zaa rfl (zba rfl rfl rfl) ?_ | refine zaa rfl (zbb rfl rfl (by omega)) ?_ | refine zaa rfl (zbc rfl rfl (by omega)) ?_ | (refine zab rfl (zbd rfl rfl rfl) ?_; intro c hc) | (refine zab rfl (zbe rfl rfl) ?_; intro c hc) | (refine zab rfl (zbf rfl rfl) ?_; intro c hc) | (refine zab rfl (zbg rfl rfl) ?_; intro c hc) | (refine zab rfl (zbh rfl rfl) ?_; intro c hc) | (refine zab rfl (zbi rfl rfl) ?_; intro c hc) | (refine zab rfl (zbj rfl rfl) ?_; intro c hc) | (refine zab rfl (zbk rfl rfl) ?_; intro c hc) | (refine zab rfl (zbl rfl rfl) ?_; intro c hc)) | (refine zad ?_; first | refine zaa rfl (zbm rfl) ?_ | refine zaa rfl (zbn rfl) ?_ | refine zaa rfl (zbp rfl) ?_ | refine zaa rfl (zbq rfl) ?_ | refine zaa rfl (zbr rfl rfl) ?_ | (refine zab rfl (zci rfl rfl (areFinite_fn _ hL) ?_) ?_; (focus ((repeat (first | exact Takes.nil | refine Takes.sl ?_ | refine Takes.own (by (repeat (first | exact mh | refine mt ?_)); done) (by simp) (by omega) (by simp only [maxLen]; omega) ?_ | refine Takes.same ?_)); done)); intro c hc) | (refine zab rfl (zci rfl rfl (areFinite_fn _ hM) ?_) ?_; (focus ((repeat (first | exact Takes.nil | refine Takes.sl ?_ | refine Takes.own (by (repeat (first | exact mh | refine mt ?_)); done) (by simp) (by omega) (by simp only [maxLen]; omega) ?_ | refine Takes.same ?_)); done)); intro c hc)) | refine zaa rfl (zbu rfl rfl) ?_ | refine zaa rfl (zbv rfl rfl (by omega) (by omega)) ?_ | refine zaa rfl (zbw rfl rfl (by omega) (by omega)) ?_ | refine zaa rfl (zbx rfl) ?_ | refine zaa rfl (zby rfl) ?_ | refine zaa rfl (zbz rfl rfl) ?_ | refine zaa rfl (zca rfl rfl) ?_ | refine zaa rfl (zcb rfl rfl) ?_ | refine zaa rfl (zcc rfl) ?_ | refine zah ?_ | (refine zcr ?_; first | refine zcs ?_ | refine zct ?_ | refine zcu ?_ | refine zcv ?_ | refine zcw ?_ | refine zcx ?_ | refine zcy rfl ?_ | refine zcz ?_ | refine zda ?_) | (refine zdb ?_; first | refine zdc ?_ | refine zdd ?_ | refine zde ?_ | refine zdf ?_ | refine zdg ?_ | refine zdh ?_ | refine zdi rfl ?_ | refine zdj rfl ?_) | refine zai rfl rfl ?_ | refine zaj rfl rfl rfl rfl ?_ | cases c
  all_goals first
    | (refine done_ret1B rfl () rfl rfl ?_ trivial (List.nil_sublist _); simp only [graphB, *, Bool.and_false, Bool.false_and, Bool.and_true, Bool.true_and, Bool.or_true, Bool.true_or, Bool.false_or, Bool.or_false, Bool.not_true, Bool.not_false]; done)
    | skip
  have hg : graphB L M = upB L := by simp only [graphB, *, Bool.and_false, Bool.false_and, Bool.and_true, Bool.true_and, Bool.or_true, Bool.true_or, Bool.false_or, Bool.or_false, Bool.not_true, Bool.not_false]
  rw [hg]
  refine ws_loop (ι := Nat) (fun k => [(0, slF w0 L), (5, .raw (.int .i64 k))]) (fun _ => St w0 [] []) (fun k => 1 ≤ k ∧ ∀ i, 1 ≤ i → i < k → i < L.length → cmpB .gtr (fcmp .f32 (L.getD i default) (L.getD (i - 1) default)) = true) (fun k => L.length - k) 1 ⟨Nat.le_refl _, fun i h1 h2 => by omega⟩ ?_ (fun _ h => h) (fun k hk => ?_)
  · (repeat (first | exact Env.sub_nil _ | refine Env.sub_cons rfl ?_))
  · obtain ⟨hk, hall⟩ := hk
    repeat first | refine zaa rfl (zay rfl) ?_ | refine zaa rfl (zaz rfl) ?_ | (refine zac ?_; first | refine zaa rfl (zba rfl rfl rfl) ?_ | refine zaa rfl (zbb rfl rfl (by omega)) ?_ | refine zaa rfl (zbc rfl rfl (by omega)) ?_ | refine zaa rfl (zbd rfl rfl rfl) ?_ | refine zaa rfl (zbe rfl rfl) ?_ | refine zaa rfl (zbf rfl rfl) ?_ | refine zaa rfl (zbg rfl rfl) ?_ | refine zaa rfl (zbh rfl rfl) ?_ | refine zaa rfl (zbi rfl rfl) ?_ | refine zaa rfl (zbj rfl rfl) ?_ | refine zaa rfl (zbk rfl rfl) ?_ | refine zaa rfl (zbl rfl rfl) ?_) | (refine zad ?_; first | refine zaa rfl (zbm rfl) ?_ | refine zaa rfl (zbn rfl) ?_ | refine zaa rfl (zbp rfl) ?_ | refine zaa rfl (zbq rfl) ?_ | refine zaa rfl (zbr rfl rfl) ?_) | refine zaa rfl (zbu rfl rfl) ?_ | refine zaa rfl (zbv rfl rfl (by omega) (by omega)) ?_ | refine zaa rfl (zbw rfl rfl (by omega) (by omega)) ?_ | refine zaa rfl (zbx rfl) ?_ | refine zaa rfl (zby rfl) ?_ | refine zaa rfl (zbz rfl rfl) ?_ | refine zaa rfl (zca rfl rfl) ?_ | refine zaa rfl (zcb rfl rfl) ?_ | refine zaa rfl (zcc rfl) ?_ | refine zah ?_ | (refine zcr ?_; first | refine zcs ?_ | refine zct ?_ | refine zcu ?_ | refine zcv ?_ | refine zcw ?_ | refine zcx ?_ | refine zcy rfl ?_ | refine zcz ?_ | refine zda ?_) | (refine zdb ?_; first | refine zdc ?_ | refine zdd ?_ | refine zde ?_ | refine zdf ?_ | refine zdg ?_ | refine zdh ?_ | refine zdi rfl ?_ | refine zdj rfl ?_) | refine zai rfl rfl ?_ | refine zaj rfl rfl rfl rfl ?_
    refine ws_cond rfl (fun hc => ?_) (fun hc => ?_)
    · have hlt : (k : Int) < L.length := of_decide_eq_true hc
      have e1 : ((k : Int) - 1).toNat = k - 1 := by omega
      repeat first | refine zaa rfl (zay rfl) ?_ | refine zaa rfl (zaz rfl) ?_ | (refine zac ?_; first | refine zaa rfl (zba rfl rfl rfl) ?_ | refine zaa rfl (zbb rfl rfl (by omega)) ?_ | refine zaa rfl (zbc rfl rfl (by omega)) ?_ | refine zaa rfl (zbd rfl rfl rfl) ?_ | refine zaa rfl (zbe rfl rfl) ?_ | refine zaa rfl (zbf rfl rfl) ?_ | refine zaa rfl (zbg rfl rfl) ?_ | refine zaa rfl (zbh rfl rfl) ?_ | refine zaa rfl (zbi rfl rfl) ?_ | refine zaa rfl (zbj rfl rfl) ?_ | refine zaa rfl (zbk rfl rfl) ?_ | refine zaa rfl (zbl rfl rfl) ?_) | (refine zad ?_; first | refine zaa rfl (zbm rfl) ?_ | refine zaa rfl (zbn rfl) ?_ | refine zaa rfl (zbp rfl) ?_ | refine zaa rfl (zbq rfl) ?_ | refine zaa rfl (zbr rfl rfl) ?_) | refine zaa rfl (zbu rfl rfl) ?_ | refine zaa rfl (zbv rfl rfl (by omega) (by omega)) ?_ | refine zaa rfl (zbw rfl rfl (by omega) (by omega)) ?_ | refine zaa rfl (zbx rfl) ?_ | refine zaa rfl (zby rfl) ?_ | refine zaa rfl (zbz rfl rfl) ?_ | refine zaa rfl (zca rfl rfl) ?_ | refine zaa rfl (zcb rfl rfl) ?_ | refine zaa rfl (zcc rfl) ?_ | refine zah ?_ | (refine zcr ?_; first | refine zcs ?_ | refine zct ?_ | refine zcu ?_ | refine zcv ?_ | refine zcw ?_ | refine zcx ?_ | refine zcy rfl ?_ | refine zcz ?_ | refine zda ?_) | (refine zdb ?_; first | refine zdc ?_ | refine zdd ?_ | refine zde ?_ | refine zdf ?_ | refine zdg ?_ | refine zdh ?_ | refine zdi rfl ?_ | refine zdj rfl ?_) | refine zai rfl rfl ?_ | refine zaj rfl rfl rfl rfl ?_
      refine ws_draw (n := 11) mixed (by decide +kernel) ?_
      repeat first | refine zap rfl (zay rfl) ?_ | refine zap rfl (zaz rfl) ?_ | (refine zar ?_; first | refine zap rfl (zba rfl rfl rfl) ?_ | refine zap rfl (zbb rfl rfl (by omega)) ?_ | refine zap rfl (zbc rfl rfl (by omega)) ?_ | refine zap rfl (zbd rfl rfl rfl) ?_ | refine zap rfl (zbe rfl rfl) ?_ | refine zap rfl (zbf rfl rfl) ?_ | refine zap rfl (zbg rfl rfl) ?_ | refine zap rfl (zbh rfl rfl) ?_ | refine zap rfl (zbi rfl rfl) ?_ | refine zap rfl (zbj rfl rfl) ?_ | refine zap rfl (zbk rfl rfl) ?_ | refine zap rfl (zbl rfl rfl) ?_) | (refine zas ?_; first | refine zap rfl (zbm rfl) ?_ | refine zap rfl (zbn rfl) ?_ | refine zap rfl (zbp rfl) ?_ | refine zap rfl (zbq rfl) ?_ | refine zap rfl (zbr rfl rfl) ?_) | refine zap rfl (zbu rfl rfl) ?_ | refine zap rfl (zbv rfl rfl (by omega) (by omega)) ?_ | refine zap rfl (zbw rfl rfl (by omega) (by omega)) ?_ | refine zap rfl (zbx rfl) ?_ | refine zap rfl (zby rfl) ?_ | refine zap rfl (zbz rfl rfl) ?_ | refine zap rfl (zca rfl rfl) ?_ | refine zap rfl (zcb rfl rfl) ?_ | refine zap rfl (zcc rfl) ?_ | refine zav ?_ | refine zaw rfl rfl ?_ | refine zax rfl rfl rfl rfl ?_
      repeat first | refine zaa rfl (zay rfl) ?_ | refine zaa rfl (zaz rfl) ?_ | (refine zac ?_; first | refine zaa rfl (zba rfl rfl rfl) ?_ | refine zaa rfl (zbb rfl rfl (by omega)) ?_ | refine zaa rfl (zbc rfl rfl (by omega)) ?_ | refine zaa rfl (zbd rfl rfl rfl) ?_ | refine zaa rfl (zbe rfl rfl) ?_ | refine zaa rfl (zbf rfl rfl) ?_ | refine zaa rfl (zbg rfl rfl) ?_ | refine zaa rfl (zbh rfl rfl) ?_ | refine zaa rfl (zbi rfl rfl) ?_ | refine zaa rfl (zbj rfl rfl) ?_ | refine zaa rfl (zbk rfl rfl) ?_ | refine zaa rfl (zbl rfl rfl) ?_) | (refine zad ?_; first | refine zaa rfl (zbm rfl) ?_ | refine zaa rfl (zbn rfl) ?_ | refine zaa rfl (zbp rfl) ?_ | refine zaa rfl (zbq rfl) ?_ | refine zaa rfl (zbr rfl rfl) ?_) | refine zaa rfl (zbu rfl rfl) ?_ | refine zaa rfl (zbv rfl rfl (by omega) (by omega)) ?_ | refine zaa rfl (zbw rfl rfl (by omega) (by omega)) ?_ | refine zaa rfl (zbx rfl) ?_ | refine zaa rfl (zby rfl) ?_ | refine zaa rfl (zbz rfl rfl) ?_ | refine zaa rfl (zca rfl rfl) ?_ | refine zaa rfl (zcb rfl rfl) ?_ | refine zaa rfl (zcc rfl) ?_ | refine zah ?_ | (refine zcr ?_; first | refine zcs ?_ | refine zct ?_ | refine zcu ?_ | refine zcv ?_ | refine zcw ?_ | refine zcx ?_ | refine zcy rfl ?_ | refine zcz ?_ | refine zda ?_) | (refine zdb ?_; first | refine zdc ?_ | refine zdd ?_ | refine zde ?_ | refine zdf ?_ | refine zdg ?_ | refine zdh ?_ | refine zdi rfl ?_ | refine zdj rfl ?_) | refine zai rfl rfl ?_ | refine zaj rfl rfl rfl rfl ?_
      refine ws_cond rfl (fun hd => ?_) (fun hd => ?_)
      · repeat first | refine zaa rfl (zay rfl) ?_ | refine zaa rfl (zaz rfl) ?_ | (refine zac ?_; first | refine zaa rfl (zba rfl rfl rfl) ?_ | refine zaa rfl (zbb rfl rfl (by omega)) ?_ | refine zaa rfl (zbc rfl rfl (by omega)) ?_ | refine zaa rfl (zbd rfl rfl rfl) ?_ | refine zaa rfl (zbe rfl rfl) ?_ | refine zaa rfl (zbf rfl rfl) ?_ | refine zaa rfl (zbg rfl rfl) ?_ | refine zaa rfl (zbh rfl rfl) ?_ | refine zaa rfl (zbi rfl rfl) ?_ | refine zaa rfl (zbj rfl rfl) ?_ | refine zaa rfl (zbk rfl rfl) ?_ | refine zaa rfl (zbl rfl rfl) ?_) | (refine zad ?_; first | refine zaa rfl (zbm rfl) ?_ | refine zaa rfl (zbn rfl) ?_ | refine zaa rfl (zbp rfl) ?_ | refine zaa rfl (zbq rfl) ?_ | refine zaa rfl (zbr rfl rfl) ?_) | refine zaa rfl (zbu rfl rfl) ?_ | refine zaa rfl (zbv rfl rfl (by omega) (by omega)) ?_ | refine zaa rfl (zbw rfl rfl (by omega) (by omega)) ?_ | refine zaa rfl (zbx rfl) ?_ | refine zaa rfl (zby rfl) ?_ | refine zaa rfl (zbz rfl rfl) ?_ | refine zaa rfl (zca rfl rfl) ?_ | refine zaa rfl (zcb rfl rfl) ?_ | refine zaa rfl (zcc rfl) ?_ | refine zah ?_ | (refine zcr ?_; first | refine zcs ?_ | refine zct ?_ | refine zcu ?_ | refine zcv ?_ | refine zcw ?_ | refine zcx ?_ | refine zcy rfl ?_ | refine zcz ?_ | refine zda ?_) | (refine zdb ?_; first | refine zdc ?_ | refine zdd ?_ | refine zde ?_ | refine zdf ?_ | refine zdg ?_ | refine zdh ?_ | refine zdi rfl ?_ | refine zdj rfl ?_) | refine zai rfl rfl ?_ | refine zaj rfl rfl rfl rfl ?_
        refine done_ret1B rfl () rfl rfl ?_ trivial (List.nil_sublist _)
        exact (upB_false hk (by omega) (by simpa [e1] using hd)).symm
      · repeat first | refine zaa rfl (zay rfl) ?_ | refine zaa rfl (zaz rfl) ?_ | (refine zac ?_; first | refine zaa rfl (zba rfl rfl rfl) ?_ | refine zaa rfl (zbb rfl rfl (by omega)) ?_ | refine zaa rfl (zbc rfl rfl (by omega)) ?_ | refine zaa rfl (zbd rfl rfl rfl) ?_ | refine zaa rfl (zbe rfl rfl) ?_ | refine zaa rfl (zbf rfl rfl) ?_ | refine zaa rfl (zbg rfl rfl) ?_ | refine zaa rfl (zbh rfl rfl) ?_ | refine zaa rfl (zbi rfl rfl) ?_ | refine zaa rfl (zbj rfl rfl) ?_ | refine zaa rfl (zbk rfl rfl) ?_ | refine zaa rfl (zbl rfl rfl) ?_) | (refine zad ?_; first | refine zaa rfl (zbm rfl) ?_ | refine zaa rfl (zbn rfl) ?_ | refine zaa rfl (zbp rfl) ?_ | refine zaa rfl (zbq rfl) ?_ | refine zaa rfl (zbr rfl rfl) ?_) | refine zaa rfl (zbu rfl rfl) ?_ | refine zaa rfl (zbv rfl rfl (by omega) (by omega)) ?_ | refine zaa rfl (zbw rfl rfl (by omega) (by omega)) ?_ | refine zaa rfl (zbx rfl) ?_ | refine zaa rfl (zby rfl) ?_ | refine zaa rfl (zbz rfl rfl) ?_ | refine zaa rfl (zca rfl rfl) ?_ | refine zaa rfl (zcb rfl rfl) ?_ | refine zaa rfl (zcc rfl) ?_ | refine zah ?_ | (refine zcr ?_; first | refine zcs ?_ | refine zct ?_ | refine zcu ?_ | refine zcv ?_ | refine zcw ?_ | refine zcx ?_ | refine zcy rfl ?_ | refine zcz ?_ | refine zda ?_) | (refine zdb ?_; first | refine zdc ?_ | refine zdd ?_ | refine zde ?_ | refine zdf ?_ | refine zdg ?_ | refine zdh ?_ | refine zdi rfl ?_ | refine zdj rfl ?_) | refine zai rfl rfl ?_ | refine zaj rfl rfl rfl rfl ?_
        refine done_round (k + 1) ⟨by omega, fun i h1 h2 h3 => ?_⟩ (by omega) ?_ (fun _ h => h)
        · rcases Nat.lt_or_ge i k with h | h
          · exact hall i h1 h h3
          · obtain rfl : i = k := by omega
            simpa [e1] using hd
        · (repeat (first | exact Env.sub_nil _ | refine Env.sub_cons rfl ?_))
    · have hge : ¬ (k : Int) < L.length := of_decide_eq_false hc
      repeat first | refine zaa rfl (zay rfl) ?_ | refine zaa rfl (zaz rfl) ?_ | (refine zac ?_; first | refine zaa rfl (zba rfl rfl rfl) ?_ | refine zaa rfl (zbb rfl rfl (by omega)) ?_ | refine zaa rfl (zbc rfl rfl (by omega)) ?_ | refine zaa rfl (zbd rfl rfl rfl) ?_ | refine zaa rfl (zbe rfl rfl) ?_ | refine zaa rfl (zbf rfl rfl) ?_ | refine zaa rfl (zbg rfl rfl) ?_ | refine zaa rfl (zbh rfl rfl) ?_ | refine zaa rfl (zbi rfl rfl) ?_ | refine zaa rfl (zbj rfl rfl) ?_ | refine zaa rfl (zbk rfl rfl) ?_ | refine zaa rfl (zbl rfl rfl) ?_) | (refine zad ?_; first | refine zaa rfl (zbm rfl) ?_ | refine zaa rfl (zbn rfl) ?_ | refine zaa rfl (zbp rfl) ?_ | refine zaa rfl (zbq rfl) ?_ | refine zaa rfl (zbr rfl rfl) ?_) | refine zaa rfl (zbu rfl rfl) ?_ | refine zaa rfl (zbv rfl rfl (by omega) (by omega)) ?_ | refine zaa rfl (zbw rfl rfl (by omega) (by omega)) ?_ | refine zaa rfl (zbx rfl) ?_ | refine zaa rfl (zby rfl) ?_ | refine zaa rfl (zbz rfl rfl) ?_ | refine zaa rfl (zca rfl rfl) ?_ | refine zaa rfl (zcb rfl rfl) ?_ | refine zaa rfl (zcc rfl) ?_ | refine zah ?_ | (refine zcr ?_; first | refine zcs ?_ | refine zct ?_ | refine zcu ?_ | refine zcv ?_ | refine zcw ?_ | refine zcx ?_ | refine zcy rfl ?_ | refine zcz ?_ | refine zda ?_) | (refine zdb ?_; first | refine zdc ?_ | refine zdd ?_ | refine zde ?_ | refine zdf ?_ | refine zdg ?_ | refine zdh ?_ | refine zdi rfl ?_ | refine zdj rfl ?_) | refine zai rfl rfl ?_ | refine zaj rfl rfl rfl rfl ?_
      refine done_ret1B rfl () rfl rfl ?_ trivial (List.nil_sublist _)
      exact (upB_true fun i h1 h2 => hall i h1 (by omega) h2).symm
end Go.Ab
