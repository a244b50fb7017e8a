/- Where a place lies among a graph's points: what the program's spanOf and the reference's l05Find tell. No conditions. -/
import Derived.Test.YtlnfbadoglllbaaGraph
namespace Go.Ab
open Go.Proofs
attribute [local irreducible] WS RS Done OpJ Then InBlock Round Ret Env.sub FnH

section
variable {P : Program} {N : Nat} {S : World → Prop} {e : Env} {Q : Exit → Env → World → Prop} {ops : Array Oper} {l : List Oper}
theorem yielded_undef {a : Act} {w : World} (hF : Fr N e a w) {j d : Nat} (hy : gslot ops j = some d) (he : e.look d = some (.raw undef)) : yielded ops a.tmps j = none := by
  obtain ⟨u, hu, hr⟩ := hF.rel d _ he
  have := hr.inv_raw
  subst this
  unfold yielded
  rw [show ((ops[j]?).bind (·.dst)) = some d from hy]
  simp [hu, undef]
theorem rs_nu {d : Tmp} {op : Op} {ty : TypeId} {pos : String} {after : Array Edge} {j y : Nat} {b : Bool} (hd : Nat.blt d N = true) (hy : gslot ops j = some y) (he : e.look y = some (.raw undef))
    (h : RS P N ops l ((d, .raw undef) :: e) S Q) : RS P N ops (⟨some d, op, ty, pos, after, some (j, b)⟩ :: l) e S Q := by
  unfold RS at *
  intro a w hS hF
  refine wpList_step fun K hK => ?_
  rw [if_neg (by simp [Region.wanted, yielded_undef hF hy he])]
  exact hK _ _ (h _ w hS (Fr.put (some d) hF (fun _ h => by cases h; exact Nat.le_of_ble_eq_true hd) .raw))
end
theorem graph_len {L M : List FV} (h : graphB L M = true) : 2 ≤ L.length ∧ L.length ≤ 48 ∧ M.length = L.length := by
  simp only [graphB, Bool.and_eq_true, Bool.not_eq_true', decide_eq_false_iff_not] at h
  omega
def spanFrom (L : List FV) (at_ : FV) : Nat → Nat → Nat
  | 0, i => i
  | n + 1, i => if cmpB .gtr (fcmp .f32 at_ (L.getD (i + 1) default)) then spanFrom L at_ n (i + 1) else i
/-- The span in which a place lies. -/
def spanI (L : List FV) (at_ : FV) : Nat := spanFrom L at_ L.length 0
def inB (L : List FV) (at_ : FV) : Bool := cmpB .geq (fcmp .f32 at_ (L.getD 0 default)) && cmpB .leq (fcmp .f32 at_ (L.getD (L.length - 1) default))
def moreB (L M K : List FV) : Bool := graphB L M && !(decide ((K.length : Int) ≠ L.length)) && K.all finB
theorem spanFrom_step {L : List FV} {a : FV} {i : Nat} (hi : i + 1 < L.length) (h : cmpB .gtr (fcmp .f32 a (L.getD (i + 1) default)) = true) : spanFrom L a (L.length - (i + 1)) (i + 1) = spanFrom L a (L.length - i) i := by
  have e : L.length - i = (L.length - (i + 1)) + 1 := by omega
  rw [e]
  simp only [spanFrom, h, if_true]
theorem spanFrom_end {L : List FV} {a : FV} {i : Nat} (hi : i + 1 < L.length) (h : cmpB .gtr (fcmp .f32 a (L.getD (i + 1) default)) = false) : spanFrom L a (L.length - i) i = i := by
  have e : L.length - i = (L.length - (i + 1)) + 1 := by omega
  rw [e]
  simp only [spanFrom, h, Bool.false_eq_true, if_false]
theorem span_next {L : List FV} {a : FV} {i : Nat} (hi : i + 1 < L.length) (hin : inB L a = true) (h : cmpB .gtr (fcmp .f32 a (L.getD (i + 1) default)) = true) : i + 1 + 1 < L.length := by
  false_or_by_contra
  have e : L.length - 1 = i + 1 := by omega
  simp only [inB, Bool.and_eq_true, e] at hin
  obtain ⟨_, h2⟩ := hin
  cases hc : fcmp .f32 a (L.getD (i + 1) default) with
  | none => rw [hc] at h; cases h
  | some o => rw [hc] at h h2; cases o <;> first | (exact absurd h (by decide)) | (exact absurd h2 (by decide))

def spanOk (L M K : List FV) (a : FV) : Bool := moreB L M K && inB L a
def spanT (L M K : List FV) (a : FV) : AV := .tup [.raw (.int .i64 (if spanOk L M K a then (spanI L a : Int) else 0)), .raw (.bool (spanOk L M K a))]
set_option maxHeartbeats 1000000 in
theorem spanOf_fn (L M K : List FV) (a : FV) (hL : L.length < 2 ^ 62) (hM : M.length < 2 ^ 62) (hK : K.length < 2 ^ 62) : Fn Try.prog 27 (fun w => [slF w L, slF w M, slF w K, .f .f32 a]) (spanT L M K a) := by
  refine fn_intro Try.func27 rfl Try.ntmps27 (fun _ => Nat.le_of_ble_eq_true rfl) fun w0 => ?_
  cases hg : graphB L M
  · have hG : Fn Try.prog 13 (fun w => [slF w L, slF w M]) (.raw (.bool false)) := hg ▸ implGraph_fn L M hL hM
    repeat first | refine zaa rfl (zay rfl) ?_ | refine zaa rfl (zaz rfl) ?_ | (refine zac ?_; first | refine zaa rfl (zba rfl rfl rfl) ?_ | refine zaa rfl (zbb rfl rfl (by omega)) ?_ | refine zaa rfl (zbc rfl rfl (by omega)) ?_ | refine zaa rfl (zbd rfl rfl rfl) ?_ | refine zaa rfl (zbe rfl rfl) ?_ | refine zaa rfl (zbf rfl rfl) ?_ | refine zaa rfl (zbg rfl rfl) ?_ | refine zaa rfl (zbh rfl rfl) ?_ | refine zaa rfl (zbi rfl rfl) ?_ | refine zaa rfl (zbj rfl rfl) ?_ | refine zaa rfl (zbk rfl rfl) ?_ | refine zaa rfl (zbl rfl rfl) ?_) | (refine zad ?_; first | refine zaa rfl (zbm rfl) ?_ | refine zaa rfl (zbn rfl) ?_ | refine zaa rfl (zbp rfl) ?_ | refine zaa rfl (zbq rfl) ?_ | refine zaa rfl (zbr rfl rfl) ?_ | (refine zaa rfl (zci rfl rfl (hG) ?_) ?_; (focus ((repeat (first | exact Takes.nil | refine Takes.sl ?_ | refine Takes.own (by (repeat (first | exact mh | refine mt ?_)); done) (by simp) (by omega) (by simp only [maxLen]; omega) ?_ | refine Takes.same ?_)); done)))) | refine zaa rfl (zbu rfl rfl) ?_ | refine zaa rfl (zbv rfl rfl (by omega) (by omega)) ?_ | refine zaa rfl (zbw rfl rfl (by omega) (by omega)) ?_ | refine zaa rfl (zbx rfl) ?_ | refine zaa rfl (zby rfl) ?_ | refine zaa rfl (zbz rfl rfl) ?_ | refine zaa rfl (zca rfl rfl) ?_ | refine zaa rfl (zcb rfl rfl) ?_ | refine zaa rfl (zcc rfl) ?_ | refine zah ?_ | (refine zcr ?_; first | refine zcs ?_ | refine zct ?_ | refine zcu ?_ | refine zcv ?_ | refine zcw ?_ | refine zcx ?_ | refine zcy rfl ?_ | refine zcz ?_ | refine zda ?_) | (refine zdb ?_; first | refine zdc ?_ | refine zdd ?_ | refine zde ?_ | refine zdf ?_ | refine zdg ?_ | refine zdh ?_ | refine zdi rfl ?_ | refine zdj rfl ?_) | refine zai rfl rfl ?_ | refine zaj rfl rfl rfl rfl ?_ | refine rs_nu rfl rfl rfl ?_
    have hno : spanOk L M K a = false := by simp [spanOk, moreB, hg]
    exact done_ret2 rfl () (by simp only [spanT, hno]; rfl) rfl rfl trivial (List.nil_sublist _)
  · have hG : Fn Try.prog 13 (fun w => [slF w L, slF w M]) (.raw (.bool true)) := hg ▸ implGraph_fn L M hL hM
    obtain ⟨h2, h48, hLM⟩ := graph_len hg
    have e1 : ((L.length : Int) - 1).toNat = L.length - 1 := by omega
    repeat' first | refine zaa rfl (zay rfl) ?_ | refine zaa rfl (zaz rfl) ?_ | (refine zac ?_; first | refine zaa rfl (zba rfl rfl rfl) ?_ | refine zaa rfl (zbb rfl rfl (by omega)) ?_ | refine zaa rfl (zbc rfl rfl (by omega)) ?_ | (refine zab rfl (zbd rfl rfl rfl) ?_; intro c hc) | (refine zab rfl (zbe rfl rfl) ?_; intro c hc) | (refine zab rfl (zbf rfl rfl) ?_; intro c hc) | (refine zab rfl (zbg rfl rfl) ?_; intro c hc) | (refine zab rfl (zbh rfl rfl) ?_; intro c hc) | (refine zab rfl (zbi rfl rfl) ?_; intro c hc) | (refine zab rfl (zbj rfl rfl) ?_; intro c hc) | (refine zab rfl (zbk rfl rfl) ?_; intro c hc) | (refine zab rfl (zbl rfl rfl) ?_; intro c hc)) | (refine zad ?_; first | refine zaa rfl (zbm rfl) ?_ | refine zaa rfl (zbn rfl) ?_ | refine zaa rfl (zbp rfl) ?_ | refine zaa rfl (zbq rfl) ?_ | refine zaa rfl (zbr rfl rfl) ?_ | (refine zaa rfl (zci rfl rfl (hG) ?_) ?_; (focus ((repeat (first | exact Takes.nil | refine Takes.sl ?_ | refine Takes.own (by (repeat (first | exact mh | refine mt ?_)); done) (by simp) (by omega) (by simp only [maxLen]; omega) ?_ | refine Takes.same ?_)); done))) | (refine zab rfl (zci rfl rfl (areFinite_fn K hK) ?_) ?_; (focus ((repeat (first | exact Takes.nil | refine Takes.sl ?_ | refine Takes.own (by (repeat (first | exact mh | refine mt ?_)); done) (by simp) (by omega) (by simp only [maxLen]; omega) ?_ | refine Takes.same ?_)); done)); intro c hc)) | refine zaa rfl (zbu rfl rfl) ?_ | refine zaa rfl (zbv rfl rfl (by omega) (by omega)) ?_ | refine zaa rfl (zbw rfl rfl (by omega) (by omega)) ?_ | refine zaa rfl (zbx rfl) ?_ | refine zaa rfl (zby rfl) ?_ | refine zaa rfl (zbz rfl rfl) ?_ | refine zaa rfl (zca rfl rfl) ?_ | refine zaa rfl (zcb rfl rfl) ?_ | refine zaa rfl (zcc rfl) ?_ | refine zah ?_ | (refine zcr ?_; first | refine zcs ?_ | refine zct ?_ | refine zcu ?_ | refine zcv ?_ | refine zcw ?_ | refine zcx ?_ | refine zcy rfl ?_ | refine zcz ?_ | refine zda ?_) | (refine zdb ?_; first | refine zdc ?_ | refine zdd ?_ | refine zde ?_ | refine zdf ?_ | refine zdg ?_ | refine zdh ?_ | refine zdi rfl ?_ | refine zdj rfl ?_) | refine zai rfl rfl ?_ | refine zaj rfl rfl rfl rfl ?_ | refine rs_nu rfl rfl rfl ?_ | cases c
    all_goals first
      | (have hno : spanOk L M K a = false := by simp only [spanOk, moreB, *, Bool.and_false, Bool.false_and, Bool.and_true, Bool.true_and, Bool.or_true, Bool.true_or, Bool.false_or, Bool.or_false, Bool.not_true, Bool.not_false]
         exact done_ret2 rfl () (by simp only [spanT, hno]; rfl) rfl rfl trivial (List.nil_sublist _))
      | (have hno : spanOk L M K a = false := by simp only [spanOk, moreB, inB, e1, Int.toNat_zero] at *; simp_all
         exact done_ret2 rfl () (by simp only [spanT, hno]; rfl) rfl rfl trivial (List.nil_sublist _))
      | skip
    all_goals
      have hin : inB L a = true := by simp only [inB, e1, Int.toNat_zero, Bool.and_eq_true] at *; simp_all
      have hyes : spanOk L M K a = true := by simp only [spanOk, moreB, hin]; simp_all
      refine ws_loop (ι := Nat) (fun i => [(0, slF w0 L), (3, .f .f32 a), (10, .raw (.int .i64 i))]) (fun _ => St w0 [] []) (fun i => i + 1 < L.length ∧ spanFrom L a (L.length - i) i = spanI L a) (fun i => L.length - i) 0 ⟨by omega, rfl⟩ ?_ (fun _ h => h) (fun i hi => ?_)
      · (repeat (first | exact Env.sub_nil _ | refine Env.sub_cons rfl ?_))
      · obtain ⟨hi, hsp⟩ := hi
        have e2 : ((i : Int) + 1).toNat = i + 1 := by omega
        repeat first | refine zaa rfl (zay rfl) ?_ | refine zaa rfl (zaz rfl) ?_ | (refine zac ?_; first | refine zaa rfl (zba rfl rfl rfl) ?_ | refine zaa rfl (zbb rfl rfl (by omega)) ?_ | refine zaa rfl (zbc rfl rfl (by omega)) ?_ | refine zaa rfl (zbd rfl rfl rfl) ?_ | refine zaa rfl (zbe rfl rfl) ?_ | refine zaa rfl (zbf rfl rfl) ?_ | refine zaa rfl (zbg rfl rfl) ?_ | refine zaa rfl (zbh rfl rfl) ?_ | refine zaa rfl (zbi rfl rfl) ?_ | refine zaa rfl (zbj rfl rfl) ?_ | refine zaa rfl (zbk rfl rfl) ?_ | refine zaa rfl (zbl rfl rfl) ?_) | (refine zad ?_; first | refine zaa rfl (zbm rfl) ?_ | refine zaa rfl (zbn rfl) ?_ | refine zaa rfl (zbp rfl) ?_ | refine zaa rfl (zbq rfl) ?_ | refine zaa rfl (zbr rfl rfl) ?_) | refine zaa rfl (zbu rfl rfl) ?_ | refine zaa rfl (zbv rfl rfl (by omega) (by omega)) ?_ | refine zaa rfl (zbw rfl rfl (by omega) (by omega)) ?_ | refine zaa rfl (zbx rfl) ?_ | refine zaa rfl (zby rfl) ?_ | refine zaa rfl (zbz rfl rfl) ?_ | refine zaa rfl (zca rfl rfl) ?_ | refine zaa rfl (zcb rfl rfl) ?_ | refine zaa rfl (zcc rfl) ?_ | refine zah ?_ | (refine zcr ?_; first | refine zcs ?_ | refine zct ?_ | refine zcu ?_ | refine zcv ?_ | refine zcw ?_ | refine zcx ?_ | refine zcy rfl ?_ | refine zcz ?_ | refine zda ?_) | (refine zdb ?_; first | refine zdc ?_ | refine zdd ?_ | refine zde ?_ | refine zdf ?_ | refine zdg ?_ | refine zdh ?_ | refine zdi rfl ?_ | refine zdj rfl ?_) | refine zai rfl rfl ?_ | refine zaj rfl rfl rfl rfl ?_
        refine ws_cond rfl (fun hc => ?_) (fun hc => ?_)
        · rw [e2] at hc
          repeat first | refine zaa rfl (zay rfl) ?_ | refine zaa rfl (zaz rfl) ?_ | (refine zac ?_; first | refine zaa rfl (zba rfl rfl rfl) ?_ | refine zaa rfl (zbb rfl rfl (by omega)) ?_ | refine zaa rfl (zbc rfl rfl (by omega)) ?_ | refine zaa rfl (zbd rfl rfl rfl) ?_ | refine zaa rfl (zbe rfl rfl) ?_ | refine zaa rfl (zbf rfl rfl) ?_ | refine zaa rfl (zbg rfl rfl) ?_ | refine zaa rfl (zbh rfl rfl) ?_ | refine zaa rfl (zbi rfl rfl) ?_ | refine zaa rfl (zbj rfl rfl) ?_ | refine zaa rfl (zbk rfl rfl) ?_ | refine zaa rfl (zbl rfl rfl) ?_) | (refine zad ?_; first | refine zaa rfl (zbm rfl) ?_ | refine zaa rfl (zbn rfl) ?_ | refine zaa rfl (zbp rfl) ?_ | refine zaa rfl (zbq rfl) ?_ | refine zaa rfl (zbr rfl rfl) ?_) | refine zaa rfl (zbu rfl rfl) ?_ | refine zaa rfl (zbv rfl rfl (by omega) (by omega)) ?_ | refine zaa rfl (zbw rfl rfl (by omega) (by omega)) ?_ | refine zaa rfl (zbx rfl) ?_ | refine zaa rfl (zby rfl) ?_ | refine zaa rfl (zbz rfl rfl) ?_ | refine zaa rfl (zca rfl rfl) ?_ | refine zaa rfl (zcb rfl rfl) ?_ | refine zaa rfl (zcc rfl) ?_ | refine zah ?_ | (refine zcr ?_; first | refine zcs ?_ | refine zct ?_ | refine zcu ?_ | refine zcv ?_ | refine zcw ?_ | refine zcx ?_ | refine zcy rfl ?_ | refine zcz ?_ | refine zda ?_) | (refine zdb ?_; first | refine zdc ?_ | refine zdd ?_ | refine zde ?_ | refine zdf ?_ | refine zdg ?_ | refine zdh ?_ | refine zdi rfl ?_ | refine zdj rfl ?_) | refine zai rfl rfl ?_ | refine zaj rfl rfl rfl rfl ?_
          refine done_round (i + 1) ⟨span_next hi hin hc, by rw [spanFrom_step hi hc]; exact hsp⟩ (by omega) ?_ (fun _ h => h)
          (repeat (first | exact Env.sub_nil _ | refine Env.sub_cons rfl ?_))
        · rw [e2] at hc
          repeat first | refine zaa rfl (zay rfl) ?_ | refine zaa rfl (zaz rfl) ?_ | (refine zac ?_; first | refine zaa rfl (zba rfl rfl rfl) ?_ | refine zaa rfl (zbb rfl rfl (by omega)) ?_ | refine zaa rfl (zbc rfl rfl (by omega)) ?_ | refine zaa rfl (zbd rfl rfl rfl) ?_ | refine zaa rfl (zbe rfl rfl) ?_ | refine zaa rfl (zbf rfl rfl) ?_ | refine zaa rfl (zbg rfl rfl) ?_ | refine zaa rfl (zbh rfl rfl) ?_ | refine zaa rfl (zbi rfl rfl) ?_ | refine zaa rfl (zbj rfl rfl) ?_ | refine zaa rfl (zbk rfl rfl) ?_ | refine zaa rfl (zbl rfl rfl) ?_) | (refine zad ?_; first | refine zaa rfl (zbm rfl) ?_ | refine zaa rfl (zbn rfl) ?_ | refine zaa rfl (zbp rfl) ?_ | refine zaa rfl (zbq rfl) ?_ | refine zaa rfl (zbr rfl rfl) ?_) | refine zaa rfl (zbu rfl rfl) ?_ | refine zaa rfl (zbv rfl rfl (by omega) (by omega)) ?_ | refine zaa rfl (zbw rfl rfl (by omega) (by omega)) ?_ | refine zaa rfl (zbx rfl) ?_ | refine zaa rfl (zby rfl) ?_ | refine zaa rfl (zbz rfl rfl) ?_ | refine zaa rfl (zca rfl rfl) ?_ | refine zaa rfl (zcb rfl rfl) ?_ | refine zaa rfl (zcc rfl) ?_ | refine zah ?_ | (refine zcr ?_; first | refine zcs ?_ | refine zct ?_ | refine zcu ?_ | refine zcv ?_ | refine zcw ?_ | refine zcx ?_ | refine zcy rfl ?_ | refine zcz ?_ | refine zda ?_) | (refine zdb ?_; first | refine zdc ?_ | refine zdd ?_ | refine zde ?_ | refine zdf ?_ | refine zdg ?_ | refine zdh ?_ | refine zdi rfl ?_ | refine zdj rfl ?_) | refine zai rfl rfl ?_ | refine zaj rfl rfl rfl rfl ?_
          rw [spanFrom_end hi hc] at hsp
          have hT : spanT L M K a = .tup [.raw (.int .i64 (i : Int)), .raw (.bool true)] := by unfold spanT; rw [hyes, if_pos rfl, hsp]
          exact done_ret2 rfl () hT rfl rfl trivial (List.nil_sublist _)
end Go.Ab
