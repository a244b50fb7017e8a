/- Where a place lies among a graph's points: what the program's spanOf and the reference's l05Find tell. No conditions. -/
import Derived.Test.YtljgokghchhjaaaGraph
namespace Go.Ab
open Go.Proofs
attribute [local irreducible] WS RS Done OpJ Then InBlock Round Ret Env.sub FnH

section
variable {P : Program} {N : Nat} {S : World → Prop} {e : Env} {Q : Exit → Env → World → Prop} {ops : Array Oper} {l : List Oper}
theorem yielded_undef {a : Act} {w : World} (hF : Fr N e a w) {j d : Nat} (hy : gslot ops j = some d) (he : e.look d = some (.raw undef)) : yielded ops a.tmps j = none := by
  obtain ⟨u, hu, hr⟩ := hF.rel d _ he
  have := hr.inv_raw
  subst this
  unfold yielded
  rw [show ((ops[j]?).bind (·.dst)) = some d from hy]
  simp [hu, undef]
theorem rs_nu {d : Tmp} {op : Op} {ty : TypeId} {pos : String} {after : Array Edge} {j y : Nat} {b : Bool} (hd : Nat.blt d N = true) (hy : gslot ops j = some y) (he : e.look y = some (.raw undef))
    (h : RS P N ops l ((d, .raw undef) :: e) S Q) : RS P N ops (⟨some d, op, ty, pos, after, some (j, b)⟩ :: l) e S Q := by
  unfold RS at *
  intro a w hS hF
  refine wpList_step fun K hK => ?_
  rw [if_neg (by simp [Region.wanted, yielded_undef hF hy he])]
  exact hK _ _ (h _ w hS (Fr.put (some d) hF (fun _ h => by cases h; exact Nat.le_of_ble_eq_true hd) .raw))
end
theorem graph_len {L M : List FV} (h : graphB L M = true) : 2 ≤ L.length ∧ L.length ≤ 48 ∧ M.length = L.length := by
  simp only [graphB, Bool.and_eq_true, Bool.not_eq_true', decide_eq_false_iff_not] at h
  omega
def spanFrom (L : List FV) (at_ : FV) : Nat → Nat → Nat
  | 0, i => i
  | n + 1, i => if cmpB .gtr (fcmp .f32 at_ (L.getD (i + 1) default)) then spanFrom L at_ n (i + 1) else i
/-- The span in which a place lies. -/
def spanI (L : List FV) (at_ : FV) : Nat := spanFrom L at_ L.length 0
def inB (L : List FV) (at_ : FV) : Bool := cmpB .geq (fcmp .f32 at_ (L.getD 0 default)) && cmpB .leq (fcmp .f32 at_ (L.getD (L.length - 1) default))
def moreB (L M K : List FV) : Bool := graphB L M && !(decide ((K.length : Int) ≠ L.length)) && K.all finB
theorem spanFrom_step {L : List FV} {a : FV} {i : Nat} (hi : i + 1 < L.length) (h : cmpB .gtr (fcmp .f32 a (L.getD (i + 1) default)) = true) : spanFrom L a (L.length - (i + 1)) (i + 1) = spanFrom L a (L.length - i) i := by
  have e : L.length - i = (L.length - (i + 1)) + 1 := by omega
  rw [e]
  simp only [spanFrom, h, if_true]
theorem spanFrom_end {L : List FV} {a : FV} {i : Nat} (hi : i + 1 < L.length) (h : cmpB .gtr (fcmp .f32 a (L.getD (i + 1) default)) = false) : spanFrom L a (L.length - i) i = i := by
  have e : L.length - i = (L.length - (i + 1)) + 1 := by omega
  rw [e]
  simp only [spanFrom, h, Bool.false_eq_true, if_false]
theorem span_next {L : List FV} {a : FV} {i : Nat} (hi : i + 1 < L.length) (hin : inB L a = true) (h : cmpB .gtr (fcmp .f32 a (L.getD (i + 1) default)) = true) : i + 1 + 1 < L.length := by
  false_or_by_contra
  have e : L.length - 1 = i + 1 := by omega
  simp only [inB, Bool.and_eq_true, e] at hin
  obtain ⟨_, h2⟩ := hin
  cases hc : fcmp .f32 a (L.getD (i + 1) default) with
  | none => rw [hc] at h; cases h
  | some o => rw [hc] at h h2; cases o <;> first | (exact absurd h (by decide)) | (exact absurd h2 (by decide))

def spanOk (L M K : List FV) (a : FV) : Bool := moreB L M K && inB L a
def spanT (L M K : List FV) (a : FV) : AV := .tup [.raw (.int .i64 (if spanOk L M K a then (spanI L a : Int) else 0)), .raw (.bool (spanOk L M K a))]
end Go.Ab
