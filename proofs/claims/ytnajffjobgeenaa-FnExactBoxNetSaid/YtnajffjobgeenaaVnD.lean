/- Nets: the maps by pairs of corners, and what ValidNet does at a side. No conditions. -/
import Derived.Test.YtnajffjobgeenaaVnC
import Derived.KernelRfl
namespace Go.Ab
open Go.Proofs

theorem k_laid : laidOutB Try.prog = true := by kernel_rfl
theorem k_pairLaw : WideMaps.KeyLaw Try.prog 118 := deep_law_laid k_laid (m := 2) (by decide) (of_decide_eq_true (by kernel_rfl)) (by kernel_rfl) (by kernel_rfl)
theorem k_pairKey {a b : Int} (ha : In64 a) (hb : In64 b) : ∃ l, keyOf Try.prog 118 (kv a b) = some l :=
  ⟨_, WideMaps.keyOf_pair (e := 2) (q := .i64) ⟨by kernel_rfl, by kernel_rfl, by kernel_rfl, by kernel_rfl⟩ (by kernel_rfl) ⟨Try.prog.types.size - 1, by kernel_rfl⟩ (in64_wf ha) (in64_wf hb)⟩
instance mapT_bool : MapT Try.prog 116 118 4 := ⟨by kernel_rfl, k_pairLaw, k_pairKey⟩
instance mapT_int : MapT Try.prog 164 118 3 := ⟨by kernel_rfl, k_pairLaw, k_pairKey⟩
section
variable {P : Program} {e : Env} {w0 : World} {gs : List Nat} {H : List Ent} {g : Nat} {f : Int → Int → Option Value} {t k el : TypeId} {pos : String} {ty : TypeId} {after : Array Edge} {guard : Option (Nat × Bool)}
theorem opj_lookupV [hm : MapT P t k el] {z v : Value} {sz b0 : Nat} [hi : TyI P el z sz b0] {dst : Option Tmp} {X K : Operand} {a b : Int} (hv : (f a b).getD z = v) (hx : e.ev X = some (.raw (.map (some g)))) (hk : e.ev K = some (.agg [.raw (.int .i64 a), .raw (.int .i64 b)])) (ha : In64 a) (hb : In64 b) :
    OpJ P (StR (MapAt g f) w0 gs H) e ⟨dst, .lookup t X K false, ty, pos, after, guard⟩ (.raw v) := by
  subst hv; exact opj_lookup hx hk ha hb
end
attribute [local irreducible] WS RS Done OpJ Then InBlock Round Ret Env.sub FnH
attribute [local irreducible] tab tabA corners

def abS (x : Sd) : Int × Int := (x.2.1, x.2.2)
def onceB (l : List Sd) : Bool := decide ((l.map abS).Nodup)
def seenF (l : List Sd) (a b : Int) : Option Value := if (a, b) ∈ l.map abS then some (.bool true) else none
theorem onceB_snoc (l : List Sd) (x : Sd) : onceB (l ++ [x]) = (onceB l && !(decide (abS x ∈ l.map abS))) := by
  unfold onceB
  rw [List.map_append, Bool.eq_iff_iff]
  simp only [decide_eq_true_eq, Bool.and_eq_true, Bool.not_eq_true', decide_eq_false_iff_not, List.map_cons, List.map_nil]
  rw [List.nodup_append]
  constructor
  · intro ⟨h1, _, h3⟩
    exact ⟨h1, fun hm => h3 _ hm _ (by simp) rfl⟩
  · intro ⟨h1, h2⟩
    exact ⟨h1, by simp, fun a ha b hb hab => by simp at hb; subst hb; subst hab; exact h2 ha⟩
theorem seenF_snoc (l : List Sd) (x : Sd) : seenF (l ++ [x]) = updK (seenF l) x.2.1 x.2.2 (.bool true) := by
  funext a b
  unfold seenF updK
  rw [List.map_append]
  by_cases h : a = x.2.1 ∧ b = x.2.2
  · rw [if_pos h, if_pos]
    simp [abS, h.1, h.2]
  · rw [if_neg h]
    have : ((a, b) ∈ l.map abS ++ [x].map abS) = ((a, b) ∈ l.map abS) := by
      simp only [List.map_cons, List.map_nil, List.mem_append, List.mem_singleton, abS, Prod.mk.injEq, eq_iff_iff]
      exact ⟨fun h' => h'.resolve_right h, .inl⟩
    simp only [this]
abbrev entOnce (g : Nat) (l : List Sd) : Ent := ⟨g, 4, [boolA (onceB l)], 1⟩
abbrev entSeen (g gm : Nat) : Ent := ⟨g, 116, [.raw (.map (some gm))], 1⟩

set_option maxHeartbeats 2000000 in
theorem validSide_fn (w0 : World) (gm gO gS : Nat) (hg : w0.heap.size ≤ gm) (l : List Sd) (x : Sd) (K : List Ent) (ha : In64 x.2.1) (hb : In64 x.2.2) :
    FnW Try.prog 115 ([intA x.1, intA x.2.1, intA x.2.2] ++ [Value.pointer (some ⟨gO, 0, none⟩), Value.pointer (some ⟨gS, 0, none⟩)].map .raw)
      (StR (MapAt gm (seenF l)) w0 [] ([entOnce gO l, entSeen gS gm] ++ K)) (StR (MapAt gm (seenF (l ++ [x]))) w0 [] ([entOnce gO (l ++ [x]), entSeen gS gm] ++ K)) (.tup []) := by
  obtain ⟨fc, a, b⟩ := x
  have hv : (seenF l a b).getD (.bool false) = .bool (decide (abS (fc, a, b) ∈ l.map abS)) := by
    unfold seenF
    by_cases h : (a, b) ∈ l.map abS
    · rw [if_pos h, decide_eq_true (show abS (fc, a, b) ∈ l.map abS from h)]; rfl
    · rw [if_neg h, decide_eq_false (show ¬ abS (fc, a, b) ∈ l.map abS from h)]; rfl
  have hs := seenF_snoc l (fc, a, b)
  have ho := onceB_snoc l (fc, a, b)
  unfold entOnce
  rw [hs, ho]
  generalize decide (abS (fc, a, b) ∈ l.map abS) = p at *
  generalize onceB l = q at *
  generalize seenF l = f at *
  clear hs ho
  simp only at ha hb ⊢
  refine fnw_intro Try.func115 rfl Try.ntmps115 (Nat.le_of_ble_eq_true rfl) ?_
  cases q <;> cases p
  all_goals
    repeat first | refine zaa rfl (zay rfl) ?_ | refine zaa rfl (zaz rfl) ?_ | (refine zac ?_; first | refine zaa rfl (zba rfl rfl rfl) ?_ | refine zaa rfl (zbb rfl rfl (by omega)) ?_ | refine zaa rfl (zbc rfl rfl (by omega)) ?_ | refine zaa rfl (zbd rfl rfl rfl) ?_ | refine zaa rfl (zbe rfl rfl) ?_ | refine zaa rfl (zbf rfl rfl) ?_ | refine zaa rfl (zbg rfl rfl) ?_ | refine zaa rfl (zbh rfl rfl) ?_ | refine zaa rfl (zbi rfl rfl) ?_ | refine zaa rfl (zbj rfl rfl) ?_ | refine zaa rfl (zbk rfl rfl) ?_ | refine zaa rfl (zbl rfl rfl) ?_) | (refine zad ?_; first | refine zaa rfl (zbm rfl) ?_ | refine zaa rfl (zbn rfl) ?_ | refine zaa rfl (zbp rfl) ?_ | refine zaa rfl (zbq rfl) ?_ | refine zaa rfl (zbr rfl rfl) ?_) | (refine zae ?_; first | refine zaa rfl (zcf rfl rfl (by (repeat (first | exact mh | refine mt ?_)); done) rfl) ?_ | refine zaa rfl (zcg rfl rfl (by (repeat (first | exact mh | refine mt ?_)); done) rfl rfl) ?_ | refine zaa rfl (zch rfl rfl rfl rfl) ?_ | refine zaa rfl (zbu rfl rfl) ?_) | (refine zaf ?_; first | refine zaa rfl (zbv rfl rfl (by omega) (by omega)) ?_ | refine zaa rfl (zbw rfl rfl (by omega) (by omega)) ?_) | refine zaa rfl (zcd rfl) ?_ | refine zaa rfl (zce rfl) ?_ | refine zaa rfl (zbx rfl) ?_ | refine zaa rfl (zby rfl) ?_ | refine zaa rfl (zbz rfl rfl) ?_ | refine zaa rfl (zca rfl rfl) ?_ | refine zaa rfl (zcb rfl rfl) ?_ | refine zaa rfl (zcc rfl) ?_ | refine zah ?_ | (refine zcr ?_; first | refine zcs ?_ | refine zct ?_ | refine zcu ?_ | refine zcv ?_ | refine zcw ?_ | refine zcx ?_ | refine zcy rfl ?_ | refine zcz ?_ | refine zda ?_) | (refine zdb ?_; first | refine zdc ?_ | refine zdd ?_ | refine zde ?_ | refine zdf ?_ | refine zdg ?_ | refine zdh ?_ | refine zdi rfl ?_ | refine zdj rfl ?_) | refine zai rfl rfl ?_ | refine zaj rfl rfl rfl rfl ?_ | (refine zak rfl rfl rfl ?_; intro g) | (refine zal rfl rfl ?_; intro g) | (refine zag ?_; first | refine zam 0 rfl rfl rfl rfl rfl rfl ?_ | refine zam 1 rfl rfl rfl rfl rfl rfl ?_ | refine zam 2 rfl rfl rfl rfl rfl rfl ?_ | refine zam 3 rfl rfl rfl rfl rfl rfl ?_ | refine zam 4 rfl rfl rfl rfl rfl rfl ?_ | refine zam 5 rfl rfl rfl rfl rfl rfl ?_ | refine zan 0 rfl rfl rfl rfl rfl rfl rfl rfl rfl ?_ | refine zan 1 rfl rfl rfl rfl rfl rfl rfl rfl rfl ?_ | refine zan 2 rfl rfl rfl rfl rfl rfl rfl rfl rfl ?_ | refine zan 3 rfl rfl rfl rfl rfl rfl rfl rfl rfl ?_ | refine zan 4 rfl rfl rfl rfl rfl rfl rfl rfl rfl ?_ | refine zan 5 rfl rfl rfl rfl rfl rfl rfl rfl rfl ?_ | refine zao 0 rfl rfl rfl rfl rfl rfl ?_ | refine zao 1 rfl rfl rfl rfl rfl rfl ?_ | refine zao 2 rfl rfl rfl rfl rfl rfl ?_ | refine zao 3 rfl rfl rfl rfl rfl rfl ?_) | refine zaa rfl (opj_build2 rfl rfl) ?_ | refine zaa rfl (opj_lookupV hv rfl rfl ha hb) ?_ | refine rs_mapUpdate hg rfl rfl rfl ha hb ?_
    exact done_w0 (.inr rfl) rfl (fun _ h => h)
end Go.Ab
