/- Nets: what the program's ValidNet tells. No conditions. -/
import Derived.Test.YtnajffjobgeenaaVnD
namespace Go.Ab
open Go.Proofs

structure FacOk (n : Nat) (L : List Int) : Prop where
  len : 3 ≤ L.length ∧ L.length ≤ 8
  mem : ∀ c ∈ L, 0 ≤ c ∧ c ≤ (n : Int) - 1
  nd : L.Nodup
/-- A net is valid. -/
structure Valid (n : Nat) (s : Int → FV) (F : List (List Int)) : Prop where
  n3 : inB n 3 256 = true
  fin : spotsFin n s = true
  f1 : 1 ≤ F.length ∧ F.length ≤ 256
  fac : ∀ k, k < F.length → FacOk n (F.getD k default)
  once : onceB (sidesF F) = true
  used : ∀ c : Nat, c < n → ∃ k, k < F.length ∧ (c : Int) ∈ F.getD k default
noncomputable def validB (n : Nat) (s : Int → FV) (F : List (List Int)) : Bool := @decide (Valid n s F) (Classical.propDecidable _)
theorem validB_true {n : Nat} {s : Int → FV} {F : List (List Int)} (h : Valid n s F) : validB n s F = true := @decide_eq_true _ (Classical.propDecidable _) h
theorem validB_false {n : Nat} {s : Int → FV} {F : List (List Int)} (h : ¬ Valid n s F) : validB n s F = false := @decide_eq_false _ (Classical.propDecidable _) h
theorem valid_of {n : Nat} {s : Int → FV} {F : List (List Int)} (h : validB n s F = true) : Valid n s F := @of_decide_eq_true _ (Classical.propDecidable _) h
abbrev entU (g n : Nat) (U : List Bool) : Ent := ⟨g, 4, U.map boolA, n⟩
theorem mem_take_succ {L : List Int} {i : Nat} (h : i < L.length) {c : Int} : c ∈ L.take (i + 1) ↔ c ∈ L.take i ∨ c = L.getD i default := by
  rw [List.take_succ_eq_append_getElem h, List.mem_append, List.mem_singleton, List.getD_eq_getElem?_getD, List.getElem?_eq_getElem h]
  rfl
theorem nodup_take_succ {L : List Int} {i : Nat} (h : i < L.length) : (L.take (i + 1)).Nodup ↔ (L.take i).Nodup ∧ ¬ L.getD i default ∈ L.take i := by
  rw [List.take_succ_eq_append_getElem h, List.nodup_append, List.getD_eq_getElem?_getD, List.getElem?_eq_getElem h]
  constructor
  · intro ⟨h1, _, h3⟩
    exact ⟨h1, fun hm => h3 _ hm _ (by simp) rfl⟩
  · intro ⟨h1, h2⟩
    exact ⟨h1, by simp, fun a ha b hb hab => by simp at hb; subst hb; subst hab; exact h2 ha⟩
section
variable {P : Program} {N : Nat} {e : Env} {Q : Exit → Env → World → Prop} {ops : Array Oper} {l : List Oper} {R : World → Prop} [RStab R]
variable {w0 : World} {gs : List Nat} {H : List Ent} {ty : TypeId} {pos : String} {after : Array Edge}
/-- A yes or no into a list of such. -/
theorem rs_storeB (k : Nat) {g n i : Nat} {U : List Bool} {b : Bool} {t : TypeId} {z : Value} {b0 : Nat} [hi : TyI P t z 1 b0] {A X : Operand} (hA : e.ev A = some (.raw (.pointer (some ⟨g, i, none⟩)))) (hx : e.ev X = some (.raw (.bool b))) (hH : H[k]? = some (entU g n U)) (hi' : i < n)
    (hk : RS P N ops l e.keep (StR R w0 gs (H.set k (entU g n (U.set i b)))) Q) :
    RS P N ops (⟨none, .store t A X, ty, pos, after, none⟩ :: l) e (StR R w0 gs H) Q := by
  refine rs_storeAt k (en := entU g n U) hA hx rfl hH hi' ?_
  have : (entU g n U).xs.set i (.raw (.bool b)) = (U.set i b).map boolA := by
    rw [List.map_set]; rfl
  rw [this]
  exact hk
end
/-- Which corners are seen: those of k facets, and of the first i corners of L. -/
def usedTo (F : List (List Int)) (k : Nat) (M : List Int) (c : Int) : Prop := (∃ j, j < k ∧ c ∈ F.getD j default) ∨ c ∈ M
def UsedIs (n : Nat) (U : List Bool) (φ : Int → Prop) : Prop := U.length = n ∧ ∀ c : Nat, c < n → (U.getD c false = true ↔ φ c)
theorem usedIs_set {n : Nat} {U : List Bool} {φ ψ : Int → Prop} (h : UsedIs n U φ) {c : Int} (h0 : 0 ≤ c) (_ : c ≤ (n : Int) - 1) (hψ : ∀ d, ψ d ↔ φ d ∨ d = c) : UsedIs n (U.set (c.toNat * 1) true) ψ := by
  refine ⟨by rw [List.length_set]; exact h.1, fun d hd => ?_⟩
  rw [hψ, ← h.2 d hd, Nat.mul_one, List.getD_eq_getElem?_getD, List.getElem?_set]
  by_cases hdc : c.toNat = d
  · rw [if_pos hdc, if_pos (by rw [hdc, h.1]; exact hd)]
    simp; right; omega
  · rw [if_neg hdc, ← List.getD_eq_getElem?_getD]
    constructor
    · exact .inl
    · intro h'; exact h'.resolve_right (by omega)
theorem usedIs_congr {n : Nat} {U : List Bool} {φ ψ : Int → Prop} (h : UsedIs n U φ) (hψ : ∀ d, ψ d ↔ φ d) : UsedIs n U ψ := ⟨h.1, fun c hc => by rw [hψ]; exact h.2 c hc⟩
theorem seenF_nil : seenF [] = fun _ _ => none := by
  funext a b
  unfold seenF
  simp
theorem onceB_nil : onceB [] = true := by decide
theorem side_mem {F : List (List Int)} {x : Sd} (h : x ∈ sidesF F) : ∃ k i, k < F.length ∧ i < (F.getD k default).length ∧ x = sideAt k (F.getD k default) i := by
  unfold sidesF sidesTo at h
  obtain ⟨k, hk, hx⟩ := List.mem_flatMap.1 h
  unfold sidesL at hx
  obtain ⟨i, hi, rfl⟩ := List.mem_map.1 hx
  exact ⟨k, i, by simpa using hk, by simpa using hi, rfl⟩
theorem getD_mem {L : List Int} {i : Nat} (h : i < L.length) : L.getD i default ∈ L := by
  rw [List.getD_eq_getElem?_getD, List.getElem?_eq_getElem h]
  exact List.getElem_mem _
theorem nextC_lt {L : List Int} (h : 0 < L.length) (i : Nat) : (((i : Int) + 1) % (L.length : Int)).toNat < L.length := by
  have h1 : 0 ≤ ((i : Int) + 1) % (L.length : Int) := Int.emod_nonneg _ (by omega)
  have h2 : ((i : Int) + 1) % (L.length : Int) < L.length := Int.emod_lt_of_pos _ (by omega)
  omega
theorem side_bounds {n : Nat} {F : List (List Int)} (hf : ∀ k, k < F.length → FacOk n (F.getD k default)) {x : Sd} (h : x ∈ sidesF F) : (0 ≤ x.2.1 ∧ x.2.1 ≤ (n : Int) - 1) ∧ (0 ≤ x.2.2 ∧ x.2.2 ≤ (n : Int) - 1) := by
  obtain ⟨k, i, hk, hi, rfl⟩ := side_mem h
  exact ⟨(hf k hk).mem _ (getD_mem hi), (hf k hk).mem _ (getD_mem (nextC_lt (by omega) i))⟩
theorem valid_used {n : Nat} {s : Int → FV} {F : List (List Int)} {U : List Bool} (h1 : inB n 3 256 = true) (h2 : spotsFin n s = true) (h3 : 1 ≤ F.length ∧ F.length ≤ 256) (h4 : ∀ k, k < F.length → FacOk n (F.getD k default)) (h5 : onceB (sidesF F) = true) (hU : UsedIs n U (usedTo F F.length [])) :
    validB n s F = !(decide (false ∈ U)) := by
  by_cases hm : false ∈ U
  · rw [decide_eq_true hm]
    refine validB_false fun h => ?_
    obtain ⟨c, hc, he⟩ := List.mem_iff_getElem.1 hm
    rw [hU.1] at hc
    have := (hU.2 c hc).2 (.inl (h.used c hc))
    rw [List.getD_eq_getElem?_getD, List.getElem?_eq_getElem (by rw [hU.1]; exact hc), he] at this
    cases this
  · rw [decide_eq_false hm]
    refine validB_true ⟨h1, h2, h3, h4, h5, fun c hc => ?_⟩
    have hlt : c < U.length := by rw [hU.1]; exact hc
    have ht : U.getD c false = true := by
      rw [List.getD_eq_getElem?_getD, List.getElem?_eq_getElem hlt]
      cases hv : U[c] with
      | true => rfl
      | false => exact absurd (by rw [← hv]; exact List.getElem_mem hlt) hm
    rcases (hU.2 c hc).1 ht with h | h
    · exact h
    · cases h
attribute [local irreducible] WS RS Done OpJ Then InBlock Round Ret Env.sub FnH
attribute [local irreducible] tab tabA corners

set_option maxHeartbeats 8000000 in
theorem implValid_fn (n : Nat) (s : Int → FV) (F : List (List Int)) (hn : n < 2 ^ 60) (hF0 : F.length < 2 ^ 60) (hF : ∀ L ∈ F, L.length < 2 ^ 60) : Fn Try.prog 50 (fun w => [netA w n s F]) (.raw (.bool (validB n s F))) := by
  have hsp := areSpots_fn n s hn
  refine fn_intro Try.func50 rfl Try.ntmps50 (fun _ => Nat.le_of_ble_eq_true rfl) fun w0 => ?_
  repeat' first | refine zaa rfl (zay rfl) ?_ | refine zaa rfl (zaz rfl) ?_ | (refine zac ?_; first | refine zaa rfl (zba rfl rfl rfl) ?_ | refine zaa rfl (zbb rfl rfl (by omega)) ?_ | refine zaa rfl (zbc rfl rfl (by omega)) ?_ | (refine zab rfl (zbd rfl rfl rfl) ?_; intro c hc) | (refine zab rfl (zbe rfl rfl) ?_; intro c hc) | (refine zab rfl (zbf rfl rfl) ?_; intro c hc) | (refine zab rfl (zbg rfl rfl) ?_; intro c hc) | (refine zab rfl (zbh rfl rfl) ?_; intro c hc) | (refine zab rfl (zbi rfl rfl) ?_; intro c hc) | (refine zab rfl (zbj rfl rfl) ?_; intro c hc) | (refine zab rfl (zbk rfl rfl) ?_; intro c hc) | (refine zab rfl (zbl rfl rfl) ?_; intro c hc)) | (refine zad ?_; first | refine zaa rfl (zbm rfl) ?_ | refine zaa rfl (zbn rfl) ?_ | refine zaa rfl (zbp rfl) ?_ | refine zaa rfl (zbq rfl) ?_ | refine zaa rfl (zbr rfl rfl) ?_ | (refine zab rfl (zci rfl rfl (within_fn (n : Int) 3 256) ?_) ?_; (focus ((repeat (first | exact Takes.nil | refine Takes.sl ?_ | refine Takes.fa ?_ | refine Takes.fc ?_ | refine Takes.net ?_ | (refine Takes.ownE ?_ ?_ ?_ ?_ ?_; (focus (exact ⟨_, _, (by (repeat (first | exact mh | refine mt ?_)); done)⟩)); (focus (simp; done)); (focus omega); (focus (simp only [maxLen]; omega))) | refine Takes.same ?_)); done)); intro c hc)) | (refine zae ?_; first | refine zaa rfl (zcf rfl rfl (by (repeat (first | exact mh | refine mt ?_)); done) rfl) ?_ | refine zaa rfl (zcg rfl rfl (by (repeat (first | exact mh | refine mt ?_)); done) rfl rfl) ?_ | refine zaa rfl (zch rfl rfl rfl rfl) ?_ | refine zaa rfl (zbu rfl rfl) ?_) | (refine zaf ?_; first | refine zaa rfl (zbv rfl rfl (by omega) (by omega)) ?_ | refine zaa rfl (zbw rfl rfl (by omega) (by omega)) ?_) | refine zaa rfl (zcd rfl) ?_ | refine zaa rfl (zce rfl) ?_ | refine zaa rfl (zbx rfl) ?_ | refine zaa rfl (zby rfl) ?_ | refine zaa rfl (zbz rfl rfl) ?_ | refine zaa rfl (zca rfl rfl) ?_ | refine zaa rfl (zcb rfl rfl) ?_ | refine zaa rfl (zcc rfl) ?_ | refine zah ?_ | (refine zcr ?_; first | refine zcs ?_ | refine zct ?_ | refine zcu ?_ | refine zcv ?_ | refine zcw ?_ | refine zcx ?_ | refine zcy rfl ?_ | refine zcz ?_ | refine zda ?_) | (refine zdb ?_; first | refine zdc ?_ | refine zdd ?_ | refine zde ?_ | refine zdf ?_ | refine zdg ?_ | refine zdh ?_ | refine zdi rfl ?_ | refine zdj rfl ?_) | refine zai rfl rfl ?_ | refine zaj rfl rfl rfl rfl ?_ | (refine zak rfl rfl rfl ?_; intro g) | (refine zal rfl rfl ?_; intro g) | (refine zag ?_; first | refine zam 0 rfl rfl rfl rfl rfl rfl ?_ | refine zam 1 rfl rfl rfl rfl rfl rfl ?_ | refine zam 2 rfl rfl rfl rfl rfl rfl ?_ | refine zam 3 rfl rfl rfl rfl rfl rfl ?_ | refine zam 4 rfl rfl rfl rfl rfl rfl ?_ | refine zam 5 rfl rfl rfl rfl rfl rfl ?_ | refine zan 0 rfl rfl rfl rfl rfl rfl rfl rfl rfl ?_ | refine zan 1 rfl rfl rfl rfl rfl rfl rfl rfl rfl ?_ | refine zan 2 rfl rfl rfl rfl rfl rfl rfl rfl rfl ?_ | refine zan 3 rfl rfl rfl rfl rfl rfl rfl rfl rfl ?_ | refine zan 4 rfl rfl rfl rfl rfl rfl rfl rfl rfl ?_ | refine zan 5 rfl rfl rfl rfl rfl rfl rfl rfl rfl ?_ | refine zao 0 rfl rfl rfl rfl rfl rfl ?_ | refine zao 1 rfl rfl rfl rfl rfl rfl ?_ | refine zao 2 rfl rfl rfl rfl rfl rfl ?_ | refine zao 3 rfl rfl rfl rfl rfl rfl ?_) | refine zaa rfl (zcm rfl) ?_ | (refine zab rfl (zci rfl rfl hsp (Takes.sl Takes.nil)) ?_; intro c hc) | cases c
  · refine done_ret1B rfl () rfl rfl (validB_false fun h => ?_).symm trivial (List.nil_sublist _)
    have := h.n3; rw [this] at hc; cases hc
  · refine done_ret1B rfl () rfl rfl (validB_false fun h => ?_).symm trivial (List.nil_sublist _)
    have := h.fin; rw [this] at hc; cases hc
  rotate_left
  · refine done_ret1B rfl () rfl rfl (validB_false fun h => ?_).symm trivial (List.nil_sublist _)
    have := h.f1; have := of_decide_eq_true hc; omega
  · refine done_ret1B rfl () rfl rfl (validB_false fun h => ?_).symm trivial (List.nil_sublist _)
    have := h.f1; have := of_decide_eq_true hc; omega
  rename_i hn3 hfin hf1
  have hn3' := inB_iff.1 hn3
  have hF1 : 1 ≤ F.length ∧ F.length ≤ 256 := by
    have h1 := of_decide_eq_false hf1
    have h2 := of_decide_eq_false hc
    omega
  clear hf1 hc hsp
  repeat first | refine zaa rfl (zay rfl) ?_ | refine zaa rfl (zaz rfl) ?_ | (refine zac ?_; first | refine zaa rfl (zba rfl rfl rfl) ?_ | refine zaa rfl (zbb rfl rfl (by omega)) ?_ | refine zaa rfl (zbc rfl rfl (by omega)) ?_ | refine zaa rfl (zbd rfl rfl rfl) ?_ | refine zaa rfl (zbe rfl rfl) ?_ | refine zaa rfl (zbf rfl rfl) ?_ | refine zaa rfl (zbg rfl rfl) ?_ | refine zaa rfl (zbh rfl rfl) ?_ | refine zaa rfl (zbi rfl rfl) ?_ | refine zaa rfl (zbj rfl rfl) ?_ | refine zaa rfl (zbk rfl rfl) ?_ | refine zaa rfl (zbl rfl rfl) ?_) | (refine zad ?_; first | refine zaa rfl (zbm rfl) ?_ | refine zaa rfl (zbn rfl) ?_ | refine zaa rfl (zbp rfl) ?_ | refine zaa rfl (zbq rfl) ?_ | refine zaa rfl (zbr rfl rfl) ?_) | (refine zae ?_; first | refine zaa rfl (zcf rfl rfl (by (repeat (first | exact mh | refine mt ?_)); done) rfl) ?_ | refine zaa rfl (zcg rfl rfl (by (repeat (first | exact mh | refine mt ?_)); done) rfl rfl) ?_ | refine zaa rfl (zch rfl rfl rfl rfl) ?_ | refine zaa rfl (zbu rfl rfl) ?_) | (refine zaf ?_; first | refine zaa rfl (zbv rfl rfl (by omega) (by omega)) ?_ | refine zaa rfl (zbw rfl rfl (by omega) (by omega)) ?_) | refine zaa rfl (zcd rfl) ?_ | refine zaa rfl (zce rfl) ?_ | refine zaa rfl (zbx rfl) ?_ | refine zaa rfl (zby rfl) ?_ | refine zaa rfl (zbz rfl rfl) ?_ | refine zaa rfl (zca rfl rfl) ?_ | refine zaa rfl (zcb rfl rfl) ?_ | refine zaa rfl (zcc rfl) ?_ | refine zah ?_ | (refine zcr ?_; first | refine zcs ?_ | refine zct ?_ | refine zcu ?_ | refine zcv ?_ | refine zcw ?_ | refine zcx ?_ | refine zcy rfl ?_ | refine zcz ?_ | refine zda ?_) | (refine zdb ?_; first | refine zdc ?_ | refine zdd ?_ | refine zde ?_ | refine zdf ?_ | refine zdg ?_ | refine zdh ?_ | refine zdi rfl ?_ | refine zdj rfl ?_) | refine zai rfl rfl ?_ | refine zaj rfl rfl rfl rfl ?_ | (refine zak rfl rfl rfl ?_; intro g) | (refine zal rfl rfl ?_; intro g) | (refine zag ?_; first | refine zam 0 rfl rfl rfl rfl rfl rfl ?_ | refine zam 1 rfl rfl rfl rfl rfl rfl ?_ | refine zam 2 rfl rfl rfl rfl rfl rfl ?_ | refine zam 3 rfl rfl rfl rfl rfl rfl ?_ | refine zam 4 rfl rfl rfl rfl rfl rfl ?_ | refine zam 5 rfl rfl rfl rfl rfl rfl ?_ | refine zan 0 rfl rfl rfl rfl rfl rfl rfl rfl rfl ?_ | refine zan 1 rfl rfl rfl rfl rfl rfl rfl rfl rfl ?_ | refine zan 2 rfl rfl rfl rfl rfl rfl rfl rfl rfl ?_ | refine zan 3 rfl rfl rfl rfl rfl rfl rfl rfl rfl ?_ | refine zan 4 rfl rfl rfl rfl rfl rfl rfl rfl rfl ?_ | refine zan 5 rfl rfl rfl rfl rfl rfl rfl rfl rfl ?_ | refine zao 0 rfl rfl rfl rfl rfl rfl ?_ | refine zao 1 rfl rfl rfl rfl rfl rfl ?_ | refine zao 2 rfl rfl rfl rfl rfl rfl ?_ | refine zao 3 rfl rfl rfl rfl rfl rfl ?_) | (refine rs_make (m := boolA) (zx := false) rfl rfl rfl rfl rfl rfl (by omega) (by simp only [maxLen]; omega) ?_; intro gU)
  have hU0 : UsedIs n (List.replicate n false) (usedTo F 0 []) := ⟨by simp, fun c hc => by
    rw [List.getD_eq_getElem?_getD, List.getElem?_replicate, if_pos hc]
    simp only [Option.getD_some, Bool.false_eq_true, false_iff]
    rintro (⟨j, hj, _⟩ | h)
    · omega
    · cases h⟩
  generalize List.replicate n false = U0 at *
  refine ws_loop (ι := Nat × List Bool) (fun y => [(1, .raw (.pointer (some ⟨g, 0, none⟩))), (3, .raw (.int .i64 n)), (4, slv gU n), (38, slFc w0 F), (39, .raw (.int .i64 F.length)), (40, .raw (.int .i64 y.1))])
    (fun y => St w0 [] [entU gU n y.2, ⟨g, 47, [slS w0 n s, slFc w0 F], 2⟩])
    (fun y => y.1 ≤ F.length ∧ (∀ j, j < y.1 → FacOk n (F.getD j default)) ∧ UsedIs n y.2 (usedTo F y.1 [])) (fun y => F.length - y.1) (0, U0) ⟨Nat.zero_le _, fun j h => by simp only at h; omega, hU0⟩ ?_ (fun _ h => h) (fun y hy => ?_)
  · (repeat (first | exact Env.sub_nil _ | refine Env.sub_cons rfl ?_))
  obtain ⟨k, U⟩ := y
  simp only at hy ⊢
  obtain ⟨hk, hfac, hU⟩ := hy
  repeat first | refine zaa rfl (zay rfl) ?_ | refine zaa rfl (zaz rfl) ?_ | (refine zac ?_; first | refine zaa rfl (zba rfl rfl rfl) ?_ | refine zaa rfl (zbb rfl rfl (by omega)) ?_ | refine zaa rfl (zbc rfl rfl (by omega)) ?_ | refine zaa rfl (zbd rfl rfl rfl) ?_ | refine zaa rfl (zbe rfl rfl) ?_ | refine zaa rfl (zbf rfl rfl) ?_ | refine zaa rfl (zbg rfl rfl) ?_ | refine zaa rfl (zbh rfl rfl) ?_ | refine zaa rfl (zbi rfl rfl) ?_ | refine zaa rfl (zbj rfl rfl) ?_ | refine zaa rfl (zbk rfl rfl) ?_ | refine zaa rfl (zbl rfl rfl) ?_) | (refine zad ?_; first | refine zaa rfl (zbm rfl) ?_ | refine zaa rfl (zbn rfl) ?_ | refine zaa rfl (zbp rfl) ?_ | refine zaa rfl (zbq rfl) ?_ | refine zaa rfl (zbr rfl rfl) ?_) | (refine zae ?_; first | refine zaa rfl (zcf rfl rfl (by (repeat (first | exact mh | refine mt ?_)); done) rfl) ?_ | refine zaa rfl (zcg rfl rfl (by (repeat (first | exact mh | refine mt ?_)); done) rfl rfl) ?_ | refine zaa rfl (zch rfl rfl rfl rfl) ?_ | refine zaa rfl (zbu rfl rfl) ?_) | (refine zaf ?_; first | refine zaa rfl (zbv rfl rfl (by omega) (by omega)) ?_ | refine zaa rfl (zbw rfl rfl (by omega) (by omega)) ?_) | refine zaa rfl (zcd rfl) ?_ | refine zaa rfl (zce rfl) ?_ | refine zaa rfl (zbx rfl) ?_ | refine zaa rfl (zby rfl) ?_ | refine zaa rfl (zbz rfl rfl) ?_ | refine zaa rfl (zca rfl rfl) ?_ | refine zaa rfl (zcb rfl rfl) ?_ | refine zaa rfl (zcc rfl) ?_ | refine zah ?_ | (refine zcr ?_; first | refine zcs ?_ | refine zct ?_ | refine zcu ?_ | refine zcv ?_ | refine zcw ?_ | refine zcx ?_ | refine zcy rfl ?_ | refine zcz ?_ | refine zda ?_) | (refine zdb ?_; first | refine zdc ?_ | refine zdd ?_ | refine zde ?_ | refine zdf ?_ | refine zdg ?_ | refine zdh ?_ | refine zdi rfl ?_ | refine zdj rfl ?_) | refine zai rfl rfl ?_ | refine zaj rfl rfl rfl rfl ?_ | (refine zak rfl rfl rfl ?_; intro g) | (refine zal rfl rfl ?_; intro g) | (refine zag ?_; first | refine zam 0 rfl rfl rfl rfl rfl rfl ?_ | refine zam 1 rfl rfl rfl rfl rfl rfl ?_ | refine zam 2 rfl rfl rfl rfl rfl rfl ?_ | refine zam 3 rfl rfl rfl rfl rfl rfl ?_ | refine zam 4 rfl rfl rfl rfl rfl rfl ?_ | refine zam 5 rfl rfl rfl rfl rfl rfl ?_ | refine zan 0 rfl rfl rfl rfl rfl rfl rfl rfl rfl ?_ | refine zan 1 rfl rfl rfl rfl rfl rfl rfl rfl rfl ?_ | refine zan 2 rfl rfl rfl rfl rfl rfl rfl rfl rfl ?_ | refine zan 3 rfl rfl rfl rfl rfl rfl rfl rfl rfl ?_ | refine zan 4 rfl rfl rfl rfl rfl rfl rfl rfl rfl ?_ | refine zan 5 rfl rfl rfl rfl rfl rfl rfl rfl rfl ?_ | refine zao 0 rfl rfl rfl rfl rfl rfl ?_ | refine zao 1 rfl rfl rfl rfl rfl rfl ?_ | refine zao 2 rfl rfl rfl rfl rfl rfl ?_ | refine zao 3 rfl rfl rfl rfl rfl rfl ?_)
  refine ws_cond rfl (fun hc => ?_) (fun hc => ?_)
  · have hlt : (k : Int) < F.length := of_decide_eq_true hc
    clear hc
    have hg : F.getD (k : Int).toNat default = F.getD k default := by rw [Int.toNat_natCast]
    have hL := getL_len hF (by decide) k
    have hno : ¬ FacOk n (F.getD k default) → validB n s F = false := fun h => validB_false fun hv => h (hv.fac k (by omega))
    have hus : ∀ d, usedTo F (k + 1) [] d ↔ usedTo F k (F.getD k default) d := fun d => by
      unfold usedTo
      constructor
      · rintro (⟨j, hj, h⟩ | h)
        · rcases Nat.lt_or_ge j k with h' | h'
          · exact .inl ⟨j, h', h⟩
          · obtain rfl : j = k := by omega
            exact .inr h
        · cases h
      · rintro (⟨j, hj, h⟩ | h)
        · exact .inl ⟨j, by omega, h⟩
        · exact .inl ⟨k, by omega, h⟩
    have hstep : FacOk n (F.getD k default) → ∀ j, j < k + 1 → FacOk n (F.getD j default) := fun h j hj => by
      rcases Nat.lt_or_ge j k with h' | h'
      · exact hfac j h'
      · obtain rfl : j = k := by omega
        exact h
    rw [← hg] at hL hno hus hstep
    repeat' first | refine zaa rfl (zay rfl) ?_ | refine zaa rfl (zaz rfl) ?_ | (refine zac ?_; first | refine zaa rfl (zba rfl rfl rfl) ?_ | refine zaa rfl (zbb rfl rfl (by omega)) ?_ | refine zaa rfl (zbc rfl rfl (by omega)) ?_ | (refine zab rfl (zbd rfl rfl rfl) ?_; intro c hc) | (refine zab rfl (zbe rfl rfl) ?_; intro c hc) | (refine zab rfl (zbf rfl rfl) ?_; intro c hc) | (refine zab rfl (zbg rfl rfl) ?_; intro c hc) | (refine zab rfl (zbh rfl rfl) ?_; intro c hc) | (refine zab rfl (zbi rfl rfl) ?_; intro c hc) | (refine zab rfl (zbj rfl rfl) ?_; intro c hc) | (refine zab rfl (zbk rfl rfl) ?_; intro c hc) | (refine zab rfl (zbl rfl rfl) ?_; intro c hc)) | (refine zad ?_; first | refine zaa rfl (zbm rfl) ?_ | refine zaa rfl (zbn rfl) ?_ | refine zaa rfl (zbp rfl) ?_ | refine zaa rfl (zbq rfl) ?_ | refine zaa rfl (zbr rfl rfl) ?_) | (refine zae ?_; first | refine zaa rfl (zcf rfl rfl (by (repeat (first | exact mh | refine mt ?_)); done) rfl) ?_ | refine zaa rfl (zcg rfl rfl (by (repeat (first | exact mh | refine mt ?_)); done) rfl rfl) ?_ | refine zaa rfl (zch rfl rfl rfl rfl) ?_ | refine zaa rfl (zbu rfl rfl) ?_) | (refine zaf ?_; first | refine zaa rfl (zbv rfl rfl (by omega) (by omega)) ?_ | refine zaa rfl (zbw rfl rfl (by omega) (by omega)) ?_) | refine zaa rfl (zcd rfl) ?_ | refine zaa rfl (zce rfl) ?_ | refine zaa rfl (zbx rfl) ?_ | refine zaa rfl (zby rfl) ?_ | refine zaa rfl (zbz rfl rfl) ?_ | refine zaa rfl (zca rfl rfl) ?_ | refine zaa rfl (zcb rfl rfl) ?_ | refine zaa rfl (zcc rfl) ?_ | refine zah ?_ | (refine zcr ?_; first | refine zcs ?_ | refine zct ?_ | refine zcu ?_ | refine zcv ?_ | refine zcw ?_ | refine zcx ?_ | refine zcy rfl ?_ | refine zcz ?_ | refine zda ?_) | (refine zdb ?_; first | refine zdc ?_ | refine zdd ?_ | refine zde ?_ | refine zdf ?_ | refine zdg ?_ | refine zdh ?_ | refine zdi rfl ?_ | refine zdj rfl ?_) | refine zai rfl rfl ?_ | refine zaj rfl rfl rfl rfl ?_ | (refine zak rfl rfl rfl ?_; intro g) | (refine zal rfl rfl ?_; intro g) | (refine zag ?_; first | refine zam 0 rfl rfl rfl rfl rfl rfl ?_ | refine zam 1 rfl rfl rfl rfl rfl rfl ?_ | refine zam 2 rfl rfl rfl rfl rfl rfl ?_ | refine zam 3 rfl rfl rfl rfl rfl rfl ?_ | refine zam 4 rfl rfl rfl rfl rfl rfl ?_ | refine zam 5 rfl rfl rfl rfl rfl rfl ?_ | refine zan 0 rfl rfl rfl rfl rfl rfl rfl rfl rfl ?_ | refine zan 1 rfl rfl rfl rfl rfl rfl rfl rfl rfl ?_ | refine zan 2 rfl rfl rfl rfl rfl rfl rfl rfl rfl ?_ | refine zan 3 rfl rfl rfl rfl rfl rfl rfl rfl rfl ?_ | refine zan 4 rfl rfl rfl rfl rfl rfl rfl rfl rfl ?_ | refine zan 5 rfl rfl rfl rfl rfl rfl rfl rfl rfl ?_ | refine zao 0 rfl rfl rfl rfl rfl rfl ?_ | refine zao 1 rfl rfl rfl rfl rfl rfl ?_ | refine zao 2 rfl rfl rfl rfl rfl rfl ?_ | refine zao 3 rfl rfl rfl rfl rfl rfl ?_) | cases c
    all_goals generalize F.getD (k : Int).toNat default = L at *
    rotate_left
    · refine done_ret1B rfl () rfl rfl (hno fun h => ?_).symm trivial (List.nil_sublist _)
      have := h.len; have := of_decide_eq_true hc; omega
    · refine done_ret1B rfl () rfl rfl (hno fun h => ?_).symm trivial (List.nil_sublist _)
      have := h.len; have := of_decide_eq_true hc; omega
    rename_i hl3
    have hlen : 3 ≤ L.length ∧ L.length ≤ 8 := by
      have h1 := of_decide_eq_false hl3
      have h2 := of_decide_eq_false hc
      omega
    clear hl3 hc
    rename_i gN
    have hUi : UsedIs n U (usedTo F k (L.take 0)) := hU
    refine ws_loop (ι := Nat × List Bool) (fun y => [(1, .raw (.pointer (some ⟨gN, 0, none⟩))), (3, .raw (.int .i64 n)), (4, slv gU n), (38, slFc w0 F), (39, .raw (.int .i64 F.length)), (40, .raw (.int .i64 k)), (6, .raw (.pointer (some ⟨g, 0, none⟩))), (55, slI w0 L), (56, .raw (.int .i64 L.length)), (57, .raw (.int .i64 y.1))])
      (fun y => St w0 [] [⟨g, 95, [slI w0 L], 1⟩, entU gU n y.2, ⟨gN, 47, [slS w0 n s, slFc w0 F], 2⟩])
      (fun y => y.1 ≤ L.length ∧ (∀ c ∈ L.take y.1, 0 ≤ c ∧ c ≤ (n : Int) - 1) ∧ (L.take y.1).Nodup ∧ UsedIs n y.2 (usedTo F k (L.take y.1))) (fun y => L.length - y.1) (0, U) ⟨Nat.zero_le _, (fun c hc => by simp at hc), by simp, hUi⟩ ?_ (fun _ h => h) (fun y hy => ?_)
    · (repeat (first | exact Env.sub_nil _ | refine Env.sub_cons rfl ?_))
    obtain ⟨i, V⟩ := y
    simp only at hy ⊢
    obtain ⟨hi, hmem, hnd, hV⟩ := hy
    clear hUi hU
    repeat first | refine zaa rfl (zay rfl) ?_ | refine zaa rfl (zaz rfl) ?_ | (refine zac ?_; first | refine zaa rfl (zba rfl rfl rfl) ?_ | refine zaa rfl (zbb rfl rfl (by omega)) ?_ | refine zaa rfl (zbc rfl rfl (by omega)) ?_ | refine zaa rfl (zbd rfl rfl rfl) ?_ | refine zaa rfl (zbe rfl rfl) ?_ | refine zaa rfl (zbf rfl rfl) ?_ | refine zaa rfl (zbg rfl rfl) ?_ | refine zaa rfl (zbh rfl rfl) ?_ | refine zaa rfl (zbi rfl rfl) ?_ | refine zaa rfl (zbj rfl rfl) ?_ | refine zaa rfl (zbk rfl rfl) ?_ | refine zaa rfl (zbl rfl rfl) ?_) | (refine zad ?_; first | refine zaa rfl (zbm rfl) ?_ | refine zaa rfl (zbn rfl) ?_ | refine zaa rfl (zbp rfl) ?_ | refine zaa rfl (zbq rfl) ?_ | refine zaa rfl (zbr rfl rfl) ?_) | (refine zae ?_; first | refine zaa rfl (zcf rfl rfl (by (repeat (first | exact mh | refine mt ?_)); done) rfl) ?_ | refine zaa rfl (zcg rfl rfl (by (repeat (first | exact mh | refine mt ?_)); done) rfl rfl) ?_ | refine zaa rfl (zch rfl rfl rfl rfl) ?_ | refine zaa rfl (zbu rfl rfl) ?_) | (refine zaf ?_; first | refine zaa rfl (zbv rfl rfl (by omega) (by omega)) ?_ | refine zaa rfl (zbw rfl rfl (by omega) (by omega)) ?_) | refine zaa rfl (zcd rfl) ?_ | refine zaa rfl (zce rfl) ?_ | refine zaa rfl (zbx rfl) ?_ | refine zaa rfl (zby rfl) ?_ | refine zaa rfl (zbz rfl rfl) ?_ | refine zaa rfl (zca rfl rfl) ?_ | refine zaa rfl (zcb rfl rfl) ?_ | refine zaa rfl (zcc rfl) ?_ | refine zah ?_ | (refine zcr ?_; first | refine zcs ?_ | refine zct ?_ | refine zcu ?_ | refine zcv ?_ | refine zcw ?_ | refine zcx ?_ | refine zcy rfl ?_ | refine zcz ?_ | refine zda ?_) | (refine zdb ?_; first | refine zdc ?_ | refine zdd ?_ | refine zde ?_ | refine zdf ?_ | refine zdg ?_ | refine zdh ?_ | refine zdi rfl ?_ | refine zdj rfl ?_) | refine zai rfl rfl ?_ | refine zaj rfl rfl rfl rfl ?_ | (refine zak rfl rfl rfl ?_; intro g) | (refine zal rfl rfl ?_; intro g) | (refine zag ?_; first | refine zam 0 rfl rfl rfl rfl rfl rfl ?_ | refine zam 1 rfl rfl rfl rfl rfl rfl ?_ | refine zam 2 rfl rfl rfl rfl rfl rfl ?_ | refine zam 3 rfl rfl rfl rfl rfl rfl ?_ | refine zam 4 rfl rfl rfl rfl rfl rfl ?_ | refine zam 5 rfl rfl rfl rfl rfl rfl ?_ | refine zan 0 rfl rfl rfl rfl rfl rfl rfl rfl rfl ?_ | refine zan 1 rfl rfl rfl rfl rfl rfl rfl rfl rfl ?_ | refine zan 2 rfl rfl rfl rfl rfl rfl rfl rfl rfl ?_ | refine zan 3 rfl rfl rfl rfl rfl rfl rfl rfl rfl ?_ | refine zan 4 rfl rfl rfl rfl rfl rfl rfl rfl rfl ?_ | refine zan 5 rfl rfl rfl rfl rfl rfl rfl rfl rfl ?_ | refine zao 0 rfl rfl rfl rfl rfl rfl ?_ | refine zao 1 rfl rfl rfl rfl rfl rfl ?_ | refine zao 2 rfl rfl rfl rfl rfl rfl ?_ | refine zao 3 rfl rfl rfl rfl rfl rfl ?_)
    refine ws_cond rfl (fun hd => ?_) (fun hd => ?_)
    · have hil : (i : Int) < L.length := of_decide_eq_true hd
      have hgi : L.getD (i : Int).toNat default = L.getD i default := by rw [Int.toNat_natCast]
      have hin : L.getD i default ∈ L := by
        rw [List.getD_eq_getElem?_getD, List.getElem?_eq_getElem (show i < L.length by omega)]
        exact List.getElem_mem _
      have hct := containsI_fn (L.take (i : Int).toNat) (L.getD (i : Int).toNat default) (by simp; omega)
      rw [List.map_take] at hct
      have hti : (i : Int).toNat = i := Int.toNat_natCast i
      repeat' first | refine zaa rfl (zay rfl) ?_ | refine zaa rfl (zaz rfl) ?_ | (refine zac ?_; first | refine zaa rfl (zba rfl rfl rfl) ?_ | refine zaa rfl (zbb rfl rfl (by omega)) ?_ | refine zaa rfl (zbc rfl rfl (by omega)) ?_ | (refine zab rfl (zbd rfl rfl rfl) ?_; intro c hc) | (refine zab rfl (zbe rfl rfl) ?_; intro c hc) | (refine zab rfl (zbf rfl rfl) ?_; intro c hc) | (refine zab rfl (zbg rfl rfl) ?_; intro c hc) | (refine zab rfl (zbh rfl rfl) ?_; intro c hc) | (refine zab rfl (zbi rfl rfl) ?_; intro c hc) | (refine zab rfl (zbj rfl rfl) ?_; intro c hc) | (refine zab rfl (zbk rfl rfl) ?_; intro c hc) | (refine zab rfl (zbl rfl rfl) ?_; intro c hc)) | (refine zad ?_; first | refine zaa rfl (zbm rfl) ?_ | refine zaa rfl (zbn rfl) ?_ | refine zaa rfl (zbp rfl) ?_ | refine zaa rfl (zbq rfl) ?_ | refine zaa rfl (zbr rfl rfl) ?_ | (refine zab rfl (zci rfl rfl (within_fn (L.getD (i : Int).toNat default) 0 ((n : Int) - 1)) ?_) ?_; (focus ((repeat (first | exact Takes.nil | refine Takes.sl ?_ | refine Takes.fa ?_ | refine Takes.fc ?_ | refine Takes.net ?_ | (refine Takes.ownE ?_ ?_ ?_ ?_ ?_; (focus (exact ⟨_, _, (by (repeat (first | exact mh | refine mt ?_)); done)⟩)); (focus (simp; done)); (focus omega); (focus (simp only [maxLen]; omega))) | refine Takes.same ?_)); done)); intro c hc)) | (refine zae ?_; first | refine zaa rfl (zcf rfl rfl (by (repeat (first | exact mh | refine mt ?_)); done) rfl) ?_ | refine zaa rfl (zcg rfl rfl (by (repeat (first | exact mh | refine mt ?_)); done) rfl rfl) ?_ | refine zaa rfl (zch rfl rfl rfl rfl) ?_ | refine zaa rfl (zbu rfl rfl) ?_) | (refine zaf ?_; first | refine zaa rfl (zbv rfl rfl (by omega) (by omega)) ?_ | refine zaa rfl (zbw rfl rfl (by omega) (by omega)) ?_) | refine zaa rfl (zcd rfl) ?_ | refine zaa rfl (zce rfl) ?_ | refine zaa rfl (zbx rfl) ?_ | refine zaa rfl (zby rfl) ?_ | refine zaa rfl (zbz rfl rfl) ?_ | refine zaa rfl (zca rfl rfl) ?_ | refine zaa rfl (zcb rfl rfl) ?_ | refine zaa rfl (zcc rfl) ?_ | refine zah ?_ | (refine zcr ?_; first | refine zcs ?_ | refine zct ?_ | refine zcu ?_ | refine zcv ?_ | refine zcw ?_ | refine zcx ?_ | refine zcy rfl ?_ | refine zcz ?_ | refine zda ?_) | (refine zdb ?_; first | refine zdc ?_ | refine zdd ?_ | refine zde ?_ | refine zdf ?_ | refine zdg ?_ | refine zdh ?_ | refine zdi rfl ?_ | refine zdj rfl ?_) | refine zai rfl rfl ?_ | refine zaj rfl rfl rfl rfl ?_ | (refine zak rfl rfl rfl ?_; intro g) | (refine zal rfl rfl ?_; intro g) | (refine zag ?_; first | refine zam 0 rfl rfl rfl rfl rfl rfl ?_ | refine zam 1 rfl rfl rfl rfl rfl rfl ?_ | refine zam 2 rfl rfl rfl rfl rfl rfl ?_ | refine zam 3 rfl rfl rfl rfl rfl rfl ?_ | refine zam 4 rfl rfl rfl rfl rfl rfl ?_ | refine zam 5 rfl rfl rfl rfl rfl rfl ?_ | refine zan 0 rfl rfl rfl rfl rfl rfl rfl rfl rfl ?_ | refine zan 1 rfl rfl rfl rfl rfl rfl rfl rfl rfl ?_ | refine zan 2 rfl rfl rfl rfl rfl rfl rfl rfl rfl ?_ | refine zan 3 rfl rfl rfl rfl rfl rfl rfl rfl rfl ?_ | refine zan 4 rfl rfl rfl rfl rfl rfl rfl rfl rfl ?_ | refine zan 5 rfl rfl rfl rfl rfl rfl rfl rfl rfl ?_ | refine zao 0 rfl rfl rfl rfl rfl rfl ?_ | refine zao 1 rfl rfl rfl rfl rfl rfl ?_ | refine zao 2 rfl rfl rfl rfl rfl rfl ?_ | refine zao 3 rfl rfl rfl rfl rfl rfl ?_) | refine zaa rfl (opj_slice_h rfl rfl (by omega) (by simp; omega)) ?_ | (refine zab rfl (zci rfl rfl hct (Takes.sl (Takes.same Takes.nil))) ?_; intro c hc) | cases c
      · refine done_ret1B rfl () rfl rfl (hno fun h => ?_).symm trivial (List.nil_sublist _)
        have h1 := h.mem _ hin
        rw [hgi, inB_iff.2 h1] at hc
        cases hc
      · rename_i hw
        have hw' := inB_iff.1 hw
        have hc' := of_decide_eq_false hc
        repeat first | refine zaa rfl (zay rfl) ?_ | refine zaa rfl (zaz rfl) ?_ | (refine zac ?_; first | refine zaa rfl (zba rfl rfl rfl) ?_ | refine zaa rfl (zbb rfl rfl (by omega)) ?_ | refine zaa rfl (zbc rfl rfl (by omega)) ?_ | refine zaa rfl (zbd rfl rfl rfl) ?_ | refine zaa rfl (zbe rfl rfl) ?_ | refine zaa rfl (zbf rfl rfl) ?_ | refine zaa rfl (zbg rfl rfl) ?_ | refine zaa rfl (zbh rfl rfl) ?_ | refine zaa rfl (zbi rfl rfl) ?_ | refine zaa rfl (zbj rfl rfl) ?_ | refine zaa rfl (zbk rfl rfl) ?_ | refine zaa rfl (zbl rfl rfl) ?_) | (refine zad ?_; first | refine zaa rfl (zbm rfl) ?_ | refine zaa rfl (zbn rfl) ?_ | refine zaa rfl (zbp rfl) ?_ | refine zaa rfl (zbq rfl) ?_ | refine zaa rfl (zbr rfl rfl) ?_) | (refine zae ?_; first | refine zaa rfl (zcf rfl rfl (by (repeat (first | exact mh | refine mt ?_)); done) rfl) ?_ | refine zaa rfl (zcg rfl rfl (by (repeat (first | exact mh | refine mt ?_)); done) rfl rfl) ?_ | refine zaa rfl (zch rfl rfl rfl rfl) ?_ | refine zaa rfl (zbu rfl rfl) ?_) | (refine zaf ?_; first | refine zaa rfl (zbv rfl rfl (by omega) (by omega)) ?_ | refine zaa rfl (zbw rfl rfl (by omega) (by omega)) ?_) | refine zaa rfl (zcd rfl) ?_ | refine zaa rfl (zce rfl) ?_ | refine zaa rfl (zbx rfl) ?_ | refine zaa rfl (zby rfl) ?_ | refine zaa rfl (zbz rfl rfl) ?_ | refine zaa rfl (zca rfl rfl) ?_ | refine zaa rfl (zcb rfl rfl) ?_ | refine zaa rfl (zcc rfl) ?_ | refine zah ?_ | (refine zcr ?_; first | refine zcs ?_ | refine zct ?_ | refine zcu ?_ | refine zcv ?_ | refine zcw ?_ | refine zcx ?_ | refine zcy rfl ?_ | refine zcz ?_ | refine zda ?_) | (refine zdb ?_; first | refine zdc ?_ | refine zdd ?_ | refine zde ?_ | refine zdf ?_ | refine zdg ?_ | refine zdh ?_ | refine zdi rfl ?_ | refine zdj rfl ?_) | refine zai rfl rfl ?_ | refine zaj rfl rfl rfl rfl ?_ | (refine zak rfl rfl rfl ?_; intro g) | (refine zal rfl rfl ?_; intro g) | (refine zag ?_; first | refine zam 0 rfl rfl rfl rfl rfl rfl ?_ | refine zam 1 rfl rfl rfl rfl rfl rfl ?_ | refine zam 2 rfl rfl rfl rfl rfl rfl ?_ | refine zam 3 rfl rfl rfl rfl rfl rfl ?_ | refine zam 4 rfl rfl rfl rfl rfl rfl ?_ | refine zam 5 rfl rfl rfl rfl rfl rfl ?_ | refine zan 0 rfl rfl rfl rfl rfl rfl rfl rfl rfl ?_ | refine zan 1 rfl rfl rfl rfl rfl rfl rfl rfl rfl ?_ | refine zan 2 rfl rfl rfl rfl rfl rfl rfl rfl rfl ?_ | refine zan 3 rfl rfl rfl rfl rfl rfl rfl rfl rfl ?_ | refine zan 4 rfl rfl rfl rfl rfl rfl rfl rfl rfl ?_ | refine zan 5 rfl rfl rfl rfl rfl rfl rfl rfl rfl ?_ | refine zao 0 rfl rfl rfl rfl rfl rfl ?_ | refine zao 1 rfl rfl rfl rfl rfl rfl ?_ | refine zao 2 rfl rfl rfl rfl rfl rfl ?_ | refine zao 3 rfl rfl rfl rfl rfl rfl ?_)
        refine rs_storeB 1 rfl rfl rfl (by omega) ?_
        repeat first | refine zaa rfl (zay rfl) ?_ | refine zaa rfl (zaz rfl) ?_ | (refine zac ?_; first | refine zaa rfl (zba rfl rfl rfl) ?_ | refine zaa rfl (zbb rfl rfl (by omega)) ?_ | refine zaa rfl (zbc rfl rfl (by omega)) ?_ | refine zaa rfl (zbd rfl rfl rfl) ?_ | refine zaa rfl (zbe rfl rfl) ?_ | refine zaa rfl (zbf rfl rfl) ?_ | refine zaa rfl (zbg rfl rfl) ?_ | refine zaa rfl (zbh rfl rfl) ?_ | refine zaa rfl (zbi rfl rfl) ?_ | refine zaa rfl (zbj rfl rfl) ?_ | refine zaa rfl (zbk rfl rfl) ?_ | refine zaa rfl (zbl rfl rfl) ?_) | (refine zad ?_; first | refine zaa rfl (zbm rfl) ?_ | refine zaa rfl (zbn rfl) ?_ | refine zaa rfl (zbp rfl) ?_ | refine zaa rfl (zbq rfl) ?_ | refine zaa rfl (zbr rfl rfl) ?_) | (refine zae ?_; first | refine zaa rfl (zcf rfl rfl (by (repeat (first | exact mh | refine mt ?_)); done) rfl) ?_ | refine zaa rfl (zcg rfl rfl (by (repeat (first | exact mh | refine mt ?_)); done) rfl rfl) ?_ | refine zaa rfl (zch rfl rfl rfl rfl) ?_ | refine zaa rfl (zbu rfl rfl) ?_) | (refine zaf ?_; first | refine zaa rfl (zbv rfl rfl (by omega) (by omega)) ?_ | refine zaa rfl (zbw rfl rfl (by omega) (by omega)) ?_) | refine zaa rfl (zcd rfl) ?_ | refine zaa rfl (zce rfl) ?_ | refine zaa rfl (zbx rfl) ?_ | refine zaa rfl (zby rfl) ?_ | refine zaa rfl (zbz rfl rfl) ?_ | refine zaa rfl (zca rfl rfl) ?_ | refine zaa rfl (zcb rfl rfl) ?_ | refine zaa rfl (zcc rfl) ?_ | refine zah ?_ | (refine zcr ?_; first | refine zcs ?_ | refine zct ?_ | refine zcu ?_ | refine zcv ?_ | refine zcw ?_ | refine zcx ?_ | refine zcy rfl ?_ | refine zcz ?_ | refine zda ?_) | (refine zdb ?_; first | refine zdc ?_ | refine zdd ?_ | refine zde ?_ | refine zdf ?_ | refine zdg ?_ | refine zdh ?_ | refine zdi rfl ?_ | refine zdj rfl ?_) | refine zai rfl rfl ?_ | refine zaj rfl rfl rfl rfl ?_ | (refine zak rfl rfl rfl ?_; intro g) | (refine zal rfl rfl ?_; intro g) | (refine zag ?_; first | refine zam 0 rfl rfl rfl rfl rfl rfl ?_ | refine zam 1 rfl rfl rfl rfl rfl rfl ?_ | refine zam 2 rfl rfl rfl rfl rfl rfl ?_ | refine zam 3 rfl rfl rfl rfl rfl rfl ?_ | refine zam 4 rfl rfl rfl rfl rfl rfl ?_ | refine zam 5 rfl rfl rfl rfl rfl rfl ?_ | refine zan 0 rfl rfl rfl rfl rfl rfl rfl rfl rfl ?_ | refine zan 1 rfl rfl rfl rfl rfl rfl rfl rfl rfl ?_ | refine zan 2 rfl rfl rfl rfl rfl rfl rfl rfl rfl ?_ | refine zan 3 rfl rfl rfl rfl rfl rfl rfl rfl rfl ?_ | refine zan 4 rfl rfl rfl rfl rfl rfl rfl rfl rfl ?_ | refine zan 5 rfl rfl rfl rfl rfl rfl rfl rfl rfl ?_ | refine zao 0 rfl rfl rfl rfl rfl rfl ?_ | refine zao 1 rfl rfl rfl rfl rfl rfl ?_ | refine zao 2 rfl rfl rfl rfl rfl rfl ?_ | refine zao 3 rfl rfl rfl rfl rfl rfl ?_)
        rw [hti] at hc'
        refine done_round (i + 1, V.set ((L.getD (i : Int).toNat default).toNat * 1) true) ⟨by simp only; omega, fun d hd' => ?_, ?_, ?_⟩ (by simp only; omega) ?_ (fun _ h => h)
        · rcases (mem_take_succ (by omega)).1 hd' with h | h
          · exact hmem d h
          · rw [h, ← hgi]; exact hw'
        · rw [nodup_take_succ (by omega), ← hgi]
          exact ⟨hnd, hc'⟩
        · refine usedIs_set hV hw'.1 hw'.2 fun d => ?_
          unfold usedTo
          rw [mem_take_succ (by omega), hgi, or_assoc]
        · (repeat (first | exact Env.sub_nil _ | refine Env.sub_cons rfl ?_))
      · refine done_ret1B rfl () rfl rfl (hno fun h => ?_).symm trivial (List.nil_sublist _)
        have hc' := of_decide_eq_true hc
        have hnd' : (L.take (i + 1)).Nodup := h.nd.sublist (List.take_sublist _ _)
        rw [hti] at hc'
        exact ((nodup_take_succ (by omega)).1 hnd').2 hc'
    · have hge : ¬ (i : Int) < L.length := of_decide_eq_false hd
      obtain rfl : i = L.length := by omega
      rw [List.take_length] at hmem hnd hV
      have hok : FacOk n L := ⟨hlen, hmem, hnd⟩
      repeat first | refine zaa rfl (zay rfl) ?_ | refine zaa rfl (zaz rfl) ?_ | (refine zac ?_; first | refine zaa rfl (zba rfl rfl rfl) ?_ | refine zaa rfl (zbb rfl rfl (by omega)) ?_ | refine zaa rfl (zbc rfl rfl (by omega)) ?_ | refine zaa rfl (zbd rfl rfl rfl) ?_ | refine zaa rfl (zbe rfl rfl) ?_ | refine zaa rfl (zbf rfl rfl) ?_ | refine zaa rfl (zbg rfl rfl) ?_ | refine zaa rfl (zbh rfl rfl) ?_ | refine zaa rfl (zbi rfl rfl) ?_ | refine zaa rfl (zbj rfl rfl) ?_ | refine zaa rfl (zbk rfl rfl) ?_ | refine zaa rfl (zbl rfl rfl) ?_) | (refine zad ?_; first | refine zaa rfl (zbm rfl) ?_ | refine zaa rfl (zbn rfl) ?_ | refine zaa rfl (zbp rfl) ?_ | refine zaa rfl (zbq rfl) ?_ | refine zaa rfl (zbr rfl rfl) ?_) | (refine zae ?_; first | refine zaa rfl (zcf rfl rfl (by (repeat (first | exact mh | refine mt ?_)); done) rfl) ?_ | refine zaa rfl (zcg rfl rfl (by (repeat (first | exact mh | refine mt ?_)); done) rfl rfl) ?_ | refine zaa rfl (zch rfl rfl rfl rfl) ?_ | refine zaa rfl (zbu rfl rfl) ?_) | (refine zaf ?_; first | refine zaa rfl (zbv rfl rfl (by omega) (by omega)) ?_ | refine zaa rfl (zbw rfl rfl (by omega) (by omega)) ?_) | refine zaa rfl (zcd rfl) ?_ | refine zaa rfl (zce rfl) ?_ | refine zaa rfl (zbx rfl) ?_ | refine zaa rfl (zby rfl) ?_ | refine zaa rfl (zbz rfl rfl) ?_ | refine zaa rfl (zca rfl rfl) ?_ | refine zaa rfl (zcb rfl rfl) ?_ | refine zaa rfl (zcc rfl) ?_ | refine zah ?_ | (refine zcr ?_; first | refine zcs ?_ | refine zct ?_ | refine zcu ?_ | refine zcv ?_ | refine zcw ?_ | refine zcx ?_ | refine zcy rfl ?_ | refine zcz ?_ | refine zda ?_) | (refine zdb ?_; first | refine zdc ?_ | refine zdd ?_ | refine zde ?_ | refine zdf ?_ | refine zdg ?_ | refine zdh ?_ | refine zdi rfl ?_ | refine zdj rfl ?_) | refine zai rfl rfl ?_ | refine zaj rfl rfl rfl rfl ?_ | (refine zak rfl rfl rfl ?_; intro g) | (refine zal rfl rfl ?_; intro g) | (refine zag ?_; first | refine zam 0 rfl rfl rfl rfl rfl rfl ?_ | refine zam 1 rfl rfl rfl rfl rfl rfl ?_ | refine zam 2 rfl rfl rfl rfl rfl rfl ?_ | refine zam 3 rfl rfl rfl rfl rfl rfl ?_ | refine zam 4 rfl rfl rfl rfl rfl rfl ?_ | refine zam 5 rfl rfl rfl rfl rfl rfl ?_ | refine zan 0 rfl rfl rfl rfl rfl rfl rfl rfl rfl ?_ | refine zan 1 rfl rfl rfl rfl rfl rfl rfl rfl rfl ?_ | refine zan 2 rfl rfl rfl rfl rfl rfl rfl rfl rfl ?_ | refine zan 3 rfl rfl rfl rfl rfl rfl rfl rfl rfl ?_ | refine zan 4 rfl rfl rfl rfl rfl rfl rfl rfl rfl ?_ | refine zan 5 rfl rfl rfl rfl rfl rfl rfl rfl rfl ?_ | refine zao 0 rfl rfl rfl rfl rfl rfl ?_ | refine zao 1 rfl rfl rfl rfl rfl rfl ?_ | refine zao 2 rfl rfl rfl rfl rfl rfl ?_ | refine zao 3 rfl rfl rfl rfl rfl rfl ?_)
      refine done_round (k + 1, V) ⟨by simp only; omega, hstep hok, usedIs_congr hV hus⟩ (by simp only; omega) ?_ (fun _ h => h.weak (List.Sublist.cons _ (List.Sublist.refl _)))
      (repeat (first | exact Env.sub_nil _ | refine Env.sub_cons rfl ?_))
  have hge : ¬ (k : Int) < F.length := of_decide_eq_false hc
  obtain rfl : k = F.length := by omega
  clear hc hge hk hU0
  repeat first | refine zaa rfl (zay rfl) ?_ | refine zaa rfl (zaz rfl) ?_ | (refine zac ?_; first | refine zaa rfl (zba rfl rfl rfl) ?_ | refine zaa rfl (zbb rfl rfl (by omega)) ?_ | refine zaa rfl (zbc rfl rfl (by omega)) ?_ | refine zaa rfl (zbd rfl rfl rfl) ?_ | refine zaa rfl (zbe rfl rfl) ?_ | refine zaa rfl (zbf rfl rfl) ?_ | refine zaa rfl (zbg rfl rfl) ?_ | refine zaa rfl (zbh rfl rfl) ?_ | refine zaa rfl (zbi rfl rfl) ?_ | refine zaa rfl (zbj rfl rfl) ?_ | refine zaa rfl (zbk rfl rfl) ?_ | refine zaa rfl (zbl rfl rfl) ?_) | (refine zad ?_; first | refine zaa rfl (zbm rfl) ?_ | refine zaa rfl (zbn rfl) ?_ | refine zaa rfl (zbp rfl) ?_ | refine zaa rfl (zbq rfl) ?_ | refine zaa rfl (zbr rfl rfl) ?_) | (refine zae ?_; first | refine zaa rfl (zcf rfl rfl (by (repeat (first | exact mh | refine mt ?_)); done) rfl) ?_ | refine zaa rfl (zcg rfl rfl (by (repeat (first | exact mh | refine mt ?_)); done) rfl rfl) ?_ | refine zaa rfl (zch rfl rfl rfl rfl) ?_ | refine zaa rfl (zbu rfl rfl) ?_) | (refine zaf ?_; first | refine zaa rfl (zbv rfl rfl (by omega) (by omega)) ?_ | refine zaa rfl (zbw rfl rfl (by omega) (by omega)) ?_) | refine zaa rfl (zcd rfl) ?_ | refine zaa rfl (zce rfl) ?_ | refine zaa rfl (zbx rfl) ?_ | refine zaa rfl (zby rfl) ?_ | refine zaa rfl (zbz rfl rfl) ?_ | refine zaa rfl (zca rfl rfl) ?_ | refine zaa rfl (zcb rfl rfl) ?_ | refine zaa rfl (zcc rfl) ?_ | refine zah ?_ | (refine zcr ?_; first | refine zcs ?_ | refine zct ?_ | refine zcu ?_ | refine zcv ?_ | refine zcw ?_ | refine zcx ?_ | refine zcy rfl ?_ | refine zcz ?_ | refine zda ?_) | (refine zdb ?_; first | refine zdc ?_ | refine zdd ?_ | refine zde ?_ | refine zdf ?_ | refine zdg ?_ | refine zdh ?_ | refine zdi rfl ?_ | refine zdj rfl ?_) | refine zai rfl rfl ?_ | refine zaj rfl rfl rfl rfl ?_ | (refine zak rfl rfl rfl ?_; intro g) | (refine zal rfl rfl ?_; intro g) | (refine zag ?_; first | refine zam 0 rfl rfl rfl rfl rfl rfl ?_ | refine zam 1 rfl rfl rfl rfl rfl rfl ?_ | refine zam 2 rfl rfl rfl rfl rfl rfl ?_ | refine zam 3 rfl rfl rfl rfl rfl rfl ?_ | refine zam 4 rfl rfl rfl rfl rfl rfl ?_ | refine zam 5 rfl rfl rfl rfl rfl rfl ?_ | refine zan 0 rfl rfl rfl rfl rfl rfl rfl rfl rfl ?_ | refine zan 1 rfl rfl rfl rfl rfl rfl rfl rfl rfl ?_ | refine zan 2 rfl rfl rfl rfl rfl rfl rfl rfl rfl ?_ | refine zan 3 rfl rfl rfl rfl rfl rfl rfl rfl rfl ?_ | refine zan 4 rfl rfl rfl rfl rfl rfl rfl rfl rfl ?_ | refine zan 5 rfl rfl rfl rfl rfl rfl rfl rfl rfl ?_ | refine zao 0 rfl rfl rfl rfl rfl rfl ?_ | refine zao 1 rfl rfl rfl rfl rfl rfl ?_ | refine zao 2 rfl rfl rfl rfl rfl rfl ?_ | refine zao 3 rfl rfl rfl rfl rfl rfl ?_) | (refine rs_makeMap rfl ?_; intro gM hgM)
  rename_i gN gS
  have hsd : FnW Try.prog 114 [netA w0 n s F, .raw (.func (.func 115) #[] [Value.pointer (some ⟨g, 0, none⟩), Value.pointer (some ⟨gS, 0, none⟩)].toArray)]
      (StR (MapAt gM fun _ _ => none) w0 [] [⟨g, 4, [boolA true], 1⟩, entSeen gS gM, entU gU n U, ⟨gN, 47, [slS w0 n s, slFc w0 F], 2⟩])
      (StR (MapAt gM (seenF (sidesF F))) w0 [] [entOnce g (sidesF F), entSeen gS gM, entU gU n U, ⟨gN, 47, [slS w0 n s, slFc w0 F], 2⟩]) (.tup []) := by
    have h := sides_fn w0 n s F hF0 hF 115 [Value.pointer (some ⟨g, 0, none⟩), Value.pointer (some ⟨gS, 0, none⟩)] (fun l => MapAt gM (seenF l)) (fun l => [entOnce g l, entSeen gS gM])
      [entU gU n U, ⟨gN, 47, [slS w0 n s, slFc w0 F], 2⟩] (fun l x K ⟨r, hr⟩ => by
        have hb := side_bounds hfac (x := x) (by rw [hr]; simp)
        exact validSide_fn w0 gM g gS hgM l x K ⟨by omega, by omega⟩ ⟨by omega, by omega⟩)
    simp only [seenF_nil, onceB_nil] at h
    exact h
  have hct := containsB_fn U false (by rw [hU.1]; exact hn)
  have hval := fun h => valid_used (s := s) (F := F) hn3 hfin hF1 hfac h hU
  have hval' : onceB (sidesF F) = false → validB n s F = false := fun h => validB_false fun hv => by rw [hv.once] at h; cases h
  repeat first | refine zaa rfl (zay rfl) ?_ | refine zaa rfl (zaz rfl) ?_ | (refine zac ?_; first | refine zaa rfl (zba rfl rfl rfl) ?_ | refine zaa rfl (zbb rfl rfl (by omega)) ?_ | refine zaa rfl (zbc rfl rfl (by omega)) ?_ | refine zaa rfl (zbd rfl rfl rfl) ?_ | refine zaa rfl (zbe rfl rfl) ?_ | refine zaa rfl (zbf rfl rfl) ?_ | refine zaa rfl (zbg rfl rfl) ?_ | refine zaa rfl (zbh rfl rfl) ?_ | refine zaa rfl (zbi rfl rfl) ?_ | refine zaa rfl (zbj rfl rfl) ?_ | refine zaa rfl (zbk rfl rfl) ?_ | refine zaa rfl (zbl rfl rfl) ?_) | (refine zad ?_; first | refine zaa rfl (zbm rfl) ?_ | refine zaa rfl (zbn rfl) ?_ | refine zaa rfl (zbp rfl) ?_ | refine zaa rfl (zbq rfl) ?_ | refine zaa rfl (zbr rfl rfl) ?_) | (refine zae ?_; first | refine zaa rfl (zcf rfl rfl (by (repeat (first | exact mh | refine mt ?_)); done) rfl) ?_ | refine zaa rfl (zcg rfl rfl (by (repeat (first | exact mh | refine mt ?_)); done) rfl rfl) ?_ | refine zaa rfl (zch rfl rfl rfl rfl) ?_ | refine zaa rfl (zbu rfl rfl) ?_) | (refine zaf ?_; first | refine zaa rfl (zbv rfl rfl (by omega) (by omega)) ?_ | refine zaa rfl (zbw rfl rfl (by omega) (by omega)) ?_) | refine zaa rfl (zcd rfl) ?_ | refine zaa rfl (zce rfl) ?_ | refine zaa rfl (zbx rfl) ?_ | refine zaa rfl (zby rfl) ?_ | refine zaa rfl (zbz rfl rfl) ?_ | refine zaa rfl (zca rfl rfl) ?_ | refine zaa rfl (zcb rfl rfl) ?_ | refine zaa rfl (zcc rfl) ?_ | refine zah ?_ | (refine zcr ?_; first | refine zcs ?_ | refine zct ?_ | refine zcu ?_ | refine zcv ?_ | refine zcw ?_ | refine zcx ?_ | refine zcy rfl ?_ | refine zcz ?_ | refine zda ?_) | (refine zdb ?_; first | refine zdc ?_ | refine zdd ?_ | refine zde ?_ | refine zdf ?_ | refine zdg ?_ | refine zdh ?_ | refine zdi rfl ?_ | refine zdj rfl ?_) | refine zai rfl rfl ?_ | refine zaj rfl rfl rfl rfl ?_ | (refine zak rfl rfl rfl ?_; intro g) | (refine zal rfl rfl ?_; intro g) | (refine zag ?_; first | refine zam 0 rfl rfl rfl rfl rfl rfl ?_ | refine zam 1 rfl rfl rfl rfl rfl rfl ?_ | refine zam 2 rfl rfl rfl rfl rfl rfl ?_ | refine zam 3 rfl rfl rfl rfl rfl rfl ?_ | refine zam 4 rfl rfl rfl rfl rfl rfl ?_ | refine zam 5 rfl rfl rfl rfl rfl rfl ?_ | refine zan 0 rfl rfl rfl rfl rfl rfl rfl rfl rfl ?_ | refine zan 1 rfl rfl rfl rfl rfl rfl rfl rfl rfl ?_ | refine zan 2 rfl rfl rfl rfl rfl rfl rfl rfl rfl ?_ | refine zan 3 rfl rfl rfl rfl rfl rfl rfl rfl rfl ?_ | refine zan 4 rfl rfl rfl rfl rfl rfl rfl rfl rfl ?_ | refine zan 5 rfl rfl rfl rfl rfl rfl rfl rfl rfl ?_ | refine zao 0 rfl rfl rfl rfl rfl rfl ?_ | refine zao 1 rfl rfl rfl rfl rfl rfl ?_ | refine zao 2 rfl rfl rfl rfl rfl rfl ?_ | refine zao 3 rfl rfl rfl rfl rfl rfl ?_) | refine zaa rfl (opj_makeFunc2 rfl rfl) ?_ | refine rs_callW hsd rfl rfl (Takes.same (Takes.same Takes.nil)) rfl ?_
  unfold entOnce
  generalize onceB (sidesF F) = q at *
  cases q
  all_goals
    repeat first | refine zaa rfl (zay rfl) ?_ | refine zaa rfl (zaz rfl) ?_ | (refine zac ?_; first | refine zaa rfl (zba rfl rfl rfl) ?_ | refine zaa rfl (zbb rfl rfl (by omega)) ?_ | refine zaa rfl (zbc rfl rfl (by omega)) ?_ | refine zaa rfl (zbd rfl rfl rfl) ?_ | refine zaa rfl (zbe rfl rfl) ?_ | refine zaa rfl (zbf rfl rfl) ?_ | refine zaa rfl (zbg rfl rfl) ?_ | refine zaa rfl (zbh rfl rfl) ?_ | refine zaa rfl (zbi rfl rfl) ?_ | refine zaa rfl (zbj rfl rfl) ?_ | refine zaa rfl (zbk rfl rfl) ?_ | refine zaa rfl (zbl rfl rfl) ?_) | (refine zad ?_; first | refine zaa rfl (zbm rfl) ?_ | refine zaa rfl (zbn rfl) ?_ | refine zaa rfl (zbp rfl) ?_ | refine zaa rfl (zbq rfl) ?_ | refine zaa rfl (zbr rfl rfl) ?_) | (refine zae ?_; first | refine zaa rfl (zcf rfl rfl (by (repeat (first | exact mh | refine mt ?_)); done) rfl) ?_ | refine zaa rfl (zcg rfl rfl (by (repeat (first | exact mh | refine mt ?_)); done) rfl rfl) ?_ | refine zaa rfl (zch rfl rfl rfl rfl) ?_ | refine zaa rfl (zbu rfl rfl) ?_) | (refine zaf ?_; first | refine zaa rfl (zbv rfl rfl (by omega) (by omega)) ?_ | refine zaa rfl (zbw rfl rfl (by omega) (by omega)) ?_) | refine zaa rfl (zcd rfl) ?_ | refine zaa rfl (zce rfl) ?_ | refine zaa rfl (zbx rfl) ?_ | refine zaa rfl (zby rfl) ?_ | refine zaa rfl (zbz rfl rfl) ?_ | refine zaa rfl (zca rfl rfl) ?_ | refine zaa rfl (zcb rfl rfl) ?_ | refine zaa rfl (zcc rfl) ?_ | refine zah ?_ | (refine zcr ?_; first | refine zcs ?_ | refine zct ?_ | refine zcu ?_ | refine zcv ?_ | refine zcw ?_ | refine zcx ?_ | refine zcy rfl ?_ | refine zcz ?_ | refine zda ?_) | (refine zdb ?_; first | refine zdc ?_ | refine zdd ?_ | refine zde ?_ | refine zdf ?_ | refine zdg ?_ | refine zdh ?_ | refine zdi rfl ?_ | refine zdj rfl ?_) | refine zai rfl rfl ?_ | refine zaj rfl rfl rfl rfl ?_ | (refine zak rfl rfl rfl ?_; intro g) | (refine zal rfl rfl ?_; intro g) | (refine zag ?_; first | refine zam 0 rfl rfl rfl rfl rfl rfl ?_ | refine zam 1 rfl rfl rfl rfl rfl rfl ?_ | refine zam 2 rfl rfl rfl rfl rfl rfl ?_ | refine zam 3 rfl rfl rfl rfl rfl rfl ?_ | refine zam 4 rfl rfl rfl rfl rfl rfl ?_ | refine zam 5 rfl rfl rfl rfl rfl rfl ?_ | refine zan 0 rfl rfl rfl rfl rfl rfl rfl rfl rfl ?_ | refine zan 1 rfl rfl rfl rfl rfl rfl rfl rfl rfl ?_ | refine zan 2 rfl rfl rfl rfl rfl rfl rfl rfl rfl ?_ | refine zan 3 rfl rfl rfl rfl rfl rfl rfl rfl rfl ?_ | refine zan 4 rfl rfl rfl rfl rfl rfl rfl rfl rfl ?_ | refine zan 5 rfl rfl rfl rfl rfl rfl rfl rfl rfl ?_ | refine zao 0 rfl rfl rfl rfl rfl rfl ?_ | refine zao 1 rfl rfl rfl rfl rfl rfl ?_ | refine zao 2 rfl rfl rfl rfl rfl rfl ?_ | refine zao 3 rfl rfl rfl rfl rfl rfl ?_) | refine zaa rfl (zci rfl rfl hct (Takes.ownE ⟨_, _, (by (repeat (first | exact mh | refine mt ?_)); done)⟩ (by simp; exact hU.1) (Nat.le_refl _) (by simp only [maxLen]; omega) (Takes.same Takes.nil))) ?_
  · exact done_ret1B rfl () rfl rfl (hval' rfl).symm trivial (List.nil_sublist _)
  · exact done_ret1B rfl () rfl rfl (hval rfl).symm trivial (List.nil_sublist _)
end Go.Ab
