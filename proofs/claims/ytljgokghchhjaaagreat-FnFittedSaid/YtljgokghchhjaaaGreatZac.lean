/- Part 3 of the texts on which the law leans, joined: The length of a complex number, as it is computed. No conditions. -/
import Derived.KernelRfl
import Derived.Test.YtljgokghchhjaaaGreatZab
namespace Go.Ab
def drawOk1 (ops : Array Oper) (n : Nat) : Bool :=
  (match ops[n]? with
    | some o => o.dst.isNone && o.guard.isNone && (looks ops o).all (fun t => (List.range n).all fun j => gslot ops j != some t || ((Region.before ops).getD n 0).testBit j)
    | none => false) &&
  (List.range n).all (fun i => match ops[i]? with
    | some o => o.dst.isSome && (List.range n).all (fun j => j == i || gslot ops j != o.dst) &&
        (looks ops o).all (fun t => (List.range n).all fun j => gslot ops j != some t || (decide (j < i) && (directs o).contains j))
    | none => false) &&
  (List.range ops.size).all (fun k => decide (k < n + 1) || (List.range k).all fun i => ((Region.before ops).getD k 0).testBit i) &&
  (List.range ops.size).all (fun k => match ops[k]? with
    | some o => (directs o).all fun j => decide (j < k)
    | none => false)
/-- What a late operation looks at is told without a world. -/
def stillAt (e : Env) (t : Nat) : Bool := match e.look t with
  | some v => v.still
  | none => true
def lateStill (ops : Array Oper) (n : Nat) (e : Env) : Bool :=
  (List.range n).all fun i => ((Region.before ops).getD n 0).testBit i || (match ops[i]? with
    | some o => (looks ops o).all (stillAt e)
    | none => true)
def kp (v : AV) : AV := v.keep
theorem kp_still {v : AV} (h : v.still = true) : kp v = v := AV.keep_still h
theorem rel_kp {w : World} {v : AV} {u : Value} (h : Rel w v u) : Rel w (kp v) u := by
  unfold kp
  cases hs : v.still with
  | true => rw [AV.keep_still hs]; exact h
  | false => rw [AV.keep_not hs]; exact .q trivial
theorem rel_kp_any {w w' : World} {v : AV} {u : Value} (h : Rel w v u) : Rel w' (kp v) u := by
  unfold kp
  cases hs : v.still with
  | true => rw [AV.keep_still hs]; exact h.any hs
  | false => rw [AV.keep_not hs]; exact .q trivial
theorem look_keep_kp : ∀ (e : Env) (t : Nat), e.keep.look t = (e.look t).map kp
  | [], _ => rfl
  | (d, v) :: r, t => by
    simp only [Env.keep, Env.look]
    cases Nat.beq d t with
    | true => rfl
    | false => exact look_keep_kp r t

section
variable {P : Program} {N : Nat} {S S0 S1 W : World → Prop} {e : Env} {Q : Exit → Env → World → Prop} {ops : Array Oper} {l : List Oper} {o : Oper}
/-- What holds while the operations of a region come. -/
structure DI (N : Nat) (ops : Array Oper) (ps : List (Nat × AV)) (e : Env) (S : World → Prop) (κ : AV → AV) (L : Array Bool) (a : Act) (w : World) : Prop where
  hL : L.size = ops.size
  hd : Down ops L
  hS : S w
  df : a.defers = []
  sz : a.tmps.size = N
  vals : ∀ i p, ps[i]? = some p → Listed L i → ∃ u, a.tmps[p.1]? = some u ∧ Rel w (κ p.2) u
  base : ∀ t v, t ∉ ps.map (·.1) → e.look t = some v → ∃ u, a.tmps[t]? = some u ∧ Rel w (κ v) u

theorem DI.pure_step {ps : List (Nat × AV)} {n : Nat} [Cl S] [Cl W] {κ : AV → AV} {Q' : Exit → Act → World → Prop} {K : Act → World → Prop} (hlen : ps.length = n) (hnops : n ≤ ops.size)
    (hκ : ∀ w v u, Rel w v u → Rel w (κ v) u) (hSW : ∀ w, S w → W w)
    (hop : ∀ i, i < n → ∃ o p, ops[i]? = some o ∧ ps[i]? = some p ∧ o.dst = some p.1 ∧ p.1 < N ∧ OpG P W ops (after1 (ps.take i) e) o p.2)
    (hslot : ∀ i p, ps[i]? = some p → gslot ops i = some p.1)
    (hfirst : ∀ i o, i < n → ops[i]? = some o → (∃ d, o.dst = some d) ∧ (∀ j, j < n → j ≠ i → gslot ops j ≠ o.dst) ∧ ∀ t ∈ looks ops o, ∀ j, j < n → gslot ops j = some t → j < i ∧ j ∈ directs o)
    {L : Array Bool} {a : Act} {w : World} (hI : DI N ops ps e S κ L a w) {i : Nat} (hi : i ∈ Region.ready .any ops L) (hin : i < n)
    (hk : ∀ o, ops[i]? = some o → ∀ t ∈ looks ops o, ∀ v, (after1 (ps.take i) e).look t = some v → κ v = v)
    (hK : ∀ a' w', DI N ops ps e S κ (L.setIfInBounds i true) a' w' → K a' w') : wpOp P ops Q' i K a w := by
  obtain ⟨hL, hd, hSw, hdf, hsz, hps, hbase⟩ := hI
  obtain ⟨h1, h2, h3⟩ := (ready_iff hL i).1 hi
  obtain ⟨o, p, ho, hp, hdst, hpN, hG⟩ := hop i hin
  obtain ⟨_, huniq, hlook⟩ := hfirst i o hin ho
  have hlk : ∀ t, t ∈ looks ops o → ∀ v, (after1 (ps.take i) e).look t = some v → ∃ u, a.tmps[t]? = some u ∧ Rel w v u := fun t ht v hv => by
    have hkv := hk o ho t ht v hv
    unfold after1 at hv
    rw [look_append] at hv
    cases hl : Env.look (ps.take i).reverse t with
    | some x =>
      simp only [hl, Option.some.injEq] at hv; subst hv
      obtain ⟨j, hj⟩ := List.mem_iff_getElem?.1 (List.mem_reverse.1 (look_mem _ _ _ hl))
      rw [List.getElem?_take] at hj
      split at hj
      · rename_i hji
        obtain ⟨_, hjd⟩ := hlook t ht j (by omega) (hslot j _ hj)
        obtain ⟨u, hu, hr⟩ := hps j _ hj (h3 o ho j hjd)
        exact ⟨u, hu, by simp only [hkv] at hr; exact hr⟩
      · cases hj
    | none =>
      simp only [hl] at hv
      obtain ⟨u, hu, hr⟩ := hbase t v (fun hm' => by
        obtain ⟨q, hq, hqt⟩ := List.mem_map.1 hm'
        obtain ⟨j, hj⟩ := List.mem_iff_getElem?.1 hq
        have hjn : j < n := by rw [← hlen]; exact (List.getElem?_eq_some_iff.1 hj).1
        have hjt : gslot ops j = some t := by rw [hslot j q hj, ← hqt]
        obtain ⟨hji, _⟩ := hlook t ht j hjn hjt
        have hnone := (look_none_iff _ _).1 hl
        apply hnone
        rw [List.map_reverse, List.mem_reverse]
        exact List.mem_map.2 ⟨q, List.mem_iff_getElem?.2 ⟨j, by rw [List.getElem?_take, if_pos hji]; exact hj⟩, hqt⟩) hv
      exact ⟨u, hu, by rw [hkv] at hr; exact hr⟩
  have hoper : ∀ x ∈ o.op.operands.toList, ∀ y, (after1 (ps.take i) e).ev x = some y → Rel w y (a.eval x) := fun x hx y hy => by
    cases x with
    | tmp t =>
      obtain ⟨u, hu, hr⟩ := hlk t (List.mem_append_left _ (List.mem_filterMap.2 ⟨_, hx, rfl⟩)) y hy
      have : a.eval (.tmp t) = u := by simp [Act.eval, hu]
      rw [this]; exact hr
    | const c =>
      simp only [Env.ev] at hy
      split at hy
      · rename_i hc; cases hy; exact rel_cv w c hc
      · cases hy
    | global g => cases hy; exact .raw
    | func f => cases hy; exact .raw
  have next : ∀ u w', Ext w w' → Rel w' p.2 u → K (a.put o.dst u) w' := fun u w' hw hr => by
    have hiL : i < L.size := by omega
    refine hK _ _ ⟨by simpa using hL, fun k x hx hk j hj => ?_, Cl.ext hSw hw, by simp [hdst, Act.put, hdf], by simp [hdst, Act.put, hsz], fun j q hq hj => ?_, fun t v ht hv => ?_⟩
    · rw [listed_set hiL]
      rcases (listed_set hiL).1 hk with rfl | hk
      · exact .inr (h3 x hx j hj)
      · exact .inr (hd k x hx hk j hj)
    · by_cases hji : j = i
      · subst hji
        rw [hp] at hq; cases hq
        exact ⟨u, by simp [hdst, Act.put, hsz, hpN], hκ _ _ _ hr⟩
      · have hjn : j < n := by rw [← hlen]; exact (List.getElem?_eq_some_iff.1 hq).1
        have hne : p.1 ≠ q.1 := fun he => huniq j hjn hji (by rw [hslot j q hq, hdst, he])
        obtain ⟨y, hy, hry⟩ := hps j q hq (((listed_set hiL).1 hj).resolve_left hji)
        exact ⟨y, by simp [hdst, Act.put, Array.getElem?_setIfInBounds_ne hne, hy], hry.ext hw⟩
    · have hne : p.1 ≠ t := fun he => ht (List.mem_map.2 ⟨p, List.mem_of_getElem? hp, he⟩)
      obtain ⟨y, hy, hry⟩ := hbase t v ht hv
      exact ⟨y, by simp [hdst, Act.put, Array.getElem?_setIfInBounds_ne hne, hy], hry.ext hw⟩
  unfold wpOp
  simp only [ho]
  have hWw := hSW w hSw
  unfold OpG at hG
  cases hgd : o.guard with
  | none =>
    simp only [hgd] at hG
    rw [if_pos (by simp [Region.wanted, hgd])]
    exact .inl (hG a w _ _ hWw hoper next)
  | some jb =>
    obtain ⟨j, b⟩ := jb
    simp only [hgd] at hG
    obtain ⟨y, c, hy, hc, hcase⟩ := hG
    obtain ⟨u, hu, hru⟩ := hlk y (List.mem_append_right _ (by simp [hgd, hy])) _ hc
    have hub := hru.inv_raw
    subst hub
    have hyield : yielded ops a.tmps j = some c := by
      unfold yielded
      rw [show ((ops[j]?).bind (·.dst)) = some y from hy]
      simp [hu]
    rcases hcase with ⟨rfl, hJ⟩ | ⟨hne, hv⟩
    · rw [if_pos (by simp [Region.wanted, hgd, hyield])]
      exact .inl (hJ a w _ _ hWw hoper next)
    · rw [if_neg (by simpa [Region.wanted, hgd, hyield] using hne)]
      exact next undef w (Ext.refl _) (by rw [hv]; exact .raw)

/-- The least that is not listed is ready. -/
theorem ready_ne {L : Array Bool} (hL : L.size = ops.size) (hback : ∀ k o, ops[k]? = some o → ∀ j ∈ directs o, j < k) {i : Nat} (hi : i < ops.size) (hn : ¬ Listed L i) : Region.ready .any ops L ≠ [] := by
  have hmin : ∀ m, (∃ i, i < m ∧ i < ops.size ∧ ¬ Listed L i) → ∃ i, i < ops.size ∧ ¬ Listed L i ∧ ∀ j, j < i → Listed L j := by
    intro m
    induction m with
    | zero => rintro ⟨i, hi, _⟩; omega
    | succ m ihm =>
      rintro ⟨i, hi, hin, hil⟩
      by_cases h' : ∃ i, i < m ∧ i < ops.size ∧ ¬ Listed L i
      · exact ihm h'
      · refine ⟨i, hin, hil, fun j hj => ?_⟩
        false_or_by_contra
        rename_i hjl
        exact h' ⟨j, by omega, by omega, hjl⟩
  obtain ⟨i, hin, hil, hjs⟩ := hmin (i + 1) ⟨i, by omega, hi, hn⟩
  have : i ∈ Region.ready .any ops L := (ready_iff hL i).2 ⟨hin, hil, fun o ho j hj => hjs j (hback i o ho j hj)⟩
  intro hnil
  rw [hnil] at this
  simp at this

theorem unL_tail {L : Array Bool} {n fuel : Nat} (hL : L.size = ops.size) (hno : ∀ k, n ≤ k → ¬ Listed L k) (hu : unL L ≤ fuel) : ops.size ≤ n + fuel := by
  have : ops.size - n ≤ unL L := by
    unfold unL
    have h1 : (L.toList.drop n).count false = ops.size - n := by
      have hall2 : ∀ x ∈ L.toList.drop n, x = false := fun x hx => by
        obtain ⟨j, hj⟩ := List.mem_iff_getElem?.1 hx
        rw [List.getElem?_drop] at hj
        have hnl := hno (n + j) (by omega)
        unfold Listed at hnl
        rw [Array.getD_eq_getD_getElem?] at hnl
        have hj' : L[n + j]? = some x := by simpa using hj
        rw [hj'] at hnl
        cases x <;> simp_all
      rw [List.count_eq_length.2 (fun b hb => (hall2 b hb).symm)]
      simp [hL]
    rw [← h1]
    exact (List.drop_sublist n L.toList).count_le false
  omega

def RA (P : Program) (N : Nat) (ops : Array Oper) (L : Array Bool) (fuel : Nat) (e : Env) (S : World → Prop) (Q : Exit → Env → World → Prop) : Prop :=
  ∀ a w, S w → Fr N e a w → wpAny P .any ops (fun x a' w' => ∃ e', Fr N e' a' w' ∧ Q x e' w') fuel L a w
def RO (P : Program) (N : Nat) (ops : Array Oper) (i : Nat) (L : Array Bool) (fuel : Nat) (e : Env) (S : World → Prop) (Q : Exit → Env → World → Prop) : Prop :=
  ∀ a w, S w → Fr N e a w → wpOp P ops (fun x a' w' => ∃ e', Fr N e' a' w' ∧ Q x e' w') i (wpAny P .any ops (fun x a' w' => ∃ e', Fr N e' a' w' ∧ Q x e' w') fuel (L.setIfInBounds i true)) a w
theorem ws_enum {id : Nat} [Cl S] (hm : P.follows .mixedOrders = true) (h : RA P N ops (Array.replicate ops.size false) ops.size e S Q) : WS P N (.region id ops true) e S Q := by
  intro a w hS hF
  refine wp_region_any hm ?_
  have hw0 : Ext w { w with drawn := w.drawn + 1 } := Ext.of_quiet (.inr rfl)
  exact h a _ (Cl.ext hS hw0) (hF.ext hw0)
theorem ra_end {L : Array Bool} (hr : Region.ready .any ops L = []) (h : Done .normal e S Q) : RA P N ops L 0 e S Q :=
  fun _ w hS hF => ⟨hr, e, hF, h w hS⟩
theorem ro_op {i : Nat} {L : Array Bool} {fuel : Nat} {d : Tmp} {op : Op} {ty : TypeId} {pos : String} {after : Array Edge} {v : AV} [Cl S] (ho : ops[i]? = some ⟨some d, op, ty, pos, after, none⟩) (hd : Nat.blt d N = true)
    (hj : OpJ P S e ⟨some d, op, ty, pos, after, none⟩ v) (h : RA P N ops (L.setIfInBounds i true) fuel ((d, v) :: e) S Q) : RO P N ops i L fuel e S Q := by
  intro a w hS hF
  unfold wpOp
  simp only [ho]
  rw [if_pos (by simp [Region.wanted])]
  refine .inl (hj a w _ _ hS (hF.operands _) fun u w' hw hr => ?_)
  exact h _ w' (Cl.ext hS hw) (Fr.put (some d) (hF.ext hw) (fun _ h => by cases h; exact Nat.le_of_ble_eq_true hd) hr)
end
end Go.Ab
namespace Go.Ab
open Go.Proofs
attribute [local irreducible] WS RS Done OpJ Then InBlock Round Ret Env.sub FnH
section
variable {P : Program} {N : Nat} {S : World → Prop} {e : Env} {Q : Exit → Env → World → Prop} {ops : Array Oper} {l : List Oper}
theorem yielded_undef {a : Act} {w : World} (hF : Fr N e a w) {j d : Nat} (hy : gslot ops j = some d) (he : e.look d = some (.raw undef)) : yielded ops a.tmps j = none := by
  obtain ⟨u, hu, hr⟩ := hF.rel d _ he
  have := hr.inv_raw
  subst this
  unfold yielded
  rw [show ((ops[j]?).bind (·.dst)) = some d from hy]
  simp [hu, undef]
theorem rs_nu {d : Tmp} {op : Op} {ty : TypeId} {pos : String} {after : Array Edge} {j y : Nat} {b : Bool} (hd : Nat.blt d N = true) (hy : gslot ops j = some y) (he : e.look y = some (.raw undef))
    (h : RS P N ops l ((d, .raw undef) :: e) S Q) : RS P N ops (⟨some d, op, ty, pos, after, some (j, b)⟩ :: l) e S Q := by
  unfold RS at *
  intro a w hS hF
  refine wpList_step fun K hK => ?_
  rw [if_neg (by simp [Region.wanted, yielded_undef hF hy he])]
  exact hK _ _ (h _ w hS (Fr.put (some d) hF (fun _ h => by cases h; exact Nat.le_of_ble_eq_true hd) .raw))
end
end Go.Ab
namespace Go.Ab
open Go.Proofs
attribute [local irreducible] WS RS Done OpJ Then InBlock Round Ret Env.sub FnH
theorem ifNumbers_yes (n c g : Nat) (f : Int → FV) (hn : n < 2 ^ 40 ∧ n ≤ c ∧ c ≤ maxLen) (hf : (tab n f).all finB = true) : FnH (X := Unit) Tryz.prog 75 (fun _ => [.raw (.slice (some ⟨g, 0, none⟩) n c)]) [entF g 27 n f c]
    (fun _ => .tup [.raw (.slice (some ⟨g, 0, none⟩) n c), .raw (.bool true)]) (fun _ => [entF g 27 n f c]) (fun _ => True) := by
  have hA : Fn Tryz.prog 26 (fun w => [slF w (tab n f)]) (.raw (.bool true)) := hf ▸ areFinite_fn (tab n f) (by simp; omega)
  refine fn_intro Tryz.func75 rfl Tryz.ntmps75 (fun _ => Nat.le_of_ble_eq_true rfl) fun w0 => ?_
  repeat first | refine zaa rfl (zay rfl) ?_ | refine zaa rfl (zaz rfl) ?_ | refine zaa rfl (zcc rfl) ?_ | refine zah ?_ | (refine zcr ?_; refine zcs ?_) | (refine zdb ?_; first | refine zdc ?_ | refine zdd ?_ | refine zdf ?_ | refine zdg ?_ | refine zdj rfl ?_) | (refine zaa rfl (zci rfl rfl hA ?_) ?_; (focus (exact Takes.own (List.Mem.head _) (by simp) hn.2.1 hn.2.2 Takes.nil)))
  exact done_ret2 rfl () rfl rfl rfl trivial (List.Sublist.refl _)
end Go.Ab
namespace Go.Ab
open Go.Proofs
abbrev CV := FV × FV
def cA (p : CV) : AV := .c .f32 p.1 p.2
/-- A list of complex numbers that came in. -/
abbrev slC (w : World) (L : List CV) : AV := AV.sl w 1 (L.map cA)
def tabC (n : Nat) (f : Nat → CV) : List CV := (List.range n).map f
@[simp] theorem tabC_length (n : Nat) (f : Nat → CV) : (tabC n f).length = n := by simp [tabC]
theorem tabC_get {n : Nat} (f : Nat → CV) {i : Nat} (h : i < n) : (tabC n f)[i]? = some (f i) := by simp [tabC, h]
theorem tabC_getD {n : Nat} (f : Nat → CV) {i : Nat} (h : i < n) : (tabC n f).getD i default = f i := by simp [List.getD, tabC_get f h]
theorem tabC_ext {L : List CV} {n : Nat} {f : Nat → CV} (hl : L.length = n) (h : ∀ i, i < n → L[i]? = some (f i)) : L = tabC n f := by
  apply List.ext_getElem?
  intro i
  rcases Nat.lt_or_ge i n with hi | hi
  · rw [h i hi, tabC_get f hi]
  · rw [List.getElem?_eq_none (by omega), List.getElem?_eq_none (by rw [tabC_length]; exact hi)]
theorem tabC_congr {n : Nat} {f g : Nat → CV} (h : ∀ i, i < n → f i = g i) : tabC n f = tabC n g := tabC_ext (tabC_length n f) fun i hi => by rw [tabC_get f hi, h i hi]
theorem tabC_snoc (n : Nat) (f : Nat → CV) : tabC n f ++ [f n] = tabC (n + 1) f := by unfold tabC; rw [List.range_succ, List.map_append]; rfl
abbrev entC (g n : Nat) (f : Nat → CV) (c : Nat) : Ent := ⟨g, 36, (tabC n f).map cA, c⟩
attribute [local irreducible] WS RS Done OpJ Then InBlock Round Ret Env.sub FnH
def finC (p : CV) : Bool := finB p.1 && finB p.2
theorem isFiniteComplex_fn (p : CV) : Fn Tryz.prog 64 (fun _ => [cA p]) (.raw (.bool (finC p))) := by
  have h1 := isFinite_fn p.1
  have h2 := isFinite_fn p.2
  unfold finC
  cases hb : finB p.1 <;> rw [hb] at h1
  all_goals
    refine fn_intro Tryz.func64 rfl Tryz.ntmps64 (fun _ => Nat.le_of_ble_eq_true rfl) fun w0 => ?_
    unfold cA
    repeat first | refine zai rfl rfl ?_ | refine zaj rfl rfl rfl rfl ?_ | refine zaa rfl (zay rfl) ?_ | refine zaa rfl (zaz rfl) ?_ | (refine zad ?_; first | refine zaa rfl (zbp rfl) ?_ | refine zaa rfl (zbq rfl) ?_ | (refine zaa rfl (zci rfl rfl (h1) ?_) ?_; (focus ((repeat (first | exact Takes.nil | refine Takes.sl ?_ | refine Takes.own (by (repeat (first | exact mh | refine mt ?_)); done) (by simp) (by omega) (by simp only [maxLen]; omega) ?_ | refine Takes.same ?_)); done))) | (refine zaa rfl (zci rfl rfl (h2) ?_) ?_; (focus ((repeat (first | exact Takes.nil | refine Takes.sl ?_ | refine Takes.own (by (repeat (first | exact mh | refine mt ?_)); done) (by simp) (by omega) (by simp only [maxLen]; omega) ?_ | refine Takes.same ?_)); done)))) | refine zaa rfl (zca rfl rfl) ?_ | refine zaa rfl (zcb rfl rfl) ?_ | refine zah ?_ | (refine zcr ?_; refine zcs ?_) | (refine zdb ?_; first | refine zdc ?_ | refine zdd ?_ | refine zdg ?_)
    exact done_ret1 rfl () rfl trivial (List.nil_sublist _)
theorem l01CFinite_fn (p : CV) : Fn Tryz.prog 34 (fun _ => [cA p]) (.raw (.bool (finC p))) := by
  have h1 := l01Finite_fn p.1
  have h2 := l01Finite_fn p.2
  unfold finC
  cases hb : finB p.1 <;> rw [hb] at h1
  all_goals
    refine fn_intro Tryz.func34 rfl Tryz.ntmps34 (fun _ => Nat.le_of_ble_eq_true rfl) fun w0 => ?_
    unfold cA
    repeat first | refine zai rfl rfl ?_ | refine zaj rfl rfl rfl rfl ?_ | refine zaa rfl (zay rfl) ?_ | refine zaa rfl (zaz rfl) ?_ | (refine zad ?_; first | refine zaa rfl (zbp rfl) ?_ | refine zaa rfl (zbq rfl) ?_ | (refine zaa rfl (zci rfl rfl (h1) ?_) ?_; (focus ((repeat (first | exact Takes.nil | refine Takes.sl ?_ | refine Takes.own (by (repeat (first | exact mh | refine mt ?_)); done) (by simp) (by omega) (by simp only [maxLen]; omega) ?_ | refine Takes.same ?_)); done))) | (refine zaa rfl (zci rfl rfl (h2) ?_) ?_; (focus ((repeat (first | exact Takes.nil | refine Takes.sl ?_ | refine Takes.own (by (repeat (first | exact mh | refine mt ?_)); done) (by simp) (by omega) (by simp only [maxLen]; omega) ?_ | refine Takes.same ?_)); done)))) | refine zaa rfl (zca rfl rfl) ?_ | refine zaa rfl (zcb rfl rfl) ?_ | refine zah ?_ | (refine zcr ?_; refine zcs ?_) | (refine zdb ?_; first | refine zdc ?_ | refine zdd ?_ | refine zdg ?_)
    exact done_ret1 rfl () rfl trivial (List.nil_sublist _)
theorem arePoints1_fn (p : CV) : Fn Tryz.prog 63 (fun _ => [cA p]) (.raw (.bool (!(finC p)))) := by
  refine fn_intro Tryz.func63 rfl Tryz.ntmps63 (fun _ => Nat.le_of_ble_eq_true rfl) fun w0 => ?_
  repeat first | refine zaa rfl (zay rfl) ?_ | refine zaa rfl (zaz rfl) ?_ | (refine zad ?_; (refine zaa rfl (zci rfl rfl (isFiniteComplex_fn p) ?_) ?_; (focus ((repeat (first | exact Takes.nil | refine Takes.sl ?_ | refine Takes.own (by (repeat (first | exact mh | refine mt ?_)); done) (by simp) (by omega) (by simp only [maxLen]; omega) ?_ | refine Takes.same ?_)); done)))) | refine zaa rfl (zcc rfl) ?_ | refine zah ?_ | (refine zcr ?_; refine zcs ?_) | (refine zdb ?_; first | refine zdc ?_ | refine zdd ?_ | refine zdg ?_)
  exact done_ret1 rfl () rfl trivial (List.nil_sublist _)
theorem indexFuncC_fn (L : List CV) (hL : L.length < 2 ^ 62) (c : FuncId) [HasBody Tryz.prog c] (p : CV → Bool) (hp : ∀ x, Fn Tryz.prog c (fun _ => [cA x]) (.raw (.bool (p x)))) :
    Fn Tryz.prog 86 (fun w => [slC w L, .raw (.func (.func c) #[] #[])]) (.raw (.int .i64 (idxOf p L))) := by
  refine fn_intro Tryz.func86 rfl Tryz.ntmps86 (fun _ => Nat.le_of_ble_eq_true rfl) fun w0 => ?_
  repeat first | refine zaa rfl (zay rfl) ?_ | refine zaa rfl (zaz rfl) ?_ | (refine zad ?_; refine zaa rfl (zbm rfl) ?_) | refine zah ?_ | (refine zcr ?_; refine zcs ?_) | (refine zdb ?_; first | refine zdc ?_ | refine zdd ?_ | refine zde ?_)
  refine ws_loop (ι := Nat) (fun k => [(0, slC w0 L), (1, .raw (.func (.func c) #[] #[])), (7, .raw (.int .i64 L.length)), (8, .raw (.int .i64 k))]) (fun _ => St w0 [] []) (fun k => k ≤ L.length ∧ ∀ i, i < k → p (L.getD i default) = false) (fun k => L.length - k) 0 ⟨Nat.zero_le _, fun i hi => by omega⟩ ?_ (fun _ h => h) (fun k hk => ?_)
  · (repeat (first | exact Env.sub_nil _ | refine Env.sub_cons rfl ?_))
  · obtain ⟨hk, hall⟩ := hk
    repeat first | (refine zac ?_; refine zaa rfl (zbe rfl rfl) ?_) | refine zah ?_ | (refine zcr ?_; refine zcs ?_) | (refine zdb ?_; first | refine zdc ?_ | refine zdd ?_)
    refine ws_cond rfl (fun hc => ?_) (fun hc => ?_)
    · have hlt : (k : Int) < L.length := of_decide_eq_true hc
      repeat first | refine zaa rfl (zay rfl) ?_ | refine zaa rfl (zaz rfl) ?_ | (refine zad ?_; refine zaa rfl (zci rfl rfl (hp _) (by (repeat (first | exact Takes.nil | refine Takes.sl ?_ | refine Takes.own (by (repeat (first | exact mh | refine mt ?_)); done) (by simp) (by omega) (by simp only [maxLen]; omega) ?_ | refine Takes.same ?_)); done)) ?_) | refine zaa rfl (zbu rfl rfl) ?_ | refine zaa rfl (zbv rfl rfl (by omega) (by omega)) ?_ | refine zah ?_ | (refine zcr ?_; refine zcs ?_) | (refine zdb ?_; first | refine zdc ?_ | refine zdd ?_ | refine zde ?_ | refine zdf ?_)
      refine ws_cond rfl (fun hd => ?_) (fun hd => ?_)
      · repeat first | refine zaa rfl (zay rfl) ?_ | refine zaa rfl (zaz rfl) ?_ | refine zah ?_ | (refine zcr ?_; first | refine zcs ?_ | refine zct ?_ | refine zcw ?_ | refine zcz ?_) | (refine zdb ?_; first | refine zdc ?_ | refine zdd ?_ | refine zdg ?_)
        exact done_ret1 rfl () (by rw [idxOf_found (by omega) hall hd]; rfl) trivial (List.nil_sublist _)
      · repeat first | refine zaa rfl (zay rfl) ?_ | (refine zac ?_; refine zaa rfl (zbb rfl rfl (by omega)) ?_) | refine zah ?_ | (refine zcr ?_; first | refine zcs ?_ | refine zcv ?_) | (refine zdb ?_; first | refine zdd ?_ | refine zdf ?_)
        refine done_round (k + 1) ⟨by omega, fun i hi => ?_⟩ (by omega) ?_ (fun _ h => h)
        · rcases Nat.lt_or_ge i k with h | h
          · exact hall i h
          · obtain rfl : i = k := by omega
            exact hd
        · (repeat (first | exact Env.sub_nil _ | refine Env.sub_cons rfl ?_))
    · have hge : ¬ (k : Int) < L.length := of_decide_eq_false hc
      repeat first | refine zaa rfl (zaz rfl) ?_ | refine zah ?_ | (refine zcr ?_; first | refine zcs ?_ | refine zcu ?_ | refine zcx ?_ | refine zda ?_) | (refine zdb ?_; first | refine zdc ?_ | refine zdd ?_ | refine zdg ?_ | refine zdh ?_)
      exact done_ret1 rfl () (by rw [idxOf_none (fun i hi => hall i (by omega))]; rfl) trivial (List.nil_sublist _)
theorem containsFuncC_fn (L : List CV) (hL : L.length < 2 ^ 62) (c : FuncId) [HasBody Tryz.prog c] (p : CV → Bool) (hp : ∀ x, Fn Tryz.prog c (fun _ => [cA x]) (.raw (.bool (p x)))) :
    Fn Tryz.prog 62 (fun w => [slC w L, .raw (.func (.func c) #[] #[])]) (.raw (.bool (L.any p))) := by
  refine fn_intro Tryz.func62 rfl Tryz.ntmps62 (fun _ => Nat.le_of_ble_eq_true rfl) fun w0 => ?_
  repeat first | refine zaa rfl (zay rfl) ?_ | refine zaa rfl (zaz rfl) ?_ | (refine zac ?_; refine zaa rfl (zbh rfl rfl) ?_) | (refine zad ?_; (refine zaa rfl (zci rfl rfl (indexFuncC_fn _ hL _ _ hp) ?_) ?_; (focus ((repeat (first | exact Takes.nil | refine Takes.sl ?_ | refine Takes.own (by (repeat (first | exact mh | refine mt ?_)); done) (by simp) (by omega) (by simp only [maxLen]; omega) ?_ | refine Takes.same ?_)); done)))) | refine zah ?_ | (refine zcr ?_; refine zcs ?_) | (refine zdb ?_; first | refine zdc ?_ | refine zdd ?_ | refine zdg ?_)
  exact done_ret1 rfl () (by rw [← idxOf_nonneg]; rfl) trivial (List.nil_sublist _)
theorem arePoints_fn (L : List CV) (hL : L.length < 2 ^ 62) : Fn Tryz.prog 27 (fun w => [slC w L]) (.raw (.bool (L.all finC))) := by
  refine fn_intro Tryz.func27 rfl Tryz.ntmps27 (fun _ => Nat.le_of_ble_eq_true rfl) fun w0 => ?_
  repeat first | refine zaa rfl (zay rfl) ?_ | refine zaa rfl (zaz rfl) ?_ | (refine zad ?_; (refine zaa rfl (zci rfl rfl (containsFuncC_fn _ hL _ _ arePoints1_fn) ?_) ?_; (focus ((repeat (first | exact Takes.nil | refine Takes.sl ?_ | refine Takes.own (by (repeat (first | exact mh | refine mt ?_)); done) (by simp) (by omega) (by simp only [maxLen]; omega) ?_ | refine Takes.same ?_)); done)))) | refine zaa rfl (zcc rfl) ?_ | refine zah ?_ | (refine zcr ?_; refine zcs ?_) | (refine zdb ?_; first | refine zdc ?_ | refine zdd ?_ | refine zdg ?_)
  exact done_ret1 rfl () (by rw [show L.all finC = !(L.any fun x => !(finC x)) from by simp [List.all_eq_not_any_not]]; rfl) trivial (List.nil_sublist _)
end Go.Ab
namespace Go.Ab
section
variable {P : Program} {S : World → Prop} {e : Env} {dst : Option Tmp} {ty : TypeId} {pos : String} {after : Array Edge} {guard : Option (Nat × Bool)}
theorem rd_drop {w : World} {v : Value} {xs : List AV} (h : Rd w 1 v xs) {l : Nat} (hl : l ≤ xs.length) : ∃ a len cap, v = .slice a len cap ∧ len = xs.length ∧ len ≤ cap ∧ Rd w 1 (sliced a l len cap 1) (xs.drop l) := by
  obtain ⟨a, len, cap, rfl, hlen, hc, hm, hx⟩ := h
  refine ⟨a, len, cap, rfl, by omega, hc, ?_⟩
  unfold sliced
  refine ⟨_, _, _, rfl, by simp; omega, by omega, by omega, fun i x hi => ?_⟩
  rw [List.getElem?_drop] at hi
  obtain ⟨b, rfl, hs, u, hu, hev⟩ := hx _ _ hi
  have hlt : l + i < xs.length := (List.getElem?_eq_some_iff.1 hi).1
  rw [if_neg (by omega)]
  refine ⟨b.add (l * 1), rfl, ?_, u, ?_, hev⟩
  · unfold Addr.add; split <;> simp_all
  · have : (b.add (l * 1)).block = b.block ∧ (b.add (l * 1)).off = b.off + l := by unfold Addr.add; split <;> simp_all
    rw [this.1, this.2, Nat.add_assoc]
    exact hu
theorem opj_slice_l {t el : TypeId} {z : Value} {b : Nat} {X Y : Operand} {w0 : World} {xs : List AV} {k : IntKind} {l : Int} [hu : TyU P t (.slice el)] [hi : TyI P el z 1 b]
    (hx : e.ev X = some (AV.sl w0 1 xs)) (hy : e.ev Y = some (.raw (.int k l))) (h0 : 0 ≤ l) (hl : l ≤ xs.length) :
    OpJ P S e ⟨dst, .slice t X (some Y) none none, ty, pos, after, guard⟩ (AV.sl w0 1 (xs.drop l.toNat)) :=
  opj_value fun a w _ ho => by
    have h1 := (ho X (by simp [Op.operands]) _ hx).inv_q
    have h2 := (ho Y (by simp [Op.operands]) _ hy).inv_raw
    obtain ⟨c, len, cap, hv, hlen, hc, hrd⟩ := rd_drop h1 (l := l.toNat) (by omega)
    have hel : P.elem t = el := by simp [Program.elem, hu.h]
    have ht : P.underlying t = some (.slice (P.elem t)) := by rw [hel]; exact hu.h
    have hr := run_slice_l (P := P) (w := w) t c len cap ht k l h0 (by omega)
    rw [hel, run_size hi] at hr
    refine ⟨_, w, ?_, Ext.refl _, .q hrd⟩
    have hs := run_sliceAt_slice (P := P) w t (.slice c len cap) (some (.int k l)) none none ht
    simp [execOp, h2, hv, hs, hr]
end
open Go.Proofs
attribute [local irreducible] WS RS Done OpJ Then InBlock Round Ret Env.sub FnH
def prodF (L : List FV) : FV := (L.drop 1).foldl (fun s x => fbin .mul .f32 s x) (L.getD 0 default)
def prodTo (L : List FV) (k : Nat) : FV := ((L.drop 1).take k).foldl (fun s x => fbin .mul .f32 s x) (L.getD 0 default)
theorem prodTo_succ (L : List FV) {k : Nat} (h : k < (L.drop 1).length) : prodTo L (k + 1) = fbin .mul .f32 (prodTo L k) ((L.drop 1).getD k default) := by
  unfold prodTo
  rw [List.take_succ_eq_append_getElem h, List.foldl_append]
  simp only [List.foldl_cons, List.foldl_nil]
  congr 1
  simp only [List.getD, List.getElem?_eq_getElem h, Option.getD_some]
theorem productOf_fn (L : List FV) (h1 : 1 ≤ L.length) (hL : L.length < 2 ^ 62) : Fn Tryz.prog 77 (fun w => [slF w L]) (.f .f32 (prodF L)) := by
  refine fn_intro Tryz.func77 rfl Tryz.ntmps77 (fun _ => Nat.le_of_ble_eq_true rfl) fun w0 => ?_
  repeat first | refine zaa rfl (zay rfl) ?_ | refine zaa rfl (zaz rfl) ?_ | refine zaa rfl (zbu rfl rfl) ?_ | refine zaa rfl (zbv rfl rfl (by omega) (by omega)) ?_ | refine zah ?_ | (refine zcr ?_; refine zcs ?_) | (refine zdb ?_; first | refine zdc ?_ | refine zdd ?_) | refine zaa rfl (opj_slice_l rfl rfl (by omega) (by simp; omega)) ?_
  have hd : (L.map (AV.f .f32)).drop (1 : Int).toNat = (L.drop 1).map (AV.f .f32) := by simp
  rw [hd]
  have hlt : (L.drop 1).length < 2 ^ 62 := by simp; omega
  repeat first | refine zaa rfl (zay rfl) ?_ | (refine zad ?_; refine zaa rfl (zbm rfl) ?_) | refine zah ?_ | (refine zcr ?_; refine zcs ?_) | (refine zdb ?_; refine zde ?_)
  refine ws_loop (ι := Nat) (fun k => [(3, .f .f32 (prodTo L k)), (10, slF w0 (L.drop 1)), (11, .raw (.int .i64 (L.drop 1).length)), (12, .raw (.int .i64 k))]) (fun _ => St w0 [] []) (fun k => k ≤ (L.drop 1).length) (fun k => (L.drop 1).length - k) 0 (Nat.zero_le _) ?_ (fun _ h => h) (fun k hk => ?_)
  · (repeat (first | exact Env.sub_nil _ | refine Env.sub_cons rfl ?_))
  · generalize hD : L.drop 1 = D at *
    repeat first | (refine zac ?_; refine zaa rfl (zbe rfl rfl) ?_) | refine zah ?_ | (refine zcr ?_; refine zcs ?_) | (refine zdb ?_; first | refine zdc ?_ | refine zdd ?_)
    refine ws_cond rfl (fun hc => ?_) (fun hc => ?_)
    · have hlt : (k : Int) < D.length := of_decide_eq_true hc
      repeat first | refine zaa rfl (zay rfl) ?_ | refine zaa rfl (zaz rfl) ?_ | (refine zac ?_; first | refine zaa rfl (zba rfl rfl rfl) ?_ | refine zaa rfl (zbb rfl rfl (by omega)) ?_) | refine zaa rfl (zbu rfl rfl) ?_ | refine zaa rfl (zbv rfl rfl (by omega) (by omega)) ?_ | refine zah ?_ | (refine zcr ?_; first | refine zcs ?_ | refine zcv ?_) | (refine zdb ?_; first | refine zdc ?_ | refine zdd ?_ | refine zde ?_ | refine zdf ?_)
      refine done_round (k + 1) (by omega) (by omega) ?_ (fun _ h => h)
      rw [prodTo_succ L (by rw [hD]; omega), hD]
      (repeat (first | exact Env.sub_nil _ | refine Env.sub_cons rfl ?_))
    · have hge : ¬ (k : Int) < D.length := of_decide_eq_false hc
      have hkl : k = D.length := by omega
      repeat first | refine zaa rfl (zay rfl) ?_ | refine zaa rfl (zaz rfl) ?_ | refine zah ?_ | (refine zcr ?_; first | refine zcs ?_ | refine zcu ?_ | refine zcx ?_ | refine zda ?_) | (refine zdb ?_; first | refine zdc ?_ | refine zdd ?_ | refine zdg ?_ | refine zdh ?_)
      have hp : prodF L = prodTo L k := by unfold prodF prodTo; rw [hD, hkl, List.take_length]
      rw [hp]
      exact done_ret1 rfl () rfl trivial (List.nil_sublist _)
end Go.Ab
namespace Go.Ab
open Go.Proofs
def addC2 (p q : CV) : CV := (fbin .add .f32 p.1 q.1, fbin .add .f32 p.2 q.2)
def scaleC (p : CV) (h : FV) : CV := (fbin .mul .f32 p.1 h, fbin .mul .f32 p.2 h)
def aboveB (x : FV) : Bool := finB x && cmpB .gtr (fcmp .f32 x (fv .f32 0))
attribute [local irreducible] WS RS Done OpJ Then InBlock Round Ret Env.sub FnH
theorem areMore1_fn (x : FV) : Fn Tryz.prog 101 (fun _ => [.f .f32 x]) (.raw (.bool (!(aboveB x)))) := by
  have h1 := isFinite_fn x
  unfold aboveB
  cases hb : finB x <;> rw [hb] at h1
  all_goals
    refine fn_intro Tryz.func101 rfl Tryz.ntmps101 (fun _ => Nat.le_of_ble_eq_true rfl) fun w0 => ?_
    repeat first | refine zai rfl rfl ?_ | refine zaj rfl rfl rfl rfl ?_ | refine zaa rfl (zay rfl) ?_ | refine zaa rfl (zaz rfl) ?_ | (refine zac ?_; refine zaa rfl (zbd rfl rfl rfl) ?_) | (refine zad ?_; (refine zaa rfl (zci rfl rfl (h1) ?_) ?_; (focus ((repeat (first | exact Takes.nil | refine Takes.sl ?_ | refine Takes.lit ?_ | (refine Takes.ownE ?_ ?_ ?_ ?_ ?_; (focus (exact ⟨_, _, (by (repeat (first | exact mh | refine mt ?_)); done)⟩)); (focus (simp; done)); (focus omega); (focus (simp only [maxLen]; omega))) | refine Takes.same ?_)); done)))) | refine zaa rfl (zca rfl rfl) ?_ | refine zaa rfl (zcb rfl rfl) ?_ | refine zaa rfl (zcc rfl) ?_ | refine zah ?_ | (refine zcr ?_; refine zcs ?_) | (refine zdb ?_; first | refine zdc ?_ | refine zdd ?_ | refine zdg ?_)
    exact done_ret1 rfl () rfl trivial (List.nil_sublist _)
theorem areMore_fn (L : List FV) (hL : L.length < 2 ^ 62) : Fn Tryz.prog 94 (fun w => [slF w L]) (.raw (.bool (L.all aboveB))) := by
  refine fn_intro Tryz.func94 rfl Tryz.ntmps94 (fun _ => Nat.le_of_ble_eq_true rfl) fun w0 => ?_
  repeat first | refine zaa rfl (zay rfl) ?_ | refine zaa rfl (zaz rfl) ?_ | (refine zad ?_; (refine zaa rfl (zci rfl rfl (containsFunc_fn _ hL _ _ areMore1_fn) ?_) ?_; (focus ((repeat (first | exact Takes.nil | refine Takes.sl ?_ | refine Takes.lit ?_ | (refine Takes.ownE ?_ ?_ ?_ ?_ ?_; (focus (exact ⟨_, _, (by (repeat (first | exact mh | refine mt ?_)); done)⟩)); (focus (simp; done)); (focus omega); (focus (simp only [maxLen]; omega))) | refine Takes.same ?_)); done)))) | refine zaa rfl (zcc rfl) ?_ | refine zah ?_ | (refine zcr ?_; refine zcs ?_) | (refine zdb ?_; first | refine zdc ?_ | refine zdd ?_ | refine zdg ?_)
  exact done_ret1 rfl () (by rw [show L.all aboveB = !(L.any fun x => !(aboveB x)) from by simp [List.all_eq_not_any_not]]; rfl) trivial (List.nil_sublist _)
theorem l02Above_fn (x : FV) : Fn Tryz.prog 65 (fun _ => [.f .f32 x]) (.raw (.bool (aboveB x))) := by
  have h1 := l01Finite_fn x
  unfold aboveB
  cases hb : finB x <;> rw [hb] at h1
  all_goals
    refine fn_intro Tryz.func65 rfl Tryz.ntmps65 (fun _ => Nat.le_of_ble_eq_true rfl) fun w0 => ?_
    repeat first | refine zai rfl rfl ?_ | refine zaj rfl rfl rfl rfl ?_ | refine zaa rfl (zay rfl) ?_ | refine zaa rfl (zaz rfl) ?_ | (refine zac ?_; refine zaa rfl (zbd rfl rfl rfl) ?_) | (refine zad ?_; (refine zaa rfl (zci rfl rfl (h1) ?_) ?_; (focus ((repeat (first | exact Takes.nil | refine Takes.sl ?_ | refine Takes.lit ?_ | (refine Takes.ownE ?_ ?_ ?_ ?_ ?_; (focus (exact ⟨_, _, (by (repeat (first | exact mh | refine mt ?_)); done)⟩)); (focus (simp; done)); (focus omega); (focus (simp only [maxLen]; omega))) | refine Takes.same ?_)); done)))) | refine zaa rfl (zca rfl rfl) ?_ | refine zaa rfl (zcb rfl rfl) ?_ | refine zah ?_ | (refine zcr ?_; refine zcs ?_) | (refine zdb ?_; first | refine zdc ?_ | refine zdd ?_ | refine zdg ?_)
    exact done_ret1 rfl () rfl trivial (List.nil_sublist _)
theorem plus_fn (p q : CV) : Fn Tryz.prog 53 (fun _ => [cA p, cA q]) (cA (addC2 p q)) := by
  refine fn_intro Tryz.func53 rfl Tryz.ntmps53 (fun _ => Nat.le_of_ble_eq_true rfl) fun w0 => ?_
  unfold cA
  repeat first | refine zaa rfl (zay rfl) ?_ | refine zaa rfl (zaz rfl) ?_ | (refine zac ?_; refine zaa rfl (zba rfl rfl rfl) ?_) | (refine zad ?_; first | refine zaa rfl (zbp rfl) ?_ | refine zaa rfl (zbq rfl) ?_ | refine zaa rfl (zbr rfl rfl) ?_) | refine zah ?_ | (refine zcr ?_; refine zcs ?_) | (refine zdb ?_; first | refine zdc ?_ | refine zdd ?_ | refine zdg ?_)
  exact done_ret1 rfl () rfl trivial (List.nil_sublist _)
theorem scaleComplex_fn (p : CV) (h : FV) : Fn Tryz.prog 49 (fun _ => [cA p, .f .f32 h]) (cA (scaleC p h)) := by
  refine fn_intro Tryz.func49 rfl Tryz.ntmps49 (fun _ => Nat.le_of_ble_eq_true rfl) fun w0 => ?_
  unfold cA
  repeat first | refine zaa rfl (zay rfl) ?_ | refine zaa rfl (zaz rfl) ?_ | (refine zac ?_; refine zaa rfl (zba rfl rfl rfl) ?_) | (refine zad ?_; first | refine zaa rfl (zbp rfl) ?_ | refine zaa rfl (zbq rfl) ?_ | refine zaa rfl (zbr rfl rfl) ?_) | refine zah ?_ | (refine zcr ?_; refine zcs ?_) | (refine zdb ?_; first | refine zdc ?_ | refine zdd ?_ | refine zdg ?_)
  exact done_ret1 rfl () rfl trivial (List.nil_sublist _)
theorem l01Scale_fn (p : CV) (h : FV) : Fn Tryz.prog 39 (fun _ => [cA p, .f .f32 h]) (cA (scaleC p h)) := by
  refine fn_intro Tryz.func39 rfl Tryz.ntmps39 (fun _ => Nat.le_of_ble_eq_true rfl) fun w0 => ?_
  unfold cA
  repeat first | refine zaa rfl (zay rfl) ?_ | refine zaa rfl (zaz rfl) ?_ | (refine zac ?_; refine zaa rfl (zba rfl rfl rfl) ?_) | (refine zad ?_; first | refine zaa rfl (zbp rfl) ?_ | refine zaa rfl (zbq rfl) ?_ | refine zaa rfl (zbr rfl rfl) ?_) | refine zah ?_ | (refine zcr ?_; refine zcs ?_) | (refine zdb ?_; first | refine zdc ?_ | refine zdd ?_ | refine zdg ?_)
  exact done_ret1 rfl () rfl trivial (List.nil_sublist _)
end Go.Ab
namespace Go.Ab
variable {R : World → Prop} [RStab R]
/-- Field k of a struct lies at cell off. -/
class TyF (P : Program) (t : TypeId) (k : Nat) (off : outParam Nat) : Prop where
  h : ∃ fs f i, P.underlying t = some (.struct fs) ∧ fs[k]? = some f ∧ f.offset = off ∧ P.info? f.type = some i ∧ (i.size == 0) = false

section
variable {P : Program} {N : Nat} {S : World → Prop} {e : Env} {Q : Exit → Env → World → Prop} {ops : Array Oper} {l : List Oper} {o : Oper}
variable {w0 : World} {gs : List Nat} {H : List Ent} {dst : Option Tmp} {ty : TypeId} {pos : String} {after : Array Edge} {guard : Option (Nat × Bool)}
theorem run_fieldAt {t : TypeId} {k off : Nat} [hf : TyF P t k off] (w : World) (a : Addr) : (Instr.fieldAt t (.pointer (some a)) k).run P w = .ok (.pointer (some (a.add off))) w := by
  obtain ⟨fs, f, i, h1, h2, h3, h4, h5⟩ := hf.h
  have h5' : ¬ i.size = 0 := by simpa using h5
  simp [Instr.fieldAt, run_underlying h1, h2, Instr.sureAddr, fieldPlace, sizeOf, typeInfo, h4, h5', h3]
theorem zcd {t : TypeId} {X : Operand} {k off g i : Nat} [hf : TyF P t k off] (hx : e.ev X = some (.raw (.pointer (some ⟨g, i, none⟩)))) :
    OpJ P S e ⟨dst, .fieldAddr t X k, ty, pos, after, guard⟩ (.raw (.pointer (some ⟨g, i + off, none⟩))) :=
  opj_value fun a w _ h => by
    have h1 := (h X (by simp [Op.operands]) _ hx).inv_raw
    refine ⟨_, w, ?_, Ext.refl _, .raw⟩
    have hr := run_fieldAt (P := P) (t := t) (k := k) w ⟨g, i, none⟩
    rw [addr_add _ rfl] at hr
    simp [execOp, h1, hr]
theorem zce {t : TypeId} {X : Operand} {k off : Nat} {xs : List AV} [hf : TyF P t k off] (hx : e.ev X = some (AV.ptr xs)) :
    OpJ P S e ⟨dst, .fieldAddr t X k, ty, pos, after, guard⟩ (AV.ptr (xs.drop off)) :=
  opj_value fun a w _ h => by
    obtain ⟨_, bb, hv, hsp, hr⟩ := (h X (by simp [Op.operands]) _ hx).inv_p
    have hrun := run_fieldAt (P := P) (t := t) (k := k) w bb
    rw [addr_add _ hsp] at hrun
    refine ⟨.pointer (some ⟨bb.block, bb.off + off, none⟩), w, by simp [execOp, hv, hrun], Ext.refl _, .p (mono_ptrTo _) ⟨⟨bb.block, bb.off + off, none⟩, rfl, rfl, fun j x hj => ?_⟩⟩
    rw [List.getElem?_drop] at hj
    obtain ⟨u, hu, hev⟩ := hr (off + j) x hj
    exact ⟨u, by simpa [Nat.add_assoc] using hu, hev⟩

/-- The cells of a struct at a place. -/
theorem run_loadA {w : World} {t : TypeId} {d : TypeDesc} {z : Value} {sz b : Nat} [hd : TyU P t d] [hi : TyI P t z sz b] (ha : aggD d = true) {bb : Addr} (hsp : bb.spot = none) {xs : List AV} (hl : xs.length = sz)
    (hr : ∀ (i : Nat) (x : AV), xs[i]? = some x → ∃ u, w.cell? ⟨bb.block, bb.off + i, none⟩ = some u ∧ Ev x u) : ∃ cs : List Value, (loadVar t bb).run P w = .ok (.agg cs.toArray) w ∧ RelL w xs cs := by
  have hex : ∀ k, k ≤ sz → ∃ cs : List Value, cs.length = k ∧ (∀ (j : Nat) (v : Value), cs[j]? = some v → w.cell? (bb.add j) = some v) ∧ ∀ (j : Nat) (v : Value) (x : AV), cs[j]? = some v → xs[j]? = some x → Ev x v := by
    intro k
    induction k with
    | zero => intro _; exact ⟨[], rfl, fun j v h => by simp at h, fun j v x h => by simp at h⟩
    | succ k ih =>
      intro hk
      obtain ⟨cs, hlc, h1, h2⟩ := ih (by omega)
      have hx : xs[k]? = some (xs[k]'(by omega)) := List.getElem?_eq_getElem (by omega)
      obtain ⟨u, hu, hev⟩ := hr k _ hx
      refine ⟨cs ++ [u], by simp [hlc], fun j v hj => ?_, fun j v x hj hxj => ?_⟩
      · rcases Nat.lt_or_ge j k with h | h
        · rw [List.getElem?_append_left (by omega)] at hj; exact h1 j v hj
        · have : j = k := by
            have := (List.getElem?_eq_some_iff.1 hj).1
            simp only [List.length_append, hlc, List.length_cons, List.length_nil] at this
            omega
          subst this
          rw [List.getElem?_append_right (by omega), hlc, Nat.sub_self] at hj
          cases hj
          rw [addr_add bb hsp]; exact hu
      · rcases Nat.lt_or_ge j k with h | h
        · rw [List.getElem?_append_left (by omega)] at hj; exact h2 j v x hj hxj
        · have : j = k := by
            have := (List.getElem?_eq_some_iff.1 hj).1
            simp only [List.length_append, hlc, List.length_cons, List.length_nil] at this
            omega
          subst this
          rw [List.getElem?_append_right (by omega), hlc, Nat.sub_self] at hj
          cases hj
          rw [hx] at hxj; cases hxj
          exact hev
  obtain ⟨cs, hlc, h1, h2⟩ := hex sz (Nat.le_refl _)
  refine ⟨cs, ?_, RelL.of_get (by omega) fun j x v hx hv => h2 j v x hv hx w⟩
  have := run_loadCells_list (P := P) w bb cs h1
  rw [hlc] at this
  simp [loadVar, run_isAgg hd.h, ha, run_size hi, this]
theorem opj_loadA {t : TypeId} {d : TypeDesc} {z : Value} {sz b : Nat} {X : Operand} {xs : List AV} [hd : TyU P t d] [hi : TyI P t z sz b] (ha : aggD d = true) (hx : e.ev X = some (AV.ptr xs)) (hl : sz ≤ xs.length) :
    OpJ P S e ⟨dst, .load t X, ty, pos, after, guard⟩ (.agg (xs.take sz)) :=
  opj_value fun a w _ h => by
    obtain ⟨_, bb, hv, hsp, hr⟩ := (h X (by simp [Op.operands]) _ hx).inv_p
    obtain ⟨cs, hrun, hrel⟩ := run_loadA (P := P) (t := t) (w := w) ha hsp (xs := xs.take sz) (by simp [hl]) (fun i x hi => hr i x (by rw [List.getElem?_take] at hi; split at hi <;> simp_all))
    exact ⟨_, w, by simp [execOp, hv, Instr.loadAt, Instr.sureAddr, hrun], Ext.refl _, .agg hrel⟩
theorem opj_loadAO {R0 : World → Prop} {t : TypeId} {d : TypeDesc} {z : Value} {sz b : Nat} {X : Operand} {en : Ent} {i : Nat} [hd : TyU P t d] [hi : TyI P t z sz b] (ha : aggD d = true) (hx : e.ev X = some (.raw (.pointer (some ⟨en.g, i, none⟩)))) (hm : en ∈ H) (hl : i + sz ≤ en.xs.length) :
    OpJ P (StR R0 w0 gs H) e ⟨dst, .load t X, ty, pos, after, guard⟩ (.agg ((en.xs.drop i).take sz)) :=
  opj_value fun a w hS h => by
    have hv := (h X (by simp [Op.operands]) _ hx).inv_raw
    obtain ⟨cs, hrun, hrel⟩ := run_loadA (P := P) (t := t) (w := w) ha (bb := ⟨en.g, i, none⟩) rfl (xs := (en.xs.drop i).take sz) (by simp; omega) (fun j x hj => by
      have hj' : en.xs[i + j]? = some x := by rw [List.getElem?_take] at hj; split at hj <;> simp_all
      exact (hS.own en hm).2.cell hj')
    exact ⟨_, w, by simp [execOp, hv, Instr.loadAt, Instr.sureAddr, hrun], Ext.refl _, .agg hrel⟩

/-- A list of cells written from a place on. -/
def splice (i : Nat) (ys xs : List AV) : List AV := xs.take i ++ ys ++ xs.drop (i + ys.length)
theorem still_mem : ∀ {ys : List AV}, AV.stillL ys = true → ∀ y ∈ ys, y.still = true
  | [], _, y, hy => by cases hy
  | a :: l, h, y, hy => by
    simp only [AV.stillL, Bool.and_eq_true] at h
    rcases List.mem_cons.1 hy with rfl | hy
    · exact h.1
    · exact still_mem h.2 y hy
/-- One cell, whatever it is: not a struct, not a tuple, not unknown. -/
def AV.one : AV → Bool
  | .f .. | .c .. => true
  | .raw (.agg _) | .raw (.tuple _) => false
  | .raw _ => true
  | _ => false
theorem one_cell {x : AV} {w : World} {v : Value} (h : x.one = true) (hr : Rel w x v) : v.oneCell' = true := by
  cases hr <;> first | (simp [AV.one] at h; done) | rfl | skip
  cases v <;> first | (simp [AV.one] at h; done) | rfl
/-- Each lies in one cell. -/
def OneL (ys : List AV) : Prop := ∀ y ∈ ys, ∀ w v, Rel w y v → v.oneCell' = true
theorem oneL_of {ys : List AV} (h : ys.all AV.one = true) : OneL ys := fun y hy _ _ hr => one_cell (List.all_eq_true.1 h y hy) hr
theorem rs_storeAG (k : Nat) {en : Ent} {i : Nat} {t : TypeId} {z : Value} {sz b : Nat} [hi : TyI P t z sz b] {A X : Operand} {ys : List AV} (hA : e.ev A = some (.raw (.pointer (some ⟨en.g, i, none⟩)))) (hx : e.ev X = some (.agg ys)) (h1 : OneL ys) (hs : AV.stillL ys = true)
    (hH : H[k]? = some en) (hl : ys.length = sz) (hi' : i + sz ≤ en.xs.length) (hc : en.xs.length = en.csz)
    (hk : RS P N ops l e.keep (StR R w0 gs (H.set k { en with xs := splice i ys en.xs })) Q) :
    RS P N ops (⟨none, .store t A X, ty, pos, after, none⟩ :: l) e (StR R w0 gs H) Q := by
  intro a w hS hF
  refine wpList_plain rfl fun K hK => ?_
  have h2 := (hF.eval hA).inv_raw
  obtain ⟨vs, hv, hr⟩ := (hF.eval hx).inv_agg
  have hvl : vs.length = sz := by rw [hr.length, hl]
  have hmem : en ∈ H := List.mem_of_getElem? hH
  obtain ⟨cur, hb, hcs, hcx⟩ := (hS.own en hmem).2
  have hone : ∀ v ∈ vs, v.oneCell' = true := fun v hv' => by
    obtain ⟨j, hj⟩ := List.mem_iff_getElem?.1 hv'
    have hjl : j < ys.length := by rw [← hr.length]; exact (List.getElem?_eq_some_iff.1 hj).1
    obtain ⟨u, hu, hru⟩ := hr.get (List.getElem?_eq_getElem hjl)
    rw [hj] at hu; cases hu
    exact h1 _ (List.getElem_mem _) _ _ hru
  have hst := run_storeCells_at (P := P) en.g i en.T vs 0 cur w hb (by omega) hone
  have hrun : (execOp a.eval ⟨none, .store t A X, ty, pos, after, none⟩).run P w = .ok .skip (w.setRow en.g (cur.toList.take (i + 0) ++ vs ++ cur.toList.drop (i + 0 + vs.length)).toArray) := by
    have hcs' : (Value.agg vs.toArray).cells = vs.toArray := rfl
    simp [execOp, h2, hv, Instr.storeAt, Instr.sureAddr, storeVar, run_size hi, hcs', hvl, hst]
  simp only [Nat.add_zero] at hrun
  unfold Oper.wp
  rw [hrun]
  have hrow : ((w.setRow en.g (cur.toList.take i ++ vs ++ cur.toList.drop (i + vs.length)).toArray)).heap[en.g]? = some (.cells (cur.toList.take i ++ vs ++ cur.toList.drop (i + vs.length)).toArray en.T (0, 0)) := setRow_heap w en.g cur _ en.T _ hb
  have hto : (cur.toList.take i).length = i := by simp; omega
  have hto' : (en.xs.take i).length = i := by simp; omega
  refine hK _ _ (hk _ _ (hS.updAt (e' := { en with xs := splice i ys en.xs }) hH ?_ (.inl rfl) ?_) hF.keep)
  · refine ⟨rfl, rfl, rfl, by simp, fun k _ hk => setRow_other w en.g k _ (fun e => hk (by simp [e]))⟩
  · refine ⟨_, hrow, ?_, fun j x hj => ?_⟩
    · simp only [List.size_toArray, List.length_append, List.length_drop, hto, Array.length_toList, hvl]; omega
    · simp only [splice] at hj
      simp only [List.getElem?_toArray]
      rcases Nat.lt_or_ge j i with h | h
      · rw [List.append_assoc, List.getElem?_append_left (by omega), List.getElem?_take, if_pos h] at hj
        obtain ⟨u, hu, hev⟩ := hcx j x hj
        exact ⟨u, by rw [List.append_assoc, List.getElem?_append_left (by omega), List.getElem?_take, if_pos h]; simpa using hu, hev⟩
      · rcases Nat.lt_or_ge j (i + sz) with h' | h'
        · rw [List.append_assoc, List.getElem?_append_right (by omega), hto', List.getElem?_append_left (by omega)] at hj
          obtain ⟨u, hu, hru⟩ := hr.get hj
          refine ⟨u, ?_, hru.ev (still_mem hs x (List.mem_of_getElem? hj))⟩
          rw [List.append_assoc, List.getElem?_append_right (by omega), hto, List.getElem?_append_left (by omega)]
          exact hu
        · rw [List.getElem?_append_right (by simp; omega), List.getElem?_drop] at hj
          have e1 : i + ys.length + (j - (en.xs.take i ++ ys).length) = j := by simp; omega
          rw [e1] at hj
          obtain ⟨u, hu, hev⟩ := hcx j x hj
          refine ⟨u, ?_, hev⟩
          rw [List.getElem?_append_right (by simp; omega), List.getElem?_drop]
          have e2 : i + vs.length + (j - (cur.toList.take i ++ vs).length) = j := by simp; omega
          rw [e2]
          simpa using hu

theorem rs_storeA (k : Nat) {en : Ent} {i : Nat} {t : TypeId} {z : Value} {sz b : Nat} [hi : TyI P t z sz b] {A X : Operand} {ys : List AV} (hA : e.ev A = some (.raw (.pointer (some ⟨en.g, i, none⟩)))) (hx : e.ev X = some (.agg ys)) (h1 : ys.all AV.one = true) (hs : AV.stillL ys = true)
    (hH : H[k]? = some en) (hl : ys.length = sz) (hi' : i + sz ≤ en.xs.length) (hc : en.xs.length = en.csz)
    (hk : RS P N ops l e.keep (StR R w0 gs (H.set k { en with xs := splice i ys en.xs })) Q) :
    RS P N ops (⟨none, .store t A X, ty, pos, after, none⟩ :: l) e (StR R w0 gs H) Q := rs_storeAG k hA hx (oneL_of h1) hs hH hl hi' hc hk
theorem zcf {R0 : World → Prop} {X : Operand} {x : AV} {g i c : Nat} {T : TypeId} {xs : List AV} {t : TypeId} {d : TypeDesc} [hd : TyU P t d] (ha : aggD d = false)
    (hx : e.ev X = some (.raw (.pointer (some ⟨g, i, none⟩)))) (hm : (⟨g, T, xs, c⟩ : Ent) ∈ H) (h0 : xs[i]? = some x) : OpJ P (StR R0 w0 gs H) e ⟨dst, .load t X, ty, pos, after, guard⟩ x :=
  opj_load_own (en := ⟨g, T, xs, c⟩) ha hx hm h0
theorem zcg {R0 : World → Prop} {t : TypeId} {d : TypeDesc} {z : Value} {sz b : Nat} {X : Operand} {g i c : Nat} {T : TypeId} {xs ys : List AV} [hd : TyU P t d] [hi : TyI P t z sz b] (ha : aggD d = true) (hx : e.ev X = some (.raw (.pointer (some ⟨g, i, none⟩)))) (hm : (⟨g, T, xs, c⟩ : Ent) ∈ H) (hl : Nat.ble (i + sz) xs.length = true) (hy : (xs.drop i).take sz = ys) :
    OpJ P (StR R0 w0 gs H) e ⟨dst, .load t X, ty, pos, after, guard⟩ (.agg ys) := by
  subst hy
  exact opj_loadAO (en := ⟨g, T, xs, c⟩) ha hx hm (Nat.le_of_ble_eq_true hl)
theorem zch {t : TypeId} {d : TypeDesc} {z : Value} {sz b : Nat} {X : Operand} {xs ys : List AV} [hd : TyU P t d] [hi : TyI P t z sz b] (ha : aggD d = true) (hx : e.ev X = some (AV.ptr xs)) (hl : Nat.ble sz xs.length = true) (hy : xs.take sz = ys) :
    OpJ P S e ⟨dst, .load t X, ty, pos, after, guard⟩ (.agg ys) := by
  subst hy
  exact opj_loadA ha hx (Nat.le_of_ble_eq_true hl)
theorem zam (k : Nat) {g i c : Nat} {T : TypeId} {xs ys : List AV} {t : TypeId} {z : Value} {b : Nat} [hi : TyI P t z 1 b] {A X : Operand} {x : AV} (hA : e.ev A = some (.raw (.pointer (some ⟨g, i, none⟩)))) (hx : e.ev X = some x) (h1 : oneAV x = true) (hH : H[k]? = some ⟨g, T, xs, c⟩) (hi' : Nat.blt i c = true) (hy : xs.set i x = ys)
    (hk : RS P N ops l e.keep (StR R w0 gs (H.set k ⟨g, T, ys, c⟩)) Q) :
    RS P N ops (⟨none, .store t A X, ty, pos, after, none⟩ :: l) e (StR R w0 gs H) Q := by
  subst hy
  exact rs_storeAt k (en := ⟨g, T, xs, c⟩) hA hx h1 hH (Nat.le_of_ble_eq_true hi') hk
theorem zan (k : Nat) {g i c : Nat} {T : TypeId} {xs zs : List AV} {t : TypeId} {z : Value} {sz b : Nat} [hi : TyI P t z sz b] {A X : Operand} {ys : List AV} (hA : e.ev A = some (.raw (.pointer (some ⟨g, i, none⟩)))) (hx : e.ev X = some (.agg ys)) (h1 : ys.all AV.one = true) (hs : AV.stillL ys = true)
    (hH : H[k]? = some ⟨g, T, xs, c⟩) (hl : ys.length = sz) (hi' : Nat.ble (i + sz) xs.length = true) (hc : xs.length = c) (hz : splice i ys xs = zs)
    (hk : RS P N ops l e.keep (StR R w0 gs (H.set k ⟨g, T, zs, c⟩)) Q) :
    RS P N ops (⟨none, .store t A X, ty, pos, after, none⟩ :: l) e (StR R w0 gs H) Q := by
  subst hz
  exact rs_storeA k (en := ⟨g, T, xs, c⟩) hA hx h1 hs hH hl (Nat.le_of_ble_eq_true hi') hc hk
/-- A struct that lies in a block of its own is what is returned. -/
theorem done_retC {R0 : World → Prop} {X : Type} {mk : X → AV} {post : X → List Ent} {good : X → Prop} {fn : Func} {p : Tmp} {t : TypeId} {d : TypeDesc} {z : Value} {sz b : Nat} {en : Ent} [hd : TyU P t d] [hi : TyI P t z sz b] (ha : aggD d = true) (hr : fn.results = #[.cell p t]) (y : X)
    (hp : e.look p = some (.raw (.pointer (some ⟨en.g, 0, none⟩)))) (hm : en ∈ H) (hl : en.xs.length = sz) (hmk : mk y = .agg en.xs) (hy : good y) (hs : (post y).Sublist H) :
    Done .ret e (StR R0 w0 gs H) (Ret P fn N w0 gs mk post good) := fun w hw =>
  ⟨.inl rfl, y, hy, hw.mod, fun x hx => ⟨(hw.own x (hs.subset hx)).2, (hw.own x (hs.subset hx)).1⟩, (hw.weak hs).nodup, fun a hF => by
    obtain ⟨u, hu, hru⟩ := hF.rel p _ hp
    have := hru.inv_raw
    subst this
    obtain ⟨cs, hrun, hrel⟩ := run_loadA (P := P) (t := t) (w := w) ha (bb := ⟨en.g, 0, none⟩) rfl (xs := en.xs) hl (fun j x hj => (hw.own en hm).2.cell (by simpa using hj))
    refine ⟨.agg cs.toArray, ?_, by rw [hmk]; exact .agg hrel⟩
    simp [results, hr, hu, asAddr, hrun]⟩
theorem done_retX {R0 : World → Prop} {X : Type} {mk : X → AV} {post : X → List Ent} {good : X → Prop} {fn : Func} {p : Tmp} {t : TypeId} {d : TypeDesc} {z : Value} {sz b g c : Nat} {T : TypeId} {xs ys : List AV} [hd : TyU P t d] [hi : TyI P t z sz b] (ha : aggD d = true) (hr : fn.results = #[.cell p t]) (y : X)
    (hp : e.look p = some (.raw (.pointer (some ⟨g, 0, none⟩)))) (hm : (⟨g, T, xs, c⟩ : Ent) ∈ H) (hl : Nat.beq xs.length sz = true) (hmk : mk y = .agg ys) (hxy : ys = xs) (hy : good y) (hs : (post y).Sublist H) :
    Done .ret e (StR R0 w0 gs H) (Ret P fn N w0 gs mk post good) := by
  subst hxy
  exact done_retC (en := ⟨g, T, ys, c⟩) ha hr y hp hm (Nat.eq_of_beq_eq_true hl) hmk hy hs
end
end Go.Ab
namespace Go.Ab
open Go.Proofs
instance tf35_0 : TyF Tryz.prog 35 0 0 := ⟨⟨Tryz.prog.fieldsOf 34, (Tryz.prog.fieldsOf 34)[0]?.getD default, (Tryz.prog.info? ((Tryz.prog.fieldsOf 34)[0]?.getD default).type).getD default, by kernel_rfl, by kernel_rfl, by kernel_rfl, by kernel_rfl, by kernel_rfl⟩⟩
instance tf35_1 : TyF Tryz.prog 35 1 1 := ⟨⟨Tryz.prog.fieldsOf 34, (Tryz.prog.fieldsOf 34)[1]?.getD default, (Tryz.prog.info? ((Tryz.prog.fieldsOf 34)[1]?.getD default).type).getD default, by kernel_rfl, by kernel_rfl, by kernel_rfl, by kernel_rfl, by kernel_rfl⟩⟩
instance tf65_0 : TyF Tryz.prog 65 0 0 := ⟨⟨Tryz.prog.fieldsOf 64, (Tryz.prog.fieldsOf 64)[0]?.getD default, (Tryz.prog.info? ((Tryz.prog.fieldsOf 64)[0]?.getD default).type).getD default, by kernel_rfl, by kernel_rfl, by kernel_rfl, by kernel_rfl, by kernel_rfl⟩⟩
instance tf65_1 : TyF Tryz.prog 65 1 1 := ⟨⟨Tryz.prog.fieldsOf 64, (Tryz.prog.fieldsOf 64)[1]?.getD default, (Tryz.prog.info? ((Tryz.prog.fieldsOf 64)[1]?.getD default).type).getD default, by kernel_rfl, by kernel_rfl, by kernel_rfl, by kernel_rfl, by kernel_rfl⟩⟩
instance tf65_2 : TyF Tryz.prog 65 2 2 := ⟨⟨Tryz.prog.fieldsOf 64, (Tryz.prog.fieldsOf 64)[2]?.getD default, (Tryz.prog.info? ((Tryz.prog.fieldsOf 64)[2]?.getD default).type).getD default, by kernel_rfl, by kernel_rfl, by kernel_rfl, by kernel_rfl, by kernel_rfl⟩⟩
end Go.Ab
namespace Go.Ab
open Go.Proofs
variable {R : World → Prop} [RStab R]
section
variable {P : Program} {S : World → Prop} {N : Nat} {e : Env} {Q : Exit → Env → World → Prop} {ops : Array Oper} {l : List Oper} {dst : Option Tmp} {ty : TypeId} {pos : String} {after : Array Edge} {guard : Option (Nat × Bool)}
variable {w0 : World} {gs : List Nat} {H : List Ent}
theorem opj_loadC {R0 : World → Prop} {X : Operand} {g n c : Nat} {i : Int} {f : Nat → CV} {t : TypeId} {d : TypeDesc} [hd : TyU P t d] (ha : aggD d = false)
    (hx : e.ev X = some (.raw (.pointer (some ⟨g, i.toNat * 1, none⟩)))) (hm : entC g n f c ∈ H) (h0 : 0 ≤ i ∧ i < n) : OpJ P (StR R0 w0 gs H) e ⟨dst, .load t X, ty, pos, after, guard⟩ (cA (f i.toNat)) := by
  refine opj_load_own (en := entC g n f c) ha hx hm ?_
  have hi : i.toNat < n := by omega
  rw [Nat.mul_one, List.getElem?_map, tabC_get f hi]
  rfl
end
attribute [local irreducible] WS RS Done OpJ Then InBlock Round Ret Env.sub FnH
attribute [local irreducible] tabC
end Go.Ab
namespace Go.Ab
/-- A product of bounded numbers. -/
theorem mul_bnd {p q a b : Rat} (h1 : -a ≤ p) (h2 : p ≤ a) (h3 : -b ≤ q) (h4 : q ≤ b) : -(a * b) ≤ p * q ∧ p * q ≤ a * b := by
  have x1 := Rat.mul_nonneg (show 0 ≤ a - p by grind) (show 0 ≤ b - q by grind)
  have x2 := Rat.mul_nonneg (show 0 ≤ a + p by grind) (show 0 ≤ b + q by grind)
  have x3 := Rat.mul_nonneg (show 0 ≤ a - p by grind) (show 0 ≤ b + q by grind)
  have x4 := Rat.mul_nonneg (show 0 ≤ a + p by grind) (show 0 ≤ b - q by grind)
  constructor <;> grind
/-- A multiple of a small power of a half. -/
theorem dy_rep {q : Rat} (n : Int) (j : Nat) (hn : n.natAbs ≤ 2 ^ 24) (hj : j ≤ 100) (hq : q * ((2 ^ j : Nat) : Rat) = (n : Rat)) : Rep .f32 q ∧ -p2 24 ≤ q ∧ q ≤ p2 24 := by
  have hp := p2_mul_neg (j : Int)
  rw [p2_nat] at hp
  have h2 := p2_pos (-(j : Int))
  have hq' : q = (n : Rat) * p2 (-(j : Int)) := by
    rw [← hq, Rat.mul_assoc, hp, Rat.mul_one]
  have hle : p2 (-(j : Int)) ≤ 1 := by
    have := p2_le (show -(j : Int) ≤ 0 by omega)
    rwa [p2_zero] at this
  have hn1 : ((n.natAbs : Nat) : Rat) ≤ p2 24 := by
    have h3 : ((n.natAbs : Nat) : Rat) ≤ ((2 ^ 24 : Nat) : Rat) := Rat.natCast_le_natCast.2 hn
    rw [← p2_nat] at h3
    exact h3
  have hb : n.natAbs ≤ 2 ^ (FloatKind.f32.format.fractionBits + 1) := hn
  have hl : FloatKind.f32.format.leastPlace ≤ -(j : Int) := by
    have : FloatKind.f32.format.leastPlace = -149 := by decide
    omega
  have hN0 : (0 : Rat) ≤ ((n.natAbs : Nat) : Rat) := Rat.natCast_nonneg
  have hmul : ((n.natAbs : Nat) : Rat) * p2 (-(j : Int)) ≤ p2 24 := by
    have := Rat.mul_le_mul_of_nonneg_left hle hN0
    grind
  have hpos := Rat.mul_nonneg hN0 (Rat.le_of_lt h2)
  rcases Int.le_total 0 n with h0 | h0
  · have hc : ((n.natAbs : Nat) : Rat) = (n : Rat) := by
      rw [← Rat.intCast_natCast]
      congr 1
      omega
    rw [hc] at hmul hpos
    exact ⟨.inl ⟨n.natAbs, -(j : Int), hb, hl, by rw [hc]; exact hq'⟩, by grind, by grind⟩
  · have hc : ((n.natAbs : Nat) : Rat) = -(n : Rat) := by
      rw [← Rat.intCast_natCast, ← Rat.intCast_neg]
      congr 1
      omega
    rw [hc] at hmul hpos
    exact ⟨.inr ⟨n.natAbs, -(j : Int), hb, hl, by rw [hc, hq']; grind⟩, by grind, by grind⟩
theorem fit_24 {q : Rat} (h1 : -p2 24 ≤ q) (h2 : q ≤ p2 24) : Fit .f32 q := by
  have : p2 24 < p2 (ftop .f32) := by decide +kernel
  constructor <;> grind
theorem fit_24' {q : Rat} (h1 : -p2 24 ≤ q) (h2 : q ≤ p2 24) : -p2 (ftop .f32 - 1) ≤ q ∧ q ≤ p2 (ftop .f32 - 1) := by
  have : p2 24 ≤ p2 (ftop .f32 - 1) := by decide +kernel
  constructor <;> grind
section
variable {x y : FV} {p q : Rat}
theorem add_ex (hx : Vl .f32 x p) (hy : Vl .f32 y q) (n : Int) (j : Nat) (hn : n.natAbs ≤ 2 ^ 24) (hj : j ≤ 100) (hq : (p + q) * ((2 ^ j : Nat) : Rat) = (n : Rat)) : Vl .f32 (fbin .add .f32 x y) (p + q) := by
  obtain ⟨hr, h1, h2⟩ := dy_rep n j hn hj hq
  obtain ⟨r, h3, h4⟩ := vl_add hx hy (fit_24 h1 h2)
  rwa [rnd_rep h4 hr] at h3
theorem sub_ex (hx : Vl .f32 x p) (hy : Vl .f32 y q) (n : Int) (j : Nat) (hn : n.natAbs ≤ 2 ^ 24) (hj : j ≤ 100) (hq : (p - q) * ((2 ^ j : Nat) : Rat) = (n : Rat)) : Vl .f32 (fbin .sub .f32 x y) (p - q) := by
  obtain ⟨hr, h1, h2⟩ := dy_rep n j hn hj hq
  obtain ⟨r, h3, h4⟩ := vl_sub hx hy (fit_24 h1 h2)
  rwa [rnd_rep h4 hr] at h3
theorem div_ex (hx : Vl .f32 x p) (hy : Vl .f32 y q) (h0 : q ≠ 0) {v : Rat} (hv : v * q = p) (n : Int) (j : Nat) (hn : n.natAbs ≤ 2 ^ 24) (hj : j ≤ 100) (hq : v * ((2 ^ j : Nat) : Rat) = (n : Rat)) : Vl .f32 (fbin .quo .f32 x y) v := by
  have he : p / q = v := by
    rw [← hv]
    exact Rat.mul_div_cancel h0
  obtain ⟨hr, h1, h2⟩ := dy_rep n j hn hj hq
  obtain ⟨r, h3, h4⟩ := vl_div hx hy h0 (by rw [he]; exact fit_24' h1 h2)
  rw [he] at h4
  rwa [rnd_rep h4 hr] at h3
theorem rnd_btw {k : FloatKind} {q r A B : Rat} (h : Rnd k q r) (hA : Rep k A) (hB : Rep k B) (h1 : A ≤ q) (h2 : q ≤ B) : A ≤ r ∧ r ≤ B := ⟨(h.side A hA).2 h1, (h.side B hB).1 h2⟩
/-- How near, of a number that is not above a. -/
theorem rnd_abs {q r : Rat} (h : Rnd .f32 q r) (a : Rat) (h1 : -a ≤ q) (h2 : q ≤ a) : q - (a / 8388608 + 1 / 8388608) ≤ r ∧ r ≤ q + (a / 8388608 + 1 / 8388608) := by
  have h3 := h.near a h1 h2
  have e1 : feps .f32 = 1 / 8388608 := by decide +kernel
  have e2 : ftiny .f32 ≤ 1 / 8388608 := by decide +kernel
  rw [e1] at h3
  obtain ⟨h4, h5⟩ := h3
  constructor <;> grind
end
/-- What a float is can be written. -/
theorem vl_rep {x : FV} {p : Rat} (h : Vl .f32 x p) : Rep .f32 p := by
  obtain ⟨b, s, m, e, rfl, hd, rfl⟩ := h
  obtain ⟨h1, h2, h3⟩ := single_number hd
  have hb : m ≤ 2 ^ (FloatKind.f32.format.fractionBits + 1) := Nat.le_of_lt h1
  have hl : FloatKind.f32.format.leastPlace ≤ e := Int.le_trans (by decide) h2
  unfold vl sgn
  cases s
  · refine .inl ⟨m, e, hb, hl, ?_⟩
    simp
  · refine .inr ⟨m, e, hb, hl, ?_⟩
    simp only [if_true]
    grind
theorem mul_zero_ex {x y : FV} {p : Rat} (hx : Vl .f32 x p) (hy : Vl .f32 y 0) : Vl .f32 (fbin .mul .f32 x y) 0 := by
  obtain ⟨r, h3, h4⟩ := vl_mul hx hy (by rw [Rat.mul_zero]; exact ⟨by decide +kernel, by decide +kernel⟩)
  rw [Rat.mul_zero] at h4
  rwa [rnd_rep h4 (rep_zero _)] at h3
theorem self_div_ex {x y : FV} {q : Rat} (hx : Vl .f32 x q) (hy : Vl .f32 y q) (hq : q ≠ 0) : Vl .f32 (fbin .quo .f32 x y) 1 :=
  div_ex hx hy hq (Rat.one_mul q) 1 0 (by decide) (by decide) (by decide +kernel)
theorem sub_self_ex {x y : FV} {q : Rat} (hx : Vl .f32 x q) (hy : Vl .f32 y q) : Vl .f32 (fbin .sub .f32 x y) 0 := by
  have he : q - q = 0 := Rat.sub_self
  obtain ⟨r, h3, h4⟩ := vl_sub hx hy (by rw [he]; exact ⟨by decide +kernel, by decide +kernel⟩)
  rw [he] at h4
  rwa [rnd_rep h4 (rep_zero _)] at h3
/-- A quotient is bounded by what bounds products. -/
theorem div_le_of {p q c : Rat} (hq : 0 < q) (h : p ≤ c * q) : p / q ≤ c := by
  have h1 : p / q * q = p := Rat.div_mul_cancel (Rat.ne_of_gt hq)
  exact Rat.le_of_mul_le_mul_right (by rw [h1]; exact h) hq
theorem le_div_of {p q c : Rat} (hq : 0 < q) (h : c * q ≤ p) : c ≤ p / q := by
  have h1 : p / q * q = p := Rat.div_mul_cancel (Rat.ne_of_gt hq)
  exact Rat.le_of_mul_le_mul_right (by rw [h1]; exact h) hq
end Go.Ab
namespace Go.Ab
theorem rootFrom_spec (n : Nat) : ∀ (todo root : Nat), root * root ≤ n → n < (root + 2 ^ todo) * (root + 2 ^ todo) →
    Ieee.Datum.rootFrom n todo root * Ieee.Datum.rootFrom n todo root ≤ n ∧ n < (Ieee.Datum.rootFrom n todo root + 1) * (Ieee.Datum.rootFrom n todo root + 1)
  | 0, root, h1, h2 => ⟨h1, h2⟩
  | todo + 1, root, h1, h2 => by
    unfold Ieee.Datum.rootFrom
    rw [Nat.one_shiftLeft]
    dsimp only
    have hp : 2 ^ (todo + 1) = 2 ^ todo + 2 ^ todo := by rw [Nat.pow_succ]; omega
    rw [hp, ← Nat.add_assoc] at h2
    split
    · rename_i h
      exact rootFrom_spec n todo _ h h2
    · rename_i h
      exact rootFrom_spec n todo _ h1 (by omega)
theorem root_start (n : Nat) : n < (0 + 2 ^ (n.log2 / 2 + 1)) * (0 + 2 ^ (n.log2 / 2 + 1)) := by
  rw [Nat.zero_add, ← Nat.pow_add]
  exact Nat.lt_of_lt_of_le Nat.lt_log2_self (Nat.pow_le_pow_right (by decide) (by omega))
theorem sq_le_of {a b : Rat} (ha : 0 ≤ a) (hb : 0 ≤ b) (h : a * a ≤ b * b) : a ≤ b := by
  rcases Rat.le_total (a := a) (b := b) with h1 | h1
  · exact h1
  · rcases Rat.le_iff_lt_or_eq.1 h1 with h2 | h2
    · have h3 : b * b ≤ b * a := Rat.mul_le_mul_of_nonneg_left h1 hb
      have h4 : b * a < a * a := Rat.mul_lt_mul_of_pos_right h2 (by grind)
      grind
    · rw [h2]; exact Rat.le_refl
theorem nsq_le {a b : Nat} (h : a * a ≤ b * b) : a ≤ b := Nat.mul_self_le_mul_self_iff.1 h
theorem nsq_lt {a b : Nat} (h : a * a < b * b) : a < b := Nat.mul_self_lt_mul_self_iff.1 h
/-- A root's digits with a sticky one, beside what can be written. -/
theorem root_side {k : FloatKind} {W st n : Nat} {e : Int} (hW : 2 ^ (k.format.fractionBits + 1) ≤ W) (hst : (st = 0 ∧ n = W * W) ∨ (st = 1 ∧ W * W < n ∧ n < (W + 1) * (W + 1))) {B : Rat} (hB : RepN k B) :
    ((n : Rat) * (2 * p2 e * (2 * p2 e)) ≤ B * B → ((2 * W + st : Nat) : Rat) * p2 e ≤ B) ∧ (B * B ≤ (n : Rat) * (2 * p2 e * (2 * p2 e)) → B ≤ ((2 * W + st : Nat) : Rat) * p2 e) := by
  have hup := p2_pos e
  obtain ⟨M, E, hM, hE, hBe⟩ := hB
  have hWn : W * W ≤ n := by rcases hst with ⟨_, h⟩ | ⟨_, h, _⟩ <;> omega
  rcases (show e + 1 ≤ E ∨ E ≤ e from by omega) with hle | hle
  · have hB2 : B = ((M * 2 ^ (E - (e + 1)).toNat : Nat) : Rat) * (2 * p2 e) := by
      rw [hBe, p2_split hle, p2_add, p2_one, Rat.natCast_mul]
      grind
    generalize M * 2 ^ (E - (e + 1)).toNat = N at *
    have hsq : B * B = ((N * N : Nat) : Rat) * (2 * p2 e * (2 * p2 e)) := by
      rw [hB2, Rat.natCast_mul]
      grind
    have hu2 : 0 < 2 * p2 e * (2 * p2 e) := Rat.mul_pos (by grind) (by grind)
    rw [hsq]
    refine ⟨fun h => ?_, fun h => ?_⟩
    · have h1 : n ≤ N * N := Rat.natCast_le_natCast.1 (Rat.le_of_mul_le_mul_right h hu2)
      have h2 : 2 * W + st ≤ 2 * N := by
        rcases hst with ⟨h0, h3⟩ | ⟨h0, h3, _⟩
        · have := nsq_le (a := W) (b := N) (by omega)
          omega
        · have := nsq_lt (a := W) (b := N) (by omega)
          omega
      have h3 := mul_p2_le h2 e
      rw [hB2]
      rw [Rat.natCast_mul] at h3
      have e2 : ((2 : Nat) : Rat) = 2 := rfl
      rw [e2] at h3
      grind
    · have h1 : N * N ≤ n := Rat.natCast_le_natCast.1 (Rat.le_of_mul_le_mul_right h hu2)
      have h2 : 2 * N ≤ 2 * W + st := by
        rcases hst with ⟨h0, h3⟩ | ⟨h0, _, h3⟩
        · have := nsq_le (a := N) (b := W) (by omega)
          omega
        · have := nsq_lt (a := N) (b := W + 1) (by omega)
          omega
      have h3 := mul_p2_le h2 e
      rw [hB2]
      rw [Rat.natCast_mul] at h3
      have e2 : ((2 : Nat) : Rat) = 2 := rfl
      rw [e2] at h3
      grind
  · have h3 : B ≤ (W : Rat) * p2 e := by
      rw [hBe]
      exact Rat.le_trans (Rat.mul_le_mul_of_nonneg_left (p2_le hle) Rat.natCast_nonneg) (mul_p2_le (Nat.le_trans hM hW) e)
    have hB0 : 0 ≤ B := by
      rw [hBe]
      exact Rat.mul_nonneg Rat.natCast_nonneg (Rat.le_of_lt (p2_pos E))
    have hW0 : (0 : Rat) < W := by
      rw [show (0 : Rat) = ((0 : Nat) : Rat) from rfl]
      exact Rat.natCast_lt_natCast.2 (Nat.lt_of_lt_of_le (Nat.two_pow_pos _) hW)
    have hX : 0 < (W : Rat) * p2 e := Rat.mul_pos hW0 hup
    have hc : ((2 * W + st : Nat) : Rat) * p2 e = 2 * ((W : Rat) * p2 e) + (st : Rat) * p2 e := by
      rw [Rat.natCast_add, Rat.natCast_mul]
      show (2 * (W : Rat) + st) * p2 e = _
      grind
    have hst0 : 0 ≤ (st : Rat) * p2 e := Rat.mul_nonneg Rat.natCast_nonneg (Rat.le_of_lt hup)
    rw [hc]
    refine ⟨fun h => ?_, fun _ => by grind⟩
    exfalso
    have h4 : ((W * W : Nat) : Rat) ≤ (n : Rat) := Rat.natCast_le_natCast.2 hWn
    rw [Rat.natCast_mul] at h4
    have h5 := Rat.mul_le_mul_of_nonneg_right h4 (show 0 ≤ 2 * p2 e * (2 * p2 e) from Rat.mul_nonneg (by grind) (by grind))
    have h6 : B * B ≤ (W : Rat) * p2 e * ((W : Rat) * p2 e) := Rat.le_trans (Rat.mul_le_mul_of_nonneg_left h3 hB0) (Rat.mul_le_mul_of_nonneg_right h3 (Rat.le_of_lt hX))
    have h7 := Rat.mul_pos hX hX
    grind
/-- A root of a 64-bit number. -/
theorem vl_sqrt {x : FV} {p : Rat} (hx : Vl .f64 x p) (h1 : p2 (-400) ≤ p) (h2 : p ≤ p2 200) :
    ∃ r, Vl .f64 (fsqrt x) r ∧ 0 < r ∧ (∀ B, RepN .f64 B → (p ≤ B * B → r ≤ B) ∧ (B * B ≤ p → B ≤ r)) ∧ p ≤ r * r * (1 + p2 (-40)) ∧ r * r ≤ p * (1 + p2 (-40)) := by
  obtain ⟨b, s, m, i, rfl, hd, hq⟩ := hx
  have hp0 : 0 < p := Std.lt_of_lt_of_le (p2_pos _) h1
  have hs : s = false := by
    cases s
    · rfl
    · exfalso
      have := Rat.mul_nonneg (Rat.natCast_nonneg (a := m)) (Rat.le_of_lt (p2_pos i))
      unfold vl sgn at hq
      simp only [if_true] at hq
      grind
  subst hs
  have hm : m ≠ 0 := fun h => by
    subst h
    rw [vl_zero] at hq
    grind
  have hpv : p = (m : Rat) * p2 i := by
    rw [← hq]
    unfold vl sgn
    simp
  have hroot : ∃ more : Nat, 108 ≤ m.log2 + more ∧ (i - more) % 2 = 0 ∧ fsqrt (some b) = some (FloatKind.f64.format.nearest false (2 * Ieee.Datum.rootFrom (m <<< more) ((m <<< more).log2 / 2 + 1) 0 + (Ieee.Datum.rootFrom (m <<< more) ((m <<< more).log2 / 2 + 1) 0 * Ieee.Datum.rootFrom (m <<< more) ((m <<< more).log2 / 2 + 1) 0 != m <<< more).toNat) ((i - more) / 2 - 1)) := by
    refine ⟨2 * 54 - m.log2 + ((i - (2 * 54 - m.log2 : Nat)) % 2).toNat, by omega, by omega, ?_⟩
    have hd' : FloatKind.f64.format.read b = .number false m i := hd
    have hfb : FloatKind.f64.format.fractionBits + 2 = 54 := rfl
    simp [fsqrt, Ieee.Format.sqrt, hd', Ieee.Datum.root, hm, Ieee.Format.write, hfb]
  obtain ⟨more, hmore, hev, hfs⟩ := hroot
  rw [hfs]
  clear hfs hd
  have hn0 : 2 ^ 108 ≤ m <<< more := by
    rw [Nat.shiftLeft_eq]
    have h3 : 2 ^ m.log2 * 2 ^ more ≤ m * 2 ^ more := Nat.mul_le_mul_right _ (Nat.log2_self_le hm)
    rw [← Nat.pow_add] at h3
    exact Nat.le_trans (Nat.pow_le_pow_right (by decide) (by omega)) h3
  have hval := mul_shl m more (i - more)
  rw [show i - (more : Int) + more = i from by omega, ← hpv] at hval
  have hu : p2 (i - more) = 2 * p2 ((i - more) / 2 - 1) * (2 * p2 ((i - more) / 2 - 1)) := by
    have e1 : (2 : Rat) * p2 ((i - more) / 2 - 1) = p2 ((i - more) / 2) := by
      rw [← p2_one, ← p2_add]
      congr 1
      omega
    rw [e1, ← p2_add]
    congr 1
    omega
  rw [hu] at hval
  generalize m <<< more = n at *
  obtain ⟨hw1, hw2⟩ := rootFrom_spec n (n.log2 / 2 + 1) 0 (Nat.zero_le _) (root_start n)
  generalize Ieee.Datum.rootFrom n (n.log2 / 2 + 1) 0 = W at *
  generalize (i - more) / 2 - 1 = e at *
  have hW : 2 ^ (FloatKind.f64.format.fractionBits + 1) ≤ W := by
    show 2 ^ 53 ≤ W
    have := nsq_lt (a := 2 ^ 53) (b := W + 1) (by omega)
    omega
  obtain ⟨st, hst, hstc⟩ : ∃ st, (W * W != n).toNat = st ∧ ((st = 0 ∧ n = W * W) ∨ (st = 1 ∧ W * W < n ∧ n < (W + 1) * (W + 1))) := by
    refine ⟨_, rfl, ?_⟩
    by_cases h : W * W = n
    · left
      simp [h]
    · right
      have : (W * W != n) = true := by simpa using h
      rw [this]
      exact ⟨rfl, by omega, hw2⟩
  rw [hst]
  have hside := fun {B} (hB : RepN .f64 B) => root_side (k := .f64) (e := e) hW hstc (B := B) hB
  rw [hval] at hside
  have hr100 : RepN .f64 (p2 100) := ⟨1, 100, Nat.one_le_two_pow, by decide, by rw [show ((1 : Nat) : Rat) = 1 from rfl, Rat.one_mul]⟩
  have hrm : RepN .f64 (p2 (-200)) := ⟨1, -200, Nat.one_le_two_pow, by decide, by rw [show ((1 : Nat) : Rat) = 1 from rfl, Rat.one_mul]⟩
  have hA1 := (hside hr100).1 (by rw [← p2_add]; exact h2)
  have hA2 := (hside hrm).2 (by rw [← p2_add]; exact h1)
  have htop : p2 100 < p2 (ftop .f64) := by decide +kernel
  obtain ⟨m', e', g1, g2, g3, g4, g5⟩ := nearest_rnd' .f64 false (2 * W + st) e (Std.lt_of_le_of_lt hA1 htop)
  have hup := p2_pos e
  have hWr : (1 : Rat) ≤ W * p2 (-53) := by
    have h3 := mul_p2_le hW (-53)
    rw [p2_shl] at h3
    exact h3
  have hc : ((2 * W + st : Nat) : Rat) * p2 e = 2 * ((W : Rat) * p2 e) + (st : Rat) * p2 e := by
    rw [Rat.natCast_add, Rat.natCast_mul]
    show (2 * (W : Rat) + st) * p2 e = _
    grind
  -- p beside the square of what is rounded
  have hpA : p ≤ (((2 * W + st : Nat) : Rat) * p2 e + p2 e) * (((2 * W + st : Nat) : Rat) * p2 e + p2 e) ∧ (((2 * W + st : Nat) : Rat) * p2 e - p2 e) * (((2 * W + st : Nat) : Rat) * p2 e - p2 e) ≤ p := by
    rw [hc, ← hval]
    rcases hstc with ⟨h0, h3⟩ | ⟨h0, h3, h4⟩
    · subst h0
      rw [show ((0 : Nat) : Rat) = 0 from rfl, Rat.zero_mul, Rat.add_zero]
      have h5 : (n : Rat) = (W : Rat) * W := by rw [h3, Rat.natCast_mul]
      rw [h5]
      have h6 : 0 ≤ (W : Rat) * p2 e := Rat.mul_nonneg Rat.natCast_nonneg (Rat.le_of_lt hup)
      have h7 := Rat.mul_nonneg h6 (Rat.le_of_lt hup)
      have h8 := Rat.mul_pos hup hup
      have h9 : p2 e * p2 e ≤ (W : Rat) * p2 e * p2 e := by
        have hW1 : (1 : Rat) ≤ W := by
          have := Rat.natCast_le_natCast.2 (show 1 ≤ W from Nat.le_trans (by decide) hW)
          exact this
        have := Rat.mul_le_mul_of_nonneg_right hW1 (Rat.le_of_lt h8)
        grind
      constructor <;> grind
    · subst h0
      rw [show ((1 : Nat) : Rat) = 1 from rfl, Rat.one_mul]
      have h5 : ((W * W : Nat) : Rat) < n := Rat.natCast_lt_natCast.2 h3
      have h6 : (n : Rat) < (((W + 1) * (W + 1) : Nat) : Rat) := Rat.natCast_lt_natCast.2 h4
      rw [Rat.natCast_mul] at h5 h6
      rw [Rat.natCast_add, show ((1 : Nat) : Rat) = 1 from rfl] at h6
      have hu2 : 0 < 2 * p2 e * (2 * p2 e) := Rat.mul_pos (by grind) (by grind)
      have h7 := Rat.mul_lt_mul_of_pos_right h5 hu2
      have h8 := Rat.mul_lt_mul_of_pos_right h6 hu2
      constructor <;> grind
  have huA : p2 e ≤ ((2 * W + st : Nat) : Rat) * p2 e * p2 (-54) := by
    rw [hc]
    have h3 : 0 ≤ (st : Rat) * p2 e := Rat.mul_nonneg Rat.natCast_nonneg (Rat.le_of_lt hup)
    have h4 := Rat.mul_nonneg h3 (Rat.le_of_lt (p2_pos (-54)))
    have h5 := Rat.mul_le_mul_of_nonneg_right hWr (Rat.le_of_lt hup)
    have h6 : p2 (-53) = 2 * p2 (-54) := by decide +kernel
    rw [h6] at h5
    grind
  have e1 : feps .f64 = p2 (-52) := rfl
  have e2 : ftiny .f64 ≤ p2 (-200) * p2 (-52) := by decide +kernel
  have hr' : vl false m' e' = (m' : Rat) * p2 e' := by unfold vl sgn; simp
  have hv := Vl.of (k := .f64) g1
  rw [hr'] at hv
  have hrv : ∀ B, RepN .f64 B → (p ≤ B * B → (m' : Rat) * p2 e' ≤ B) ∧ (B * B ≤ p → B ≤ (m' : Rat) * p2 e') := fun B hB => ⟨fun h => (g3 B hB).1 ((hside hB).1 h), fun h => (g3 B hB).2 ((hside hB).2 h)⟩
  generalize (m' : Rat) * p2 e' = r at *
  generalize ((2 * W + st : Nat) : Rat) * p2 e = A at *
  have hp100 := p2_pos (-200)
  have hr0 : 0 < r := Std.lt_of_lt_of_le hp100 ((hrv _ hrm).2 (by rw [← p2_add]; exact h1))
  rw [e1] at g4 g5
  have hA0 : 0 < A := Std.lt_of_lt_of_le hp100 hA2
  have e3 := Rat.mul_le_mul_of_nonneg_right hA2 (Rat.le_of_lt (p2_pos (-52)))
  -- A within a small share of r
  have c52 : p2 (-52) = 1 / 4503599627370496 := by decide +kernel
  have c54 : p2 (-54) = 1 / 18014398509481984 := by decide +kernel
  have c40 : p2 (-40) = 1 / 1099511627776 := by decide +kernel
  rw [c52] at g4 g5 e2 e3
  rw [c54] at huA
  have k1 : A ≤ r * (1 + 1 / 1000000000000000) := by grind
  have k2 : r ≤ A * (1 + 1 / 1000000000000000) := by grind
  have k3 : A + p2 e ≤ r * (1 + 1 / 100000000000000) := by grind
  have k4 : r * (1 - 1 / 100000000000000) ≤ A - p2 e := by grind
  refine ⟨r, hv, hr0, hrv, ?_, ?_⟩
  · rw [c40]
    have q1 : (A + p2 e) * (A + p2 e) ≤ r * (1 + 1 / 100000000000000) * (r * (1 + 1 / 100000000000000)) :=
      Rat.le_trans (Rat.mul_le_mul_of_nonneg_left k3 (by grind)) (Rat.mul_le_mul_of_nonneg_right k3 (by grind))
    have q2 := Rat.mul_pos hr0 hr0
    grind
  · rw [c40]
    have q1 : r * (1 - 1 / 100000000000000) * (r * (1 - 1 / 100000000000000)) ≤ (A - p2 e) * (A - p2 e) :=
      Rat.le_trans (Rat.mul_le_mul_of_nonneg_left k4 (by grind)) (Rat.mul_le_mul_of_nonneg_right k4 (by grind))
    have q2 := Rat.mul_pos hr0 hr0
    grind
end Go.Ab
namespace Go.Ab
def powF (x y : FV) : FV := fbin .add .f64 (fbin .mul .f64 (fconv .f32 .f64 x) (fconv .f32 .f64 x)) (fbin .mul .f64 (fconv .f32 .f64 y) (fconv .f32 .f64 y))
def longF (x y : FV) : FV := fconv .f64 .f32 (fsqrt (powF x y))
theorem rep_sq {B : Rat} (h : Rep .f32 B) : RepN .f64 (B * B) ∧ (B = 0 ∨ p2 (-298) ≤ B * B) := by
  have key : ∀ B : Rat, RepN .f32 B → RepN .f64 (B * B) ∧ (B = 0 ∨ p2 (-298) ≤ B * B) := fun B ⟨M, E, hM, hE, hB⟩ => by
    have hM' : M ≤ 2 ^ 24 := hM
    have hE' : -149 ≤ E := hE
    have e : B * B = ((M * M : Nat) : Rat) * p2 (E + E) := by rw [hB, Rat.natCast_mul, p2_add]; grind
    refine ⟨⟨M * M, E + E, ?_, ?_, e⟩, ?_⟩
    · have h1 : M * M ≤ 2 ^ 24 * 2 ^ 24 := Nat.mul_le_mul hM' hM'
      exact Nat.le_trans h1 (by decide)
    · have : FloatKind.f64.format.leastPlace = -1074 := by decide
      omega
    · rcases Nat.eq_zero_or_pos M with h0 | h0
      · left
        rw [hB, h0, show ((0 : Nat) : Rat) = 0 from rfl, Rat.zero_mul]
      · right
        rw [e]
        have h1 : (1 : Rat) ≤ ((M * M : Nat) : Rat) := by
          have := Rat.natCast_le_natCast.2 (show 1 ≤ M * M from Nat.mul_pos h0 h0)
          exact this
        have h2 := p2_le (show -298 ≤ E + E by omega)
        have h3 := Rat.mul_le_mul_of_nonneg_right h1 (Rat.le_of_lt (p2_pos (E + E)))
        rw [Rat.one_mul] at h3
        exact Rat.le_trans h2 h3
  rcases h with h | h
  · exact key B h
  · have := key (-B) h
    have e : -B * -B = B * B := by grind
    rw [e] at this
    exact ⟨this.1, this.2.imp (fun h => by grind) id⟩
theorem sqrt_zero {x : FV} (hx : Vl .f64 x 0) : Vl .f64 (fsqrt x) 0 := by
  obtain ⟨b, s, m, i, rfl, hd, hq⟩ := hx
  have hm : m = 0 := by
    rcases Nat.eq_zero_or_pos m with h | h
    · exact h
    · exfalso
      have h1 : (1 : Rat) ≤ ((m : Nat) : Rat) := by
        have := Rat.natCast_le_natCast.2 h
        exact this
      have h2 := p2_pos i
      have h3 := Rat.mul_le_mul_of_nonneg_right h1 (Rat.le_of_lt h2)
      unfold vl sgn at hq
      cases s
      · simp only [Bool.false_eq_true, if_false] at hq
        grind
      · simp only [if_true] at hq
        grind
  subst hm
  have hd' : FloatKind.f64.format.read b = .number s 0 i := hd
  have hfb : FloatKind.f64.format.fractionBits + 2 = 54 := rfl
  cases s
  · have : fsqrt (some b) = some (FloatKind.f64.format.nearest false 0 i) := by
      simp [fsqrt, Ieee.Format.sqrt, hd', Ieee.Datum.root, Ieee.Format.write]
    rw [this]
    have h0 : FloatKind.f64.format.nearest false 0 i = 0 := by unfold Ieee.Format.nearest; rw [if_pos rfl]; rfl
    rw [h0]
    exact Vl.cs (by decide +kernel)
  · have : fsqrt (some b) = some (FloatKind.f64.format.nearest true 0 i) := by
      simp [fsqrt, Ieee.Format.sqrt, hd', Ieee.Datum.root, Ieee.Format.write]
    rw [this]
    have h0 : FloatKind.f64.format.nearest true 0 i = 9223372036854775808 := by unfold Ieee.Format.nearest; rw [if_pos rfl]; rfl
    rw [h0]
    exact Vl.cs (by decide +kernel)
section
variable {x y : FV} {p q : Rat}
theorem vl_powB (hx : Vl .f32 x p) (hy : Vl .f32 y q) (hp : -p2 70 ≤ p ∧ p ≤ p2 70) (hq : -p2 70 ≤ q ∧ q ≤ p2 70) : ∃ P, Vl .f64 (powF x y) P ∧ Rnd .f64 (p * p + q * q) P ∧ p * p + q * q ≤ p2 141 := by
  have e60 : p2 70 * p2 70 = p2 140 := by decide +kernel
  have e61 : p2 140 + p2 140 = p2 141 := by decide +kernel
  have f60 : p2 141 < p2 (ftop .f64) := by decide +kernel
  have n60 := p2_pos 140
  have b1 := mul_bnd hp.1 hp.2 hp.1 hp.2
  have b2 := mul_bnd hq.1 hq.2 hq.1 hq.2
  rw [e60] at b1 b2
  obtain ⟨a, ha, ra⟩ := vl_mul (vl_wide hx) (vl_wide hx) (show Fit .f64 (p * p) by constructor <;> grind)
  obtain ⟨b, hb, rb⟩ := vl_mul (vl_wide hy) (vl_wide hy) (show Fit .f64 (q * q) by constructor <;> grind)
  rw [rnd_rep ra (.inl (rep_sq (vl_rep hx)).1)] at ha
  rw [rnd_rep rb (.inl (rep_sq (vl_rep hy)).1)] at hb
  obtain ⟨P, hP, rP⟩ := vl_add ha hb (show Fit .f64 (p * p + q * q) by constructor <;> grind)
  exact ⟨P, hP, rP, by grind⟩
theorem vl_longB (hx : Vl .f32 x p) (hy : Vl .f32 y q) (hp : -p2 70 ≤ p ∧ p ≤ p2 70) (hq : -p2 70 ≤ q ∧ q ≤ p2 70) :
    ∃ R, Vl .f32 (longF x y) R ∧ ConvOk .f64 .f32 (fsqrt (powF x y)) ∧ 0 ≤ R ∧ (∀ B, RepN .f32 B → (p * p + q * q ≤ B * B → R ≤ B) ∧ (B * B ≤ p * p + q * q → B ≤ R)) ∧
      (p2 (-90) ≤ p * p + q * q → p * p + q * q ≤ R * R * (1 + p2 (-20)) ∧ R * R ≤ (p * p + q * q) * (1 + p2 (-20))) := by
  obtain ⟨P, hP, rP, P61⟩ := vl_powB hx hy hp hq
  have hs1 := rep_sq (vl_rep hx)
  have hs2 := rep_sq (vl_rep hy)
  have hpp : 0 ≤ p * p := by
    rcases Rat.le_total (a := 0) (b := p) with h | h
    · exact Rat.mul_nonneg h h
    · have := Rat.mul_nonneg (show 0 ≤ -p by grind) (show 0 ≤ -p by grind); grind
  have hqq : 0 ≤ q * q := by
    rcases Rat.le_total (a := 0) (b := q) with h | h
    · exact Rat.mul_nonneg h h
    · have := Rat.mul_nonneg (show 0 ≤ -q by grind) (show 0 ≤ -q by grind); grind
  have n298 := p2_pos (-298)
  have hsd : ∀ B, RepN .f32 B → (p * p + q * q ≤ B * B → P ≤ B * B) ∧ (B * B ≤ p * p + q * q → B * B ≤ P) := fun B hB => rP.side _ (.inl (rep_sq (.inl hB)).1)
  by_cases h0 : p * p + q * q = 0
  · have hP0 : P = 0 := by
      rw [h0] at rP
      exact rnd_rep rP (rep_zero _)
    rw [hP0] at hP
    have h1 := sqrt_zero hP
    have hf : Fit .f32 0 := ⟨by decide +kernel, by decide +kernel⟩
    obtain ⟨R, hR, hRr⟩ := vl_narrow h1 hf
    obtain rfl := rnd_rep hRr (rep_zero _)
    refine ⟨0, hR, vl_narrow_ok h1 hf, Rat.le_refl, fun B hB => ⟨fun _ => ?_, fun h => ?_⟩, fun h => ?_⟩
    · obtain ⟨M, E, _, _, rfl⟩ := hB
      exact Rat.mul_nonneg Rat.natCast_nonneg (Rat.le_of_lt (p2_pos E))
    · rw [h0] at h
      obtain ⟨M, E, _, _, rfl⟩ := hB
      have hb : 0 ≤ (M : Rat) * p2 E := Rat.mul_nonneg Rat.natCast_nonneg (Rat.le_of_lt (p2_pos E))
      rcases (show (M : Rat) * p2 E = 0 ∨ 0 < (M : Rat) * p2 E from by grind) with h4 | h4
      · grind
      · have := Rat.mul_pos h4 h4
        grind
    · have := p2_pos (-90)
      grind
  · have hge : p2 (-298) ≤ p * p + q * q := by
      rcases hs1.2 with h1 | h1
      · rcases hs2.2 with h2 | h2
        · subst h1 h2
          exfalso
          exact h0 (by grind)
        · grind
      · grind
    have hPge : p2 (-298) ≤ P := (rP.side _ (.inl ⟨1, -298, by decide, by decide, by rw [show ((1 : Nat) : Rat) = 1 from rfl, Rat.one_mul]⟩)).2 hge
    have hPle : P ≤ p2 141 := (rP.side _ (.inl ⟨1, 141, by decide, by decide, by rw [show ((1 : Nat) : Rat) = 1 from rfl, Rat.one_mul]⟩)).1 P61
    obtain ⟨r, hr, hr0, hside, hn1, hn2⟩ := vl_sqrt hP (Rat.le_trans (p2_le (by decide)) hPge) (Rat.le_trans hPle (p2_le (by decide)))
    have hwide : ∀ B, RepN .f32 B → RepN .f64 B := fun B ⟨M, E, hM, hE, hB⟩ => ⟨M, E, Nat.le_trans hM (by decide), Int.le_trans (by decide) hE, hB⟩
    have hr50 : RepN .f32 (p2 72) := ⟨1, 72, Nat.one_le_two_pow, by decide, by rw [show ((1 : Nat) : Rat) = 1 from rfl, Rat.one_mul]⟩
    have k1 := (hside _ (hwide _ hr50)).1 (by rw [← p2_add]; exact Rat.le_trans hPle (p2_le (by decide)))
    have htop : p2 72 < p2 (ftop .f32) := by decide +kernel
    have hfit : Fit .f32 r := ⟨by have := p2_pos (ftop .f32); grind, Std.lt_of_le_of_lt k1 htop⟩
    obtain ⟨R, hR, hRr⟩ := vl_narrow hr hfit
    have hR0 : 0 ≤ R := (hRr.side 0 (rep_zero _)).2 (Rat.le_of_lt hr0)
    have hs3 : ∀ B, RepN .f32 B → (p * p + q * q ≤ B * B → R ≤ B) ∧ (B * B ≤ p * p + q * q → B ≤ R) := fun B hB => ⟨fun h => (hRr.side B (.inl hB)).1 ((hside B (hwide B hB)).1 ((hsd B hB).1 h)), fun h => (hRr.side B (.inl hB)).2 ((hside B (hwide B hB)).2 ((hsd B hB).2 h))⟩
    refine ⟨R, hR, vl_narrow_ok hr hfit, hR0, hs3, fun h90 => ?_⟩
    have hrm : RepN .f32 (p2 (-45)) := ⟨1, -45, Nat.one_le_two_pow, by decide, by rw [show ((1 : Nat) : Rat) = 1 from rfl, Rat.one_mul]⟩
    have k2 := (hside _ (hwide _ hrm)).2 ((hsd _ hrm).2 (by rw [← p2_add]; exact h90))
    have k3 := (hs3 _ hrm).2 (by rw [← p2_add]; exact h90)
    have h45 := p2_pos (-45)
    obtain ⟨n1, n2⟩ := hRr.near r (by grind) Rat.le_refl
    obtain ⟨n3, n4⟩ := rP.near (p * p + q * q) (by grind) Rat.le_refl
    have e1 : feps .f32 = 1 / 8388608 := by decide +kernel
    have e2 : ftiny .f32 ≤ p2 (-45) * (1 / 1000000000000) := by decide +kernel
    have e3 : p2 (-20) = 1 / 1048576 := by decide +kernel
    have e4 : p2 (-40) = 1 / 1099511627776 := by decide +kernel
    have e5 : feps .f64 = 1 / 4503599627370496 := by decide +kernel
    have e6 : ftiny .f64 ≤ p2 (-90) * (1 / 1000000000000) := by decide +kernel
    rw [e1] at n1 n2
    rw [e4] at hn1 hn2
    rw [e5] at n3 n4
    have e7 := Rat.mul_le_mul_of_nonneg_right k2 (show (0 : Rat) ≤ 1 / 1000000000000 by decide +kernel)
    have e8 := Rat.mul_le_mul_of_nonneg_right h90 (show (0 : Rat) ≤ 1 / 1000000000000 by decide +kernel)
    have m1 : r ≤ R * (1 + 13 / 100000000) := by grind
    have m2 : R ≤ r * (1 + 13 / 100000000) := by grind
    have q1 : r * r ≤ R * (1 + 13 / 100000000) * (R * (1 + 13 / 100000000)) :=
      Rat.le_trans (Rat.mul_le_mul_of_nonneg_left m1 (by grind)) (Rat.mul_le_mul_of_nonneg_right m1 (by grind))
    have q2 : R * R ≤ r * (1 + 13 / 100000000) * (r * (1 + 13 / 100000000)) :=
      Rat.le_trans (Rat.mul_le_mul_of_nonneg_left m2 (by grind)) (Rat.mul_le_mul_of_nonneg_right m2 (by grind))
    have hRp : 0 < R := by grind
    have q3 := Rat.mul_pos hRp hRp
    have q4 := Rat.mul_pos hr0 hr0
    rw [e3]
    generalize p * p + q * q = T at *
    have m3 : T ≤ P * (1 + 1 / 100000000000) := by grind
    have m4 : P ≤ T * (1 + 1 / 100000000000) := by grind
    constructor
    · grind
    · grind
theorem vl_long (hx : Vl .f32 x p) (hy : Vl .f32 y q) (hp : -p2 30 ≤ p ∧ p ≤ p2 30) (hq : -p2 30 ≤ q ∧ q ≤ p2 30) :
    ∃ R, Vl .f32 (longF x y) R ∧ ConvOk .f64 .f32 (fsqrt (powF x y)) ∧ 0 ≤ R ∧ (∀ B, RepN .f32 B → (p * p + q * q ≤ B * B → R ≤ B) ∧ (B * B ≤ p * p + q * q → B ≤ R)) ∧
      (p2 (-90) ≤ p * p + q * q → p * p + q * q ≤ R * R * (1 + p2 (-20)) ∧ R * R ≤ (p * p + q * q) * (1 + p2 (-20))) := by
  have h : p2 30 ≤ p2 70 := p2_le (by decide)
  exact vl_longB hx hy (by constructor <;> grind) (by constructor <;> grind)
end
end Go.Ab
