/- Part 3 of the texts on which the law leans, joined: The length of a complex number, as it is computed. No conditions. -/
import Derived.Test.YtljgokghchhjaaaRows
import Derived.KernelRfl
import Derived.Test.YtljgokghchhjaaaZab
namespace Go.Ab
def drawOk1 (ops : Array Oper) (n : Nat) : Bool :=
  (match ops[n]? with
    | some o => o.dst.isNone && o.guard.isNone && (looks ops o).all (fun t => (List.range n).all fun j => gslot ops j != some t || ((Region.before ops).getD n 0).testBit j)
    | none => false) &&
  (List.range n).all (fun i => match ops[i]? with
    | some o => o.dst.isSome && (List.range n).all (fun j => j == i || gslot ops j != o.dst) &&
        (looks ops o).all (fun t => (List.range n).all fun j => gslot ops j != some t || (decide (j < i) && (directs o).contains j))
    | none => false) &&
  (List.range ops.size).all (fun k => decide (k < n + 1) || (List.range k).all fun i => ((Region.before ops).getD k 0).testBit i) &&
  (List.range ops.size).all (fun k => match ops[k]? with
    | some o => (directs o).all fun j => decide (j < k)
    | none => false)
/-- What a late operation looks at is told without a world. -/
def stillAt (e : Env) (t : Nat) : Bool := match e.look t with
  | some v => v.still
  | none => true
def lateStill (ops : Array Oper) (n : Nat) (e : Env) : Bool :=
  (List.range n).all fun i => ((Region.before ops).getD n 0).testBit i || (match ops[i]? with
    | some o => (looks ops o).all (stillAt e)
    | none => true)
/-- An operation that turns the world and gives nothing. -/
def EffJ (P : Program) (S0 S1 : World → Prop) (e : Env) (o : Oper) : Prop :=
  ∀ (a : Act) (w : World) (K : Act → World → Prop) (Q : Exit → Act → World → Prop), S0 w →
    (∀ x ∈ o.op.operands.toList, ∀ y, e.ev x = some y → Rel w y (a.eval x)) →
    (∀ w', S1 w' → K a w') → o.wp P a w K Q

def kp (v : AV) : AV := v.keep
theorem kp_still {v : AV} (h : v.still = true) : kp v = v := AV.keep_still h
theorem rel_kp {w : World} {v : AV} {u : Value} (h : Rel w v u) : Rel w (kp v) u := by
  unfold kp
  cases hs : v.still with
  | true => rw [AV.keep_still hs]; exact h
  | false => rw [AV.keep_not hs]; exact .q trivial
theorem rel_kp_any {w w' : World} {v : AV} {u : Value} (h : Rel w v u) : Rel w' (kp v) u := by
  unfold kp
  cases hs : v.still with
  | true => rw [AV.keep_still hs]; exact h.any hs
  | false => rw [AV.keep_not hs]; exact .q trivial
theorem look_keep_kp : ∀ (e : Env) (t : Nat), e.keep.look t = (e.look t).map kp
  | [], _ => rfl
  | (d, v) :: r, t => by
    simp only [Env.keep, Env.look]
    cases Nat.beq d t with
    | true => rfl
    | false => exact look_keep_kp r t

section
variable {P : Program} {N : Nat} {S S0 S1 W : World → Prop} {e : Env} {Q : Exit → Env → World → Prop} {ops : Array Oper} {l : List Oper} {o : Oper}
theorem drawOk1_spec {n : Nat} (h : drawOk1 ops n = true) : (∃ o, ops[n]? = some o ∧ o.dst = none ∧ o.guard = none ∧ ∀ t ∈ looks ops o, ∀ j, j < n → gslot ops j = some t → Must ops j n) ∧
    (∀ i o, i < n → ops[i]? = some o → (∃ d, o.dst = some d) ∧ (∀ j, j < n → j ≠ i → gslot ops j ≠ o.dst) ∧ ∀ t ∈ looks ops o, ∀ j, j < n → gslot ops j = some t → j < i ∧ j ∈ directs o) ∧
    (∀ k i, n + 1 ≤ k → k < ops.size → i < k → Must ops i k) ∧ (∀ k o, ops[k]? = some o → ∀ j ∈ directs o, j < k) := by
  unfold drawOk1 at h
  simp only [Bool.and_eq_true, List.all_eq_true, List.mem_range] at h
  obtain ⟨⟨⟨h1, h2⟩, h3⟩, h4⟩ := h
  refine ⟨?_, fun i o hi ho => ?_, fun k i hk hks hik => ?_, fun k o ho j hj => ?_⟩
  · cases ho : ops[n]? with
    | none => simp [ho] at h1
    | some o =>
      simp only [ho, Bool.and_eq_true, List.all_eq_true, List.mem_range, Bool.or_eq_true, bne_iff_ne, Option.isNone_iff_eq_none] at h1
      obtain ⟨⟨ha, hb⟩, hc⟩ := h1
      exact ⟨o, rfl, ha, hb, fun t ht j hj hg => before_must ops n j ((hc t ht j hj).resolve_left fun hne => hne hg)⟩
  · have := h2 i hi
    simp only [ho, Bool.and_eq_true, List.all_eq_true, List.mem_range, Bool.or_eq_true, beq_iff_eq, bne_iff_ne, decide_eq_true_eq, List.contains_iff_mem] at this
    obtain ⟨⟨ha, hb⟩, hc⟩ := this
    refine ⟨Option.isSome_iff_exists.1 ha, fun j hj hji => (hb j hj).resolve_left hji, fun t ht j hj hg => ?_⟩
    exact (hc t ht j hj).resolve_left (fun hne => hne hg)
  · have := h3 k hks
    simp only [Bool.or_eq_true, decide_eq_true_eq, List.all_eq_true, List.mem_range] at this
    exact before_must ops k i ((this.resolve_left (by omega)) i hik)
  · have hk : k < ops.size := (Array.getElem?_eq_some_iff.1 ho).1
    have := h4 k hk
    simp only [ho, List.all_eq_true, decide_eq_true_eq] at this
    exact this j hj

/-- What holds while the operations of a region come. -/
structure DI (N : Nat) (ops : Array Oper) (ps : List (Nat × AV)) (e : Env) (S : World → Prop) (κ : AV → AV) (L : Array Bool) (a : Act) (w : World) : Prop where
  hL : L.size = ops.size
  hd : Down ops L
  hS : S w
  df : a.defers = []
  sz : a.tmps.size = N
  vals : ∀ i p, ps[i]? = some p → Listed L i → ∃ u, a.tmps[p.1]? = some u ∧ Rel w (κ p.2) u
  base : ∀ t v, t ∉ ps.map (·.1) → e.look t = some v → ∃ u, a.tmps[t]? = some u ∧ Rel w (κ v) u

theorem DI.pure_step {ps : List (Nat × AV)} {n : Nat} [Cl S] [Cl W] {κ : AV → AV} {Q' : Exit → Act → World → Prop} {K : Act → World → Prop} (hlen : ps.length = n) (hnops : n ≤ ops.size)
    (hκ : ∀ w v u, Rel w v u → Rel w (κ v) u) (hSW : ∀ w, S w → W w)
    (hop : ∀ i, i < n → ∃ o p, ops[i]? = some o ∧ ps[i]? = some p ∧ o.dst = some p.1 ∧ p.1 < N ∧ OpG P W ops (after1 (ps.take i) e) o p.2)
    (hslot : ∀ i p, ps[i]? = some p → gslot ops i = some p.1)
    (hfirst : ∀ i o, i < n → ops[i]? = some o → (∃ d, o.dst = some d) ∧ (∀ j, j < n → j ≠ i → gslot ops j ≠ o.dst) ∧ ∀ t ∈ looks ops o, ∀ j, j < n → gslot ops j = some t → j < i ∧ j ∈ directs o)
    {L : Array Bool} {a : Act} {w : World} (hI : DI N ops ps e S κ L a w) {i : Nat} (hi : i ∈ Region.ready .any ops L) (hin : i < n)
    (hk : ∀ o, ops[i]? = some o → ∀ t ∈ looks ops o, ∀ v, (after1 (ps.take i) e).look t = some v → κ v = v)
    (hK : ∀ a' w', DI N ops ps e S κ (L.setIfInBounds i true) a' w' → K a' w') : wpOp P ops Q' i K a w := by
  obtain ⟨hL, hd, hSw, hdf, hsz, hps, hbase⟩ := hI
  obtain ⟨h1, h2, h3⟩ := (ready_iff hL i).1 hi
  obtain ⟨o, p, ho, hp, hdst, hpN, hG⟩ := hop i hin
  obtain ⟨_, huniq, hlook⟩ := hfirst i o hin ho
  have hlk : ∀ t, t ∈ looks ops o → ∀ v, (after1 (ps.take i) e).look t = some v → ∃ u, a.tmps[t]? = some u ∧ Rel w v u := fun t ht v hv => by
    have hkv := hk o ho t ht v hv
    unfold after1 at hv
    rw [look_append] at hv
    cases hl : Env.look (ps.take i).reverse t with
    | some x =>
      simp only [hl, Option.some.injEq] at hv; subst hv
      obtain ⟨j, hj⟩ := List.mem_iff_getElem?.1 (List.mem_reverse.1 (look_mem _ _ _ hl))
      rw [List.getElem?_take] at hj
      split at hj
      · rename_i hji
        obtain ⟨_, hjd⟩ := hlook t ht j (by omega) (hslot j _ hj)
        obtain ⟨u, hu, hr⟩ := hps j _ hj (h3 o ho j hjd)
        exact ⟨u, hu, by simp only [hkv] at hr; exact hr⟩
      · cases hj
    | none =>
      simp only [hl] at hv
      obtain ⟨u, hu, hr⟩ := hbase t v (fun hm' => by
        obtain ⟨q, hq, hqt⟩ := List.mem_map.1 hm'
        obtain ⟨j, hj⟩ := List.mem_iff_getElem?.1 hq
        have hjn : j < n := by rw [← hlen]; exact (List.getElem?_eq_some_iff.1 hj).1
        have hjt : gslot ops j = some t := by rw [hslot j q hj, ← hqt]
        obtain ⟨hji, _⟩ := hlook t ht j hjn hjt
        have hnone := (look_none_iff _ _).1 hl
        apply hnone
        rw [List.map_reverse, List.mem_reverse]
        exact List.mem_map.2 ⟨q, List.mem_iff_getElem?.2 ⟨j, by rw [List.getElem?_take, if_pos hji]; exact hj⟩, hqt⟩) hv
      exact ⟨u, hu, by rw [hkv] at hr; exact hr⟩
  have hoper : ∀ x ∈ o.op.operands.toList, ∀ y, (after1 (ps.take i) e).ev x = some y → Rel w y (a.eval x) := fun x hx y hy => by
    cases x with
    | tmp t =>
      obtain ⟨u, hu, hr⟩ := hlk t (List.mem_append_left _ (List.mem_filterMap.2 ⟨_, hx, rfl⟩)) y hy
      have : a.eval (.tmp t) = u := by simp [Act.eval, hu]
      rw [this]; exact hr
    | const c =>
      simp only [Env.ev] at hy
      split at hy
      · rename_i hc; cases hy; exact rel_cv w c hc
      · cases hy
    | global g => cases hy; exact .raw
    | func f => cases hy; exact .raw
  have next : ∀ u w', Ext w w' → Rel w' p.2 u → K (a.put o.dst u) w' := fun u w' hw hr => by
    have hiL : i < L.size := by omega
    refine hK _ _ ⟨by simpa using hL, fun k x hx hk j hj => ?_, Cl.ext hSw hw, by simp [hdst, Act.put, hdf], by simp [hdst, Act.put, hsz], fun j q hq hj => ?_, fun t v ht hv => ?_⟩
    · rw [listed_set hiL]
      rcases (listed_set hiL).1 hk with rfl | hk
      · exact .inr (h3 x hx j hj)
      · exact .inr (hd k x hx hk j hj)
    · by_cases hji : j = i
      · subst hji
        rw [hp] at hq; cases hq
        exact ⟨u, by simp [hdst, Act.put, hsz, hpN], hκ _ _ _ hr⟩
      · have hjn : j < n := by rw [← hlen]; exact (List.getElem?_eq_some_iff.1 hq).1
        have hne : p.1 ≠ q.1 := fun he => huniq j hjn hji (by rw [hslot j q hq, hdst, he])
        obtain ⟨y, hy, hry⟩ := hps j q hq (((listed_set hiL).1 hj).resolve_left hji)
        exact ⟨y, by simp [hdst, Act.put, Array.getElem?_setIfInBounds_ne hne, hy], hry.ext hw⟩
    · have hne : p.1 ≠ t := fun he => ht (List.mem_map.2 ⟨p, List.mem_of_getElem? hp, he⟩)
      obtain ⟨y, hy, hry⟩ := hbase t v ht hv
      exact ⟨y, by simp [hdst, Act.put, Array.getElem?_setIfInBounds_ne hne, hy], hry.ext hw⟩
  unfold wpOp
  simp only [ho]
  have hWw := hSW w hSw
  unfold OpG at hG
  cases hgd : o.guard with
  | none =>
    simp only [hgd] at hG
    rw [if_pos (by simp [Region.wanted, hgd])]
    exact .inl (hG a w _ _ hWw hoper next)
  | some jb =>
    obtain ⟨j, b⟩ := jb
    simp only [hgd] at hG
    obtain ⟨y, c, hy, hc, hcase⟩ := hG
    obtain ⟨u, hu, hru⟩ := hlk y (List.mem_append_right _ (by simp [hgd, hy])) _ hc
    have hub := hru.inv_raw
    subst hub
    have hyield : yielded ops a.tmps j = some c := by
      unfold yielded
      rw [show ((ops[j]?).bind (·.dst)) = some y from hy]
      simp [hu]
    rcases hcase with ⟨rfl, hJ⟩ | ⟨hne, hv⟩
    · rw [if_pos (by simp [Region.wanted, hgd, hyield])]
      exact .inl (hJ a w _ _ hWw hoper next)
    · rw [if_neg (by simpa [Region.wanted, hgd, hyield] using hne)]
      exact next undef w (Ext.refl _) (by rw [hv]; exact .raw)

/-- The least that is not listed is ready. -/
theorem ready_ne {L : Array Bool} (hL : L.size = ops.size) (hback : ∀ k o, ops[k]? = some o → ∀ j ∈ directs o, j < k) {i : Nat} (hi : i < ops.size) (hn : ¬ Listed L i) : Region.ready .any ops L ≠ [] := by
  have hmin : ∀ m, (∃ i, i < m ∧ i < ops.size ∧ ¬ Listed L i) → ∃ i, i < ops.size ∧ ¬ Listed L i ∧ ∀ j, j < i → Listed L j := by
    intro m
    induction m with
    | zero => rintro ⟨i, hi, _⟩; omega
    | succ m ihm =>
      rintro ⟨i, hi, hin, hil⟩
      by_cases h' : ∃ i, i < m ∧ i < ops.size ∧ ¬ Listed L i
      · exact ihm h'
      · refine ⟨i, hin, hil, fun j hj => ?_⟩
        false_or_by_contra
        rename_i hjl
        exact h' ⟨j, by omega, by omega, hjl⟩
  obtain ⟨i, hin, hil, hjs⟩ := hmin (i + 1) ⟨i, by omega, hi, hn⟩
  have : i ∈ Region.ready .any ops L := (ready_iff hL i).2 ⟨hin, hil, fun o ho j hj => hjs j (hback i o ho j hj)⟩
  intro hnil
  rw [hnil] at this
  simp at this

theorem unL_tail {L : Array Bool} {n fuel : Nat} (hL : L.size = ops.size) (hno : ∀ k, n ≤ k → ¬ Listed L k) (hu : unL L ≤ fuel) : ops.size ≤ n + fuel := by
  have : ops.size - n ≤ unL L := by
    unfold unL
    have h1 : (L.toList.drop n).count false = ops.size - n := by
      have hall2 : ∀ x ∈ L.toList.drop n, x = false := fun x hx => by
        obtain ⟨j, hj⟩ := List.mem_iff_getElem?.1 hx
        rw [List.getElem?_drop] at hj
        have hnl := hno (n + j) (by omega)
        unfold Listed at hnl
        rw [Array.getD_eq_getD_getElem?] at hnl
        have hj' : L[n + j]? = some x := by simpa using hj
        rw [hj'] at hnl
        cases x <;> simp_all
      rw [List.count_eq_length.2 (fun b hb => (hall2 b hb).symm)]
      simp [hL]
    rw [← h1]
    exact (List.drop_sublist n L.toList).count_le false
  omega

theorem ws_draw1 {n rid : Nat} [Cl W] [Cl S0] [Cl S1] (hm : P.follows .mixedOrders = true) (hchk : drawOk1 ops n = true) (hW0 : ∀ w, S0 w → W w) (hW1 : ∀ w, S1 w → W w)
    (h : Run1 P N W ops (ops.toList.take n) e (fun e' => lateStill ops n e' = true ∧ (∀ o, ops[n]? = some o → EffJ P S0 S1 e' o) ∧ RS P N ops (ops.toList.drop (n + 1)) e'.keep S1 Q)) : WS P N (.region rid ops true) e S0 Q := by
  obtain ⟨⟨on, hon, hodst, hogd, holk⟩, hfirst, hmust, hback⟩ := drawOk1_spec hchk
  have hn : n < ops.size := (Array.getElem?_eq_some_iff.1 hon).1
  obtain ⟨ps, hlen, ⟨hstill, hE, hR⟩, hall⟩ := run1_spec h
  have hlen' : ps.length = n := by rw [hlen]; simp; omega
  have hop : ∀ i, i < n → ∃ o p, ops[i]? = some o ∧ ps[i]? = some p ∧ o.dst = some p.1 ∧ p.1 < N ∧ OpG P W ops (after1 (ps.take i) e) o p.2 := fun i hi => by
    have ho : ops[i]? = some (ops[i]'(by omega)) := by simp
    have hp : ps[i]? = some (ps[i]'(by omega)) := by simp
    obtain ⟨h1, h2, h3⟩ := hall i (ops[i]'(by omega)) (ps[i]'(by omega)) (by rw [List.getElem?_take, if_pos hi]; simp) hp
    exact ⟨_, _, ho, hp, h1, h2, h3⟩
  have hslot : ∀ i p, ps[i]? = some p → gslot ops i = some p.1 := fun i p hp => by
    have hi : i < n := by rw [← hlen']; exact (List.getElem?_eq_some_iff.1 hp).1
    obtain ⟨o, p', ho, hp', hd, _⟩ := hop i hi
    rw [hp'] at hp; cases hp
    simp [gslot, ho, hd]
  -- what a frame with all listed is
  have hfull : ∀ (S : World → Prop) (κ : AV → AV) (L : Array Bool) (a : Act) (w : World), DI N ops ps e S κ L a w → (∀ i, i < n → Listed L i) → ∀ t v, (after1 ps e).look t = some v → ∃ u, a.tmps[t]? = some u ∧ Rel w (κ v) u := fun S κ L a w hI hal t v ht => by
    unfold after1 at ht
    rw [look_append] at ht
    cases hl : Env.look ps.reverse t with
    | some x =>
      simp only [hl, Option.some.injEq] at ht; subst ht
      obtain ⟨i, hi⟩ := List.mem_iff_getElem?.1 (List.mem_reverse.1 (look_mem _ _ _ hl))
      exact hI.vals i _ hi (hal i (by have := (List.getElem?_eq_some_iff.1 hi).1; omega))
    | none =>
      simp only [hl] at ht
      exact hI.base t v (by have := (look_none_iff _ _).1 hl; simpa using this) ht
  -- behind the store
  have key1 : ∀ (fuel : Nat) (L : Array Bool) (a : Act) (w : World), DI N ops ps e S1 kp L a w → Listed L n → (∀ k, n + 1 ≤ k → ¬ Listed L k) → unL L ≤ fuel →
      wpAny P .any ops (fun x a' w' => ∃ e', Fr N e' a' w' ∧ Q x e' w') fuel L a w := by
    intro fuel
    induction fuel with
    | zero =>
      intro L a w hI hln hno hu
      have hal : ∀ i, i < n → Listed L i := fun i hi => unL_zero (by omega) (by rw [hI.hL]; omega)
      refine wpAny_tail (P := P) (n := n + 1) hmust hback 0 (n + 1) L a w (Nat.le_refl _) hn hI.hL (fun i => ⟨fun h => ?_, fun h => ?_⟩) (unL_tail hI.hL hno hu) (hR a w hI.hS ⟨hI.df, hI.sz, fun t v ht => ?_⟩)
      · rcases Nat.lt_or_ge i (n + 1) with h' | h'
        · exact h'
        · exact absurd h (hno i h')
      · rcases Nat.lt_or_ge i n with h' | h'
        · exact hal i h'
        · have : i = n := by omega
          subst this; exact hln
      · rw [look_keep_kp] at ht
        obtain ⟨x, hx, rfl⟩ := Option.map_eq_some_iff.1 ht
        exact hfull _ _ _ _ _ hI hal t x hx
    | succ fuel ih =>
      intro L a w hI hln hno hu
      by_cases hal : ∀ i, i < n → Listed L i
      · refine wpAny_tail (P := P) (n := n + 1) hmust hback (fuel + 1) (n + 1) L a w (Nat.le_refl _) hn hI.hL (fun i => ⟨fun h => ?_, fun h => ?_⟩) (unL_tail hI.hL hno hu) (hR a w hI.hS ⟨hI.df, hI.sz, fun t v ht => ?_⟩)
        · rcases Nat.lt_or_ge i (n + 1) with h' | h'
          · exact h'
          · exact absurd h (hno i h')
        · rcases Nat.lt_or_ge i n with h' | h'
          · exact hal i h'
          · have : i = n := by omega
            subst this; exact hln
        · rw [look_keep_kp] at ht
          obtain ⟨x, hx, rfl⟩ := Option.map_eq_some_iff.1 ht
          exact hfull _ _ _ _ _ hI hal t x hx
      · have hex : ∃ i, i < n ∧ ¬ Listed L i := by
          false_or_by_contra
          rename_i hc
          exact hal fun i hi => by
            false_or_by_contra
            rename_i hn'
            exact hc ⟨i, hi, hn'⟩
        obtain ⟨i0, hi0, hil0⟩ := hex
        refine ⟨fun hnil => absurd hnil (ready_ne hI.hL hback (by omega) hil0), fun i hi => ?_⟩
        obtain ⟨h1, h2, h3⟩ := (ready_iff hI.hL i).1 hi
        have hin : i < n := by
          rcases Nat.lt_or_ge i n with h' | h'
          · exact h'
          · rcases Nat.eq_or_lt_of_le h' with h' | h'
            · subst h'; exact absurd hln h2
            · exact absurd (fun j hj => (hmust i j (by omega) h1 (by omega)).listed hI.hd h3) hal
        have hlate : ((Region.before ops).getD n 0).testBit i = false := by
          cases hb : ((Region.before ops).getD n 0).testBit i with
          | false => rfl
          | true => exact absurd ((before_must ops n i hb).listed hI.hd fun o ho j hj => hI.hd n o ho hln j hj) h2
        refine DI.pure_step (n := n) hlen' (by omega) (fun _ _ _ h => rel_kp h) hW1 hop hslot hfirst hI hi hin (fun o ho t ht v hv => ?_) (fun a' w' hI' => ?_)
        · unfold lateStill at hstill
          simp only [List.all_eq_true, List.mem_range, Bool.or_eq_true] at hstill
          have := (hstill i hin).resolve_left (by rw [hlate]; simp)
          simp only [ho, List.all_eq_true] at this
          have hs := this t ht
          -- later operations do not write what is looked at
          have hl2 : (after1 ps e).look t = some v := by
            unfold after1 at hv ⊢
            rw [look_append] at hv ⊢
            have hsame : Env.look ps.reverse t = Env.look (ps.take i).reverse t := by
              have hsplit : ps.reverse = (ps.drop i).reverse ++ (ps.take i).reverse := by rw [← List.reverse_append, List.take_append_drop]
              rw [hsplit, look_append]
              have : Env.look (ps.drop i).reverse t = none := by
                rw [look_none_iff]
                intro hm'
                rw [List.map_reverse, List.mem_reverse] at hm'
                obtain ⟨q, hq, hqt⟩ := List.mem_map.1 hm'
                obtain ⟨j, hj⟩ := List.mem_iff_getElem?.1 hq
                rw [List.getElem?_drop] at hj
                have hjn : i + j < n := by rw [← hlen']; exact (List.getElem?_eq_some_iff.1 hj).1
                have := ((hfirst i o hin ho).2.2 t ht (i + j) hjn (by rw [hslot _ q hj, ← hqt])).1
                omega
              rw [this]
            rw [hsame]
            exact hv
          unfold stillAt at hs
          rw [hl2] at hs
          exact kp_still hs
        · have hiL : i < L.size := by rw [hI.hL]; omega
          refine ih _ a' w' hI' ((listed_set hiL).2 (.inr hln)) (fun k hk hk' => ?_) (by have := unL_set hiL h2; omega)
          rcases (listed_set hiL).1 hk' with rfl | hk'
          · omega
          · exact hno k hk hk'
  -- ahead of the store
  have key0 : ∀ (fuel : Nat) (L : Array Bool) (a : Act) (w : World), DI N ops ps e S0 id L a w → (∀ k, n ≤ k → ¬ Listed L k) → unL L ≤ fuel →
      wpAny P .any ops (fun x a' w' => ∃ e', Fr N e' a' w' ∧ Q x e' w') fuel L a w := by
    intro fuel
    induction fuel with
    | zero =>
      intro L a w hI hno hu
      exact absurd (unL_zero (by omega) (by rw [hI.hL]; exact hn)) (hno n (Nat.le_refl _))
    | succ fuel ih =>
      intro L a w hI hno hu
      refine ⟨fun hnil => absurd hnil (ready_ne hI.hL hback hn (hno n (Nat.le_refl _))), fun i hi => ?_⟩
      obtain ⟨h1, h2, h3⟩ := (ready_iff hI.hL i).1 hi
      have hiL : i < L.size := by rw [hI.hL]; omega
      rcases Nat.lt_or_ge i n with hin | hin
      · refine DI.pure_step (n := n) hlen' (by omega) (fun _ _ _ h => h) hW0 hop hslot hfirst hI hi hin (fun _ _ _ _ _ _ => rfl) (fun a' w' hI' => ?_)
        refine ih _ a' w' hI' (fun k hk hk' => ?_) (by have := unL_set hiL h2; omega)
        rcases (listed_set hiL).1 hk' with rfl | hk'
        · omega
        · exact hno k hk hk'
      · rcases Nat.eq_or_lt_of_le hin with h' | h'
        · subst h'
          unfold wpOp
          simp only [hon]
          rw [if_pos (by simp [Region.wanted, hogd])]
          refine .inl (hE on hon a w _ _ hI.hS (fun x hx y hy => ?_) (fun w' hS1 => ?_))
          · cases x with
            | tmp t =>
              have ht : t ∈ looks ops on := List.mem_append_left _ (List.mem_filterMap.2 ⟨_, hx, rfl⟩)
              have : ∃ u, a.tmps[t]? = some u ∧ Rel w y u := by
                have hy' : (after1 ps e).look t = some y := hy
                unfold after1 at hy'
                rw [look_append] at hy'
                cases hl : Env.look ps.reverse t with
                | some x =>
                  simp only [hl, Option.some.injEq] at hy'; subst hy'
                  obtain ⟨j, hj⟩ := List.mem_iff_getElem?.1 (List.mem_reverse.1 (look_mem _ _ _ hl))
                  have hjn : j < n := by rw [← hlen']; exact (List.getElem?_eq_some_iff.1 hj).1
                  exact hI.vals j _ hj ((holk t ht j hjn (hslot j _ hj)).listed hI.hd h3)
                | none =>
                  simp only [hl] at hy'
                  exact hI.base t y (by have := (look_none_iff _ _).1 hl; simpa using this) hy'
              obtain ⟨u, hu', hr⟩ := this
              have : a.eval (.tmp t) = u := by simp [Act.eval, hu']
              rw [this]; exact hr
            | const c =>
              simp only [Env.ev] at hy
              split at hy
              · rename_i hc; cases hy; exact rel_cv w c hc
              · cases hy
            | global g => cases hy; exact .raw
            | func f => cases hy; exact .raw
          · refine key1 fuel _ a w' ⟨by simpa using hI.hL, fun k x hx hk j hj => ?_, hS1, hI.df, hI.sz, fun j q hq hj => ?_, fun t v ht hv => ?_⟩ ((listed_set hiL).2 (.inl rfl)) (fun k hk hk' => ?_) (by have := unL_set hiL h2; omega)
            · rw [listed_set hiL]
              rcases (listed_set hiL).1 hk with rfl | hk
              · exact .inr (h3 x hx j hj)
              · exact .inr (hI.hd k x hx hk j hj)
            · have hjn : j < n := by rw [← hlen']; exact (List.getElem?_eq_some_iff.1 hq).1
              obtain ⟨u, hu', hr⟩ := hI.vals j q hq (((listed_set hiL).1 hj).resolve_left (by omega))
              exact ⟨u, hu', rel_kp_any hr⟩
            · obtain ⟨u, hu', hr⟩ := hI.base t v ht hv
              exact ⟨u, hu', rel_kp_any hr⟩
            · rcases (listed_set hiL).1 hk' with rfl | hk'
              · omega
              · exact hno k (by omega) hk'
        · exact absurd ((hmust i n (by omega) h1 h').listed hI.hd h3) (hno n (Nat.le_refl _))
  intro a w hS hF
  refine wp_region_any hm ?_
  have hw0 : Ext w { w with drawn := w.drawn + 1 } := Ext.of_quiet (.inr rfl)
  have hS0 : S0 { w with drawn := w.drawn + 1 } := Cl.ext hS hw0
  have hF0 := hF.ext hw0
  generalize ({ w with drawn := w.drawn + 1 } : World) = w1 at hS0 hF0
  have hnl : ∀ k, ¬ Listed (Array.replicate ops.size false) k := fun k hk => by
    unfold Listed at hk; rw [Array.getD_eq_getD_getElem?, Array.getElem?_replicate] at hk; split at hk <;> simp at hk
  exact key0 ops.size _ a w1 ⟨by simp, fun k o _ hk => absurd hk (hnl k), hS0, hF0.defers, hF0.size, fun i p _ hi => absurd hi (hnl i), fun t v _ ht => hF0.rel t v ht⟩ (fun k _ => hnl k) (by unfold unL; simp)

/-- A store into a table, as the store in a region's midst. -/
theorem effj_storeT {w0 : World} {gs : List Nat} {H : List Ent} {ty : TypeId} {pos : String} {after : Array Edge} (k : Nat) (f' : Int → FV) {g n c : Nat} {i : Int} {f : Int → FV} {x : FV} {T t : TypeId} {z : Value} {b : Nat} [hi : TyI P t z 1 b] {A X : Operand}
    (hA : e.ev A = some (.raw (.pointer (some ⟨g, i.toNat * 1, none⟩)))) (hx : e.ev X = some (.f .f32 x)) (hH : H[k]? = some (entF g T n f c)) (h0 : 0 ≤ i ∧ i < n ∧ n ≤ c)
    (hf : f' i = x) (hf' : ∀ s : Int, 0 ≤ s → s < n → s ≠ i → f' s = f s) :
    EffJ P (St w0 gs H) (St w0 gs (H.set k (entF g T n f' c))) e ⟨none, .store t A X, ty, pos, after, none⟩ := by
  intro a w K Q hS ho hK
  have hn : i.toNat < n := by omega
  have he : ((i.toNat : Nat) : Int) = i := by omega
  have h2 := (ho A (by simp [Op.operands]) _ hA).inv_raw
  have hr := ho X (by simp [Op.operands]) _ hx
  obtain ⟨hc, ho1, hst⟩ := oneAV_spec (by rfl : oneAV (.f .f32 x) = true) hr
  have hmem : entF g T n f c ∈ H := List.mem_of_getElem? hH
  obtain ⟨cur, hb, hcs, _⟩ := (hS.own _ hmem).2
  have hic : i.toNat < cur.size := by rw [hcs]; simp only; omega
  have hcell : w.cell? ⟨g, i.toNat, none⟩ = some cur[i.toNat] := by simp [World.cell?, hb, hic]
  have hfr : w.frozen? ⟨g, i.toNat, none⟩ = false := OwnE.frozen (hS.own _ hmem).2 i.toNat
  have hrun : (execOp a.eval ⟨none, .store t A X, ty, pos, after, none⟩).run P w = .ok .skip (w.setCell ⟨g, i.toNat, none⟩ (a.eval X)) := by
    have hst : (store ⟨g, i.toNat, none⟩ (a.eval X)).run P w = .ok () (w.setCell ⟨g, i.toNat, none⟩ (a.eval X)) := by
      rw [run_store P w _ _ _ ho1, hcell]; simp [hfr]
    have hadd : (⟨g, i.toNat, none⟩ : Addr).add 0 = ⟨g, i.toNat, none⟩ := rfl
    simp [execOp, h2, Instr.storeAt, Instr.sureAddr, storeVar, run_size hi, hc, storeCells, hadd, hst]
  unfold Oper.wp
  rw [hrun]
  refine hK _ ?_
  have hown := own_setCell (hS.own _ hmem).2 (i := i.toNat) (x := .f .f32 x) (u := a.eval X) (by simp only; omega) (hr.ev hst)
  have hent : ({ entF g T n f c with xs := (entF g T n f c).xs.set i.toNat (.f .f32 x) } : Ent) = entF g T n f' c := by
    simp only [entF]
    rw [← List.map_set, tab_set hn (by rw [he]; exact hf) (fun s h1 h2 h3 => hf' s h1 h2 (by rw [he] at h3; exact h3))]
  rw [hent] at hown
  exact hS.updAt hH (mod_setCell w g i.toNat _) (.inl rfl) hown
def RA (P : Program) (N : Nat) (ops : Array Oper) (L : Array Bool) (fuel : Nat) (e : Env) (S : World → Prop) (Q : Exit → Env → World → Prop) : Prop :=
  ∀ a w, S w → Fr N e a w → wpAny P .any ops (fun x a' w' => ∃ e', Fr N e' a' w' ∧ Q x e' w') fuel L a w
def RO (P : Program) (N : Nat) (ops : Array Oper) (i : Nat) (L : Array Bool) (fuel : Nat) (e : Env) (S : World → Prop) (Q : Exit → Env → World → Prop) : Prop :=
  ∀ a w, S w → Fr N e a w → wpOp P ops (fun x a' w' => ∃ e', Fr N e' a' w' ∧ Q x e' w') i (wpAny P .any ops (fun x a' w' => ∃ e', Fr N e' a' w' ∧ Q x e' w') fuel (L.setIfInBounds i true)) a w
theorem ws_enum {id : Nat} [Cl S] (hm : P.follows .mixedOrders = true) (h : RA P N ops (Array.replicate ops.size false) ops.size e S Q) : WS P N (.region id ops true) e S Q := by
  intro a w hS hF
  refine wp_region_any hm ?_
  have hw0 : Ext w { w with drawn := w.drawn + 1 } := Ext.of_quiet (.inr rfl)
  exact h a _ (Cl.ext hS hw0) (hF.ext hw0)
theorem ra_one (i : Nat) {L : Array Bool} {fuel : Nat} (hr : Region.ready .any ops L = [i]) (h : RO P N ops i L fuel e S Q) : RA P N ops L (fuel + 1) e S Q :=
  fun a w hS hF => ⟨fun hn => by rw [hr] at hn; simp at hn, fun j hj => by
    rw [hr] at hj
    have : j = i := by simpa using hj
    subst this
    exact h a w hS hF⟩
theorem ra_two (i j : Nat) {L : Array Bool} {fuel : Nat} (hr : Region.ready .any ops L = [i, j]) (h : RO P N ops i L fuel e S Q) (h' : RO P N ops j L fuel e S Q) : RA P N ops L (fuel + 1) e S Q :=
  fun a w hS hF => ⟨fun hn => by rw [hr] at hn; simp at hn, fun k hk => by
    rw [hr] at hk
    have : k = i ∨ k = j := by simpa using hk
    rcases this with rfl | rfl
    · exact h a w hS hF
    · exact h' a w hS hF⟩
theorem ra_end {L : Array Bool} (hr : Region.ready .any ops L = []) (h : Done .normal e S Q) : RA P N ops L 0 e S Q :=
  fun _ w hS hF => ⟨hr, e, hF, h w hS⟩
theorem ro_op {i : Nat} {L : Array Bool} {fuel : Nat} {d : Tmp} {op : Op} {ty : TypeId} {pos : String} {after : Array Edge} {v : AV} [Cl S] (ho : ops[i]? = some ⟨some d, op, ty, pos, after, none⟩) (hd : Nat.blt d N = true)
    (hj : OpJ P S e ⟨some d, op, ty, pos, after, none⟩ v) (h : RA P N ops (L.setIfInBounds i true) fuel ((d, v) :: e) S Q) : RO P N ops i L fuel e S Q := by
  intro a w hS hF
  unfold wpOp
  simp only [ho]
  rw [if_pos (by simp [Region.wanted])]
  refine .inl (hj a w _ _ hS (hF.operands _) fun u w' hw hr => ?_)
  exact h _ w' (Cl.ext hS hw) (Fr.put (some d) (hF.ext hw) (fun _ h => by cases h; exact Nat.le_of_ble_eq_true hd) hr)
/-- 'make' of a list of floats. -/
theorem ro_make {w0 : World} {gs : List Nat} {H : List Ent} {i : Nat} {L : Array Bool} {fuel : Nat} {d : Tmp} {ty : TypeId} {pos : String} {after : Array Edge} {A B : Operand} {n : Nat} {t el : TypeId} {z : Value} {b : Nat} [hu : TyU P t (.slice el)] [hi : TyI P el z 1 b]
    (ho : ops[i]? = some ⟨some d, .makeSlice t A B, ty, pos, after, none⟩) (hd : Nat.blt d N = true)
    (hA : e.ev A = some (.raw (.int .i64 (n : Int)))) (hB : e.ev B = some (.raw (.int .i64 (n : Int)))) (hz : cv1 z = .f .f32 (fv .f32 0)) (hzo : okv1 z = true) (hzc : z.cells = #[z])
    (hb : b * n ≤ 281474976710656) (hm : n ≤ maxLen)
    (h : ∀ g, RA P N ops (L.setIfInBounds i true) fuel ((d, .raw (.slice (some ⟨g, 0, none⟩) n n)) :: e) (St w0 gs (entF g el n (fun _ => fv .f32 0) n :: H)) Q) : RO P N ops i L fuel e (St w0 gs H) Q := by
  intro a w hS hF
  unfold wpOp
  simp only [ho]
  rw [if_pos (by simp [Region.wanted])]
  have h1 := (hF.eval hA).inv_raw
  have h2 := (hF.eval hB).inv_raw
  obtain ⟨i, hi1, hz1, hs1, hb1⟩ := hi.h
  have hm' : (n : Int) ≤ 9223372036854775807 := by simp only [maxLen] at hm; omega
  have hr := run_make (P := P) w t el i z hu.h hi1 hz1 .i64 .i64 n n (by omega) (Int.le_refl _) (by rw [hb1]; have h : ((b * n : Nat) : Int) ≤ 281474976710656 := (by omega); rwa [Int.natCast_mul] at h) hm'
  simp only [Int.toNat_natCast] at hr
  left
  unfold Oper.wp
  have hrun : (execOp a.eval ⟨some d, .makeSlice t A B, ty, pos, after, none⟩).run P w = .ok (.value (.slice (some ⟨w.heap.size, 0, none⟩) n n)) (w.alloc (.cells (madeCells z.cells (n * i.size)) el)) := by simp [execOp, h1, h2, hr]
  rw [hrun]
  have hsz : (madeCells z.cells (n * i.size)).size = n := by rw [size_madeCells, hs1, Nat.mul_one]
  have hown := ext_alloc_own (w := w) (T := el) (xs := (tab n fun _ => fv .f32 0).map (AV.f .f32)) (cs := madeCells z.cells (n * i.size)) (fun j x hj => by
    rw [← tab_rep] at hj
    simp only [List.map_replicate, List.getElem?_replicate] at hj
    split at hj
    · rename_i hjn
      cases hj
      refine ⟨z, ?_, by rw [← hz]; exact cv1_ev z hzo⟩
      simp [madeCells, hs1, hzc, hjn, Nat.mod_one]
    · cases hj)
  rw [hsz] at hown
  exact h w.heap.size _ _ (hS.new (e := entF w.heap.size el n (fun _ => fv .f32 0) n) (Ext.alloc _ _) (Nat.le_refl _) hown) (Fr.put (some d) (hF.ext (Ext.alloc _ _)) (fun _ h => by cases h; exact Nat.le_of_ble_eq_true hd) .raw)
def ThenTo (E : Nat → Nat → Env) (SF : Nat → Nat → World → Prop) : Exit → Env → World → Prop
  | .normal, e, w => ∃ m r, Env.sub (E m r) e ∧ SF m r w
  | _, _, _ => False
theorem ws_enum2 {id : Nat} {d : Code} (E : Nat → Nat → Env) (SF : Nat → Nat → World → Prop) [Cl S] (hm : P.follows .mixedOrders = true) (h : RA P N ops (Array.replicate ops.size false) ops.size e S (ThenTo E SF))
    (hfin : ∀ m r, Done .normal (E m r) (SF m r) (Then P N d Q)) : WS P N (.region id ops true) e S (Then P N d Q) := by
  refine (ws_enum hm h).mono fun x e' w hq => ?_
  cases x with
  | normal =>
    obtain ⟨m, r, hs, hw⟩ := hq
    have : WS P N d (E m r) (fun x => x = w) Q := hfin m r w hw
    exact this.weak hs fun _ h => h
  | ret => cases hq
  | exit _ => cases hq
  | goto _ => cases hq
  | panic _ => cases hq
  | outgrown => cases hq
theorem done_toL {E : Nat → Nat → Env} {SF : Nat → Nat → World → Prop} {x y n : Nat} (m r : Nat) (_ : e.look x = some (.raw (.slice (some ⟨m, 0, none⟩) n n))) (_ : e.look y = some (.raw (.slice (some ⟨r, 0, none⟩) n n)))
    (hs : Env.sub (E m r) e) (hw : ∀ w, S w → SF m r w) : Done .normal e S (ThenTo E SF) := fun w h => ⟨m, r, hs, hw w h⟩
end
end Go.Ab
namespace Go.Ab
open Go.Proofs
attribute [local irreducible] WS RS Done OpJ Then InBlock Round Ret Env.sub FnH
theorem entF_congr {g n c : Nat} {T : TypeId} {f f' : Int → FV} (h : ∀ t : Int, 0 ≤ t → t < n → f t = f' t) : entF g T n f c = entF g T n f' c := by
  unfold entF; rw [tab_congr h]
theorem getD_tab {n : Nat} {f : Int → FV} {i : Int} (h0 : 0 ≤ i) (h : i < n) : (tab n f).getD i.toNat default = f i := at_tab h0 h
end Go.Ab
namespace Go.Ab
open Go.Proofs
attribute [local irreducible] WS RS Done OpJ Then InBlock Round Ret Env.sub FnH
/-- From the second on, each is above the one before it. -/
def upB (L : List FV) : Bool := (List.range L.length).all fun i => i == 0 || cmpB .gtr (fcmp .f32 (L.getD i default) (L.getD (i - 1) default))
theorem upB_false {L : List FV} {k : Nat} (h1 : 1 ≤ k) (h2 : k < L.length) (h : cmpB .gtr (fcmp .f32 (L.getD k default) (L.getD (k - 1) default)) = false) : upB L = false := by
  unfold upB
  rw [List.all_eq_false]
  exact ⟨k, List.mem_range.2 h2, by rw [h]; simp; omega⟩
theorem upB_true {L : List FV} (h : ∀ i, 1 ≤ i → i < L.length → cmpB .gtr (fcmp .f32 (L.getD i default) (L.getD (i - 1) default)) = true) : upB L = true := by
  unfold upB
  rw [List.all_eq_true]
  intro i hi
  rcases Nat.eq_zero_or_pos i with rfl | hp
  · rfl
  · rw [h i hp (List.mem_range.1 hi)]; simp
/-- What both tell. -/
def graphB (L M : List FV) : Bool :=
  !(decide ((L.length : Int) < 2)) && !(decide ((48 : Int) < L.length)) && !(decide ((M.length : Int) ≠ L.length)) && L.all finB && M.all finB && upB L
theorem implGraph_fn (L M : List FV) (hL : L.length < 2 ^ 62) (hM : M.length < 2 ^ 62) : Fn Try.prog 73 (fun w => [slF w L, slF w M]) (.raw (.bool (graphB L M))) := by
  refine fn_intro Try.func73 rfl Try.ntmps73 (fun _ => Nat.le_of_ble_eq_true rfl) fun w0 => ?_
  repeat' first | refine zai rfl rfl ?_ | refine zaj rfl rfl rfl rfl ?_ | refine zaa rfl (zay rfl) ?_ | refine zaa rfl (zaz rfl) ?_ | (refine zac ?_; first | refine zaa rfl (zba rfl rfl rfl) ?_ | refine zaa rfl (zbb rfl rfl (by omega)) ?_ | refine zaa rfl (zbc rfl rfl (by omega)) ?_ | (refine zab rfl (zbd rfl rfl rfl) ?_; intro c hc) | (refine zab rfl (zbe rfl rfl) ?_; intro c hc) | (refine zab rfl (zbf rfl rfl) ?_; intro c hc) | (refine zab rfl (zbg rfl rfl) ?_; intro c hc) | (refine zab rfl (zbh rfl rfl) ?_; intro c hc) | (refine zab rfl (zbi rfl rfl) ?_; intro c hc) | (refine zab rfl (zbj rfl rfl) ?_; intro c hc) | (refine zab rfl (zbk rfl rfl) ?_; intro c hc) | (refine zab rfl (zbl rfl rfl) ?_; intro c hc)) | (refine zad ?_; first | refine zaa rfl (zbm rfl) ?_ | refine zaa rfl (zbn rfl) ?_ | refine zaa rfl (zbp rfl) ?_ | refine zaa rfl (zbq rfl) ?_ | refine zaa rfl (zbr rfl rfl) ?_ | (refine zab rfl (zci rfl rfl (areFinite_fn _ hL) ?_) ?_; (focus ((repeat (first | exact Takes.nil | refine Takes.sl ?_ | refine Takes.own (by (repeat (first | exact mh | refine mt ?_)); done) (by simp) (by omega) (by simp only [maxLen]; omega) ?_ | refine Takes.same ?_)); done)); intro c hc) | (refine zab rfl (zci rfl rfl (areFinite_fn _ hM) ?_) ?_; (focus ((repeat (first | exact Takes.nil | refine Takes.sl ?_ | refine Takes.own (by (repeat (first | exact mh | refine mt ?_)); done) (by simp) (by omega) (by simp only [maxLen]; omega) ?_ | refine Takes.same ?_)); done)); intro c hc)) | refine zaa rfl (zbu rfl rfl) ?_ | refine zaa rfl (zbv rfl rfl (by omega) (by omega)) ?_ | refine zaa rfl (zbw rfl rfl (by omega) (by omega)) ?_ | refine zaa rfl (zbx rfl) ?_ | refine zaa rfl (zby rfl) ?_ | refine zaa rfl (zbz rfl rfl) ?_ | refine zaa rfl (zca rfl rfl) ?_ | refine zaa rfl (zcb rfl rfl) ?_ | refine zaa rfl (zcc rfl) ?_ | refine zah ?_ | (refine zcr ?_; first | refine zcs ?_ | refine zct ?_ | refine zcu ?_ | refine zcv ?_ | refine zcw ?_ | refine zcx ?_ | refine zcy rfl ?_ | refine zcz ?_ | refine zda ?_) | (refine zdb ?_; first | refine zdc ?_ | refine zdd ?_ | refine zde ?_ | refine zdf ?_ | refine zdg ?_ | refine zdh ?_ | refine zdi rfl ?_ | refine zdj rfl ?_) | cases c
  all_goals first
    | (refine done_ret1B rfl () rfl rfl ?_ trivial (List.nil_sublist _); simp only [graphB, *, Bool.and_false, Bool.false_and, Bool.and_true, Bool.true_and, Bool.or_true, Bool.true_or, Bool.false_or, Bool.or_false, Bool.not_true, Bool.not_false]; done)
    | skip
  have hg : graphB L M = upB L := by simp only [graphB, *, Bool.and_false, Bool.false_and, Bool.and_true, Bool.true_and, Bool.or_true, Bool.true_or, Bool.false_or, Bool.or_false, Bool.not_true, Bool.not_false]
  rw [hg]
  refine ws_loop (ι := Nat) (fun k => [(0, slF w0 L), (5, .raw (.int .i64 k))]) (fun _ => St w0 [] []) (fun k => 1 ≤ k ∧ ∀ i, 1 ≤ i → i < k → i < L.length → cmpB .gtr (fcmp .f32 (L.getD i default) (L.getD (i - 1) default)) = true) (fun k => L.length - k) 1 ⟨Nat.le_refl _, fun i h1 h2 => by omega⟩ ?_ (fun _ h => h) (fun k hk => ?_)
  · (repeat (first | exact Env.sub_nil _ | refine Env.sub_cons rfl ?_))
  · obtain ⟨hk, hall⟩ := hk
    repeat first | refine zai rfl rfl ?_ | refine zaj rfl rfl rfl rfl ?_ | refine zaa rfl (zay rfl) ?_ | refine zaa rfl (zaz rfl) ?_ | (refine zac ?_; first | refine zaa rfl (zba rfl rfl rfl) ?_ | refine zaa rfl (zbb rfl rfl (by omega)) ?_ | refine zaa rfl (zbc rfl rfl (by omega)) ?_ | refine zaa rfl (zbd rfl rfl rfl) ?_ | refine zaa rfl (zbe rfl rfl) ?_ | refine zaa rfl (zbf rfl rfl) ?_ | refine zaa rfl (zbg rfl rfl) ?_ | refine zaa rfl (zbh rfl rfl) ?_ | refine zaa rfl (zbi rfl rfl) ?_ | refine zaa rfl (zbj rfl rfl) ?_ | refine zaa rfl (zbk rfl rfl) ?_ | refine zaa rfl (zbl rfl rfl) ?_) | (refine zad ?_; first | refine zaa rfl (zbm rfl) ?_ | refine zaa rfl (zbn rfl) ?_ | refine zaa rfl (zbp rfl) ?_ | refine zaa rfl (zbq rfl) ?_ | refine zaa rfl (zbr rfl rfl) ?_) | refine zaa rfl (zbu rfl rfl) ?_ | refine zaa rfl (zbv rfl rfl (by omega) (by omega)) ?_ | refine zaa rfl (zbw rfl rfl (by omega) (by omega)) ?_ | refine zaa rfl (zbx rfl) ?_ | refine zaa rfl (zby rfl) ?_ | refine zaa rfl (zbz rfl rfl) ?_ | refine zaa rfl (zca rfl rfl) ?_ | refine zaa rfl (zcb rfl rfl) ?_ | refine zaa rfl (zcc rfl) ?_ | refine zah ?_ | (refine zcr ?_; first | refine zcs ?_ | refine zct ?_ | refine zcu ?_ | refine zcv ?_ | refine zcw ?_ | refine zcx ?_ | refine zcy rfl ?_ | refine zcz ?_ | refine zda ?_) | (refine zdb ?_; first | refine zdc ?_ | refine zdd ?_ | refine zde ?_ | refine zdf ?_ | refine zdg ?_ | refine zdh ?_ | refine zdi rfl ?_ | refine zdj rfl ?_)
    refine ws_cond rfl (fun hc => ?_) (fun hc => ?_)
    · have hlt : (k : Int) < L.length := of_decide_eq_true hc
      have e1 : ((k : Int) - 1).toNat = k - 1 := by omega
      repeat first | refine zai rfl rfl ?_ | refine zaj rfl rfl rfl rfl ?_ | refine zaa rfl (zay rfl) ?_ | refine zaa rfl (zaz rfl) ?_ | (refine zac ?_; first | refine zaa rfl (zba rfl rfl rfl) ?_ | refine zaa rfl (zbb rfl rfl (by omega)) ?_ | refine zaa rfl (zbc rfl rfl (by omega)) ?_ | refine zaa rfl (zbd rfl rfl rfl) ?_ | refine zaa rfl (zbe rfl rfl) ?_ | refine zaa rfl (zbf rfl rfl) ?_ | refine zaa rfl (zbg rfl rfl) ?_ | refine zaa rfl (zbh rfl rfl) ?_ | refine zaa rfl (zbi rfl rfl) ?_ | refine zaa rfl (zbj rfl rfl) ?_ | refine zaa rfl (zbk rfl rfl) ?_ | refine zaa rfl (zbl rfl rfl) ?_) | (refine zad ?_; first | refine zaa rfl (zbm rfl) ?_ | refine zaa rfl (zbn rfl) ?_ | refine zaa rfl (zbp rfl) ?_ | refine zaa rfl (zbq rfl) ?_ | refine zaa rfl (zbr rfl rfl) ?_) | refine zaa rfl (zbu rfl rfl) ?_ | refine zaa rfl (zbv rfl rfl (by omega) (by omega)) ?_ | refine zaa rfl (zbw rfl rfl (by omega) (by omega)) ?_ | refine zaa rfl (zbx rfl) ?_ | refine zaa rfl (zby rfl) ?_ | refine zaa rfl (zbz rfl rfl) ?_ | refine zaa rfl (zca rfl rfl) ?_ | refine zaa rfl (zcb rfl rfl) ?_ | refine zaa rfl (zcc rfl) ?_ | refine zah ?_ | (refine zcr ?_; first | refine zcs ?_ | refine zct ?_ | refine zcu ?_ | refine zcv ?_ | refine zcw ?_ | refine zcx ?_ | refine zcy rfl ?_ | refine zcz ?_ | refine zda ?_) | (refine zdb ?_; first | refine zdc ?_ | refine zdd ?_ | refine zde ?_ | refine zdf ?_ | refine zdg ?_ | refine zdh ?_ | refine zdi rfl ?_ | refine zdj rfl ?_)
      refine ws_draw (n := 11) mixed (by decide +kernel) ?_
      repeat first | refine zaw rfl rfl ?_ | refine zax rfl rfl rfl rfl ?_ | refine zap rfl (zay rfl) ?_ | refine zap rfl (zaz rfl) ?_ | (refine zar ?_; first | refine zap rfl (zba rfl rfl rfl) ?_ | refine zap rfl (zbb rfl rfl (by omega)) ?_ | refine zap rfl (zbc rfl rfl (by omega)) ?_ | refine zap rfl (zbd rfl rfl rfl) ?_ | refine zap rfl (zbe rfl rfl) ?_ | refine zap rfl (zbf rfl rfl) ?_ | refine zap rfl (zbg rfl rfl) ?_ | refine zap rfl (zbh rfl rfl) ?_ | refine zap rfl (zbi rfl rfl) ?_ | refine zap rfl (zbj rfl rfl) ?_ | refine zap rfl (zbk rfl rfl) ?_ | refine zap rfl (zbl rfl rfl) ?_) | (refine zas ?_; first | refine zap rfl (zbm rfl) ?_ | refine zap rfl (zbn rfl) ?_ | refine zap rfl (zbp rfl) ?_ | refine zap rfl (zbq rfl) ?_ | refine zap rfl (zbr rfl rfl) ?_) | refine zap rfl (zbu rfl rfl) ?_ | refine zap rfl (zbv rfl rfl (by omega) (by omega)) ?_ | refine zap rfl (zbw rfl rfl (by omega) (by omega)) ?_ | refine zap rfl (zbx rfl) ?_ | refine zap rfl (zby rfl) ?_ | refine zap rfl (zbz rfl rfl) ?_ | refine zap rfl (zca rfl rfl) ?_ | refine zap rfl (zcb rfl rfl) ?_ | refine zap rfl (zcc rfl) ?_ | refine zav ?_
      repeat first | refine zai rfl rfl ?_ | refine zaj rfl rfl rfl rfl ?_ | refine zaa rfl (zay rfl) ?_ | refine zaa rfl (zaz rfl) ?_ | (refine zac ?_; first | refine zaa rfl (zba rfl rfl rfl) ?_ | refine zaa rfl (zbb rfl rfl (by omega)) ?_ | refine zaa rfl (zbc rfl rfl (by omega)) ?_ | refine zaa rfl (zbd rfl rfl rfl) ?_ | refine zaa rfl (zbe rfl rfl) ?_ | refine zaa rfl (zbf rfl rfl) ?_ | refine zaa rfl (zbg rfl rfl) ?_ | refine zaa rfl (zbh rfl rfl) ?_ | refine zaa rfl (zbi rfl rfl) ?_ | refine zaa rfl (zbj rfl rfl) ?_ | refine zaa rfl (zbk rfl rfl) ?_ | refine zaa rfl (zbl rfl rfl) ?_) | (refine zad ?_; first | refine zaa rfl (zbm rfl) ?_ | refine zaa rfl (zbn rfl) ?_ | refine zaa rfl (zbp rfl) ?_ | refine zaa rfl (zbq rfl) ?_ | refine zaa rfl (zbr rfl rfl) ?_) | refine zaa rfl (zbu rfl rfl) ?_ | refine zaa rfl (zbv rfl rfl (by omega) (by omega)) ?_ | refine zaa rfl (zbw rfl rfl (by omega) (by omega)) ?_ | refine zaa rfl (zbx rfl) ?_ | refine zaa rfl (zby rfl) ?_ | refine zaa rfl (zbz rfl rfl) ?_ | refine zaa rfl (zca rfl rfl) ?_ | refine zaa rfl (zcb rfl rfl) ?_ | refine zaa rfl (zcc rfl) ?_ | refine zah ?_ | (refine zcr ?_; first | refine zcs ?_ | refine zct ?_ | refine zcu ?_ | refine zcv ?_ | refine zcw ?_ | refine zcx ?_ | refine zcy rfl ?_ | refine zcz ?_ | refine zda ?_) | (refine zdb ?_; first | refine zdc ?_ | refine zdd ?_ | refine zde ?_ | refine zdf ?_ | refine zdg ?_ | refine zdh ?_ | refine zdi rfl ?_ | refine zdj rfl ?_)
      refine ws_cond rfl (fun hd => ?_) (fun hd => ?_)
      · repeat first | refine zai rfl rfl ?_ | refine zaj rfl rfl rfl rfl ?_ | refine zaa rfl (zay rfl) ?_ | refine zaa rfl (zaz rfl) ?_ | (refine zac ?_; first | refine zaa rfl (zba rfl rfl rfl) ?_ | refine zaa rfl (zbb rfl rfl (by omega)) ?_ | refine zaa rfl (zbc rfl rfl (by omega)) ?_ | refine zaa rfl (zbd rfl rfl rfl) ?_ | refine zaa rfl (zbe rfl rfl) ?_ | refine zaa rfl (zbf rfl rfl) ?_ | refine zaa rfl (zbg rfl rfl) ?_ | refine zaa rfl (zbh rfl rfl) ?_ | refine zaa rfl (zbi rfl rfl) ?_ | refine zaa rfl (zbj rfl rfl) ?_ | refine zaa rfl (zbk rfl rfl) ?_ | refine zaa rfl (zbl rfl rfl) ?_) | (refine zad ?_; first | refine zaa rfl (zbm rfl) ?_ | refine zaa rfl (zbn rfl) ?_ | refine zaa rfl (zbp rfl) ?_ | refine zaa rfl (zbq rfl) ?_ | refine zaa rfl (zbr rfl rfl) ?_) | refine zaa rfl (zbu rfl rfl) ?_ | refine zaa rfl (zbv rfl rfl (by omega) (by omega)) ?_ | refine zaa rfl (zbw rfl rfl (by omega) (by omega)) ?_ | refine zaa rfl (zbx rfl) ?_ | refine zaa rfl (zby rfl) ?_ | refine zaa rfl (zbz rfl rfl) ?_ | refine zaa rfl (zca rfl rfl) ?_ | refine zaa rfl (zcb rfl rfl) ?_ | refine zaa rfl (zcc rfl) ?_ | refine zah ?_ | (refine zcr ?_; first | refine zcs ?_ | refine zct ?_ | refine zcu ?_ | refine zcv ?_ | refine zcw ?_ | refine zcx ?_ | refine zcy rfl ?_ | refine zcz ?_ | refine zda ?_) | (refine zdb ?_; first | refine zdc ?_ | refine zdd ?_ | refine zde ?_ | refine zdf ?_ | refine zdg ?_ | refine zdh ?_ | refine zdi rfl ?_ | refine zdj rfl ?_)
        refine done_ret1B rfl () rfl rfl ?_ trivial (List.nil_sublist _)
        exact (upB_false hk (by omega) (by simpa [e1] using hd)).symm
      · repeat first | refine zai rfl rfl ?_ | refine zaj rfl rfl rfl rfl ?_ | refine zaa rfl (zay rfl) ?_ | refine zaa rfl (zaz rfl) ?_ | (refine zac ?_; first | refine zaa rfl (zba rfl rfl rfl) ?_ | refine zaa rfl (zbb rfl rfl (by omega)) ?_ | refine zaa rfl (zbc rfl rfl (by omega)) ?_ | refine zaa rfl (zbd rfl rfl rfl) ?_ | refine zaa rfl (zbe rfl rfl) ?_ | refine zaa rfl (zbf rfl rfl) ?_ | refine zaa rfl (zbg rfl rfl) ?_ | refine zaa rfl (zbh rfl rfl) ?_ | refine zaa rfl (zbi rfl rfl) ?_ | refine zaa rfl (zbj rfl rfl) ?_ | refine zaa rfl (zbk rfl rfl) ?_ | refine zaa rfl (zbl rfl rfl) ?_) | (refine zad ?_; first | refine zaa rfl (zbm rfl) ?_ | refine zaa rfl (zbn rfl) ?_ | refine zaa rfl (zbp rfl) ?_ | refine zaa rfl (zbq rfl) ?_ | refine zaa rfl (zbr rfl rfl) ?_) | refine zaa rfl (zbu rfl rfl) ?_ | refine zaa rfl (zbv rfl rfl (by omega) (by omega)) ?_ | refine zaa rfl (zbw rfl rfl (by omega) (by omega)) ?_ | refine zaa rfl (zbx rfl) ?_ | refine zaa rfl (zby rfl) ?_ | refine zaa rfl (zbz rfl rfl) ?_ | refine zaa rfl (zca rfl rfl) ?_ | refine zaa rfl (zcb rfl rfl) ?_ | refine zaa rfl (zcc rfl) ?_ | refine zah ?_ | (refine zcr ?_; first | refine zcs ?_ | refine zct ?_ | refine zcu ?_ | refine zcv ?_ | refine zcw ?_ | refine zcx ?_ | refine zcy rfl ?_ | refine zcz ?_ | refine zda ?_) | (refine zdb ?_; first | refine zdc ?_ | refine zdd ?_ | refine zde ?_ | refine zdf ?_ | refine zdg ?_ | refine zdh ?_ | refine zdi rfl ?_ | refine zdj rfl ?_)
        refine done_round (k + 1) ⟨by omega, fun i h1 h2 h3 => ?_⟩ (by omega) ?_ (fun _ h => h)
        · rcases Nat.lt_or_ge i k with h | h
          · exact hall i h1 h h3
          · obtain rfl : i = k := by omega
            simpa [e1] using hd
        · (repeat (first | exact Env.sub_nil _ | refine Env.sub_cons rfl ?_))
    · have hge : ¬ (k : Int) < L.length := of_decide_eq_false hc
      repeat first | refine zai rfl rfl ?_ | refine zaj rfl rfl rfl rfl ?_ | refine zaa rfl (zay rfl) ?_ | refine zaa rfl (zaz rfl) ?_ | (refine zac ?_; first | refine zaa rfl (zba rfl rfl rfl) ?_ | refine zaa rfl (zbb rfl rfl (by omega)) ?_ | refine zaa rfl (zbc rfl rfl (by omega)) ?_ | refine zaa rfl (zbd rfl rfl rfl) ?_ | refine zaa rfl (zbe rfl rfl) ?_ | refine zaa rfl (zbf rfl rfl) ?_ | refine zaa rfl (zbg rfl rfl) ?_ | refine zaa rfl (zbh rfl rfl) ?_ | refine zaa rfl (zbi rfl rfl) ?_ | refine zaa rfl (zbj rfl rfl) ?_ | refine zaa rfl (zbk rfl rfl) ?_ | refine zaa rfl (zbl rfl rfl) ?_) | (refine zad ?_; first | refine zaa rfl (zbm rfl) ?_ | refine zaa rfl (zbn rfl) ?_ | refine zaa rfl (zbp rfl) ?_ | refine zaa rfl (zbq rfl) ?_ | refine zaa rfl (zbr rfl rfl) ?_) | refine zaa rfl (zbu rfl rfl) ?_ | refine zaa rfl (zbv rfl rfl (by omega) (by omega)) ?_ | refine zaa rfl (zbw rfl rfl (by omega) (by omega)) ?_ | refine zaa rfl (zbx rfl) ?_ | refine zaa rfl (zby rfl) ?_ | refine zaa rfl (zbz rfl rfl) ?_ | refine zaa rfl (zca rfl rfl) ?_ | refine zaa rfl (zcb rfl rfl) ?_ | refine zaa rfl (zcc rfl) ?_ | refine zah ?_ | (refine zcr ?_; first | refine zcs ?_ | refine zct ?_ | refine zcu ?_ | refine zcv ?_ | refine zcw ?_ | refine zcx ?_ | refine zcy rfl ?_ | refine zcz ?_ | refine zda ?_) | (refine zdb ?_; first | refine zdc ?_ | refine zdd ?_ | refine zde ?_ | refine zdf ?_ | refine zdg ?_ | refine zdh ?_ | refine zdi rfl ?_ | refine zdj rfl ?_)
      refine done_ret1B rfl () rfl rfl ?_ trivial (List.nil_sublist _)
      exact (upB_true fun i h1 h2 => hall i h1 (by omega) h2).symm
end Go.Ab
namespace Go.Ab
open Go.Proofs
attribute [local irreducible] WS RS Done OpJ Then InBlock Round Ret Env.sub FnH
theorem graph_len {L M : List FV} (h : graphB L M = true) : 2 ≤ L.length ∧ L.length ≤ 48 ∧ M.length = L.length := by
  simp only [graphB, Bool.and_eq_true, Bool.not_eq_true', decide_eq_false_iff_not] at h
  omega
end Go.Ab
namespace Go.Ab
open Go.Proofs
attribute [local irreducible] WS RS Done OpJ Then InBlock Round Ret Env.sub FnH
theorem ifNumbers_yes (n c g : Nat) (f : Int → FV) (hn : n < 2 ^ 40 ∧ n ≤ c ∧ c ≤ maxLen) (hf : (tab n f).all finB = true) : FnH (X := Unit) Try.prog 41 (fun _ => [.raw (.slice (some ⟨g, 0, none⟩) n c)]) [entF g 24 n f c]
    (fun _ => .tup [.raw (.slice (some ⟨g, 0, none⟩) n c), .raw (.bool true)]) (fun _ => [entF g 24 n f c]) (fun _ => True) := by
  have hA : Fn Try.prog 20 (fun w => [slF w (tab n f)]) (.raw (.bool true)) := hf ▸ areFinite_fn (tab n f) (by simp; omega)
  refine fn_intro Try.func41 rfl Try.ntmps41 (fun _ => Nat.le_of_ble_eq_true rfl) fun w0 => ?_
  repeat first | refine zai rfl rfl ?_ | refine zaj rfl rfl rfl rfl ?_ | refine zaa rfl (zay rfl) ?_ | refine zaa rfl (zaz rfl) ?_ | (refine zac ?_; first | refine zaa rfl (zba rfl rfl rfl) ?_ | refine zaa rfl (zbb rfl rfl (by omega)) ?_ | refine zaa rfl (zbc rfl rfl (by omega)) ?_ | refine zaa rfl (zbd rfl rfl rfl) ?_ | refine zaa rfl (zbe rfl rfl) ?_ | refine zaa rfl (zbf rfl rfl) ?_ | refine zaa rfl (zbg rfl rfl) ?_ | refine zaa rfl (zbh rfl rfl) ?_ | refine zaa rfl (zbi rfl rfl) ?_ | refine zaa rfl (zbj rfl rfl) ?_ | refine zaa rfl (zbk rfl rfl) ?_ | refine zaa rfl (zbl rfl rfl) ?_) | (refine zad ?_; first | refine zaa rfl (zbo rfl) ?_ | refine zaa rfl (zbm rfl) ?_ | refine zaa rfl (zbn rfl) ?_ | refine zaa rfl (zbp rfl) ?_ | refine zaa rfl (zbq rfl) ?_ | refine zaa rfl (zbr rfl rfl) ?_) | (refine zae ?_; first | refine zaa rfl (zbt rfl rfl (by (repeat (first | exact mh | refine mt ?_)); done) (by omega)) ?_ | refine zaa rfl (zbu rfl rfl) ?_) | (refine zaf ?_; first | refine zaa rfl (zbs rfl rfl (by omega) (by omega)) ?_ | refine zaa rfl (zbv rfl rfl (by omega) (by omega)) ?_ | refine zaa rfl (zbw rfl rfl (by omega) (by omega)) ?_) | refine zaa rfl (zbx rfl) ?_ | refine zaa rfl (zby rfl) ?_ | refine zaa rfl (zbz rfl rfl) ?_ | refine zaa rfl (zca rfl rfl) ?_ | refine zaa rfl (zcb rfl rfl) ?_ | refine zaa rfl (zcc rfl) ?_ | refine zah ?_ | (refine zcr ?_; first | refine zcs ?_ | refine zct ?_ | refine zcu ?_ | refine zcv ?_ | refine zcw ?_ | refine zcx ?_ | refine zcy rfl ?_ | refine zcz ?_ | refine zda ?_) | (refine zdb ?_; first | refine zdc ?_ | refine zdd ?_ | refine zde ?_ | refine zdf ?_ | refine zdg ?_ | refine zdh ?_ | refine zdi rfl ?_ | refine zdj rfl ?_) | (refine zaa rfl (zci rfl rfl hA ?_) ?_; (focus (exact Takes.own (List.Mem.head _) (by simp) hn.2.1 hn.2.2 Takes.nil)))
  exact done_ret2 rfl () rfl rfl rfl trivial (List.Sublist.refl _)
/-- What a function that makes a list tells: the list, or none. -/
def lstT (g n : Nat) : AV := .tup [.raw (.slice (some ⟨g, 0, none⟩) n n), .raw (.bool true)]
theorem graph_tab {n m : Nat} {f g : Int → FV} (h : graphB (tab n f) (tab m g) = true) : 2 ≤ n ∧ n ≤ 48 ∧ m = n := by
  have := graph_len h
  simpa using this
end Go.Ab
namespace Go.Ab
open Go.Proofs
abbrev CV := FV × FV
def cA (p : CV) : AV := .c .f32 p.1 p.2
/-- A list of complex numbers that came in. -/
abbrev slC (w : World) (L : List CV) : AV := AV.sl w 1 (L.map cA)
def tabC (n : Nat) (f : Nat → CV) : List CV := (List.range n).map f
@[simp] theorem tabC_length (n : Nat) (f : Nat → CV) : (tabC n f).length = n := by simp [tabC]
theorem tabC_get {n : Nat} (f : Nat → CV) {i : Nat} (h : i < n) : (tabC n f)[i]? = some (f i) := by simp [tabC, h]
theorem tabC_getD {n : Nat} (f : Nat → CV) {i : Nat} (h : i < n) : (tabC n f).getD i default = f i := by simp [List.getD, tabC_get f h]
theorem tabC_ext {L : List CV} {n : Nat} {f : Nat → CV} (hl : L.length = n) (h : ∀ i, i < n → L[i]? = some (f i)) : L = tabC n f := by
  apply List.ext_getElem?
  intro i
  rcases Nat.lt_or_ge i n with hi | hi
  · rw [h i hi, tabC_get f hi]
  · rw [List.getElem?_eq_none (by omega), List.getElem?_eq_none (by rw [tabC_length]; exact hi)]
theorem tabC_congr {n : Nat} {f g : Nat → CV} (h : ∀ i, i < n → f i = g i) : tabC n f = tabC n g := tabC_ext (tabC_length n f) fun i hi => by rw [tabC_get f hi, h i hi]
theorem tabC_snoc (n : Nat) (f : Nat → CV) : tabC n f ++ [f n] = tabC (n + 1) f := by unfold tabC; rw [List.range_succ, List.map_append]; rfl
abbrev entC (g n : Nat) (f : Nat → CV) (c : Nat) : Ent := ⟨g, 31, (tabC n f).map cA, c⟩
attribute [local irreducible] WS RS Done OpJ Then InBlock Round Ret Env.sub FnH
def finC (p : CV) : Bool := finB p.1 && finB p.2
theorem isFiniteComplex_fn (p : CV) : Fn Try.prog 63 (fun _ => [cA p]) (.raw (.bool (finC p))) := by
  have h1 := isFinite_fn p.1
  have h2 := isFinite_fn p.2
  unfold finC
  cases hb : finB p.1 <;> rw [hb] at h1
  all_goals
    refine fn_intro Try.func63 rfl Try.ntmps63 (fun _ => Nat.le_of_ble_eq_true rfl) fun w0 => ?_
    unfold cA
    repeat first | refine zai rfl rfl ?_ | refine zaj rfl rfl rfl rfl ?_ | refine zaa rfl (zay rfl) ?_ | refine zaa rfl (zaz rfl) ?_ | (refine zac ?_; first | refine zaa rfl (zba rfl rfl rfl) ?_ | refine zaa rfl (zbb rfl rfl (by omega)) ?_ | refine zaa rfl (zbc rfl rfl (by omega)) ?_ | refine zaa rfl (zbd rfl rfl rfl) ?_ | refine zaa rfl (zbe rfl rfl) ?_ | refine zaa rfl (zbf rfl rfl) ?_ | refine zaa rfl (zbg rfl rfl) ?_ | refine zaa rfl (zbh rfl rfl) ?_ | refine zaa rfl (zbi rfl rfl) ?_ | refine zaa rfl (zbj rfl rfl) ?_ | refine zaa rfl (zbk rfl rfl) ?_ | refine zaa rfl (zbl rfl rfl) ?_) | (refine zad ?_; first | refine zaa rfl (zbm rfl) ?_ | refine zaa rfl (zbn rfl) ?_ | refine zaa rfl (zbp rfl) ?_ | refine zaa rfl (zbq rfl) ?_ | refine zaa rfl (zbr rfl rfl) ?_ | (refine zaa rfl (zci rfl rfl (h1) ?_) ?_; (focus ((repeat (first | exact Takes.nil | refine Takes.sl ?_ | refine Takes.own (by (repeat (first | exact mh | refine mt ?_)); done) (by simp) (by omega) (by simp only [maxLen]; omega) ?_ | refine Takes.same ?_)); done))) | (refine zaa rfl (zci rfl rfl (h2) ?_) ?_; (focus ((repeat (first | exact Takes.nil | refine Takes.sl ?_ | refine Takes.own (by (repeat (first | exact mh | refine mt ?_)); done) (by simp) (by omega) (by simp only [maxLen]; omega) ?_ | refine Takes.same ?_)); done)))) | refine zaa rfl (zbu rfl rfl) ?_ | refine zaa rfl (zbv rfl rfl (by omega) (by omega)) ?_ | refine zaa rfl (zbw rfl rfl (by omega) (by omega)) ?_ | refine zaa rfl (zbx rfl) ?_ | refine zaa rfl (zby rfl) ?_ | refine zaa rfl (zbz rfl rfl) ?_ | refine zaa rfl (zca rfl rfl) ?_ | refine zaa rfl (zcb rfl rfl) ?_ | refine zaa rfl (zcc rfl) ?_ | refine zah ?_ | (refine zcr ?_; first | refine zcs ?_ | refine zct ?_ | refine zcu ?_ | refine zcv ?_ | refine zcw ?_ | refine zcx ?_ | refine zcy rfl ?_ | refine zcz ?_ | refine zda ?_) | (refine zdb ?_; first | refine zdc ?_ | refine zdd ?_ | refine zde ?_ | refine zdf ?_ | refine zdg ?_ | refine zdh ?_ | refine zdi rfl ?_ | refine zdj rfl ?_)
    exact done_ret1 rfl () rfl trivial (List.nil_sublist _)
theorem l01CFinite_fn (p : CV) : Fn Try.prog 76 (fun _ => [cA p]) (.raw (.bool (finC p))) := by
  have h1 := l01Finite_fn p.1
  have h2 := l01Finite_fn p.2
  unfold finC
  cases hb : finB p.1 <;> rw [hb] at h1
  all_goals
    refine fn_intro Try.func76 rfl Try.ntmps76 (fun _ => Nat.le_of_ble_eq_true rfl) fun w0 => ?_
    unfold cA
    repeat first | refine zai rfl rfl ?_ | refine zaj rfl rfl rfl rfl ?_ | refine zaa rfl (zay rfl) ?_ | refine zaa rfl (zaz rfl) ?_ | (refine zac ?_; first | refine zaa rfl (zba rfl rfl rfl) ?_ | refine zaa rfl (zbb rfl rfl (by omega)) ?_ | refine zaa rfl (zbc rfl rfl (by omega)) ?_ | refine zaa rfl (zbd rfl rfl rfl) ?_ | refine zaa rfl (zbe rfl rfl) ?_ | refine zaa rfl (zbf rfl rfl) ?_ | refine zaa rfl (zbg rfl rfl) ?_ | refine zaa rfl (zbh rfl rfl) ?_ | refine zaa rfl (zbi rfl rfl) ?_ | refine zaa rfl (zbj rfl rfl) ?_ | refine zaa rfl (zbk rfl rfl) ?_ | refine zaa rfl (zbl rfl rfl) ?_) | (refine zad ?_; first | refine zaa rfl (zbm rfl) ?_ | refine zaa rfl (zbn rfl) ?_ | refine zaa rfl (zbp rfl) ?_ | refine zaa rfl (zbq rfl) ?_ | refine zaa rfl (zbr rfl rfl) ?_ | (refine zaa rfl (zci rfl rfl (h1) ?_) ?_; (focus ((repeat (first | exact Takes.nil | refine Takes.sl ?_ | refine Takes.own (by (repeat (first | exact mh | refine mt ?_)); done) (by simp) (by omega) (by simp only [maxLen]; omega) ?_ | refine Takes.same ?_)); done))) | (refine zaa rfl (zci rfl rfl (h2) ?_) ?_; (focus ((repeat (first | exact Takes.nil | refine Takes.sl ?_ | refine Takes.own (by (repeat (first | exact mh | refine mt ?_)); done) (by simp) (by omega) (by simp only [maxLen]; omega) ?_ | refine Takes.same ?_)); done)))) | refine zaa rfl (zbu rfl rfl) ?_ | refine zaa rfl (zbv rfl rfl (by omega) (by omega)) ?_ | refine zaa rfl (zbw rfl rfl (by omega) (by omega)) ?_ | refine zaa rfl (zbx rfl) ?_ | refine zaa rfl (zby rfl) ?_ | refine zaa rfl (zbz rfl rfl) ?_ | refine zaa rfl (zca rfl rfl) ?_ | refine zaa rfl (zcb rfl rfl) ?_ | refine zaa rfl (zcc rfl) ?_ | refine zah ?_ | (refine zcr ?_; first | refine zcs ?_ | refine zct ?_ | refine zcu ?_ | refine zcv ?_ | refine zcw ?_ | refine zcx ?_ | refine zcy rfl ?_ | refine zcz ?_ | refine zda ?_) | (refine zdb ?_; first | refine zdc ?_ | refine zdd ?_ | refine zde ?_ | refine zdf ?_ | refine zdg ?_ | refine zdh ?_ | refine zdi rfl ?_ | refine zdj rfl ?_)
    exact done_ret1 rfl () rfl trivial (List.nil_sublist _)
theorem arePoints1_fn (p : CV) : Fn Try.prog 62 (fun _ => [cA p]) (.raw (.bool (!(finC p)))) := by
  refine fn_intro Try.func62 rfl Try.ntmps62 (fun _ => Nat.le_of_ble_eq_true rfl) fun w0 => ?_
  repeat first | refine zai rfl rfl ?_ | refine zaj rfl rfl rfl rfl ?_ | refine zaa rfl (zay rfl) ?_ | refine zaa rfl (zaz rfl) ?_ | (refine zac ?_; first | refine zaa rfl (zba rfl rfl rfl) ?_ | refine zaa rfl (zbb rfl rfl (by omega)) ?_ | refine zaa rfl (zbc rfl rfl (by omega)) ?_ | refine zaa rfl (zbd rfl rfl rfl) ?_ | refine zaa rfl (zbe rfl rfl) ?_ | refine zaa rfl (zbf rfl rfl) ?_ | refine zaa rfl (zbg rfl rfl) ?_ | refine zaa rfl (zbh rfl rfl) ?_ | refine zaa rfl (zbi rfl rfl) ?_ | refine zaa rfl (zbj rfl rfl) ?_ | refine zaa rfl (zbk rfl rfl) ?_ | refine zaa rfl (zbl rfl rfl) ?_) | (refine zad ?_; first | refine zaa rfl (zbm rfl) ?_ | refine zaa rfl (zbn rfl) ?_ | refine zaa rfl (zbp rfl) ?_ | refine zaa rfl (zbq rfl) ?_ | refine zaa rfl (zbr rfl rfl) ?_ | (refine zaa rfl (zci rfl rfl (isFiniteComplex_fn p) ?_) ?_; (focus ((repeat (first | exact Takes.nil | refine Takes.sl ?_ | refine Takes.own (by (repeat (first | exact mh | refine mt ?_)); done) (by simp) (by omega) (by simp only [maxLen]; omega) ?_ | refine Takes.same ?_)); done)))) | refine zaa rfl (zbu rfl rfl) ?_ | refine zaa rfl (zbv rfl rfl (by omega) (by omega)) ?_ | refine zaa rfl (zbw rfl rfl (by omega) (by omega)) ?_ | refine zaa rfl (zbx rfl) ?_ | refine zaa rfl (zby rfl) ?_ | refine zaa rfl (zbz rfl rfl) ?_ | refine zaa rfl (zca rfl rfl) ?_ | refine zaa rfl (zcb rfl rfl) ?_ | refine zaa rfl (zcc rfl) ?_ | refine zah ?_ | (refine zcr ?_; first | refine zcs ?_ | refine zct ?_ | refine zcu ?_ | refine zcv ?_ | refine zcw ?_ | refine zcx ?_ | refine zcy rfl ?_ | refine zcz ?_ | refine zda ?_) | (refine zdb ?_; first | refine zdc ?_ | refine zdd ?_ | refine zde ?_ | refine zdf ?_ | refine zdg ?_ | refine zdh ?_ | refine zdi rfl ?_ | refine zdj rfl ?_)
  exact done_ret1 rfl () rfl trivial (List.nil_sublist _)
theorem indexFuncC_fn (L : List CV) (hL : L.length < 2 ^ 62) (c : FuncId) [HasBody Try.prog c] (p : CV → Bool) (hp : ∀ x, Fn Try.prog c (fun _ => [cA x]) (.raw (.bool (p x)))) :
    Fn Try.prog 89 (fun w => [slC w L, .raw (.func (.func c) #[] #[])]) (.raw (.int .i64 (idxOf p L))) := by
  refine fn_intro Try.func89 rfl Try.ntmps89 (fun _ => Nat.le_of_ble_eq_true rfl) fun w0 => ?_
  repeat first | refine zai rfl rfl ?_ | refine zaj rfl rfl rfl rfl ?_ | refine zaa rfl (zay rfl) ?_ | refine zaa rfl (zaz rfl) ?_ | (refine zac ?_; first | refine zaa rfl (zba rfl rfl rfl) ?_ | refine zaa rfl (zbb rfl rfl (by omega)) ?_ | refine zaa rfl (zbc rfl rfl (by omega)) ?_ | refine zaa rfl (zbd rfl rfl rfl) ?_ | refine zaa rfl (zbe rfl rfl) ?_ | refine zaa rfl (zbf rfl rfl) ?_ | refine zaa rfl (zbg rfl rfl) ?_ | refine zaa rfl (zbh rfl rfl) ?_ | refine zaa rfl (zbi rfl rfl) ?_ | refine zaa rfl (zbj rfl rfl) ?_ | refine zaa rfl (zbk rfl rfl) ?_ | refine zaa rfl (zbl rfl rfl) ?_) | (refine zad ?_; first | refine zaa rfl (zbm rfl) ?_ | refine zaa rfl (zbn rfl) ?_ | refine zaa rfl (zbp rfl) ?_ | refine zaa rfl (zbq rfl) ?_ | refine zaa rfl (zbr rfl rfl) ?_) | refine zaa rfl (zbu rfl rfl) ?_ | refine zaa rfl (zbv rfl rfl (by omega) (by omega)) ?_ | refine zaa rfl (zbw rfl rfl (by omega) (by omega)) ?_ | refine zaa rfl (zbx rfl) ?_ | refine zaa rfl (zby rfl) ?_ | refine zaa rfl (zbz rfl rfl) ?_ | refine zaa rfl (zca rfl rfl) ?_ | refine zaa rfl (zcb rfl rfl) ?_ | refine zaa rfl (zcc rfl) ?_ | refine zah ?_ | (refine zcr ?_; first | refine zcs ?_ | refine zct ?_ | refine zcu ?_ | refine zcv ?_ | refine zcw ?_ | refine zcx ?_ | refine zcy rfl ?_ | refine zcz ?_ | refine zda ?_) | (refine zdb ?_; first | refine zdc ?_ | refine zdd ?_ | refine zde ?_ | refine zdf ?_ | refine zdg ?_ | refine zdh ?_ | refine zdi rfl ?_ | refine zdj rfl ?_)
  refine ws_loop (ι := Nat) (fun k => [(0, slC w0 L), (1, .raw (.func (.func c) #[] #[])), (7, .raw (.int .i64 L.length)), (8, .raw (.int .i64 k))]) (fun _ => St w0 [] []) (fun k => k ≤ L.length ∧ ∀ i, i < k → p (L.getD i default) = false) (fun k => L.length - k) 0 ⟨Nat.zero_le _, fun i hi => by omega⟩ ?_ (fun _ h => h) (fun k hk => ?_)
  · (repeat (first | exact Env.sub_nil _ | refine Env.sub_cons rfl ?_))
  · obtain ⟨hk, hall⟩ := hk
    repeat first | refine zai rfl rfl ?_ | refine zaj rfl rfl rfl rfl ?_ | refine zaa rfl (zay rfl) ?_ | refine zaa rfl (zaz rfl) ?_ | (refine zac ?_; first | refine zaa rfl (zba rfl rfl rfl) ?_ | refine zaa rfl (zbb rfl rfl (by omega)) ?_ | refine zaa rfl (zbc rfl rfl (by omega)) ?_ | refine zaa rfl (zbd rfl rfl rfl) ?_ | refine zaa rfl (zbe rfl rfl) ?_ | refine zaa rfl (zbf rfl rfl) ?_ | refine zaa rfl (zbg rfl rfl) ?_ | refine zaa rfl (zbh rfl rfl) ?_ | refine zaa rfl (zbi rfl rfl) ?_ | refine zaa rfl (zbj rfl rfl) ?_ | refine zaa rfl (zbk rfl rfl) ?_ | refine zaa rfl (zbl rfl rfl) ?_) | (refine zad ?_; first | refine zaa rfl (zbm rfl) ?_ | refine zaa rfl (zbn rfl) ?_ | refine zaa rfl (zbp rfl) ?_ | refine zaa rfl (zbq rfl) ?_ | refine zaa rfl (zbr rfl rfl) ?_) | refine zaa rfl (zbu rfl rfl) ?_ | refine zaa rfl (zbv rfl rfl (by omega) (by omega)) ?_ | refine zaa rfl (zbw rfl rfl (by omega) (by omega)) ?_ | refine zaa rfl (zbx rfl) ?_ | refine zaa rfl (zby rfl) ?_ | refine zaa rfl (zbz rfl rfl) ?_ | refine zaa rfl (zca rfl rfl) ?_ | refine zaa rfl (zcb rfl rfl) ?_ | refine zaa rfl (zcc rfl) ?_ | refine zah ?_ | (refine zcr ?_; first | refine zcs ?_ | refine zct ?_ | refine zcu ?_ | refine zcv ?_ | refine zcw ?_ | refine zcx ?_ | refine zcy rfl ?_ | refine zcz ?_ | refine zda ?_) | (refine zdb ?_; first | refine zdc ?_ | refine zdd ?_ | refine zde ?_ | refine zdf ?_ | refine zdg ?_ | refine zdh ?_ | refine zdi rfl ?_ | refine zdj rfl ?_)
    refine ws_cond rfl (fun hc => ?_) (fun hc => ?_)
    · have hlt : (k : Int) < L.length := of_decide_eq_true hc
      repeat first | refine zai rfl rfl ?_ | refine zaj rfl rfl rfl rfl ?_ | refine zaa rfl (zay rfl) ?_ | refine zaa rfl (zaz rfl) ?_ | (refine zac ?_; first | refine zaa rfl (zba rfl rfl rfl) ?_ | refine zaa rfl (zbb rfl rfl (by omega)) ?_ | refine zaa rfl (zbc rfl rfl (by omega)) ?_ | refine zaa rfl (zbd rfl rfl rfl) ?_ | refine zaa rfl (zbe rfl rfl) ?_ | refine zaa rfl (zbf rfl rfl) ?_ | refine zaa rfl (zbg rfl rfl) ?_ | refine zaa rfl (zbh rfl rfl) ?_ | refine zaa rfl (zbi rfl rfl) ?_ | refine zaa rfl (zbj rfl rfl) ?_ | refine zaa rfl (zbk rfl rfl) ?_ | refine zaa rfl (zbl rfl rfl) ?_) | (refine zad ?_; first | refine zaa rfl (zbm rfl) ?_ | refine zaa rfl (zbn rfl) ?_ | refine zaa rfl (zbp rfl) ?_ | refine zaa rfl (zbq rfl) ?_ | refine zaa rfl (zbr rfl rfl) ?_ | refine zaa rfl (zci rfl rfl (hp _) (by (repeat (first | exact Takes.nil | refine Takes.sl ?_ | refine Takes.own (by (repeat (first | exact mh | refine mt ?_)); done) (by simp) (by omega) (by simp only [maxLen]; omega) ?_ | refine Takes.same ?_)); done)) ?_) | refine zaa rfl (zbu rfl rfl) ?_ | refine zaa rfl (zbv rfl rfl (by omega) (by omega)) ?_ | refine zaa rfl (zbw rfl rfl (by omega) (by omega)) ?_ | refine zaa rfl (zbx rfl) ?_ | refine zaa rfl (zby rfl) ?_ | refine zaa rfl (zbz rfl rfl) ?_ | refine zaa rfl (zca rfl rfl) ?_ | refine zaa rfl (zcb rfl rfl) ?_ | refine zaa rfl (zcc rfl) ?_ | refine zah ?_ | (refine zcr ?_; first | refine zcs ?_ | refine zct ?_ | refine zcu ?_ | refine zcv ?_ | refine zcw ?_ | refine zcx ?_ | refine zcy rfl ?_ | refine zcz ?_ | refine zda ?_) | (refine zdb ?_; first | refine zdc ?_ | refine zdd ?_ | refine zde ?_ | refine zdf ?_ | refine zdg ?_ | refine zdh ?_ | refine zdi rfl ?_ | refine zdj rfl ?_)
      refine ws_cond rfl (fun hd => ?_) (fun hd => ?_)
      · repeat first | refine zai rfl rfl ?_ | refine zaj rfl rfl rfl rfl ?_ | refine zaa rfl (zay rfl) ?_ | refine zaa rfl (zaz rfl) ?_ | (refine zac ?_; first | refine zaa rfl (zba rfl rfl rfl) ?_ | refine zaa rfl (zbb rfl rfl (by omega)) ?_ | refine zaa rfl (zbc rfl rfl (by omega)) ?_ | refine zaa rfl (zbd rfl rfl rfl) ?_ | refine zaa rfl (zbe rfl rfl) ?_ | refine zaa rfl (zbf rfl rfl) ?_ | refine zaa rfl (zbg rfl rfl) ?_ | refine zaa rfl (zbh rfl rfl) ?_ | refine zaa rfl (zbi rfl rfl) ?_ | refine zaa rfl (zbj rfl rfl) ?_ | refine zaa rfl (zbk rfl rfl) ?_ | refine zaa rfl (zbl rfl rfl) ?_) | (refine zad ?_; first | refine zaa rfl (zbm rfl) ?_ | refine zaa rfl (zbn rfl) ?_ | refine zaa rfl (zbp rfl) ?_ | refine zaa rfl (zbq rfl) ?_ | refine zaa rfl (zbr rfl rfl) ?_) | refine zaa rfl (zbu rfl rfl) ?_ | refine zaa rfl (zbv rfl rfl (by omega) (by omega)) ?_ | refine zaa rfl (zbw rfl rfl (by omega) (by omega)) ?_ | refine zaa rfl (zbx rfl) ?_ | refine zaa rfl (zby rfl) ?_ | refine zaa rfl (zbz rfl rfl) ?_ | refine zaa rfl (zca rfl rfl) ?_ | refine zaa rfl (zcb rfl rfl) ?_ | refine zaa rfl (zcc rfl) ?_ | refine zah ?_ | (refine zcr ?_; first | refine zcs ?_ | refine zct ?_ | refine zcu ?_ | refine zcv ?_ | refine zcw ?_ | refine zcx ?_ | refine zcy rfl ?_ | refine zcz ?_ | refine zda ?_) | (refine zdb ?_; first | refine zdc ?_ | refine zdd ?_ | refine zde ?_ | refine zdf ?_ | refine zdg ?_ | refine zdh ?_ | refine zdi rfl ?_ | refine zdj rfl ?_)
        exact done_ret1 rfl () (by rw [idxOf_found (by omega) hall hd]; rfl) trivial (List.nil_sublist _)
      · repeat first | refine zai rfl rfl ?_ | refine zaj rfl rfl rfl rfl ?_ | refine zaa rfl (zay rfl) ?_ | refine zaa rfl (zaz rfl) ?_ | (refine zac ?_; first | refine zaa rfl (zba rfl rfl rfl) ?_ | refine zaa rfl (zbb rfl rfl (by omega)) ?_ | refine zaa rfl (zbc rfl rfl (by omega)) ?_ | refine zaa rfl (zbd rfl rfl rfl) ?_ | refine zaa rfl (zbe rfl rfl) ?_ | refine zaa rfl (zbf rfl rfl) ?_ | refine zaa rfl (zbg rfl rfl) ?_ | refine zaa rfl (zbh rfl rfl) ?_ | refine zaa rfl (zbi rfl rfl) ?_ | refine zaa rfl (zbj rfl rfl) ?_ | refine zaa rfl (zbk rfl rfl) ?_ | refine zaa rfl (zbl rfl rfl) ?_) | (refine zad ?_; first | refine zaa rfl (zbm rfl) ?_ | refine zaa rfl (zbn rfl) ?_ | refine zaa rfl (zbp rfl) ?_ | refine zaa rfl (zbq rfl) ?_ | refine zaa rfl (zbr rfl rfl) ?_) | refine zaa rfl (zbu rfl rfl) ?_ | refine zaa rfl (zbv rfl rfl (by omega) (by omega)) ?_ | refine zaa rfl (zbw rfl rfl (by omega) (by omega)) ?_ | refine zaa rfl (zbx rfl) ?_ | refine zaa rfl (zby rfl) ?_ | refine zaa rfl (zbz rfl rfl) ?_ | refine zaa rfl (zca rfl rfl) ?_ | refine zaa rfl (zcb rfl rfl) ?_ | refine zaa rfl (zcc rfl) ?_ | refine zah ?_ | (refine zcr ?_; first | refine zcs ?_ | refine zct ?_ | refine zcu ?_ | refine zcv ?_ | refine zcw ?_ | refine zcx ?_ | refine zcy rfl ?_ | refine zcz ?_ | refine zda ?_) | (refine zdb ?_; first | refine zdc ?_ | refine zdd ?_ | refine zde ?_ | refine zdf ?_ | refine zdg ?_ | refine zdh ?_ | refine zdi rfl ?_ | refine zdj rfl ?_)
        refine done_round (k + 1) ⟨by omega, fun i hi => ?_⟩ (by omega) ?_ (fun _ h => h)
        · rcases Nat.lt_or_ge i k with h | h
          · exact hall i h
          · obtain rfl : i = k := by omega
            exact hd
        · (repeat (first | exact Env.sub_nil _ | refine Env.sub_cons rfl ?_))
    · have hge : ¬ (k : Int) < L.length := of_decide_eq_false hc
      repeat first | refine zai rfl rfl ?_ | refine zaj rfl rfl rfl rfl ?_ | refine zaa rfl (zay rfl) ?_ | refine zaa rfl (zaz rfl) ?_ | (refine zac ?_; first | refine zaa rfl (zba rfl rfl rfl) ?_ | refine zaa rfl (zbb rfl rfl (by omega)) ?_ | refine zaa rfl (zbc rfl rfl (by omega)) ?_ | refine zaa rfl (zbd rfl rfl rfl) ?_ | refine zaa rfl (zbe rfl rfl) ?_ | refine zaa rfl (zbf rfl rfl) ?_ | refine zaa rfl (zbg rfl rfl) ?_ | refine zaa rfl (zbh rfl rfl) ?_ | refine zaa rfl (zbi rfl rfl) ?_ | refine zaa rfl (zbj rfl rfl) ?_ | refine zaa rfl (zbk rfl rfl) ?_ | refine zaa rfl (zbl rfl rfl) ?_) | (refine zad ?_; first | refine zaa rfl (zbm rfl) ?_ | refine zaa rfl (zbn rfl) ?_ | refine zaa rfl (zbp rfl) ?_ | refine zaa rfl (zbq rfl) ?_ | refine zaa rfl (zbr rfl rfl) ?_) | refine zaa rfl (zbu rfl rfl) ?_ | refine zaa rfl (zbv rfl rfl (by omega) (by omega)) ?_ | refine zaa rfl (zbw rfl rfl (by omega) (by omega)) ?_ | refine zaa rfl (zbx rfl) ?_ | refine zaa rfl (zby rfl) ?_ | refine zaa rfl (zbz rfl rfl) ?_ | refine zaa rfl (zca rfl rfl) ?_ | refine zaa rfl (zcb rfl rfl) ?_ | refine zaa rfl (zcc rfl) ?_ | refine zah ?_ | (refine zcr ?_; first | refine zcs ?_ | refine zct ?_ | refine zcu ?_ | refine zcv ?_ | refine zcw ?_ | refine zcx ?_ | refine zcy rfl ?_ | refine zcz ?_ | refine zda ?_) | (refine zdb ?_; first | refine zdc ?_ | refine zdd ?_ | refine zde ?_ | refine zdf ?_ | refine zdg ?_ | refine zdh ?_ | refine zdi rfl ?_ | refine zdj rfl ?_)
      exact done_ret1 rfl () (by rw [idxOf_none (fun i hi => hall i (by omega))]; rfl) trivial (List.nil_sublist _)
theorem containsFuncC_fn (L : List CV) (hL : L.length < 2 ^ 62) (c : FuncId) [HasBody Try.prog c] (p : CV → Bool) (hp : ∀ x, Fn Try.prog c (fun _ => [cA x]) (.raw (.bool (p x)))) :
    Fn Try.prog 61 (fun w => [slC w L, .raw (.func (.func c) #[] #[])]) (.raw (.bool (L.any p))) := by
  refine fn_intro Try.func61 rfl Try.ntmps61 (fun _ => Nat.le_of_ble_eq_true rfl) fun w0 => ?_
  repeat first | refine zai rfl rfl ?_ | refine zaj rfl rfl rfl rfl ?_ | refine zaa rfl (zay rfl) ?_ | refine zaa rfl (zaz rfl) ?_ | (refine zac ?_; first | refine zaa rfl (zba rfl rfl rfl) ?_ | refine zaa rfl (zbb rfl rfl (by omega)) ?_ | refine zaa rfl (zbc rfl rfl (by omega)) ?_ | refine zaa rfl (zbd rfl rfl rfl) ?_ | refine zaa rfl (zbe rfl rfl) ?_ | refine zaa rfl (zbf rfl rfl) ?_ | refine zaa rfl (zbg rfl rfl) ?_ | refine zaa rfl (zbh rfl rfl) ?_ | refine zaa rfl (zbi rfl rfl) ?_ | refine zaa rfl (zbj rfl rfl) ?_ | refine zaa rfl (zbk rfl rfl) ?_ | refine zaa rfl (zbl rfl rfl) ?_) | (refine zad ?_; first | refine zaa rfl (zbm rfl) ?_ | refine zaa rfl (zbn rfl) ?_ | refine zaa rfl (zbp rfl) ?_ | refine zaa rfl (zbq rfl) ?_ | refine zaa rfl (zbr rfl rfl) ?_ | (refine zaa rfl (zci rfl rfl (indexFuncC_fn _ hL _ _ hp) ?_) ?_; (focus ((repeat (first | exact Takes.nil | refine Takes.sl ?_ | refine Takes.own (by (repeat (first | exact mh | refine mt ?_)); done) (by simp) (by omega) (by simp only [maxLen]; omega) ?_ | refine Takes.same ?_)); done)))) | refine zaa rfl (zbu rfl rfl) ?_ | refine zaa rfl (zbv rfl rfl (by omega) (by omega)) ?_ | refine zaa rfl (zbw rfl rfl (by omega) (by omega)) ?_ | refine zaa rfl (zbx rfl) ?_ | refine zaa rfl (zby rfl) ?_ | refine zaa rfl (zbz rfl rfl) ?_ | refine zaa rfl (zca rfl rfl) ?_ | refine zaa rfl (zcb rfl rfl) ?_ | refine zaa rfl (zcc rfl) ?_ | refine zah ?_ | (refine zcr ?_; first | refine zcs ?_ | refine zct ?_ | refine zcu ?_ | refine zcv ?_ | refine zcw ?_ | refine zcx ?_ | refine zcy rfl ?_ | refine zcz ?_ | refine zda ?_) | (refine zdb ?_; first | refine zdc ?_ | refine zdd ?_ | refine zde ?_ | refine zdf ?_ | refine zdg ?_ | refine zdh ?_ | refine zdi rfl ?_ | refine zdj rfl ?_)
  exact done_ret1 rfl () (by rw [← idxOf_nonneg]; rfl) trivial (List.nil_sublist _)
theorem arePoints_fn (L : List CV) (hL : L.length < 2 ^ 62) : Fn Try.prog 28 (fun w => [slC w L]) (.raw (.bool (L.all finC))) := by
  refine fn_intro Try.func28 rfl Try.ntmps28 (fun _ => Nat.le_of_ble_eq_true rfl) fun w0 => ?_
  repeat first | refine zai rfl rfl ?_ | refine zaj rfl rfl rfl rfl ?_ | refine zaa rfl (zay rfl) ?_ | refine zaa rfl (zaz rfl) ?_ | (refine zac ?_; first | refine zaa rfl (zba rfl rfl rfl) ?_ | refine zaa rfl (zbb rfl rfl (by omega)) ?_ | refine zaa rfl (zbc rfl rfl (by omega)) ?_ | refine zaa rfl (zbd rfl rfl rfl) ?_ | refine zaa rfl (zbe rfl rfl) ?_ | refine zaa rfl (zbf rfl rfl) ?_ | refine zaa rfl (zbg rfl rfl) ?_ | refine zaa rfl (zbh rfl rfl) ?_ | refine zaa rfl (zbi rfl rfl) ?_ | refine zaa rfl (zbj rfl rfl) ?_ | refine zaa rfl (zbk rfl rfl) ?_ | refine zaa rfl (zbl rfl rfl) ?_) | (refine zad ?_; first | refine zaa rfl (zbm rfl) ?_ | refine zaa rfl (zbn rfl) ?_ | refine zaa rfl (zbp rfl) ?_ | refine zaa rfl (zbq rfl) ?_ | refine zaa rfl (zbr rfl rfl) ?_ | (refine zaa rfl (zci rfl rfl (containsFuncC_fn _ hL _ _ arePoints1_fn) ?_) ?_; (focus ((repeat (first | exact Takes.nil | refine Takes.sl ?_ | refine Takes.own (by (repeat (first | exact mh | refine mt ?_)); done) (by simp) (by omega) (by simp only [maxLen]; omega) ?_ | refine Takes.same ?_)); done)))) | refine zaa rfl (zbu rfl rfl) ?_ | refine zaa rfl (zbv rfl rfl (by omega) (by omega)) ?_ | refine zaa rfl (zbw rfl rfl (by omega) (by omega)) ?_ | refine zaa rfl (zbx rfl) ?_ | refine zaa rfl (zby rfl) ?_ | refine zaa rfl (zbz rfl rfl) ?_ | refine zaa rfl (zca rfl rfl) ?_ | refine zaa rfl (zcb rfl rfl) ?_ | refine zaa rfl (zcc rfl) ?_ | refine zah ?_ | (refine zcr ?_; first | refine zcs ?_ | refine zct ?_ | refine zcu ?_ | refine zcv ?_ | refine zcw ?_ | refine zcx ?_ | refine zcy rfl ?_ | refine zcz ?_ | refine zda ?_) | (refine zdb ?_; first | refine zdc ?_ | refine zdd ?_ | refine zde ?_ | refine zdf ?_ | refine zdg ?_ | refine zdh ?_ | refine zdi rfl ?_ | refine zdj rfl ?_)
  exact done_ret1 rfl () (by rw [show L.all finC = !(L.any fun x => !(finC x)) from by simp [List.all_eq_not_any_not]]; rfl) trivial (List.nil_sublist _)
end Go.Ab
namespace Go.Ab
open Go.Proofs
def addC2 (p q : CV) : CV := (fbin .add .f32 p.1 q.1, fbin .add .f32 p.2 q.2)
def scaleC (p : CV) (h : FV) : CV := (fbin .mul .f32 p.1 h, fbin .mul .f32 p.2 h)
def aboveB (x : FV) : Bool := finB x && cmpB .gtr (fcmp .f32 x (fv .f32 0))
attribute [local irreducible] WS RS Done OpJ Then InBlock Round Ret Env.sub FnH
theorem areMore1_fn (x : FV) : Fn Try.prog 55 (fun _ => [.f .f32 x]) (.raw (.bool (!(aboveB x)))) := by
  have h1 := isFinite_fn x
  unfold aboveB
  cases hb : finB x <;> rw [hb] at h1
  all_goals
    refine fn_intro Try.func55 rfl Try.ntmps55 (fun _ => Nat.le_of_ble_eq_true rfl) fun w0 => ?_
    repeat first | refine zai rfl rfl ?_ | refine zaj rfl rfl rfl rfl ?_ | refine zaa rfl (zay rfl) ?_ | refine zaa rfl (zaz rfl) ?_ | (refine zac ?_; first | refine zaa rfl (zba rfl rfl rfl) ?_ | refine zaa rfl (zbb rfl rfl (by omega)) ?_ | refine zaa rfl (zbc rfl rfl (by omega)) ?_ | refine zaa rfl (zbd rfl rfl rfl) ?_ | refine zaa rfl (zbe rfl rfl) ?_ | refine zaa rfl (zbf rfl rfl) ?_ | refine zaa rfl (zbg rfl rfl) ?_ | refine zaa rfl (zbh rfl rfl) ?_ | refine zaa rfl (zbi rfl rfl) ?_ | refine zaa rfl (zbj rfl rfl) ?_ | refine zaa rfl (zbk rfl rfl) ?_ | refine zaa rfl (zbl rfl rfl) ?_) | (refine zad ?_; first | refine zaa rfl (zbo rfl) ?_ | refine zaa rfl (zbm rfl) ?_ | refine zaa rfl (zbn rfl) ?_ | refine zaa rfl (zbp rfl) ?_ | refine zaa rfl (zbq rfl) ?_ | refine zaa rfl (zbr rfl rfl) ?_ | (refine zaa rfl (zci rfl rfl (h1) ?_) ?_; (focus ((repeat (first | exact Takes.nil | refine Takes.sl ?_ | refine Takes.lit ?_ | (refine Takes.ownE ?_ ?_ ?_ ?_ ?_; (focus (exact ⟨_, _, (by (repeat (first | exact mh | refine mt ?_)); done)⟩)); (focus (simp; done)); (focus omega); (focus (simp only [maxLen]; omega))) | refine Takes.same ?_)); done)))) | (refine zae ?_; first | refine zaa rfl (zbt rfl rfl (by (repeat (first | exact mh | refine mt ?_)); done) (by omega)) ?_ | refine zaa rfl (zbu rfl rfl) ?_) | (refine zaf ?_; first | refine zaa rfl (zbs rfl rfl (by omega) (by omega)) ?_ | refine zaa rfl (zbv rfl rfl (by omega) (by omega)) ?_ | refine zaa rfl (zbw rfl rfl (by omega) (by omega)) ?_) | refine zaa rfl (zbx rfl) ?_ | refine zaa rfl (zby rfl) ?_ | refine zaa rfl (zbz rfl rfl) ?_ | refine zaa rfl (zca rfl rfl) ?_ | refine zaa rfl (zcb rfl rfl) ?_ | refine zaa rfl (zcc rfl) ?_ | refine zah ?_ | (refine zcr ?_; first | refine zcs ?_ | refine zct ?_ | refine zcu ?_ | refine zcv ?_ | refine zcw ?_ | refine zcx ?_ | refine zcy rfl ?_ | refine zcz ?_ | refine zda ?_) | (refine zdb ?_; first | refine zdc ?_ | refine zdd ?_ | refine zde ?_ | refine zdf ?_ | refine zdg ?_ | refine zdh ?_ | refine zdi rfl ?_ | refine zdj rfl ?_)
    exact done_ret1 rfl () rfl trivial (List.nil_sublist _)
theorem areMore_fn (L : List FV) (hL : L.length < 2 ^ 62) : Fn Try.prog 21 (fun w => [slF w L]) (.raw (.bool (L.all aboveB))) := by
  refine fn_intro Try.func21 rfl Try.ntmps21 (fun _ => Nat.le_of_ble_eq_true rfl) fun w0 => ?_
  repeat first | refine zai rfl rfl ?_ | refine zaj rfl rfl rfl rfl ?_ | refine zaa rfl (zay rfl) ?_ | refine zaa rfl (zaz rfl) ?_ | (refine zac ?_; first | refine zaa rfl (zba rfl rfl rfl) ?_ | refine zaa rfl (zbb rfl rfl (by omega)) ?_ | refine zaa rfl (zbc rfl rfl (by omega)) ?_ | refine zaa rfl (zbd rfl rfl rfl) ?_ | refine zaa rfl (zbe rfl rfl) ?_ | refine zaa rfl (zbf rfl rfl) ?_ | refine zaa rfl (zbg rfl rfl) ?_ | refine zaa rfl (zbh rfl rfl) ?_ | refine zaa rfl (zbi rfl rfl) ?_ | refine zaa rfl (zbj rfl rfl) ?_ | refine zaa rfl (zbk rfl rfl) ?_ | refine zaa rfl (zbl rfl rfl) ?_) | (refine zad ?_; first | refine zaa rfl (zbo rfl) ?_ | refine zaa rfl (zbm rfl) ?_ | refine zaa rfl (zbn rfl) ?_ | refine zaa rfl (zbp rfl) ?_ | refine zaa rfl (zbq rfl) ?_ | refine zaa rfl (zbr rfl rfl) ?_ | (refine zaa rfl (zci rfl rfl (containsFunc_fn _ hL _ _ areMore1_fn) ?_) ?_; (focus ((repeat (first | exact Takes.nil | refine Takes.sl ?_ | refine Takes.lit ?_ | (refine Takes.ownE ?_ ?_ ?_ ?_ ?_; (focus (exact ⟨_, _, (by (repeat (first | exact mh | refine mt ?_)); done)⟩)); (focus (simp; done)); (focus omega); (focus (simp only [maxLen]; omega))) | refine Takes.same ?_)); done)))) | (refine zae ?_; first | refine zaa rfl (zbt rfl rfl (by (repeat (first | exact mh | refine mt ?_)); done) (by omega)) ?_ | refine zaa rfl (zbu rfl rfl) ?_) | (refine zaf ?_; first | refine zaa rfl (zbs rfl rfl (by omega) (by omega)) ?_ | refine zaa rfl (zbv rfl rfl (by omega) (by omega)) ?_ | refine zaa rfl (zbw rfl rfl (by omega) (by omega)) ?_) | refine zaa rfl (zbx rfl) ?_ | refine zaa rfl (zby rfl) ?_ | refine zaa rfl (zbz rfl rfl) ?_ | refine zaa rfl (zca rfl rfl) ?_ | refine zaa rfl (zcb rfl rfl) ?_ | refine zaa rfl (zcc rfl) ?_ | refine zah ?_ | (refine zcr ?_; first | refine zcs ?_ | refine zct ?_ | refine zcu ?_ | refine zcv ?_ | refine zcw ?_ | refine zcx ?_ | refine zcy rfl ?_ | refine zcz ?_ | refine zda ?_) | (refine zdb ?_; first | refine zdc ?_ | refine zdd ?_ | refine zde ?_ | refine zdf ?_ | refine zdg ?_ | refine zdh ?_ | refine zdi rfl ?_ | refine zdj rfl ?_)
  exact done_ret1 rfl () (by rw [show L.all aboveB = !(L.any fun x => !(aboveB x)) from by simp [List.all_eq_not_any_not]]; rfl) trivial (List.nil_sublist _)
theorem l02Above_fn (x : FV) : Fn Try.prog 77 (fun _ => [.f .f32 x]) (.raw (.bool (aboveB x))) := by
  have h1 := l01Finite_fn x
  unfold aboveB
  cases hb : finB x <;> rw [hb] at h1
  all_goals
    refine fn_intro Try.func77 rfl Try.ntmps77 (fun _ => Nat.le_of_ble_eq_true rfl) fun w0 => ?_
    repeat first | refine zai rfl rfl ?_ | refine zaj rfl rfl rfl rfl ?_ | refine zaa rfl (zay rfl) ?_ | refine zaa rfl (zaz rfl) ?_ | (refine zac ?_; first | refine zaa rfl (zba rfl rfl rfl) ?_ | refine zaa rfl (zbb rfl rfl (by omega)) ?_ | refine zaa rfl (zbc rfl rfl (by omega)) ?_ | refine zaa rfl (zbd rfl rfl rfl) ?_ | refine zaa rfl (zbe rfl rfl) ?_ | refine zaa rfl (zbf rfl rfl) ?_ | refine zaa rfl (zbg rfl rfl) ?_ | refine zaa rfl (zbh rfl rfl) ?_ | refine zaa rfl (zbi rfl rfl) ?_ | refine zaa rfl (zbj rfl rfl) ?_ | refine zaa rfl (zbk rfl rfl) ?_ | refine zaa rfl (zbl rfl rfl) ?_) | (refine zad ?_; first | refine zaa rfl (zbo rfl) ?_ | refine zaa rfl (zbm rfl) ?_ | refine zaa rfl (zbn rfl) ?_ | refine zaa rfl (zbp rfl) ?_ | refine zaa rfl (zbq rfl) ?_ | refine zaa rfl (zbr rfl rfl) ?_ | (refine zaa rfl (zci rfl rfl (h1) ?_) ?_; (focus ((repeat (first | exact Takes.nil | refine Takes.sl ?_ | refine Takes.lit ?_ | (refine Takes.ownE ?_ ?_ ?_ ?_ ?_; (focus (exact ⟨_, _, (by (repeat (first | exact mh | refine mt ?_)); done)⟩)); (focus (simp; done)); (focus omega); (focus (simp only [maxLen]; omega))) | refine Takes.same ?_)); done)))) | (refine zae ?_; first | refine zaa rfl (zbt rfl rfl (by (repeat (first | exact mh | refine mt ?_)); done) (by omega)) ?_ | refine zaa rfl (zbu rfl rfl) ?_) | (refine zaf ?_; first | refine zaa rfl (zbs rfl rfl (by omega) (by omega)) ?_ | refine zaa rfl (zbv rfl rfl (by omega) (by omega)) ?_ | refine zaa rfl (zbw rfl rfl (by omega) (by omega)) ?_) | refine zaa rfl (zbx rfl) ?_ | refine zaa rfl (zby rfl) ?_ | refine zaa rfl (zbz rfl rfl) ?_ | refine zaa rfl (zca rfl rfl) ?_ | refine zaa rfl (zcb rfl rfl) ?_ | refine zaa rfl (zcc rfl) ?_ | refine zah ?_ | (refine zcr ?_; first | refine zcs ?_ | refine zct ?_ | refine zcu ?_ | refine zcv ?_ | refine zcw ?_ | refine zcx ?_ | refine zcy rfl ?_ | refine zcz ?_ | refine zda ?_) | (refine zdb ?_; first | refine zdc ?_ | refine zdd ?_ | refine zde ?_ | refine zdf ?_ | refine zdg ?_ | refine zdh ?_ | refine zdi rfl ?_ | refine zdj rfl ?_)
    exact done_ret1 rfl () rfl trivial (List.nil_sublist _)
theorem plus_fn (p q : CV) : Fn Try.prog 25 (fun _ => [cA p, cA q]) (cA (addC2 p q)) := by
  refine fn_intro Try.func25 rfl Try.ntmps25 (fun _ => Nat.le_of_ble_eq_true rfl) fun w0 => ?_
  unfold cA
  repeat first | refine zai rfl rfl ?_ | refine zaj rfl rfl rfl rfl ?_ | refine zaa rfl (zay rfl) ?_ | refine zaa rfl (zaz rfl) ?_ | (refine zac ?_; first | refine zaa rfl (zba rfl rfl rfl) ?_ | refine zaa rfl (zbb rfl rfl (by omega)) ?_ | refine zaa rfl (zbc rfl rfl (by omega)) ?_ | refine zaa rfl (zbd rfl rfl rfl) ?_ | refine zaa rfl (zbe rfl rfl) ?_ | refine zaa rfl (zbf rfl rfl) ?_ | refine zaa rfl (zbg rfl rfl) ?_ | refine zaa rfl (zbh rfl rfl) ?_ | refine zaa rfl (zbi rfl rfl) ?_ | refine zaa rfl (zbj rfl rfl) ?_ | refine zaa rfl (zbk rfl rfl) ?_ | refine zaa rfl (zbl rfl rfl) ?_) | (refine zad ?_; first | refine zaa rfl (zbo rfl) ?_ | refine zaa rfl (zbm rfl) ?_ | refine zaa rfl (zbn rfl) ?_ | refine zaa rfl (zbp rfl) ?_ | refine zaa rfl (zbq rfl) ?_ | refine zaa rfl (zbr rfl rfl) ?_) | (refine zae ?_; first | refine zaa rfl (zbt rfl rfl (by (repeat (first | exact mh | refine mt ?_)); done) (by omega)) ?_ | refine zaa rfl (zbu rfl rfl) ?_) | (refine zaf ?_; first | refine zaa rfl (zbs rfl rfl (by omega) (by omega)) ?_ | refine zaa rfl (zbv rfl rfl (by omega) (by omega)) ?_ | refine zaa rfl (zbw rfl rfl (by omega) (by omega)) ?_) | refine zaa rfl (zbx rfl) ?_ | refine zaa rfl (zby rfl) ?_ | refine zaa rfl (zbz rfl rfl) ?_ | refine zaa rfl (zca rfl rfl) ?_ | refine zaa rfl (zcb rfl rfl) ?_ | refine zaa rfl (zcc rfl) ?_ | refine zah ?_ | (refine zcr ?_; first | refine zcs ?_ | refine zct ?_ | refine zcu ?_ | refine zcv ?_ | refine zcw ?_ | refine zcx ?_ | refine zcy rfl ?_ | refine zcz ?_ | refine zda ?_) | (refine zdb ?_; first | refine zdc ?_ | refine zdd ?_ | refine zde ?_ | refine zdf ?_ | refine zdg ?_ | refine zdh ?_ | refine zdi rfl ?_ | refine zdj rfl ?_)
  exact done_ret1 rfl () rfl trivial (List.nil_sublist _)
theorem scaleComplex_fn (p : CV) (h : FV) : Fn Try.prog 26 (fun _ => [cA p, .f .f32 h]) (cA (scaleC p h)) := by
  refine fn_intro Try.func26 rfl Try.ntmps26 (fun _ => Nat.le_of_ble_eq_true rfl) fun w0 => ?_
  unfold cA
  repeat first | refine zai rfl rfl ?_ | refine zaj rfl rfl rfl rfl ?_ | refine zaa rfl (zay rfl) ?_ | refine zaa rfl (zaz rfl) ?_ | (refine zac ?_; first | refine zaa rfl (zba rfl rfl rfl) ?_ | refine zaa rfl (zbb rfl rfl (by omega)) ?_ | refine zaa rfl (zbc rfl rfl (by omega)) ?_ | refine zaa rfl (zbd rfl rfl rfl) ?_ | refine zaa rfl (zbe rfl rfl) ?_ | refine zaa rfl (zbf rfl rfl) ?_ | refine zaa rfl (zbg rfl rfl) ?_ | refine zaa rfl (zbh rfl rfl) ?_ | refine zaa rfl (zbi rfl rfl) ?_ | refine zaa rfl (zbj rfl rfl) ?_ | refine zaa rfl (zbk rfl rfl) ?_ | refine zaa rfl (zbl rfl rfl) ?_) | (refine zad ?_; first | refine zaa rfl (zbo rfl) ?_ | refine zaa rfl (zbm rfl) ?_ | refine zaa rfl (zbn rfl) ?_ | refine zaa rfl (zbp rfl) ?_ | refine zaa rfl (zbq rfl) ?_ | refine zaa rfl (zbr rfl rfl) ?_) | (refine zae ?_; first | refine zaa rfl (zbt rfl rfl (by (repeat (first | exact mh | refine mt ?_)); done) (by omega)) ?_ | refine zaa rfl (zbu rfl rfl) ?_) | (refine zaf ?_; first | refine zaa rfl (zbs rfl rfl (by omega) (by omega)) ?_ | refine zaa rfl (zbv rfl rfl (by omega) (by omega)) ?_ | refine zaa rfl (zbw rfl rfl (by omega) (by omega)) ?_) | refine zaa rfl (zbx rfl) ?_ | refine zaa rfl (zby rfl) ?_ | refine zaa rfl (zbz rfl rfl) ?_ | refine zaa rfl (zca rfl rfl) ?_ | refine zaa rfl (zcb rfl rfl) ?_ | refine zaa rfl (zcc rfl) ?_ | refine zah ?_ | (refine zcr ?_; first | refine zcs ?_ | refine zct ?_ | refine zcu ?_ | refine zcv ?_ | refine zcw ?_ | refine zcx ?_ | refine zcy rfl ?_ | refine zcz ?_ | refine zda ?_) | (refine zdb ?_; first | refine zdc ?_ | refine zdd ?_ | refine zde ?_ | refine zdf ?_ | refine zdg ?_ | refine zdh ?_ | refine zdi rfl ?_ | refine zdj rfl ?_)
  exact done_ret1 rfl () rfl trivial (List.nil_sublist _)
end Go.Ab
namespace Go.Ab
variable {R : World → Prop} [RStab R]
/-- Field k of a struct lies at cell off. -/
class TyF (P : Program) (t : TypeId) (k : Nat) (off : outParam Nat) : Prop where
  h : ∃ fs f i, P.underlying t = some (.struct fs) ∧ fs[k]? = some f ∧ f.offset = off ∧ P.info? f.type = some i ∧ (i.size == 0) = false

section
variable {P : Program} {N : Nat} {S : World → Prop} {e : Env} {Q : Exit → Env → World → Prop} {ops : Array Oper} {l : List Oper} {o : Oper}
variable {w0 : World} {gs : List Nat} {H : List Ent} {dst : Option Tmp} {ty : TypeId} {pos : String} {after : Array Edge} {guard : Option (Nat × Bool)}
theorem run_fieldAt {t : TypeId} {k off : Nat} [hf : TyF P t k off] (w : World) (a : Addr) : (Instr.fieldAt t (.pointer (some a)) k).run P w = .ok (.pointer (some (a.add off))) w := by
  obtain ⟨fs, f, i, h1, h2, h3, h4, h5⟩ := hf.h
  have h5' : ¬ i.size = 0 := by simpa using h5
  simp [Instr.fieldAt, run_underlying h1, h2, Instr.sureAddr, fieldPlace, sizeOf, typeInfo, h4, h5', h3]
theorem zcd {t : TypeId} {X : Operand} {k off g i : Nat} [hf : TyF P t k off] (hx : e.ev X = some (.raw (.pointer (some ⟨g, i, none⟩)))) :
    OpJ P S e ⟨dst, .fieldAddr t X k, ty, pos, after, guard⟩ (.raw (.pointer (some ⟨g, i + off, none⟩))) :=
  opj_value fun a w _ h => by
    have h1 := (h X (by simp [Op.operands]) _ hx).inv_raw
    refine ⟨_, w, ?_, Ext.refl _, .raw⟩
    have hr := run_fieldAt (P := P) (t := t) (k := k) w ⟨g, i, none⟩
    rw [addr_add _ rfl] at hr
    simp [execOp, h1, hr]
theorem zce {t : TypeId} {X : Operand} {k off : Nat} {xs : List AV} [hf : TyF P t k off] (hx : e.ev X = some (AV.ptr xs)) :
    OpJ P S e ⟨dst, .fieldAddr t X k, ty, pos, after, guard⟩ (AV.ptr (xs.drop off)) :=
  opj_value fun a w _ h => by
    obtain ⟨_, bb, hv, hsp, hr⟩ := (h X (by simp [Op.operands]) _ hx).inv_p
    have hrun := run_fieldAt (P := P) (t := t) (k := k) w bb
    rw [addr_add _ hsp] at hrun
    refine ⟨.pointer (some ⟨bb.block, bb.off + off, none⟩), w, by simp [execOp, hv, hrun], Ext.refl _, .p (mono_ptrTo _) ⟨⟨bb.block, bb.off + off, none⟩, rfl, rfl, fun j x hj => ?_⟩⟩
    rw [List.getElem?_drop] at hj
    obtain ⟨u, hu, hev⟩ := hr (off + j) x hj
    exact ⟨u, by simpa [Nat.add_assoc] using hu, hev⟩

/-- The cells of a struct at a place. -/
theorem run_loadA {w : World} {t : TypeId} {d : TypeDesc} {z : Value} {sz b : Nat} [hd : TyU P t d] [hi : TyI P t z sz b] (ha : aggD d = true) {bb : Addr} (hsp : bb.spot = none) {xs : List AV} (hl : xs.length = sz)
    (hr : ∀ (i : Nat) (x : AV), xs[i]? = some x → ∃ u, w.cell? ⟨bb.block, bb.off + i, none⟩ = some u ∧ Ev x u) : ∃ cs : List Value, (loadVar t bb).run P w = .ok (.agg cs.toArray) w ∧ RelL w xs cs := by
  have hex : ∀ k, k ≤ sz → ∃ cs : List Value, cs.length = k ∧ (∀ (j : Nat) (v : Value), cs[j]? = some v → w.cell? (bb.add j) = some v) ∧ ∀ (j : Nat) (v : Value) (x : AV), cs[j]? = some v → xs[j]? = some x → Ev x v := by
    intro k
    induction k with
    | zero => intro _; exact ⟨[], rfl, fun j v h => by simp at h, fun j v x h => by simp at h⟩
    | succ k ih =>
      intro hk
      obtain ⟨cs, hlc, h1, h2⟩ := ih (by omega)
      have hx : xs[k]? = some (xs[k]'(by omega)) := List.getElem?_eq_getElem (by omega)
      obtain ⟨u, hu, hev⟩ := hr k _ hx
      refine ⟨cs ++ [u], by simp [hlc], fun j v hj => ?_, fun j v x hj hxj => ?_⟩
      · rcases Nat.lt_or_ge j k with h | h
        · rw [List.getElem?_append_left (by omega)] at hj; exact h1 j v hj
        · have : j = k := by
            have := (List.getElem?_eq_some_iff.1 hj).1
            simp only [List.length_append, hlc, List.length_cons, List.length_nil] at this
            omega
          subst this
          rw [List.getElem?_append_right (by omega), hlc, Nat.sub_self] at hj
          cases hj
          rw [addr_add bb hsp]; exact hu
      · rcases Nat.lt_or_ge j k with h | h
        · rw [List.getElem?_append_left (by omega)] at hj; exact h2 j v x hj hxj
        · have : j = k := by
            have := (List.getElem?_eq_some_iff.1 hj).1
            simp only [List.length_append, hlc, List.length_cons, List.length_nil] at this
            omega
          subst this
          rw [List.getElem?_append_right (by omega), hlc, Nat.sub_self] at hj
          cases hj
          rw [hx] at hxj; cases hxj
          exact hev
  obtain ⟨cs, hlc, h1, h2⟩ := hex sz (Nat.le_refl _)
  refine ⟨cs, ?_, RelL.of_get (by omega) fun j x v hx hv => h2 j v x hv hx w⟩
  have := run_loadCells_list (P := P) w bb cs h1
  rw [hlc] at this
  simp [loadVar, run_isAgg hd.h, ha, run_size hi, this]
theorem opj_loadA {t : TypeId} {d : TypeDesc} {z : Value} {sz b : Nat} {X : Operand} {xs : List AV} [hd : TyU P t d] [hi : TyI P t z sz b] (ha : aggD d = true) (hx : e.ev X = some (AV.ptr xs)) (hl : sz ≤ xs.length) :
    OpJ P S e ⟨dst, .load t X, ty, pos, after, guard⟩ (.agg (xs.take sz)) :=
  opj_value fun a w _ h => by
    obtain ⟨_, bb, hv, hsp, hr⟩ := (h X (by simp [Op.operands]) _ hx).inv_p
    obtain ⟨cs, hrun, hrel⟩ := run_loadA (P := P) (t := t) (w := w) ha hsp (xs := xs.take sz) (by simp [hl]) (fun i x hi => hr i x (by rw [List.getElem?_take] at hi; split at hi <;> simp_all))
    exact ⟨_, w, by simp [execOp, hv, Instr.loadAt, Instr.sureAddr, hrun], Ext.refl _, .agg hrel⟩
theorem opj_loadAO {R0 : World → Prop} {t : TypeId} {d : TypeDesc} {z : Value} {sz b : Nat} {X : Operand} {en : Ent} {i : Nat} [hd : TyU P t d] [hi : TyI P t z sz b] (ha : aggD d = true) (hx : e.ev X = some (.raw (.pointer (some ⟨en.g, i, none⟩)))) (hm : en ∈ H) (hl : i + sz ≤ en.xs.length) :
    OpJ P (StR R0 w0 gs H) e ⟨dst, .load t X, ty, pos, after, guard⟩ (.agg ((en.xs.drop i).take sz)) :=
  opj_value fun a w hS h => by
    have hv := (h X (by simp [Op.operands]) _ hx).inv_raw
    obtain ⟨cs, hrun, hrel⟩ := run_loadA (P := P) (t := t) (w := w) ha (bb := ⟨en.g, i, none⟩) rfl (xs := (en.xs.drop i).take sz) (by simp; omega) (fun j x hj => by
      have hj' : en.xs[i + j]? = some x := by rw [List.getElem?_take] at hj; split at hj <;> simp_all
      exact (hS.own en hm).2.cell hj')
    exact ⟨_, w, by simp [execOp, hv, Instr.loadAt, Instr.sureAddr, hrun], Ext.refl _, .agg hrel⟩

/-- A list of cells written from a place on. -/
def splice (i : Nat) (ys xs : List AV) : List AV := xs.take i ++ ys ++ xs.drop (i + ys.length)
theorem still_mem : ∀ {ys : List AV}, AV.stillL ys = true → ∀ y ∈ ys, y.still = true
  | [], _, y, hy => by cases hy
  | a :: l, h, y, hy => by
    simp only [AV.stillL, Bool.and_eq_true] at h
    rcases List.mem_cons.1 hy with rfl | hy
    · exact h.1
    · exact still_mem h.2 y hy
/-- One cell, whatever it is: not a struct, not a tuple, not unknown. -/
def AV.one : AV → Bool
  | .f .. | .c .. => true
  | .raw (.agg _) | .raw (.tuple _) => false
  | .raw _ => true
  | _ => false
theorem one_cell {x : AV} {w : World} {v : Value} (h : x.one = true) (hr : Rel w x v) : v.oneCell' = true := by
  cases hr <;> first | (simp [AV.one] at h; done) | rfl | skip
  cases v <;> first | (simp [AV.one] at h; done) | rfl
/-- Each lies in one cell. -/
def OneL (ys : List AV) : Prop := ∀ y ∈ ys, ∀ w v, Rel w y v → v.oneCell' = true
theorem oneL_of {ys : List AV} (h : ys.all AV.one = true) : OneL ys := fun y hy _ _ hr => one_cell (List.all_eq_true.1 h y hy) hr
theorem rs_storeAG (k : Nat) {en : Ent} {i : Nat} {t : TypeId} {z : Value} {sz b : Nat} [hi : TyI P t z sz b] {A X : Operand} {ys : List AV} (hA : e.ev A = some (.raw (.pointer (some ⟨en.g, i, none⟩)))) (hx : e.ev X = some (.agg ys)) (h1 : OneL ys) (hs : AV.stillL ys = true)
    (hH : H[k]? = some en) (hl : ys.length = sz) (hi' : i + sz ≤ en.xs.length) (hc : en.xs.length = en.csz)
    (hk : RS P N ops l e.keep (StR R w0 gs (H.set k { en with xs := splice i ys en.xs })) Q) :
    RS P N ops (⟨none, .store t A X, ty, pos, after, none⟩ :: l) e (StR R w0 gs H) Q := by
  intro a w hS hF
  refine wpList_plain rfl fun K hK => ?_
  have h2 := (hF.eval hA).inv_raw
  obtain ⟨vs, hv, hr⟩ := (hF.eval hx).inv_agg
  have hvl : vs.length = sz := by rw [hr.length, hl]
  have hmem : en ∈ H := List.mem_of_getElem? hH
  obtain ⟨cur, hb, hcs, hcx⟩ := (hS.own en hmem).2
  have hone : ∀ v ∈ vs, v.oneCell' = true := fun v hv' => by
    obtain ⟨j, hj⟩ := List.mem_iff_getElem?.1 hv'
    have hjl : j < ys.length := by rw [← hr.length]; exact (List.getElem?_eq_some_iff.1 hj).1
    obtain ⟨u, hu, hru⟩ := hr.get (List.getElem?_eq_getElem hjl)
    rw [hj] at hu; cases hu
    exact h1 _ (List.getElem_mem _) _ _ hru
  have hst := run_storeCells_at (P := P) en.g i en.T vs 0 cur w hb (by omega) hone
  have hrun : (execOp a.eval ⟨none, .store t A X, ty, pos, after, none⟩).run P w = .ok .skip (w.setRow en.g (cur.toList.take (i + 0) ++ vs ++ cur.toList.drop (i + 0 + vs.length)).toArray) := by
    have hcs' : (Value.agg vs.toArray).cells = vs.toArray := rfl
    simp [execOp, h2, hv, Instr.storeAt, Instr.sureAddr, storeVar, run_size hi, hcs', hvl, hst]
  simp only [Nat.add_zero] at hrun
  unfold Oper.wp
  rw [hrun]
  have hrow : ((w.setRow en.g (cur.toList.take i ++ vs ++ cur.toList.drop (i + vs.length)).toArray)).heap[en.g]? = some (.cells (cur.toList.take i ++ vs ++ cur.toList.drop (i + vs.length)).toArray en.T (0, 0)) := setRow_heap w en.g cur _ en.T _ hb
  have hto : (cur.toList.take i).length = i := by simp; omega
  have hto' : (en.xs.take i).length = i := by simp; omega
  refine hK _ _ (hk _ _ (hS.updAt (e' := { en with xs := splice i ys en.xs }) hH ?_ (.inl rfl) ?_) hF.keep)
  · refine ⟨rfl, rfl, rfl, by simp, fun k _ hk => setRow_other w en.g k _ (fun e => hk (by simp [e]))⟩
  · refine ⟨_, hrow, ?_, fun j x hj => ?_⟩
    · simp only [List.size_toArray, List.length_append, List.length_drop, hto, Array.length_toList, hvl]; omega
    · simp only [splice] at hj
      simp only [List.getElem?_toArray]
      rcases Nat.lt_or_ge j i with h | h
      · rw [List.append_assoc, List.getElem?_append_left (by omega), List.getElem?_take, if_pos h] at hj
        obtain ⟨u, hu, hev⟩ := hcx j x hj
        exact ⟨u, by rw [List.append_assoc, List.getElem?_append_left (by omega), List.getElem?_take, if_pos h]; simpa using hu, hev⟩
      · rcases Nat.lt_or_ge j (i + sz) with h' | h'
        · rw [List.append_assoc, List.getElem?_append_right (by omega), hto', List.getElem?_append_left (by omega)] at hj
          obtain ⟨u, hu, hru⟩ := hr.get hj
          refine ⟨u, ?_, hru.ev (still_mem hs x (List.mem_of_getElem? hj))⟩
          rw [List.append_assoc, List.getElem?_append_right (by omega), hto, List.getElem?_append_left (by omega)]
          exact hu
        · rw [List.getElem?_append_right (by simp; omega), List.getElem?_drop] at hj
          have e1 : i + ys.length + (j - (en.xs.take i ++ ys).length) = j := by simp; omega
          rw [e1] at hj
          obtain ⟨u, hu, hev⟩ := hcx j x hj
          refine ⟨u, ?_, hev⟩
          rw [List.getElem?_append_right (by simp; omega), List.getElem?_drop]
          have e2 : i + vs.length + (j - (cur.toList.take i ++ vs).length) = j := by simp; omega
          rw [e2]
          simpa using hu

theorem rs_storeA (k : Nat) {en : Ent} {i : Nat} {t : TypeId} {z : Value} {sz b : Nat} [hi : TyI P t z sz b] {A X : Operand} {ys : List AV} (hA : e.ev A = some (.raw (.pointer (some ⟨en.g, i, none⟩)))) (hx : e.ev X = some (.agg ys)) (h1 : ys.all AV.one = true) (hs : AV.stillL ys = true)
    (hH : H[k]? = some en) (hl : ys.length = sz) (hi' : i + sz ≤ en.xs.length) (hc : en.xs.length = en.csz)
    (hk : RS P N ops l e.keep (StR R w0 gs (H.set k { en with xs := splice i ys en.xs })) Q) :
    RS P N ops (⟨none, .store t A X, ty, pos, after, none⟩ :: l) e (StR R w0 gs H) Q := rs_storeAG k hA hx (oneL_of h1) hs hH hl hi' hc hk
theorem zcf {R0 : World → Prop} {X : Operand} {x : AV} {g i c : Nat} {T : TypeId} {xs : List AV} {t : TypeId} {d : TypeDesc} [hd : TyU P t d] (ha : aggD d = false)
    (hx : e.ev X = some (.raw (.pointer (some ⟨g, i, none⟩)))) (hm : (⟨g, T, xs, c⟩ : Ent) ∈ H) (h0 : xs[i]? = some x) : OpJ P (StR R0 w0 gs H) e ⟨dst, .load t X, ty, pos, after, guard⟩ x :=
  opj_load_own (en := ⟨g, T, xs, c⟩) ha hx hm h0
theorem zcg {R0 : World → Prop} {t : TypeId} {d : TypeDesc} {z : Value} {sz b : Nat} {X : Operand} {g i c : Nat} {T : TypeId} {xs ys : List AV} [hd : TyU P t d] [hi : TyI P t z sz b] (ha : aggD d = true) (hx : e.ev X = some (.raw (.pointer (some ⟨g, i, none⟩)))) (hm : (⟨g, T, xs, c⟩ : Ent) ∈ H) (hl : Nat.ble (i + sz) xs.length = true) (hy : (xs.drop i).take sz = ys) :
    OpJ P (StR R0 w0 gs H) e ⟨dst, .load t X, ty, pos, after, guard⟩ (.agg ys) := by
  subst hy
  exact opj_loadAO (en := ⟨g, T, xs, c⟩) ha hx hm (Nat.le_of_ble_eq_true hl)
theorem zch {t : TypeId} {d : TypeDesc} {z : Value} {sz b : Nat} {X : Operand} {xs ys : List AV} [hd : TyU P t d] [hi : TyI P t z sz b] (ha : aggD d = true) (hx : e.ev X = some (AV.ptr xs)) (hl : Nat.ble sz xs.length = true) (hy : xs.take sz = ys) :
    OpJ P S e ⟨dst, .load t X, ty, pos, after, guard⟩ (.agg ys) := by
  subst hy
  exact opj_loadA ha hx (Nat.le_of_ble_eq_true hl)
theorem zam (k : Nat) {g i c : Nat} {T : TypeId} {xs ys : List AV} {t : TypeId} {z : Value} {b : Nat} [hi : TyI P t z 1 b] {A X : Operand} {x : AV} (hA : e.ev A = some (.raw (.pointer (some ⟨g, i, none⟩)))) (hx : e.ev X = some x) (h1 : oneAV x = true) (hH : H[k]? = some ⟨g, T, xs, c⟩) (hi' : Nat.blt i c = true) (hy : xs.set i x = ys)
    (hk : RS P N ops l e.keep (StR R w0 gs (H.set k ⟨g, T, ys, c⟩)) Q) :
    RS P N ops (⟨none, .store t A X, ty, pos, after, none⟩ :: l) e (StR R w0 gs H) Q := by
  subst hy
  exact rs_storeAt k (en := ⟨g, T, xs, c⟩) hA hx h1 hH (Nat.le_of_ble_eq_true hi') hk
theorem zan (k : Nat) {g i c : Nat} {T : TypeId} {xs zs : List AV} {t : TypeId} {z : Value} {sz b : Nat} [hi : TyI P t z sz b] {A X : Operand} {ys : List AV} (hA : e.ev A = some (.raw (.pointer (some ⟨g, i, none⟩)))) (hx : e.ev X = some (.agg ys)) (h1 : ys.all AV.one = true) (hs : AV.stillL ys = true)
    (hH : H[k]? = some ⟨g, T, xs, c⟩) (hl : ys.length = sz) (hi' : Nat.ble (i + sz) xs.length = true) (hc : xs.length = c) (hz : splice i ys xs = zs)
    (hk : RS P N ops l e.keep (StR R w0 gs (H.set k ⟨g, T, zs, c⟩)) Q) :
    RS P N ops (⟨none, .store t A X, ty, pos, after, none⟩ :: l) e (StR R w0 gs H) Q := by
  subst hz
  exact rs_storeA k (en := ⟨g, T, xs, c⟩) hA hx h1 hs hH hl (Nat.le_of_ble_eq_true hi') hc hk
end
end Go.Ab
namespace Go.Ab
open Go.Proofs
instance tf46_0 : TyF Try.prog 46 0 0 := ⟨⟨Try.prog.fieldsOf 45, (Try.prog.fieldsOf 45)[0]?.getD default, (Try.prog.info? ((Try.prog.fieldsOf 45)[0]?.getD default).type).getD default, by kernel_rfl, by kernel_rfl, by kernel_rfl, by kernel_rfl, by kernel_rfl⟩⟩
instance tf46_1 : TyF Try.prog 46 1 1 := ⟨⟨Try.prog.fieldsOf 45, (Try.prog.fieldsOf 45)[1]?.getD default, (Try.prog.info? ((Try.prog.fieldsOf 45)[1]?.getD default).type).getD default, by kernel_rfl, by kernel_rfl, by kernel_rfl, by kernel_rfl, by kernel_rfl⟩⟩
instance tf90_0 : TyF Try.prog 90 0 0 := ⟨⟨Try.prog.fieldsOf 89, (Try.prog.fieldsOf 89)[0]?.getD default, (Try.prog.info? ((Try.prog.fieldsOf 89)[0]?.getD default).type).getD default, by kernel_rfl, by kernel_rfl, by kernel_rfl, by kernel_rfl, by kernel_rfl⟩⟩
instance tf90_1 : TyF Try.prog 90 1 1 := ⟨⟨Try.prog.fieldsOf 89, (Try.prog.fieldsOf 89)[1]?.getD default, (Try.prog.info? ((Try.prog.fieldsOf 89)[1]?.getD default).type).getD default, by kernel_rfl, by kernel_rfl, by kernel_rfl, by kernel_rfl, by kernel_rfl⟩⟩
instance tf90_2 : TyF Try.prog 90 2 2 := ⟨⟨Try.prog.fieldsOf 89, (Try.prog.fieldsOf 89)[2]?.getD default, (Try.prog.info? ((Try.prog.fieldsOf 89)[2]?.getD default).type).getD default, by kernel_rfl, by kernel_rfl, by kernel_rfl, by kernel_rfl, by kernel_rfl⟩⟩
end Go.Ab
namespace Go.Ab
open Go.Proofs
variable {R : World → Prop} [RStab R]
section
variable {P : Program} {S : World → Prop} {N : Nat} {e : Env} {Q : Exit → Env → World → Prop} {ops : Array Oper} {l : List Oper} {dst : Option Tmp} {ty : TypeId} {pos : String} {after : Array Edge} {guard : Option (Nat × Bool)}
variable {w0 : World} {gs : List Nat} {H : List Ent}
theorem opj_loadC {R0 : World → Prop} {X : Operand} {g n c : Nat} {i : Int} {f : Nat → CV} {t : TypeId} {d : TypeDesc} [hd : TyU P t d] (ha : aggD d = false)
    (hx : e.ev X = some (.raw (.pointer (some ⟨g, i.toNat * 1, none⟩)))) (hm : entC g n f c ∈ H) (h0 : 0 ≤ i ∧ i < n) : OpJ P (StR R0 w0 gs H) e ⟨dst, .load t X, ty, pos, after, guard⟩ (cA (f i.toNat)) := by
  refine opj_load_own (en := entC g n f c) ha hx hm ?_
  have hi : i.toNat < n := by omega
  rw [Nat.mul_one, List.getElem?_map, tabC_get f hi]
  rfl
end
attribute [local irreducible] WS RS Done OpJ Then InBlock Round Ret Env.sub FnH
attribute [local irreducible] tabC
end Go.Ab
namespace Go.Ab
/-- A product of bounded numbers. -/
theorem mul_bnd {p q a b : Rat} (h1 : -a ≤ p) (h2 : p ≤ a) (h3 : -b ≤ q) (h4 : q ≤ b) : -(a * b) ≤ p * q ∧ p * q ≤ a * b := by
  have x1 := Rat.mul_nonneg (show 0 ≤ a - p by grind) (show 0 ≤ b - q by grind)
  have x2 := Rat.mul_nonneg (show 0 ≤ a + p by grind) (show 0 ≤ b + q by grind)
  have x3 := Rat.mul_nonneg (show 0 ≤ a - p by grind) (show 0 ≤ b + q by grind)
  have x4 := Rat.mul_nonneg (show 0 ≤ a + p by grind) (show 0 ≤ b - q by grind)
  constructor <;> grind
/-- A multiple of a small power of a half. -/
theorem dy_rep {q : Rat} (n : Int) (j : Nat) (hn : n.natAbs ≤ 2 ^ 24) (hj : j ≤ 100) (hq : q * ((2 ^ j : Nat) : Rat) = (n : Rat)) : Rep .f32 q ∧ -p2 24 ≤ q ∧ q ≤ p2 24 := by
  have hp := p2_mul_neg (j : Int)
  rw [p2_nat] at hp
  have h2 := p2_pos (-(j : Int))
  have hq' : q = (n : Rat) * p2 (-(j : Int)) := by
    rw [← hq, Rat.mul_assoc, hp, Rat.mul_one]
  have hle : p2 (-(j : Int)) ≤ 1 := by
    have := p2_le (show -(j : Int) ≤ 0 by omega)
    rwa [p2_zero] at this
  have hn1 : ((n.natAbs : Nat) : Rat) ≤ p2 24 := by
    have h3 : ((n.natAbs : Nat) : Rat) ≤ ((2 ^ 24 : Nat) : Rat) := Rat.natCast_le_natCast.2 hn
    rw [← p2_nat] at h3
    exact h3
  have hb : n.natAbs ≤ 2 ^ (FloatKind.f32.format.fractionBits + 1) := hn
  have hl : FloatKind.f32.format.leastPlace ≤ -(j : Int) := by
    have : FloatKind.f32.format.leastPlace = -149 := by decide
    omega
  have hN0 : (0 : Rat) ≤ ((n.natAbs : Nat) : Rat) := Rat.natCast_nonneg
  have hmul : ((n.natAbs : Nat) : Rat) * p2 (-(j : Int)) ≤ p2 24 := by
    have := Rat.mul_le_mul_of_nonneg_left hle hN0
    grind
  have hpos := Rat.mul_nonneg hN0 (Rat.le_of_lt h2)
  rcases Int.le_total 0 n with h0 | h0
  · have hc : ((n.natAbs : Nat) : Rat) = (n : Rat) := by
      rw [← Rat.intCast_natCast]
      congr 1
      omega
    rw [hc] at hmul hpos
    exact ⟨.inl ⟨n.natAbs, -(j : Int), hb, hl, by rw [hc]; exact hq'⟩, by grind, by grind⟩
  · have hc : ((n.natAbs : Nat) : Rat) = -(n : Rat) := by
      rw [← Rat.intCast_natCast, ← Rat.intCast_neg]
      congr 1
      omega
    rw [hc] at hmul hpos
    exact ⟨.inr ⟨n.natAbs, -(j : Int), hb, hl, by rw [hc, hq']; grind⟩, by grind, by grind⟩
theorem fit_24 {q : Rat} (h1 : -p2 24 ≤ q) (h2 : q ≤ p2 24) : Fit .f32 q := by
  have : p2 24 < p2 (ftop .f32) := by decide +kernel
  constructor <;> grind
theorem fit_24' {q : Rat} (h1 : -p2 24 ≤ q) (h2 : q ≤ p2 24) : -p2 (ftop .f32 - 1) ≤ q ∧ q ≤ p2 (ftop .f32 - 1) := by
  have : p2 24 ≤ p2 (ftop .f32 - 1) := by decide +kernel
  constructor <;> grind
section
variable {x y : FV} {p q : Rat}
theorem add_ex (hx : Vl .f32 x p) (hy : Vl .f32 y q) (n : Int) (j : Nat) (hn : n.natAbs ≤ 2 ^ 24) (hj : j ≤ 100) (hq : (p + q) * ((2 ^ j : Nat) : Rat) = (n : Rat)) : Vl .f32 (fbin .add .f32 x y) (p + q) := by
  obtain ⟨hr, h1, h2⟩ := dy_rep n j hn hj hq
  obtain ⟨r, h3, h4⟩ := vl_add hx hy (fit_24 h1 h2)
  rwa [rnd_rep h4 hr] at h3
theorem sub_ex (hx : Vl .f32 x p) (hy : Vl .f32 y q) (n : Int) (j : Nat) (hn : n.natAbs ≤ 2 ^ 24) (hj : j ≤ 100) (hq : (p - q) * ((2 ^ j : Nat) : Rat) = (n : Rat)) : Vl .f32 (fbin .sub .f32 x y) (p - q) := by
  obtain ⟨hr, h1, h2⟩ := dy_rep n j hn hj hq
  obtain ⟨r, h3, h4⟩ := vl_sub hx hy (fit_24 h1 h2)
  rwa [rnd_rep h4 hr] at h3
theorem div_ex (hx : Vl .f32 x p) (hy : Vl .f32 y q) (h0 : q ≠ 0) {v : Rat} (hv : v * q = p) (n : Int) (j : Nat) (hn : n.natAbs ≤ 2 ^ 24) (hj : j ≤ 100) (hq : v * ((2 ^ j : Nat) : Rat) = (n : Rat)) : Vl .f32 (fbin .quo .f32 x y) v := by
  have he : p / q = v := by
    rw [← hv]
    exact Rat.mul_div_cancel h0
  obtain ⟨hr, h1, h2⟩ := dy_rep n j hn hj hq
  obtain ⟨r, h3, h4⟩ := vl_div hx hy h0 (by rw [he]; exact fit_24' h1 h2)
  rw [he] at h4
  rwa [rnd_rep h4 hr] at h3
/-- How near, of a number that is not above a. -/
theorem rnd_abs {q r : Rat} (h : Rnd .f32 q r) (a : Rat) (h1 : -a ≤ q) (h2 : q ≤ a) : q - (a / 8388608 + 1 / 8388608) ≤ r ∧ r ≤ q + (a / 8388608 + 1 / 8388608) := by
  have h3 := h.near a h1 h2
  have e1 : feps .f32 = 1 / 8388608 := by decide +kernel
  have e2 : ftiny .f32 ≤ 1 / 8388608 := by decide +kernel
  rw [e1] at h3
  obtain ⟨h4, h5⟩ := h3
  constructor <;> grind
end
/-- What a float is can be written. -/
theorem vl_rep {x : FV} {p : Rat} (h : Vl .f32 x p) : Rep .f32 p := by
  obtain ⟨b, s, m, e, rfl, hd, rfl⟩ := h
  obtain ⟨h1, h2, h3⟩ := single_number hd
  have hb : m ≤ 2 ^ (FloatKind.f32.format.fractionBits + 1) := Nat.le_of_lt h1
  have hl : FloatKind.f32.format.leastPlace ≤ e := Int.le_trans (by decide) h2
  unfold vl sgn
  cases s
  · refine .inl ⟨m, e, hb, hl, ?_⟩
    simp
  · refine .inr ⟨m, e, hb, hl, ?_⟩
    simp only [if_true]
    grind
theorem mul_zero_ex {x y : FV} {p : Rat} (hx : Vl .f32 x p) (hy : Vl .f32 y 0) : Vl .f32 (fbin .mul .f32 x y) 0 := by
  obtain ⟨r, h3, h4⟩ := vl_mul hx hy (by rw [Rat.mul_zero]; exact ⟨by decide +kernel, by decide +kernel⟩)
  rw [Rat.mul_zero] at h4
  rwa [rnd_rep h4 (rep_zero _)] at h3
theorem self_div_ex {x y : FV} {q : Rat} (hx : Vl .f32 x q) (hy : Vl .f32 y q) (hq : q ≠ 0) : Vl .f32 (fbin .quo .f32 x y) 1 :=
  div_ex hx hy hq (Rat.one_mul q) 1 0 (by decide) (by decide) (by decide +kernel)
theorem sub_self_ex {x y : FV} {q : Rat} (hx : Vl .f32 x q) (hy : Vl .f32 y q) : Vl .f32 (fbin .sub .f32 x y) 0 := by
  have he : q - q = 0 := Rat.sub_self
  obtain ⟨r, h3, h4⟩ := vl_sub hx hy (by rw [he]; exact ⟨by decide +kernel, by decide +kernel⟩)
  rw [he] at h4
  rwa [rnd_rep h4 (rep_zero _)] at h3
/-- A quotient is bounded by what bounds products. -/
theorem div_le_of {p q c : Rat} (hq : 0 < q) (h : p ≤ c * q) : p / q ≤ c := by
  have h1 : p / q * q = p := Rat.div_mul_cancel (Rat.ne_of_gt hq)
  exact Rat.le_of_mul_le_mul_right (by rw [h1]; exact h) hq
theorem le_div_of {p q c : Rat} (hq : 0 < q) (h : c * q ≤ p) : c ≤ p / q := by
  have h1 : p / q * q = p := Rat.div_mul_cancel (Rat.ne_of_gt hq)
  exact Rat.le_of_mul_le_mul_right (by rw [h1]; exact h) hq
end Go.Ab
namespace Go.Ab
theorem rootFrom_spec (n : Nat) : ∀ (todo root : Nat), root * root ≤ n → n < (root + 2 ^ todo) * (root + 2 ^ todo) →
    Ieee.Datum.rootFrom n todo root * Ieee.Datum.rootFrom n todo root ≤ n ∧ n < (Ieee.Datum.rootFrom n todo root + 1) * (Ieee.Datum.rootFrom n todo root + 1)
  | 0, root, h1, h2 => ⟨h1, h2⟩
  | todo + 1, root, h1, h2 => by
    unfold Ieee.Datum.rootFrom
    rw [Nat.one_shiftLeft]
    dsimp only
    have hp : 2 ^ (todo + 1) = 2 ^ todo + 2 ^ todo := by rw [Nat.pow_succ]; omega
    rw [hp, ← Nat.add_assoc] at h2
    split
    · rename_i h
      exact rootFrom_spec n todo _ h h2
    · rename_i h
      exact rootFrom_spec n todo _ h1 (by omega)
theorem root_start (n : Nat) : n < (0 + 2 ^ (n.log2 / 2 + 1)) * (0 + 2 ^ (n.log2 / 2 + 1)) := by
  rw [Nat.zero_add, ← Nat.pow_add]
  exact Nat.lt_of_lt_of_le Nat.lt_log2_self (Nat.pow_le_pow_right (by decide) (by omega))
theorem sq_le_of {a b : Rat} (ha : 0 ≤ a) (hb : 0 ≤ b) (h : a * a ≤ b * b) : a ≤ b := by
  rcases Rat.le_total (a := a) (b := b) with h1 | h1
  · exact h1
  · rcases Rat.le_iff_lt_or_eq.1 h1 with h2 | h2
    · have h3 : b * b ≤ b * a := Rat.mul_le_mul_of_nonneg_left h1 hb
      have h4 : b * a < a * a := Rat.mul_lt_mul_of_pos_right h2 (by grind)
      grind
    · rw [h2]; exact Rat.le_refl
theorem nsq_le {a b : Nat} (h : a * a ≤ b * b) : a ≤ b := Nat.mul_self_le_mul_self_iff.1 h
theorem nsq_lt {a b : Nat} (h : a * a < b * b) : a < b := Nat.mul_self_lt_mul_self_iff.1 h
/-- A root's digits with a sticky one, beside what can be written. -/
theorem root_side {k : FloatKind} {W st n : Nat} {e : Int} (hW : 2 ^ (k.format.fractionBits + 1) ≤ W) (hst : (st = 0 ∧ n = W * W) ∨ (st = 1 ∧ W * W < n ∧ n < (W + 1) * (W + 1))) {B : Rat} (hB : RepN k B) :
    ((n : Rat) * (2 * p2 e * (2 * p2 e)) ≤ B * B → ((2 * W + st : Nat) : Rat) * p2 e ≤ B) ∧ (B * B ≤ (n : Rat) * (2 * p2 e * (2 * p2 e)) → B ≤ ((2 * W + st : Nat) : Rat) * p2 e) := by
  have hup := p2_pos e
  obtain ⟨M, E, hM, hE, hBe⟩ := hB
  have hWn : W * W ≤ n := by rcases hst with ⟨_, h⟩ | ⟨_, h, _⟩ <;> omega
  rcases (show e + 1 ≤ E ∨ E ≤ e from by omega) with hle | hle
  · have hB2 : B = ((M * 2 ^ (E - (e + 1)).toNat : Nat) : Rat) * (2 * p2 e) := by
      rw [hBe, p2_split hle, p2_add, p2_one, Rat.natCast_mul]
      grind
    generalize M * 2 ^ (E - (e + 1)).toNat = N at *
    have hsq : B * B = ((N * N : Nat) : Rat) * (2 * p2 e * (2 * p2 e)) := by
      rw [hB2, Rat.natCast_mul]
      grind
    have hu2 : 0 < 2 * p2 e * (2 * p2 e) := Rat.mul_pos (by grind) (by grind)
    rw [hsq]
    refine ⟨fun h => ?_, fun h => ?_⟩
    · have h1 : n ≤ N * N := Rat.natCast_le_natCast.1 (Rat.le_of_mul_le_mul_right h hu2)
      have h2 : 2 * W + st ≤ 2 * N := by
        rcases hst with ⟨h0, h3⟩ | ⟨h0, h3, _⟩
        · have := nsq_le (a := W) (b := N) (by omega)
          omega
        · have := nsq_lt (a := W) (b := N) (by omega)
          omega
      have h3 := mul_p2_le h2 e
      rw [hB2]
      rw [Rat.natCast_mul] at h3
      have e2 : ((2 : Nat) : Rat) = 2 := rfl
      rw [e2] at h3
      grind
    · have h1 : N * N ≤ n := Rat.natCast_le_natCast.1 (Rat.le_of_mul_le_mul_right h hu2)
      have h2 : 2 * N ≤ 2 * W + st := by
        rcases hst with ⟨h0, h3⟩ | ⟨h0, _, h3⟩
        · have := nsq_le (a := N) (b := W) (by omega)
          omega
        · have := nsq_lt (a := N) (b := W + 1) (by omega)
          omega
      have h3 := mul_p2_le h2 e
      rw [hB2]
      rw [Rat.natCast_mul] at h3
      have e2 : ((2 : Nat) : Rat) = 2 := rfl
      rw [e2] at h3
      grind
  · have h3 : B ≤ (W : Rat) * p2 e := by
      rw [hBe]
      exact Rat.le_trans (Rat.mul_le_mul_of_nonneg_left (p2_le hle) Rat.natCast_nonneg) (mul_p2_le (Nat.le_trans hM hW) e)
    have hB0 : 0 ≤ B := by
      rw [hBe]
      exact Rat.mul_nonneg Rat.natCast_nonneg (Rat.le_of_lt (p2_pos E))
    have hW0 : (0 : Rat) < W := by
      rw [show (0 : Rat) = ((0 : Nat) : Rat) from rfl]
      exact Rat.natCast_lt_natCast.2 (Nat.lt_of_lt_of_le (Nat.two_pow_pos _) hW)
    have hX : 0 < (W : Rat) * p2 e := Rat.mul_pos hW0 hup
    have hc : ((2 * W + st : Nat) : Rat) * p2 e = 2 * ((W : Rat) * p2 e) + (st : Rat) * p2 e := by
      rw [Rat.natCast_add, Rat.natCast_mul]
      show (2 * (W : Rat) + st) * p2 e = _
      grind
    have hst0 : 0 ≤ (st : Rat) * p2 e := Rat.mul_nonneg Rat.natCast_nonneg (Rat.le_of_lt hup)
    rw [hc]
    refine ⟨fun h => ?_, fun _ => by grind⟩
    exfalso
    have h4 : ((W * W : Nat) : Rat) ≤ (n : Rat) := Rat.natCast_le_natCast.2 hWn
    rw [Rat.natCast_mul] at h4
    have h5 := Rat.mul_le_mul_of_nonneg_right h4 (show 0 ≤ 2 * p2 e * (2 * p2 e) from Rat.mul_nonneg (by grind) (by grind))
    have h6 : B * B ≤ (W : Rat) * p2 e * ((W : Rat) * p2 e) := Rat.le_trans (Rat.mul_le_mul_of_nonneg_left h3 hB0) (Rat.mul_le_mul_of_nonneg_right h3 (Rat.le_of_lt hX))
    have h7 := Rat.mul_pos hX hX
    grind
/-- A root of a 64-bit number. -/
theorem vl_sqrt {x : FV} {p : Rat} (hx : Vl .f64 x p) (h1 : p2 (-400) ≤ p) (h2 : p ≤ p2 200) :
    ∃ r, Vl .f64 (fsqrt x) r ∧ 0 < r ∧ (∀ B, RepN .f64 B → (p ≤ B * B → r ≤ B) ∧ (B * B ≤ p → B ≤ r)) ∧ p ≤ r * r * (1 + p2 (-40)) ∧ r * r ≤ p * (1 + p2 (-40)) := by
  obtain ⟨b, s, m, i, rfl, hd, hq⟩ := hx
  have hp0 : 0 < p := Std.lt_of_lt_of_le (p2_pos _) h1
  have hs : s = false := by
    cases s
    · rfl
    · exfalso
      have := Rat.mul_nonneg (Rat.natCast_nonneg (a := m)) (Rat.le_of_lt (p2_pos i))
      unfold vl sgn at hq
      simp only [if_true] at hq
      grind
  subst hs
  have hm : m ≠ 0 := fun h => by
    subst h
    rw [vl_zero] at hq
    grind
  have hpv : p = (m : Rat) * p2 i := by
    rw [← hq]
    unfold vl sgn
    simp
  have hroot : ∃ more : Nat, 108 ≤ m.log2 + more ∧ (i - more) % 2 = 0 ∧ fsqrt (some b) = some (FloatKind.f64.format.nearest false (2 * Ieee.Datum.rootFrom (m <<< more) ((m <<< more).log2 / 2 + 1) 0 + (Ieee.Datum.rootFrom (m <<< more) ((m <<< more).log2 / 2 + 1) 0 * Ieee.Datum.rootFrom (m <<< more) ((m <<< more).log2 / 2 + 1) 0 != m <<< more).toNat) ((i - more) / 2 - 1)) := by
    refine ⟨2 * 54 - m.log2 + ((i - (2 * 54 - m.log2 : Nat)) % 2).toNat, by omega, by omega, ?_⟩
    have hd' : FloatKind.f64.format.read b = .number false m i := hd
    have hfb : FloatKind.f64.format.fractionBits + 2 = 54 := rfl
    simp [fsqrt, Ieee.Format.sqrt, hd', Ieee.Datum.root, hm, Ieee.Format.write, hfb]
  obtain ⟨more, hmore, hev, hfs⟩ := hroot
  rw [hfs]
  clear hfs hd
  have hn0 : 2 ^ 108 ≤ m <<< more := by
    rw [Nat.shiftLeft_eq]
    have h3 : 2 ^ m.log2 * 2 ^ more ≤ m * 2 ^ more := Nat.mul_le_mul_right _ (Nat.log2_self_le hm)
    rw [← Nat.pow_add] at h3
    exact Nat.le_trans (Nat.pow_le_pow_right (by decide) (by omega)) h3
  have hval := mul_shl m more (i - more)
  rw [show i - (more : Int) + more = i from by omega, ← hpv] at hval
  have hu : p2 (i - more) = 2 * p2 ((i - more) / 2 - 1) * (2 * p2 ((i - more) / 2 - 1)) := by
    have e1 : (2 : Rat) * p2 ((i - more) / 2 - 1) = p2 ((i - more) / 2) := by
      rw [← p2_one, ← p2_add]
      congr 1
      omega
    rw [e1, ← p2_add]
    congr 1
    omega
  rw [hu] at hval
  generalize m <<< more = n at *
  obtain ⟨hw1, hw2⟩ := rootFrom_spec n (n.log2 / 2 + 1) 0 (Nat.zero_le _) (root_start n)
  generalize Ieee.Datum.rootFrom n (n.log2 / 2 + 1) 0 = W at *
  generalize (i - more) / 2 - 1 = e at *
  have hW : 2 ^ (FloatKind.f64.format.fractionBits + 1) ≤ W := by
    show 2 ^ 53 ≤ W
    have := nsq_lt (a := 2 ^ 53) (b := W + 1) (by omega)
    omega
  obtain ⟨st, hst, hstc⟩ : ∃ st, (W * W != n).toNat = st ∧ ((st = 0 ∧ n = W * W) ∨ (st = 1 ∧ W * W < n ∧ n < (W + 1) * (W + 1))) := by
    refine ⟨_, rfl, ?_⟩
    by_cases h : W * W = n
    · left
      simp [h]
    · right
      have : (W * W != n) = true := by simpa using h
      rw [this]
      exact ⟨rfl, by omega, hw2⟩
  rw [hst]
  have hside := fun {B} (hB : RepN .f64 B) => root_side (k := .f64) (e := e) hW hstc (B := B) hB
  rw [hval] at hside
  have hr100 : RepN .f64 (p2 100) := ⟨1, 100, Nat.one_le_two_pow, by decide, by rw [show ((1 : Nat) : Rat) = 1 from rfl, Rat.one_mul]⟩
  have hrm : RepN .f64 (p2 (-200)) := ⟨1, -200, Nat.one_le_two_pow, by decide, by rw [show ((1 : Nat) : Rat) = 1 from rfl, Rat.one_mul]⟩
  have hA1 := (hside hr100).1 (by rw [← p2_add]; exact h2)
  have hA2 := (hside hrm).2 (by rw [← p2_add]; exact h1)
  have htop : p2 100 < p2 (ftop .f64) := by decide +kernel
  obtain ⟨m', e', g1, g2, g3, g4, g5⟩ := nearest_rnd' .f64 false (2 * W + st) e (Std.lt_of_le_of_lt hA1 htop)
  have hup := p2_pos e
  have hWr : (1 : Rat) ≤ W * p2 (-53) := by
    have h3 := mul_p2_le hW (-53)
    rw [p2_shl] at h3
    exact h3
  have hc : ((2 * W + st : Nat) : Rat) * p2 e = 2 * ((W : Rat) * p2 e) + (st : Rat) * p2 e := by
    rw [Rat.natCast_add, Rat.natCast_mul]
    show (2 * (W : Rat) + st) * p2 e = _
    grind
  -- p beside the square of what is rounded
  have hpA : p ≤ (((2 * W + st : Nat) : Rat) * p2 e + p2 e) * (((2 * W + st : Nat) : Rat) * p2 e + p2 e) ∧ (((2 * W + st : Nat) : Rat) * p2 e - p2 e) * (((2 * W + st : Nat) : Rat) * p2 e - p2 e) ≤ p := by
    rw [hc, ← hval]
    rcases hstc with ⟨h0, h3⟩ | ⟨h0, h3, h4⟩
    · subst h0
      rw [show ((0 : Nat) : Rat) = 0 from rfl, Rat.zero_mul, Rat.add_zero]
      have h5 : (n : Rat) = (W : Rat) * W := by rw [h3, Rat.natCast_mul]
      rw [h5]
      have h6 : 0 ≤ (W : Rat) * p2 e := Rat.mul_nonneg Rat.natCast_nonneg (Rat.le_of_lt hup)
      have h7 := Rat.mul_nonneg h6 (Rat.le_of_lt hup)
      have h8 := Rat.mul_pos hup hup
      have h9 : p2 e * p2 e ≤ (W : Rat) * p2 e * p2 e := by
        have hW1 : (1 : Rat) ≤ W := by
          have := Rat.natCast_le_natCast.2 (show 1 ≤ W from Nat.le_trans (by decide) hW)
          exact this
        have := Rat.mul_le_mul_of_nonneg_right hW1 (Rat.le_of_lt h8)
        grind
      constructor <;> grind
    · subst h0
      rw [show ((1 : Nat) : Rat) = 1 from rfl, Rat.one_mul]
      have h5 : ((W * W : Nat) : Rat) < n := Rat.natCast_lt_natCast.2 h3
      have h6 : (n : Rat) < (((W + 1) * (W + 1) : Nat) : Rat) := Rat.natCast_lt_natCast.2 h4
      rw [Rat.natCast_mul] at h5 h6
      rw [Rat.natCast_add, show ((1 : Nat) : Rat) = 1 from rfl] at h6
      have hu2 : 0 < 2 * p2 e * (2 * p2 e) := Rat.mul_pos (by grind) (by grind)
      have h7 := Rat.mul_lt_mul_of_pos_right h5 hu2
      have h8 := Rat.mul_lt_mul_of_pos_right h6 hu2
      constructor <;> grind
  have huA : p2 e ≤ ((2 * W + st : Nat) : Rat) * p2 e * p2 (-54) := by
    rw [hc]
    have h3 : 0 ≤ (st : Rat) * p2 e := Rat.mul_nonneg Rat.natCast_nonneg (Rat.le_of_lt hup)
    have h4 := Rat.mul_nonneg h3 (Rat.le_of_lt (p2_pos (-54)))
    have h5 := Rat.mul_le_mul_of_nonneg_right hWr (Rat.le_of_lt hup)
    have h6 : p2 (-53) = 2 * p2 (-54) := by decide +kernel
    rw [h6] at h5
    grind
  have e1 : feps .f64 = p2 (-52) := rfl
  have e2 : ftiny .f64 ≤ p2 (-200) * p2 (-52) := by decide +kernel
  have hr' : vl false m' e' = (m' : Rat) * p2 e' := by unfold vl sgn; simp
  have hv := Vl.of (k := .f64) g1
  rw [hr'] at hv
  have hrv : ∀ B, RepN .f64 B → (p ≤ B * B → (m' : Rat) * p2 e' ≤ B) ∧ (B * B ≤ p → B ≤ (m' : Rat) * p2 e') := fun B hB => ⟨fun h => (g3 B hB).1 ((hside hB).1 h), fun h => (g3 B hB).2 ((hside hB).2 h)⟩
  generalize (m' : Rat) * p2 e' = r at *
  generalize ((2 * W + st : Nat) : Rat) * p2 e = A at *
  have hp100 := p2_pos (-200)
  have hr0 : 0 < r := Std.lt_of_lt_of_le hp100 ((hrv _ hrm).2 (by rw [← p2_add]; exact h1))
  rw [e1] at g4 g5
  have hA0 : 0 < A := Std.lt_of_lt_of_le hp100 hA2
  have e3 := Rat.mul_le_mul_of_nonneg_right hA2 (Rat.le_of_lt (p2_pos (-52)))
  -- A within a small share of r
  have c52 : p2 (-52) = 1 / 4503599627370496 := by decide +kernel
  have c54 : p2 (-54) = 1 / 18014398509481984 := by decide +kernel
  have c40 : p2 (-40) = 1 / 1099511627776 := by decide +kernel
  rw [c52] at g4 g5 e2 e3
  rw [c54] at huA
  have k1 : A ≤ r * (1 + 1 / 1000000000000000) := by grind
  have k2 : r ≤ A * (1 + 1 / 1000000000000000) := by grind
  have k3 : A + p2 e ≤ r * (1 + 1 / 100000000000000) := by grind
  have k4 : r * (1 - 1 / 100000000000000) ≤ A - p2 e := by grind
  refine ⟨r, hv, hr0, hrv, ?_, ?_⟩
  · rw [c40]
    have q1 : (A + p2 e) * (A + p2 e) ≤ r * (1 + 1 / 100000000000000) * (r * (1 + 1 / 100000000000000)) :=
      Rat.le_trans (Rat.mul_le_mul_of_nonneg_left k3 (by grind)) (Rat.mul_le_mul_of_nonneg_right k3 (by grind))
    have q2 := Rat.mul_pos hr0 hr0
    grind
  · rw [c40]
    have q1 : r * (1 - 1 / 100000000000000) * (r * (1 - 1 / 100000000000000)) ≤ (A - p2 e) * (A - p2 e) :=
      Rat.le_trans (Rat.mul_le_mul_of_nonneg_left k4 (by grind)) (Rat.mul_le_mul_of_nonneg_right k4 (by grind))
    have q2 := Rat.mul_pos hr0 hr0
    grind
end Go.Ab
namespace Go.Ab
def powF (x y : FV) : FV := fbin .add .f64 (fbin .mul .f64 (fconv .f32 .f64 x) (fconv .f32 .f64 x)) (fbin .mul .f64 (fconv .f32 .f64 y) (fconv .f32 .f64 y))
def longF (x y : FV) : FV := fconv .f64 .f32 (fsqrt (powF x y))
theorem rep_sq {B : Rat} (h : Rep .f32 B) : RepN .f64 (B * B) ∧ (B = 0 ∨ p2 (-298) ≤ B * B) := by
  have key : ∀ B : Rat, RepN .f32 B → RepN .f64 (B * B) ∧ (B = 0 ∨ p2 (-298) ≤ B * B) := fun B ⟨M, E, hM, hE, hB⟩ => by
    have hM' : M ≤ 2 ^ 24 := hM
    have hE' : -149 ≤ E := hE
    have e : B * B = ((M * M : Nat) : Rat) * p2 (E + E) := by rw [hB, Rat.natCast_mul, p2_add]; grind
    refine ⟨⟨M * M, E + E, ?_, ?_, e⟩, ?_⟩
    · have h1 : M * M ≤ 2 ^ 24 * 2 ^ 24 := Nat.mul_le_mul hM' hM'
      exact Nat.le_trans h1 (by decide)
    · have : FloatKind.f64.format.leastPlace = -1074 := by decide
      omega
    · rcases Nat.eq_zero_or_pos M with h0 | h0
      · left
        rw [hB, h0, show ((0 : Nat) : Rat) = 0 from rfl, Rat.zero_mul]
      · right
        rw [e]
        have h1 : (1 : Rat) ≤ ((M * M : Nat) : Rat) := by
          have := Rat.natCast_le_natCast.2 (show 1 ≤ M * M from Nat.mul_pos h0 h0)
          exact this
        have h2 := p2_le (show -298 ≤ E + E by omega)
        have h3 := Rat.mul_le_mul_of_nonneg_right h1 (Rat.le_of_lt (p2_pos (E + E)))
        rw [Rat.one_mul] at h3
        exact Rat.le_trans h2 h3
  rcases h with h | h
  · exact key B h
  · have := key (-B) h
    have e : -B * -B = B * B := by grind
    rw [e] at this
    exact ⟨this.1, this.2.imp (fun h => by grind) id⟩
theorem sqrt_zero {x : FV} (hx : Vl .f64 x 0) : Vl .f64 (fsqrt x) 0 := by
  obtain ⟨b, s, m, i, rfl, hd, hq⟩ := hx
  have hm : m = 0 := by
    rcases Nat.eq_zero_or_pos m with h | h
    · exact h
    · exfalso
      have h1 : (1 : Rat) ≤ ((m : Nat) : Rat) := by
        have := Rat.natCast_le_natCast.2 h
        exact this
      have h2 := p2_pos i
      have h3 := Rat.mul_le_mul_of_nonneg_right h1 (Rat.le_of_lt h2)
      unfold vl sgn at hq
      cases s
      · simp only [Bool.false_eq_true, if_false] at hq
        grind
      · simp only [if_true] at hq
        grind
  subst hm
  have hd' : FloatKind.f64.format.read b = .number s 0 i := hd
  have hfb : FloatKind.f64.format.fractionBits + 2 = 54 := rfl
  cases s
  · have : fsqrt (some b) = some (FloatKind.f64.format.nearest false 0 i) := by
      simp [fsqrt, Ieee.Format.sqrt, hd', Ieee.Datum.root, Ieee.Format.write]
    rw [this]
    have h0 : FloatKind.f64.format.nearest false 0 i = 0 := by unfold Ieee.Format.nearest; rw [if_pos rfl]; rfl
    rw [h0]
    exact Vl.cs (by decide +kernel)
  · have : fsqrt (some b) = some (FloatKind.f64.format.nearest true 0 i) := by
      simp [fsqrt, Ieee.Format.sqrt, hd', Ieee.Datum.root, Ieee.Format.write]
    rw [this]
    have h0 : FloatKind.f64.format.nearest true 0 i = 9223372036854775808 := by unfold Ieee.Format.nearest; rw [if_pos rfl]; rfl
    rw [h0]
    exact Vl.cs (by decide +kernel)
section
variable {x y : FV} {p q : Rat}
theorem vl_pow (hx : Vl .f32 x p) (hy : Vl .f32 y q) (hp : -p2 30 ≤ p ∧ p ≤ p2 30) (hq : -p2 30 ≤ q ∧ q ≤ p2 30) : ∃ P, Vl .f64 (powF x y) P ∧ Rnd .f64 (p * p + q * q) P ∧ p * p + q * q ≤ p2 61 := by
  have e60 : p2 30 * p2 30 = p2 60 := by decide +kernel
  have e61 : p2 60 + p2 60 = p2 61 := by decide +kernel
  have f60 : p2 61 < p2 (ftop .f64) := by decide +kernel
  have n60 := p2_pos 60
  have b1 := mul_bnd hp.1 hp.2 hp.1 hp.2
  have b2 := mul_bnd hq.1 hq.2 hq.1 hq.2
  rw [e60] at b1 b2
  obtain ⟨a, ha, ra⟩ := vl_mul (vl_wide hx) (vl_wide hx) (show Fit .f64 (p * p) by constructor <;> grind)
  obtain ⟨b, hb, rb⟩ := vl_mul (vl_wide hy) (vl_wide hy) (show Fit .f64 (q * q) by constructor <;> grind)
  rw [rnd_rep ra (.inl (rep_sq (vl_rep hx)).1)] at ha
  rw [rnd_rep rb (.inl (rep_sq (vl_rep hy)).1)] at hb
  obtain ⟨P, hP, rP⟩ := vl_add ha hb (show Fit .f64 (p * p + q * q) by constructor <;> grind)
  exact ⟨P, hP, rP, by grind⟩
theorem vl_long (hx : Vl .f32 x p) (hy : Vl .f32 y q) (hp : -p2 30 ≤ p ∧ p ≤ p2 30) (hq : -p2 30 ≤ q ∧ q ≤ p2 30) :
    ∃ R, Vl .f32 (longF x y) R ∧ ConvOk .f64 .f32 (fsqrt (powF x y)) ∧ 0 ≤ R ∧ (∀ B, RepN .f32 B → (p * p + q * q ≤ B * B → R ≤ B) ∧ (B * B ≤ p * p + q * q → B ≤ R)) ∧
      (p2 (-90) ≤ p * p + q * q → p * p + q * q ≤ R * R * (1 + p2 (-20)) ∧ R * R ≤ (p * p + q * q) * (1 + p2 (-20))) := by
  obtain ⟨P, hP, rP, P61⟩ := vl_pow hx hy hp hq
  have hs1 := rep_sq (vl_rep hx)
  have hs2 := rep_sq (vl_rep hy)
  have hpp : 0 ≤ p * p := by
    rcases Rat.le_total (a := 0) (b := p) with h | h
    · exact Rat.mul_nonneg h h
    · have := Rat.mul_nonneg (show 0 ≤ -p by grind) (show 0 ≤ -p by grind); grind
  have hqq : 0 ≤ q * q := by
    rcases Rat.le_total (a := 0) (b := q) with h | h
    · exact Rat.mul_nonneg h h
    · have := Rat.mul_nonneg (show 0 ≤ -q by grind) (show 0 ≤ -q by grind); grind
  have n298 := p2_pos (-298)
  have hsd : ∀ B, RepN .f32 B → (p * p + q * q ≤ B * B → P ≤ B * B) ∧ (B * B ≤ p * p + q * q → B * B ≤ P) := fun B hB => rP.side _ (.inl (rep_sq (.inl hB)).1)
  by_cases h0 : p * p + q * q = 0
  · have hP0 : P = 0 := by
      rw [h0] at rP
      exact rnd_rep rP (rep_zero _)
    rw [hP0] at hP
    have h1 := sqrt_zero hP
    have hf : Fit .f32 0 := ⟨by decide +kernel, by decide +kernel⟩
    obtain ⟨R, hR, hRr⟩ := vl_narrow h1 hf
    obtain rfl := rnd_rep hRr (rep_zero _)
    refine ⟨0, hR, vl_narrow_ok h1 hf, Rat.le_refl, fun B hB => ⟨fun _ => ?_, fun h => ?_⟩, fun h => ?_⟩
    · obtain ⟨M, E, _, _, rfl⟩ := hB
      exact Rat.mul_nonneg Rat.natCast_nonneg (Rat.le_of_lt (p2_pos E))
    · rw [h0] at h
      obtain ⟨M, E, _, _, rfl⟩ := hB
      have hb : 0 ≤ (M : Rat) * p2 E := Rat.mul_nonneg Rat.natCast_nonneg (Rat.le_of_lt (p2_pos E))
      rcases (show (M : Rat) * p2 E = 0 ∨ 0 < (M : Rat) * p2 E from by grind) with h4 | h4
      · grind
      · have := Rat.mul_pos h4 h4
        grind
    · have := p2_pos (-90)
      grind
  · have hge : p2 (-298) ≤ p * p + q * q := by
      rcases hs1.2 with h1 | h1
      · rcases hs2.2 with h2 | h2
        · subst h1 h2
          exfalso
          exact h0 (by grind)
        · grind
      · grind
    have hPge : p2 (-298) ≤ P := (rP.side _ (.inl ⟨1, -298, by decide, by decide, by rw [show ((1 : Nat) : Rat) = 1 from rfl, Rat.one_mul]⟩)).2 hge
    have hPle : P ≤ p2 61 := (rP.side _ (.inl ⟨1, 61, by decide, by decide, by rw [show ((1 : Nat) : Rat) = 1 from rfl, Rat.one_mul]⟩)).1 P61
    obtain ⟨r, hr, hr0, hside, hn1, hn2⟩ := vl_sqrt hP (Rat.le_trans (p2_le (by decide)) hPge) (Rat.le_trans hPle (p2_le (by decide)))
    have hwide : ∀ B, RepN .f32 B → RepN .f64 B := fun B ⟨M, E, hM, hE, hB⟩ => ⟨M, E, Nat.le_trans hM (by decide), Int.le_trans (by decide) hE, hB⟩
    have hr50 : RepN .f32 (p2 50) := ⟨1, 50, Nat.one_le_two_pow, by decide, by rw [show ((1 : Nat) : Rat) = 1 from rfl, Rat.one_mul]⟩
    have k1 := (hside _ (hwide _ hr50)).1 (by rw [← p2_add]; exact Rat.le_trans hPle (p2_le (by decide)))
    have htop : p2 50 < p2 (ftop .f32) := by decide +kernel
    have hfit : Fit .f32 r := ⟨by have := p2_pos (ftop .f32); grind, Std.lt_of_le_of_lt k1 htop⟩
    obtain ⟨R, hR, hRr⟩ := vl_narrow hr hfit
    have hR0 : 0 ≤ R := (hRr.side 0 (rep_zero _)).2 (Rat.le_of_lt hr0)
    have hs3 : ∀ B, RepN .f32 B → (p * p + q * q ≤ B * B → R ≤ B) ∧ (B * B ≤ p * p + q * q → B ≤ R) := fun B hB => ⟨fun h => (hRr.side B (.inl hB)).1 ((hside B (hwide B hB)).1 ((hsd B hB).1 h)), fun h => (hRr.side B (.inl hB)).2 ((hside B (hwide B hB)).2 ((hsd B hB).2 h))⟩
    refine ⟨R, hR, vl_narrow_ok hr hfit, hR0, hs3, fun h90 => ?_⟩
    have hrm : RepN .f32 (p2 (-45)) := ⟨1, -45, Nat.one_le_two_pow, by decide, by rw [show ((1 : Nat) : Rat) = 1 from rfl, Rat.one_mul]⟩
    have k2 := (hside _ (hwide _ hrm)).2 ((hsd _ hrm).2 (by rw [← p2_add]; exact h90))
    have k3 := (hs3 _ hrm).2 (by rw [← p2_add]; exact h90)
    have h45 := p2_pos (-45)
    obtain ⟨n1, n2⟩ := hRr.near r (by grind) Rat.le_refl
    obtain ⟨n3, n4⟩ := rP.near (p * p + q * q) (by grind) Rat.le_refl
    have e1 : feps .f32 = 1 / 8388608 := by decide +kernel
    have e2 : ftiny .f32 ≤ p2 (-45) * (1 / 1000000000000) := by decide +kernel
    have e3 : p2 (-20) = 1 / 1048576 := by decide +kernel
    have e4 : p2 (-40) = 1 / 1099511627776 := by decide +kernel
    have e5 : feps .f64 = 1 / 4503599627370496 := by decide +kernel
    have e6 : ftiny .f64 ≤ p2 (-90) * (1 / 1000000000000) := by decide +kernel
    rw [e1] at n1 n2
    rw [e4] at hn1 hn2
    rw [e5] at n3 n4
    have e7 := Rat.mul_le_mul_of_nonneg_right k2 (show (0 : Rat) ≤ 1 / 1000000000000 by decide +kernel)
    have e8 := Rat.mul_le_mul_of_nonneg_right h90 (show (0 : Rat) ≤ 1 / 1000000000000 by decide +kernel)
    have m1 : r ≤ R * (1 + 13 / 100000000) := by grind
    have m2 : R ≤ r * (1 + 13 / 100000000) := by grind
    have q1 : r * r ≤ R * (1 + 13 / 100000000) * (R * (1 + 13 / 100000000)) :=
      Rat.le_trans (Rat.mul_le_mul_of_nonneg_left m1 (by grind)) (Rat.mul_le_mul_of_nonneg_right m1 (by grind))
    have q2 : R * R ≤ r * (1 + 13 / 100000000) * (r * (1 + 13 / 100000000)) :=
      Rat.le_trans (Rat.mul_le_mul_of_nonneg_left m2 (by grind)) (Rat.mul_le_mul_of_nonneg_right m2 (by grind))
    have hRp : 0 < R := by grind
    have q3 := Rat.mul_pos hRp hRp
    have q4 := Rat.mul_pos hr0 hr0
    rw [e3]
    generalize p * p + q * q = T at *
    have m3 : T ≤ P * (1 + 1 / 100000000000) := by grind
    have m4 : P ≤ T * (1 + 1 / 100000000000) := by grind
    constructor
    · grind
    · grind
end
end Go.Ab
