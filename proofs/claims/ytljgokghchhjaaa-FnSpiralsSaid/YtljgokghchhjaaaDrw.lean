/- A region whose order is drawn and in whose midst a store lies that some of the operations ahead of it in the text may follow. No conditions. -/
import Derived.Test.YtljgokghchhjaaaApp
namespace Go.Ab

def drawOk1 (ops : Array Oper) (n : Nat) : Bool :=
  (match ops[n]? with
    | some o => o.dst.isNone && o.guard.isNone && (looks ops o).all (fun t => (List.range n).all fun j => gslot ops j != some t || ((Region.before ops).getD n 0).testBit j)
    | none => false) &&
  (List.range n).all (fun i => match ops[i]? with
    | some o => o.dst.isSome && (List.range n).all (fun j => j == i || gslot ops j != o.dst) &&
        (looks ops o).all (fun t => (List.range n).all fun j => gslot ops j != some t || (decide (j < i) && (directs o).contains j))
    | none => false) &&
  (List.range ops.size).all (fun k => decide (k < n + 1) || (List.range k).all fun i => ((Region.before ops).getD k 0).testBit i) &&
  (List.range ops.size).all (fun k => match ops[k]? with
    | some o => (directs o).all fun j => decide (j < k)
    | none => false)
/-- What a late operation looks at is told without a world. -/
def stillAt (e : Env) (t : Nat) : Bool := match e.look t with
  | some v => v.still
  | none => true
def lateStill (ops : Array Oper) (n : Nat) (e : Env) : Bool :=
  (List.range n).all fun i => ((Region.before ops).getD n 0).testBit i || (match ops[i]? with
    | some o => (looks ops o).all (stillAt e)
    | none => true)
/-- An operation that turns the world and gives nothing. -/
def EffJ (P : Program) (S0 S1 : World → Prop) (e : Env) (o : Oper) : Prop :=
  ∀ (a : Act) (w : World) (K : Act → World → Prop) (Q : Exit → Act → World → Prop), S0 w →
    (∀ x ∈ o.op.operands.toList, ∀ y, e.ev x = some y → Rel w y (a.eval x)) →
    (∀ w', S1 w' → K a w') → o.wp P a w K Q

def kp (v : AV) : AV := v.keep
theorem kp_still {v : AV} (h : v.still = true) : kp v = v := AV.keep_still h
theorem rel_kp {w : World} {v : AV} {u : Value} (h : Rel w v u) : Rel w (kp v) u := by
  unfold kp
  cases hs : v.still with
  | true => rw [AV.keep_still hs]; exact h
  | false => rw [AV.keep_not hs]; exact .q trivial
theorem rel_kp_any {w w' : World} {v : AV} {u : Value} (h : Rel w v u) : Rel w' (kp v) u := by
  unfold kp
  cases hs : v.still with
  | true => rw [AV.keep_still hs]; exact h.any hs
  | false => rw [AV.keep_not hs]; exact .q trivial
theorem look_keep_kp : ∀ (e : Env) (t : Nat), e.keep.look t = (e.look t).map kp
  | [], _ => rfl
  | (d, v) :: r, t => by
    simp only [Env.keep, Env.look]
    cases Nat.beq d t with
    | true => rfl
    | false => exact look_keep_kp r t

section
variable {P : Program} {N : Nat} {S S0 S1 W : World → Prop} {e : Env} {Q : Exit → Env → World → Prop} {ops : Array Oper} {l : List Oper} {o : Oper}

theorem drawOk1_spec {n : Nat} (h : drawOk1 ops n = true) : (∃ o, ops[n]? = some o ∧ o.dst = none ∧ o.guard = none ∧ ∀ t ∈ looks ops o, ∀ j, j < n → gslot ops j = some t → Must ops j n) ∧
    (∀ i o, i < n → ops[i]? = some o → (∃ d, o.dst = some d) ∧ (∀ j, j < n → j ≠ i → gslot ops j ≠ o.dst) ∧ ∀ t ∈ looks ops o, ∀ j, j < n → gslot ops j = some t → j < i ∧ j ∈ directs o) ∧
    (∀ k i, n + 1 ≤ k → k < ops.size → i < k → Must ops i k) ∧ (∀ k o, ops[k]? = some o → ∀ j ∈ directs o, j < k) := by
  unfold drawOk1 at h
  simp only [Bool.and_eq_true, List.all_eq_true, List.mem_range] at h
  obtain ⟨⟨⟨h1, h2⟩, h3⟩, h4⟩ := h
  refine ⟨?_, fun i o hi ho => ?_, fun k i hk hks hik => ?_, fun k o ho j hj => ?_⟩
  · cases ho : ops[n]? with
    | none => simp [ho] at h1
    | some o =>
      simp only [ho, Bool.and_eq_true, List.all_eq_true, List.mem_range, Bool.or_eq_true, bne_iff_ne, Option.isNone_iff_eq_none] at h1
      obtain ⟨⟨ha, hb⟩, hc⟩ := h1
      exact ⟨o, rfl, ha, hb, fun t ht j hj hg => before_must ops n j ((hc t ht j hj).resolve_left fun hne => hne hg)⟩
  · have := h2 i hi
    simp only [ho, Bool.and_eq_true, List.all_eq_true, List.mem_range, Bool.or_eq_true, beq_iff_eq, bne_iff_ne, decide_eq_true_eq, List.contains_iff_mem] at this
    obtain ⟨⟨ha, hb⟩, hc⟩ := this
    refine ⟨Option.isSome_iff_exists.1 ha, fun j hj hji => (hb j hj).resolve_left hji, fun t ht j hj hg => ?_⟩
    exact (hc t ht j hj).resolve_left (fun hne => hne hg)
  · have := h3 k hks
    simp only [Bool.or_eq_true, decide_eq_true_eq, List.all_eq_true, List.mem_range] at this
    exact before_must ops k i ((this.resolve_left (by omega)) i hik)
  · have hk : k < ops.size := (Array.getElem?_eq_some_iff.1 ho).1
    have := h4 k hk
    simp only [ho, List.all_eq_true, decide_eq_true_eq] at this
    exact this j hj

/-- What holds while the operations of a region come. -/
structure DI (N : Nat) (ops : Array Oper) (ps : List (Nat × AV)) (e : Env) (S : World → Prop) (κ : AV → AV) (L : Array Bool) (a : Act) (w : World) : Prop where
  hL : L.size = ops.size
  hd : Down ops L
  hS : S w
  df : a.defers = []
  sz : a.tmps.size = N
  vals : ∀ i p, ps[i]? = some p → Listed L i → ∃ u, a.tmps[p.1]? = some u ∧ Rel w (κ p.2) u
  base : ∀ t v, t ∉ ps.map (·.1) → e.look t = some v → ∃ u, a.tmps[t]? = some u ∧ Rel w (κ v) u

theorem DI.pure_step {ps : List (Nat × AV)} {n : Nat} [Cl S] [Cl W] {κ : AV → AV} {Q' : Exit → Act → World → Prop} {K : Act → World → Prop} (hlen : ps.length = n) (hnops : n ≤ ops.size)
    (hκ : ∀ w v u, Rel w v u → Rel w (κ v) u) (hSW : ∀ w, S w → W w)
    (hop : ∀ i, i < n → ∃ o p, ops[i]? = some o ∧ ps[i]? = some p ∧ o.dst = some p.1 ∧ p.1 < N ∧ OpG P W ops (after1 (ps.take i) e) o p.2)
    (hslot : ∀ i p, ps[i]? = some p → gslot ops i = some p.1)
    (hfirst : ∀ i o, i < n → ops[i]? = some o → (∃ d, o.dst = some d) ∧ (∀ j, j < n → j ≠ i → gslot ops j ≠ o.dst) ∧ ∀ t ∈ looks ops o, ∀ j, j < n → gslot ops j = some t → j < i ∧ j ∈ directs o)
    {L : Array Bool} {a : Act} {w : World} (hI : DI N ops ps e S κ L a w) {i : Nat} (hi : i ∈ Region.ready .any ops L) (hin : i < n)
    (hk : ∀ o, ops[i]? = some o → ∀ t ∈ looks ops o, ∀ v, (after1 (ps.take i) e).look t = some v → κ v = v)
    (hK : ∀ a' w', DI N ops ps e S κ (L.setIfInBounds i true) a' w' → K a' w') : wpOp P ops Q' i K a w := by
  obtain ⟨hL, hd, hSw, hdf, hsz, hps, hbase⟩ := hI
  obtain ⟨h1, h2, h3⟩ := (ready_iff hL i).1 hi
  obtain ⟨o, p, ho, hp, hdst, hpN, hG⟩ := hop i hin
  obtain ⟨_, huniq, hlook⟩ := hfirst i o hin ho
  have hlk : ∀ t, t ∈ looks ops o → ∀ v, (after1 (ps.take i) e).look t = some v → ∃ u, a.tmps[t]? = some u ∧ Rel w v u := fun t ht v hv => by
    have hkv := hk o ho t ht v hv
    unfold after1 at hv
    rw [look_append] at hv
    cases hl : Env.look (ps.take i).reverse t with
    | some x =>
      simp only [hl, Option.some.injEq] at hv; subst hv
      obtain ⟨j, hj⟩ := List.mem_iff_getElem?.1 (List.mem_reverse.1 (look_mem _ _ _ hl))
      rw [List.getElem?_take] at hj
      split at hj
      · rename_i hji
        obtain ⟨_, hjd⟩ := hlook t ht j (by omega) (hslot j _ hj)
        obtain ⟨u, hu, hr⟩ := hps j _ hj (h3 o ho j hjd)
        exact ⟨u, hu, by simp only [hkv] at hr; exact hr⟩
      · cases hj
    | none =>
      simp only [hl] at hv
      obtain ⟨u, hu, hr⟩ := hbase t v (fun hm' => by
        obtain ⟨q, hq, hqt⟩ := List.mem_map.1 hm'
        obtain ⟨j, hj⟩ := List.mem_iff_getElem?.1 hq
        have hjn : j < n := by rw [← hlen]; exact (List.getElem?_eq_some_iff.1 hj).1
        have hjt : gslot ops j = some t := by rw [hslot j q hj, ← hqt]
        obtain ⟨hji, _⟩ := hlook t ht j hjn hjt
        have hnone := (look_none_iff _ _).1 hl
        apply hnone
        rw [List.map_reverse, List.mem_reverse]
        exact List.mem_map.2 ⟨q, List.mem_iff_getElem?.2 ⟨j, by rw [List.getElem?_take, if_pos hji]; exact hj⟩, hqt⟩) hv
      exact ⟨u, hu, by rw [hkv] at hr; exact hr⟩
  have hoper : ∀ x ∈ o.op.operands.toList, ∀ y, (after1 (ps.take i) e).ev x = some y → Rel w y (a.eval x) := fun x hx y hy => by
    cases x with
    | tmp t =>
      obtain ⟨u, hu, hr⟩ := hlk t (List.mem_append_left _ (List.mem_filterMap.2 ⟨_, hx, rfl⟩)) y hy
      have : a.eval (.tmp t) = u := by simp [Act.eval, hu]
      rw [this]; exact hr
    | const c =>
      simp only [Env.ev] at hy
      split at hy
      · rename_i hc; cases hy; exact rel_cv w c hc
      · cases hy
    | global g => cases hy; exact .raw
    | func f => cases hy; exact .raw
  have next : ∀ u w', Ext w w' → Rel w' p.2 u → K (a.put o.dst u) w' := fun u w' hw hr => by
    have hiL : i < L.size := by omega
    refine hK _ _ ⟨by simpa using hL, fun k x hx hk j hj => ?_, Cl.ext hSw hw, by simp [hdst, Act.put, hdf], by simp [hdst, Act.put, hsz], fun j q hq hj => ?_, fun t v ht hv => ?_⟩
    · rw [listed_set hiL]
      rcases (listed_set hiL).1 hk with rfl | hk
      · exact .inr (h3 x hx j hj)
      · exact .inr (hd k x hx hk j hj)
    · by_cases hji : j = i
      · subst hji
        rw [hp] at hq; cases hq
        exact ⟨u, by simp [hdst, Act.put, hsz, hpN], hκ _ _ _ hr⟩
      · have hjn : j < n := by rw [← hlen]; exact (List.getElem?_eq_some_iff.1 hq).1
        have hne : p.1 ≠ q.1 := fun he => huniq j hjn hji (by rw [hslot j q hq, hdst, he])
        obtain ⟨y, hy, hry⟩ := hps j q hq (((listed_set hiL).1 hj).resolve_left hji)
        exact ⟨y, by simp [hdst, Act.put, Array.getElem?_setIfInBounds_ne hne, hy], hry.ext hw⟩
    · have hne : p.1 ≠ t := fun he => ht (List.mem_map.2 ⟨p, List.mem_of_getElem? hp, he⟩)
      obtain ⟨y, hy, hry⟩ := hbase t v ht hv
      exact ⟨y, by simp [hdst, Act.put, Array.getElem?_setIfInBounds_ne hne, hy], hry.ext hw⟩
  unfold wpOp
  simp only [ho]
  have hWw := hSW w hSw
  unfold OpG at hG
  cases hgd : o.guard with
  | none =>
    simp only [hgd] at hG
    rw [if_pos (by simp [Region.wanted, hgd])]
    exact .inl (hG a w _ _ hWw hoper next)
  | some jb =>
    obtain ⟨j, b⟩ := jb
    simp only [hgd] at hG
    obtain ⟨y, c, hy, hc, hcase⟩ := hG
    obtain ⟨u, hu, hru⟩ := hlk y (List.mem_append_right _ (by simp [hgd, hy])) _ hc
    have hub := hru.inv_raw
    subst hub
    have hyield : yielded ops a.tmps j = some c := by
      unfold yielded
      rw [show ((ops[j]?).bind (·.dst)) = some y from hy]
      simp [hu]
    rcases hcase with ⟨rfl, hJ⟩ | ⟨hne, hv⟩
    · rw [if_pos (by simp [Region.wanted, hgd, hyield])]
      exact .inl (hJ a w _ _ hWw hoper next)
    · rw [if_neg (by simpa [Region.wanted, hgd, hyield] using hne)]
      exact next undef w (Ext.refl _) (by rw [hv]; exact .raw)

/-- The least that is not listed is ready. -/
theorem ready_ne {L : Array Bool} (hL : L.size = ops.size) (hback : ∀ k o, ops[k]? = some o → ∀ j ∈ directs o, j < k) {i : Nat} (hi : i < ops.size) (hn : ¬ Listed L i) : Region.ready .any ops L ≠ [] := by
  have hmin : ∀ m, (∃ i, i < m ∧ i < ops.size ∧ ¬ Listed L i) → ∃ i, i < ops.size ∧ ¬ Listed L i ∧ ∀ j, j < i → Listed L j := by
    intro m
    induction m with
    | zero => rintro ⟨i, hi, _⟩; omega
    | succ m ihm =>
      rintro ⟨i, hi, hin, hil⟩
      by_cases h' : ∃ i, i < m ∧ i < ops.size ∧ ¬ Listed L i
      · exact ihm h'
      · refine ⟨i, hin, hil, fun j hj => ?_⟩
        false_or_by_contra
        rename_i hjl
        exact h' ⟨j, by omega, by omega, hjl⟩
  obtain ⟨i, hin, hil, hjs⟩ := hmin (i + 1) ⟨i, by omega, hi, hn⟩
  have : i ∈ Region.ready .any ops L := (ready_iff hL i).2 ⟨hin, hil, fun o ho j hj => hjs j (hback i o ho j hj)⟩
  intro hnil
  rw [hnil] at this
  simp at this

theorem unL_tail {L : Array Bool} {n fuel : Nat} (hL : L.size = ops.size) (hno : ∀ k, n ≤ k → ¬ Listed L k) (hu : unL L ≤ fuel) : ops.size ≤ n + fuel := by
  have : ops.size - n ≤ unL L := by
    unfold unL
    have h1 : (L.toList.drop n).count false = ops.size - n := by
      have hall2 : ∀ x ∈ L.toList.drop n, x = false := fun x hx => by
        obtain ⟨j, hj⟩ := List.mem_iff_getElem?.1 hx
        rw [List.getElem?_drop] at hj
        have hnl := hno (n + j) (by omega)
        unfold Listed at hnl
        rw [Array.getD_eq_getD_getElem?] at hnl
        have hj' : L[n + j]? = some x := by simpa using hj
        rw [hj'] at hnl
        cases x <;> simp_all
      rw [List.count_eq_length.2 (fun b hb => (hall2 b hb).symm)]
      simp [hL]
    rw [← h1]
    exact (List.drop_sublist n L.toList).count_le false
  omega

theorem ws_draw1 {n rid : Nat} [Cl W] [Cl S0] [Cl S1] (hm : P.follows .mixedOrders = true) (hchk : drawOk1 ops n = true) (hW0 : ∀ w, S0 w → W w) (hW1 : ∀ w, S1 w → W w)
    (h : Run1 P N W ops (ops.toList.take n) e (fun e' => lateStill ops n e' = true ∧ (∀ o, ops[n]? = some o → EffJ P S0 S1 e' o) ∧ RS P N ops (ops.toList.drop (n + 1)) e'.keep S1 Q)) : WS P N (.region rid ops true) e S0 Q := by
  obtain ⟨⟨on, hon, hodst, hogd, holk⟩, hfirst, hmust, hback⟩ := drawOk1_spec hchk
  have hn : n < ops.size := (Array.getElem?_eq_some_iff.1 hon).1
  obtain ⟨ps, hlen, ⟨hstill, hE, hR⟩, hall⟩ := run1_spec h
  have hlen' : ps.length = n := by rw [hlen]; simp; omega
  have hop : ∀ i, i < n → ∃ o p, ops[i]? = some o ∧ ps[i]? = some p ∧ o.dst = some p.1 ∧ p.1 < N ∧ OpG P W ops (after1 (ps.take i) e) o p.2 := fun i hi => by
    have ho : ops[i]? = some (ops[i]'(by omega)) := by simp
    have hp : ps[i]? = some (ps[i]'(by omega)) := by simp
    obtain ⟨h1, h2, h3⟩ := hall i (ops[i]'(by omega)) (ps[i]'(by omega)) (by rw [List.getElem?_take, if_pos hi]; simp) hp
    exact ⟨_, _, ho, hp, h1, h2, h3⟩
  have hslot : ∀ i p, ps[i]? = some p → gslot ops i = some p.1 := fun i p hp => by
    have hi : i < n := by rw [← hlen']; exact (List.getElem?_eq_some_iff.1 hp).1
    obtain ⟨o, p', ho, hp', hd, _⟩ := hop i hi
    rw [hp'] at hp; cases hp
    simp [gslot, ho, hd]
  -- what a frame with all listed is
  have hfull : ∀ (S : World → Prop) (κ : AV → AV) (L : Array Bool) (a : Act) (w : World), DI N ops ps e S κ L a w → (∀ i, i < n → Listed L i) → ∀ t v, (after1 ps e).look t = some v → ∃ u, a.tmps[t]? = some u ∧ Rel w (κ v) u := fun S κ L a w hI hal t v ht => by
    unfold after1 at ht
    rw [look_append] at ht
    cases hl : Env.look ps.reverse t with
    | some x =>
      simp only [hl, Option.some.injEq] at ht; subst ht
      obtain ⟨i, hi⟩ := List.mem_iff_getElem?.1 (List.mem_reverse.1 (look_mem _ _ _ hl))
      exact hI.vals i _ hi (hal i (by have := (List.getElem?_eq_some_iff.1 hi).1; omega))
    | none =>
      simp only [hl] at ht
      exact hI.base t v (by have := (look_none_iff _ _).1 hl; simpa using this) ht
  -- behind the store
  have key1 : ∀ (fuel : Nat) (L : Array Bool) (a : Act) (w : World), DI N ops ps e S1 kp L a w → Listed L n → (∀ k, n + 1 ≤ k → ¬ Listed L k) → unL L ≤ fuel →
      wpAny P .any ops (fun x a' w' => ∃ e', Fr N e' a' w' ∧ Q x e' w') fuel L a w := by
    intro fuel
    induction fuel with
    | zero =>
      intro L a w hI hln hno hu
      have hal : ∀ i, i < n → Listed L i := fun i hi => unL_zero (by omega) (by rw [hI.hL]; omega)
      refine wpAny_tail (P := P) (n := n + 1) hmust hback 0 (n + 1) L a w (Nat.le_refl _) hn hI.hL (fun i => ⟨fun h => ?_, fun h => ?_⟩) (unL_tail hI.hL hno hu) (hR a w hI.hS ⟨hI.df, hI.sz, fun t v ht => ?_⟩)
      · rcases Nat.lt_or_ge i (n + 1) with h' | h'
        · exact h'
        · exact absurd h (hno i h')
      · rcases Nat.lt_or_ge i n with h' | h'
        · exact hal i h'
        · have : i = n := by omega
          subst this; exact hln
      · rw [look_keep_kp] at ht
        obtain ⟨x, hx, rfl⟩ := Option.map_eq_some_iff.1 ht
        exact hfull _ _ _ _ _ hI hal t x hx
    | succ fuel ih =>
      intro L a w hI hln hno hu
      by_cases hal : ∀ i, i < n → Listed L i
      · refine wpAny_tail (P := P) (n := n + 1) hmust hback (fuel + 1) (n + 1) L a w (Nat.le_refl _) hn hI.hL (fun i => ⟨fun h => ?_, fun h => ?_⟩) (unL_tail hI.hL hno hu) (hR a w hI.hS ⟨hI.df, hI.sz, fun t v ht => ?_⟩)
        · rcases Nat.lt_or_ge i (n + 1) with h' | h'
          · exact h'
          · exact absurd h (hno i h')
        · rcases Nat.lt_or_ge i n with h' | h'
          · exact hal i h'
          · have : i = n := by omega
            subst this; exact hln
        · rw [look_keep_kp] at ht
          obtain ⟨x, hx, rfl⟩ := Option.map_eq_some_iff.1 ht
          exact hfull _ _ _ _ _ hI hal t x hx
      · have hex : ∃ i, i < n ∧ ¬ Listed L i := by
          false_or_by_contra
          rename_i hc
          exact hal fun i hi => by
            false_or_by_contra
            rename_i hn'
            exact hc ⟨i, hi, hn'⟩
        obtain ⟨i0, hi0, hil0⟩ := hex
        refine ⟨fun hnil => absurd hnil (ready_ne hI.hL hback (by omega) hil0), fun i hi => ?_⟩
        obtain ⟨h1, h2, h3⟩ := (ready_iff hI.hL i).1 hi
        have hin : i < n := by
          rcases Nat.lt_or_ge i n with h' | h'
          · exact h'
          · rcases Nat.eq_or_lt_of_le h' with h' | h'
            · subst h'; exact absurd hln h2
            · exact absurd (fun j hj => (hmust i j (by omega) h1 (by omega)).listed hI.hd h3) hal
        have hlate : ((Region.before ops).getD n 0).testBit i = false := by
          cases hb : ((Region.before ops).getD n 0).testBit i with
          | false => rfl
          | true => exact absurd ((before_must ops n i hb).listed hI.hd fun o ho j hj => hI.hd n o ho hln j hj) h2
        refine DI.pure_step (n := n) hlen' (by omega) (fun _ _ _ h => rel_kp h) hW1 hop hslot hfirst hI hi hin (fun o ho t ht v hv => ?_) (fun a' w' hI' => ?_)
        · unfold lateStill at hstill
          simp only [List.all_eq_true, List.mem_range, Bool.or_eq_true] at hstill
          have := (hstill i hin).resolve_left (by rw [hlate]; simp)
          simp only [ho, List.all_eq_true] at this
          have hs := this t ht
          -- later operations do not write what is looked at
          have hl2 : (after1 ps e).look t = some v := by
            unfold after1 at hv ⊢
            rw [look_append] at hv ⊢
            have hsame : Env.look ps.reverse t = Env.look (ps.take i).reverse t := by
              have hsplit : ps.reverse = (ps.drop i).reverse ++ (ps.take i).reverse := by rw [← List.reverse_append, List.take_append_drop]
              rw [hsplit, look_append]
              have : Env.look (ps.drop i).reverse t = none := by
                rw [look_none_iff]
                intro hm'
                rw [List.map_reverse, List.mem_reverse] at hm'
                obtain ⟨q, hq, hqt⟩ := List.mem_map.1 hm'
                obtain ⟨j, hj⟩ := List.mem_iff_getElem?.1 hq
                rw [List.getElem?_drop] at hj
                have hjn : i + j < n := by rw [← hlen']; exact (List.getElem?_eq_some_iff.1 hj).1
                have := ((hfirst i o hin ho).2.2 t ht (i + j) hjn (by rw [hslot _ q hj, ← hqt])).1
                omega
              rw [this]
            rw [hsame]
            exact hv
          unfold stillAt at hs
          rw [hl2] at hs
          exact kp_still hs
        · have hiL : i < L.size := by rw [hI.hL]; omega
          refine ih _ a' w' hI' ((listed_set hiL).2 (.inr hln)) (fun k hk hk' => ?_) (by have := unL_set hiL h2; omega)
          rcases (listed_set hiL).1 hk' with rfl | hk'
          · omega
          · exact hno k hk hk'
  -- ahead of the store
  have key0 : ∀ (fuel : Nat) (L : Array Bool) (a : Act) (w : World), DI N ops ps e S0 id L a w → (∀ k, n ≤ k → ¬ Listed L k) → unL L ≤ fuel →
      wpAny P .any ops (fun x a' w' => ∃ e', Fr N e' a' w' ∧ Q x e' w') fuel L a w := by
    intro fuel
    induction fuel with
    | zero =>
      intro L a w hI hno hu
      exact absurd (unL_zero (by omega) (by rw [hI.hL]; exact hn)) (hno n (Nat.le_refl _))
    | succ fuel ih =>
      intro L a w hI hno hu
      refine ⟨fun hnil => absurd hnil (ready_ne hI.hL hback hn (hno n (Nat.le_refl _))), fun i hi => ?_⟩
      obtain ⟨h1, h2, h3⟩ := (ready_iff hI.hL i).1 hi
      have hiL : i < L.size := by rw [hI.hL]; omega
      rcases Nat.lt_or_ge i n with hin | hin
      · refine DI.pure_step (n := n) hlen' (by omega) (fun _ _ _ h => h) hW0 hop hslot hfirst hI hi hin (fun _ _ _ _ _ _ => rfl) (fun a' w' hI' => ?_)
        refine ih _ a' w' hI' (fun k hk hk' => ?_) (by have := unL_set hiL h2; omega)
        rcases (listed_set hiL).1 hk' with rfl | hk'
        · omega
        · exact hno k hk hk'
      · rcases Nat.eq_or_lt_of_le hin with h' | h'
        · subst h'
          unfold wpOp
          simp only [hon]
          rw [if_pos (by simp [Region.wanted, hogd])]
          refine .inl (hE on hon a w _ _ hI.hS (fun x hx y hy => ?_) (fun w' hS1 => ?_))
          · cases x with
            | tmp t =>
              have ht : t ∈ looks ops on := List.mem_append_left _ (List.mem_filterMap.2 ⟨_, hx, rfl⟩)
              have : ∃ u, a.tmps[t]? = some u ∧ Rel w y u := by
                have hy' : (after1 ps e).look t = some y := hy
                unfold after1 at hy'
                rw [look_append] at hy'
                cases hl : Env.look ps.reverse t with
                | some x =>
                  simp only [hl, Option.some.injEq] at hy'; subst hy'
                  obtain ⟨j, hj⟩ := List.mem_iff_getElem?.1 (List.mem_reverse.1 (look_mem _ _ _ hl))
                  have hjn : j < n := by rw [← hlen']; exact (List.getElem?_eq_some_iff.1 hj).1
                  exact hI.vals j _ hj ((holk t ht j hjn (hslot j _ hj)).listed hI.hd h3)
                | none =>
                  simp only [hl] at hy'
                  exact hI.base t y (by have := (look_none_iff _ _).1 hl; simpa using this) hy'
              obtain ⟨u, hu', hr⟩ := this
              have : a.eval (.tmp t) = u := by simp [Act.eval, hu']
              rw [this]; exact hr
            | const c =>
              simp only [Env.ev] at hy
              split at hy
              · rename_i hc; cases hy; exact rel_cv w c hc
              · cases hy
            | global g => cases hy; exact .raw
            | func f => cases hy; exact .raw
          · refine key1 fuel _ a w' ⟨by simpa using hI.hL, fun k x hx hk j hj => ?_, hS1, hI.df, hI.sz, fun j q hq hj => ?_, fun t v ht hv => ?_⟩ ((listed_set hiL).2 (.inl rfl)) (fun k hk hk' => ?_) (by have := unL_set hiL h2; omega)
            · rw [listed_set hiL]
              rcases (listed_set hiL).1 hk with rfl | hk
              · exact .inr (h3 x hx j hj)
              · exact .inr (hI.hd k x hx hk j hj)
            · have hjn : j < n := by rw [← hlen']; exact (List.getElem?_eq_some_iff.1 hq).1
              obtain ⟨u, hu', hr⟩ := hI.vals j q hq (((listed_set hiL).1 hj).resolve_left (by omega))
              exact ⟨u, hu', rel_kp_any hr⟩
            · obtain ⟨u, hu', hr⟩ := hI.base t v ht hv
              exact ⟨u, hu', rel_kp_any hr⟩
            · rcases (listed_set hiL).1 hk' with rfl | hk'
              · omega
              · exact hno k (by omega) hk'
        · exact absurd ((hmust i n (by omega) h1 h').listed hI.hd h3) (hno n (Nat.le_refl _))
  intro a w hS hF
  refine wp_region_any hm ?_
  have hw0 : Ext w { w with drawn := w.drawn + 1 } := Ext.of_quiet (.inr rfl)
  have hS0 : S0 { w with drawn := w.drawn + 1 } := Cl.ext hS hw0
  have hF0 := hF.ext hw0
  generalize ({ w with drawn := w.drawn + 1 } : World) = w1 at hS0 hF0
  have hnl : ∀ k, ¬ Listed (Array.replicate ops.size false) k := fun k hk => by
    unfold Listed at hk; rw [Array.getD_eq_getD_getElem?, Array.getElem?_replicate] at hk; split at hk <;> simp at hk
  exact key0 ops.size _ a w1 ⟨by simp, fun k o _ hk => absurd hk (hnl k), hS0, hF0.defers, hF0.size, fun i p _ hi => absurd hi (hnl i), fun t v _ ht => hF0.rel t v ht⟩ (fun k _ => hnl k) (by unfold unL; simp)

/-- A store into a table, as the store in a region's midst. -/
theorem effj_storeT {w0 : World} {gs : List Nat} {H : List Ent} {ty : TypeId} {pos : String} {after : Array Edge} (k : Nat) (f' : Int → FV) {g n c : Nat} {i : Int} {f : Int → FV} {x : FV} {T t : TypeId} {z : Value} {b : Nat} [hi : TyI P t z 1 b] {A X : Operand}
    (hA : e.ev A = some (.raw (.pointer (some ⟨g, i.toNat * 1, none⟩)))) (hx : e.ev X = some (.f .f32 x)) (hH : H[k]? = some (entF g T n f c)) (h0 : 0 ≤ i ∧ i < n ∧ n ≤ c)
    (hf : f' i = x) (hf' : ∀ s : Int, 0 ≤ s → s < n → s ≠ i → f' s = f s) :
    EffJ P (St w0 gs H) (St w0 gs (H.set k (entF g T n f' c))) e ⟨none, .store t A X, ty, pos, after, none⟩ := by
  intro a w K Q hS ho hK
  have hn : i.toNat < n := by omega
  have he : ((i.toNat : Nat) : Int) = i := by omega
  have h2 := (ho A (by simp [Op.operands]) _ hA).inv_raw
  have hr := ho X (by simp [Op.operands]) _ hx
  obtain ⟨hc, ho1, hst⟩ := oneAV_spec (by rfl : oneAV (.f .f32 x) = true) hr
  have hmem : entF g T n f c ∈ H := List.mem_of_getElem? hH
  obtain ⟨cur, hb, hcs, _⟩ := (hS.own _ hmem).2
  have hic : i.toNat < cur.size := by rw [hcs]; simp only; omega
  have hcell : w.cell? ⟨g, i.toNat, none⟩ = some cur[i.toNat] := by simp [World.cell?, hb, hic]
  have hfr : w.frozen? ⟨g, i.toNat, none⟩ = false := OwnE.frozen (hS.own _ hmem).2 i.toNat
  have hrun : (execOp a.eval ⟨none, .store t A X, ty, pos, after, none⟩).run P w = .ok .skip (w.setCell ⟨g, i.toNat, none⟩ (a.eval X)) := by
    have hst : (store ⟨g, i.toNat, none⟩ (a.eval X)).run P w = .ok () (w.setCell ⟨g, i.toNat, none⟩ (a.eval X)) := by
      rw [run_store P w _ _ _ ho1, hcell]; simp [hfr]
    have hadd : (⟨g, i.toNat, none⟩ : Addr).add 0 = ⟨g, i.toNat, none⟩ := rfl
    simp [execOp, h2, Instr.storeAt, Instr.sureAddr, storeVar, run_size hi, hc, storeCells, hadd, hst]
  unfold Oper.wp
  rw [hrun]
  refine hK _ ?_
  have hown := own_setCell (hS.own _ hmem).2 (i := i.toNat) (x := .f .f32 x) (u := a.eval X) (by simp only; omega) (hr.ev hst)
  have hent : ({ entF g T n f c with xs := (entF g T n f c).xs.set i.toNat (.f .f32 x) } : Ent) = entF g T n f' c := by
    simp only [entF]
    rw [← List.map_set, tab_set hn (by rw [he]; exact hf) (fun s h1 h2 h3 => hf' s h1 h2 (by rw [he] at h3; exact h3))]
  rw [hent] at hown
  exact hS.updAt hH (mod_setCell w g i.toNat _) (.inl rfl) hown
theorem Fn.takes {P : Program} {f : FuncId} {A A' : World → List AV} {r : AV} (h : Fn P f A r) (ht : ∀ w vs, RelL w (A' w) vs → RelL w (A w) vs) : Fn P f A' r :=
  fun w vs hr ho hn => h w vs (ht w vs hr) ho hn

/-! A region in all its orders, one by one. -/
def RA (P : Program) (N : Nat) (ops : Array Oper) (L : Array Bool) (fuel : Nat) (e : Env) (S : World → Prop) (Q : Exit → Env → World → Prop) : Prop :=
  ∀ a w, S w → Fr N e a w → wpAny P .any ops (fun x a' w' => ∃ e', Fr N e' a' w' ∧ Q x e' w') fuel L a w
def RO (P : Program) (N : Nat) (ops : Array Oper) (i : Nat) (L : Array Bool) (fuel : Nat) (e : Env) (S : World → Prop) (Q : Exit → Env → World → Prop) : Prop :=
  ∀ a w, S w → Fr N e a w → wpOp P ops (fun x a' w' => ∃ e', Fr N e' a' w' ∧ Q x e' w') i (wpAny P .any ops (fun x a' w' => ∃ e', Fr N e' a' w' ∧ Q x e' w') fuel (L.setIfInBounds i true)) a w
theorem ws_enum {id : Nat} [Cl S] (hm : P.follows .mixedOrders = true) (h : RA P N ops (Array.replicate ops.size false) ops.size e S Q) : WS P N (.region id ops true) e S Q := by
  intro a w hS hF
  refine wp_region_any hm ?_
  have hw0 : Ext w { w with drawn := w.drawn + 1 } := Ext.of_quiet (.inr rfl)
  exact h a _ (Cl.ext hS hw0) (hF.ext hw0)
theorem ra_one (i : Nat) {L : Array Bool} {fuel : Nat} (hr : Region.ready .any ops L = [i]) (h : RO P N ops i L fuel e S Q) : RA P N ops L (fuel + 1) e S Q :=
  fun a w hS hF => ⟨fun hn => by rw [hr] at hn; simp at hn, fun j hj => by
    rw [hr] at hj
    have : j = i := by simpa using hj
    subst this
    exact h a w hS hF⟩
theorem ra_two (i j : Nat) {L : Array Bool} {fuel : Nat} (hr : Region.ready .any ops L = [i, j]) (h : RO P N ops i L fuel e S Q) (h' : RO P N ops j L fuel e S Q) : RA P N ops L (fuel + 1) e S Q :=
  fun a w hS hF => ⟨fun hn => by rw [hr] at hn; simp at hn, fun k hk => by
    rw [hr] at hk
    have : k = i ∨ k = j := by simpa using hk
    rcases this with rfl | rfl
    · exact h a w hS hF
    · exact h' a w hS hF⟩
theorem ra_end {L : Array Bool} (hr : Region.ready .any ops L = []) (h : Done .normal e S Q) : RA P N ops L 0 e S Q :=
  fun _ w hS hF => ⟨hr, e, hF, h w hS⟩
theorem ro_op {i : Nat} {L : Array Bool} {fuel : Nat} {d : Tmp} {op : Op} {ty : TypeId} {pos : String} {after : Array Edge} {v : AV} [Cl S] (ho : ops[i]? = some ⟨some d, op, ty, pos, after, none⟩) (hd : Nat.blt d N = true)
    (hj : OpJ P S e ⟨some d, op, ty, pos, after, none⟩ v) (h : RA P N ops (L.setIfInBounds i true) fuel ((d, v) :: e) S Q) : RO P N ops i L fuel e S Q := by
  intro a w hS hF
  unfold wpOp
  simp only [ho]
  rw [if_pos (by simp [Region.wanted])]
  refine .inl (hj a w _ _ hS (hF.operands _) fun u w' hw hr => ?_)
  exact h _ w' (Cl.ext hS hw) (Fr.put (some d) (hF.ext hw) (fun _ h => by cases h; exact Nat.le_of_ble_eq_true hd) hr)
/-- 'make' of a list of floats. -/
theorem ro_make {w0 : World} {gs : List Nat} {H : List Ent} {i : Nat} {L : Array Bool} {fuel : Nat} {d : Tmp} {ty : TypeId} {pos : String} {after : Array Edge} {A B : Operand} {n : Nat} {t el : TypeId} {z : Value} {b : Nat} [hu : TyU P t (.slice el)] [hi : TyI P el z 1 b]
    (ho : ops[i]? = some ⟨some d, .makeSlice t A B, ty, pos, after, none⟩) (hd : Nat.blt d N = true)
    (hA : e.ev A = some (.raw (.int .i64 (n : Int)))) (hB : e.ev B = some (.raw (.int .i64 (n : Int)))) (hz : cv1 z = .f .f32 (fv .f32 0)) (hzo : okv1 z = true) (hzc : z.cells = #[z])
    (hb : b * n ≤ 281474976710656) (hm : n ≤ maxLen)
    (h : ∀ g, RA P N ops (L.setIfInBounds i true) fuel ((d, .raw (.slice (some ⟨g, 0, none⟩) n n)) :: e) (St w0 gs (entF g el n (fun _ => fv .f32 0) n :: H)) Q) : RO P N ops i L fuel e (St w0 gs H) Q := by
  intro a w hS hF
  unfold wpOp
  simp only [ho]
  rw [if_pos (by simp [Region.wanted])]
  have h1 := (hF.eval hA).inv_raw
  have h2 := (hF.eval hB).inv_raw
  obtain ⟨i, hi1, hz1, hs1, hb1⟩ := hi.h
  have hm' : (n : Int) ≤ 9223372036854775807 := by simp only [maxLen] at hm; omega
  have hr := run_make (P := P) w t el i z hu.h hi1 hz1 .i64 .i64 n n (by omega) (Int.le_refl _) (by rw [hb1]; have h : ((b * n : Nat) : Int) ≤ 281474976710656 := (by omega); rwa [Int.natCast_mul] at h) hm'
  simp only [Int.toNat_natCast] at hr
  left
  unfold Oper.wp
  have hrun : (execOp a.eval ⟨some d, .makeSlice t A B, ty, pos, after, none⟩).run P w = .ok (.value (.slice (some ⟨w.heap.size, 0, none⟩) n n)) (w.alloc (.cells (madeCells z.cells (n * i.size)) el)) := by simp [execOp, h1, h2, hr]
  rw [hrun]
  have hsz : (madeCells z.cells (n * i.size)).size = n := by rw [size_madeCells, hs1, Nat.mul_one]
  have hown := ext_alloc_own (w := w) (T := el) (xs := (tab n fun _ => fv .f32 0).map (AV.f .f32)) (cs := madeCells z.cells (n * i.size)) (fun j x hj => by
    rw [← tab_rep] at hj
    simp only [List.map_replicate, List.getElem?_replicate] at hj
    split at hj
    · rename_i hjn
      cases hj
      refine ⟨z, ?_, by rw [← hz]; exact cv1_ev z hzo⟩
      simp [madeCells, hs1, hzc, hjn, Nat.mod_one]
    · cases hj)
  rw [hsz] at hown
  exact h w.heap.size _ _ (hS.new (e := entF w.heap.size el n (fun _ => fv .f32 0) n) (Ext.alloc _ _) (Nat.le_refl _) hown) (Fr.put (some d) (hF.ext (Ext.alloc _ _)) (fun _ h => by cases h; exact Nat.le_of_ble_eq_true hd) .raw)
def ThenTo (E : Nat → Nat → Env) (SF : Nat → Nat → World → Prop) : Exit → Env → World → Prop
  | .normal, e, w => ∃ m r, Env.sub (E m r) e ∧ SF m r w
  | _, _, _ => False
theorem ws_enum2 {id : Nat} {d : Code} (E : Nat → Nat → Env) (SF : Nat → Nat → World → Prop) [Cl S] (hm : P.follows .mixedOrders = true) (h : RA P N ops (Array.replicate ops.size false) ops.size e S (ThenTo E SF))
    (hfin : ∀ m r, Done .normal (E m r) (SF m r) (Then P N d Q)) : WS P N (.region id ops true) e S (Then P N d Q) := by
  refine (ws_enum hm h).mono fun x e' w hq => ?_
  cases x with
  | normal =>
    obtain ⟨m, r, hs, hw⟩ := hq
    have : WS P N d (E m r) (fun x => x = w) Q := hfin m r w hw
    exact this.weak hs fun _ h => h
  | ret => cases hq
  | exit _ => cases hq
  | goto _ => cases hq
  | panic _ => cases hq
  | outgrown => cases hq
theorem done_to {E : Nat → Nat → Env} {SF : Nat → Nat → World → Prop} (m r : Nat) (hs : Env.sub (E m r) e) (hw : ∀ w, S w → SF m r w) : Done .normal e S (ThenTo E SF) := fun w h => ⟨m, r, hs, hw w h⟩
theorem done_toL {E : Nat → Nat → Env} {SF : Nat → Nat → World → Prop} {x y n : Nat} (m r : Nat) (_ : e.look x = some (.raw (.slice (some ⟨m, 0, none⟩) n n))) (_ : e.look y = some (.raw (.slice (some ⟨r, 0, none⟩) n n)))
    (hs : Env.sub (E m r) e) (hw : ∀ w, S w → SF m r w) : Done .normal e S (ThenTo E SF) := fun w h => ⟨m, r, hs, hw w h⟩
end
end Go.Ab
