/- A region whose order is drawn: walked once, in the order of the text, where each operation reads only what operations ahead of it, by the region's own edges, have given. No conditions. -/
import Derived.Test.YtljgokghchhjaaaMem
namespace Go.Ab

/-- The operations that must come ahead of one, by an edge. -/
def directs (o : Oper) : List Nat := (o.after.toList.filter (Region.binds .any)).map (·.on)
/-- The slots that an operation looks at. -/
def looks (ops : Array Oper) (o : Oper) : List Nat :=
  (o.op.operands.toList.filterMap fun | .tmp t => some t | _ => none) ++ (match o.guard with | some (j, _) => (gslot ops j).toList | none => [])
inductive Must (ops : Array Oper) : Nat → Nat → Prop
  | one {i k : Nat} {o : Oper} : ops[k]? = some o → i ∈ directs o → Must ops i k
  | far {i j k : Nat} {o : Oper} : ops[k]? = some o → j ∈ directs o → Must ops i j → Must ops i k

def Listed (L : Array Bool) (i : Nat) : Prop := L.getD i false = true
/-- What is listed has all that it needs. -/
def Down (ops : Array Oper) (L : Array Bool) : Prop := ∀ k o, ops[k]? = some o → Listed L k → ∀ i ∈ directs o, Listed L i
theorem Must.listed {ops : Array Oper} {L : Array Bool} (hd : Down ops L) {i k : Nat} (h : Must ops i k) : (∀ o, ops[k]? = some o → ∀ j ∈ directs o, Listed L j) → Listed L i := by
  induction h with
  | one hk hi => intro h; exact h _ hk _ hi
  | far hk hj _ ih => intro h; exact ih fun o ho j' hj' => hd _ o ho (h _ hk _ hj) j' hj'

/-- The bits of a mask are operations that must come ahead. -/
theorem before_fold {ops : Array Oper} {k : Nat} {o : Oper} (hk : ops[k]? = some o) (acc : Array Nat) (hacc : ∀ j i, (acc.getD j 0).testBit i = true → Must ops i j) :
    ∀ (es : List Edge) (s : Nat), (∀ e ∈ es, e ∈ o.after.toList) → (∀ i, s.testBit i = true → Must ops i k) → ∀ i, (es.foldl (fun s e => if Region.binds .any e then s ||| 2 ^ e.on ||| acc.getD e.on 0 else s) s).testBit i = true → Must ops i k
  | [], _, _, hs, i, h => hs i h
  | e :: es, s, he, hs, i, h => by
    refine before_fold hk acc hacc es _ (fun x hx => he x (by simp [hx])) (fun i hi => ?_) i h
    dsimp only at hi
    split at hi
    · rename_i hb
      have hmem : e.on ∈ directs o := List.mem_map.2 ⟨e, List.mem_filter.2 ⟨he e (by simp), hb⟩, rfl⟩
      simp only [Nat.testBit_or, Bool.or_eq_true] at hi
      rcases hi with (hi | hi) | hi
      · exact hs i hi
      · have : i = e.on := by simpa [Nat.testBit_two_pow, eq_comm] using hi
        subst this; exact .one hk hmem
      · exact .far hk hmem (hacc _ _ hi)
    · exact hs i hi
theorem before_must (ops : Array Oper) : ∀ k i, ((Region.before ops).getD k 0).testBit i = true → Must ops i k := by
  have key : ∀ (l : List Oper) (acc : Array Nat), (∀ j, l[j]? = ops[acc.size + j]?) → (∀ j i, (acc.getD j 0).testBit i = true → Must ops i j) →
      ∀ j i, ((l.foldl (fun acc o => acc.push (o.after.foldl (fun s e => if Region.binds .any e then s ||| 2 ^ e.on ||| acc.getD e.on 0 else s) 0)) acc).getD j 0).testBit i = true → Must ops i j := by
    intro l
    induction l with
    | nil => intro acc _ h; exact h
    | cons o l ih =>
      intro acc hl h
      have h0 : ops[acc.size]? = some o := by simpa using (hl 0).symm
      refine ih _ (fun j => by have := hl (j + 1); simp only [List.getElem?_cons_succ] at this; rw [this]; simp [Nat.add_assoc, Nat.add_comm 1 j]) (fun j i hj => ?_)
      by_cases hje : j = acc.size
      · subst hje
        rw [Array.getD_eq_getD_getElem?, Array.getElem?_push, if_pos rfl, Option.getD_some] at hj
        rw [← Array.foldl_toList] at hj
        exact before_fold h0 acc h o.after.toList 0 (fun _ h => h) (fun i hi => by simp at hi) i hj
      · rw [Array.getD_eq_getD_getElem?, Array.getElem?_push, if_neg hje, ← Array.getD_eq_getD_getElem?] at hj
        exact h j i hj
  intro k i h
  refine key ops.toList #[] (fun j => by simp) (fun j i hj => by simp at hj) k i ?_
  unfold Region.before at h
  rw [← Array.foldl_toList] at h
  exact h

/-- The check on a region: its first n operations may come in any order, the others come behind all ahead of them. -/
def drawOk (ops : Array Oper) (n : Nat) : Bool :=
  decide (n ≤ ops.size) &&
  (List.range n).all (fun i => match ops[i]? with
    | some o => o.dst.isSome && (List.range n).all (fun j => j == i || gslot ops j != o.dst) &&
        (looks ops o).all (fun t => (List.range n).all fun j => gslot ops j != some t || (decide (j < i) && (directs o).contains j))
    | none => false) &&
  (List.range ops.size).all (fun k => decide (k < n) || (List.range k).all fun i => ((Region.before ops).getD k 0).testBit i) &&
  (List.range ops.size).all (fun k => match ops[k]? with
    | some o => (directs o).all fun j => decide (j < k)
    | none => false)

section
variable {P : Program} {N : Nat} {S : World → Prop} {e : Env} {Q : Exit → Env → World → Prop} {ops : Array Oper} {l : List Oper} {o : Oper}

/-- What one operation gives, its guard looked at. -/
def OpG (P : Program) (S : World → Prop) (ops : Array Oper) (e : Env) (o : Oper) (v : AV) : Prop :=
  match o.guard with
  | none => OpJ P S e o v
  | some (j, b) => ∃ y c, gslot ops j = some y ∧ e.look y = some (.raw (.bool c)) ∧ ((c = b ∧ OpJ P S e o v) ∨ (c ≠ b ∧ v = .raw undef))
/-- Operations whose order is drawn, in the order of the text. -/
def Run1 (P : Program) (N : Nat) (S : World → Prop) (ops : Array Oper) : List Oper → Env → (Env → Prop) → Prop
  | [], e, K => K e
  | o :: l, e, K => ∃ d v, o.dst = some d ∧ d < N ∧ OpG P S ops e o v ∧ Run1 P N S ops l ((d, v) :: e) K
theorem zav {K : Env → Prop} (h : K e) : Run1 P N S ops [] e K := h
theorem opg_clear {dst : Option Tmp} {op : Op} {ty : TypeId} {pos : String} {after : Array Edge} {v : AV} {j y : Nat} {b : Bool} (hy : gslot ops j = some y) (he : e.look y = some (.raw (.bool b))) (h : OpG P S ops e ⟨dst, op, ty, pos, after, none⟩ v) : OpG P S ops e ⟨dst, op, ty, pos, after, some (j, b)⟩ v :=
  ⟨y, b, hy, he, .inl ⟨rfl, h⟩⟩
theorem zaw {K : Env → Prop} {dst : Option Tmp} {op : Op} {ty : TypeId} {pos : String} {after : Array Edge} {j y : Nat} {b : Bool} (hy : gslot ops j = some y) (he : e.look y = some (.raw (.bool b))) (h : Run1 P N S ops (⟨dst, op, ty, pos, after, none⟩ :: l) e K) : Run1 P N S ops (⟨dst, op, ty, pos, after, some (j, b)⟩ :: l) e K :=
  let ⟨d, v, h1, h2, h3, h4⟩ := h
  ⟨d, v, h1, h2, opg_clear hy he h3, h4⟩
theorem zap {K : Env → Prop} {d : Tmp} {op : Op} {ty : TypeId} {pos : String} {after : Array Edge} {v : AV} (hd : Nat.blt d N = true) (hj : OpJ P S e ⟨some d, op, ty, pos, after, none⟩ v) (h : Run1 P N S ops l ((d, v) :: e) K) :
    Run1 P N S ops (⟨some d, op, ty, pos, after, none⟩ :: l) e K := ⟨d, v, rfl, Nat.le_of_ble_eq_true hd, hj, h⟩
theorem r1_yes {K : Env → Prop} {d : Tmp} {op : Op} {ty : TypeId} {pos : String} {after : Array Edge} {v : AV} {j y : Nat} {b : Bool} (hd : Nat.blt d N = true) (hy : gslot ops j = some y) (he : e.look y = some (.raw (.bool b)))
    (hj : OpJ P S e ⟨some d, op, ty, pos, after, some (j, b)⟩ v) (h : Run1 P N S ops l ((d, v) :: e) K) : Run1 P N S ops (⟨some d, op, ty, pos, after, some (j, b)⟩ :: l) e K :=
  ⟨d, v, rfl, Nat.le_of_ble_eq_true hd, ⟨y, b, hy, he, .inl ⟨rfl, hj⟩⟩, h⟩
theorem zax {K : Env → Prop} {d : Tmp} {op : Op} {ty : TypeId} {pos : String} {after : Array Edge} {j y : Nat} {b c : Bool} (hd : Nat.blt d N = true) (hy : gslot ops j = some y) (he : e.look y = some (.raw (.bool c))) (hbc : (c == b) = false)
    (h : Run1 P N S ops l ((d, .raw undef) :: e) K) : Run1 P N S ops (⟨some d, op, ty, pos, after, some (j, b)⟩ :: l) e K :=
  ⟨d, .raw undef, rfl, Nat.le_of_ble_eq_true hd, ⟨y, c, hy, he, .inr ⟨by simpa using hbc, rfl⟩⟩, h⟩

theorem zaq {K : Env → Prop} {d : Tmp} {op : Op} {ty : TypeId} {pos : String} {after : Array Edge} {b : Bool} (hd : Nat.blt d N = true) (hj : OpJ P S e ⟨some d, op, ty, pos, after, none⟩ (.raw (.bool b))) (h : ∀ c, b = c → Run1 P N S ops l ((d, .raw (.bool c)) :: e) K) :
    Run1 P N S ops (⟨some d, op, ty, pos, after, none⟩ :: l) e K := zap hd hj (h b rfl)
theorem zar {K : Env → Prop} {dst : Option Tmp} {op : BinOp} {t t' : TypeId} {X Y : Operand} {ty : TypeId} {pos : String} {after : Array Edge} {guard : Option (Nat × Bool)} (h : Run1 P N S ops (⟨dst, .binOp op t X Y t', ty, pos, after, guard⟩ :: l) e K) : Run1 P N S ops (⟨dst, .binOp op t X Y t', ty, pos, after, guard⟩ :: l) e K := h
theorem zas {K : Env → Prop} {dst : Option Tmp} {c : Call} {ty : TypeId} {pos : String} {after : Array Edge} {guard : Option (Nat × Bool)} (h : Run1 P N S ops (⟨dst, .call c, ty, pos, after, guard⟩ :: l) e K) : Run1 P N S ops (⟨dst, .call c, ty, pos, after, guard⟩ :: l) e K := h

/-- The frame behind the first operations, in the order of the text. -/
def after1 (ps : List (Nat × AV)) (e : Env) : Env := ps.reverse ++ e
theorem look_append : ∀ (a b : Env) (t : Nat), (a ++ b).look t = match a.look t with | some v => some v | none => b.look t
  | [], _, _ => rfl
  | (d, v) :: a, b, t => by
    simp only [List.cons_append, Env.look]
    cases hb : Nat.beq d t with
    | true => rfl
    | false => exact look_append a b t
theorem look_none_iff : ∀ (a : Env) (t : Nat), a.look t = none ↔ t ∉ a.map (·.1)
  | [], _ => by simp [Env.look]
  | (d, v) :: a, t => by
    simp only [Env.look, List.map_cons, List.mem_cons, not_or]
    cases hb : Nat.beq d t with
    | true => have := Nat.eq_of_beq_eq_true hb; simp [this]
    | false =>
      have hne : t ≠ d := fun e => by subst e; simp at hb
      simp [hne, look_none_iff a t]
theorem look_mem : ∀ (a : Env) (t : Nat) (v : AV), a.look t = some v → (t, v) ∈ a
  | [], _, _, h => by cases h
  | (d, u) :: a, t, v, h => by
    simp only [Env.look] at h
    cases hb : Nat.beq d t with
    | true => have := Nat.eq_of_beq_eq_true hb; simp only [hb, Option.some.injEq] at h; subst this; subst h; simp
    | false => simp only [hb] at h; exact List.mem_cons_of_mem _ (look_mem a t v h)

theorem run1_spec {K : Env → Prop} : ∀ {l : List Oper} {e : Env}, Run1 P N S ops l e K → ∃ ps : List (Nat × AV), ps.length = l.length ∧ K (after1 ps e) ∧
    ∀ i o p, l[i]? = some o → ps[i]? = some p → o.dst = some p.1 ∧ p.1 < N ∧ OpG P S ops (after1 (ps.take i) e) o p.2
  | [], e, h => ⟨[], rfl, h, fun i o p hi => by simp at hi⟩
  | o :: l, e, ⟨d, v, hd, hN, hg, hr⟩ => by
    obtain ⟨ps, hlen, hK, hall⟩ := run1_spec hr
    have haft : ∀ qs : List (Nat × AV), after1 ((d, v) :: qs) e = after1 qs ((d, v) :: e) := fun qs => by simp [after1]
    refine ⟨(d, v) :: ps, by simp [hlen], by rw [haft]; exact hK, fun i x p hi hp => ?_⟩
    cases i with
    | zero => simp at hi hp; subst hi; subst hp; exact ⟨hd, hN, by simpa [after1] using hg⟩
    | succ i =>
      simp only [List.getElem?_cons_succ] at hi hp
      rw [List.take_succ_cons, haft]
      exact hall i x p hi hp

theorem ready_iff {L : Array Bool} (hL : L.size = ops.size) (i : Nat) : i ∈ Region.ready .any ops L ↔ i < ops.size ∧ ¬ Listed L i ∧ ∀ o, ops[i]? = some o → ∀ j ∈ directs o, Listed L j := by
  unfold Region.ready Listed
  simp only [List.mem_filter, List.mem_range, Bool.and_eq_true, Bool.not_eq_true']
  constructor
  · rintro ⟨h1, h2, h3⟩
    refine ⟨h1, ?_, fun o ho j hj => ?_⟩
    · have hlt : i < L.size := by omega
      simp [Array.getD, hlt] at h2 ⊢; exact h2
    · simp only [ho, Option.map_some, Option.getD_some] at h3
      obtain ⟨e, he, rfl⟩ := List.mem_map.1 hj
      obtain ⟨he1, he2⟩ := List.mem_filter.1 he
      rw [← Array.all_toList, List.all_eq_true] at h3
      have := h3 e he1
      simpa [he2] using this
  · rintro ⟨h1, h2, h3⟩
    refine ⟨h1, ?_, ?_⟩
    · have hlt : i < L.size := by omega
      simp [Array.getD, hlt] at h2 ⊢; exact h2
    · have ho : ops[i]? = some ops[i] := by simp [h1]
      simp only [ho, Option.map_some, Option.getD_some]
      rw [← Array.all_toList, List.all_eq_true]
      intro e he
      cases hb : Region.binds .any e with
      | false => rfl
      | true =>
        have := h3 _ ho e.on (List.mem_map.2 ⟨e, List.mem_filter.2 ⟨he, hb⟩, rfl⟩)
        simpa using this

theorem listed_set {L : Array Bool} {i j : Nat} (hi : i < L.size) : Listed (L.setIfInBounds i true) j ↔ j = i ∨ Listed L j := by
  unfold Listed
  rw [Array.getD_eq_getD_getElem?, Array.getD_eq_getD_getElem?]
  by_cases h : j = i
  · subst h; simp [hi]
  · rw [Array.getElem?_setIfInBounds_ne (fun e => h e.symm)]; simp [h]

def unL (L : Array Bool) : Nat := L.toList.count false
theorem unL_set {L : Array Bool} {i : Nat} (hi : i < L.size) (hn : ¬ Listed L i) : unL (L.setIfInBounds i true) + 1 = unL L := by
  unfold unL
  have hf : L.toList[i]'(by simpa using hi) = false := by
    unfold Listed at hn
    simp [Array.getD, hi] at hn
    simpa using hn
  have hpos : 0 < L.toList.count false := List.count_pos_iff.2 (by rw [← hf]; exact List.getElem_mem _)
  rw [Array.toList_setIfInBounds, List.count_set (by simpa using hi)]
  have h1 : (L.toList[i]'(by simpa using hi) == false) = true := by rw [hf]; rfl
  rw [if_pos h1, if_neg (by simp)]
  omega
theorem unL_zero {L : Array Bool} (h : unL L = 0) {i : Nat} (hi : i < L.size) : Listed L i := by
  unfold unL at h
  unfold Listed
  cases hb : L.getD i false with
  | true => rfl
  | false =>
    have hf : L.toList[i]'(by simpa using hi) = false := by simp [Array.getD, hi] at hb; simpa using hb
    have : 0 < L.toList.count false := List.count_pos_iff.2 (by rw [← hf]; exact List.getElem_mem _)
    omega

theorem drawOk_spec {n : Nat} (h : drawOk ops n = true) : n ≤ ops.size ∧
    (∀ i o, i < n → ops[i]? = some o → (∃ d, o.dst = some d) ∧ (∀ j, j < n → j ≠ i → gslot ops j ≠ o.dst) ∧ ∀ t ∈ looks ops o, ∀ j, j < n → gslot ops j = some t → j < i ∧ j ∈ directs o) ∧
    (∀ k i, n ≤ k → k < ops.size → i < k → Must ops i k) ∧ (∀ k o, ops[k]? = some o → ∀ j ∈ directs o, j < k) := by
  unfold drawOk at h
  simp only [Bool.and_eq_true, decide_eq_true_eq, List.all_eq_true, List.mem_range] at h
  obtain ⟨⟨⟨h1, h2⟩, h3⟩, h4⟩ := h
  refine ⟨h1, fun i o hi ho => ?_, fun k i hk hks hik => ?_, fun k o ho j hj => ?_⟩
  · have := h2 i hi
    simp only [ho, Bool.and_eq_true, List.all_eq_true, List.mem_range, Bool.or_eq_true, beq_iff_eq, bne_iff_ne, decide_eq_true_eq, List.contains_iff_mem] at this
    obtain ⟨⟨ha, hb⟩, hc⟩ := this
    refine ⟨Option.isSome_iff_exists.1 ha, fun j hj hji => (hb j hj).resolve_left hji, fun t ht j hj hg => ?_⟩
    exact (hc t ht j hj).resolve_left (fun hne => hne hg)
  · have := h3 k hks
    simp only [Bool.or_eq_true, decide_eq_true_eq, List.all_eq_true, List.mem_range] at this
    exact before_must ops k i ((this.resolve_left (by omega)) i hik)
  · have hk : k < ops.size := (Array.getElem?_eq_some_iff.1 ho).1
    have := h4 k hk
    simp only [ho, List.all_eq_true, decide_eq_true_eq] at this
    exact this j hj

/-- Behind the first m operations the others come one by one. -/
theorem wpAny_tail {Q' : Exit → Act → World → Prop} {n : Nat} (hmust : ∀ k i, n ≤ k → k < ops.size → i < k → Must ops i k) (hback : ∀ k o, ops[k]? = some o → ∀ j ∈ directs o, j < k) :
    ∀ (fuel m : Nat) (L : Array Bool) (a : Act) (w : World), n ≤ m → m ≤ ops.size → L.size = ops.size → (∀ i, Listed L i ↔ i < m) → ops.size ≤ m + fuel → wpList P ops Q' (ops.toList.drop m) a w → wpAny P .any ops Q' fuel L a w := by
  intro fuel
  induction fuel with
  | zero =>
    intro m L a w hnm hms hL hlist hf hw
    have hmm : m = ops.size := by omega
    subst hmm
    refine ⟨List.eq_nil_iff_forall_not_mem.2 fun i hi => ?_, ?_⟩
    · obtain ⟨h1, h2, _⟩ := (ready_iff hL i).1 hi
      exact h2 ((hlist i).2 h1)
    · rw [List.drop_of_length_le (by simp)] at hw
      exact hw
  | succ fuel ih =>
    intro m L a w hnm hms hL hlist hf hw
    by_cases hlt : m < ops.size
    · have hom : ops[m]? = some ops[m] := by simp [hlt]
      have hdrop : ops.toList.drop m = ops[m] :: ops.toList.drop (m + 1) := by rw [List.drop_eq_getElem_cons (by simpa using hlt)]; simp
      have hready : m ∈ Region.ready .any ops L := (ready_iff hL m).2 ⟨hlt, fun h => by have := (hlist m).1 h; omega, fun o ho j hj => (hlist j).2 (hback m o ho j hj)⟩
      refine ⟨fun h => by rw [h] at hready; simp at hready, fun i hi => ?_⟩
      obtain ⟨h1, h2, h3⟩ := (ready_iff hL i).1 hi
      have him : i = m := by
        have hge : ¬ i < m := fun h => h2 ((hlist i).2 h)
        by_cases hgt : m < i
        · have hd : Down ops L := fun k o ho hk j hj => (hlist j).2 (Nat.lt_trans (hback k o ho j hj) ((hlist k).1 hk))
          have := (hmust i m (by omega) h1 hgt).listed hd h3
          have := (hlist m).1 this
          omega
        · omega
      subst him
      rw [hdrop] at hw
      unfold wpOp
      simp only [hom]
      have hset : ∀ j, Listed (L.setIfInBounds i true) j ↔ j < i + 1 := fun j => by
        rw [listed_set (by omega), hlist j]; omega
      have next : ∀ a w, wpList P ops Q' (ops.toList.drop (i + 1)) a w → wpAny P .any ops Q' fuel (L.setIfInBounds i true) a w :=
        fun a w h => ih (i + 1) _ a w (by omega) (by omega) (by simpa using hL) hset (by omega) h
      simp only [wpList] at hw
      split
      · rename_i hwt
        rw [if_pos hwt] at hw
        exact hw.imp (Oper.wp_mono next) id
      · rename_i hwt
        rw [if_neg hwt] at hw
        exact next _ _ hw
    · have hmm : m = ops.size := by omega
      subst hmm
      refine ⟨fun _ => ?_, fun i hi => ?_⟩
      · rw [List.drop_of_length_le (by simp)] at hw
        exact hw
      · obtain ⟨h1, h2, _⟩ := (ready_iff hL i).1 hi
        exact absurd ((hlist i).2 h1) h2

theorem ws_draw {n id : Nat} [Cl S] (hm : P.follows .mixedOrders = true) (hchk : drawOk ops n = true) (h : Run1 P N S ops (ops.toList.take n) e (fun e' => RS P N ops (ops.toList.drop n) e' S Q)) : WS P N (.region id ops true) e S Q := by
  obtain ⟨hn, hfirst, hmust, hback⟩ := drawOk_spec hchk
  obtain ⟨ps, hlen, hR, hall⟩ := run1_spec h
  have hlen' : ps.length = n := by rw [hlen]; simp; omega
  have hop : ∀ i, i < n → ∃ o p, ops[i]? = some o ∧ ps[i]? = some p ∧ o.dst = some p.1 ∧ p.1 < N ∧ OpG P S ops (after1 (ps.take i) e) o p.2 := fun i hi => by
    have ho : ops[i]? = some (ops[i]'(by omega)) := by simp
    have hp : ps[i]? = some (ps[i]'(by omega)) := by simp
    obtain ⟨h1, h2, h3⟩ := hall i (ops[i]'(by omega)) (ps[i]'(by omega)) (by rw [List.getElem?_take, if_pos hi]; simp) hp
    exact ⟨_, _, ho, hp, h1, h2, h3⟩
  have hslot : ∀ i p, ps[i]? = some p → gslot ops i = some p.1 := fun i p hp => by
    have hi : i < n := by rw [← hlen']; exact (List.getElem?_eq_some_iff.1 hp).1
    obtain ⟨o, p', ho, hp', hd, _⟩ := hop i hi
    rw [hp'] at hp; cases hp
    simp [gslot, ho, hd]
  intro a w hS hF
  refine wp_region_any hm ?_
  have hw0 : Ext w { w with drawn := w.drawn + 1 } := Ext.of_quiet (.inr rfl)
  have hS0 : S { w with drawn := w.drawn + 1 } := Cl.ext hS hw0
  have hF0 := hF.ext hw0
  generalize ({ w with drawn := w.drawn + 1 } : World) = w1 at hS0 hF0
  clear hS hF hw0 w
  -- what holds while the first operations come
  have key : ∀ (fuel : Nat) (L : Array Bool) (a : Act) (w : World), L.size = ops.size → Down ops L → S w → a.defers = [] → a.tmps.size = N →
      (∀ i p, ps[i]? = some p → Listed L i → ∃ u, a.tmps[p.1]? = some u ∧ Rel w p.2 u) →
      (∀ t v, t ∉ ps.map (·.1) → e.look t = some v → ∃ u, a.tmps[t]? = some u ∧ Rel w v u) →
      (∀ k, n ≤ k → ¬ Listed L k) → unL L ≤ fuel →
      wpAny P .any ops (fun x a' w' => ∃ e', Fr N e' a' w' ∧ Q x e' w') fuel L a w := by
    intro fuel
    induction fuel with
    | zero =>
      intro L a w hL hd hSw hdf hsz hps hbase hno hu
      have hnn : n = ops.size := by
        rcases Nat.lt_or_ge n ops.size with hlt | hge
        · exact absurd (unL_zero (by omega) (by omega)) (hno n (Nat.le_refl _))
        · omega
      have hFr : Fr N (after1 ps e) a w := ⟨hdf, hsz, fun t v ht => by
        unfold after1 at ht
        rw [look_append] at ht
        cases hl : Env.look ps.reverse t with
        | some x =>
          simp only [hl, Option.some.injEq] at ht; subst ht
          obtain ⟨i, hi⟩ := List.mem_iff_getElem?.1 (List.mem_reverse.1 (look_mem _ _ _ hl))
          exact hps i _ hi (unL_zero (by omega) (by have := (List.getElem?_eq_some_iff.1 hi).1; omega))
        | none =>
          simp only [hl] at ht
          exact hbase t v (by have := (look_none_iff _ _).1 hl; simpa using this) ht⟩
      exact wpAny_tail (P := P) (n := n) hmust hback 0 n L a w (Nat.le_refl _) hn hL (fun i => ⟨fun h => by
        rcases Nat.lt_or_ge i n with h' | h'
        · exact h'
        · exact absurd h (hno i h'), fun h => unL_zero (by omega) (by omega)⟩) (by omega) (hR a w hSw hFr)
    | succ fuel ih =>
      intro L a w hL hd hSw hdf hsz hps hbase hno hu
      by_cases hall' : ∀ i, i < n → Listed L i
      · have hFr : Fr N (after1 ps e) a w := ⟨hdf, hsz, fun t v ht => by
          unfold after1 at ht
          rw [look_append] at ht
          cases hl : Env.look ps.reverse t with
          | some x =>
            simp only [hl, Option.some.injEq] at ht; subst ht
            obtain ⟨i, hi⟩ := List.mem_iff_getElem?.1 (List.mem_reverse.1 (look_mem _ _ _ hl))
            exact hps i _ hi (hall' i (by have := (List.getElem?_eq_some_iff.1 hi).1; omega))
          | none =>
            simp only [hl] at ht
            exact hbase t v (by have := (look_none_iff _ _).1 hl; simpa using this) ht⟩
        have hcount : ops.size ≤ n + (fuel + 1) := by
          -- at most the operations from n on are not listed
          have : ops.size - n ≤ unL L := by
            unfold unL
            have h1 : (L.toList.drop n).count false = ops.size - n := by
              have hall2 : ∀ x ∈ L.toList.drop n, x = false := fun x hx => by
                obtain ⟨j, hj⟩ := List.mem_iff_getElem?.1 hx
                rw [List.getElem?_drop] at hj
                have hnl := hno (n + j) (by omega)
                unfold Listed at hnl
                rw [Array.getD_eq_getD_getElem?] at hnl
                have hj' : L[n + j]? = some x := by simpa using hj
                rw [hj'] at hnl
                cases x <;> simp_all
              rw [List.count_eq_length.2 (fun b hb => (hall2 b hb).symm)]
              simp [hL]
            rw [← h1]
            exact (List.drop_sublist n L.toList).count_le false
          omega
        exact wpAny_tail (P := P) (n := n) hmust hback (fuel + 1) n L a w (Nat.le_refl _) hn hL (fun i => ⟨fun h => by
          rcases Nat.lt_or_ge i n with h' | h'
          · exact h'
          · exact absurd h (hno i h'), fun h => hall' i h⟩) hcount (hR a w hSw hFr)
      · refine ⟨fun hnil => ?_, fun i hi => ?_⟩
        · exfalso
          -- the least one that is not listed is ready
          have hex : ∃ i, i < n ∧ ¬ Listed L i := by
            false_or_by_contra
            rename_i hc
            exact hall' fun i hi => by
              false_or_by_contra
              rename_i hn'
              exact hc ⟨i, hi, hn'⟩
          have hmin : ∀ m, (∃ i, i < m ∧ i < n ∧ ¬ Listed L i) → ∃ i, i < n ∧ ¬ Listed L i ∧ ∀ j, j < i → Listed L j := by
            intro m
            induction m with
            | zero => rintro ⟨i, hi, _⟩; omega
            | succ m ihm =>
              rintro ⟨i, hi, hin, hil⟩
              by_cases h' : ∃ i, i < m ∧ i < n ∧ ¬ Listed L i
              · exact ihm h'
              · refine ⟨i, hin, hil, fun j hj => ?_⟩
                false_or_by_contra
                rename_i hjl
                exact h' ⟨j, by omega, by omega, hjl⟩
          obtain ⟨i, hin, hil⟩ := hex
          obtain ⟨i, hin, hil, hjs⟩ := hmin (i + 1) ⟨i, by omega, hin, hil⟩
          have : i ∈ Region.ready .any ops L := (ready_iff hL i).2 ⟨by omega, hil, fun o ho j hj => hjs j (hback i o ho j hj)⟩
          rw [hnil] at this
          simp at this
        · obtain ⟨h1, h2, h3⟩ := (ready_iff hL i).1 hi
          have hin : i < n := by
            rcases Nat.lt_or_ge i n with h' | h'
            · exact h'
            · exact absurd (fun j hj => (hmust i j h' h1 (by omega)).listed hd h3) hall'
          obtain ⟨o, p, ho, hp, hdst, hpN, hG⟩ := hop i hin
          obtain ⟨_, huniq, hlook⟩ := hfirst i o hin ho
          -- what the operation looks at is as the text's order has it
          have hlk : ∀ t, t ∈ looks ops o → ∀ v, (after1 (ps.take i) e).look t = some v → ∃ u, a.tmps[t]? = some u ∧ Rel w v u := fun t ht v hv => by
            unfold after1 at hv
            rw [look_append] at hv
            cases hl : Env.look (ps.take i).reverse t with
            | some x =>
              simp only [hl, Option.some.injEq] at hv; subst hv
              obtain ⟨j, hj⟩ := List.mem_iff_getElem?.1 (List.mem_reverse.1 (look_mem _ _ _ hl))
              rw [List.getElem?_take] at hj
              split at hj
              · rename_i hji
                obtain ⟨_, hjd⟩ := hlook t ht j (by omega) (hslot j _ hj)
                exact hps j _ hj (h3 o ho j hjd)
              · cases hj
            | none =>
              simp only [hl] at hv
              refine hbase t v (fun hm' => ?_) hv
              obtain ⟨q, hq, hqt⟩ := List.mem_map.1 hm'
              obtain ⟨j, hj⟩ := List.mem_iff_getElem?.1 hq
              have hjn : j < n := by rw [← hlen']; exact (List.getElem?_eq_some_iff.1 hj).1
              have hjt : gslot ops j = some t := by rw [hslot j q hj, ← hqt]
              obtain ⟨hji, _⟩ := hlook t ht j hjn hjt
              have hnone := (look_none_iff _ _).1 hl
              apply hnone
              rw [List.map_reverse, List.mem_reverse]
              exact List.mem_map.2 ⟨q, List.mem_iff_getElem?.2 ⟨j, by rw [List.getElem?_take, if_pos hji]; exact hj⟩, hqt⟩
          have hoper : ∀ x ∈ o.op.operands.toList, ∀ y, (after1 (ps.take i) e).ev x = some y → Rel w y (a.eval x) := fun x hx y hy => by
            cases x with
            | tmp t =>
              obtain ⟨u, hu, hr⟩ := hlk t (List.mem_append_left _ (List.mem_filterMap.2 ⟨_, hx, rfl⟩)) y hy
              have : a.eval (.tmp t) = u := by simp [Act.eval, hu]
              rw [this]; exact hr
            | const c =>
              simp only [Env.ev] at hy
              split at hy
              · rename_i hc; cases hy; exact rel_cv w c hc
              · cases hy
            | global g => cases hy; exact .raw
            | func f => cases hy; exact .raw
          -- behind it
          have next : ∀ u w', Ext w w' → Rel w' p.2 u → wpAny P .any ops (fun x a' w' => ∃ e', Fr N e' a' w' ∧ Q x e' w') fuel (L.setIfInBounds i true) (a.put o.dst u) w' := fun u w' hw hr => by
            have hiL : i < L.size := by omega
            refine ih _ _ _ (by simpa using hL) (fun k x hx hk j hj => ?_) (Cl.ext hSw hw) (by simp [hdst, Act.put, hdf]) (by simp [hdst, Act.put, hsz]) (fun j q hq hj => ?_) (fun t v ht hv => ?_) (fun k hk hk' => ?_) (by have := unL_set hiL h2; omega)
            · rw [listed_set hiL]
              rcases (listed_set hiL).1 hk with rfl | hk
              · exact .inr (h3 x hx j hj)
              · exact .inr (hd k x hx hk j hj)
            · by_cases hji : j = i
              · subst hji
                rw [hp] at hq; cases hq
                exact ⟨u, by simp [hdst, Act.put, hsz, hpN], hr⟩
              · have hjn : j < n := by rw [← hlen']; exact (List.getElem?_eq_some_iff.1 hq).1
                have hne : p.1 ≠ q.1 := fun he => huniq j hjn hji (by rw [hslot j q hq, hdst, he])
                obtain ⟨y, hy, hry⟩ := hps j q hq (((listed_set hiL).1 hj).resolve_left hji)
                exact ⟨y, by simp [hdst, Act.put, Array.getElem?_setIfInBounds_ne hne, hy], hry.ext hw⟩
            · have hne : p.1 ≠ t := fun he => ht (List.mem_map.2 ⟨p, List.mem_of_getElem? hp, he⟩)
              obtain ⟨y, hy, hry⟩ := hbase t v ht hv
              exact ⟨y, by simp [hdst, Act.put, Array.getElem?_setIfInBounds_ne hne, hy], hry.ext hw⟩
            · rcases (listed_set hiL).1 hk' with rfl | hk'
              · omega
              · exact hno k hk hk'
          unfold wpOp
          simp only [ho]
          unfold OpG at hG
          cases hgd : o.guard with
          | none =>
            simp only [hgd] at hG
            rw [if_pos (by simp [Region.wanted, hgd])]
            exact .inl (hG a w _ _ hSw hoper next)
          | some jb =>
            obtain ⟨j, b⟩ := jb
            simp only [hgd] at hG
            obtain ⟨y, c, hy, hc, hcase⟩ := hG
            obtain ⟨u, hu, hru⟩ := hlk y (List.mem_append_right _ (by simp [hgd, hy])) _ hc
            have hub := hru.inv_raw
            subst hub
            have hyield : yielded ops a.tmps j = some c := by
              unfold yielded
              rw [show ((ops[j]?).bind (·.dst)) = some y from hy]
              simp [hu]
            rcases hcase with ⟨rfl, hJ⟩ | ⟨hne, hv⟩
            · rw [if_pos (by simp [Region.wanted, hgd, hyield])]
              exact .inl (hJ a w _ _ hSw hoper next)
            · rw [if_neg (by simpa [Region.wanted, hgd, hyield] using hne)]
              exact next undef w (Ext.refl _) (by rw [hv]; exact .raw)
  refine key ops.size _ a w1 (by simp) (fun k o _ hk => ?_) hS0 hF0.defers hF0.size (fun i p _ hi => ?_) (fun t v _ ht => hF0.rel t v ht) (fun k _ hk => ?_) ?_
  · unfold Listed at hk; rw [Array.getD_eq_getD_getElem?, Array.getElem?_replicate] at hk; split at hk <;> simp at hk
  · unfold Listed at hi; rw [Array.getD_eq_getD_getElem?, Array.getElem?_replicate] at hi; split at hi <;> simp at hi
  · unfold Listed at hk; rw [Array.getD_eq_getD_getElem?, Array.getElem?_replicate] at hk; split at hk <;> simp at hk
  · unfold unL; simp
end
end Go.Ab
