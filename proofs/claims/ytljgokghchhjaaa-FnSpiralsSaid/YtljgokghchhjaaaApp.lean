/- Lists that a call owns: tables, appending, stores and calls by place, and regions in whose midst a store lies. No conditions. -/
import Derived.Test.YtljgokghchhjaaaLit
import Derived.Deep.AppendLies
namespace Go.Ab
variable {R : World → Prop} [RStab R]

/-! Tables. -/
def tab (n : Nat) (f : Int → FV) : List FV := (List.range n).map fun (i : Nat) => f i
def at_ (L : List FV) (i : Int) : FV := L.getD i.toNat default
@[simp] theorem tab_length (n : Nat) (f : Int → FV) : (tab n f).length = n := by simp [tab]
theorem tab_get {n : Nat} (f : Int → FV) {i : Nat} (h : i < n) : (tab n f)[i]? = some (f i) := by simp [tab, h]
theorem tab_ext {L : List FV} {n : Nat} {f : Int → FV} (hl : L.length = n) (h : ∀ i : Nat, i < n → L[i]? = some (f i)) : L = tab n f := by
  apply List.ext_getElem?
  intro i
  rcases Nat.lt_or_ge i n with hi | hi
  · rw [h i hi, tab_get f hi]
  · rw [List.getElem?_eq_none (by omega), List.getElem?_eq_none (by rw [tab_length]; exact hi)]
theorem tab_congr {n : Nat} {f g : Int → FV} (h : ∀ i : Int, 0 ≤ i → i < n → f i = g i) : tab n f = tab n g :=
  tab_ext (tab_length n f) fun i hi => by rw [tab_get f hi, h i (by omega) (by omega)]
theorem tab_at (L : List FV) : L = tab L.length (at_ L) := tab_ext rfl fun i hi => by simp [at_, hi]
theorem tab_rep (n : Nat) (x : FV) : List.replicate n x = tab n fun _ => x := tab_ext (by simp) fun i hi => by simp [hi]
theorem tab_set {n : Nat} {f g : Int → FV} {i : Nat} {x : FV} (hi : i < n) (hx : g i = x) (hg : ∀ t : Int, 0 ≤ t → t < n → t ≠ i → g t = f t) : (tab n f).set i x = tab n g :=
  tab_ext (by simp [tab_length]) fun t ht => by
    rw [List.getElem?_set]
    split
    · rename_i h
      subst h
      rw [if_pos (by rw [tab_length]; exact hi), hx]
    · rename_i h
      rw [tab_get f ht, hg t (by omega) (by omega) (by omega)]
theorem tab_snoc {n : Nat} {f g : Int → FV} {x : FV} (hx : g n = x) (hg : ∀ t : Int, 0 ≤ t → t < n → g t = f t) : tab n f ++ [x] = tab (n + 1) g :=
  tab_ext (by simp [tab_length]) fun t ht => by
    rcases Nat.lt_or_ge t n with h | h
    · rw [List.getElem?_append_left (by rw [tab_length]; exact h), tab_get f h, hg t (by omega) (by omega)]
    · have : t = n := by omega
      subst this
      rw [List.getElem?_append_right (by rw [tab_length]; exact h), tab_length, Nat.sub_self, hx]
      rfl
theorem at_tab {n : Nat} {f : Int → FV} {i : Int} (h0 : 0 ≤ i) (h : i < n) : at_ (tab n f) i = f i := by
  have hi : i.toNat < n := by omega
  have he : ((i.toNat : Nat) : Int) = i := by omega
  have hg : (tab n f)[i.toNat]? = some (f i) := by rw [tab_get f hi, he]
  simp [at_, List.getD, hg]
/-- A table in a block of its own. -/
abbrev entF (g : Nat) (T : TypeId) (n : Nat) (f : Int → FV) (c : Nat) : Ent := ⟨g, T, (tab n f).map (AV.f .f32), c⟩

theorem erase_perm {α : Type} : ∀ {l : List α} {i : Nat} (h : i < l.length), (l[i] :: l.eraseIdx i).Perm l
  | a :: l, 0, _ => List.Perm.refl _
  | a :: l, i + 1, h => (List.Perm.swap a (l[i]'(by simpa using h)) (l.eraseIdx i)).trans ((erase_perm (l := l) (i := i) (by simpa using h)).cons a)
/-- The block at some place has turned, no other. -/
theorem StR.updAt {w0 w w' : World} {gs : List Nat} {H : List Ent} {i : Nat} {e e' : Ent} (h : StR R w0 gs H w) (hi : H[i]? = some e) (hw : Mod w w' [e.g]) (hg : e'.g = e.g ∨ w.heap.size ≤ e'.g) (ho : OwnE w' e') : StR R w0 gs (H.set i e') w' := by
  obtain ⟨hlt, rfl⟩ := List.getElem?_eq_some_iff.1 hi
  have hp : (H[i] :: H.eraseIdx i).Perm H := erase_perm hlt
  have h1 : StR R w0 gs ([H[i]] ++ H.eraseIdx i) w := h.perm hp
  have h2 : StR R w0 gs ([e'] ++ H.eraseIdx i) w' := h1.call hw (fun x hx => by
    have : x = e' := by simpa using hx
    subst this
    exact ⟨ho, by rcases hg with hg | hg; exact .inl (by simp [hg]); exact .inr hg⟩) (by simp)
  refine h2.perm ?_
  have hlt' : i < (H.set i e').length := by simpa using hlt
  have hp' : ((H.set i e')[i] :: (H.set i e').eraseIdx i).Perm (H.set i e') := erase_perm hlt'
  rw [List.getElem_set_self, List.eraseIdx_set_eq] at hp'
  exact hp'.symm

section
variable {P : Program} {N : Nat} {S : World → Prop} {e : Env} {Q : Exit → Env → World → Prop} {ops : Array Oper} {l : List Oper} {o : Oper}
variable {w0 : World} {gs : List Nat} {H : List Ent} {dst : Option Tmp} {ty : TypeId} {pos : String} {after : Array Edge} {guard : Option (Nat × Bool)}

/-- A cell of a table. -/
theorem zbt {R0 : World → Prop} {X : Operand} {g n c : Nat} {i : Int} {f : Int → FV} {T : TypeId} {t : TypeId} {d : TypeDesc} [hd : TyU P t d] (ha : aggD d = false)
    (hx : e.ev X = some (.raw (.pointer (some ⟨g, i.toNat * 1, none⟩)))) (hm : entF g T n f c ∈ H) (h0 : 0 ≤ i ∧ i < n) : OpJ P (StR R0 w0 gs H) e ⟨dst, .load t X, ty, pos, after, guard⟩ (.f .f32 (f i)) := by
  refine opj_load_own (en := entF g T n f c) ha hx hm ?_
  have hi : i.toNat < n := by omega
  have he : ((i.toNat : Nat) : Int) = i := by omega
  rw [Nat.mul_one, List.getElem?_map, tab_get f hi, he]
  rfl

theorem rs_storeAt (k : Nat) {en : Ent} {i : Nat} {t : TypeId} {z : Value} {b : Nat} [hi : TyI P t z 1 b] {A X : Operand} {x : AV} (hA : e.ev A = some (.raw (.pointer (some ⟨en.g, i, none⟩)))) (hx : e.ev X = some x) (h1 : oneAV x = true) (hH : H[k]? = some en) (hi' : i < en.csz)
    (hk : RS P N ops l e.keep (StR R w0 gs (H.set k { en with xs := en.xs.set i x })) Q) :
    RS P N ops (⟨none, .store t A X, ty, pos, after, none⟩ :: l) e (StR R w0 gs H) Q := by
  intro a w hS hF
  refine wpList_plain rfl fun K hK => ?_
  have h2 := (hF.eval hA).inv_raw
  have hr := hF.eval hx
  obtain ⟨hc, ho, hst⟩ := oneAV_spec h1 hr
  have hmem : en ∈ H := List.mem_of_getElem? hH
  have hown := (hS.own en hmem).2
  obtain ⟨cur, hb, hcs, _⟩ := hown
  have hcell : w.cell? ⟨en.g, i, none⟩ = some (cur[i]'(by omega)) := by simp [World.cell?, hb, hcs, hi']
  have hfr := OwnE.frozen (hS.own en hmem).2 i
  have hrun : (execOp a.eval ⟨none, .store t A X, ty, pos, after, none⟩).run P w = .ok .skip (w.setCell ⟨en.g, i, none⟩ (a.eval X)) := by
    have hst : (store ⟨en.g, i, none⟩ (a.eval X)).run P w = .ok () (w.setCell ⟨en.g, i, none⟩ (a.eval X)) := by
      rw [run_store P w _ _ _ ho, hcell]; simp [hfr]
    have hadd : (⟨en.g, i, none⟩ : Addr).add 0 = ⟨en.g, i, none⟩ := rfl
    simp [execOp, h2, Instr.storeAt, Instr.sureAddr, storeVar, run_size hi, hc, storeCells, hadd, hst]
  unfold Oper.wp
  rw [hrun]
  exact hK _ _ (hk _ _ (hS.updAt hH (mod_setCell w en.g i _) (.inl rfl) (own_setCell (hS.own en hmem).2 hi' (hr.ev hst))) hF.keep)
/-- A store into a table. -/
theorem rs_storeT (k : Nat) (f' : Int → FV) {g n c : Nat} {i : Int} {f : Int → FV} {x : FV} {T t : TypeId} {z : Value} {b : Nat} [hi : TyI P t z 1 b] {A X : Operand}
    (hA : e.ev A = some (.raw (.pointer (some ⟨g, i.toNat * 1, none⟩)))) (hx : e.ev X = some (.f .f32 x)) (hH : H[k]? = some (entF g T n f c)) (h0 : 0 ≤ i ∧ i < n ∧ n ≤ c)
    (hf : f' i = x) (hf' : ∀ s : Int, 0 ≤ s → s < n → s ≠ i → f' s = f s)
    (hk : RS P N ops l e.keep (StR R w0 gs (H.set k (entF g T n f' c))) Q) :
    RS P N ops (⟨none, .store t A X, ty, pos, after, none⟩ :: l) e (StR R w0 gs H) Q := by
  have hn : i.toNat < n := by omega
  have he : ((i.toNat : Nat) : Int) = i := by omega
  refine rs_storeAt k (en := entF g T n f c) (i := i.toNat * 1) hA hx rfl hH (by simp only; omega) ?_
  have : ({ entF g T n f c with xs := (entF g T n f c).xs.set (i.toNat * 1) (.f .f32 x) } : Ent) = entF g T n f' c := by
    simp only [entF, Nat.mul_one]
    rw [← List.map_set, tab_set hn (by rw [he]; exact hf) (fun s h1 h2 h3 => hf' s h1 h2 (by rw [he] at h3; exact h3))]
  rw [this]
  exact hk

/-- A literal of one-cell elements in a block of its own. -/
theorem rs_litO {d : Tmp} {t el : TypeId} {z : Value} {b n : Nat} {parts : Array (Nat × Operand)} {Xs : List Operand} {xs : List AV} [hu : TyU P t (.slice el)] [hi : TyI P el z 1 b] (hd : Nat.blt d N = true)
    (hp : parts.toList = (List.range' 0 Xs.length).zip Xs) (hn : n = Xs.length) (hx : evL e Xs = some xs) (h1 : xs.all isOne = true) (hb : Nat.ble n 1000 = true)
    (hk : ∀ g, RS P N ops l ((d, .raw (.slice (some ⟨g, 0, none⟩) n n)) :: e) (StR R w0 gs (⟨g, el, xs, n⟩ :: H)) Q) :
    RS P N ops (⟨some d, .buildSlice t n parts, ty, pos, after, none⟩ :: l) e (StR R w0 gs H) Q := by
  refine rs_fresh (val := fun g => .raw (.slice (some ⟨g, 0, none⟩) n n)) (en := fun g => ⟨g, el, xs, n⟩) hd (fun _ => rfl) (fun a w hS hF => ?_) hk
  subst hn
  have hb' := Nat.le_of_ble_eq_true hb
  obtain ⟨i, hi1, hz1, hs1, hb1⟩ := hi.h
  have hrl : RelL w xs (Xs.map a.eval) := evL_rel hx fun X _ y hy => hF.eval hy
  have hlen : (Xs.map a.eval).length = xs.length := hrl.length
  have hlx : xs.length = Xs.length := by simpa using hlen.symm
  have hcells : ∀ v ∈ Xs.map a.eval, v.cells = #[v] := fun v hv => by
    obtain ⟨k, hk, rfl⟩ := List.mem_iff_getElem.1 hv
    obtain ⟨u, hu', hr⟩ := hrl.get (i := k) (a := xs[k]'(by omega)) (by simp)
    rw [List.getElem?_eq_getElem hk] at hu'
    cases hu'
    exact isOne_cells (List.all_eq_true.1 h1 _ (List.getElem_mem _)) hr
  have hfill : ∀ zc : Array Value, Instr.fill (fun i => some (i * 1, 1)) ((Array.range (Xs.length * 1)).map (zc[· % zc.size]!)) (parts.map fun (i, x) => (i, a.eval x)).toList = some (Xs.map a.eval).toArray := fun zc => by
    rw [Array.toList_map, hp]
    have hf := fill_row (Xs.map a.eval) 0 ((Array.range (Xs.length * 1)).map (zc[· % zc.size]!)) hcells (by simp)
    have e1 : ((List.range' 0 Xs.length).zip Xs).map (fun (x : Nat × Operand) => (x.1, a.eval x.2)) = (List.range' 0 (Xs.map a.eval).length).zip (Xs.map a.eval) := by
      rw [List.length_map, List.zip_map_right]
      rfl
    rw [show (fun (x : Nat × Operand) => match x with | (i, x) => (i, a.eval x)) = fun (x : Nat × Operand) => (x.1, a.eval x.2) from rfl, e1, hf]
    simp
  have hrun : (Instr.buildSlice t Xs.length (parts.map fun (i, x) => (i, a.eval x))).run P w = .ok (.slice (some ⟨w.heap.size, 0, none⟩) Xs.length Xs.length) (w.alloc (.cells (Xs.map a.eval).toArray el)) := by
    rcases Nat.eq_zero_or_pos Xs.length with h0 | h0
    · have hX : Xs = [] := List.eq_nil_of_length_eq_zero h0
      subst hX
      have hpe : parts = #[] := by
        apply Array.toList_inj.1
        rw [hp]; rfl
      subst hpe
      have hr0 : (Array.range 0) = (#[] : Array Nat) := rfl
      simp [Instr.buildSlice, run_underlying hu.h, sizeOf, typeInfo, hi1, newRow, Instr.fill, hr0]
    · have := run_buildSlice (P := P) w t el Xs.length (parts.map fun (i, x) => (i, a.eval x)) (Xs.map a.eval).toArray i z hu.h hi1 hz1 (by rw [hs1]; omega) (by rw [hs1]; omega) (by rw [hs1]; exact hfill z.cells)
      exact this
  refine ⟨w.heap.size, _, _, by simp only [execOp, Sem.run_bind, hrun, Result.andThen_ok]; rfl, ev_raw _, Ext.alloc _ _, Nat.le_refl _, ?_⟩
  have ho := ext_alloc_own (w := w) (T := el) (xs := xs) (cs := (Xs.map a.eval).toArray) (fun k x hk => by
    obtain ⟨u, hu', hr⟩ := hrl.get hk
    exact ⟨u, by simpa using hu', isOne_ev (List.all_eq_true.1 h1 _ (List.mem_of_getElem? hk)) hr⟩)
  have hsz : (Xs.map a.eval).toArray.size = Xs.length := by simp
  rw [hsz] at ho
  exact ho

theorem rs_litP {d : Tmp} {t el : TypeId} {z : Value} {b n : Nat} {parts : Array (Nat × Operand)} {xs : List AV} [hu : TyU P t (.slice el)] [hi : TyI P el z 1 b] (hd : Nat.blt d N = true)
    (hx : evL e (parts.toList.map (·.2)) = some xs) (hp : parts.toList = (List.range' 0 (parts.toList.map (·.2)).length).zip (parts.toList.map (·.2))) (hn : n = (parts.toList.map (·.2)).length) (h1 : xs.all isOne = true) (hb : Nat.ble n 1000 = true)
    (hk : ∀ g, RS P N ops l ((d, .raw (.slice (some ⟨g, 0, none⟩) n n)) :: e) (StR R w0 gs (⟨g, el, xs, n⟩ :: H)) Q) :
    RS P N ops (⟨some d, .buildSlice t n parts, ty, pos, after, none⟩ :: l) e (StR R w0 gs H) Q := rs_litO hd hp hn hx h1 hb hk

theorem zco {t el : TypeId} {z : Value} {b n : Nat} {parts : Array (Nat × Operand)} {xs : List AV} [hu : TyU P t (.slice el)] [hi : TyI P el z 1 b]
    (hx : evL e (parts.toList.map (·.2)) = some xs) (hp : parts.toList = (List.range' 0 (parts.toList.map (·.2)).length).zip (parts.toList.map (·.2))) (hn : n = (parts.toList.map (·.2)).length) (h1 : xs.all isOne = true) (h0 : Nat.blt 0 n = true) (hb : Nat.ble n 1000 = true) :
    OpJ P S e ⟨dst, .buildSlice t n parts, ty, pos, after, guard⟩ (AV.lit xs) := opj_lit hp hn hx h1 h0 hb

/-- 'append' of such elements to a list of the call's own. -/
theorem rs_append (k : Nat) {d : Tmp} {A B : Operand} {g n cap : Nat} {xs ys : List AV} {t el : TypeId} {z : Value} {b : Nat} [hu : TyU P t (.slice el)] [hi : TyI P el z 1 b] (hd : Nat.blt d N = true)
    (hA : e.ev A = some (.raw (.slice (some ⟨g, 0, none⟩) n cap))) (hB : ∃ y, e.ev B = some y ∧ ∀ w v, StR R w0 gs H w → Rel w y v → Rd w 1 v ys) (hH : H[k]? = some ⟨g, el, xs, cap⟩) (hn : xs.length = n ∧ n ≤ cap ∧ cap ≤ maxLen)
    (h0 : 1 ≤ ys.length) (h1 : ys.all isOne = true) (hm : n + ys.length ≤ maxLen) (hby : (n + ys.length) * b ≤ 140737488355328) (hzc : z.cells.size = 1)
    (hk : ∀ g' cap', n + ys.length ≤ cap' → cap' ≤ maxLen → RS P N ops l ((d, .raw (.slice (some ⟨g', 0, none⟩) (n + ys.length) cap')) :: e.keep) (StR R w0 gs (H.set k ⟨g', el, xs ++ ys, cap'⟩)) Q) :
    RS P N ops (⟨some d, .call { callee := .builtin .append, args := #[A, B], argTypes := #[t, t] }, ty, pos, after, none⟩ :: l) e (StR R w0 gs H) Q := by
  intro a w hS hF
  refine wpList_plain rfl fun K hK => ?_
  have hA' := (hF.eval hA).inv_raw
  obtain ⟨y, hy, hrd⟩ := hB
  obtain ⟨ad, m, c, hB', hl, _, _, hcells⟩ := hrd w _ hS (hF.eval hy)
  rw [Nat.mul_one] at hl
  obtain ⟨bb, had, hsp, _⟩ := hcells 0 _ (List.getElem?_eq_getElem (by omega))
  subst had
  obtain ⟨i, hi1, hz1, hs1, hb1⟩ := hi.h
  have hmem : (⟨g, el, xs, cap⟩ : Ent) ∈ H := List.mem_of_getElem? hH
  obtain ⟨cur, hcur, hcsz, hcx⟩ := (hS.own _ hmem).2
  obtain ⟨hxn, hnc, hcm⟩ := hn
  have hown : w.ownsRow 0 el 1 (.slice (some ⟨g, 0, none⟩) n cap) n (cur.toList.take n) := by
    refine ⟨by simp only [List.length_take, Array.length_toList, hcsz]; omega, .inr ⟨g, cap, cur, rfl, Nat.zero_le _, hcur, hnc, hcm, by simpa using hcsz, by simp⟩⟩
  -- what is to be appended
  have hnews : ∃ news : List Value, news.length = ys.length ∧ ∀ (j : Nat) (u : Value), news[j]? = some u → w.cell? (bb.add j) = some u ∧ ∃ y, ys[j]? = some y ∧ isOne y = true ∧ Ev y u := by
    have hex : ∀ k, k ≤ ys.length → ∃ news : List Value, news.length = k ∧ ∀ (j : Nat) (u : Value), news[j]? = some u → w.cell? (bb.add j) = some u ∧ ∃ y, ys[j]? = some y ∧ isOne y = true ∧ Ev y u := by
      intro k
      induction k with
      | zero => intro _; exact ⟨[], rfl, fun j u h => by simp at h⟩
      | succ k ih =>
        intro hk
        obtain ⟨news, hln, hall⟩ := ih (by omega)
        have hy' : ys[k]? = some (ys[k]'(by omega)) := List.getElem?_eq_getElem (by omega)
        obtain ⟨b', hb', hsp', u, hu', hev⟩ := hcells k _ hy'
        cases hb'
        refine ⟨news ++ [u], by simp [hln], fun j v hj => ?_⟩
        rcases Nat.lt_or_ge j k with h | h
        · rw [List.getElem?_append_left (by omega)] at hj; exact hall j v hj
        · have hjk : j = k := by
            have := (List.getElem?_eq_some_iff.1 hj).1
            simp only [List.length_append, hln, List.length_cons, List.length_nil] at this
            omega
          subst hjk
          rw [List.getElem?_append_right (by omega), hln, Nat.sub_self] at hj
          cases hj
          exact ⟨by rw [addr_add bb hsp]; exact hu', _, hy', List.all_eq_true.1 h1 _ (List.getElem_mem _), hev⟩
    exact hex _ (Nat.le_refl _)
  obtain ⟨news, hln, hnw⟩ := hnews
  have hone : ∀ u ∈ news, u.oneCell' = true := fun u hu => by
    obtain ⟨j, hj⟩ := List.mem_iff_getElem?.1 hu
    obtain ⟨_, y, _, hy1, hev⟩ := hnw j u hj
    exact (oneAV_spec hy1 (hev w)).2.1
  obtain ⟨g', cap', w', hr, hown', hgrow, hat, hlt⟩ := run_append_lies (P := P) w t ty 0 el i z 1 b hu.h hi1 hz1 hs1 hb1 hzc (by omega) (.slice (some ⟨g, 0, none⟩) n cap) n (cur.toList.take n) hown
    bb m c news (by omega) (fun j u hj => (hnw j u hj).1) hone (by omega) (by omega) (by rw [← hl]; exact hby) (Nat.zero_le _) _ rfl
  obtain ⟨hlx, hown'⟩ := hown'
  obtain ⟨g2, cap2, cur2, he2, _, hh2, hnc2, hcm2, hcs2, htk⟩ : ∃ g cap, ∃ X : Array Value, Value.slice (some ⟨g', 0, none⟩) (n + m) cap' = .slice (some ⟨g, 0, none⟩) (n + m) cap ∧ 0 ≤ g ∧ w'.heap[g]? = some (.cells X el (0, 0)) ∧ n + m ≤ cap ∧ cap ≤ maxLen ∧ X.size = cap * 1 ∧ X.toList.take ((n + m) * 1) = X.toList.take ((n + m) * 1) ∧ X.toList.take ((n + m) * 1) = cur.toList.take n ++ news := by
    rcases hown' with ⟨h, _⟩ | ⟨g, cap, cur, h1, h2, h3, h4, h5, h6, h7⟩
    · cases h
    · exact ⟨g, cap, cur, h1, h2, h3, h4, h5, h6, rfl, h7⟩
  obtain ⟨_, htk⟩ := htk
  cases he2
  have hmy : m = ys.length := hl.symm
  subst hmy
  have hmod : Mod w w' [g] := ⟨hgrow.os, hgrow.tape, hgrow.output, hgrow.size, fun k hk hne => hgrow.block k hk (by simp [Value.ownBlock]; simpa using hne)⟩
  have ho' : OwnE w' ⟨g', el, xs ++ ys, cap'⟩ := by
    refine ⟨cur2, hh2, by simpa using hcs2, fun j x hj => ?_⟩
    have htj : ∀ v, (cur.toList.take n ++ news)[j]? = some v → cur2[j]? = some v := fun v hv => by
      rw [← htk, List.getElem?_take] at hv
      split at hv
      · simpa using hv
      · cases hv
    have hlt' : (cur.toList.take n).length = n := by simp only [List.length_take, Array.length_toList, hcsz]; omega
    rcases Nat.lt_or_ge j n with h | h
    · rw [List.getElem?_append_left (by omega)] at hj
      obtain ⟨u, hu', hev⟩ := hcx j x hj
      refine ⟨u, htj u ?_, hev⟩
      rw [List.getElem?_append_left (by omega), List.getElem?_take, if_pos h]
      simpa using hu'
    · rw [List.getElem?_append_right (by omega), hxn] at hj
      have hj' : j - n < news.length := by rw [hln]; exact (List.getElem?_eq_some_iff.1 hj).1
      obtain ⟨_, y, hy', _, hev⟩ := hnw (j - n) _ (List.getElem?_eq_getElem hj')
      rw [hj] at hy'
      cases hy'
      refine ⟨_, htj _ ?_, hev⟩
      rw [List.getElem?_append_right (by omega), hlt', List.getElem?_eq_getElem hj']
  unfold Oper.wp
  have hrun : (execOp a.eval ⟨some d, .call { callee := .builtin .append, args := #[A, B], argTypes := #[t, t] }, ty, pos, after, none⟩).run P w = .ok (.value (.slice (some ⟨g', 0, none⟩) (n + ys.length) cap')) w' := by
    simp only [execOp, resolve, invoke, builtin, Sem.run_bind, Sem.run_pure, Result.andThen_ok, List.map_toArray, List.map_cons, List.map_nil, hA', hB', hr]
  rw [hrun]
  refine hK _ _ (hk g' cap' hnc2 hcm2 _ w' (hS.updAt hH hmod ?_ ho') (Fr.put (some d) hF.keep (fun _ h => by cases h; exact Nat.le_of_ble_eq_true hd) .raw))
  rcases hat with h | h
  · left
    have : g = g' := by simpa [Value.ownBlock] using h
    exact this.symm
  · right; simp only; omega
/-- 'append' of one float to a table of the call's own. -/
theorem rs_appendT (k : Nat) (f' : Int → FV) {d : Tmp} {A B : Operand} {g n cap : Nat} {f : Int → FV} {x : FV} {t el : TypeId} {z : Value} {b : Nat} [hu : TyU P t (.slice el)] [hi : TyI P el z 1 b] (hd : Nat.blt d N = true)
    (hA : e.ev A = some (.raw (.slice (some ⟨g, 0, none⟩) n cap))) (hB : e.ev B = some (AV.lit [.f .f32 x])) (hH : H[k]? = some (entF g el n f cap)) (hn : n ≤ cap ∧ cap ≤ maxLen)
    (hm : n < 2 ^ 40) (hby : Nat.ble b 64 = true) (hzc : z.cells.size = 1) (hf : f' n = x) (hf' : ∀ s : Int, 0 ≤ s → s < n → f' s = f s)
    (hk : ∀ g' cap', n + 1 ≤ cap' → cap' ≤ maxLen → RS P N ops l ((d, .raw (.slice (some ⟨g', 0, none⟩) (n + 1) cap')) :: e.keep) (StR R w0 gs (H.set k (entF g' el (n + 1) f' cap'))) Q) :
    RS P N ops (⟨some d, .call { callee := .builtin .append, args := #[A, B], argTypes := #[t, t] }, ty, pos, after, none⟩ :: l) e (StR R w0 gs H) Q := by
  have hb := Nat.le_of_ble_eq_true hby
  refine rs_append k (ys := [.f .f32 x]) hd hA ⟨_, hB, fun w v _ h => h.inv_p.2⟩ hH ⟨by simp [tab_length], hn.1, hn.2⟩ (by simp) rfl (by simp only [maxLen, List.length_cons, List.length_nil]; omega)
    (Nat.le_trans (Nat.mul_le_mul (show n + ([AV.f .f32 x] : List AV).length ≤ 2 ^ 40 from by simp only [List.length_cons, List.length_nil]; omega) hb) (by decide)) hzc fun g' cap' h1 h2 => ?_
  have : ((tab n f).map (AV.f .f32) ++ [.f .f32 x] : List AV) = (tab (n + 1) f').map (AV.f .f32) := by
    rw [← tab_snoc hf hf', List.map_append]; rfl
  rw [this]
  exact hk g' cap' h1 h2
/-- Tables that came in. -/
theorem zbo {R0 : World → Prop} {n : Nat} {f : Int → FV} {X : Operand} {t t2 : TypeId} {b : Nat} {z : Value} {el : TypeId} [hu : TyU P t (.slice el)] [hi : TyI P el z 1 b] (hx : e.ev X = some (AV.sl w0 1 ((tab n f).map (AV.f .f32)))) :
    OpJ P (StR R0 w0 [] H) e ⟨dst, .call { callee := .builtin .len, args := #[X], argTypes := #[t] }, t2, pos, after, guard⟩ (.raw (.int .i64 (n : Int))) := by
  have h := zbm (P := P) (R0 := R0) (H := H) (dst := dst) (pos := pos) (after := after) (guard := guard) (t2 := t2) (hu := hu) (hi := hi) hx
  rw [tab_length] at h
  exact h
theorem zbs {R0 : World → Prop} {n : Nat} {f : Int → FV} {X I : Operand} {i : Int} {t : TypeId} {b : Nat} {z : Value} {el : TypeId} [hu : TyU P t (.slice el)] [hi : TyI P el z 1 b]
    (hx : e.ev X = some (AV.sl w0 1 ((tab n f).map (AV.f .f32)))) (hI : e.ev I = some (.raw (.int .i64 i))) (h0 : 0 ≤ i) (hlt : i < (n : Int)) :
    OpJ P (StR R0 w0 [] H) e ⟨dst, .indexAddr t X I, ty, pos, after, guard⟩ (AV.ptr [.f .f32 (f i)]) := by
  have h := zbv (P := P) (R0 := R0) (H := H) (dst := dst) (ty := ty) (pos := pos) (after := after) (guard := guard) (hu := hu) (hi := hi) hx hI h0 (by rw [tab_length]; exact hlt)
  have hg : (tab n f).getD i.toNat default = f i := at_tab h0 hlt
  rw [hg] at h
  exact h
/-- A call that turns the owned block at some place. -/
theorem rs_callAt (k : Nat) {X : Type} {A : World → List AV} {mk : X → AV} {good : X → Prop} {c : FuncId} {xs : List Operand} {F : Operand} {args : List AV} {d : Tmp} {ts : Array TypeId} [hb : HasBody P c] {en : Ent} {en' : X → Ent}
    (hc : FnH P c A [en] mk (fun y => [en' y]) good) (hH : H[k]? = some en) (hF : e.ev F = some (.raw (.func (.func c) #[] #[]))) (hx : evL e xs = some args) (ht : Takes (StR R w0 gs H) args A) (hd : Nat.blt d N = true)
    (h : ∀ y, good y → RS P N ops l ((d, mk y) :: e.keep) (StR R w0 gs (H.set k (en' y))) Q) :
    RS P N ops (⟨some d, .call { callee := .value F, args := xs.toArray, argTypes := ts }, ty, pos, after, none⟩ :: l) e (StR R w0 gs H) Q := by
  obtain ⟨hlt, hen⟩ := List.getElem?_eq_some_iff.1 hH
  have hp : (en :: H.eraseIdx k).Perm H := by
    have := erase_perm hlt
    rw [hen] at this
    exact this
  refine RS.perm (rs_call (pre := [en]) (H := H.eraseIdx k) hc hF hx (fun w vs hS hr => ht w vs (hS.perm hp.symm) hr) hd fun y hy => ?_) hp
  refine RS.perm (h y hy) ?_
  have hlt' : k < (H.set k (en' y)).length := by simpa using hlt
  have hp' := erase_perm hlt'
  rw [List.getElem_set_self, List.eraseIdx_set_eq] at hp'
  exact hp'.symm
/-! Marks by which a goal's kind is told. -/
theorem zae {t : TypeId} {X : Operand} (h : RS P N ops (⟨dst, .load t X, ty, pos, after, guard⟩ :: l) e S Q) : RS P N ops (⟨dst, .load t X, ty, pos, after, guard⟩ :: l) e S Q := h
theorem zaf {t : TypeId} {X I : Operand} (h : RS P N ops (⟨dst, .indexAddr t X I, ty, pos, after, guard⟩ :: l) e S Q) : RS P N ops (⟨dst, .indexAddr t X I, ty, pos, after, guard⟩ :: l) e S Q := h
theorem zag {t : TypeId} {X Y : Operand} (h : RS P N ops (⟨dst, .store t X Y, ty, pos, after, guard⟩ :: l) e S Q) : RS P N ops (⟨dst, .store t X Y, ty, pos, after, guard⟩ :: l) e S Q := h
theorem zat {K : Env → Prop} {t : TypeId} {X : Operand} (h : Run1 P N S ops (⟨dst, .load t X, ty, pos, after, guard⟩ :: l) e K) : Run1 P N S ops (⟨dst, .load t X, ty, pos, after, guard⟩ :: l) e K := h
theorem zau {K : Env → Prop} {t : TypeId} {X I : Operand} (h : Run1 P N S ops (⟨dst, .indexAddr t X I, ty, pos, after, guard⟩ :: l) e K) : Run1 P N S ops (⟨dst, .indexAddr t X I, ty, pos, after, guard⟩ :: l) e K := h
theorem Takes.ownE {R0 : World → Prop} {g n cap sz : Nat} {xs : List AV} {args : List AV} {A : World → List AV} (hm : ∃ T c, (⟨g, T, xs, c⟩ : Ent) ∈ H) (hn : xs.length = n * sz) (hc : n ≤ cap) (hx : cap ≤ maxLen) (h : Takes (StR R0 w0 gs H) args A) :
    Takes (StR R0 w0 gs H) (.raw (.slice (some ⟨g, 0, none⟩) n cap) :: args) (fun w => AV.sl w sz xs :: A w) := by
  obtain ⟨T, c, hm⟩ := hm
  exact Takes.own hm hn hc hx h
end
end Go.Ab
