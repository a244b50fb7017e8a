/- Part 2 of the texts on which the law leans, joined: Powers of two and the values of data, as rational numbers; how far a number is from the word nearest to it. No conditions. -/
import Derived.Deep.AppendLies
import Derived.Test.YtjjhppoidopflaaProg
import Derived.KernelRfl
import Derived.Test.YtjjhppoidopflaaZaa
namespace Go.Ab
variable {R : World → Prop} [RStab R]
def tab (n : Nat) (f : Int → FV) : List FV := (List.range n).map fun (i : Nat) => f i
def at_ (L : List FV) (i : Int) : FV := L.getD i.toNat default
@[simp] theorem tab_length (n : Nat) (f : Int → FV) : (tab n f).length = n := by simp [tab]
theorem tab_get {n : Nat} (f : Int → FV) {i : Nat} (h : i < n) : (tab n f)[i]? = some (f i) := by simp [tab, h]
theorem tab_ext {L : List FV} {n : Nat} {f : Int → FV} (hl : L.length = n) (h : ∀ i : Nat, i < n → L[i]? = some (f i)) : L = tab n f := by
  apply List.ext_getElem?
  intro i
  rcases Nat.lt_or_ge i n with hi | hi
  · rw [h i hi, tab_get f hi]
  · rw [List.getElem?_eq_none (by omega), List.getElem?_eq_none (by rw [tab_length]; exact hi)]
theorem tab_congr {n : Nat} {f g : Int → FV} (h : ∀ i : Int, 0 ≤ i → i < n → f i = g i) : tab n f = tab n g :=
  tab_ext (tab_length n f) fun i hi => by rw [tab_get f hi, h i (by omega) (by omega)]
theorem tab_rep (n : Nat) (x : FV) : List.replicate n x = tab n fun _ => x := tab_ext (by simp) fun i hi => by simp [hi]
theorem tab_snoc {n : Nat} {f g : Int → FV} {x : FV} (hx : g n = x) (hg : ∀ t : Int, 0 ≤ t → t < n → g t = f t) : tab n f ++ [x] = tab (n + 1) g :=
  tab_ext (by simp [tab_length]) fun t ht => by
    rcases Nat.lt_or_ge t n with h | h
    · rw [List.getElem?_append_left (by rw [tab_length]; exact h), tab_get f h, hg t (by omega) (by omega)]
    · have : t = n := by omega
      subst this
      rw [List.getElem?_append_right (by rw [tab_length]; exact h), tab_length, Nat.sub_self, hx]
      rfl
theorem at_tab {n : Nat} {f : Int → FV} {i : Int} (h0 : 0 ≤ i) (h : i < n) : at_ (tab n f) i = f i := by
  have hi : i.toNat < n := by omega
  have he : ((i.toNat : Nat) : Int) = i := by omega
  have hg : (tab n f)[i.toNat]? = some (f i) := by rw [tab_get f hi, he]
  simp [at_, List.getD, hg]
/-- A table in a block of its own. -/
abbrev entF (g : Nat) (T : TypeId) (n : Nat) (f : Int → FV) (c : Nat) : Ent := ⟨g, T, (tab n f).map (AV.f .f32), c⟩

theorem erase_perm {α : Type} : ∀ {l : List α} {i : Nat} (h : i < l.length), (l[i] :: l.eraseIdx i).Perm l
  | a :: l, 0, _ => List.Perm.refl _
  | a :: l, i + 1, h => (List.Perm.swap a (l[i]'(by simpa using h)) (l.eraseIdx i)).trans ((erase_perm (l := l) (i := i) (by simpa using h)).cons a)
/-- The block at some place has turned, no other. -/
theorem StR.updAt {w0 w w' : World} {gs : List Nat} {H : List Ent} {i : Nat} {e e' : Ent} (h : StR R w0 gs H w) (hi : H[i]? = some e) (hw : Mod w w' [e.g]) (hg : e'.g = e.g ∨ w.heap.size ≤ e'.g) (ho : OwnE w' e') : StR R w0 gs (H.set i e') w' := by
  obtain ⟨hlt, rfl⟩ := List.getElem?_eq_some_iff.1 hi
  have hp : (H[i] :: H.eraseIdx i).Perm H := erase_perm hlt
  have h1 : StR R w0 gs ([H[i]] ++ H.eraseIdx i) w := h.perm hp
  have h2 : StR R w0 gs ([e'] ++ H.eraseIdx i) w' := h1.call hw (fun x hx => by
    have : x = e' := by simpa using hx
    subst this
    exact ⟨ho, by rcases hg with hg | hg; exact .inl (by simp [hg]); exact .inr hg⟩) (by simp)
  refine h2.perm ?_
  have hlt' : i < (H.set i e').length := by simpa using hlt
  have hp' : ((H.set i e')[i] :: (H.set i e').eraseIdx i).Perm (H.set i e') := erase_perm hlt'
  rw [List.getElem_set_self, List.eraseIdx_set_eq] at hp'
  exact hp'.symm

section
variable {P : Program} {N : Nat} {S : World → Prop} {e : Env} {Q : Exit → Env → World → Prop} {ops : Array Oper} {l : List Oper} {o : Oper}
variable {w0 : World} {gs : List Nat} {H : List Ent} {dst : Option Tmp} {ty : TypeId} {pos : String} {after : Array Edge} {guard : Option (Nat × Bool)}
/-- A cell of a table. -/
theorem zbt {R0 : World → Prop} {X : Operand} {g n c : Nat} {i : Int} {f : Int → FV} {T : TypeId} {t : TypeId} {d : TypeDesc} [hd : TyU P t d] (ha : aggD d = false)
    (hx : e.ev X = some (.raw (.pointer (some ⟨g, i.toNat * 1, none⟩)))) (hm : entF g T n f c ∈ H) (h0 : 0 ≤ i ∧ i < n) : OpJ P (StR R0 w0 gs H) e ⟨dst, .load t X, ty, pos, after, guard⟩ (.f .f32 (f i)) := by
  refine opj_load_own (en := entF g T n f c) ha hx hm ?_
  have hi : i.toNat < n := by omega
  have he : ((i.toNat : Nat) : Int) = i := by omega
  rw [Nat.mul_one, List.getElem?_map, tab_get f hi, he]
  rfl

theorem rs_storeAt (k : Nat) {en : Ent} {i : Nat} {t : TypeId} {z : Value} {b : Nat} [hi : TyI P t z 1 b] {A X : Operand} {x : AV} (hA : e.ev A = some (.raw (.pointer (some ⟨en.g, i, none⟩)))) (hx : e.ev X = some x) (h1 : oneAV x = true) (hH : H[k]? = some en) (hi' : i < en.csz)
    (hk : RS P N ops l e.keep (StR R w0 gs (H.set k { en with xs := en.xs.set i x })) Q) :
    RS P N ops (⟨none, .store t A X, ty, pos, after, none⟩ :: l) e (StR R w0 gs H) Q := by
  intro a w hS hF
  refine wpList_plain rfl fun K hK => ?_
  have h2 := (hF.eval hA).inv_raw
  have hr := hF.eval hx
  obtain ⟨hc, ho, hst⟩ := oneAV_spec h1 hr
  have hmem : en ∈ H := List.mem_of_getElem? hH
  have hown := (hS.own en hmem).2
  obtain ⟨cur, hb, hcs, _⟩ := hown
  have hcell : w.cell? ⟨en.g, i, none⟩ = some (cur[i]'(by omega)) := by simp [World.cell?, hb, hcs, hi']
  have hfr := OwnE.frozen (hS.own en hmem).2 i
  have hrun : (execOp a.eval ⟨none, .store t A X, ty, pos, after, none⟩).run P w = .ok .skip (w.setCell ⟨en.g, i, none⟩ (a.eval X)) := by
    have hst : (store ⟨en.g, i, none⟩ (a.eval X)).run P w = .ok () (w.setCell ⟨en.g, i, none⟩ (a.eval X)) := by
      rw [run_store P w _ _ _ ho, hcell]; simp [hfr]
    have hadd : (⟨en.g, i, none⟩ : Addr).add 0 = ⟨en.g, i, none⟩ := rfl
    simp [execOp, h2, Instr.storeAt, Instr.sureAddr, storeVar, run_size hi, hc, storeCells, hadd, hst]
  unfold Oper.wp
  rw [hrun]
  exact hK _ _ (hk _ _ (hS.updAt hH (mod_setCell w en.g i _) (.inl rfl) (own_setCell (hS.own en hmem).2 hi' (hr.ev hst))) hF.keep)
/-- A literal of one-cell elements in a block of its own. -/
theorem rs_litO {d : Tmp} {t el : TypeId} {z : Value} {b n : Nat} {parts : Array (Nat × Operand)} {Xs : List Operand} {xs : List AV} [hu : TyU P t (.slice el)] [hi : TyI P el z 1 b] (hd : Nat.blt d N = true)
    (hp : parts.toList = (List.range' 0 Xs.length).zip Xs) (hn : n = Xs.length) (hx : evL e Xs = some xs) (h1 : xs.all isOne = true) (hb : Nat.ble n 1000 = true)
    (hk : ∀ g, RS P N ops l ((d, .raw (.slice (some ⟨g, 0, none⟩) n n)) :: e) (StR R w0 gs (⟨g, el, xs, n⟩ :: H)) Q) :
    RS P N ops (⟨some d, .buildSlice t n parts, ty, pos, after, none⟩ :: l) e (StR R w0 gs H) Q := by
  refine rs_fresh (val := fun g => .raw (.slice (some ⟨g, 0, none⟩) n n)) (en := fun g => ⟨g, el, xs, n⟩) hd (fun _ => rfl) (fun a w hS hF => ?_) hk
  subst hn
  have hb' := Nat.le_of_ble_eq_true hb
  obtain ⟨i, hi1, hz1, hs1, hb1⟩ := hi.h
  have hrl : RelL w xs (Xs.map a.eval) := evL_rel hx fun X _ y hy => hF.eval hy
  have hlen : (Xs.map a.eval).length = xs.length := hrl.length
  have hlx : xs.length = Xs.length := by simpa using hlen.symm
  have hcells : ∀ v ∈ Xs.map a.eval, v.cells = #[v] := fun v hv => by
    obtain ⟨k, hk, rfl⟩ := List.mem_iff_getElem.1 hv
    obtain ⟨u, hu', hr⟩ := hrl.get (i := k) (a := xs[k]'(by omega)) (by simp)
    rw [List.getElem?_eq_getElem hk] at hu'
    cases hu'
    exact isOne_cells (List.all_eq_true.1 h1 _ (List.getElem_mem _)) hr
  have hfill : ∀ zc : Array Value, Instr.fill (fun i => some (i * 1, 1)) ((Array.range (Xs.length * 1)).map (zc[· % zc.size]!)) (parts.map fun (i, x) => (i, a.eval x)).toList = some (Xs.map a.eval).toArray := fun zc => by
    rw [Array.toList_map, hp]
    have hf := fill_row (Xs.map a.eval) 0 ((Array.range (Xs.length * 1)).map (zc[· % zc.size]!)) hcells (by simp)
    have e1 : ((List.range' 0 Xs.length).zip Xs).map (fun (x : Nat × Operand) => (x.1, a.eval x.2)) = (List.range' 0 (Xs.map a.eval).length).zip (Xs.map a.eval) := by
      rw [List.length_map, List.zip_map_right]
      rfl
    rw [show (fun (x : Nat × Operand) => match x with | (i, x) => (i, a.eval x)) = fun (x : Nat × Operand) => (x.1, a.eval x.2) from rfl, e1, hf]
    simp
  have hrun : (Instr.buildSlice t Xs.length (parts.map fun (i, x) => (i, a.eval x))).run P w = .ok (.slice (some ⟨w.heap.size, 0, none⟩) Xs.length Xs.length) (w.alloc (.cells (Xs.map a.eval).toArray el)) := by
    rcases Nat.eq_zero_or_pos Xs.length with h0 | h0
    · have hX : Xs = [] := List.eq_nil_of_length_eq_zero h0
      subst hX
      have hpe : parts = #[] := by
        apply Array.toList_inj.1
        rw [hp]; rfl
      subst hpe
      have hr0 : (Array.range 0) = (#[] : Array Nat) := rfl
      simp [Instr.buildSlice, run_underlying hu.h, sizeOf, typeInfo, hi1, newRow, Instr.fill, hr0]
    · have := run_buildSlice (P := P) w t el Xs.length (parts.map fun (i, x) => (i, a.eval x)) (Xs.map a.eval).toArray i z hu.h hi1 hz1 (by rw [hs1]; omega) (by rw [hs1]; omega) (by rw [hs1]; exact hfill z.cells)
      exact this
  refine ⟨w.heap.size, _, _, by simp only [execOp, Sem.run_bind, hrun, Result.andThen_ok]; rfl, ev_raw _, Ext.alloc _ _, Nat.le_refl _, ?_⟩
  have ho := ext_alloc_own (w := w) (T := el) (xs := xs) (cs := (Xs.map a.eval).toArray) (fun k x hk => by
    obtain ⟨u, hu', hr⟩ := hrl.get hk
    exact ⟨u, by simpa using hu', isOne_ev (List.all_eq_true.1 h1 _ (List.mem_of_getElem? hk)) hr⟩)
  have hsz : (Xs.map a.eval).toArray.size = Xs.length := by simp
  rw [hsz] at ho
  exact ho

theorem rs_litP {d : Tmp} {t el : TypeId} {z : Value} {b n : Nat} {parts : Array (Nat × Operand)} {xs : List AV} [hu : TyU P t (.slice el)] [hi : TyI P el z 1 b] (hd : Nat.blt d N = true)
    (hx : evL e (parts.toList.map (·.2)) = some xs) (hp : parts.toList = (List.range' 0 (parts.toList.map (·.2)).length).zip (parts.toList.map (·.2))) (hn : n = (parts.toList.map (·.2)).length) (h1 : xs.all isOne = true) (hb : Nat.ble n 1000 = true)
    (hk : ∀ g, RS P N ops l ((d, .raw (.slice (some ⟨g, 0, none⟩) n n)) :: e) (StR R w0 gs (⟨g, el, xs, n⟩ :: H)) Q) :
    RS P N ops (⟨some d, .buildSlice t n parts, ty, pos, after, none⟩ :: l) e (StR R w0 gs H) Q := rs_litO hd hp hn hx h1 hb hk

theorem zco {t el : TypeId} {z : Value} {b n : Nat} {parts : Array (Nat × Operand)} {xs : List AV} [hu : TyU P t (.slice el)] [hi : TyI P el z 1 b]
    (hx : evL e (parts.toList.map (·.2)) = some xs) (hp : parts.toList = (List.range' 0 (parts.toList.map (·.2)).length).zip (parts.toList.map (·.2))) (hn : n = (parts.toList.map (·.2)).length) (h1 : xs.all isOne = true) (h0 : Nat.blt 0 n = true) (hb : Nat.ble n 1000 = true) :
    OpJ P S e ⟨dst, .buildSlice t n parts, ty, pos, after, guard⟩ (AV.lit xs) := opj_lit hp hn hx h1 h0 hb

/-- 'append' of such elements to a list of the call's own. -/
theorem rs_append (k : Nat) {d : Tmp} {A B : Operand} {g n cap : Nat} {xs ys : List AV} {t el : TypeId} {z : Value} {b : Nat} [hu : TyU P t (.slice el)] [hi : TyI P el z 1 b] (hd : Nat.blt d N = true)
    (hA : e.ev A = some (.raw (.slice (some ⟨g, 0, none⟩) n cap))) (hB : ∃ y, e.ev B = some y ∧ ∀ w v, StR R w0 gs H w → Rel w y v → Rd w 1 v ys) (hH : H[k]? = some ⟨g, el, xs, cap⟩) (hn : xs.length = n ∧ n ≤ cap ∧ cap ≤ maxLen)
    (h0 : 1 ≤ ys.length) (h1 : ys.all isOne = true) (hm : n + ys.length ≤ maxLen) (hby : (n + ys.length) * b ≤ 140737488355328) (hzc : z.cells.size = 1)
    (hk : ∀ g' cap', n + ys.length ≤ cap' → cap' ≤ maxLen → RS P N ops l ((d, .raw (.slice (some ⟨g', 0, none⟩) (n + ys.length) cap')) :: e.keep) (StR R w0 gs (H.set k ⟨g', el, xs ++ ys, cap'⟩)) Q) :
    RS P N ops (⟨some d, .call { callee := .builtin .append, args := #[A, B], argTypes := #[t, t] }, ty, pos, after, none⟩ :: l) e (StR R w0 gs H) Q := by
  intro a w hS hF
  refine wpList_plain rfl fun K hK => ?_
  have hA' := (hF.eval hA).inv_raw
  obtain ⟨y, hy, hrd⟩ := hB
  obtain ⟨ad, m, c, hB', hl, _, _, hcells⟩ := hrd w _ hS (hF.eval hy)
  rw [Nat.mul_one] at hl
  obtain ⟨bb, had, hsp, _⟩ := hcells 0 _ (List.getElem?_eq_getElem (by omega))
  subst had
  obtain ⟨i, hi1, hz1, hs1, hb1⟩ := hi.h
  have hmem : (⟨g, el, xs, cap⟩ : Ent) ∈ H := List.mem_of_getElem? hH
  obtain ⟨cur, hcur, hcsz, hcx⟩ := (hS.own _ hmem).2
  obtain ⟨hxn, hnc, hcm⟩ := hn
  have hown : w.ownsRow 0 el 1 (.slice (some ⟨g, 0, none⟩) n cap) n (cur.toList.take n) := by
    refine ⟨by simp only [List.length_take, Array.length_toList, hcsz]; omega, .inr ⟨g, cap, cur, rfl, Nat.zero_le _, hcur, hnc, hcm, by simpa using hcsz, by simp⟩⟩
  -- what is to be appended
  have hnews : ∃ news : List Value, news.length = ys.length ∧ ∀ (j : Nat) (u : Value), news[j]? = some u → w.cell? (bb.add j) = some u ∧ ∃ y, ys[j]? = some y ∧ isOne y = true ∧ Ev y u := by
    have hex : ∀ k, k ≤ ys.length → ∃ news : List Value, news.length = k ∧ ∀ (j : Nat) (u : Value), news[j]? = some u → w.cell? (bb.add j) = some u ∧ ∃ y, ys[j]? = some y ∧ isOne y = true ∧ Ev y u := by
      intro k
      induction k with
      | zero => intro _; exact ⟨[], rfl, fun j u h => by simp at h⟩
      | succ k ih =>
        intro hk
        obtain ⟨news, hln, hall⟩ := ih (by omega)
        have hy' : ys[k]? = some (ys[k]'(by omega)) := List.getElem?_eq_getElem (by omega)
        obtain ⟨b', hb', hsp', u, hu', hev⟩ := hcells k _ hy'
        cases hb'
        refine ⟨news ++ [u], by simp [hln], fun j v hj => ?_⟩
        rcases Nat.lt_or_ge j k with h | h
        · rw [List.getElem?_append_left (by omega)] at hj; exact hall j v hj
        · have hjk : j = k := by
            have := (List.getElem?_eq_some_iff.1 hj).1
            simp only [List.length_append, hln, List.length_cons, List.length_nil] at this
            omega
          subst hjk
          rw [List.getElem?_append_right (by omega), hln, Nat.sub_self] at hj
          cases hj
          exact ⟨by rw [addr_add bb hsp]; exact hu', _, hy', List.all_eq_true.1 h1 _ (List.getElem_mem _), hev⟩
    exact hex _ (Nat.le_refl _)
  obtain ⟨news, hln, hnw⟩ := hnews
  have hone : ∀ u ∈ news, u.oneCell' = true := fun u hu => by
    obtain ⟨j, hj⟩ := List.mem_iff_getElem?.1 hu
    obtain ⟨_, y, _, hy1, hev⟩ := hnw j u hj
    exact (oneAV_spec hy1 (hev w)).2.1
  obtain ⟨g', cap', w', hr, hown', hgrow, hat, hlt⟩ := run_append_lies (P := P) w t ty 0 el i z 1 b hu.h hi1 hz1 hs1 hb1 hzc (by omega) (.slice (some ⟨g, 0, none⟩) n cap) n (cur.toList.take n) hown
    bb m c news (by omega) (fun j u hj => (hnw j u hj).1) hone (by omega) (by omega) (by rw [← hl]; exact hby) (Nat.zero_le _) _ rfl
  obtain ⟨hlx, hown'⟩ := hown'
  obtain ⟨g2, cap2, cur2, he2, _, hh2, hnc2, hcm2, hcs2, htk⟩ : ∃ g cap, ∃ X : Array Value, Value.slice (some ⟨g', 0, none⟩) (n + m) cap' = .slice (some ⟨g, 0, none⟩) (n + m) cap ∧ 0 ≤ g ∧ w'.heap[g]? = some (.cells X el (0, 0)) ∧ n + m ≤ cap ∧ cap ≤ maxLen ∧ X.size = cap * 1 ∧ X.toList.take ((n + m) * 1) = X.toList.take ((n + m) * 1) ∧ X.toList.take ((n + m) * 1) = cur.toList.take n ++ news := by
    rcases hown' with ⟨h, _⟩ | ⟨g, cap, cur, h1, h2, h3, h4, h5, h6, h7⟩
    · cases h
    · exact ⟨g, cap, cur, h1, h2, h3, h4, h5, h6, rfl, h7⟩
  obtain ⟨_, htk⟩ := htk
  cases he2
  have hmy : m = ys.length := hl.symm
  subst hmy
  have hmod : Mod w w' [g] := ⟨hgrow.os, hgrow.tape, hgrow.output, hgrow.size, fun k hk hne => hgrow.block k hk (by simp [Value.ownBlock]; simpa using hne)⟩
  have ho' : OwnE w' ⟨g', el, xs ++ ys, cap'⟩ := by
    refine ⟨cur2, hh2, by simpa using hcs2, fun j x hj => ?_⟩
    have htj : ∀ v, (cur.toList.take n ++ news)[j]? = some v → cur2[j]? = some v := fun v hv => by
      rw [← htk, List.getElem?_take] at hv
      split at hv
      · simpa using hv
      · cases hv
    have hlt' : (cur.toList.take n).length = n := by simp only [List.length_take, Array.length_toList, hcsz]; omega
    rcases Nat.lt_or_ge j n with h | h
    · rw [List.getElem?_append_left (by omega)] at hj
      obtain ⟨u, hu', hev⟩ := hcx j x hj
      refine ⟨u, htj u ?_, hev⟩
      rw [List.getElem?_append_left (by omega), List.getElem?_take, if_pos h]
      simpa using hu'
    · rw [List.getElem?_append_right (by omega), hxn] at hj
      have hj' : j - n < news.length := by rw [hln]; exact (List.getElem?_eq_some_iff.1 hj).1
      obtain ⟨_, y, hy', _, hev⟩ := hnw (j - n) _ (List.getElem?_eq_getElem hj')
      rw [hj] at hy'
      cases hy'
      refine ⟨_, htj _ ?_, hev⟩
      rw [List.getElem?_append_right (by omega), hlt', List.getElem?_eq_getElem hj']
  unfold Oper.wp
  have hrun : (execOp a.eval ⟨some d, .call { callee := .builtin .append, args := #[A, B], argTypes := #[t, t] }, ty, pos, after, none⟩).run P w = .ok (.value (.slice (some ⟨g', 0, none⟩) (n + ys.length) cap')) w' := by
    simp only [execOp, resolve, invoke, builtin, Sem.run_bind, Sem.run_pure, Result.andThen_ok, List.map_toArray, List.map_cons, List.map_nil, hA', hB', hr]
  rw [hrun]
  refine hK _ _ (hk g' cap' hnc2 hcm2 _ w' (hS.updAt hH hmod ?_ ho') (Fr.put (some d) hF.keep (fun _ h => by cases h; exact Nat.le_of_ble_eq_true hd) .raw))
  rcases hat with h | h
  · left
    have : g = g' := by simpa [Value.ownBlock] using h
    exact this.symm
  · right; simp only; omega
/-- 'append' of one float to a table of the call's own. -/
theorem rs_appendT (k : Nat) (f' : Int → FV) {d : Tmp} {A B : Operand} {g n cap : Nat} {f : Int → FV} {x : FV} {t el : TypeId} {z : Value} {b : Nat} [hu : TyU P t (.slice el)] [hi : TyI P el z 1 b] (hd : Nat.blt d N = true)
    (hA : e.ev A = some (.raw (.slice (some ⟨g, 0, none⟩) n cap))) (hB : e.ev B = some (AV.lit [.f .f32 x])) (hH : H[k]? = some (entF g el n f cap)) (hn : n ≤ cap ∧ cap ≤ maxLen)
    (hm : n < 2 ^ 40) (hby : Nat.ble b 64 = true) (hzc : z.cells.size = 1) (hf : f' n = x) (hf' : ∀ s : Int, 0 ≤ s → s < n → f' s = f s)
    (hk : ∀ g' cap', n + 1 ≤ cap' → cap' ≤ maxLen → RS P N ops l ((d, .raw (.slice (some ⟨g', 0, none⟩) (n + 1) cap')) :: e.keep) (StR R w0 gs (H.set k (entF g' el (n + 1) f' cap'))) Q) :
    RS P N ops (⟨some d, .call { callee := .builtin .append, args := #[A, B], argTypes := #[t, t] }, ty, pos, after, none⟩ :: l) e (StR R w0 gs H) Q := by
  have hb := Nat.le_of_ble_eq_true hby
  refine rs_append k (ys := [.f .f32 x]) hd hA ⟨_, hB, fun w v _ h => h.inv_p.2⟩ hH ⟨by simp [tab_length], hn.1, hn.2⟩ (by simp) rfl (by simp only [maxLen, List.length_cons, List.length_nil]; omega)
    (Nat.le_trans (Nat.mul_le_mul (show n + ([AV.f .f32 x] : List AV).length ≤ 2 ^ 40 from by simp only [List.length_cons, List.length_nil]; omega) hb) (by decide)) hzc fun g' cap' h1 h2 => ?_
  have : ((tab n f).map (AV.f .f32) ++ [.f .f32 x] : List AV) = (tab (n + 1) f').map (AV.f .f32) := by
    rw [← tab_snoc hf hf', List.map_append]; rfl
  rw [this]
  exact hk g' cap' h1 h2
/-- Tables that came in. -/
theorem zbo {R0 : World → Prop} {n : Nat} {f : Int → FV} {X : Operand} {t t2 : TypeId} {b : Nat} {z : Value} {el : TypeId} [hu : TyU P t (.slice el)] [hi : TyI P el z 1 b] (hx : e.ev X = some (AV.sl w0 1 ((tab n f).map (AV.f .f32)))) :
    OpJ P (StR R0 w0 [] H) e ⟨dst, .call { callee := .builtin .len, args := #[X], argTypes := #[t] }, t2, pos, after, guard⟩ (.raw (.int .i64 (n : Int))) := by
  have h := zbm (P := P) (R0 := R0) (H := H) (dst := dst) (pos := pos) (after := after) (guard := guard) (t2 := t2) (hu := hu) (hi := hi) hx
  rw [tab_length] at h
  exact h
theorem zbs {R0 : World → Prop} {n : Nat} {f : Int → FV} {X I : Operand} {i : Int} {t : TypeId} {b : Nat} {z : Value} {el : TypeId} [hu : TyU P t (.slice el)] [hi : TyI P el z 1 b]
    (hx : e.ev X = some (AV.sl w0 1 ((tab n f).map (AV.f .f32)))) (hI : e.ev I = some (.raw (.int .i64 i))) (h0 : 0 ≤ i) (hlt : i < (n : Int)) :
    OpJ P (StR R0 w0 [] H) e ⟨dst, .indexAddr t X I, ty, pos, after, guard⟩ (AV.ptr [.f .f32 (f i)]) := by
  have h := zbv (P := P) (R0 := R0) (H := H) (dst := dst) (ty := ty) (pos := pos) (after := after) (guard := guard) (hu := hu) (hi := hi) hx hI h0 (by rw [tab_length]; exact hlt)
  have hg : (tab n f).getD i.toNat default = f i := at_tab h0 hlt
  rw [hg] at h
  exact h
/-- A call that turns the owned block at some place. -/
theorem rs_callAt (k : Nat) {X : Type} {A : World → List AV} {mk : X → AV} {good : X → Prop} {c : FuncId} {xs : List Operand} {F : Operand} {args : List AV} {d : Tmp} {ts : Array TypeId} [hb : HasBody P c] {en : Ent} {en' : X → Ent}
    (hc : FnH P c A [en] mk (fun y => [en' y]) good) (hH : H[k]? = some en) (hF : e.ev F = some (.raw (.func (.func c) #[] #[]))) (hx : evL e xs = some args) (ht : Takes (StR R w0 gs H) args A) (hd : Nat.blt d N = true)
    (h : ∀ y, good y → RS P N ops l ((d, mk y) :: e.keep) (StR R w0 gs (H.set k (en' y))) Q) :
    RS P N ops (⟨some d, .call { callee := .value F, args := xs.toArray, argTypes := ts }, ty, pos, after, none⟩ :: l) e (StR R w0 gs H) Q := by
  obtain ⟨hlt, hen⟩ := List.getElem?_eq_some_iff.1 hH
  have hp : (en :: H.eraseIdx k).Perm H := by
    have := erase_perm hlt
    rw [hen] at this
    exact this
  refine RS.perm (rs_call (pre := [en]) (H := H.eraseIdx k) hc hF hx (fun w vs hS hr => ht w vs (hS.perm hp.symm) hr) hd fun y hy => ?_) hp
  refine RS.perm (h y hy) ?_
  have hlt' : k < (H.set k (en' y)).length := by simpa using hlt
  have hp' := erase_perm hlt'
  rw [List.getElem_set_self, List.eraseIdx_set_eq] at hp'
  exact hp'.symm
theorem zae {t : TypeId} {X : Operand} (h : RS P N ops (⟨dst, .load t X, ty, pos, after, guard⟩ :: l) e S Q) : RS P N ops (⟨dst, .load t X, ty, pos, after, guard⟩ :: l) e S Q := h
theorem zaf {t : TypeId} {X I : Operand} (h : RS P N ops (⟨dst, .indexAddr t X I, ty, pos, after, guard⟩ :: l) e S Q) : RS P N ops (⟨dst, .indexAddr t X I, ty, pos, after, guard⟩ :: l) e S Q := h
theorem zag {t : TypeId} {X Y : Operand} (h : RS P N ops (⟨dst, .store t X Y, ty, pos, after, guard⟩ :: l) e S Q) : RS P N ops (⟨dst, .store t X Y, ty, pos, after, guard⟩ :: l) e S Q := h
theorem zat {K : Env → Prop} {t : TypeId} {X : Operand} (h : Run1 P N S ops (⟨dst, .load t X, ty, pos, after, guard⟩ :: l) e K) : Run1 P N S ops (⟨dst, .load t X, ty, pos, after, guard⟩ :: l) e K := h
theorem zau {K : Env → Prop} {t : TypeId} {X I : Operand} (h : Run1 P N S ops (⟨dst, .indexAddr t X I, ty, pos, after, guard⟩ :: l) e K) : Run1 P N S ops (⟨dst, .indexAddr t X I, ty, pos, after, guard⟩ :: l) e K := h
theorem Takes.ownE {R0 : World → Prop} {g n cap sz : Nat} {xs : List AV} {args : List AV} {A : World → List AV} (hm : ∃ T c, (⟨g, T, xs, c⟩ : Ent) ∈ H) (hn : xs.length = n * sz) (hc : n ≤ cap) (hx : cap ≤ maxLen) (h : Takes (StR R0 w0 gs H) args A) :
    Takes (StR R0 w0 gs H) (.raw (.slice (some ⟨g, 0, none⟩) n cap) :: args) (fun w => AV.sl w sz xs :: A w) := by
  obtain ⟨T, c, hm⟩ := hm
  exact Takes.own hm hn hc hx h
end
end Go.Ab
namespace Go.Ab
def drawOk1 (ops : Array Oper) (n : Nat) : Bool :=
  (match ops[n]? with
    | some o => o.dst.isNone && o.guard.isNone && (looks ops o).all (fun t => (List.range n).all fun j => gslot ops j != some t || ((Region.before ops).getD n 0).testBit j)
    | none => false) &&
  (List.range n).all (fun i => match ops[i]? with
    | some o => o.dst.isSome && (List.range n).all (fun j => j == i || gslot ops j != o.dst) &&
        (looks ops o).all (fun t => (List.range n).all fun j => gslot ops j != some t || (decide (j < i) && (directs o).contains j))
    | none => false) &&
  (List.range ops.size).all (fun k => decide (k < n + 1) || (List.range k).all fun i => ((Region.before ops).getD k 0).testBit i) &&
  (List.range ops.size).all (fun k => match ops[k]? with
    | some o => (directs o).all fun j => decide (j < k)
    | none => false)
/-- What a late operation looks at is told without a world. -/
def stillAt (e : Env) (t : Nat) : Bool := match e.look t with
  | some v => v.still
  | none => true
def lateStill (ops : Array Oper) (n : Nat) (e : Env) : Bool :=
  (List.range n).all fun i => ((Region.before ops).getD n 0).testBit i || (match ops[i]? with
    | some o => (looks ops o).all (stillAt e)
    | none => true)
/-- An operation that turns the world and gives nothing. -/
def EffJ (P : Program) (S0 S1 : World → Prop) (e : Env) (o : Oper) : Prop :=
  ∀ (a : Act) (w : World) (K : Act → World → Prop) (Q : Exit → Act → World → Prop), S0 w →
    (∀ x ∈ o.op.operands.toList, ∀ y, e.ev x = some y → Rel w y (a.eval x)) →
    (∀ w', S1 w' → K a w') → o.wp P a w K Q

def kp (v : AV) : AV := v.keep
theorem kp_still {v : AV} (h : v.still = true) : kp v = v := AV.keep_still h
theorem rel_kp {w : World} {v : AV} {u : Value} (h : Rel w v u) : Rel w (kp v) u := by
  unfold kp
  cases hs : v.still with
  | true => rw [AV.keep_still hs]; exact h
  | false => rw [AV.keep_not hs]; exact .q trivial
theorem rel_kp_any {w w' : World} {v : AV} {u : Value} (h : Rel w v u) : Rel w' (kp v) u := by
  unfold kp
  cases hs : v.still with
  | true => rw [AV.keep_still hs]; exact h.any hs
  | false => rw [AV.keep_not hs]; exact .q trivial
theorem look_keep_kp : ∀ (e : Env) (t : Nat), e.keep.look t = (e.look t).map kp
  | [], _ => rfl
  | (d, v) :: r, t => by
    simp only [Env.keep, Env.look]
    cases Nat.beq d t with
    | true => rfl
    | false => exact look_keep_kp r t

section
variable {P : Program} {N : Nat} {S S0 S1 W : World → Prop} {e : Env} {Q : Exit → Env → World → Prop} {ops : Array Oper} {l : List Oper} {o : Oper}
/-- What holds while the operations of a region come. -/
structure DI (N : Nat) (ops : Array Oper) (ps : List (Nat × AV)) (e : Env) (S : World → Prop) (κ : AV → AV) (L : Array Bool) (a : Act) (w : World) : Prop where
  hL : L.size = ops.size
  hd : Down ops L
  hS : S w
  df : a.defers = []
  sz : a.tmps.size = N
  vals : ∀ i p, ps[i]? = some p → Listed L i → ∃ u, a.tmps[p.1]? = some u ∧ Rel w (κ p.2) u
  base : ∀ t v, t ∉ ps.map (·.1) → e.look t = some v → ∃ u, a.tmps[t]? = some u ∧ Rel w (κ v) u

theorem DI.pure_step {ps : List (Nat × AV)} {n : Nat} [Cl S] [Cl W] {κ : AV → AV} {Q' : Exit → Act → World → Prop} {K : Act → World → Prop} (hlen : ps.length = n) (hnops : n ≤ ops.size)
    (hκ : ∀ w v u, Rel w v u → Rel w (κ v) u) (hSW : ∀ w, S w → W w)
    (hop : ∀ i, i < n → ∃ o p, ops[i]? = some o ∧ ps[i]? = some p ∧ o.dst = some p.1 ∧ p.1 < N ∧ OpG P W ops (after1 (ps.take i) e) o p.2)
    (hslot : ∀ i p, ps[i]? = some p → gslot ops i = some p.1)
    (hfirst : ∀ i o, i < n → ops[i]? = some o → (∃ d, o.dst = some d) ∧ (∀ j, j < n → j ≠ i → gslot ops j ≠ o.dst) ∧ ∀ t ∈ looks ops o, ∀ j, j < n → gslot ops j = some t → j < i ∧ j ∈ directs o)
    {L : Array Bool} {a : Act} {w : World} (hI : DI N ops ps e S κ L a w) {i : Nat} (hi : i ∈ Region.ready .any ops L) (hin : i < n)
    (hk : ∀ o, ops[i]? = some o → ∀ t ∈ looks ops o, ∀ v, (after1 (ps.take i) e).look t = some v → κ v = v)
    (hK : ∀ a' w', DI N ops ps e S κ (L.setIfInBounds i true) a' w' → K a' w') : wpOp P ops Q' i K a w := by
  obtain ⟨hL, hd, hSw, hdf, hsz, hps, hbase⟩ := hI
  obtain ⟨h1, h2, h3⟩ := (ready_iff hL i).1 hi
  obtain ⟨o, p, ho, hp, hdst, hpN, hG⟩ := hop i hin
  obtain ⟨_, huniq, hlook⟩ := hfirst i o hin ho
  have hlk : ∀ t, t ∈ looks ops o → ∀ v, (after1 (ps.take i) e).look t = some v → ∃ u, a.tmps[t]? = some u ∧ Rel w v u := fun t ht v hv => by
    have hkv := hk o ho t ht v hv
    unfold after1 at hv
    rw [look_append] at hv
    cases hl : Env.look (ps.take i).reverse t with
    | some x =>
      simp only [hl, Option.some.injEq] at hv; subst hv
      obtain ⟨j, hj⟩ := List.mem_iff_getElem?.1 (List.mem_reverse.1 (look_mem _ _ _ hl))
      rw [List.getElem?_take] at hj
      split at hj
      · rename_i hji
        obtain ⟨_, hjd⟩ := hlook t ht j (by omega) (hslot j _ hj)
        obtain ⟨u, hu, hr⟩ := hps j _ hj (h3 o ho j hjd)
        exact ⟨u, hu, by simp only [hkv] at hr; exact hr⟩
      · cases hj
    | none =>
      simp only [hl] at hv
      obtain ⟨u, hu, hr⟩ := hbase t v (fun hm' => by
        obtain ⟨q, hq, hqt⟩ := List.mem_map.1 hm'
        obtain ⟨j, hj⟩ := List.mem_iff_getElem?.1 hq
        have hjn : j < n := by rw [← hlen]; exact (List.getElem?_eq_some_iff.1 hj).1
        have hjt : gslot ops j = some t := by rw [hslot j q hj, ← hqt]
        obtain ⟨hji, _⟩ := hlook t ht j hjn hjt
        have hnone := (look_none_iff _ _).1 hl
        apply hnone
        rw [List.map_reverse, List.mem_reverse]
        exact List.mem_map.2 ⟨q, List.mem_iff_getElem?.2 ⟨j, by rw [List.getElem?_take, if_pos hji]; exact hj⟩, hqt⟩) hv
      exact ⟨u, hu, by rw [hkv] at hr; exact hr⟩
  have hoper : ∀ x ∈ o.op.operands.toList, ∀ y, (after1 (ps.take i) e).ev x = some y → Rel w y (a.eval x) := fun x hx y hy => by
    cases x with
    | tmp t =>
      obtain ⟨u, hu, hr⟩ := hlk t (List.mem_append_left _ (List.mem_filterMap.2 ⟨_, hx, rfl⟩)) y hy
      have : a.eval (.tmp t) = u := by simp [Act.eval, hu]
      rw [this]; exact hr
    | const c =>
      simp only [Env.ev] at hy
      split at hy
      · rename_i hc; cases hy; exact rel_cv w c hc
      · cases hy
    | global g => cases hy; exact .raw
    | func f => cases hy; exact .raw
  have next : ∀ u w', Ext w w' → Rel w' p.2 u → K (a.put o.dst u) w' := fun u w' hw hr => by
    have hiL : i < L.size := by omega
    refine hK _ _ ⟨by simpa using hL, fun k x hx hk j hj => ?_, Cl.ext hSw hw, by simp [hdst, Act.put, hdf], by simp [hdst, Act.put, hsz], fun j q hq hj => ?_, fun t v ht hv => ?_⟩
    · rw [listed_set hiL]
      rcases (listed_set hiL).1 hk with rfl | hk
      · exact .inr (h3 x hx j hj)
      · exact .inr (hd k x hx hk j hj)
    · by_cases hji : j = i
      · subst hji
        rw [hp] at hq; cases hq
        exact ⟨u, by simp [hdst, Act.put, hsz, hpN], hκ _ _ _ hr⟩
      · have hjn : j < n := by rw [← hlen]; exact (List.getElem?_eq_some_iff.1 hq).1
        have hne : p.1 ≠ q.1 := fun he => huniq j hjn hji (by rw [hslot j q hq, hdst, he])
        obtain ⟨y, hy, hry⟩ := hps j q hq (((listed_set hiL).1 hj).resolve_left hji)
        exact ⟨y, by simp [hdst, Act.put, Array.getElem?_setIfInBounds_ne hne, hy], hry.ext hw⟩
    · have hne : p.1 ≠ t := fun he => ht (List.mem_map.2 ⟨p, List.mem_of_getElem? hp, he⟩)
      obtain ⟨y, hy, hry⟩ := hbase t v ht hv
      exact ⟨y, by simp [hdst, Act.put, Array.getElem?_setIfInBounds_ne hne, hy], hry.ext hw⟩
  unfold wpOp
  simp only [ho]
  have hWw := hSW w hSw
  unfold OpG at hG
  cases hgd : o.guard with
  | none =>
    simp only [hgd] at hG
    rw [if_pos (by simp [Region.wanted, hgd])]
    exact .inl (hG a w _ _ hWw hoper next)
  | some jb =>
    obtain ⟨j, b⟩ := jb
    simp only [hgd] at hG
    obtain ⟨y, c, hy, hc, hcase⟩ := hG
    obtain ⟨u, hu, hru⟩ := hlk y (List.mem_append_right _ (by simp [hgd, hy])) _ hc
    have hub := hru.inv_raw
    subst hub
    have hyield : yielded ops a.tmps j = some c := by
      unfold yielded
      rw [show ((ops[j]?).bind (·.dst)) = some y from hy]
      simp [hu]
    rcases hcase with ⟨rfl, hJ⟩ | ⟨hne, hv⟩
    · rw [if_pos (by simp [Region.wanted, hgd, hyield])]
      exact .inl (hJ a w _ _ hWw hoper next)
    · rw [if_neg (by simpa [Region.wanted, hgd, hyield] using hne)]
      exact next undef w (Ext.refl _) (by rw [hv]; exact .raw)

/-- The least that is not listed is ready. -/
theorem ready_ne {L : Array Bool} (hL : L.size = ops.size) (hback : ∀ k o, ops[k]? = some o → ∀ j ∈ directs o, j < k) {i : Nat} (hi : i < ops.size) (hn : ¬ Listed L i) : Region.ready .any ops L ≠ [] := by
  have hmin : ∀ m, (∃ i, i < m ∧ i < ops.size ∧ ¬ Listed L i) → ∃ i, i < ops.size ∧ ¬ Listed L i ∧ ∀ j, j < i → Listed L j := by
    intro m
    induction m with
    | zero => rintro ⟨i, hi, _⟩; omega
    | succ m ihm =>
      rintro ⟨i, hi, hin, hil⟩
      by_cases h' : ∃ i, i < m ∧ i < ops.size ∧ ¬ Listed L i
      · exact ihm h'
      · refine ⟨i, hin, hil, fun j hj => ?_⟩
        false_or_by_contra
        rename_i hjl
        exact h' ⟨j, by omega, by omega, hjl⟩
  obtain ⟨i, hin, hil, hjs⟩ := hmin (i + 1) ⟨i, by omega, hi, hn⟩
  have : i ∈ Region.ready .any ops L := (ready_iff hL i).2 ⟨hin, hil, fun o ho j hj => hjs j (hback i o ho j hj)⟩
  intro hnil
  rw [hnil] at this
  simp at this

theorem unL_tail {L : Array Bool} {n fuel : Nat} (hL : L.size = ops.size) (hno : ∀ k, n ≤ k → ¬ Listed L k) (hu : unL L ≤ fuel) : ops.size ≤ n + fuel := by
  have : ops.size - n ≤ unL L := by
    unfold unL
    have h1 : (L.toList.drop n).count false = ops.size - n := by
      have hall2 : ∀ x ∈ L.toList.drop n, x = false := fun x hx => by
        obtain ⟨j, hj⟩ := List.mem_iff_getElem?.1 hx
        rw [List.getElem?_drop] at hj
        have hnl := hno (n + j) (by omega)
        unfold Listed at hnl
        rw [Array.getD_eq_getD_getElem?] at hnl
        have hj' : L[n + j]? = some x := by simpa using hj
        rw [hj'] at hnl
        cases x <;> simp_all
      rw [List.count_eq_length.2 (fun b hb => (hall2 b hb).symm)]
      simp [hL]
    rw [← h1]
    exact (List.drop_sublist n L.toList).count_le false
  omega

end
end Go.Ab
namespace Go.Ab
def drawOkV (ops : Array Oper) (n d : Nat) : Bool :=
  (match ops[n]? with
    | some o => o.dst == some d && o.guard.isNone && (looks ops o).all (fun t => (List.range n).all fun j => gslot ops j != some t || ((Region.before ops).getD n 0).testBit j)
    | none => false) &&
  (List.range n).all (fun j => gslot ops j != some d) &&
  (List.range n).all (fun i => match ops[i]? with
    | some o => o.dst.isSome && (List.range n).all (fun j => j == i || gslot ops j != o.dst) &&
        (looks ops o).all (fun t => (List.range n).all fun j => gslot ops j != some t || (decide (j < i) && (directs o).contains j))
    | none => false) &&
  (List.range ops.size).all (fun k => decide (k < n + 1) || (List.range k).all fun i => ((Region.before ops).getD k 0).testBit i) &&
  (List.range ops.size).all (fun k => match ops[k]? with
    | some o => (directs o).all fun j => decide (j < k)
    | none => false)

/-- An operation that turns the world and gives a value. -/
def EffV (P : Program) (S0 S1 : World → Prop) (c : Value) (e : Env) (o : Oper) : Prop :=
  ∀ (a : Act) (w : World) (K : Act → World → Prop) (Q : Exit → Act → World → Prop), S0 w →
    (∀ x ∈ o.op.operands.toList, ∀ y, e.ev x = some y → Rel w y (a.eval x)) →
    (∀ w', S1 w' → K (a.put o.dst c) w') → o.wp P a w K Q
section
variable {P : Program} {N : Nat} {S S0 S1 W : World → Prop} {e : Env} {Q : Exit → Env → World → Prop} {ops : Array Oper} {l : List Oper} {o : Oper}
theorem ev_sub {e e' : Env} (h : Env.sub e e') {x : Operand} {y : AV} (hx : e.ev x = some y) : e'.ev x = some y := by
  cases x with
  | tmp t => exact h t y hx
  | const c => exact hx
  | global g => exact hx
  | func f => exact hx
theorem opJ_sub {e e' : Env} (h : Env.sub e e') {v : AV} (hj : OpJ P S e o v) : OpJ P S e' o v := fun a w K Q hS ho hK => hj a w K Q hS (fun x hx y hy => ho x hx y (ev_sub h hy)) hK
theorem opG_sub {e e' : Env} (h : Env.sub e e') {v : AV} (hj : OpG P S ops e o v) : OpG P S ops e' o v := by
  unfold OpG at hj ⊢
  cases hg : o.guard with
  | none => simp only [hg] at hj ⊢; exact opJ_sub h hj
  | some jb =>
    obtain ⟨j, b⟩ := jb
    simp only [hg] at hj ⊢
    obtain ⟨y, c, h1, h2, h3⟩ := hj
    refine ⟨y, c, h1, h y _ h2, ?_⟩
    rcases h3 with ⟨h3, h4⟩ | h3
    · exact .inl ⟨h3, opJ_sub h h4⟩
    · exact .inr h3
theorem drawOkV_spec {n d : Nat} (h : drawOkV ops n d = true) : (∃ o, ops[n]? = some o ∧ o.dst = some d ∧ o.guard = none ∧ ∀ t ∈ looks ops o, ∀ j, j < n → gslot ops j = some t → Must ops j n) ∧ (∀ j, j < n → gslot ops j ≠ some d) ∧
    (∀ i o, i < n → ops[i]? = some o → (∃ d, o.dst = some d) ∧ (∀ j, j < n → j ≠ i → gslot ops j ≠ o.dst) ∧ ∀ t ∈ looks ops o, ∀ j, j < n → gslot ops j = some t → j < i ∧ j ∈ directs o) ∧
    (∀ k i, n + 1 ≤ k → k < ops.size → i < k → Must ops i k) ∧ (∀ k o, ops[k]? = some o → ∀ j ∈ directs o, j < k) := by
  unfold drawOkV at h
  simp only [Bool.and_eq_true, List.all_eq_true, List.mem_range] at h
  obtain ⟨⟨⟨⟨h1, h0⟩, h2⟩, h3⟩, h4⟩ := h
  refine ⟨?_, fun j hj => by simpa using h0 j hj, fun i o hi ho => ?_, fun k i hk hks hik => ?_, fun k o ho j hj => ?_⟩
  · cases ho : ops[n]? with
    | none => simp [ho] at h1
    | some o =>
      simp only [ho, Bool.and_eq_true, List.all_eq_true, List.mem_range, Bool.or_eq_true, bne_iff_ne, Option.isNone_iff_eq_none, beq_iff_eq] at h1
      obtain ⟨⟨ha, hb⟩, hc⟩ := h1
      exact ⟨o, rfl, ha, hb, fun t ht j hj hg => before_must ops n j ((hc t ht j hj).resolve_left fun hne => hne hg)⟩
  · have := h2 i hi
    simp only [ho, Bool.and_eq_true, List.all_eq_true, List.mem_range, Bool.or_eq_true, beq_iff_eq, bne_iff_ne, decide_eq_true_eq, List.contains_iff_mem] at this
    obtain ⟨⟨ha, hb⟩, hc⟩ := this
    refine ⟨Option.isSome_iff_exists.1 ha, fun j hj hji => (hb j hj).resolve_left hji, fun t ht j hj hg => ?_⟩
    exact (hc t ht j hj).resolve_left (fun hne => hne hg)
  · have := h3 k hks
    simp only [Bool.or_eq_true, decide_eq_true_eq, List.all_eq_true, List.mem_range] at this
    exact before_must ops k i ((this.resolve_left (by omega)) i hik)
  · have hk : k < ops.size := (Array.getElem?_eq_some_iff.1 ho).1
    have := h4 k hk
    simp only [ho, List.all_eq_true, decide_eq_true_eq] at this
    exact this j hj

theorem ws_drawV {n rid d : Nat} (c : Value) [Cl W] [Cl S0] [Cl S1] (hm : P.follows .mixedOrders = true) (hchk : drawOkV ops n d = true) (hdN : Nat.blt d N = true) (hfr : e.look d = none) (hW0 : ∀ w, S0 w → W w) (hW1 : ∀ w, S1 w → W w)
    (h : Run1 P N W ops (ops.toList.take n) e (fun e' => lateStill ops n e' = true ∧ (∀ o, ops[n]? = some o → EffV P S0 S1 c e' o) ∧ RS P N ops (ops.toList.drop (n + 1)) ((d, .raw c) :: e'.keep) S1 Q)) : WS P N (.region rid ops true) e S0 Q := by
  obtain ⟨⟨on, hon, hodst, hogd, holk⟩, hnd, hfirst, hmust, hback⟩ := drawOkV_spec hchk
  have hn : n < ops.size := (Array.getElem?_eq_some_iff.1 hon).1
  obtain ⟨ps, hlen, ⟨hstill, hE, hR⟩, hall⟩ := run1_spec h
  have hlen' : ps.length = n := by rw [hlen]; simp; omega
  have hop : ∀ i, i < n → ∃ o p, ops[i]? = some o ∧ ps[i]? = some p ∧ o.dst = some p.1 ∧ p.1 < N ∧ OpG P W ops (after1 (ps.take i) e) o p.2 := fun i hi => by
    have ho : ops[i]? = some (ops[i]'(by omega)) := by simp
    have hp : ps[i]? = some (ps[i]'(by omega)) := by simp
    obtain ⟨h1, h2, h3⟩ := hall i (ops[i]'(by omega)) (ps[i]'(by omega)) (by rw [List.getElem?_take, if_pos hi]; simp) hp
    exact ⟨_, _, ho, hp, h1, h2, h3⟩
  have hslot : ∀ i p, ps[i]? = some p → gslot ops i = some p.1 := fun i p hp => by
    have hi : i < n := by rw [← hlen']; exact (List.getElem?_eq_some_iff.1 hp).1
    obtain ⟨o, p', ho, hp', hd, _⟩ := hop i hi
    rw [hp'] at hp; cases hp
    simp [gslot, ho, hd]
  have hdps : ∀ q ∈ ps, q.1 ≠ d := fun q hq he => by
    obtain ⟨j, hj⟩ := List.mem_iff_getElem?.1 hq
    exact hnd j (by rw [← hlen']; exact (List.getElem?_eq_some_iff.1 hj).1) (by rw [hslot j q hj, he])
  have hsubE : Env.sub e ((d, .raw c) :: e) := fun t v ht => by
    simp only [Env.look]
    cases hb : Nat.beq d t with
    | true => rw [← Nat.eq_of_beq_eq_true hb, hfr] at ht; cases ht
    | false => exact ht
  have hsubA : ∀ l : List (Nat × AV), Env.sub (after1 l e) (after1 l ((d, .raw c) :: e)) := fun l t v ht => by
    unfold after1 at ht ⊢
    rw [look_append] at ht ⊢
    cases hl : Env.look l.reverse t with
    | some x => simp only [hl] at ht ⊢; exact ht
    | none => simp only [hl] at ht ⊢; exact hsubE t v ht
  have hop1 : ∀ i, i < n → ∃ o p, ops[i]? = some o ∧ ps[i]? = some p ∧ o.dst = some p.1 ∧ p.1 < N ∧ OpG P W ops (after1 (ps.take i) ((d, .raw c) :: e)) o p.2 := fun i hi => by
    obtain ⟨o, p, h1, h2, h3, h4, h5⟩ := hop i hi
    exact ⟨o, p, h1, h2, h3, h4, opG_sub (hsubA _) h5⟩
  -- what a frame with all listed is
  have hfull : ∀ (S : World → Prop) (κ : AV → AV) (L : Array Bool) (a : Act) (w : World), DI N ops ps ((d, .raw c) :: e) S κ L a w → (∀ i, i < n → Listed L i) → ∀ t v, (after1 ps ((d, .raw c) :: e)).look t = some v → ∃ u, a.tmps[t]? = some u ∧ Rel w (κ v) u := fun S κ L a w hI hal t v ht => by
    unfold after1 at ht
    rw [look_append] at ht
    cases hl : Env.look ps.reverse t with
    | some x =>
      simp only [hl, Option.some.injEq] at ht; subst ht
      obtain ⟨i, hi⟩ := List.mem_iff_getElem?.1 (List.mem_reverse.1 (look_mem _ _ _ hl))
      exact hI.vals i _ hi (hal i (by have := (List.getElem?_eq_some_iff.1 hi).1; omega))
    | none =>
      simp only [hl] at ht
      exact hI.base t v (by have := (look_none_iff _ _).1 hl; simpa using this) ht
  have hfin : ∀ (L : Array Bool) (a : Act) (w : World), DI N ops ps ((d, .raw c) :: e) S1 kp L a w → (∀ i, i < n → Listed L i) → ∀ t v, Env.look ((d, .raw c) :: (after1 ps e).keep) t = some v → ∃ u, a.tmps[t]? = some u ∧ Rel w v u := fun L a w hI hal t v ht => by
    have hd1 : (after1 ps ((d, .raw c) :: e)).look d = some (.raw c) := by
      unfold after1
      rw [look_append]
      have : Env.look ps.reverse d = none := by
        rw [look_none_iff]
        intro hm'
        rw [List.map_reverse, List.mem_reverse] at hm'
        obtain ⟨q, hq, hqd⟩ := List.mem_map.1 hm'
        exact hdps q hq hqd
      rw [this]
      simp only [Env.look, Nat.beq_refl]
    simp only [Env.look] at ht
    cases hb : Nat.beq d t with
    | true =>
      simp only [hb, Option.some.injEq] at ht
      subst ht
      rw [← Nat.eq_of_beq_eq_true hb]
      obtain ⟨u, hu, hr⟩ := hfull _ _ _ _ _ hI hal d _ hd1
      exact ⟨u, hu, by rw [kp_still rfl] at hr; exact hr⟩
    | false =>
      simp only [hb] at ht
      rw [look_keep_kp] at ht
      obtain ⟨x, hx, rfl⟩ := Option.map_eq_some_iff.1 ht
      exact hfull _ _ _ _ _ hI hal t x (hsubA ps t x hx)
  -- behind the store
  have key1 : ∀ (fuel : Nat) (L : Array Bool) (a : Act) (w : World), DI N ops ps ((d, .raw c) :: e) S1 kp L a w → Listed L n → (∀ k, n + 1 ≤ k → ¬ Listed L k) → unL L ≤ fuel →
      wpAny P .any ops (fun x a' w' => ∃ e', Fr N e' a' w' ∧ Q x e' w') fuel L a w := by
    intro fuel
    induction fuel with
    | zero =>
      intro L a w hI hln hno hu
      have hal : ∀ i, i < n → Listed L i := fun i hi => unL_zero (by omega) (by rw [hI.hL]; omega)
      refine wpAny_tail (P := P) (n := n + 1) hmust hback 0 (n + 1) L a w (Nat.le_refl _) hn hI.hL (fun i => ⟨fun h => ?_, fun h => ?_⟩) (unL_tail hI.hL hno hu) (hR a w hI.hS ⟨hI.df, hI.sz, fun t v ht => ?_⟩)
      · rcases Nat.lt_or_ge i (n + 1) with h' | h'
        · exact h'
        · exact absurd h (hno i h')
      · rcases Nat.lt_or_ge i n with h' | h'
        · exact hal i h'
        · have : i = n := by omega
          subst this; exact hln
      · exact hfin _ _ _ hI hal t v ht
    | succ fuel ih =>
      intro L a w hI hln hno hu
      by_cases hal : ∀ i, i < n → Listed L i
      · refine wpAny_tail (P := P) (n := n + 1) hmust hback (fuel + 1) (n + 1) L a w (Nat.le_refl _) hn hI.hL (fun i => ⟨fun h => ?_, fun h => ?_⟩) (unL_tail hI.hL hno hu) (hR a w hI.hS ⟨hI.df, hI.sz, fun t v ht => ?_⟩)
        · rcases Nat.lt_or_ge i (n + 1) with h' | h'
          · exact h'
          · exact absurd h (hno i h')
        · rcases Nat.lt_or_ge i n with h' | h'
          · exact hal i h'
          · have : i = n := by omega
            subst this; exact hln
        · exact hfin _ _ _ hI hal t v ht
      · have hex : ∃ i, i < n ∧ ¬ Listed L i := by
          false_or_by_contra
          rename_i hc
          exact hal fun i hi => by
            false_or_by_contra
            rename_i hn'
            exact hc ⟨i, hi, hn'⟩
        obtain ⟨i0, hi0, hil0⟩ := hex
        refine ⟨fun hnil => absurd hnil (ready_ne hI.hL hback (by omega) hil0), fun i hi => ?_⟩
        obtain ⟨h1, h2, h3⟩ := (ready_iff hI.hL i).1 hi
        have hin : i < n := by
          rcases Nat.lt_or_ge i n with h' | h'
          · exact h'
          · rcases Nat.eq_or_lt_of_le h' with h' | h'
            · subst h'; exact absurd hln h2
            · exact absurd (fun j hj => (hmust i j (by omega) h1 (by omega)).listed hI.hd h3) hal
        have hlate : ((Region.before ops).getD n 0).testBit i = false := by
          cases hb : ((Region.before ops).getD n 0).testBit i with
          | false => rfl
          | true => exact absurd ((before_must ops n i hb).listed hI.hd fun o ho j hj => hI.hd n o ho hln j hj) h2
        refine DI.pure_step (n := n) hlen' (by omega) (fun _ _ _ h => rel_kp h) hW1 hop1 hslot hfirst hI hi hin (fun o ho t ht v hv => ?_) (fun a' w' hI' => ?_)
        · unfold lateStill at hstill
          simp only [List.all_eq_true, List.mem_range, Bool.or_eq_true] at hstill
          have := (hstill i hin).resolve_left (by rw [hlate]; simp)
          simp only [ho, List.all_eq_true] at this
          have hs := this t ht
          -- later operations do not write what is looked at
          have hl2 : (after1 ps ((d, .raw c) :: e)).look t = some v := by
            unfold after1 at hv ⊢
            rw [look_append] at hv ⊢
            have hsame : Env.look ps.reverse t = Env.look (ps.take i).reverse t := by
              have hsplit : ps.reverse = (ps.drop i).reverse ++ (ps.take i).reverse := by rw [← List.reverse_append, List.take_append_drop]
              rw [hsplit, look_append]
              have : Env.look (ps.drop i).reverse t = none := by
                rw [look_none_iff]
                intro hm'
                rw [List.map_reverse, List.mem_reverse] at hm'
                obtain ⟨q, hq, hqt⟩ := List.mem_map.1 hm'
                obtain ⟨j, hj⟩ := List.mem_iff_getElem?.1 hq
                rw [List.getElem?_drop] at hj
                have hjn : i + j < n := by rw [← hlen']; exact (List.getElem?_eq_some_iff.1 hj).1
                have := ((hfirst i o hin ho).2.2 t ht (i + j) hjn (by rw [hslot _ q hj, ← hqt])).1
                omega
              rw [this]
            rw [hsame]
            exact hv
          unfold after1 at hl2
          rw [look_append] at hl2
          unfold stillAt after1 at hs
          rw [look_append] at hs
          cases hl : Env.look ps.reverse t with
          | some x =>
            simp only [hl] at hl2 hs
            cases hl2
            exact kp_still hs
          | none =>
            simp only [hl, Env.look] at hl2 hs
            cases hb : Nat.beq d t with
            | true =>
              simp only [hb, Option.some.injEq] at hl2
              subst hl2
              exact kp_still rfl
            | false =>
              simp only [hb] at hl2
              rw [hl2] at hs
              exact kp_still hs
        · have hiL : i < L.size := by rw [hI.hL]; omega
          refine ih _ a' w' hI' ((listed_set hiL).2 (.inr hln)) (fun k hk hk' => ?_) (by have := unL_set hiL h2; omega)
          rcases (listed_set hiL).1 hk' with rfl | hk'
          · omega
          · exact hno k hk hk'
  -- ahead of the store
  have key0 : ∀ (fuel : Nat) (L : Array Bool) (a : Act) (w : World), DI N ops ps e S0 id L a w → (∀ k, n ≤ k → ¬ Listed L k) → unL L ≤ fuel →
      wpAny P .any ops (fun x a' w' => ∃ e', Fr N e' a' w' ∧ Q x e' w') fuel L a w := by
    intro fuel
    induction fuel with
    | zero =>
      intro L a w hI hno hu
      exact absurd (unL_zero (by omega) (by rw [hI.hL]; exact hn)) (hno n (Nat.le_refl _))
    | succ fuel ih =>
      intro L a w hI hno hu
      refine ⟨fun hnil => absurd hnil (ready_ne hI.hL hback hn (hno n (Nat.le_refl _))), fun i hi => ?_⟩
      obtain ⟨h1, h2, h3⟩ := (ready_iff hI.hL i).1 hi
      have hiL : i < L.size := by rw [hI.hL]; omega
      rcases Nat.lt_or_ge i n with hin | hin
      · refine DI.pure_step (n := n) hlen' (by omega) (fun _ _ _ h => h) hW0 hop hslot hfirst hI hi hin (fun _ _ _ _ _ _ => rfl) (fun a' w' hI' => ?_)
        refine ih _ a' w' hI' (fun k hk hk' => ?_) (by have := unL_set hiL h2; omega)
        rcases (listed_set hiL).1 hk' with rfl | hk'
        · omega
        · exact hno k hk hk'
      · rcases Nat.eq_or_lt_of_le hin with h' | h'
        · subst h'
          unfold wpOp
          simp only [hon]
          rw [if_pos (by simp [Region.wanted, hogd])]
          refine .inl (hE on hon a w _ _ hI.hS (fun x hx y hy => ?_) (fun w' hS1 => ?_))
          · cases x with
            | tmp t =>
              have ht : t ∈ looks ops on := List.mem_append_left _ (List.mem_filterMap.2 ⟨_, hx, rfl⟩)
              have : ∃ u, a.tmps[t]? = some u ∧ Rel w y u := by
                have hy' : (after1 ps e).look t = some y := hy
                unfold after1 at hy'
                rw [look_append] at hy'
                cases hl : Env.look ps.reverse t with
                | some x =>
                  simp only [hl, Option.some.injEq] at hy'; subst hy'
                  obtain ⟨j, hj⟩ := List.mem_iff_getElem?.1 (List.mem_reverse.1 (look_mem _ _ _ hl))
                  have hjn : j < n := by rw [← hlen']; exact (List.getElem?_eq_some_iff.1 hj).1
                  exact hI.vals j _ hj ((holk t ht j hjn (hslot j _ hj)).listed hI.hd h3)
                | none =>
                  simp only [hl] at hy'
                  exact hI.base t y (by have := (look_none_iff _ _).1 hl; simpa using this) hy'
              obtain ⟨u, hu', hr⟩ := this
              have : a.eval (.tmp t) = u := by simp [Act.eval, hu']
              rw [this]; exact hr
            | const c =>
              simp only [Env.ev] at hy
              split at hy
              · rename_i hc; cases hy; exact rel_cv w c hc
              · cases hy
            | global g => cases hy; exact .raw
            | func f => cases hy; exact .raw
          · have hdN' : d < a.tmps.size := by rw [hI.sz]; exact Nat.le_of_ble_eq_true hdN
            have hother : ∀ t u, t ≠ d → a.tmps[t]? = some u → (a.put on.dst c).tmps[t]? = some u := fun t u hne hu => by
              simp [hodst, Act.put, Array.getElem?_setIfInBounds_ne (Ne.symm hne), hu]
            refine key1 fuel _ (a.put on.dst c) w' ⟨by simpa using hI.hL, fun k x hx hk j hj => ?_, hS1, by simp [hodst, Act.put, hI.df], by simp [hodst, Act.put, hI.sz], fun j q hq hj => ?_, fun t v ht hv => ?_⟩ ((listed_set hiL).2 (.inl rfl)) (fun k hk hk' => ?_) (by have := unL_set hiL h2; omega)
            · rw [listed_set hiL]
              rcases (listed_set hiL).1 hk with rfl | hk
              · exact .inr (h3 x hx j hj)
              · exact .inr (hI.hd k x hx hk j hj)
            · have hjn : j < n := by rw [← hlen']; exact (List.getElem?_eq_some_iff.1 hq).1
              obtain ⟨u, hu', hr⟩ := hI.vals j q hq (((listed_set hiL).1 hj).resolve_left (by omega))
              exact ⟨u, hother _ _ (hdps q (List.mem_of_getElem? hq)) hu', rel_kp_any hr⟩
            · simp only [Env.look] at hv
              cases hb : Nat.beq d t with
              | true =>
                simp only [hb, Option.some.injEq] at hv
                subst hv
                rw [← Nat.eq_of_beq_eq_true hb]
                exact ⟨c, by simp [hodst, Act.put, hdN'], rel_kp .raw⟩
              | false =>
                simp only [hb] at hv
                obtain ⟨u, hu', hr⟩ := hI.base t v ht hv
                have hne : t ≠ d := fun he => by rw [he, Nat.beq_refl] at hb; cases hb
                exact ⟨u, hother _ _ hne hu', rel_kp_any hr⟩
            · rcases (listed_set hiL).1 hk' with rfl | hk'
              · omega
              · exact hno k (by omega) hk'
        · exact absurd ((hmust i n (by omega) h1 h').listed hI.hd h3) (hno n (Nat.le_refl _))
  intro a w hS hF
  refine wp_region_any hm ?_
  have hw0 : Ext w { w with drawn := w.drawn + 1 } := Ext.of_quiet (.inr rfl)
  have hS0 : S0 { w with drawn := w.drawn + 1 } := Cl.ext hS hw0
  have hF0 := hF.ext hw0
  generalize ({ w with drawn := w.drawn + 1 } : World) = w1 at hS0 hF0
  have hnl : ∀ k, ¬ Listed (Array.replicate ops.size false) k := fun k hk => by
    unfold Listed at hk; rw [Array.getD_eq_getD_getElem?, Array.getElem?_replicate] at hk; split at hk <;> simp at hk
  exact key0 ops.size _ a w1 ⟨by simp, fun k o _ hk => absurd hk (hnl k), hS0, hF0.defers, hF0.size, fun i p _ hi => absurd hi (hnl i), fun t v _ ht => hF0.rel t v ht⟩ (fun k _ => hnl k) (by unfold unL; simp)

end
end Go.Ab
namespace Go.Ab
variable {R : World → Prop} [RStab R]
/-- Field k of a struct lies at cell off. -/
class TyF (P : Program) (t : TypeId) (k : Nat) (off : outParam Nat) : Prop where
  h : ∃ fs f i, P.underlying t = some (.struct fs) ∧ fs[k]? = some f ∧ f.offset = off ∧ P.info? f.type = some i ∧ (i.size == 0) = false

section
variable {P : Program} {N : Nat} {S : World → Prop} {e : Env} {Q : Exit → Env → World → Prop} {ops : Array Oper} {l : List Oper} {o : Oper}
variable {w0 : World} {gs : List Nat} {H : List Ent} {dst : Option Tmp} {ty : TypeId} {pos : String} {after : Array Edge} {guard : Option (Nat × Bool)}
theorem run_fieldAt {t : TypeId} {k off : Nat} [hf : TyF P t k off] (w : World) (a : Addr) : (Instr.fieldAt t (.pointer (some a)) k).run P w = .ok (.pointer (some (a.add off))) w := by
  obtain ⟨fs, f, i, h1, h2, h3, h4, h5⟩ := hf.h
  have h5' : ¬ i.size = 0 := by simpa using h5
  simp [Instr.fieldAt, run_underlying h1, h2, Instr.sureAddr, fieldPlace, sizeOf, typeInfo, h4, h5', h3]
theorem zcd {t : TypeId} {X : Operand} {k off g i : Nat} [hf : TyF P t k off] (hx : e.ev X = some (.raw (.pointer (some ⟨g, i, none⟩)))) :
    OpJ P S e ⟨dst, .fieldAddr t X k, ty, pos, after, guard⟩ (.raw (.pointer (some ⟨g, i + off, none⟩))) :=
  opj_value fun a w _ h => by
    have h1 := (h X (by simp [Op.operands]) _ hx).inv_raw
    refine ⟨_, w, ?_, Ext.refl _, .raw⟩
    have hr := run_fieldAt (P := P) (t := t) (k := k) w ⟨g, i, none⟩
    rw [addr_add _ rfl] at hr
    simp [execOp, h1, hr]
theorem zce {t : TypeId} {X : Operand} {k off : Nat} {xs : List AV} [hf : TyF P t k off] (hx : e.ev X = some (AV.ptr xs)) :
    OpJ P S e ⟨dst, .fieldAddr t X k, ty, pos, after, guard⟩ (AV.ptr (xs.drop off)) :=
  opj_value fun a w _ h => by
    obtain ⟨_, bb, hv, hsp, hr⟩ := (h X (by simp [Op.operands]) _ hx).inv_p
    have hrun := run_fieldAt (P := P) (t := t) (k := k) w bb
    rw [addr_add _ hsp] at hrun
    refine ⟨.pointer (some ⟨bb.block, bb.off + off, none⟩), w, by simp [execOp, hv, hrun], Ext.refl _, .p (mono_ptrTo _) ⟨⟨bb.block, bb.off + off, none⟩, rfl, rfl, fun j x hj => ?_⟩⟩
    rw [List.getElem?_drop] at hj
    obtain ⟨u, hu, hev⟩ := hr (off + j) x hj
    exact ⟨u, by simpa [Nat.add_assoc] using hu, hev⟩

/-- The cells of a struct at a place. -/
theorem run_loadA {w : World} {t : TypeId} {d : TypeDesc} {z : Value} {sz b : Nat} [hd : TyU P t d] [hi : TyI P t z sz b] (ha : aggD d = true) {bb : Addr} (hsp : bb.spot = none) {xs : List AV} (hl : xs.length = sz)
    (hr : ∀ (i : Nat) (x : AV), xs[i]? = some x → ∃ u, w.cell? ⟨bb.block, bb.off + i, none⟩ = some u ∧ Ev x u) : ∃ cs : List Value, (loadVar t bb).run P w = .ok (.agg cs.toArray) w ∧ RelL w xs cs := by
  have hex : ∀ k, k ≤ sz → ∃ cs : List Value, cs.length = k ∧ (∀ (j : Nat) (v : Value), cs[j]? = some v → w.cell? (bb.add j) = some v) ∧ ∀ (j : Nat) (v : Value) (x : AV), cs[j]? = some v → xs[j]? = some x → Ev x v := by
    intro k
    induction k with
    | zero => intro _; exact ⟨[], rfl, fun j v h => by simp at h, fun j v x h => by simp at h⟩
    | succ k ih =>
      intro hk
      obtain ⟨cs, hlc, h1, h2⟩ := ih (by omega)
      have hx : xs[k]? = some (xs[k]'(by omega)) := List.getElem?_eq_getElem (by omega)
      obtain ⟨u, hu, hev⟩ := hr k _ hx
      refine ⟨cs ++ [u], by simp [hlc], fun j v hj => ?_, fun j v x hj hxj => ?_⟩
      · rcases Nat.lt_or_ge j k with h | h
        · rw [List.getElem?_append_left (by omega)] at hj; exact h1 j v hj
        · have : j = k := by
            have := (List.getElem?_eq_some_iff.1 hj).1
            simp only [List.length_append, hlc, List.length_cons, List.length_nil] at this
            omega
          subst this
          rw [List.getElem?_append_right (by omega), hlc, Nat.sub_self] at hj
          cases hj
          rw [addr_add bb hsp]; exact hu
      · rcases Nat.lt_or_ge j k with h | h
        · rw [List.getElem?_append_left (by omega)] at hj; exact h2 j v x hj hxj
        · have : j = k := by
            have := (List.getElem?_eq_some_iff.1 hj).1
            simp only [List.length_append, hlc, List.length_cons, List.length_nil] at this
            omega
          subst this
          rw [List.getElem?_append_right (by omega), hlc, Nat.sub_self] at hj
          cases hj
          rw [hx] at hxj; cases hxj
          exact hev
  obtain ⟨cs, hlc, h1, h2⟩ := hex sz (Nat.le_refl _)
  refine ⟨cs, ?_, RelL.of_get (by omega) fun j x v hx hv => h2 j v x hv hx w⟩
  have := run_loadCells_list (P := P) w bb cs h1
  rw [hlc] at this
  simp [loadVar, run_isAgg hd.h, ha, run_size hi, this]
theorem opj_loadAO {R0 : World → Prop} {t : TypeId} {d : TypeDesc} {z : Value} {sz b : Nat} {X : Operand} {en : Ent} {i : Nat} [hd : TyU P t d] [hi : TyI P t z sz b] (ha : aggD d = true) (hx : e.ev X = some (.raw (.pointer (some ⟨en.g, i, none⟩)))) (hm : en ∈ H) (hl : i + sz ≤ en.xs.length) :
    OpJ P (StR R0 w0 gs H) e ⟨dst, .load t X, ty, pos, after, guard⟩ (.agg ((en.xs.drop i).take sz)) :=
  opj_value fun a w hS h => by
    have hv := (h X (by simp [Op.operands]) _ hx).inv_raw
    obtain ⟨cs, hrun, hrel⟩ := run_loadA (P := P) (t := t) (w := w) ha (bb := ⟨en.g, i, none⟩) rfl (xs := (en.xs.drop i).take sz) (by simp; omega) (fun j x hj => by
      have hj' : en.xs[i + j]? = some x := by rw [List.getElem?_take] at hj; split at hj <;> simp_all
      exact (hS.own en hm).2.cell hj')
    exact ⟨_, w, by simp [execOp, hv, Instr.loadAt, Instr.sureAddr, hrun], Ext.refl _, .agg hrel⟩

/-- A list of cells written from a place on. -/
def splice (i : Nat) (ys xs : List AV) : List AV := xs.take i ++ ys ++ xs.drop (i + ys.length)
theorem still_mem : ∀ {ys : List AV}, AV.stillL ys = true → ∀ y ∈ ys, y.still = true
  | [], _, y, hy => by cases hy
  | a :: l, h, y, hy => by
    simp only [AV.stillL, Bool.and_eq_true] at h
    rcases List.mem_cons.1 hy with rfl | hy
    · exact h.1
    · exact still_mem h.2 y hy
/-- One cell, whatever it is: not a struct, not a tuple, not unknown. -/
def AV.one : AV → Bool
  | .f .. | .c .. => true
  | .raw (.agg _) | .raw (.tuple _) => false
  | .raw _ => true
  | _ => false
theorem one_cell {x : AV} {w : World} {v : Value} (h : x.one = true) (hr : Rel w x v) : v.oneCell' = true := by
  cases hr <;> first | (simp [AV.one] at h; done) | rfl | skip
  cases v <;> first | (simp [AV.one] at h; done) | rfl
/-- Each lies in one cell. -/
def OneL (ys : List AV) : Prop := ∀ y ∈ ys, ∀ w v, Rel w y v → v.oneCell' = true
theorem oneL_of {ys : List AV} (h : ys.all AV.one = true) : OneL ys := fun y hy _ _ hr => one_cell (List.all_eq_true.1 h y hy) hr
theorem rs_storeAG (k : Nat) {en : Ent} {i : Nat} {t : TypeId} {z : Value} {sz b : Nat} [hi : TyI P t z sz b] {A X : Operand} {ys : List AV} (hA : e.ev A = some (.raw (.pointer (some ⟨en.g, i, none⟩)))) (hx : e.ev X = some (.agg ys)) (h1 : OneL ys) (hs : AV.stillL ys = true)
    (hH : H[k]? = some en) (hl : ys.length = sz) (hi' : i + sz ≤ en.xs.length) (hc : en.xs.length = en.csz)
    (hk : RS P N ops l e.keep (StR R w0 gs (H.set k { en with xs := splice i ys en.xs })) Q) :
    RS P N ops (⟨none, .store t A X, ty, pos, after, none⟩ :: l) e (StR R w0 gs H) Q := by
  intro a w hS hF
  refine wpList_plain rfl fun K hK => ?_
  have h2 := (hF.eval hA).inv_raw
  obtain ⟨vs, hv, hr⟩ := (hF.eval hx).inv_agg
  have hvl : vs.length = sz := by rw [hr.length, hl]
  have hmem : en ∈ H := List.mem_of_getElem? hH
  obtain ⟨cur, hb, hcs, hcx⟩ := (hS.own en hmem).2
  have hone : ∀ v ∈ vs, v.oneCell' = true := fun v hv' => by
    obtain ⟨j, hj⟩ := List.mem_iff_getElem?.1 hv'
    have hjl : j < ys.length := by rw [← hr.length]; exact (List.getElem?_eq_some_iff.1 hj).1
    obtain ⟨u, hu, hru⟩ := hr.get (List.getElem?_eq_getElem hjl)
    rw [hj] at hu; cases hu
    exact h1 _ (List.getElem_mem _) _ _ hru
  have hst := run_storeCells_at (P := P) en.g i en.T vs 0 cur w hb (by omega) hone
  have hrun : (execOp a.eval ⟨none, .store t A X, ty, pos, after, none⟩).run P w = .ok .skip (w.setRow en.g (cur.toList.take (i + 0) ++ vs ++ cur.toList.drop (i + 0 + vs.length)).toArray) := by
    have hcs' : (Value.agg vs.toArray).cells = vs.toArray := rfl
    simp [execOp, h2, hv, Instr.storeAt, Instr.sureAddr, storeVar, run_size hi, hcs', hvl, hst]
  simp only [Nat.add_zero] at hrun
  unfold Oper.wp
  rw [hrun]
  have hrow : ((w.setRow en.g (cur.toList.take i ++ vs ++ cur.toList.drop (i + vs.length)).toArray)).heap[en.g]? = some (.cells (cur.toList.take i ++ vs ++ cur.toList.drop (i + vs.length)).toArray en.T (0, 0)) := setRow_heap w en.g cur _ en.T _ hb
  have hto : (cur.toList.take i).length = i := by simp; omega
  have hto' : (en.xs.take i).length = i := by simp; omega
  refine hK _ _ (hk _ _ (hS.updAt (e' := { en with xs := splice i ys en.xs }) hH ?_ (.inl rfl) ?_) hF.keep)
  · refine ⟨rfl, rfl, rfl, by simp, fun k _ hk => setRow_other w en.g k _ (fun e => hk (by simp [e]))⟩
  · refine ⟨_, hrow, ?_, fun j x hj => ?_⟩
    · simp only [List.size_toArray, List.length_append, List.length_drop, hto, Array.length_toList, hvl]; omega
    · simp only [splice] at hj
      simp only [List.getElem?_toArray]
      rcases Nat.lt_or_ge j i with h | h
      · rw [List.append_assoc, List.getElem?_append_left (by omega), List.getElem?_take, if_pos h] at hj
        obtain ⟨u, hu, hev⟩ := hcx j x hj
        exact ⟨u, by rw [List.append_assoc, List.getElem?_append_left (by omega), List.getElem?_take, if_pos h]; simpa using hu, hev⟩
      · rcases Nat.lt_or_ge j (i + sz) with h' | h'
        · rw [List.append_assoc, List.getElem?_append_right (by omega), hto', List.getElem?_append_left (by omega)] at hj
          obtain ⟨u, hu, hru⟩ := hr.get hj
          refine ⟨u, ?_, hru.ev (still_mem hs x (List.mem_of_getElem? hj))⟩
          rw [List.append_assoc, List.getElem?_append_right (by omega), hto, List.getElem?_append_left (by omega)]
          exact hu
        · rw [List.getElem?_append_right (by simp; omega), List.getElem?_drop] at hj
          have e1 : i + ys.length + (j - (en.xs.take i ++ ys).length) = j := by simp; omega
          rw [e1] at hj
          obtain ⟨u, hu, hev⟩ := hcx j x hj
          refine ⟨u, ?_, hev⟩
          rw [List.getElem?_append_right (by simp; omega), List.getElem?_drop]
          have e2 : i + vs.length + (j - (cur.toList.take i ++ vs).length) = j := by simp; omega
          rw [e2]
          simpa using hu

theorem rs_storeA (k : Nat) {en : Ent} {i : Nat} {t : TypeId} {z : Value} {sz b : Nat} [hi : TyI P t z sz b] {A X : Operand} {ys : List AV} (hA : e.ev A = some (.raw (.pointer (some ⟨en.g, i, none⟩)))) (hx : e.ev X = some (.agg ys)) (h1 : ys.all AV.one = true) (hs : AV.stillL ys = true)
    (hH : H[k]? = some en) (hl : ys.length = sz) (hi' : i + sz ≤ en.xs.length) (hc : en.xs.length = en.csz)
    (hk : RS P N ops l e.keep (StR R w0 gs (H.set k { en with xs := splice i ys en.xs })) Q) :
    RS P N ops (⟨none, .store t A X, ty, pos, after, none⟩ :: l) e (StR R w0 gs H) Q := rs_storeAG k hA hx (oneL_of h1) hs hH hl hi' hc hk
theorem zcf {R0 : World → Prop} {X : Operand} {x : AV} {g i c : Nat} {T : TypeId} {xs : List AV} {t : TypeId} {d : TypeDesc} [hd : TyU P t d] (ha : aggD d = false)
    (hx : e.ev X = some (.raw (.pointer (some ⟨g, i, none⟩)))) (hm : (⟨g, T, xs, c⟩ : Ent) ∈ H) (h0 : xs[i]? = some x) : OpJ P (StR R0 w0 gs H) e ⟨dst, .load t X, ty, pos, after, guard⟩ x :=
  opj_load_own (en := ⟨g, T, xs, c⟩) ha hx hm h0
theorem zcg {R0 : World → Prop} {t : TypeId} {d : TypeDesc} {z : Value} {sz b : Nat} {X : Operand} {g i c : Nat} {T : TypeId} {xs ys : List AV} [hd : TyU P t d] [hi : TyI P t z sz b] (ha : aggD d = true) (hx : e.ev X = some (.raw (.pointer (some ⟨g, i, none⟩)))) (hm : (⟨g, T, xs, c⟩ : Ent) ∈ H) (hl : Nat.ble (i + sz) xs.length = true) (hy : (xs.drop i).take sz = ys) :
    OpJ P (StR R0 w0 gs H) e ⟨dst, .load t X, ty, pos, after, guard⟩ (.agg ys) := by
  subst hy
  exact opj_loadAO (en := ⟨g, T, xs, c⟩) ha hx hm (Nat.le_of_ble_eq_true hl)
theorem zam (k : Nat) {g i c : Nat} {T : TypeId} {xs ys : List AV} {t : TypeId} {z : Value} {b : Nat} [hi : TyI P t z 1 b] {A X : Operand} {x : AV} (hA : e.ev A = some (.raw (.pointer (some ⟨g, i, none⟩)))) (hx : e.ev X = some x) (h1 : oneAV x = true) (hH : H[k]? = some ⟨g, T, xs, c⟩) (hi' : Nat.blt i c = true) (hy : xs.set i x = ys)
    (hk : RS P N ops l e.keep (StR R w0 gs (H.set k ⟨g, T, ys, c⟩)) Q) :
    RS P N ops (⟨none, .store t A X, ty, pos, after, none⟩ :: l) e (StR R w0 gs H) Q := by
  subst hy
  exact rs_storeAt k (en := ⟨g, T, xs, c⟩) hA hx h1 hH (Nat.le_of_ble_eq_true hi') hk
theorem zan (k : Nat) {g i c : Nat} {T : TypeId} {xs zs : List AV} {t : TypeId} {z : Value} {sz b : Nat} [hi : TyI P t z sz b] {A X : Operand} {ys : List AV} (hA : e.ev A = some (.raw (.pointer (some ⟨g, i, none⟩)))) (hx : e.ev X = some (.agg ys)) (h1 : ys.all AV.one = true) (hs : AV.stillL ys = true)
    (hH : H[k]? = some ⟨g, T, xs, c⟩) (hl : ys.length = sz) (hi' : Nat.ble (i + sz) xs.length = true) (hc : xs.length = c) (hz : splice i ys xs = zs)
    (hk : RS P N ops l e.keep (StR R w0 gs (H.set k ⟨g, T, zs, c⟩)) Q) :
    RS P N ops (⟨none, .store t A X, ty, pos, after, none⟩ :: l) e (StR R w0 gs H) Q := by
  subst hz
  exact rs_storeA k (en := ⟨g, T, xs, c⟩) hA hx h1 hs hH hl (Nat.le_of_ble_eq_true hi') hc hk
/-- A struct that lies in a block of its own is what is returned. -/
theorem done_retC {R0 : World → Prop} {X : Type} {mk : X → AV} {post : X → List Ent} {good : X → Prop} {fn : Func} {p : Tmp} {t : TypeId} {d : TypeDesc} {z : Value} {sz b : Nat} {en : Ent} [hd : TyU P t d] [hi : TyI P t z sz b] (ha : aggD d = true) (hr : fn.results = #[.cell p t]) (y : X)
    (hp : e.look p = some (.raw (.pointer (some ⟨en.g, 0, none⟩)))) (hm : en ∈ H) (hl : en.xs.length = sz) (hmk : mk y = .agg en.xs) (hy : good y) (hs : (post y).Sublist H) :
    Done .ret e (StR R0 w0 gs H) (Ret P fn N w0 gs mk post good) := fun w hw =>
  ⟨.inl rfl, y, hy, hw.mod, fun x hx => ⟨(hw.own x (hs.subset hx)).2, (hw.own x (hs.subset hx)).1⟩, (hw.weak hs).nodup, fun a hF => by
    obtain ⟨u, hu, hru⟩ := hF.rel p _ hp
    have := hru.inv_raw
    subst this
    obtain ⟨cs, hrun, hrel⟩ := run_loadA (P := P) (t := t) (w := w) ha (bb := ⟨en.g, 0, none⟩) rfl (xs := en.xs) hl (fun j x hj => (hw.own en hm).2.cell (by simpa using hj))
    refine ⟨.agg cs.toArray, ?_, by rw [hmk]; exact .agg hrel⟩
    simp [results, hr, hu, asAddr, hrun]⟩
theorem done_retX {R0 : World → Prop} {X : Type} {mk : X → AV} {post : X → List Ent} {good : X → Prop} {fn : Func} {p : Tmp} {t : TypeId} {d : TypeDesc} {z : Value} {sz b g c : Nat} {T : TypeId} {xs ys : List AV} [hd : TyU P t d] [hi : TyI P t z sz b] (ha : aggD d = true) (hr : fn.results = #[.cell p t]) (y : X)
    (hp : e.look p = some (.raw (.pointer (some ⟨g, 0, none⟩)))) (hm : (⟨g, T, xs, c⟩ : Ent) ∈ H) (hl : Nat.beq xs.length sz = true) (hmk : mk y = .agg ys) (hxy : ys = xs) (hy : good y) (hs : (post y).Sublist H) :
    Done .ret e (StR R0 w0 gs H) (Ret P fn N w0 gs mk post good) := by
  subst hxy
  exact done_retC (en := ⟨g, T, ys, c⟩) ha hr y hp hm (Nat.eq_of_beq_eq_true hl) hmk hy hs
end
end Go.Ab
namespace Go.Ab
open Go.Proofs
instance ty2 : TyU Try.prog 2 (.int .i64) := ⟨by kernel_rfl⟩
instance ty3 : TyU Try.prog 3 (.int .i64) := ⟨by kernel_rfl⟩
instance ti3 : TyI Try.prog 3 (.int .i64 0) 1 8 := ⟨⟨(Try.prog.info? 3).getD default, by kernel_rfl, by kernel_rfl, by kernel_rfl, by kernel_rfl⟩⟩
instance ty4 : TyU Try.prog 4 (.bool) := ⟨by kernel_rfl⟩
instance ty5 : TyU Try.prog 5 (.int .u8) := ⟨by kernel_rfl⟩
instance ti5 : TyI Try.prog 5 (.int .u8 0) 1 1 := ⟨⟨(Try.prog.info? 5).getD default, by kernel_rfl, by kernel_rfl, by kernel_rfl, by kernel_rfl⟩⟩
instance ty22 : TyU Try.prog 22 (.slice 5) := ⟨by kernel_rfl⟩
instance ty24 : TyU Try.prog 24 (.slice 31) := ⟨by kernel_rfl⟩
instance ti24 : TyI Try.prog 24 (.slice none 0 0) 1 24 := ⟨⟨(Try.prog.info? 24).getD default, by kernel_rfl, by kernel_rfl, by kernel_rfl, by kernel_rfl⟩⟩
instance ty25 : TyU Try.prog 25 (.slice 30) := ⟨by kernel_rfl⟩
instance ti25 : TyI Try.prog 25 (.slice none 0 0) 1 24 := ⟨⟨(Try.prog.info? 25).getD default, by kernel_rfl, by kernel_rfl, by kernel_rfl, by kernel_rfl⟩⟩
instance ty27 : TyU Try.prog 27 (.struct (Try.prog.fieldsOf 26)) := ⟨by kernel_rfl⟩
instance ti27 : TyI Try.prog 27 (.agg #[.slice none 0 0, .slice none 0 0]) 2 48 := ⟨⟨(Try.prog.info? 27).getD default, by kernel_rfl, by kernel_rfl, by kernel_rfl, by kernel_rfl⟩⟩
instance ty30 : TyU Try.prog 30 (.float .f32) := ⟨by kernel_rfl⟩
instance ti30 : TyI Try.prog 30 (.float .f32 0) 1 4 := ⟨⟨(Try.prog.info? 30).getD default, by kernel_rfl, by kernel_rfl, by kernel_rfl, by kernel_rfl⟩⟩
instance ty31 : TyU Try.prog 31 (.complex .f32) := ⟨by kernel_rfl⟩
instance ti31 : TyI Try.prog 31 (.complex .f32 0 0) 1 8 := ⟨⟨(Try.prog.info? 31).getD default, by kernel_rfl, by kernel_rfl, by kernel_rfl, by kernel_rfl⟩⟩
instance ty35 : TyU Try.prog 35 (.float .f64) := ⟨by kernel_rfl⟩
instance ty69 : TyU Try.prog 69 (.int .u64) := ⟨by kernel_rfl⟩
instance ti69 : TyI Try.prog 69 (.int .u64 0) 1 8 := ⟨⟨(Try.prog.info? 69).getD default, by kernel_rfl, by kernel_rfl, by kernel_rfl, by kernel_rfl⟩⟩
instance ty83 : TyU Try.prog 83 (.int .u64) := ⟨by kernel_rfl⟩
instance hb4 : HasBody Try.prog 4 := ⟨⟨Try.f4, Try.func4, rfl, by kernel_rfl⟩⟩
instance hb5 : HasBody Try.prog 5 := ⟨⟨Try.f5, Try.func5, rfl, by kernel_rfl⟩⟩
instance hb6 : HasBody Try.prog 6 := ⟨⟨Try.f6, Try.func6, rfl, by kernel_rfl⟩⟩
instance hb7 : HasBody Try.prog 7 := ⟨⟨Try.f7, Try.func7, rfl, by kernel_rfl⟩⟩
instance hb8 : HasBody Try.prog 8 := ⟨⟨Try.f8, Try.func8, rfl, by kernel_rfl⟩⟩
instance hb9 : HasBody Try.prog 9 := ⟨⟨Try.f9, Try.func9, rfl, by kernel_rfl⟩⟩
instance hb10 : HasBody Try.prog 10 := ⟨⟨Try.f10, Try.func10, rfl, by kernel_rfl⟩⟩
instance hb11 : HasBody Try.prog 11 := ⟨⟨Try.f11, Try.func11, rfl, by kernel_rfl⟩⟩
instance hb12 : HasBody Try.prog 12 := ⟨⟨Try.f12, Try.func12, rfl, by kernel_rfl⟩⟩
instance hb13 : HasBody Try.prog 13 := ⟨⟨Try.f13, Try.func13, rfl, by kernel_rfl⟩⟩
instance hb14 : HasBody Try.prog 14 := ⟨⟨Try.f14, Try.func14, rfl, by kernel_rfl⟩⟩
instance hb15 : HasBody Try.prog 15 := ⟨⟨Try.f15, Try.func15, rfl, by kernel_rfl⟩⟩
instance hb16 : HasBody Try.prog 16 := ⟨⟨Try.f16, Try.func16, rfl, by kernel_rfl⟩⟩
instance hb17 : HasBody Try.prog 17 := ⟨⟨Try.f17, Try.func17, rfl, by kernel_rfl⟩⟩
instance hb18 : HasBody Try.prog 18 := ⟨⟨Try.f18, Try.func18, rfl, by kernel_rfl⟩⟩
instance hb19 : HasBody Try.prog 19 := ⟨⟨Try.f19, Try.func19, rfl, by kernel_rfl⟩⟩
instance hb20 : HasBody Try.prog 20 := ⟨⟨Try.f20, Try.func20, rfl, by kernel_rfl⟩⟩
instance hb21 : HasBody Try.prog 21 := ⟨⟨Try.f21, Try.func21, rfl, by kernel_rfl⟩⟩
instance hb22 : HasBody Try.prog 22 := ⟨⟨Try.f22, Try.func22, rfl, by kernel_rfl⟩⟩
instance hb23 : HasBody Try.prog 23 := ⟨⟨Try.f23, Try.func23, rfl, by kernel_rfl⟩⟩
instance hb24 : HasBody Try.prog 24 := ⟨⟨Try.f24, Try.func24, rfl, by kernel_rfl⟩⟩
instance hb25 : HasBody Try.prog 25 := ⟨⟨Try.f25, Try.func25, rfl, by kernel_rfl⟩⟩
instance hb26 : HasBody Try.prog 26 := ⟨⟨Try.f26, Try.func26, rfl, by kernel_rfl⟩⟩
instance hb27 : HasBody Try.prog 27 := ⟨⟨Try.f27, Try.func27, rfl, by kernel_rfl⟩⟩
instance hb28 : HasBody Try.prog 28 := ⟨⟨Try.f28, Try.func28, rfl, by kernel_rfl⟩⟩
instance hb29 : HasBody Try.prog 29 := ⟨⟨Try.f29, Try.func29, rfl, by kernel_rfl⟩⟩
instance hb30 : HasBody Try.prog 30 := ⟨⟨Try.f30, Try.func30, rfl, by kernel_rfl⟩⟩
instance hb31 : HasBody Try.prog 31 := ⟨⟨Try.f31, Try.func31, rfl, by kernel_rfl⟩⟩
instance hb32 : HasBody Try.prog 32 := ⟨⟨Try.f32, Try.func32, rfl, by kernel_rfl⟩⟩
instance hb33 : HasBody Try.prog 33 := ⟨⟨Try.f33, Try.func33, rfl, by kernel_rfl⟩⟩
instance hb34 : HasBody Try.prog 34 := ⟨⟨Try.f34, Try.func34, rfl, by kernel_rfl⟩⟩
instance hb35 : HasBody Try.prog 35 := ⟨⟨Try.f35, Try.func35, rfl, by kernel_rfl⟩⟩
instance hb36 : HasBody Try.prog 36 := ⟨⟨Try.f36, Try.func36, rfl, by kernel_rfl⟩⟩
instance hb37 : HasBody Try.prog 37 := ⟨⟨Try.f37, Try.func37, rfl, by kernel_rfl⟩⟩
instance hb38 : HasBody Try.prog 38 := ⟨⟨Try.f38, Try.func38, rfl, by kernel_rfl⟩⟩
instance hb39 : HasBody Try.prog 39 := ⟨⟨Try.f39, Try.func39, rfl, by kernel_rfl⟩⟩
instance hb40 : HasBody Try.prog 40 := ⟨⟨Try.f40, Try.func40, rfl, by kernel_rfl⟩⟩
instance hb41 : HasBody Try.prog 41 := ⟨⟨Try.f41, Try.func41, rfl, by kernel_rfl⟩⟩
instance hb42 : HasBody Try.prog 42 := ⟨⟨Try.f42, Try.func42, rfl, by kernel_rfl⟩⟩
instance hb43 : HasBody Try.prog 43 := ⟨⟨Try.f43, Try.func43, rfl, by kernel_rfl⟩⟩
instance hb44 : HasBody Try.prog 44 := ⟨⟨Try.f44, Try.func44, rfl, by kernel_rfl⟩⟩
instance hb45 : HasBody Try.prog 45 := ⟨⟨Try.f45, Try.func45, rfl, by kernel_rfl⟩⟩
instance hb46 : HasBody Try.prog 46 := ⟨⟨Try.f46, Try.func46, rfl, by kernel_rfl⟩⟩
instance hb47 : HasBody Try.prog 47 := ⟨⟨Try.f47, Try.func47, rfl, by kernel_rfl⟩⟩
instance hb48 : HasBody Try.prog 48 := ⟨⟨Try.f48, Try.func48, rfl, by kernel_rfl⟩⟩
instance hb49 : HasBody Try.prog 49 := ⟨⟨Try.f49, Try.func49, rfl, by kernel_rfl⟩⟩
instance hb50 : HasBody Try.prog 50 := ⟨⟨Try.f50, Try.func50, rfl, by kernel_rfl⟩⟩
instance hb51 : HasBody Try.prog 51 := ⟨⟨Try.f51, Try.func51, rfl, by kernel_rfl⟩⟩
instance hb52 : HasBody Try.prog 52 := ⟨⟨Try.f52, Try.func52, rfl, by kernel_rfl⟩⟩
instance hb53 : HasBody Try.prog 53 := ⟨⟨Try.f53, Try.func53, rfl, by kernel_rfl⟩⟩
instance hb54 : HasBody Try.prog 54 := ⟨⟨Try.f54, Try.func54, rfl, by kernel_rfl⟩⟩
instance hb55 : HasBody Try.prog 55 := ⟨⟨Try.f55, Try.func55, rfl, by kernel_rfl⟩⟩
instance hb56 : HasBody Try.prog 56 := ⟨⟨Try.f56, Try.func56, rfl, by kernel_rfl⟩⟩
instance hb57 : HasBody Try.prog 57 := ⟨⟨Try.f57, Try.func57, rfl, by kernel_rfl⟩⟩
instance hb58 : HasBody Try.prog 58 := ⟨⟨Try.f58, Try.func58, rfl, by kernel_rfl⟩⟩
instance hb59 : HasBody Try.prog 59 := ⟨⟨Try.f59, Try.func59, rfl, by kernel_rfl⟩⟩
instance hb60 : HasBody Try.prog 60 := ⟨⟨Try.f60, Try.func60, rfl, by kernel_rfl⟩⟩
instance hb61 : HasBody Try.prog 61 := ⟨⟨Try.f61, Try.func61, rfl, by kernel_rfl⟩⟩
instance hb62 : HasBody Try.prog 62 := ⟨⟨Try.f62, Try.func62, rfl, by kernel_rfl⟩⟩
instance hb64 : HasBody Try.prog 64 := ⟨⟨Try.f64, Try.func64, rfl, by kernel_rfl⟩⟩
instance hb65 : HasBody Try.prog 65 := ⟨⟨Try.f65, Try.func65, rfl, by kernel_rfl⟩⟩
instance hb66 : HasBody Try.prog 66 := ⟨⟨Try.f66, Try.func66, rfl, by kernel_rfl⟩⟩
instance hb67 : HasBody Try.prog 67 := ⟨⟨Try.f67, Try.func67, rfl, by kernel_rfl⟩⟩
instance hb68 : HasBody Try.prog 68 := ⟨⟨Try.f68, Try.func68, rfl, by kernel_rfl⟩⟩
instance hb69 : HasBody Try.prog 69 := ⟨⟨Try.f69, Try.func69, rfl, by kernel_rfl⟩⟩
instance hb70 : HasBody Try.prog 70 := ⟨⟨Try.f70, Try.func70, rfl, by kernel_rfl⟩⟩
instance hb71 : HasBody Try.prog 71 := ⟨⟨Try.f71, Try.func71, rfl, by kernel_rfl⟩⟩
instance hb72 : HasBody Try.prog 72 := ⟨⟨Try.f72, Try.func72, rfl, by kernel_rfl⟩⟩
instance hb73 : HasBody Try.prog 73 := ⟨⟨Try.f73, Try.func73, rfl, by kernel_rfl⟩⟩
instance hb74 : HasBody Try.prog 74 := ⟨⟨Try.f74, Try.func74, rfl, by kernel_rfl⟩⟩
instance hb75 : HasBody Try.prog 75 := ⟨⟨Try.f75, Try.func75, rfl, by kernel_rfl⟩⟩
instance hb76 : HasBody Try.prog 76 := ⟨⟨Try.f76, Try.func76, rfl, by kernel_rfl⟩⟩
instance hb77 : HasBody Try.prog 77 := ⟨⟨Try.f77, Try.func77, rfl, by kernel_rfl⟩⟩
instance hb78 : HasBody Try.prog 78 := ⟨⟨Try.f78, Try.func78, rfl, by kernel_rfl⟩⟩
instance hb79 : HasBody Try.prog 79 := ⟨⟨Try.f79, Try.func79, rfl, by kernel_rfl⟩⟩
instance hb81 : HasBody Try.prog 81 := ⟨⟨Try.f81, Try.func81, rfl, by kernel_rfl⟩⟩
instance hb82 : HasBody Try.prog 82 := ⟨⟨Try.f82, Try.func82, rfl, by kernel_rfl⟩⟩
instance hb83 : HasBody Try.prog 83 := ⟨⟨Try.f83, Try.func83, rfl, by kernel_rfl⟩⟩
instance hb84 : HasBody Try.prog 84 := ⟨⟨Try.f84, Try.func84, rfl, by kernel_rfl⟩⟩
instance hb85 : HasBody Try.prog 85 := ⟨⟨Try.f85, Try.func85, rfl, by kernel_rfl⟩⟩
instance hb86 : HasBody Try.prog 86 := ⟨⟨Try.f86, Try.func86, rfl, by kernel_rfl⟩⟩
instance hb87 : HasBody Try.prog 87 := ⟨⟨Try.f87, Try.func87, rfl, by kernel_rfl⟩⟩
instance hb88 : HasBody Try.prog 88 := ⟨⟨Try.f88, Try.func88, rfl, by kernel_rfl⟩⟩
instance hb89 : HasBody Try.prog 89 := ⟨⟨Try.f89, Try.func89, rfl, by kernel_rfl⟩⟩
instance hb90 : HasBody Try.prog 90 := ⟨⟨Try.f90, Try.func90, rfl, by kernel_rfl⟩⟩
instance hb92 : HasBody Try.prog 92 := ⟨⟨Try.f92, Try.func92, rfl, by kernel_rfl⟩⟩
theorem mixed : Try.prog.follows .mixedOrders = true := by kernel_rfl
end Go.Ab
namespace Go.Ab
open Go.Proofs
attribute [local irreducible] WS RS Done OpJ Then InBlock Round Ret Env.sub FnH
/-- Slices of float32 as they came in. -/
abbrev slF (w : World) (L : List FV) : AV := AV.sl w 1 (L.map (AV.f .f32))
/-- Finite. -/
def finB (x : FV) : Bool := cmpB .eql (fcmp .f32 (fbin .sub .f32 x x) (fv .f32 0))

theorem isFinite_fn (x : FV) : Fn Try.prog 28 (fun _ => [.f .f32 x]) (.raw (.bool (finB x))) := by
  refine fn_intro Try.func28 rfl Try.ntmps28 (fun _ => Nat.le_of_ble_eq_true rfl) fun w0 => ?_
  repeat first | refine zaa rfl (zay rfl) ?_ | refine zaa rfl (zaz rfl) ?_ | (refine zac ?_; first | refine zaa rfl (zba rfl rfl rfl) ?_ | refine zaa rfl (zbd rfl rfl rfl) ?_) | refine zah ?_ | (refine zcr ?_; refine zcs ?_) | (refine zdb ?_; first | refine zdc ?_ | refine zdd ?_ | refine zdg ?_)
  exact done_ret1 rfl () rfl trivial (List.nil_sublist _)
theorem l01Finite_fn (x : FV) : Fn Try.prog 72 (fun _ => [.f .f32 x]) (.raw (.bool (finB x))) := by
  refine fn_intro Try.func72 rfl Try.ntmps72 (fun _ => Nat.le_of_ble_eq_true rfl) fun w0 => ?_
  repeat first | refine zaa rfl (zay rfl) ?_ | refine zaa rfl (zaz rfl) ?_ | (refine zac ?_; first | refine zaa rfl (zba rfl rfl rfl) ?_ | refine zaa rfl (zbd rfl rfl rfl) ?_) | refine zah ?_ | (refine zcr ?_; refine zcs ?_) | (refine zdb ?_; first | refine zdc ?_ | refine zdd ?_ | refine zdg ?_)
  exact done_ret1 rfl () rfl trivial (List.nil_sublist _)
/-- The first place at which p holds. -/
def idxOf {α : Type} (p : α → Bool) (L : List α) : Int := match L.findIdx? p with
  | some i => i
  | none => -1
theorem idxOf_found {α : Type} [Inhabited α] {p : α → Bool} {L : List α} {k : Nat} (hk : k < L.length) (hall : ∀ i, i < k → p (L.getD i default) = false) (h : p (L.getD k default) = true) : idxOf p L = k := by
  have hg : L.getD k default = L[k] := by simp [List.getD, hk]
  have : L.findIdx? p = some k := by
    rw [List.findIdx?_eq_some_iff_getElem]
    refine ⟨hk, by rw [← hg]; exact h, fun j hj => ?_⟩
    have := hall j hj
    have hgj : L.getD j default = L[j]'(by omega) := by simp [List.getD, show j < L.length by omega]
    rw [hgj] at this; simp [this]
  simp [idxOf, this]
theorem idxOf_none {α : Type} [Inhabited α] {p : α → Bool} {L : List α} (hall : ∀ i, i < L.length → p (L.getD i default) = false) : idxOf p L = -1 := by
  have : L.findIdx? p = none := by
    rw [List.findIdx?_eq_none_iff]
    intro x hx
    obtain ⟨i, hi, rfl⟩ := List.mem_iff_getElem.1 hx
    have := hall i hi
    have hgj : L.getD i default = L[i] := by simp [List.getD, hi]
    rw [hgj] at this; exact this
  simp [idxOf, this]
theorem idxOf_nonneg {α : Type} (p : α → Bool) (L : List α) : decide (0 ≤ idxOf p L) = L.any p := by
  unfold idxOf
  cases h : L.findIdx? p with
  | none =>
    rw [List.findIdx?_eq_none_iff] at h
    have : L.any p = false := by rw [List.any_eq_false]; intro x hx; simp [h x hx]
    simp [this]
  | some i =>
    rw [List.findIdx?_eq_some_iff_getElem] at h
    obtain ⟨hi, hp, _⟩ := h
    have : L.any p = true := List.any_eq_true.2 ⟨_, List.getElem_mem hi, hp⟩
    simp [this]

theorem indexFunc_fn (L : List FV) (hL : L.length < 2 ^ 62) (c : FuncId) [HasBody Try.prog c] (p : FV → Bool) (hp : ∀ x, Fn Try.prog c (fun _ => [.f .f32 x]) (.raw (.bool (p x)))) :
    Fn Try.prog 83 (fun w => [slF w L, .raw (.func (.func c) #[] #[])]) (.raw (.int .i64 (idxOf p L))) := by
  refine fn_intro Try.func83 rfl Try.ntmps83 (fun _ => Nat.le_of_ble_eq_true rfl) fun w0 => ?_
  repeat first | refine zaa rfl (zay rfl) ?_ | refine zaa rfl (zaz rfl) ?_ | (refine zad ?_; refine zaa rfl (zbm rfl) ?_) | refine zah ?_ | (refine zcr ?_; refine zcs ?_) | (refine zdb ?_; first | refine zdc ?_ | refine zdd ?_ | refine zde ?_)
  refine ws_loop (ι := Nat) (fun k => [(0, slF w0 L), (1, .raw (.func (.func c) #[] #[])), (7, .raw (.int .i64 L.length)), (8, .raw (.int .i64 k))]) (fun _ => St w0 [] []) (fun k => k ≤ L.length ∧ ∀ i, i < k → p (L.getD i default) = false) (fun k => L.length - k) 0 ⟨Nat.zero_le _, fun i hi => by omega⟩ ?_ (fun _ h => h) (fun k hk => ?_)
  · (repeat (first | exact Env.sub_nil _ | refine Env.sub_cons rfl ?_))
  · obtain ⟨hk, hall⟩ := hk
    repeat first | (refine zac ?_; refine zaa rfl (zbe rfl rfl) ?_) | refine zah ?_ | (refine zcr ?_; refine zcs ?_) | (refine zdb ?_; first | refine zdc ?_ | refine zdd ?_)
    refine ws_cond rfl (fun hc => ?_) (fun hc => ?_)
    · have hlt : (k : Int) < L.length := of_decide_eq_true hc
      repeat first | refine zaa rfl (zay rfl) ?_ | refine zaa rfl (zaz rfl) ?_ | (refine zad ?_; refine zaa rfl (zci rfl rfl (hp _) (by (repeat (first | exact Takes.nil | refine Takes.sl ?_ | refine Takes.own (by (repeat (first | exact mh | refine mt ?_)); done) (by simp) (by omega) (by simp only [maxLen]; omega) ?_ | refine Takes.same ?_)); done)) ?_) | refine zaa rfl (zbu rfl rfl) ?_ | refine zaa rfl (zbv rfl rfl (by omega) (by omega)) ?_ | refine zah ?_ | (refine zcr ?_; refine zcs ?_) | (refine zdb ?_; first | refine zdc ?_ | refine zdd ?_ | refine zde ?_ | refine zdf ?_)
      refine ws_cond rfl (fun hd => ?_) (fun hd => ?_)
      · repeat first | refine zaa rfl (zay rfl) ?_ | refine zaa rfl (zaz rfl) ?_ | refine zah ?_ | (refine zcr ?_; first | refine zcs ?_ | refine zct ?_ | refine zcw ?_ | refine zcz ?_) | (refine zdb ?_; first | refine zdc ?_ | refine zdd ?_ | refine zdg ?_)
        exact done_ret1 rfl () (by rw [idxOf_found (by omega) hall hd]; rfl) trivial (List.nil_sublist _)
      · repeat first | refine zaa rfl (zay rfl) ?_ | (refine zac ?_; refine zaa rfl (zbb rfl rfl (by omega)) ?_) | refine zah ?_ | (refine zcr ?_; first | refine zcs ?_ | refine zcv ?_) | (refine zdb ?_; first | refine zdd ?_ | refine zdf ?_)
        refine done_round (k + 1) ⟨by omega, fun i hi => ?_⟩ (by omega) ?_ (fun _ h => h)
        · rcases Nat.lt_or_ge i k with h | h
          · exact hall i h
          · obtain rfl : i = k := by omega
            exact hd
        · (repeat (first | exact Env.sub_nil _ | refine Env.sub_cons rfl ?_))
    · have hge : ¬ (k : Int) < L.length := of_decide_eq_false hc
      repeat first | refine zaa rfl (zaz rfl) ?_ | refine zah ?_ | (refine zcr ?_; first | refine zcs ?_ | refine zcu ?_ | refine zcx ?_ | refine zda ?_) | (refine zdb ?_; first | refine zdc ?_ | refine zdd ?_ | refine zdg ?_ | refine zdh ?_)
      exact done_ret1 rfl () (by rw [idxOf_none (fun i hi => hall i (by omega))]; rfl) trivial (List.nil_sublist _)
theorem containsFunc_fn (L : List FV) (hL : L.length < 2 ^ 62) (c : FuncId) [HasBody Try.prog c] (p : FV → Bool) (hp : ∀ x, Fn Try.prog c (fun _ => [.f .f32 x]) (.raw (.bool (p x)))) :
    Fn Try.prog 69 (fun w => [slF w L, .raw (.func (.func c) #[] #[])]) (.raw (.bool (L.any p))) := by
  refine fn_intro Try.func69 rfl Try.ntmps69 (fun _ => Nat.le_of_ble_eq_true rfl) fun w0 => ?_
  repeat first | refine zaa rfl (zay rfl) ?_ | refine zaa rfl (zaz rfl) ?_ | (refine zac ?_; refine zaa rfl (zbh rfl rfl) ?_) | (refine zad ?_; (refine zaa rfl (zci rfl rfl (indexFunc_fn _ hL _ _ hp) ?_) ?_; (focus ((repeat (first | exact Takes.nil | refine Takes.sl ?_ | refine Takes.own (by (repeat (first | exact mh | refine mt ?_)); done) (by simp) (by omega) (by simp only [maxLen]; omega) ?_ | refine Takes.same ?_)); done)))) | refine zah ?_ | (refine zcr ?_; refine zcs ?_) | (refine zdb ?_; first | refine zdc ?_ | refine zdd ?_ | refine zdg ?_)
  exact done_ret1 rfl () (by rw [← idxOf_nonneg]; rfl) trivial (List.nil_sublist _)
end Go.Ab
namespace Go.Ab
theorem cut_le (neg : Bool) (n d b : Nat) (h : n < 2 ^ (b + 1 + d)) : Ieee.Toward.even.cut neg n d ≤ 2 ^ (b + 1) := by
  unfold Ieee.Toward.cut
  dsimp only
  have hx : ∀ x : Bool, x.toNat ≤ 1 := fun x => by cases x <;> simp
  have hp : 0 < 2 ^ (b + 1) := Nat.two_pow_pos _
  refine Nat.le_trans (Nat.add_le_add_left (hx _) _) ?_
  rw [Nat.one_shiftLeft]
  rcases Nat.le_total d (n.log2 + 2) with hm | hm
  · rw [Nat.min_eq_left hm]
    have : n / 2 ^ d < 2 ^ (b + 1) := by
      rw [Nat.div_lt_iff_lt_mul (Nat.two_pow_pos _), ← Nat.pow_add]
      exact h
    omega
  · rw [Nat.min_eq_right hm]
    have : n / 2 ^ (n.log2 + 2) = 0 := Nat.div_eq_of_lt (Nat.lt_of_lt_of_le Nat.lt_log2_self (Nat.pow_le_pow_right (by decide) (by omega)))
    omega

def fsqrt (x : FV) : FV := x.bind fun b => FloatKind.f64.format.sqrt b
end Go.Ab
namespace Go.Ab
open Go.Proofs
/-- Function number f has no body; the model carries it out. -/
class ExtFn (P : Program) (f : FuncId) (r : outParam (Array Value → Sem Value)) : Prop where
  h : ∃ fn, P.funcs[f]? = some fn ∧ fn.body = none ∧ (fn.name == "runtime.NumGoroutine") = false ∧ Extern.findNext fn = none ∧ Extern.find fn = some r
theorem run_ext {P : Program} {f : FuncId} {r : Array Value → Sem Value} [h : ExtFn P f r] {args : Array Value} {w w' : World} {v : Value} (hr : (r args).run P w = .ok v w') : (callFunc f args).run P w = .ok (.value v) w' := by
  obtain ⟨fn, hf, hb, hn, h1, h2⟩ := h.h
  have h3 : ¬ fn.name = "runtime.NumGoroutine" := by simpa using hn
  have hm : ∀ (m : Mark) (w : World), Sem.run P (Sem.mark m (Sem.pure ())) w = .ok () w := fun _ _ => rfl
  simp [callFunc, hf, hb, h3, h1, h2, mark, hr, hm]
theorem sqrt_not_nan {b r : Nat} (h : FloatKind.f64.format.sqrt b = some r) : (FloatKind.f64.decode r).isNaN = false ∧ r < 2 ^ FloatKind.f64.format.width := by
  unfold Ieee.Format.sqrt at h
  cases hd : (FloatKind.f64.format.read b).root (FloatKind.f64.format.fractionBits + 2) with
  | none => simp [hd] at h
  | some d =>
    simp only [hd, Option.map_some, Option.some.injEq] at h
    subst h
    refine ⟨write_not_nan _ d ?_, FloatKind.f64.format.write_lt d⟩
    cases hx : FloatKind.f64.format.read b with
    | nan s t => rw [hx] at hd; cases hd
    | infinity s =>
      rw [hx] at hd
      cases s <;> simp [Ieee.Datum.root] at hd
      subst hd; rfl
    | number s m i =>
      rw [hx] at hd
      simp only [Ieee.Datum.root] at hd
      split at hd
      · cases hd; rfl
      · split at hd
        · cases hd
        · cases hd; rfl
theorem run_sqrt (P : Program) (w : World) (b : Nat) : ∃ r w', (Extern.MathSqrt.sqrt #[.float .f64 b]).run P w = .ok (.float .f64 r) w' ∧ Quiet w w' ∧ fv .f64 r = fsqrt (fv .f64 b) ∧ r < 2 ^ FloatKind.f64.format.width := by
  have hfv : fsqrt (fv .f64 b) = FloatKind.f64.format.sqrt b := by
    cases hn : (FloatKind.f64.decode b).isNaN with
    | false => rw [fv_some hn]; rfl
    | true =>
      obtain ⟨s, t, e⟩ := isNaN_cases hn
      have e' : FloatKind.f64.format.read b = .nan s t := e
      rw [fv_nan hn]
      simp [fsqrt, Ieee.Format.sqrt, e', Ieee.Datum.root]
  rw [hfv]
  have hs : Extern.MathSqrt.sqrt #[.float .f64 b] = (match FloatKind.f64.format.sqrt b with
    | some r => pure (.float .f64 r)
    | none => do pure (.float .f64 (← choose (.nanBits .f64 b b)))) := rfl
  rw [hs]
  cases h : FloatKind.f64.format.sqrt b with
  | some r => exact ⟨r, w, by simp, .inl rfl, fv_some (sqrt_not_nan h).1, (sqrt_not_nan h).2⟩
  | none =>
    have hc := nanBits_cut .f64 b b (w.tape w.drawn (.nanBits .f64 b b))
    exact ⟨_, { w with drawn := w.drawn + 1 }, by simp [choose, Sem.run, Question.forced], .inr rfl, hc.1, hc.2⟩
theorem opj_sqrt {P : Program} {S : World → Prop} {e : Env} {c : FuncId} [hc : ExtFn P c Extern.MathSqrt.sqrt] {F X : Operand} {x : FV} {dst : Option Tmp} {ts : Array TypeId} {ty : TypeId} {pos : String} {after : Array Edge} {guard : Option (Nat × Bool)}
    (hF : e.ev F = some (.raw (.func (.func c) #[] #[]))) (hX : e.ev X = some (.f .f64 x)) : OpJ P S e ⟨dst, .call { callee := .value F, args := #[X], argTypes := ts }, ty, pos, after, guard⟩ (.f .f64 (fsqrt x)) :=
  opj_value fun a w _ h => by
    have h1 := (h F (by simp [Op.operands, Call.operands]) _ hF).inv_raw
    obtain ⟨b, h2, e2, hb⟩ := (h X (by simp [Op.operands, Call.operands]) _ hX).inv_f
    obtain ⟨r, w', hr, hq, hv, hl⟩ := run_sqrt P w b
    refine ⟨.float .f64 r, w', ?_, Ext.of_quiet hq, Rel.f' hl (by rw [hv, e2])⟩
    have := run_ext (h := hc) hr
    simp [execOp, resolve, h1, h2, Deferred.ofValue, invoke, this]
instance extSqrt : ExtFn Try.prog 80 Extern.MathSqrt.sqrt := ⟨⟨(Try.prog.funcs[80]?).getD default, by kernel_rfl, by kernel_rfl, by kernel_rfl, by kernel_rfl, by kernel_rfl⟩⟩
instance hbSqrt : HasBody Try.prog 63 := ⟨⟨Try.f63, Try.func63, rfl, by kernel_rfl⟩⟩
attribute [local irreducible] WS RS Done OpJ Then InBlock Round Ret Env.sub FnH
theorem mathSqrt_fn (x : FV) : Fn Try.prog 63 (fun _ => [.f .f64 x]) (.f .f64 (fsqrt x)) := by
  refine fn_intro Try.func63 rfl Try.ntmps63 (fun _ => Nat.le_of_ble_eq_true rfl) fun w0 => ?_
  repeat first | refine zaa rfl (zay rfl) ?_ | refine zaa rfl (zaz rfl) ?_ | refine zah ?_ | (refine zcr ?_; refine zcs ?_) | (refine zdb ?_; first | refine zdc ?_ | refine zdd ?_ | refine zdg ?_) | refine zaa rfl (opj_sqrt rfl rfl) ?_
  exact done_ret1 rfl () rfl trivial (List.nil_sublist _)
theorem l01Narrow_fn (x : FV) (h : ConvOk .f64 .f32 x) : Fn Try.prog 62 (fun _ => [.f .f64 x]) (.f .f32 (fconv .f64 .f32 x)) := by
  refine fn_intro Try.func62 rfl Try.ntmps62 (fun _ => Nat.le_of_ble_eq_true rfl) fun w0 => ?_
  repeat first | refine zaa rfl (zay rfl) ?_ | refine zaa rfl (zaz rfl) ?_ | refine zah ?_ | (refine zcr ?_; refine zcs ?_) | (refine zdb ?_; first | refine zdc ?_ | refine zdd ?_ | refine zdg ?_) | refine zaa rfl (opj_fconv rfl h) ?_
  exact done_ret1 rfl () rfl trivial (List.nil_sublist _)
end Go.Ab
namespace Go.Ab
open Go.Proofs
theorem opj_iint {P : Program} {S : World → Prop} {e : Env} {src dt : TypeId} {X : Operand} {k0 k k' : IntKind} {n : Int} {dst : Option Tmp} {ty : TypeId} {pos : String} {after : Array Edge} {guard : Option (Nat × Bool)} [hs : TyU P src (.int k0)] [hd : TyU P dt (.int k')] (hx : e.ev X = some (.raw (.int k n))) :
    OpJ P S e ⟨dst, .convert src dt X, ty, pos, after, guard⟩ (.raw (.int k' (k'.wrap n))) :=
  opj_value fun a w _ h => by
    have h1 := (h X (by simp [Op.operands]) _ hx).inv_raw
    exact ⟨_, w, by simp [execOp, h1, convert, run_underlying hs.h, run_underlying hd.h, Conv.intToInt], Ext.refl _, .raw⟩
attribute [local irreducible] WS RS Done OpJ Then InBlock Round Ret Env.sub FnH
end Go.Ab
namespace Go.Ab
def p2 (e : Int) : Rat := (2 : Rat) ^ e
theorem p2_pos (e : Int) : 0 < p2 e := Rat.zpow_pos (by decide)
theorem p2_add (a b : Int) : p2 (a + b) = p2 a * p2 b := Rat.zpow_add (by decide) a b
theorem p2_zero : p2 0 = 1 := rfl
theorem p2_nat (n : Nat) : p2 n = ((2 ^ n : Nat) : Rat) := by
  show (2 : Rat) ^ (n : Int) = _
  rw [Rat.zpow_natCast, Rat.natCast_pow]
  rfl
theorem p2_one : p2 1 = 2 := by
  have := p2_nat 1
  simpa using this
theorem p2_split {a b : Int} (h : a ≤ b) : p2 b = ((2 ^ (b - a).toNat : Nat) : Rat) * p2 a := by
  rw [← p2_nat, ← p2_add]
  congr 1
  omega
theorem one_le_two_pow (n : Nat) : (1 : Rat) ≤ ((2 ^ n : Nat) : Rat) := by
  have h : 1 ≤ 2 ^ n := Nat.one_le_two_pow
  exact_mod_cast (Rat.natCast_le_natCast.2 h)
theorem p2_le {a b : Int} (h : a ≤ b) : p2 a ≤ p2 b := by
  rw [p2_split h]
  have h1 := one_le_two_pow (b - a).toNat
  have h2 := Rat.mul_le_mul_of_nonneg_right h1 (Rat.le_of_lt (p2_pos a))
  rwa [Rat.one_mul] at h2
theorem p2_mul_neg (a : Int) : p2 a * p2 (-a) = 1 := by
  rw [← p2_add, Int.add_right_neg, p2_zero]
theorem mul_shl (m n : Nat) (e : Int) : ((m <<< n : Nat) : Rat) * p2 e = (m : Rat) * p2 (e + n) := by
  rw [Nat.shiftLeft_eq, Rat.natCast_mul, ← p2_nat, Rat.mul_assoc, ← p2_add]
  congr 2
  omega

def sgn (s : Bool) : Rat := if s then -1 else 1
def vl (s : Bool) (m : Nat) (e : Int) : Rat := sgn s * ((m : Rat) * p2 e)
theorem vl_neg (s : Bool) (m : Nat) (e : Int) : vl (!s) m e = - vl s m e := by
  unfold vl sgn
  cases s <;> simp <;> grind
theorem vl_signed (s : Bool) (m k : Nat) (e : Int) : ((Ieee.signed s m k : Int) : Rat) * p2 e = vl s m (e + k) := by
  unfold Ieee.signed vl sgn
  have h := mul_shl m k e
  cases s
  · simp only [Bool.false_eq_true, if_false]
    rw [Rat.one_mul, ← h]
    rfl
  · simp only [if_true]
    rw [Rat.intCast_neg, ← h]
    show -((m <<< k : Nat) : Rat) * p2 e = _
    grind
theorem vl_int (n : Int) (e : Int) : (n : Rat) * p2 e = vl (decide (n < 0)) n.natAbs e := by
  unfold vl sgn
  rcases (show n < 0 ∨ 0 ≤ n from by omega) with h | h
  · rw [decide_eq_true h, if_pos rfl]
    have : ((n.natAbs : Nat) : Rat) = -(n : Rat) := by
      rw [← Rat.intCast_natCast, ← Rat.intCast_neg]
      congr 1
      omega
    rw [this]
    grind
  · rw [decide_eq_false (by omega), if_neg (by decide)]
    have : ((n.natAbs : Nat) : Rat) = (n : Rat) := by
      rw [← Rat.intCast_natCast]
      congr 1
      omega
    rw [this, Rat.one_mul]
/-- The same value, whatever the sign of a nought. -/
theorem vl_zero (s : Bool) (e : Int) : vl s 0 e = 0 := by
  unfold vl
  rw [show ((0 : Nat) : Rat) = 0 from rfl, Rat.zero_mul, Rat.mul_zero]

theorem cut_err (neg : Bool) (n d : Nat) : 2 * n ≤ 2 * (Ieee.Toward.even.cut neg n d * 2 ^ d) + 2 ^ d ∧ 2 * (Ieee.Toward.even.cut neg n d * 2 ^ d) ≤ 2 * n + 2 ^ d := by
  unfold Ieee.Toward.cut
  dsimp only
  rw [Nat.one_shiftLeft]
  rcases Nat.le_total d (n.log2 + 2) with hm | hm
  · rw [Nat.min_eq_left hm]
    have hG : 0 < 2 ^ d := Nat.two_pow_pos _
    generalize 2 ^ d = G at *
    have h1 := Nat.div_add_mod n G
    have h2 := Nat.mod_lt n hG
    generalize n / G = q at *
    generalize n % G = r at *
    rw [Nat.mul_comm] at h1
    have hx : ∀ b : Bool, (q + b.toNat) * G = q * G + b.toNat * G := fun b => Nat.add_mul _ _ _
    rw [hx]
    generalize q * G = qg at *
    cases hb : (decide (G < 2 * r) || (G == 2 * r && q % 2 == 1)) with
    | true =>
      simp only [Bool.toNat_true, Nat.one_mul]
      have : G ≤ 2 * r := by
        rw [Bool.or_eq_true, Bool.and_eq_true] at hb
        rcases hb with hb | hb
        · have := of_decide_eq_true hb; omega
        · have := beq_iff_eq.1 hb.1; omega
      omega
    | false =>
      simp only [Bool.toNat_false, Nat.zero_mul]
      have : 2 * r ≤ G := by
        rw [Bool.or_eq_false_iff] at hb
        have := of_decide_eq_false hb.1
        omega
      omega
  · rw [Nat.min_eq_right hm]
    have h1 : n < 2 ^ (n.log2 + 1) := Nat.lt_log2_self
    have h2 : 2 ^ (n.log2 + 2) = 2 * 2 ^ (n.log2 + 1) := by rw [Nat.pow_succ]; omega
    have h3 : 2 ^ (n.log2 + 2) ≤ 2 ^ d := Nat.pow_le_pow_right (by decide) hm
    have h4 : n / 2 ^ (n.log2 + 2) = 0 := Nat.div_eq_of_lt (by omega)
    have h5 : n % 2 ^ (n.log2 + 2) = n := Nat.mod_eq_of_lt (by omega)
    rw [h4, h5]
    have h6 : (decide (2 ^ (n.log2 + 2) < 2 * n) || (2 ^ (n.log2 + 2) == 2 * n && 0 % 2 == 1)) = false := by
      rw [decide_eq_false (by omega)]
      simp
    rw [h6]
    simp only [Bool.toNat_false, Nat.add_zero, Nat.zero_mul]
    omega

/-- The place of the last digit that is kept. -/
def lastP (f : Ieee.Format) (m : Nat) (e : Int) : Int := max (e + m.log2 - f.fractionBits) f.leastPlace
theorem read_rung (f : Ieee.Format) (s : Bool) (a kept : Nat) (hk : kept ≤ 2 ^ (f.fractionBits + 1)) (ha : 0 < a → 2 ^ f.fractionBits ≤ kept) (hlt : a * f.binade + kept < f.infRung) :
    ∃ m' e', f.read (f.word s (a * f.binade + kept)) = .number s m' e' ∧ (m' : Rat) * p2 e' = (kept : Rat) * p2 (f.leastPlace + a) := by
  have hb : f.binade = 2 ^ f.fractionBits := rfl
  have hB : 0 < f.binade := Nat.two_pow_pos _
  have hsw : a * f.binade + kept < f.signWeight := Nat.lt_trans hlt f.infRung_lt
  have hsg : (f.word s (a * f.binade + kept) / f.signWeight % 2 == 1) = s := by
    unfold Ieee.Format.word
    cases s
    · simp only [Bool.false_eq_true, if_false]
      rw [Nat.div_eq_of_lt hsw]
      rfl
    · simp only [if_true]
      have hpos : 0 < f.signWeight := Nat.two_pow_pos _
      rw [Nat.add_comm, Nat.add_div_right _ hpos, Nat.div_eq_of_lt hsw]
      rfl
  unfold Ieee.Format.read
  simp only [word_mod f s hsw, hsg]
  rw [← hb] at ha
  have hk2 : kept ≤ 2 * f.binade := by rw [hb]; rw [Nat.pow_succ] at hk; omega
  clear hk
  by_cases h1 : a * f.binade + kept < f.binade
  · rw [if_pos h1]
    have h0 : a = 0 := by
      rcases Nat.eq_zero_or_pos a with h | h
      · exact h
      · have := Nat.mul_le_mul_right f.binade h
        omega
    subst h0
    refine ⟨_, _, rfl, ?_⟩
    rw [Nat.zero_mul, Nat.zero_add]
    congr 2
    omega
  · rw [if_neg h1, if_pos hlt]
    refine ⟨_, _, rfl, ?_⟩
    rcases Nat.lt_or_ge kept (2 * f.binade) with h2 | h2
    · have h3 : f.binade ≤ kept := by
        rcases Nat.eq_zero_or_pos a with h | h
        · subst h; omega
        · exact ha h
      obtain ⟨r, rfl⟩ : ∃ r, kept = f.binade + r := ⟨kept - f.binade, by omega⟩
      have e1 : a * f.binade + (f.binade + r) = r + f.binade * (a + 1) := by rw [Nat.mul_add, Nat.mul_one, Nat.mul_comm]; omega
      have hr : r < f.binade := by omega
      rw [e1, Nat.add_mul_mod_self_left, Nat.mod_eq_of_lt hr, Nat.add_mul_div_left _ _ hB, Nat.div_eq_of_lt hr]
      congr 2
      omega
    · have h3 : kept = 2 * f.binade := by omega
      subst h3
      have e1 : a * f.binade + 2 * f.binade = f.binade * (a + 2) := by rw [Nat.mul_add, Nat.mul_comm f.binade 2, Nat.mul_comm]
      rw [e1, Nat.mul_mod_right, Nat.mul_div_right _ hB]
      have e2 : ((a + 2 - 1 : Nat) : Int) = (a : Int) + 1 := by omega
      rw [e2, Nat.add_zero, Rat.natCast_mul, ← Int.add_assoc, p2_add _ 1, p2_one]
      have : ((2 : Nat) : Rat) = 2 := rfl
      rw [this]
      grind

/-- Where the nearest word lies, by the grid of its last place. -/
theorem nearest_grid (f : Ieee.Format) (s : Bool) (m : Nat) (e : Int) (hm : m ≠ 0) (hhi : lastP f m e - f.leastPlace + 2 < 2 ^ f.exponentBits - 1) :
    ∃ m' e' kept, f.read (f.nearest s m e) = .number s m' e' ∧ (m' : Rat) * p2 e' = ((kept : Nat) : Rat) * p2 (lastP f m e) ∧
      2 * ((m : Rat) * p2 e) ≤ 2 * ((kept : Rat) * p2 (lastP f m e)) + p2 (lastP f m e) ∧ 2 * ((kept : Rat) * p2 (lastP f m e)) ≤ 2 * ((m : Rat) * p2 e) + p2 (lastP f m e) := by
  unfold Ieee.Format.nearest
  rw [if_neg hm]
  dsimp only
  have hl : max (e + (m.log2 : Int) - f.fractionBits) f.leastPlace = lastP f m e := rfl
  rw [hl]
  have hlast2 : e + m.log2 - f.fractionBits ≤ lastP f m e := Int.le_max_left _ _
  have hlast3 : f.leastPlace ≤ lastP f m e := Int.le_max_right _ _
  have hlast4 : lastP f m e = f.leastPlace ∨ lastP f m e = e + m.log2 - f.fractionBits := by unfold lastP; omega
  generalize lastP f m e = last at *
  have herr := cut_err s (m <<< (e - last).toNat) (last - e).toNat
  have hcut : Ieee.Toward.even.cut s (m <<< (e - last).toNat) (last - e).toNat ≤ 2 ^ (f.fractionBits + 1) := by
    refine cut_le _ _ _ _ ?_
    rw [Nat.shiftLeft_eq]
    have h1 : m < 2 ^ (m.log2 + 1) := Nat.lt_log2_self
    have h2 : m * 2 ^ (e - last).toNat < 2 ^ (m.log2 + 1) * 2 ^ (e - last).toNat := Nat.mul_lt_mul_of_pos_right h1 (Nat.two_pow_pos _)
    rw [← Nat.pow_add] at h2
    exact Nat.lt_of_lt_of_le h2 (Nat.pow_le_pow_right (by decide) (by omega))
  have hlow : f.leastPlace < last → 2 ^ f.fractionBits ≤ Ieee.Toward.even.cut s (m <<< (e - last).toNat) (last - e).toNat := by
    intro hlt
    have hle : last = e + m.log2 - f.fractionBits := by omega
    have h1 : 2 ^ m.log2 ≤ m := Nat.log2_self_le hm
    have h2 : 2 ^ (f.fractionBits + (last - e).toNat) ≤ m <<< (e - last).toNat := by
      rw [Nat.shiftLeft_eq]
      have h3 : 2 ^ m.log2 * 2 ^ (e - last).toNat ≤ m * 2 ^ (e - last).toNat := Nat.mul_le_mul_right _ h1
      rw [← Nat.pow_add] at h3
      refine Nat.le_trans (Nat.pow_le_pow_right (by decide) ?_) h3
      omega
    rw [Nat.pow_add] at h2
    generalize m <<< (e - last).toNat = n at *
    generalize Ieee.Toward.even.cut s n (last - e).toNat = kept at *
    have hG : 0 < 2 ^ (last - e).toNat := Nat.two_pow_pos _
    generalize 2 ^ (last - e).toNat = G at *
    generalize 2 ^ f.fractionBits = B at *
    rcases Nat.lt_or_ge kept B with h | h
    · exfalso
      have h4 : (kept + 1) * G ≤ B * G := Nat.mul_le_mul_right _ h
      rw [Nat.add_mul, Nat.one_mul] at h4
      omega
    · exact h
  generalize hkept : Ieee.Toward.even.cut s (m <<< (e - last).toNat) (last - e).toNat = kept at *
  have hb : f.binade = 2 ^ f.fractionBits := rfl
  have hi : (f.infRung : Int) = (2 ^ f.exponentBits - 1) * 2 ^ f.fractionBits := by
    unfold Ieee.Format.infRung
    rw [hb]
    have : 1 ≤ 2 ^ f.exponentBits := Nat.one_le_two_pow
    push_cast [Int.natCast_sub this]
    rfl
  have hB : 0 < 2 ^ f.fractionBits := Nat.two_pow_pos _
  have hrung : (last - f.leastPlace).toNat * f.binade + kept < f.infRung := by
    have h1 : (((last - f.leastPlace).toNat * f.binade + kept : Nat) : Int) ≤ (last - f.leastPlace + 2) * 2 ^ f.fractionBits := by
      have e1 : (((last - f.leastPlace).toNat : Nat) : Int) = last - f.leastPlace := by omega
      rw [hb, Int.natCast_add, Int.natCast_mul, e1, Int.add_mul]
      have h2 : (kept : Int) ≤ 2 * 2 ^ f.fractionBits := by
        rw [Nat.pow_succ, Nat.mul_comm] at hcut
        exact_mod_cast hcut
      have h3 : (((2 ^ f.fractionBits : Nat)) : Int) = 2 ^ f.fractionBits := by push_cast; rfl
      rw [h3]
      omega
    have h2 : (last - f.leastPlace + 2) * 2 ^ f.fractionBits < (2 ^ f.exponentBits - 1) * 2 ^ f.fractionBits := Int.mul_lt_mul_of_pos_right hhi (by exact_mod_cast hB)
    have : (((last - f.leastPlace).toNat * f.binade + kept : Nat) : Int) < f.infRung := by rw [hi]; omega
    exact_mod_cast this
  rw [Nat.min_eq_left (Nat.le_of_lt hrung)]
  obtain ⟨m', e', h1, h2⟩ := read_rung f s (last - f.leastPlace).toNat kept hcut (fun h => hlow (by omega)) hrung
  have e1 : f.leastPlace + ((last - f.leastPlace).toNat : Int) = last := by omega
  rw [e1] at h2
  refine ⟨m', e', kept, h1, h2, ?_⟩
  -- the error, in units of the place
  clear h1 h2 hrung hi hB hb hcut hlow hlast4 hlast2 hhi
  rcases Int.le_total last e with hle | hle
  · have a2 : (last - e).toNat = 0 := by omega
    rw [a2, cut_zero] at hkept
    subst hkept
    rw [mul_shl]
    have : last + ((e - last).toNat : Int) = e := by omega
    rw [this]
    have := p2_pos last
    constructor <;> grind
  · have a1 : (e - last).toNat = 0 := by omega
    rw [a1, Nat.shiftLeft_zero] at herr
    have hs := p2_split hle
    generalize 2 ^ (last - e).toNat = G at *
    have hp := p2_pos e
    obtain ⟨h1, h2⟩ := herr
    have h1' : (2 * (m : Rat)) ≤ 2 * ((kept : Rat) * (G : Rat)) + G := by exact_mod_cast Rat.natCast_le_natCast.2 h1
    have h2' : 2 * ((kept : Rat) * (G : Rat)) ≤ 2 * (m : Rat) + G := by exact_mod_cast Rat.natCast_le_natCast.2 h2
    have h3 := Rat.mul_le_mul_of_nonneg_right h1' (Rat.le_of_lt hp)
    have h4 := Rat.mul_le_mul_of_nonneg_right h2' (Rat.le_of_lt hp)
    rw [hs]
    constructor <;> grind

def feps : FloatKind → Rat
  | .f32 => p2 (-23)
  | .f64 => p2 (-52)
def ftiny : FloatKind → Rat
  | .f32 => p2 (-149)
  | .f64 => p2 (-1074)
def ftop : FloatKind → Int
  | .f32 => 127
  | .f64 => 1023
/-- What can be written. -/
def RepN (k : FloatKind) (B : Rat) : Prop := ∃ (M : Nat) (E : Int), M ≤ 2 ^ (k.format.fractionBits + 1) ∧ k.format.leastPlace ≤ E ∧ B = (M : Rat) * p2 E
def Rep (k : FloatKind) (B : Rat) : Prop := RepN k B ∨ RepN k (-B)
/-- r is q rounded. -/
structure Rnd (k : FloatKind) (q r : Rat) : Prop where
  near : ∀ a, -a ≤ q → q ≤ a → q ≤ r + (a * feps k + ftiny k) ∧ r ≤ q + (a * feps k + ftiny k)
  side : ∀ B, Rep k B → (q ≤ B → r ≤ B) ∧ (B ≤ q → B ≤ r)

theorem nat_le_of_rat {a b : Nat} (h : 2 * (a : Rat) ≤ 2 * (b : Rat) + 1) : a ≤ b := by
  have h1 : ((2 * a : Nat) : Rat) ≤ ((2 * b + 1 : Nat) : Rat) := by
    rw [Rat.natCast_mul, Rat.natCast_add, Rat.natCast_mul]
    exact h
  have h2 := Rat.natCast_le_natCast.1 h1
  omega
theorem grid_le {kept N : Nat} {q P : Rat} (hP : 0 < P) (h : 2 * ((kept : Rat) * P) ≤ 2 * q + P) (hq : q ≤ (N : Rat) * P) : kept ≤ N := by
  refine nat_le_of_rat ?_
  have h1 : (2 * (kept : Rat)) * P ≤ (2 * (N : Rat) + 1) * P := by grind
  exact Rat.le_of_mul_le_mul_right h1 hP
theorem grid_ge {kept N : Nat} {q P : Rat} (hP : 0 < P) (h : 2 * q ≤ 2 * ((kept : Rat) * P) + P) (hq : (N : Rat) * P ≤ q) : N ≤ kept := by
  refine nat_le_of_rat ?_
  have h1 : (2 * (N : Rat)) * P ≤ (2 * (kept : Rat) + 1) * P := by grind
  exact Rat.le_of_mul_le_mul_right h1 hP
theorem mul_p2_le {a b : Nat} (h : a ≤ b) (e : Int) : (a : Rat) * p2 e ≤ (b : Rat) * p2 e :=
  Rat.mul_le_mul_of_nonneg_right (Rat.natCast_le_natCast.2 h) (Rat.le_of_lt (p2_pos e))
theorem p2_shl (n : Nat) (e : Int) : ((2 ^ n : Nat) : Rat) * p2 e = p2 (n + e) := by rw [← p2_nat, ← p2_add]
/-- The highest digit. -/
theorem log_le (m : Nat) (hm : m ≠ 0) (e : Int) : p2 (e + m.log2) ≤ (m : Rat) * p2 e := by
  have h := mul_p2_le (Nat.log2_self_le hm) e
  rw [p2_shl, Int.add_comm] at h
  exact h
theorem p2_lt_of_lt {a b : Int} (h : p2 a < p2 b) : a < b := by
  rcases (show a < b ∨ b ≤ a from by omega) with h1 | h1
  · exact h1
  · exact absurd (p2_le h1) (Rat.not_le.2 h)
theorem grid_side (f : Ieee.Format) (m : Nat) (e : Int) (hm : m ≠ 0) (kept : Nat) (h1 : 2 * ((m : Rat) * p2 e) ≤ 2 * ((kept : Rat) * p2 (lastP f m e)) + p2 (lastP f m e)) (h2 : 2 * ((kept : Rat) * p2 (lastP f m e)) ≤ 2 * ((m : Rat) * p2 e) + p2 (lastP f m e))
    {M : Nat} {E : Int} (hM : M ≤ 2 ^ (f.fractionBits + 1)) (hE : f.leastPlace ≤ E) :
    ((m : Rat) * p2 e ≤ (M : Rat) * p2 E → (kept : Rat) * p2 (lastP f m e) ≤ (M : Rat) * p2 E) ∧ ((M : Rat) * p2 E ≤ (m : Rat) * p2 e → (M : Rat) * p2 E ≤ (kept : Rat) * p2 (lastP f m e)) := by
  have hP := p2_pos (lastP f m e)
  rcases Int.le_total (lastP f m e) E with hle | hle
  · have hB : (M : Rat) * p2 E = ((M * 2 ^ (E - lastP f m e).toNat : Nat) : Rat) * p2 (lastP f m e) := by
      rw [p2_split hle, Rat.natCast_mul, Rat.mul_assoc]
    rw [hB]
    exact ⟨fun h => mul_p2_le (grid_le hP h2 h) _, fun h => mul_p2_le (grid_ge hP h1 h) _⟩
  · rcases (show E < lastP f m e ∨ lastP f m e ≤ E from by omega) with hlt | hge
    · have hl : lastP f m e = e + m.log2 - f.fractionBits := by
        have : lastP f m e = f.leastPlace ∨ lastP f m e = e + m.log2 - f.fractionBits := by unfold lastP; omega
        omega
      have hlow := log_le m hm e
      have e1 : e + (m.log2 : Int) = (f.fractionBits : Int) + lastP f m e := by omega
      rw [e1, ← p2_shl] at hlow
      have hMB : (M : Rat) * p2 E ≤ ((2 ^ f.fractionBits : Nat) : Rat) * p2 (lastP f m e) := by
        refine Rat.le_trans (mul_p2_le hM E) ?_
        rw [p2_shl, p2_shl]
        exact p2_le (by omega)
      refine ⟨fun h => ?_, fun h => Rat.le_trans hMB (mul_p2_le (grid_ge hP h1 hlow) _)⟩
      have heq : (M : Rat) * p2 E = ((2 ^ f.fractionBits : Nat) : Rat) * p2 (lastP f m e) := Rat.le_antisymm hMB (Rat.le_trans hlow h)
      rw [heq] at h ⊢
      exact mul_p2_le (grid_le hP h2 h) _
    · have : E = lastP f m e := by omega
      subst this
      exact ⟨fun h => mul_p2_le (grid_le hP h2 h) _, fun h => mul_p2_le (grid_ge hP h1 h) _⟩
theorem last_bound (f : Ieee.Format) (m : Nat) (e : Int) (hm : m ≠ 0) : p2 (lastP f m e) ≤ ((m : Rat) * p2 e) * p2 (-(f.fractionBits : Int)) + p2 f.leastPlace := by
  have hlow := log_le m hm e
  have h0 := p2_pos (-(f.fractionBits : Int))
  have h1 := Rat.mul_le_mul_of_nonneg_right hlow (Rat.le_of_lt h0)
  rw [← p2_add] at h1
  have hlp := p2_pos f.leastPlace
  have : lastP f m e = f.leastPlace ∨ lastP f m e = e + m.log2 + -(f.fractionBits : Int) := by unfold lastP; omega
  rcases this with h | h
  · rw [h]
    have := p2_pos (e + m.log2 + -(f.fractionBits : Int))
    grind
  · rw [h]
    grind
theorem rnd_sign {k : FloatKind} {s : Bool} {q r : Rat} (h0 : 0 ≤ q) (hr : 0 ≤ r) (hn : q ≤ r + (q * feps k + ftiny k) ∧ r ≤ q + (q * feps k + ftiny k)) (he : 0 ≤ feps k)
    (hs : ∀ B, RepN k B → (q ≤ B → r ≤ B) ∧ (B ≤ q → B ≤ r)) : Rnd k (sgn s * q) (sgn s * r) := by
  have hneg : ∀ B, RepN k B → 0 ≤ B := fun B ⟨M, E, _, _, hB⟩ => by
    rw [hB]
    exact Rat.mul_nonneg Rat.natCast_nonneg (Rat.le_of_lt (p2_pos E))
  refine ⟨fun a h1 h2 => ?_, fun B hB => ?_⟩
  · have ha : q ≤ a := by cases s <;> simp only [sgn] at h1 h2 <;> grind
    have hm := Rat.mul_le_mul_of_nonneg_right ha he
    obtain ⟨h3, h4⟩ := hn
    cases s <;> simp only [sgn] <;> constructor <;> grind
  · rcases hB with hB | hB
    · have h3 := hs B hB
      have h4 := hneg B hB
      cases s
      · simp only [sgn, Bool.false_eq_true, if_false, Rat.one_mul]
        exact h3
      · simp only [sgn, if_true]
        refine ⟨fun h => by grind, fun h => ?_⟩
        have hB0 : B = 0 := by grind
        have hq0 : q = 0 := by grind
        have := (hs 0 ⟨0, k.format.leastPlace, Nat.zero_le _, Int.le_refl _, by rw [show ((0 : Nat) : Rat) = 0 from rfl, Rat.zero_mul]⟩).1 (by grind)
        grind
    · have h3 := hs (-B) hB
      have h4 := hneg (-B) hB
      cases s
      · simp only [sgn, Bool.false_eq_true, if_false, Rat.one_mul]
        refine ⟨fun h => ?_, fun h => by grind⟩
        have := (hs 0 ⟨0, k.format.leastPlace, Nat.zero_le _, Int.le_refl _, by rw [show ((0 : Nat) : Rat) = 0 from rfl, Rat.zero_mul]⟩).1 (by grind)
        grind
      · simp only [sgn, if_true]
        refine ⟨fun h => ?_, fun h => ?_⟩
        · have := h3.2 (by grind)
          grind
        · have := h3.1 (by grind)
          grind
theorem eps_eq (k : FloatKind) : feps k = p2 (-(k.format.fractionBits : Int)) := by cases k <;> rfl
theorem tiny_eq (k : FloatKind) : ftiny k = p2 k.format.leastPlace := by cases k <;> decide +kernel
theorem eps_pos (k : FloatKind) : 0 < feps k := by rw [eps_eq]; exact p2_pos _
theorem tiny_pos (k : FloatKind) : 0 < ftiny k := by rw [tiny_eq]; exact p2_pos _
theorem top_ok {k : FloatKind} {m : Nat} {e : Int} (hm : m ≠ 0) (h : (m : Rat) * p2 e < p2 (ftop k)) : lastP k.format m e - k.format.leastPlace + 2 < 2 ^ k.format.exponentBits - 1 := by
  have h1 := p2_lt_of_lt (Std.lt_of_le_of_lt (log_le m hm e) h)
  cases k
  · have a1 : FloatKind.f32.format.leastPlace = -149 := by decide
    have a2 : FloatKind.f32.format.fractionBits = 23 := rfl
    have a3 : FloatKind.f32.format.exponentBits = 8 := rfl
    unfold lastP
    rw [a1, a2, a3]
    simp only [ftop] at h1
    omega
  · have a1 : FloatKind.f64.format.leastPlace = -1074 := by decide
    have a2 : FloatKind.f64.format.fractionBits = 52 := rfl
    have a3 : FloatKind.f64.format.exponentBits = 11 := rfl
    unfold lastP
    rw [a1, a2, a3]
    simp only [ftop] at h1
    omega
/-- What is written is what is rounded. -/
theorem nearest_rnd' (k : FloatKind) (s : Bool) (m : Nat) (e : Int) (h : (m : Rat) * p2 e < p2 (ftop k)) :
    ∃ m' e', k.decode (k.format.nearest s m e) = .number s m' e' ∧ Rnd k (vl s m e) (vl s m' e') ∧ (∀ B, RepN k B → ((m : Rat) * p2 e ≤ B → (m' : Rat) * p2 e' ≤ B) ∧ (B ≤ (m : Rat) * p2 e → B ≤ (m' : Rat) * p2 e')) ∧
      2 * ((m : Rat) * p2 e) ≤ 2 * ((m' : Rat) * p2 e') + ((m : Rat) * p2 e * feps k + ftiny k) ∧ 2 * ((m' : Rat) * p2 e') ≤ 2 * ((m : Rat) * p2 e) + ((m : Rat) * p2 e * feps k + ftiny k) := by
  by_cases hm : m = 0
  · subst hm
    have h0 : k.decode (k.format.nearest s 0 e) = .number s 0 k.format.leastPlace := by
      unfold Ieee.Format.nearest
      rw [if_pos rfl]
      have hlt : (0 : Nat) < k.format.signWeight := Nat.two_pow_pos _
      have hsg : (k.format.word s 0 / k.format.signWeight % 2 == 1) = s := by
        unfold Ieee.Format.word
        cases s
        · simp only [Bool.false_eq_true, if_false, Nat.zero_div]; rfl
        · simp only [if_true, Nat.add_zero, Nat.div_self hlt]; rfl
      unfold FloatKind.decode Ieee.Format.read
      simp only [word_mod k.format s hlt, hsg]
      rw [if_pos (show 0 < k.format.binade from Nat.two_pow_pos _)]
    refine ⟨0, k.format.leastPlace, h0, ?_, fun B _ => ?_, ?_⟩
    · rw [vl_zero, vl_zero]
      refine ⟨fun a h1 h2 => ?_, fun B _ => ⟨id, id⟩⟩
      have h3 := Rat.mul_nonneg (show 0 ≤ a from h2) (Rat.le_of_lt (eps_pos k))
      have h4 := tiny_pos k
      constructor <;> grind
    · rw [show ((0 : Nat) : Rat) = 0 from rfl, Rat.zero_mul, Rat.zero_mul]
      exact ⟨id, id⟩
    · have h4 := tiny_pos k
      rw [show ((0 : Nat) : Rat) = 0 from rfl, Rat.zero_mul, Rat.zero_mul, Rat.zero_mul]
      constructor <;> grind
  · obtain ⟨m', e', kept, h1, h2, h3, h4⟩ := nearest_grid k.format s m e hm (top_ok hm h)
    have hside : ∀ B, RepN k B → ((m : Rat) * p2 e ≤ B → (m' : Rat) * p2 e' ≤ B) ∧ (B ≤ (m : Rat) * p2 e → B ≤ (m' : Rat) * p2 e') := fun B ⟨M, E, hM, hE, hB⟩ => by
      rw [h2, hB]
      exact grid_side k.format m e hm kept h3 h4 hM hE
    have hl := last_bound k.format m e hm
    rw [← eps_eq, ← tiny_eq] at hl
    have hP := p2_pos (lastP k.format m e)
    refine ⟨m', e', h1, ?_, hside, ?_⟩
    · refine rnd_sign (Rat.mul_nonneg Rat.natCast_nonneg (Rat.le_of_lt (p2_pos e))) (Rat.mul_nonneg Rat.natCast_nonneg (Rat.le_of_lt (p2_pos e'))) ?_ (Rat.le_of_lt (eps_pos k)) hside
      rw [h2]
      constructor <;> grind
    · rw [h2]
      constructor <;> grind
theorem nearest_rnd (k : FloatKind) (s : Bool) (m : Nat) (e : Int) (h : (m : Rat) * p2 e < p2 (ftop k)) :
    ∃ m' e', k.decode (k.format.nearest s m e) = .number s m' e' ∧ Rnd k (vl s m e) (vl s m' e') ∧ ∀ B, RepN k B → ((m : Rat) * p2 e ≤ B → (m' : Rat) * p2 e' ≤ B) ∧ (B ≤ (m : Rat) * p2 e → B ≤ (m' : Rat) * p2 e') := by
  obtain ⟨m', e', h1, h2, h3, _⟩ := nearest_rnd' k s m e h
  exact ⟨m', e', h1, h2, h3⟩
end Go.Ab
