/- Part 2 of the texts on which the law leans, joined: Further operations in a frame that is known: floats to whole numbers, signs, complex numbers, closures, results of three. No conditions. -/
import Derived.Deep.AppendLies
import Derived.Test.YtcbobcpbfdehhaaProg
import Derived.KernelRfl
import Derived.OwnWalk
import Derived.Test.YtcbobcpbfdehhaaZaa
namespace Go.Ab
variable {R : World → Prop} [RStab R]
def tab (n : Nat) (f : Int → FV) : List FV := (List.range n).map fun (i : Nat) => f i
def at_ (L : List FV) (i : Int) : FV := L.getD i.toNat default
@[simp] theorem tab_length (n : Nat) (f : Int → FV) : (tab n f).length = n := by simp [tab]
theorem tab_get {n : Nat} (f : Int → FV) {i : Nat} (h : i < n) : (tab n f)[i]? = some (f i) := by simp [tab, h]
theorem tab_ext {L : List FV} {n : Nat} {f : Int → FV} (hl : L.length = n) (h : ∀ i : Nat, i < n → L[i]? = some (f i)) : L = tab n f := by
  apply List.ext_getElem?
  intro i
  rcases Nat.lt_or_ge i n with hi | hi
  · rw [h i hi, tab_get f hi]
  · rw [List.getElem?_eq_none (by omega), List.getElem?_eq_none (by rw [tab_length]; exact hi)]
theorem tab_congr {n : Nat} {f g : Int → FV} (h : ∀ i : Int, 0 ≤ i → i < n → f i = g i) : tab n f = tab n g :=
  tab_ext (tab_length n f) fun i hi => by rw [tab_get f hi, h i (by omega) (by omega)]
theorem tab_set {n : Nat} {f g : Int → FV} {i : Nat} {x : FV} (hi : i < n) (hx : g i = x) (hg : ∀ t : Int, 0 ≤ t → t < n → t ≠ i → g t = f t) : (tab n f).set i x = tab n g :=
  tab_ext (by simp [tab_length]) fun t ht => by
    rw [List.getElem?_set]
    split
    · rename_i h
      subst h
      rw [if_pos (by rw [tab_length]; exact hi), hx]
    · rename_i h
      rw [tab_get f ht, hg t (by omega) (by omega) (by omega)]
theorem tab_snoc {n : Nat} {f g : Int → FV} {x : FV} (hx : g n = x) (hg : ∀ t : Int, 0 ≤ t → t < n → g t = f t) : tab n f ++ [x] = tab (n + 1) g :=
  tab_ext (by simp [tab_length]) fun t ht => by
    rcases Nat.lt_or_ge t n with h | h
    · rw [List.getElem?_append_left (by rw [tab_length]; exact h), tab_get f h, hg t (by omega) (by omega)]
    · have : t = n := by omega
      subst this
      rw [List.getElem?_append_right (by rw [tab_length]; exact h), tab_length, Nat.sub_self, hx]
      rfl
theorem at_tab {n : Nat} {f : Int → FV} {i : Int} (h0 : 0 ≤ i) (h : i < n) : at_ (tab n f) i = f i := by
  have hi : i.toNat < n := by omega
  have he : ((i.toNat : Nat) : Int) = i := by omega
  have hg : (tab n f)[i.toNat]? = some (f i) := by rw [tab_get f hi, he]
  simp [at_, List.getD, hg]
/-- A table in a block of its own. -/
abbrev entF (g : Nat) (T : TypeId) (n : Nat) (f : Int → FV) (c : Nat) : Ent := ⟨g, T, (tab n f).map (AV.f .f32), c⟩

theorem erase_perm {α : Type} : ∀ {l : List α} {i : Nat} (h : i < l.length), (l[i] :: l.eraseIdx i).Perm l
  | a :: l, 0, _ => List.Perm.refl _
  | a :: l, i + 1, h => (List.Perm.swap a (l[i]'(by simpa using h)) (l.eraseIdx i)).trans ((erase_perm (l := l) (i := i) (by simpa using h)).cons a)
/-- The block at some place has turned, no other. -/
theorem StR.updAt {w0 w w' : World} {gs : List Nat} {H : List Ent} {i : Nat} {e e' : Ent} (h : StR R w0 gs H w) (hi : H[i]? = some e) (hw : Mod w w' [e.g]) (hg : e'.g = e.g ∨ w.heap.size ≤ e'.g) (ho : OwnE w' e') : StR R w0 gs (H.set i e') w' := by
  obtain ⟨hlt, rfl⟩ := List.getElem?_eq_some_iff.1 hi
  have hp : (H[i] :: H.eraseIdx i).Perm H := erase_perm hlt
  have h1 : StR R w0 gs ([H[i]] ++ H.eraseIdx i) w := h.perm hp
  have h2 : StR R w0 gs ([e'] ++ H.eraseIdx i) w' := h1.call hw (fun x hx => by
    have : x = e' := by simpa using hx
    subst this
    exact ⟨ho, by rcases hg with hg | hg; exact .inl (by simp [hg]); exact .inr hg⟩) (by simp)
  refine h2.perm ?_
  have hlt' : i < (H.set i e').length := by simpa using hlt
  have hp' : ((H.set i e')[i] :: (H.set i e').eraseIdx i).Perm (H.set i e') := erase_perm hlt'
  rw [List.getElem_set_self, List.eraseIdx_set_eq] at hp'
  exact hp'.symm

section
variable {P : Program} {N : Nat} {S : World → Prop} {e : Env} {Q : Exit → Env → World → Prop} {ops : Array Oper} {l : List Oper} {o : Oper}
variable {w0 : World} {gs : List Nat} {H : List Ent} {dst : Option Tmp} {ty : TypeId} {pos : String} {after : Array Edge} {guard : Option (Nat × Bool)}
/-- A cell of a table. -/
theorem zbt {R0 : World → Prop} {X : Operand} {g n c : Nat} {i : Int} {f : Int → FV} {T : TypeId} {t : TypeId} {d : TypeDesc} [hd : TyU P t d] (ha : aggD d = false)
    (hx : e.ev X = some (.raw (.pointer (some ⟨g, i.toNat * 1, none⟩)))) (hm : entF g T n f c ∈ H) (h0 : 0 ≤ i ∧ i < n) : OpJ P (StR R0 w0 gs H) e ⟨dst, .load t X, ty, pos, after, guard⟩ (.f .f32 (f i)) := by
  refine opj_load_own (en := entF g T n f c) ha hx hm ?_
  have hi : i.toNat < n := by omega
  have he : ((i.toNat : Nat) : Int) = i := by omega
  rw [Nat.mul_one, List.getElem?_map, tab_get f hi, he]
  rfl

theorem rs_storeAt (k : Nat) {en : Ent} {i : Nat} {t : TypeId} {z : Value} {b : Nat} [hi : TyI P t z 1 b] {A X : Operand} {x : AV} (hA : e.ev A = some (.raw (.pointer (some ⟨en.g, i, none⟩)))) (hx : e.ev X = some x) (h1 : oneAV x = true) (hH : H[k]? = some en) (hi' : i < en.csz)
    (hk : RS P N ops l e.keep (StR R w0 gs (H.set k { en with xs := en.xs.set i x })) Q) :
    RS P N ops (⟨none, .store t A X, ty, pos, after, none⟩ :: l) e (StR R w0 gs H) Q := by
  intro a w hS hF
  refine wpList_plain rfl fun K hK => ?_
  have h2 := (hF.eval hA).inv_raw
  have hr := hF.eval hx
  obtain ⟨hc, ho, hst⟩ := oneAV_spec h1 hr
  have hmem : en ∈ H := List.mem_of_getElem? hH
  have hown := (hS.own en hmem).2
  obtain ⟨cur, hb, hcs, _⟩ := hown
  have hcell : w.cell? ⟨en.g, i, none⟩ = some (cur[i]'(by omega)) := by simp [World.cell?, hb, hcs, hi']
  have hfr := OwnE.frozen (hS.own en hmem).2 i
  have hrun : (execOp a.eval ⟨none, .store t A X, ty, pos, after, none⟩).run P w = .ok .skip (w.setCell ⟨en.g, i, none⟩ (a.eval X)) := by
    have hst : (store ⟨en.g, i, none⟩ (a.eval X)).run P w = .ok () (w.setCell ⟨en.g, i, none⟩ (a.eval X)) := by
      rw [run_store P w _ _ _ ho, hcell]; simp [hfr]
    have hadd : (⟨en.g, i, none⟩ : Addr).add 0 = ⟨en.g, i, none⟩ := rfl
    simp [execOp, h2, Instr.storeAt, Instr.sureAddr, storeVar, run_size hi, hc, storeCells, hadd, hst]
  unfold Oper.wp
  rw [hrun]
  exact hK _ _ (hk _ _ (hS.updAt hH (mod_setCell w en.g i _) (.inl rfl) (own_setCell (hS.own en hmem).2 hi' (hr.ev hst))) hF.keep)
/-- A literal of one-cell elements in a block of its own. -/
theorem rs_litO {d : Tmp} {t el : TypeId} {z : Value} {b n : Nat} {parts : Array (Nat × Operand)} {Xs : List Operand} {xs : List AV} [hu : TyU P t (.slice el)] [hi : TyI P el z 1 b] (hd : Nat.blt d N = true)
    (hp : parts.toList = (List.range' 0 Xs.length).zip Xs) (hn : n = Xs.length) (hx : evL e Xs = some xs) (h1 : xs.all isOne = true) (hb : Nat.ble n 1000 = true)
    (hk : ∀ g, RS P N ops l ((d, .raw (.slice (some ⟨g, 0, none⟩) n n)) :: e) (StR R w0 gs (⟨g, el, xs, n⟩ :: H)) Q) :
    RS P N ops (⟨some d, .buildSlice t n parts, ty, pos, after, none⟩ :: l) e (StR R w0 gs H) Q := by
  refine rs_fresh (val := fun g => .raw (.slice (some ⟨g, 0, none⟩) n n)) (en := fun g => ⟨g, el, xs, n⟩) hd (fun _ => rfl) (fun a w hS hF => ?_) hk
  subst hn
  have hb' := Nat.le_of_ble_eq_true hb
  obtain ⟨i, hi1, hz1, hs1, hb1⟩ := hi.h
  have hrl : RelL w xs (Xs.map a.eval) := evL_rel hx fun X _ y hy => hF.eval hy
  have hlen : (Xs.map a.eval).length = xs.length := hrl.length
  have hlx : xs.length = Xs.length := by simpa using hlen.symm
  have hcells : ∀ v ∈ Xs.map a.eval, v.cells = #[v] := fun v hv => by
    obtain ⟨k, hk, rfl⟩ := List.mem_iff_getElem.1 hv
    obtain ⟨u, hu', hr⟩ := hrl.get (i := k) (a := xs[k]'(by omega)) (by simp)
    rw [List.getElem?_eq_getElem hk] at hu'
    cases hu'
    exact isOne_cells (List.all_eq_true.1 h1 _ (List.getElem_mem _)) hr
  have hfill : ∀ zc : Array Value, Instr.fill (fun i => some (i * 1, 1)) ((Array.range (Xs.length * 1)).map (zc[· % zc.size]!)) (parts.map fun (i, x) => (i, a.eval x)).toList = some (Xs.map a.eval).toArray := fun zc => by
    rw [Array.toList_map, hp]
    have hf := fill_row (Xs.map a.eval) 0 ((Array.range (Xs.length * 1)).map (zc[· % zc.size]!)) hcells (by simp)
    have e1 : ((List.range' 0 Xs.length).zip Xs).map (fun (x : Nat × Operand) => (x.1, a.eval x.2)) = (List.range' 0 (Xs.map a.eval).length).zip (Xs.map a.eval) := by
      rw [List.length_map, List.zip_map_right]
      rfl
    rw [show (fun (x : Nat × Operand) => match x with | (i, x) => (i, a.eval x)) = fun (x : Nat × Operand) => (x.1, a.eval x.2) from rfl, e1, hf]
    simp
  have hrun : (Instr.buildSlice t Xs.length (parts.map fun (i, x) => (i, a.eval x))).run P w = .ok (.slice (some ⟨w.heap.size, 0, none⟩) Xs.length Xs.length) (w.alloc (.cells (Xs.map a.eval).toArray el)) := by
    rcases Nat.eq_zero_or_pos Xs.length with h0 | h0
    · have hX : Xs = [] := List.eq_nil_of_length_eq_zero h0
      subst hX
      have hpe : parts = #[] := by
        apply Array.toList_inj.1
        rw [hp]; rfl
      subst hpe
      have hr0 : (Array.range 0) = (#[] : Array Nat) := rfl
      simp [Instr.buildSlice, run_underlying hu.h, sizeOf, typeInfo, hi1, newRow, Instr.fill, hr0]
    · have := run_buildSlice (P := P) w t el Xs.length (parts.map fun (i, x) => (i, a.eval x)) (Xs.map a.eval).toArray i z hu.h hi1 hz1 (by rw [hs1]; omega) (by rw [hs1]; omega) (by rw [hs1]; exact hfill z.cells)
      exact this
  refine ⟨w.heap.size, _, _, by simp only [execOp, Sem.run_bind, hrun, Result.andThen_ok]; rfl, ev_raw _, Ext.alloc _ _, Nat.le_refl _, ?_⟩
  have ho := ext_alloc_own (w := w) (T := el) (xs := xs) (cs := (Xs.map a.eval).toArray) (fun k x hk => by
    obtain ⟨u, hu', hr⟩ := hrl.get hk
    exact ⟨u, by simpa using hu', isOne_ev (List.all_eq_true.1 h1 _ (List.mem_of_getElem? hk)) hr⟩)
  have hsz : (Xs.map a.eval).toArray.size = Xs.length := by simp
  rw [hsz] at ho
  exact ho

theorem rs_litP {d : Tmp} {t el : TypeId} {z : Value} {b n : Nat} {parts : Array (Nat × Operand)} {xs : List AV} [hu : TyU P t (.slice el)] [hi : TyI P el z 1 b] (hd : Nat.blt d N = true)
    (hx : evL e (parts.toList.map (·.2)) = some xs) (hp : parts.toList = (List.range' 0 (parts.toList.map (·.2)).length).zip (parts.toList.map (·.2))) (hn : n = (parts.toList.map (·.2)).length) (h1 : xs.all isOne = true) (hb : Nat.ble n 1000 = true)
    (hk : ∀ g, RS P N ops l ((d, .raw (.slice (some ⟨g, 0, none⟩) n n)) :: e) (StR R w0 gs (⟨g, el, xs, n⟩ :: H)) Q) :
    RS P N ops (⟨some d, .buildSlice t n parts, ty, pos, after, none⟩ :: l) e (StR R w0 gs H) Q := rs_litO hd hp hn hx h1 hb hk

theorem zco {t el : TypeId} {z : Value} {b n : Nat} {parts : Array (Nat × Operand)} {xs : List AV} [hu : TyU P t (.slice el)] [hi : TyI P el z 1 b]
    (hx : evL e (parts.toList.map (·.2)) = some xs) (hp : parts.toList = (List.range' 0 (parts.toList.map (·.2)).length).zip (parts.toList.map (·.2))) (hn : n = (parts.toList.map (·.2)).length) (h1 : xs.all isOne = true) (h0 : Nat.blt 0 n = true) (hb : Nat.ble n 1000 = true) :
    OpJ P S e ⟨dst, .buildSlice t n parts, ty, pos, after, guard⟩ (AV.lit xs) := opj_lit hp hn hx h1 h0 hb

/-- 'append' of such elements to a list of the call's own. -/
theorem rs_append (k : Nat) {d : Tmp} {A B : Operand} {g n cap : Nat} {xs ys : List AV} {t el : TypeId} {z : Value} {b : Nat} [hu : TyU P t (.slice el)] [hi : TyI P el z 1 b] (hd : Nat.blt d N = true)
    (hA : e.ev A = some (.raw (.slice (some ⟨g, 0, none⟩) n cap))) (hB : ∃ y, e.ev B = some y ∧ ∀ w v, StR R w0 gs H w → Rel w y v → Rd w 1 v ys) (hH : H[k]? = some ⟨g, el, xs, cap⟩) (hn : xs.length = n ∧ n ≤ cap ∧ cap ≤ maxLen)
    (h0 : 1 ≤ ys.length) (h1 : ys.all isOne = true) (hm : n + ys.length ≤ maxLen) (hby : (n + ys.length) * b ≤ 140737488355328) (hzc : z.cells.size = 1)
    (hk : ∀ g' cap', n + ys.length ≤ cap' → cap' ≤ maxLen → RS P N ops l ((d, .raw (.slice (some ⟨g', 0, none⟩) (n + ys.length) cap')) :: e.keep) (StR R w0 gs (H.set k ⟨g', el, xs ++ ys, cap'⟩)) Q) :
    RS P N ops (⟨some d, .call { callee := .builtin .append, args := #[A, B], argTypes := #[t, t] }, ty, pos, after, none⟩ :: l) e (StR R w0 gs H) Q := by
  intro a w hS hF
  refine wpList_plain rfl fun K hK => ?_
  have hA' := (hF.eval hA).inv_raw
  obtain ⟨y, hy, hrd⟩ := hB
  obtain ⟨ad, m, c, hB', hl, _, _, hcells⟩ := hrd w _ hS (hF.eval hy)
  rw [Nat.mul_one] at hl
  obtain ⟨bb, had, hsp, _⟩ := hcells 0 _ (List.getElem?_eq_getElem (by omega))
  subst had
  obtain ⟨i, hi1, hz1, hs1, hb1⟩ := hi.h
  have hmem : (⟨g, el, xs, cap⟩ : Ent) ∈ H := List.mem_of_getElem? hH
  obtain ⟨cur, hcur, hcsz, hcx⟩ := (hS.own _ hmem).2
  obtain ⟨hxn, hnc, hcm⟩ := hn
  have hown : w.ownsRow 0 el 1 (.slice (some ⟨g, 0, none⟩) n cap) n (cur.toList.take n) := by
    refine ⟨by simp only [List.length_take, Array.length_toList, hcsz]; omega, .inr ⟨g, cap, cur, rfl, Nat.zero_le _, hcur, hnc, hcm, by simpa using hcsz, by simp⟩⟩
  -- what is to be appended
  have hnews : ∃ news : List Value, news.length = ys.length ∧ ∀ (j : Nat) (u : Value), news[j]? = some u → w.cell? (bb.add j) = some u ∧ ∃ y, ys[j]? = some y ∧ isOne y = true ∧ Ev y u := by
    have hex : ∀ k, k ≤ ys.length → ∃ news : List Value, news.length = k ∧ ∀ (j : Nat) (u : Value), news[j]? = some u → w.cell? (bb.add j) = some u ∧ ∃ y, ys[j]? = some y ∧ isOne y = true ∧ Ev y u := by
      intro k
      induction k with
      | zero => intro _; exact ⟨[], rfl, fun j u h => by simp at h⟩
      | succ k ih =>
        intro hk
        obtain ⟨news, hln, hall⟩ := ih (by omega)
        have hy' : ys[k]? = some (ys[k]'(by omega)) := List.getElem?_eq_getElem (by omega)
        obtain ⟨b', hb', hsp', u, hu', hev⟩ := hcells k _ hy'
        cases hb'
        refine ⟨news ++ [u], by simp [hln], fun j v hj => ?_⟩
        rcases Nat.lt_or_ge j k with h | h
        · rw [List.getElem?_append_left (by omega)] at hj; exact hall j v hj
        · have hjk : j = k := by
            have := (List.getElem?_eq_some_iff.1 hj).1
            simp only [List.length_append, hln, List.length_cons, List.length_nil] at this
            omega
          subst hjk
          rw [List.getElem?_append_right (by omega), hln, Nat.sub_self] at hj
          cases hj
          exact ⟨by rw [addr_add bb hsp]; exact hu', _, hy', List.all_eq_true.1 h1 _ (List.getElem_mem _), hev⟩
    exact hex _ (Nat.le_refl _)
  obtain ⟨news, hln, hnw⟩ := hnews
  have hone : ∀ u ∈ news, u.oneCell' = true := fun u hu => by
    obtain ⟨j, hj⟩ := List.mem_iff_getElem?.1 hu
    obtain ⟨_, y, _, hy1, hev⟩ := hnw j u hj
    exact (oneAV_spec hy1 (hev w)).2.1
  obtain ⟨g', cap', w', hr, hown', hgrow, hat, hlt⟩ := run_append_lies (P := P) w t ty 0 el i z 1 b hu.h hi1 hz1 hs1 hb1 hzc (by omega) (.slice (some ⟨g, 0, none⟩) n cap) n (cur.toList.take n) hown
    bb m c news (by omega) (fun j u hj => (hnw j u hj).1) hone (by omega) (by omega) (by rw [← hl]; exact hby) (Nat.zero_le _) _ rfl
  obtain ⟨hlx, hown'⟩ := hown'
  obtain ⟨g2, cap2, cur2, he2, _, hh2, hnc2, hcm2, hcs2, htk⟩ : ∃ g cap, ∃ X : Array Value, Value.slice (some ⟨g', 0, none⟩) (n + m) cap' = .slice (some ⟨g, 0, none⟩) (n + m) cap ∧ 0 ≤ g ∧ w'.heap[g]? = some (.cells X el (0, 0)) ∧ n + m ≤ cap ∧ cap ≤ maxLen ∧ X.size = cap * 1 ∧ X.toList.take ((n + m) * 1) = X.toList.take ((n + m) * 1) ∧ X.toList.take ((n + m) * 1) = cur.toList.take n ++ news := by
    rcases hown' with ⟨h, _⟩ | ⟨g, cap, cur, h1, h2, h3, h4, h5, h6, h7⟩
    · cases h
    · exact ⟨g, cap, cur, h1, h2, h3, h4, h5, h6, rfl, h7⟩
  obtain ⟨_, htk⟩ := htk
  cases he2
  have hmy : m = ys.length := hl.symm
  subst hmy
  have hmod : Mod w w' [g] := ⟨hgrow.os, hgrow.tape, hgrow.output, hgrow.size, fun k hk hne => hgrow.block k hk (by simp [Value.ownBlock]; simpa using hne)⟩
  have ho' : OwnE w' ⟨g', el, xs ++ ys, cap'⟩ := by
    refine ⟨cur2, hh2, by simpa using hcs2, fun j x hj => ?_⟩
    have htj : ∀ v, (cur.toList.take n ++ news)[j]? = some v → cur2[j]? = some v := fun v hv => by
      rw [← htk, List.getElem?_take] at hv
      split at hv
      · simpa using hv
      · cases hv
    have hlt' : (cur.toList.take n).length = n := by simp only [List.length_take, Array.length_toList, hcsz]; omega
    rcases Nat.lt_or_ge j n with h | h
    · rw [List.getElem?_append_left (by omega)] at hj
      obtain ⟨u, hu', hev⟩ := hcx j x hj
      refine ⟨u, htj u ?_, hev⟩
      rw [List.getElem?_append_left (by omega), List.getElem?_take, if_pos h]
      simpa using hu'
    · rw [List.getElem?_append_right (by omega), hxn] at hj
      have hj' : j - n < news.length := by rw [hln]; exact (List.getElem?_eq_some_iff.1 hj).1
      obtain ⟨_, y, hy', _, hev⟩ := hnw (j - n) _ (List.getElem?_eq_getElem hj')
      rw [hj] at hy'
      cases hy'
      refine ⟨_, htj _ ?_, hev⟩
      rw [List.getElem?_append_right (by omega), hlt', List.getElem?_eq_getElem hj']
  unfold Oper.wp
  have hrun : (execOp a.eval ⟨some d, .call { callee := .builtin .append, args := #[A, B], argTypes := #[t, t] }, ty, pos, after, none⟩).run P w = .ok (.value (.slice (some ⟨g', 0, none⟩) (n + ys.length) cap')) w' := by
    simp only [execOp, resolve, invoke, builtin, Sem.run_bind, Sem.run_pure, Result.andThen_ok, List.map_toArray, List.map_cons, List.map_nil, hA', hB', hr]
  rw [hrun]
  refine hK _ _ (hk g' cap' hnc2 hcm2 _ w' (hS.updAt hH hmod ?_ ho') (Fr.put (some d) hF.keep (fun _ h => by cases h; exact Nat.le_of_ble_eq_true hd) .raw))
  rcases hat with h | h
  · left
    have : g = g' := by simpa [Value.ownBlock] using h
    exact this.symm
  · right; simp only; omega
/-- 'append' of one float to a table of the call's own. -/
theorem rs_appendT (k : Nat) (f' : Int → FV) {d : Tmp} {A B : Operand} {g n cap : Nat} {f : Int → FV} {x : FV} {t el : TypeId} {z : Value} {b : Nat} [hu : TyU P t (.slice el)] [hi : TyI P el z 1 b] (hd : Nat.blt d N = true)
    (hA : e.ev A = some (.raw (.slice (some ⟨g, 0, none⟩) n cap))) (hB : e.ev B = some (AV.lit [.f .f32 x])) (hH : H[k]? = some (entF g el n f cap)) (hn : n ≤ cap ∧ cap ≤ maxLen)
    (hm : n < 2 ^ 40) (hby : Nat.ble b 64 = true) (hzc : z.cells.size = 1) (hf : f' n = x) (hf' : ∀ s : Int, 0 ≤ s → s < n → f' s = f s)
    (hk : ∀ g' cap', n + 1 ≤ cap' → cap' ≤ maxLen → RS P N ops l ((d, .raw (.slice (some ⟨g', 0, none⟩) (n + 1) cap')) :: e.keep) (StR R w0 gs (H.set k (entF g' el (n + 1) f' cap'))) Q) :
    RS P N ops (⟨some d, .call { callee := .builtin .append, args := #[A, B], argTypes := #[t, t] }, ty, pos, after, none⟩ :: l) e (StR R w0 gs H) Q := by
  have hb := Nat.le_of_ble_eq_true hby
  refine rs_append k (ys := [.f .f32 x]) hd hA ⟨_, hB, fun w v _ h => h.inv_p.2⟩ hH ⟨by simp [tab_length], hn.1, hn.2⟩ (by simp) rfl (by simp only [maxLen, List.length_cons, List.length_nil]; omega)
    (Nat.le_trans (Nat.mul_le_mul (show n + ([AV.f .f32 x] : List AV).length ≤ 2 ^ 40 from by simp only [List.length_cons, List.length_nil]; omega) hb) (by decide)) hzc fun g' cap' h1 h2 => ?_
  have : ((tab n f).map (AV.f .f32) ++ [.f .f32 x] : List AV) = (tab (n + 1) f').map (AV.f .f32) := by
    rw [← tab_snoc hf hf', List.map_append]; rfl
  rw [this]
  exact hk g' cap' h1 h2
/-- Tables that came in. -/
theorem zbo {R0 : World → Prop} {n : Nat} {f : Int → FV} {X : Operand} {t t2 : TypeId} {b : Nat} {z : Value} {el : TypeId} [hu : TyU P t (.slice el)] [hi : TyI P el z 1 b] (hx : e.ev X = some (AV.sl w0 1 ((tab n f).map (AV.f .f32)))) :
    OpJ P (StR R0 w0 [] H) e ⟨dst, .call { callee := .builtin .len, args := #[X], argTypes := #[t] }, t2, pos, after, guard⟩ (.raw (.int .i64 (n : Int))) := by
  have h := zbm (P := P) (R0 := R0) (H := H) (dst := dst) (pos := pos) (after := after) (guard := guard) (t2 := t2) (hu := hu) (hi := hi) hx
  rw [tab_length] at h
  exact h
theorem zbs {R0 : World → Prop} {n : Nat} {f : Int → FV} {X I : Operand} {i : Int} {t : TypeId} {b : Nat} {z : Value} {el : TypeId} [hu : TyU P t (.slice el)] [hi : TyI P el z 1 b]
    (hx : e.ev X = some (AV.sl w0 1 ((tab n f).map (AV.f .f32)))) (hI : e.ev I = some (.raw (.int .i64 i))) (h0 : 0 ≤ i) (hlt : i < (n : Int)) :
    OpJ P (StR R0 w0 [] H) e ⟨dst, .indexAddr t X I, ty, pos, after, guard⟩ (AV.ptr [.f .f32 (f i)]) := by
  have h := zbv (P := P) (R0 := R0) (H := H) (dst := dst) (ty := ty) (pos := pos) (after := after) (guard := guard) (hu := hu) (hi := hi) hx hI h0 (by rw [tab_length]; exact hlt)
  have hg : (tab n f).getD i.toNat default = f i := at_tab h0 hlt
  rw [hg] at h
  exact h
/-- A call that turns the owned block at some place. -/
theorem rs_callAt (k : Nat) {X : Type} {A : World → List AV} {mk : X → AV} {good : X → Prop} {c : FuncId} {xs : List Operand} {F : Operand} {args : List AV} {d : Tmp} {ts : Array TypeId} [hb : HasBody P c] {en : Ent} {en' : X → Ent}
    (hc : FnH P c A [en] mk (fun y => [en' y]) good) (hH : H[k]? = some en) (hF : e.ev F = some (.raw (.func (.func c) #[] #[]))) (hx : evL e xs = some args) (ht : Takes (StR R w0 gs H) args A) (hd : Nat.blt d N = true)
    (h : ∀ y, good y → RS P N ops l ((d, mk y) :: e.keep) (StR R w0 gs (H.set k (en' y))) Q) :
    RS P N ops (⟨some d, .call { callee := .value F, args := xs.toArray, argTypes := ts }, ty, pos, after, none⟩ :: l) e (StR R w0 gs H) Q := by
  obtain ⟨hlt, hen⟩ := List.getElem?_eq_some_iff.1 hH
  have hp : (en :: H.eraseIdx k).Perm H := by
    have := erase_perm hlt
    rw [hen] at this
    exact this
  refine RS.perm (rs_call (pre := [en]) (H := H.eraseIdx k) hc hF hx (fun w vs hS hr => ht w vs (hS.perm hp.symm) hr) hd fun y hy => ?_) hp
  refine RS.perm (h y hy) ?_
  have hlt' : k < (H.set k (en' y)).length := by simpa using hlt
  have hp' := erase_perm hlt'
  rw [List.getElem_set_self, List.eraseIdx_set_eq] at hp'
  exact hp'.symm
theorem zae {t : TypeId} {X : Operand} (h : RS P N ops (⟨dst, .load t X, ty, pos, after, guard⟩ :: l) e S Q) : RS P N ops (⟨dst, .load t X, ty, pos, after, guard⟩ :: l) e S Q := h
theorem zaf {t : TypeId} {X I : Operand} (h : RS P N ops (⟨dst, .indexAddr t X I, ty, pos, after, guard⟩ :: l) e S Q) : RS P N ops (⟨dst, .indexAddr t X I, ty, pos, after, guard⟩ :: l) e S Q := h
theorem zag {t : TypeId} {X Y : Operand} (h : RS P N ops (⟨dst, .store t X Y, ty, pos, after, guard⟩ :: l) e S Q) : RS P N ops (⟨dst, .store t X Y, ty, pos, after, guard⟩ :: l) e S Q := h
theorem zat {K : Env → Prop} {t : TypeId} {X : Operand} (h : Run1 P N S ops (⟨dst, .load t X, ty, pos, after, guard⟩ :: l) e K) : Run1 P N S ops (⟨dst, .load t X, ty, pos, after, guard⟩ :: l) e K := h
theorem zau {K : Env → Prop} {t : TypeId} {X I : Operand} (h : Run1 P N S ops (⟨dst, .indexAddr t X I, ty, pos, after, guard⟩ :: l) e K) : Run1 P N S ops (⟨dst, .indexAddr t X I, ty, pos, after, guard⟩ :: l) e K := h
theorem Takes.ownE {R0 : World → Prop} {g n cap sz : Nat} {xs : List AV} {args : List AV} {A : World → List AV} (hm : ∃ T c, (⟨g, T, xs, c⟩ : Ent) ∈ H) (hn : xs.length = n * sz) (hc : n ≤ cap) (hx : cap ≤ maxLen) (h : Takes (StR R0 w0 gs H) args A) :
    Takes (StR R0 w0 gs H) (.raw (.slice (some ⟨g, 0, none⟩) n cap) :: args) (fun w => AV.sl w sz xs :: A w) := by
  obtain ⟨T, c, hm⟩ := hm
  exact Takes.own hm hn hc hx h
end
end Go.Ab
namespace Go.Ab
/-- An operation that turns the world and gives nothing. -/
def EffJ (P : Program) (S0 S1 : World → Prop) (e : Env) (o : Oper) : Prop :=
  ∀ (a : Act) (w : World) (K : Act → World → Prop) (Q : Exit → Act → World → Prop), S0 w →
    (∀ x ∈ o.op.operands.toList, ∀ y, e.ev x = some y → Rel w y (a.eval x)) →
    (∀ w', S1 w' → K a w') → o.wp P a w K Q

section
variable {P : Program} {N : Nat} {S S0 S1 W : World → Prop} {e : Env} {Q : Exit → Env → World → Prop} {ops : Array Oper} {l : List Oper} {o : Oper}
/-- The least that is not listed is ready. -/
theorem ready_ne {L : Array Bool} (hL : L.size = ops.size) (hback : ∀ k o, ops[k]? = some o → ∀ j ∈ directs o, j < k) {i : Nat} (hi : i < ops.size) (hn : ¬ Listed L i) : Region.ready .any ops L ≠ [] := by
  have hmin : ∀ m, (∃ i, i < m ∧ i < ops.size ∧ ¬ Listed L i) → ∃ i, i < ops.size ∧ ¬ Listed L i ∧ ∀ j, j < i → Listed L j := by
    intro m
    induction m with
    | zero => rintro ⟨i, hi, _⟩; omega
    | succ m ihm =>
      rintro ⟨i, hi, hin, hil⟩
      by_cases h' : ∃ i, i < m ∧ i < ops.size ∧ ¬ Listed L i
      · exact ihm h'
      · refine ⟨i, hin, hil, fun j hj => ?_⟩
        false_or_by_contra
        rename_i hjl
        exact h' ⟨j, by omega, by omega, hjl⟩
  obtain ⟨i, hin, hil, hjs⟩ := hmin (i + 1) ⟨i, by omega, hi, hn⟩
  have : i ∈ Region.ready .any ops L := (ready_iff hL i).2 ⟨hin, hil, fun o ho j hj => hjs j (hback i o ho j hj)⟩
  intro hnil
  rw [hnil] at this
  simp at this

end
end Go.Ab
namespace Go.Ab
variable {R : World → Prop} [RStab R]
/-- Field k of a struct lies at cell off. -/
class TyF (P : Program) (t : TypeId) (k : Nat) (off : outParam Nat) : Prop where
  h : ∃ fs f i, P.underlying t = some (.struct fs) ∧ fs[k]? = some f ∧ f.offset = off ∧ P.info? f.type = some i ∧ (i.size == 0) = false

section
variable {P : Program} {N : Nat} {S : World → Prop} {e : Env} {Q : Exit → Env → World → Prop} {ops : Array Oper} {l : List Oper} {o : Oper}
variable {w0 : World} {gs : List Nat} {H : List Ent} {dst : Option Tmp} {ty : TypeId} {pos : String} {after : Array Edge} {guard : Option (Nat × Bool)}
theorem run_fieldAt {t : TypeId} {k off : Nat} [hf : TyF P t k off] (w : World) (a : Addr) : (Instr.fieldAt t (.pointer (some a)) k).run P w = .ok (.pointer (some (a.add off))) w := by
  obtain ⟨fs, f, i, h1, h2, h3, h4, h5⟩ := hf.h
  have h5' : ¬ i.size = 0 := by simpa using h5
  simp [Instr.fieldAt, run_underlying h1, h2, Instr.sureAddr, fieldPlace, sizeOf, typeInfo, h4, h5', h3]
theorem zcd {t : TypeId} {X : Operand} {k off g i : Nat} [hf : TyF P t k off] (hx : e.ev X = some (.raw (.pointer (some ⟨g, i, none⟩)))) :
    OpJ P S e ⟨dst, .fieldAddr t X k, ty, pos, after, guard⟩ (.raw (.pointer (some ⟨g, i + off, none⟩))) :=
  opj_value fun a w _ h => by
    have h1 := (h X (by simp [Op.operands]) _ hx).inv_raw
    refine ⟨_, w, ?_, Ext.refl _, .raw⟩
    have hr := run_fieldAt (P := P) (t := t) (k := k) w ⟨g, i, none⟩
    rw [addr_add _ rfl] at hr
    simp [execOp, h1, hr]
theorem zce {t : TypeId} {X : Operand} {k off : Nat} {xs : List AV} [hf : TyF P t k off] (hx : e.ev X = some (AV.ptr xs)) :
    OpJ P S e ⟨dst, .fieldAddr t X k, ty, pos, after, guard⟩ (AV.ptr (xs.drop off)) :=
  opj_value fun a w _ h => by
    obtain ⟨_, bb, hv, hsp, hr⟩ := (h X (by simp [Op.operands]) _ hx).inv_p
    have hrun := run_fieldAt (P := P) (t := t) (k := k) w bb
    rw [addr_add _ hsp] at hrun
    refine ⟨.pointer (some ⟨bb.block, bb.off + off, none⟩), w, by simp [execOp, hv, hrun], Ext.refl _, .p (mono_ptrTo _) ⟨⟨bb.block, bb.off + off, none⟩, rfl, rfl, fun j x hj => ?_⟩⟩
    rw [List.getElem?_drop] at hj
    obtain ⟨u, hu, hev⟩ := hr (off + j) x hj
    exact ⟨u, by simpa [Nat.add_assoc] using hu, hev⟩

/-- The cells of a struct at a place. -/
theorem run_loadA {w : World} {t : TypeId} {d : TypeDesc} {z : Value} {sz b : Nat} [hd : TyU P t d] [hi : TyI P t z sz b] (ha : aggD d = true) {bb : Addr} (hsp : bb.spot = none) {xs : List AV} (hl : xs.length = sz)
    (hr : ∀ (i : Nat) (x : AV), xs[i]? = some x → ∃ u, w.cell? ⟨bb.block, bb.off + i, none⟩ = some u ∧ Ev x u) : ∃ cs : List Value, (loadVar t bb).run P w = .ok (.agg cs.toArray) w ∧ RelL w xs cs := by
  have hex : ∀ k, k ≤ sz → ∃ cs : List Value, cs.length = k ∧ (∀ (j : Nat) (v : Value), cs[j]? = some v → w.cell? (bb.add j) = some v) ∧ ∀ (j : Nat) (v : Value) (x : AV), cs[j]? = some v → xs[j]? = some x → Ev x v := by
    intro k
    induction k with
    | zero => intro _; exact ⟨[], rfl, fun j v h => by simp at h, fun j v x h => by simp at h⟩
    | succ k ih =>
      intro hk
      obtain ⟨cs, hlc, h1, h2⟩ := ih (by omega)
      have hx : xs[k]? = some (xs[k]'(by omega)) := List.getElem?_eq_getElem (by omega)
      obtain ⟨u, hu, hev⟩ := hr k _ hx
      refine ⟨cs ++ [u], by simp [hlc], fun j v hj => ?_, fun j v x hj hxj => ?_⟩
      · rcases Nat.lt_or_ge j k with h | h
        · rw [List.getElem?_append_left (by omega)] at hj; exact h1 j v hj
        · have : j = k := by
            have := (List.getElem?_eq_some_iff.1 hj).1
            simp only [List.length_append, hlc, List.length_cons, List.length_nil] at this
            omega
          subst this
          rw [List.getElem?_append_right (by omega), hlc, Nat.sub_self] at hj
          cases hj
          rw [addr_add bb hsp]; exact hu
      · rcases Nat.lt_or_ge j k with h | h
        · rw [List.getElem?_append_left (by omega)] at hj; exact h2 j v x hj hxj
        · have : j = k := by
            have := (List.getElem?_eq_some_iff.1 hj).1
            simp only [List.length_append, hlc, List.length_cons, List.length_nil] at this
            omega
          subst this
          rw [List.getElem?_append_right (by omega), hlc, Nat.sub_self] at hj
          cases hj
          rw [hx] at hxj; cases hxj
          exact hev
  obtain ⟨cs, hlc, h1, h2⟩ := hex sz (Nat.le_refl _)
  refine ⟨cs, ?_, RelL.of_get (by omega) fun j x v hx hv => h2 j v x hv hx w⟩
  have := run_loadCells_list (P := P) w bb cs h1
  rw [hlc] at this
  simp [loadVar, run_isAgg hd.h, ha, run_size hi, this]
theorem opj_loadAO {R0 : World → Prop} {t : TypeId} {d : TypeDesc} {z : Value} {sz b : Nat} {X : Operand} {en : Ent} {i : Nat} [hd : TyU P t d] [hi : TyI P t z sz b] (ha : aggD d = true) (hx : e.ev X = some (.raw (.pointer (some ⟨en.g, i, none⟩)))) (hm : en ∈ H) (hl : i + sz ≤ en.xs.length) :
    OpJ P (StR R0 w0 gs H) e ⟨dst, .load t X, ty, pos, after, guard⟩ (.agg ((en.xs.drop i).take sz)) :=
  opj_value fun a w hS h => by
    have hv := (h X (by simp [Op.operands]) _ hx).inv_raw
    obtain ⟨cs, hrun, hrel⟩ := run_loadA (P := P) (t := t) (w := w) ha (bb := ⟨en.g, i, none⟩) rfl (xs := (en.xs.drop i).take sz) (by simp; omega) (fun j x hj => by
      have hj' : en.xs[i + j]? = some x := by rw [List.getElem?_take] at hj; split at hj <;> simp_all
      exact (hS.own en hm).2.cell hj')
    exact ⟨_, w, by simp [execOp, hv, Instr.loadAt, Instr.sureAddr, hrun], Ext.refl _, .agg hrel⟩

/-- A list of cells written from a place on. -/
def splice (i : Nat) (ys xs : List AV) : List AV := xs.take i ++ ys ++ xs.drop (i + ys.length)
theorem still_mem : ∀ {ys : List AV}, AV.stillL ys = true → ∀ y ∈ ys, y.still = true
  | [], _, y, hy => by cases hy
  | a :: l, h, y, hy => by
    simp only [AV.stillL, Bool.and_eq_true] at h
    rcases List.mem_cons.1 hy with rfl | hy
    · exact h.1
    · exact still_mem h.2 y hy
/-- One cell, whatever it is: not a struct, not a tuple, not unknown. -/
def AV.one : AV → Bool
  | .f .. | .c .. => true
  | .raw (.agg _) | .raw (.tuple _) => false
  | .raw _ => true
  | _ => false
theorem one_cell {x : AV} {w : World} {v : Value} (h : x.one = true) (hr : Rel w x v) : v.oneCell' = true := by
  cases hr <;> first | (simp [AV.one] at h; done) | rfl | skip
  cases v <;> first | (simp [AV.one] at h; done) | rfl
/-- Each lies in one cell. -/
def OneL (ys : List AV) : Prop := ∀ y ∈ ys, ∀ w v, Rel w y v → v.oneCell' = true
theorem oneL_of {ys : List AV} (h : ys.all AV.one = true) : OneL ys := fun y hy _ _ hr => one_cell (List.all_eq_true.1 h y hy) hr
theorem rs_storeAG (k : Nat) {en : Ent} {i : Nat} {t : TypeId} {z : Value} {sz b : Nat} [hi : TyI P t z sz b] {A X : Operand} {ys : List AV} (hA : e.ev A = some (.raw (.pointer (some ⟨en.g, i, none⟩)))) (hx : e.ev X = some (.agg ys)) (h1 : OneL ys) (hs : AV.stillL ys = true)
    (hH : H[k]? = some en) (hl : ys.length = sz) (hi' : i + sz ≤ en.xs.length) (hc : en.xs.length = en.csz)
    (hk : RS P N ops l e.keep (StR R w0 gs (H.set k { en with xs := splice i ys en.xs })) Q) :
    RS P N ops (⟨none, .store t A X, ty, pos, after, none⟩ :: l) e (StR R w0 gs H) Q := by
  intro a w hS hF
  refine wpList_plain rfl fun K hK => ?_
  have h2 := (hF.eval hA).inv_raw
  obtain ⟨vs, hv, hr⟩ := (hF.eval hx).inv_agg
  have hvl : vs.length = sz := by rw [hr.length, hl]
  have hmem : en ∈ H := List.mem_of_getElem? hH
  obtain ⟨cur, hb, hcs, hcx⟩ := (hS.own en hmem).2
  have hone : ∀ v ∈ vs, v.oneCell' = true := fun v hv' => by
    obtain ⟨j, hj⟩ := List.mem_iff_getElem?.1 hv'
    have hjl : j < ys.length := by rw [← hr.length]; exact (List.getElem?_eq_some_iff.1 hj).1
    obtain ⟨u, hu, hru⟩ := hr.get (List.getElem?_eq_getElem hjl)
    rw [hj] at hu; cases hu
    exact h1 _ (List.getElem_mem _) _ _ hru
  have hst := run_storeCells_at (P := P) en.g i en.T vs 0 cur w hb (by omega) hone
  have hrun : (execOp a.eval ⟨none, .store t A X, ty, pos, after, none⟩).run P w = .ok .skip (w.setRow en.g (cur.toList.take (i + 0) ++ vs ++ cur.toList.drop (i + 0 + vs.length)).toArray) := by
    have hcs' : (Value.agg vs.toArray).cells = vs.toArray := rfl
    simp [execOp, h2, hv, Instr.storeAt, Instr.sureAddr, storeVar, run_size hi, hcs', hvl, hst]
  simp only [Nat.add_zero] at hrun
  unfold Oper.wp
  rw [hrun]
  have hrow : ((w.setRow en.g (cur.toList.take i ++ vs ++ cur.toList.drop (i + vs.length)).toArray)).heap[en.g]? = some (.cells (cur.toList.take i ++ vs ++ cur.toList.drop (i + vs.length)).toArray en.T (0, 0)) := setRow_heap w en.g cur _ en.T _ hb
  have hto : (cur.toList.take i).length = i := by simp; omega
  have hto' : (en.xs.take i).length = i := by simp; omega
  refine hK _ _ (hk _ _ (hS.updAt (e' := { en with xs := splice i ys en.xs }) hH ?_ (.inl rfl) ?_) hF.keep)
  · refine ⟨rfl, rfl, rfl, by simp, fun k _ hk => setRow_other w en.g k _ (fun e => hk (by simp [e]))⟩
  · refine ⟨_, hrow, ?_, fun j x hj => ?_⟩
    · simp only [List.size_toArray, List.length_append, List.length_drop, hto, Array.length_toList, hvl]; omega
    · simp only [splice] at hj
      simp only [List.getElem?_toArray]
      rcases Nat.lt_or_ge j i with h | h
      · rw [List.append_assoc, List.getElem?_append_left (by omega), List.getElem?_take, if_pos h] at hj
        obtain ⟨u, hu, hev⟩ := hcx j x hj
        exact ⟨u, by rw [List.append_assoc, List.getElem?_append_left (by omega), List.getElem?_take, if_pos h]; simpa using hu, hev⟩
      · rcases Nat.lt_or_ge j (i + sz) with h' | h'
        · rw [List.append_assoc, List.getElem?_append_right (by omega), hto', List.getElem?_append_left (by omega)] at hj
          obtain ⟨u, hu, hru⟩ := hr.get hj
          refine ⟨u, ?_, hru.ev (still_mem hs x (List.mem_of_getElem? hj))⟩
          rw [List.append_assoc, List.getElem?_append_right (by omega), hto, List.getElem?_append_left (by omega)]
          exact hu
        · rw [List.getElem?_append_right (by simp; omega), List.getElem?_drop] at hj
          have e1 : i + ys.length + (j - (en.xs.take i ++ ys).length) = j := by simp; omega
          rw [e1] at hj
          obtain ⟨u, hu, hev⟩ := hcx j x hj
          refine ⟨u, ?_, hev⟩
          rw [List.getElem?_append_right (by simp; omega), List.getElem?_drop]
          have e2 : i + vs.length + (j - (cur.toList.take i ++ vs).length) = j := by simp; omega
          rw [e2]
          simpa using hu

theorem rs_storeA (k : Nat) {en : Ent} {i : Nat} {t : TypeId} {z : Value} {sz b : Nat} [hi : TyI P t z sz b] {A X : Operand} {ys : List AV} (hA : e.ev A = some (.raw (.pointer (some ⟨en.g, i, none⟩)))) (hx : e.ev X = some (.agg ys)) (h1 : ys.all AV.one = true) (hs : AV.stillL ys = true)
    (hH : H[k]? = some en) (hl : ys.length = sz) (hi' : i + sz ≤ en.xs.length) (hc : en.xs.length = en.csz)
    (hk : RS P N ops l e.keep (StR R w0 gs (H.set k { en with xs := splice i ys en.xs })) Q) :
    RS P N ops (⟨none, .store t A X, ty, pos, after, none⟩ :: l) e (StR R w0 gs H) Q := rs_storeAG k hA hx (oneL_of h1) hs hH hl hi' hc hk
theorem zcf {R0 : World → Prop} {X : Operand} {x : AV} {g i c : Nat} {T : TypeId} {xs : List AV} {t : TypeId} {d : TypeDesc} [hd : TyU P t d] (ha : aggD d = false)
    (hx : e.ev X = some (.raw (.pointer (some ⟨g, i, none⟩)))) (hm : (⟨g, T, xs, c⟩ : Ent) ∈ H) (h0 : xs[i]? = some x) : OpJ P (StR R0 w0 gs H) e ⟨dst, .load t X, ty, pos, after, guard⟩ x :=
  opj_load_own (en := ⟨g, T, xs, c⟩) ha hx hm h0
theorem zcg {R0 : World → Prop} {t : TypeId} {d : TypeDesc} {z : Value} {sz b : Nat} {X : Operand} {g i c : Nat} {T : TypeId} {xs ys : List AV} [hd : TyU P t d] [hi : TyI P t z sz b] (ha : aggD d = true) (hx : e.ev X = some (.raw (.pointer (some ⟨g, i, none⟩)))) (hm : (⟨g, T, xs, c⟩ : Ent) ∈ H) (hl : Nat.ble (i + sz) xs.length = true) (hy : (xs.drop i).take sz = ys) :
    OpJ P (StR R0 w0 gs H) e ⟨dst, .load t X, ty, pos, after, guard⟩ (.agg ys) := by
  subst hy
  exact opj_loadAO (en := ⟨g, T, xs, c⟩) ha hx hm (Nat.le_of_ble_eq_true hl)
theorem zam (k : Nat) {g i c : Nat} {T : TypeId} {xs ys : List AV} {t : TypeId} {z : Value} {b : Nat} [hi : TyI P t z 1 b] {A X : Operand} {x : AV} (hA : e.ev A = some (.raw (.pointer (some ⟨g, i, none⟩)))) (hx : e.ev X = some x) (h1 : oneAV x = true) (hH : H[k]? = some ⟨g, T, xs, c⟩) (hi' : Nat.blt i c = true) (hy : xs.set i x = ys)
    (hk : RS P N ops l e.keep (StR R w0 gs (H.set k ⟨g, T, ys, c⟩)) Q) :
    RS P N ops (⟨none, .store t A X, ty, pos, after, none⟩ :: l) e (StR R w0 gs H) Q := by
  subst hy
  exact rs_storeAt k (en := ⟨g, T, xs, c⟩) hA hx h1 hH (Nat.le_of_ble_eq_true hi') hk
theorem zan (k : Nat) {g i c : Nat} {T : TypeId} {xs zs : List AV} {t : TypeId} {z : Value} {sz b : Nat} [hi : TyI P t z sz b] {A X : Operand} {ys : List AV} (hA : e.ev A = some (.raw (.pointer (some ⟨g, i, none⟩)))) (hx : e.ev X = some (.agg ys)) (h1 : ys.all AV.one = true) (hs : AV.stillL ys = true)
    (hH : H[k]? = some ⟨g, T, xs, c⟩) (hl : ys.length = sz) (hi' : Nat.ble (i + sz) xs.length = true) (hc : xs.length = c) (hz : splice i ys xs = zs)
    (hk : RS P N ops l e.keep (StR R w0 gs (H.set k ⟨g, T, zs, c⟩)) Q) :
    RS P N ops (⟨none, .store t A X, ty, pos, after, none⟩ :: l) e (StR R w0 gs H) Q := by
  subst hz
  exact rs_storeA k (en := ⟨g, T, xs, c⟩) hA hx h1 hs hH hl (Nat.le_of_ble_eq_true hi') hc hk
/-- A struct that lies in a block of its own is what is returned. -/
theorem done_retC {R0 : World → Prop} {X : Type} {mk : X → AV} {post : X → List Ent} {good : X → Prop} {fn : Func} {p : Tmp} {t : TypeId} {d : TypeDesc} {z : Value} {sz b : Nat} {en : Ent} [hd : TyU P t d] [hi : TyI P t z sz b] (ha : aggD d = true) (hr : fn.results = #[.cell p t]) (y : X)
    (hp : e.look p = some (.raw (.pointer (some ⟨en.g, 0, none⟩)))) (hm : en ∈ H) (hl : en.xs.length = sz) (hmk : mk y = .agg en.xs) (hy : good y) (hs : (post y).Sublist H) :
    Done .ret e (StR R0 w0 gs H) (Ret P fn N w0 gs mk post good) := fun w hw =>
  ⟨.inl rfl, y, hy, hw.mod, fun x hx => ⟨(hw.own x (hs.subset hx)).2, (hw.own x (hs.subset hx)).1⟩, (hw.weak hs).nodup, fun a hF => by
    obtain ⟨u, hu, hru⟩ := hF.rel p _ hp
    have := hru.inv_raw
    subst this
    obtain ⟨cs, hrun, hrel⟩ := run_loadA (P := P) (t := t) (w := w) ha (bb := ⟨en.g, 0, none⟩) rfl (xs := en.xs) hl (fun j x hj => (hw.own en hm).2.cell (by simpa using hj))
    refine ⟨.agg cs.toArray, ?_, by rw [hmk]; exact .agg hrel⟩
    simp [results, hr, hu, asAddr, hrun]⟩
theorem done_retX {R0 : World → Prop} {X : Type} {mk : X → AV} {post : X → List Ent} {good : X → Prop} {fn : Func} {p : Tmp} {t : TypeId} {d : TypeDesc} {z : Value} {sz b g c : Nat} {T : TypeId} {xs ys : List AV} [hd : TyU P t d] [hi : TyI P t z sz b] (ha : aggD d = true) (hr : fn.results = #[.cell p t]) (y : X)
    (hp : e.look p = some (.raw (.pointer (some ⟨g, 0, none⟩)))) (hm : (⟨g, T, xs, c⟩ : Ent) ∈ H) (hl : Nat.beq xs.length sz = true) (hmk : mk y = .agg ys) (hxy : ys = xs) (hy : good y) (hs : (post y).Sublist H) :
    Done .ret e (StR R0 w0 gs H) (Ret P fn N w0 gs mk post good) := by
  subst hxy
  exact done_retC (en := ⟨g, T, ys, c⟩) ha hr y hp hm (Nat.eq_of_beq_eq_true hl) hmk hy hs
end
end Go.Ab
namespace Go.Ab
section
variable {P : Program} {N : Nat} {S S0 W : World → Prop} {e : Env} {Q : Exit → Env → World → Prop} {ops : Array Oper} {l : List Oper} {o : Oper}
/-- An operation that makes a block. -/
def MakesX (P : Program) (S0 : World → Prop) (S1 : Nat → World → Prop) (o : Oper) : Prop :=
  ∀ (a : Act) (w : World) (K : Act → World → Prop) (Q : Exit → Act → World → Prop), S0 w → (∀ g w', Ext w w' → S1 g w' → K (a.put o.dst (.pointer (some ⟨g, 0, none⟩))) w') → o.wp P a w K Q
/-- A variable of its own. -/
theorem makesX_alloc {R : World → Prop} [RStab R] {w0 : World} {gs : List Nat} {H : List Ent} {d : Tmp} {ty : TypeId} {pos : String} {after : Array Edge} {el : TypeId} {z : Value} {sz b : Nat} [hi : TyI P el z sz b] (hzo : z.cells.toList.all okv1 = true) {xs : List AV} {c : Nat} (hxs : z.cells.toList.map cv1 = xs) (hc : z.cells.size = c) :
    MakesX P (StR R w0 gs H) (fun g => StR R w0 gs (⟨g, el, xs, c⟩ :: H)) ⟨some d, .alloc el, ty, pos, after, none⟩ := by
  subst hxs hc
  intro a w K Q hS hK
  unfold Oper.wp
  have hex : (execOp a.eval ⟨some d, .alloc el, ty, pos, after, none⟩).run P w = .ok (.value (.pointer (some ⟨w.heap.size, 0, none⟩))) (w.alloc (.cells z.cells el)) := by
    simp [execOp, Instr.alloc, run_zero hi, newVar, newRow]
  rw [hex]
  refine hK _ _ (Ext.alloc _ _) ?_
  refine hS.new (e := ⟨w.heap.size, el, z.cells.toList.map cv1, z.cells.size⟩) (Ext.alloc _ _) (Nat.le_refl _) (ext_alloc_own fun j x hj => ?_)
  simp only [List.getElem?_map, Option.map_eq_some_iff] at hj
  obtain ⟨v, hv, rfl⟩ := hj
  exact ⟨v, by simpa using hv, cv1_ev v (List.all_eq_true.1 hzo v (List.mem_of_getElem? hv))⟩
end
end Go.Ab
namespace Go.Ab
open Go.Proofs
instance ty2 : TyU Try.prog 2 (.int .i64) := ⟨by kernel_rfl⟩
instance ty3 : TyU Try.prog 3 (.int .i64) := ⟨by kernel_rfl⟩
instance ti3 : TyI Try.prog 3 (.int .i64 0) 1 8 := ⟨⟨(Try.prog.info? 3).getD default, by kernel_rfl, by kernel_rfl, by kernel_rfl, by kernel_rfl⟩⟩
instance ty4 : TyU Try.prog 4 (.bool) := ⟨by kernel_rfl⟩
instance ty5 : TyU Try.prog 5 (.int .u8) := ⟨by kernel_rfl⟩
instance ti5 : TyI Try.prog 5 (.int .u8 0) 1 1 := ⟨⟨(Try.prog.info? 5).getD default, by kernel_rfl, by kernel_rfl, by kernel_rfl, by kernel_rfl⟩⟩
instance ty22 : TyU Try.prog 22 (.slice 5) := ⟨by kernel_rfl⟩
instance ty24 : TyU Try.prog 24 (.slice 30) := ⟨by kernel_rfl⟩
instance ti24 : TyI Try.prog 24 (.slice none 0 0) 1 24 := ⟨⟨(Try.prog.info? 24).getD default, by kernel_rfl, by kernel_rfl, by kernel_rfl, by kernel_rfl⟩⟩
instance ty25 : TyU Try.prog 25 (.slice 31) := ⟨by kernel_rfl⟩
instance ti25 : TyI Try.prog 25 (.slice none 0 0) 1 24 := ⟨⟨(Try.prog.info? 25).getD default, by kernel_rfl, by kernel_rfl, by kernel_rfl, by kernel_rfl⟩⟩
instance ty27 : TyU Try.prog 27 (.struct (Try.prog.fieldsOf 26)) := ⟨by kernel_rfl⟩
instance ti27 : TyI Try.prog 27 (.agg #[.slice none 0 0, .slice none 0 0]) 2 48 := ⟨⟨(Try.prog.info? 27).getD default, by kernel_rfl, by kernel_rfl, by kernel_rfl, by kernel_rfl⟩⟩
instance ty30 : TyU Try.prog 30 (.complex .f32) := ⟨by kernel_rfl⟩
instance ti30 : TyI Try.prog 30 (.complex .f32 0 0) 1 8 := ⟨⟨(Try.prog.info? 30).getD default, by kernel_rfl, by kernel_rfl, by kernel_rfl, by kernel_rfl⟩⟩
instance ty31 : TyU Try.prog 31 (.float .f32) := ⟨by kernel_rfl⟩
instance ti31 : TyI Try.prog 31 (.float .f32 0) 1 4 := ⟨⟨(Try.prog.info? 31).getD default, by kernel_rfl, by kernel_rfl, by kernel_rfl, by kernel_rfl⟩⟩
instance ty36 : TyU Try.prog 36 (.float .f64) := ⟨by kernel_rfl⟩
instance ty39 : TyU Try.prog 39 (.slice 43) := ⟨by kernel_rfl⟩
instance ti39 : TyI Try.prog 39 (.slice none 0 0) 1 24 := ⟨⟨(Try.prog.info? 39).getD default, by kernel_rfl, by kernel_rfl, by kernel_rfl, by kernel_rfl⟩⟩
instance ty43 : TyU Try.prog 43 (.struct (Try.prog.fieldsOf 42)) := ⟨by kernel_rfl⟩
instance ti43 : TyI Try.prog 43 (.agg #[.float .f32 0, .float .f32 0]) 2 8 := ⟨⟨(Try.prog.info? 43).getD default, by kernel_rfl, by kernel_rfl, by kernel_rfl, by kernel_rfl⟩⟩
instance ty62 : TyU Try.prog 62 (.struct (Try.prog.fieldsOf 61)) := ⟨by kernel_rfl⟩
instance ti62 : TyI Try.prog 62 (.agg #[.slice none 0 0, .slice none 0 0, .float .f32 0, .float .f32 0]) 4 56 := ⟨⟨(Try.prog.info? 62).getD default, by kernel_rfl, by kernel_rfl, by kernel_rfl, by kernel_rfl⟩⟩
instance ty75 : TyU Try.prog 75 (.struct (Try.prog.fieldsOf 74)) := ⟨by kernel_rfl⟩
instance ti75 : TyI Try.prog 75 (.agg #[.slice none 0 0, .slice none 0 0, .float .f32 0, .float .f32 0]) 4 56 := ⟨⟨(Try.prog.info? 75).getD default, by kernel_rfl, by kernel_rfl, by kernel_rfl, by kernel_rfl⟩⟩
instance ty84 : TyU Try.prog 84 (.int .u64) := ⟨by kernel_rfl⟩
instance ti84 : TyI Try.prog 84 (.int .u64 0) 1 8 := ⟨⟨(Try.prog.info? 84).getD default, by kernel_rfl, by kernel_rfl, by kernel_rfl, by kernel_rfl⟩⟩
instance hb4 : HasBody Try.prog 4 := ⟨⟨Try.f4, Try.func4, rfl, by kernel_rfl⟩⟩
instance hb5 : HasBody Try.prog 5 := ⟨⟨Try.f5, Try.func5, rfl, by kernel_rfl⟩⟩
instance hb6 : HasBody Try.prog 6 := ⟨⟨Try.f6, Try.func6, rfl, by kernel_rfl⟩⟩
instance hb7 : HasBody Try.prog 7 := ⟨⟨Try.f7, Try.func7, rfl, by kernel_rfl⟩⟩
instance hb8 : HasBody Try.prog 8 := ⟨⟨Try.f8, Try.func8, rfl, by kernel_rfl⟩⟩
instance hb9 : HasBody Try.prog 9 := ⟨⟨Try.f9, Try.func9, rfl, by kernel_rfl⟩⟩
instance hb10 : HasBody Try.prog 10 := ⟨⟨Try.f10, Try.func10, rfl, by kernel_rfl⟩⟩
instance hb11 : HasBody Try.prog 11 := ⟨⟨Try.f11, Try.func11, rfl, by kernel_rfl⟩⟩
instance hb12 : HasBody Try.prog 12 := ⟨⟨Try.f12, Try.func12, rfl, by kernel_rfl⟩⟩
instance hb13 : HasBody Try.prog 13 := ⟨⟨Try.f13, Try.func13, rfl, by kernel_rfl⟩⟩
instance hb14 : HasBody Try.prog 14 := ⟨⟨Try.f14, Try.func14, rfl, by kernel_rfl⟩⟩
instance hb15 : HasBody Try.prog 15 := ⟨⟨Try.f15, Try.func15, rfl, by kernel_rfl⟩⟩
instance hb16 : HasBody Try.prog 16 := ⟨⟨Try.f16, Try.func16, rfl, by kernel_rfl⟩⟩
instance hb17 : HasBody Try.prog 17 := ⟨⟨Try.f17, Try.func17, rfl, by kernel_rfl⟩⟩
instance hb18 : HasBody Try.prog 18 := ⟨⟨Try.f18, Try.func18, rfl, by kernel_rfl⟩⟩
instance hb19 : HasBody Try.prog 19 := ⟨⟨Try.f19, Try.func19, rfl, by kernel_rfl⟩⟩
instance hb20 : HasBody Try.prog 20 := ⟨⟨Try.f20, Try.func20, rfl, by kernel_rfl⟩⟩
instance hb21 : HasBody Try.prog 21 := ⟨⟨Try.f21, Try.func21, rfl, by kernel_rfl⟩⟩
instance hb22 : HasBody Try.prog 22 := ⟨⟨Try.f22, Try.func22, rfl, by kernel_rfl⟩⟩
instance hb23 : HasBody Try.prog 23 := ⟨⟨Try.f23, Try.func23, rfl, by kernel_rfl⟩⟩
instance hb24 : HasBody Try.prog 24 := ⟨⟨Try.f24, Try.func24, rfl, by kernel_rfl⟩⟩
instance hb25 : HasBody Try.prog 25 := ⟨⟨Try.f25, Try.func25, rfl, by kernel_rfl⟩⟩
instance hb26 : HasBody Try.prog 26 := ⟨⟨Try.f26, Try.func26, rfl, by kernel_rfl⟩⟩
instance hb27 : HasBody Try.prog 27 := ⟨⟨Try.f27, Try.func27, rfl, by kernel_rfl⟩⟩
instance hb28 : HasBody Try.prog 28 := ⟨⟨Try.f28, Try.func28, rfl, by kernel_rfl⟩⟩
instance hb29 : HasBody Try.prog 29 := ⟨⟨Try.f29, Try.func29, rfl, by kernel_rfl⟩⟩
instance hb30 : HasBody Try.prog 30 := ⟨⟨Try.f30, Try.func30, rfl, by kernel_rfl⟩⟩
instance hb31 : HasBody Try.prog 31 := ⟨⟨Try.f31, Try.func31, rfl, by kernel_rfl⟩⟩
instance hb32 : HasBody Try.prog 32 := ⟨⟨Try.f32, Try.func32, rfl, by kernel_rfl⟩⟩
instance hb33 : HasBody Try.prog 33 := ⟨⟨Try.f33, Try.func33, rfl, by kernel_rfl⟩⟩
instance hb34 : HasBody Try.prog 34 := ⟨⟨Try.f34, Try.func34, rfl, by kernel_rfl⟩⟩
instance hb35 : HasBody Try.prog 35 := ⟨⟨Try.f35, Try.func35, rfl, by kernel_rfl⟩⟩
instance hb36 : HasBody Try.prog 36 := ⟨⟨Try.f36, Try.func36, rfl, by kernel_rfl⟩⟩
instance hb37 : HasBody Try.prog 37 := ⟨⟨Try.f37, Try.func37, rfl, by kernel_rfl⟩⟩
instance hb38 : HasBody Try.prog 38 := ⟨⟨Try.f38, Try.func38, rfl, by kernel_rfl⟩⟩
instance hb39 : HasBody Try.prog 39 := ⟨⟨Try.f39, Try.func39, rfl, by kernel_rfl⟩⟩
instance hb40 : HasBody Try.prog 40 := ⟨⟨Try.f40, Try.func40, rfl, by kernel_rfl⟩⟩
instance hb41 : HasBody Try.prog 41 := ⟨⟨Try.f41, Try.func41, rfl, by kernel_rfl⟩⟩
instance hb42 : HasBody Try.prog 42 := ⟨⟨Try.f42, Try.func42, rfl, by kernel_rfl⟩⟩
instance hb43 : HasBody Try.prog 43 := ⟨⟨Try.f43, Try.func43, rfl, by kernel_rfl⟩⟩
instance hb44 : HasBody Try.prog 44 := ⟨⟨Try.f44, Try.func44, rfl, by kernel_rfl⟩⟩
instance hb45 : HasBody Try.prog 45 := ⟨⟨Try.f45, Try.func45, rfl, by kernel_rfl⟩⟩
instance hb46 : HasBody Try.prog 46 := ⟨⟨Try.f46, Try.func46, rfl, by kernel_rfl⟩⟩
instance hb47 : HasBody Try.prog 47 := ⟨⟨Try.f47, Try.func47, rfl, by kernel_rfl⟩⟩
instance hb48 : HasBody Try.prog 48 := ⟨⟨Try.f48, Try.func48, rfl, by kernel_rfl⟩⟩
instance hb49 : HasBody Try.prog 49 := ⟨⟨Try.f49, Try.func49, rfl, by kernel_rfl⟩⟩
instance hb50 : HasBody Try.prog 50 := ⟨⟨Try.f50, Try.func50, rfl, by kernel_rfl⟩⟩
instance hb51 : HasBody Try.prog 51 := ⟨⟨Try.f51, Try.func51, rfl, by kernel_rfl⟩⟩
instance hb52 : HasBody Try.prog 52 := ⟨⟨Try.f52, Try.func52, rfl, by kernel_rfl⟩⟩
instance hb53 : HasBody Try.prog 53 := ⟨⟨Try.f53, Try.func53, rfl, by kernel_rfl⟩⟩
instance hb54 : HasBody Try.prog 54 := ⟨⟨Try.f54, Try.func54, rfl, by kernel_rfl⟩⟩
instance hb55 : HasBody Try.prog 55 := ⟨⟨Try.f55, Try.func55, rfl, by kernel_rfl⟩⟩
instance hb56 : HasBody Try.prog 56 := ⟨⟨Try.f56, Try.func56, rfl, by kernel_rfl⟩⟩
instance hb57 : HasBody Try.prog 57 := ⟨⟨Try.f57, Try.func57, rfl, by kernel_rfl⟩⟩
instance hb58 : HasBody Try.prog 58 := ⟨⟨Try.f58, Try.func58, rfl, by kernel_rfl⟩⟩
instance hb59 : HasBody Try.prog 59 := ⟨⟨Try.f59, Try.func59, rfl, by kernel_rfl⟩⟩
instance hb60 : HasBody Try.prog 60 := ⟨⟨Try.f60, Try.func60, rfl, by kernel_rfl⟩⟩
instance hb61 : HasBody Try.prog 61 := ⟨⟨Try.f61, Try.func61, rfl, by kernel_rfl⟩⟩
instance hb62 : HasBody Try.prog 62 := ⟨⟨Try.f62, Try.func62, rfl, by kernel_rfl⟩⟩
instance hb64 : HasBody Try.prog 64 := ⟨⟨Try.f64, Try.func64, rfl, by kernel_rfl⟩⟩
instance hb65 : HasBody Try.prog 65 := ⟨⟨Try.f65, Try.func65, rfl, by kernel_rfl⟩⟩
instance hb66 : HasBody Try.prog 66 := ⟨⟨Try.f66, Try.func66, rfl, by kernel_rfl⟩⟩
instance hb67 : HasBody Try.prog 67 := ⟨⟨Try.f67, Try.func67, rfl, by kernel_rfl⟩⟩
instance hb68 : HasBody Try.prog 68 := ⟨⟨Try.f68, Try.func68, rfl, by kernel_rfl⟩⟩
instance hb69 : HasBody Try.prog 69 := ⟨⟨Try.f69, Try.func69, rfl, by kernel_rfl⟩⟩
instance hb70 : HasBody Try.prog 70 := ⟨⟨Try.f70, Try.func70, rfl, by kernel_rfl⟩⟩
instance hb71 : HasBody Try.prog 71 := ⟨⟨Try.f71, Try.func71, rfl, by kernel_rfl⟩⟩
instance hb72 : HasBody Try.prog 72 := ⟨⟨Try.f72, Try.func72, rfl, by kernel_rfl⟩⟩
instance hb73 : HasBody Try.prog 73 := ⟨⟨Try.f73, Try.func73, rfl, by kernel_rfl⟩⟩
instance hb74 : HasBody Try.prog 74 := ⟨⟨Try.f74, Try.func74, rfl, by kernel_rfl⟩⟩
instance hb75 : HasBody Try.prog 75 := ⟨⟨Try.f75, Try.func75, rfl, by kernel_rfl⟩⟩
instance hb77 : HasBody Try.prog 77 := ⟨⟨Try.f77, Try.func77, rfl, by kernel_rfl⟩⟩
instance hb78 : HasBody Try.prog 78 := ⟨⟨Try.f78, Try.func78, rfl, by kernel_rfl⟩⟩
instance hb79 : HasBody Try.prog 79 := ⟨⟨Try.f79, Try.func79, rfl, by kernel_rfl⟩⟩
instance hb80 : HasBody Try.prog 80 := ⟨⟨Try.f80, Try.func80, rfl, by kernel_rfl⟩⟩
instance hb81 : HasBody Try.prog 81 := ⟨⟨Try.f81, Try.func81, rfl, by kernel_rfl⟩⟩
instance hb82 : HasBody Try.prog 82 := ⟨⟨Try.f82, Try.func82, rfl, by kernel_rfl⟩⟩
instance hb83 : HasBody Try.prog 83 := ⟨⟨Try.f83, Try.func83, rfl, by kernel_rfl⟩⟩
instance hb84 : HasBody Try.prog 84 := ⟨⟨Try.f84, Try.func84, rfl, by kernel_rfl⟩⟩
instance hb85 : HasBody Try.prog 85 := ⟨⟨Try.f85, Try.func85, rfl, by kernel_rfl⟩⟩
instance hb86 : HasBody Try.prog 86 := ⟨⟨Try.f86, Try.func86, rfl, by kernel_rfl⟩⟩
instance hb87 : HasBody Try.prog 87 := ⟨⟨Try.f87, Try.func87, rfl, by kernel_rfl⟩⟩
instance hb88 : HasBody Try.prog 88 := ⟨⟨Try.f88, Try.func88, rfl, by kernel_rfl⟩⟩
theorem mixed : Try.prog.follows .mixedOrders = true := by kernel_rfl
end Go.Ab
namespace Go.Ab
open Go.Proofs
attribute [local irreducible] WS RS Done OpJ Then InBlock Round Ret Env.sub FnH
/-- Slices of float32 as they came in. -/
abbrev slF (w : World) (L : List FV) : AV := AV.sl w 1 (L.map (AV.f .f32))
/-- Finite. -/
def finB (x : FV) : Bool := cmpB .eql (fcmp .f32 (fbin .sub .f32 x x) (fv .f32 0))

theorem isFinite_fn (x : FV) : Fn Try.prog 31 (fun _ => [.f .f32 x]) (.raw (.bool (finB x))) := by
  refine fn_intro Try.func31 rfl Try.ntmps31 (fun _ => Nat.le_of_ble_eq_true rfl) fun w0 => ?_
  repeat first | refine zaa rfl (zay rfl) ?_ | refine zaa rfl (zaz rfl) ?_ | (refine zac ?_; first | refine zaa rfl (zba rfl rfl rfl) ?_ | refine zaa rfl (zbd rfl rfl rfl) ?_) | refine zah ?_ | (refine zcr ?_; refine zcs ?_) | (refine zdb ?_; first | refine zdc ?_ | refine zdd ?_ | refine zdg ?_)
  exact done_ret1 rfl () rfl trivial (List.nil_sublist _)
theorem l01Finite_fn (x : FV) : Fn Try.prog 52 (fun _ => [.f .f32 x]) (.raw (.bool (finB x))) := by
  refine fn_intro Try.func52 rfl Try.ntmps52 (fun _ => Nat.le_of_ble_eq_true rfl) fun w0 => ?_
  repeat first | refine zaa rfl (zay rfl) ?_ | refine zaa rfl (zaz rfl) ?_ | (refine zac ?_; first | refine zaa rfl (zba rfl rfl rfl) ?_ | refine zaa rfl (zbd rfl rfl rfl) ?_) | refine zah ?_ | (refine zcr ?_; refine zcs ?_) | (refine zdb ?_; first | refine zdc ?_ | refine zdd ?_ | refine zdg ?_)
  exact done_ret1 rfl () rfl trivial (List.nil_sublist _)
/-- The first place at which p holds. -/
def idxOf {α : Type} (p : α → Bool) (L : List α) : Int := match L.findIdx? p with
  | some i => i
  | none => -1
theorem idxOf_found {α : Type} [Inhabited α] {p : α → Bool} {L : List α} {k : Nat} (hk : k < L.length) (hall : ∀ i, i < k → p (L.getD i default) = false) (h : p (L.getD k default) = true) : idxOf p L = k := by
  have hg : L.getD k default = L[k] := by simp [List.getD, hk]
  have : L.findIdx? p = some k := by
    rw [List.findIdx?_eq_some_iff_getElem]
    refine ⟨hk, by rw [← hg]; exact h, fun j hj => ?_⟩
    have := hall j hj
    have hgj : L.getD j default = L[j]'(by omega) := by simp [List.getD, show j < L.length by omega]
    rw [hgj] at this; simp [this]
  simp [idxOf, this]
theorem idxOf_none {α : Type} [Inhabited α] {p : α → Bool} {L : List α} (hall : ∀ i, i < L.length → p (L.getD i default) = false) : idxOf p L = -1 := by
  have : L.findIdx? p = none := by
    rw [List.findIdx?_eq_none_iff]
    intro x hx
    obtain ⟨i, hi, rfl⟩ := List.mem_iff_getElem.1 hx
    have := hall i hi
    have hgj : L.getD i default = L[i] := by simp [List.getD, hi]
    rw [hgj] at this; exact this
  simp [idxOf, this]
theorem idxOf_nonneg {α : Type} (p : α → Bool) (L : List α) : decide (0 ≤ idxOf p L) = L.any p := by
  unfold idxOf
  cases h : L.findIdx? p with
  | none =>
    rw [List.findIdx?_eq_none_iff] at h
    have : L.any p = false := by rw [List.any_eq_false]; intro x hx; simp [h x hx]
    simp [this]
  | some i =>
    rw [List.findIdx?_eq_some_iff_getElem] at h
    obtain ⟨hi, hp, _⟩ := h
    have : L.any p = true := List.any_eq_true.2 ⟨_, List.getElem_mem hi, hp⟩
    simp [this]

theorem indexFunc_fn (L : List FV) (hL : L.length < 2 ^ 62) (c : FuncId) [HasBody Try.prog c] (p : FV → Bool) (hp : ∀ x, Fn Try.prog c (fun _ => [.f .f32 x]) (.raw (.bool (p x)))) :
    Fn Try.prog 79 (fun w => [slF w L, .raw (.func (.func c) #[] #[])]) (.raw (.int .i64 (idxOf p L))) := by
  refine fn_intro Try.func79 rfl Try.ntmps79 (fun _ => Nat.le_of_ble_eq_true rfl) fun w0 => ?_
  repeat first | refine zaa rfl (zay rfl) ?_ | refine zaa rfl (zaz rfl) ?_ | (refine zad ?_; refine zaa rfl (zbm rfl) ?_) | refine zah ?_ | (refine zcr ?_; refine zcs ?_) | (refine zdb ?_; first | refine zdc ?_ | refine zdd ?_ | refine zde ?_)
  refine ws_loop (ι := Nat) (fun k => [(0, slF w0 L), (1, .raw (.func (.func c) #[] #[])), (7, .raw (.int .i64 L.length)), (8, .raw (.int .i64 k))]) (fun _ => St w0 [] []) (fun k => k ≤ L.length ∧ ∀ i, i < k → p (L.getD i default) = false) (fun k => L.length - k) 0 ⟨Nat.zero_le _, fun i hi => by omega⟩ ?_ (fun _ h => h) (fun k hk => ?_)
  · (repeat (first | exact Env.sub_nil _ | refine Env.sub_cons rfl ?_))
  · obtain ⟨hk, hall⟩ := hk
    repeat first | (refine zac ?_; refine zaa rfl (zbe rfl rfl) ?_) | refine zah ?_ | (refine zcr ?_; refine zcs ?_) | (refine zdb ?_; first | refine zdc ?_ | refine zdd ?_)
    refine ws_cond rfl (fun hc => ?_) (fun hc => ?_)
    · have hlt : (k : Int) < L.length := of_decide_eq_true hc
      repeat first | refine zaa rfl (zay rfl) ?_ | refine zaa rfl (zaz rfl) ?_ | (refine zad ?_; refine zaa rfl (zci rfl rfl (hp _) (by (repeat (first | exact Takes.nil | refine Takes.sl ?_ | refine Takes.own (by (repeat (first | exact mh | refine mt ?_)); done) (by simp) (by omega) (by simp only [maxLen]; omega) ?_ | refine Takes.same ?_)); done)) ?_) | refine zaa rfl (zbu rfl rfl) ?_ | refine zaa rfl (zbv rfl rfl (by omega) (by omega)) ?_ | refine zah ?_ | (refine zcr ?_; refine zcs ?_) | (refine zdb ?_; first | refine zdc ?_ | refine zdd ?_ | refine zde ?_ | refine zdf ?_)
      refine ws_cond rfl (fun hd => ?_) (fun hd => ?_)
      · repeat first | refine zaa rfl (zay rfl) ?_ | refine zaa rfl (zaz rfl) ?_ | refine zah ?_ | (refine zcr ?_; first | refine zcs ?_ | refine zct ?_ | refine zcw ?_ | refine zcz ?_) | (refine zdb ?_; first | refine zdc ?_ | refine zdd ?_ | refine zdg ?_)
        exact done_ret1 rfl () (by rw [idxOf_found (by omega) hall hd]; rfl) trivial (List.nil_sublist _)
      · repeat first | refine zaa rfl (zay rfl) ?_ | (refine zac ?_; refine zaa rfl (zbb rfl rfl (by omega)) ?_) | refine zah ?_ | (refine zcr ?_; first | refine zcs ?_ | refine zcv ?_) | (refine zdb ?_; first | refine zdd ?_ | refine zdf ?_)
        refine done_round (k + 1) ⟨by omega, fun i hi => ?_⟩ (by omega) ?_ (fun _ h => h)
        · rcases Nat.lt_or_ge i k with h | h
          · exact hall i h
          · obtain rfl : i = k := by omega
            exact hd
        · (repeat (first | exact Env.sub_nil _ | refine Env.sub_cons rfl ?_))
    · have hge : ¬ (k : Int) < L.length := of_decide_eq_false hc
      repeat first | refine zaa rfl (zaz rfl) ?_ | refine zah ?_ | (refine zcr ?_; first | refine zcs ?_ | refine zcu ?_ | refine zcx ?_ | refine zda ?_) | (refine zdb ?_; first | refine zdc ?_ | refine zdd ?_ | refine zdg ?_ | refine zdh ?_)
      exact done_ret1 rfl () (by rw [idxOf_none (fun i hi => hall i (by omega))]; rfl) trivial (List.nil_sublist _)
theorem containsFunc_fn (L : List FV) (hL : L.length < 2 ^ 62) (c : FuncId) [HasBody Try.prog c] (p : FV → Bool) (hp : ∀ x, Fn Try.prog c (fun _ => [.f .f32 x]) (.raw (.bool (p x)))) :
    Fn Try.prog 72 (fun w => [slF w L, .raw (.func (.func c) #[] #[])]) (.raw (.bool (L.any p))) := by
  refine fn_intro Try.func72 rfl Try.ntmps72 (fun _ => Nat.le_of_ble_eq_true rfl) fun w0 => ?_
  repeat first | refine zaa rfl (zay rfl) ?_ | refine zaa rfl (zaz rfl) ?_ | (refine zac ?_; refine zaa rfl (zbh rfl rfl) ?_) | (refine zad ?_; (refine zaa rfl (zci rfl rfl (indexFunc_fn _ hL _ _ hp) ?_) ?_; (focus ((repeat (first | exact Takes.nil | refine Takes.sl ?_ | refine Takes.own (by (repeat (first | exact mh | refine mt ?_)); done) (by simp) (by omega) (by simp only [maxLen]; omega) ?_ | refine Takes.same ?_)); done)))) | refine zah ?_ | (refine zcr ?_; refine zcs ?_) | (refine zdb ?_; first | refine zdc ?_ | refine zdd ?_ | refine zdg ?_)
  exact done_ret1 rfl () (by rw [← idxOf_nonneg]; rfl) trivial (List.nil_sublist _)
end Go.Ab
namespace Go.Ab
theorem cut_le (neg : Bool) (n d b : Nat) (h : n < 2 ^ (b + 1 + d)) : Ieee.Toward.even.cut neg n d ≤ 2 ^ (b + 1) := by
  unfold Ieee.Toward.cut
  dsimp only
  have hx : ∀ x : Bool, x.toNat ≤ 1 := fun x => by cases x <;> simp
  have hp : 0 < 2 ^ (b + 1) := Nat.two_pow_pos _
  refine Nat.le_trans (Nat.add_le_add_left (hx _) _) ?_
  rw [Nat.one_shiftLeft]
  rcases Nat.le_total d (n.log2 + 2) with hm | hm
  · rw [Nat.min_eq_left hm]
    have : n / 2 ^ d < 2 ^ (b + 1) := by
      rw [Nat.div_lt_iff_lt_mul (Nat.two_pow_pos _), ← Nat.pow_add]
      exact h
    omega
  · rw [Nat.min_eq_right hm]
    have : n / 2 ^ (n.log2 + 2) = 0 := Nat.div_eq_of_lt (Nat.lt_of_lt_of_le Nat.lt_log2_self (Nat.pow_le_pow_right (by decide) (by omega)))
    omega

def fsqrt (x : FV) : FV := x.bind fun b => FloatKind.f64.format.sqrt b
end Go.Ab
namespace Go.Ab
open Go.Proofs
/-- Function number f has no body; the model carries it out. -/
class ExtFn (P : Program) (f : FuncId) (r : outParam (Array Value → Sem Value)) : Prop where
  h : ∃ fn, P.funcs[f]? = some fn ∧ fn.body = none ∧ (fn.name == "runtime.NumGoroutine") = false ∧ Extern.findNext fn = none ∧ Extern.find fn = some r
theorem run_ext {P : Program} {f : FuncId} {r : Array Value → Sem Value} [h : ExtFn P f r] {args : Array Value} {w w' : World} {v : Value} (hr : (r args).run P w = .ok v w') : (callFunc f args).run P w = .ok (.value v) w' := by
  obtain ⟨fn, hf, hb, hn, h1, h2⟩ := h.h
  have h3 : ¬ fn.name = "runtime.NumGoroutine" := by simpa using hn
  have hm : ∀ (m : Mark) (w : World), Sem.run P (Sem.mark m (Sem.pure ())) w = .ok () w := fun _ _ => rfl
  simp [callFunc, hf, hb, h3, h1, h2, mark, hr, hm]
theorem sqrt_not_nan {b r : Nat} (h : FloatKind.f64.format.sqrt b = some r) : (FloatKind.f64.decode r).isNaN = false ∧ r < 2 ^ FloatKind.f64.format.width := by
  unfold Ieee.Format.sqrt at h
  cases hd : (FloatKind.f64.format.read b).root (FloatKind.f64.format.fractionBits + 2) with
  | none => simp [hd] at h
  | some d =>
    simp only [hd, Option.map_some, Option.some.injEq] at h
    subst h
    refine ⟨write_not_nan _ d ?_, FloatKind.f64.format.write_lt d⟩
    cases hx : FloatKind.f64.format.read b with
    | nan s t => rw [hx] at hd; cases hd
    | infinity s =>
      rw [hx] at hd
      cases s <;> simp [Ieee.Datum.root] at hd
      subst hd; rfl
    | number s m i =>
      rw [hx] at hd
      simp only [Ieee.Datum.root] at hd
      split at hd
      · cases hd; rfl
      · split at hd
        · cases hd
        · cases hd; rfl
theorem run_sqrt (P : Program) (w : World) (b : Nat) : ∃ r w', (Extern.MathSqrt.sqrt #[.float .f64 b]).run P w = .ok (.float .f64 r) w' ∧ Quiet w w' ∧ fv .f64 r = fsqrt (fv .f64 b) ∧ r < 2 ^ FloatKind.f64.format.width := by
  have hfv : fsqrt (fv .f64 b) = FloatKind.f64.format.sqrt b := by
    cases hn : (FloatKind.f64.decode b).isNaN with
    | false => rw [fv_some hn]; rfl
    | true =>
      obtain ⟨s, t, e⟩ := isNaN_cases hn
      have e' : FloatKind.f64.format.read b = .nan s t := e
      rw [fv_nan hn]
      simp [fsqrt, Ieee.Format.sqrt, e', Ieee.Datum.root]
  rw [hfv]
  have hs : Extern.MathSqrt.sqrt #[.float .f64 b] = (match FloatKind.f64.format.sqrt b with
    | some r => pure (.float .f64 r)
    | none => do pure (.float .f64 (← choose (.nanBits .f64 b b)))) := rfl
  rw [hs]
  cases h : FloatKind.f64.format.sqrt b with
  | some r => exact ⟨r, w, by simp, .inl rfl, fv_some (sqrt_not_nan h).1, (sqrt_not_nan h).2⟩
  | none =>
    have hc := nanBits_cut .f64 b b (w.tape w.drawn (.nanBits .f64 b b))
    exact ⟨_, { w with drawn := w.drawn + 1 }, by simp [choose, Sem.run, Question.forced], .inr rfl, hc.1, hc.2⟩
theorem opj_sqrt {P : Program} {S : World → Prop} {e : Env} {c : FuncId} [hc : ExtFn P c Extern.MathSqrt.sqrt] {F X : Operand} {x : FV} {dst : Option Tmp} {ts : Array TypeId} {ty : TypeId} {pos : String} {after : Array Edge} {guard : Option (Nat × Bool)}
    (hF : e.ev F = some (.raw (.func (.func c) #[] #[]))) (hX : e.ev X = some (.f .f64 x)) : OpJ P S e ⟨dst, .call { callee := .value F, args := #[X], argTypes := ts }, ty, pos, after, guard⟩ (.f .f64 (fsqrt x)) :=
  opj_value fun a w _ h => by
    have h1 := (h F (by simp [Op.operands, Call.operands]) _ hF).inv_raw
    obtain ⟨b, h2, e2, hb⟩ := (h X (by simp [Op.operands, Call.operands]) _ hX).inv_f
    obtain ⟨r, w', hr, hq, hv, hl⟩ := run_sqrt P w b
    refine ⟨.float .f64 r, w', ?_, Ext.of_quiet hq, Rel.f' hl (by rw [hv, e2])⟩
    have := run_ext (h := hc) hr
    simp [execOp, resolve, h1, h2, Deferred.ofValue, invoke, this]
instance extSqrt : ExtFn Try.prog 76 Extern.MathSqrt.sqrt := ⟨⟨(Try.prog.funcs[76]?).getD default, by kernel_rfl, by kernel_rfl, by kernel_rfl, by kernel_rfl, by kernel_rfl⟩⟩
instance hbSqrt : HasBody Try.prog 63 := ⟨⟨Try.f63, Try.func63, rfl, by kernel_rfl⟩⟩
attribute [local irreducible] WS RS Done OpJ Then InBlock Round Ret Env.sub FnH
theorem mathSqrt_fn (x : FV) : Fn Try.prog 63 (fun _ => [.f .f64 x]) (.f .f64 (fsqrt x)) := by
  refine fn_intro Try.func63 rfl Try.ntmps63 (fun _ => Nat.le_of_ble_eq_true rfl) fun w0 => ?_
  repeat first | refine zaa rfl (zay rfl) ?_ | refine zaa rfl (zaz rfl) ?_ | refine zah ?_ | (refine zcr ?_; refine zcs ?_) | (refine zdb ?_; first | refine zdc ?_ | refine zdd ?_ | refine zdg ?_) | refine zaa rfl (opj_sqrt rfl rfl) ?_
  exact done_ret1 rfl () rfl trivial (List.nil_sublist _)
theorem l01Narrow_fn (x : FV) (h : ConvOk .f64 .f32 x) : Fn Try.prog 62 (fun _ => [.f .f64 x]) (.f .f32 (fconv .f64 .f32 x)) := by
  refine fn_intro Try.func62 rfl Try.ntmps62 (fun _ => Nat.le_of_ble_eq_true rfl) fun w0 => ?_
  repeat first | refine zaa rfl (zay rfl) ?_ | refine zaa rfl (zaz rfl) ?_ | refine zah ?_ | (refine zcr ?_; refine zcs ?_) | (refine zdb ?_; first | refine zdc ?_ | refine zdd ?_ | refine zdg ?_) | refine zaa rfl (opj_fconv rfl h) ?_
  exact done_ret1 rfl () rfl trivial (List.nil_sublist _)
end Go.Ab
namespace Go.Ab
open Go.Proofs
theorem icmp {x y : Int} (h : compare x y = .eq) : x = y := by
  simp only [compare, compareOfLessAndEq] at h
  split at h
  · cases h
  · split at h
    · assumption
    · cases h
end Go.Ab
namespace Go.Ab
open Go.Proofs
theorem opj_iint {P : Program} {S : World → Prop} {e : Env} {src dt : TypeId} {X : Operand} {k0 k k' : IntKind} {n : Int} {dst : Option Tmp} {ty : TypeId} {pos : String} {after : Array Edge} {guard : Option (Nat × Bool)} [hs : TyU P src (.int k0)] [hd : TyU P dt (.int k')] (hx : e.ev X = some (.raw (.int k n))) :
    OpJ P S e ⟨dst, .convert src dt X, ty, pos, after, guard⟩ (.raw (.int k' (k'.wrap n))) :=
  opj_value fun a w _ h => by
    have h1 := (h X (by simp [Op.operands]) _ hx).inv_raw
    exact ⟨_, w, by simp [execOp, h1, convert, run_underlying hs.h, run_underlying hd.h, Conv.intToInt], Ext.refl _, .raw⟩
theorem fv_inv {k : FloatKind} {b c : Nat} (h : fv k b = some c) : b = c := by
  unfold fv at h
  split at h <;> cases h
  rfl
attribute [local irreducible] WS RS Done OpJ Then InBlock Round Ret Env.sub FnH
end Go.Ab
namespace Go.Ab
def p2 (e : Int) : Rat := (2 : Rat) ^ e
theorem p2_pos (e : Int) : 0 < p2 e := Rat.zpow_pos (by decide)
theorem p2_add (a b : Int) : p2 (a + b) = p2 a * p2 b := Rat.zpow_add (by decide) a b
theorem p2_zero : p2 0 = 1 := rfl
theorem p2_nat (n : Nat) : p2 n = ((2 ^ n : Nat) : Rat) := by
  show (2 : Rat) ^ (n : Int) = _
  rw [Rat.zpow_natCast, Rat.natCast_pow]
  rfl
theorem p2_one : p2 1 = 2 := by
  have := p2_nat 1
  simpa using this
theorem p2_split {a b : Int} (h : a ≤ b) : p2 b = ((2 ^ (b - a).toNat : Nat) : Rat) * p2 a := by
  rw [← p2_nat, ← p2_add]
  congr 1
  omega
theorem one_le_two_pow (n : Nat) : (1 : Rat) ≤ ((2 ^ n : Nat) : Rat) := by
  have h : 1 ≤ 2 ^ n := Nat.one_le_two_pow
  exact_mod_cast (Rat.natCast_le_natCast.2 h)
theorem p2_le {a b : Int} (h : a ≤ b) : p2 a ≤ p2 b := by
  rw [p2_split h]
  have h1 := one_le_two_pow (b - a).toNat
  have h2 := Rat.mul_le_mul_of_nonneg_right h1 (Rat.le_of_lt (p2_pos a))
  rwa [Rat.one_mul] at h2
theorem p2_mul_neg (a : Int) : p2 a * p2 (-a) = 1 := by
  rw [← p2_add, Int.add_right_neg, p2_zero]
theorem mul_shl (m n : Nat) (e : Int) : ((m <<< n : Nat) : Rat) * p2 e = (m : Rat) * p2 (e + n) := by
  rw [Nat.shiftLeft_eq, Rat.natCast_mul, ← p2_nat, Rat.mul_assoc, ← p2_add]
  congr 2
  omega

def sgn (s : Bool) : Rat := if s then -1 else 1
def vl (s : Bool) (m : Nat) (e : Int) : Rat := sgn s * ((m : Rat) * p2 e)
theorem vl_neg (s : Bool) (m : Nat) (e : Int) : vl (!s) m e = - vl s m e := by
  unfold vl sgn
  cases s <;> simp <;> grind
theorem vl_signed (s : Bool) (m k : Nat) (e : Int) : ((Ieee.signed s m k : Int) : Rat) * p2 e = vl s m (e + k) := by
  unfold Ieee.signed vl sgn
  have h := mul_shl m k e
  cases s
  · simp only [Bool.false_eq_true, if_false]
    rw [Rat.one_mul, ← h]
    rfl
  · simp only [if_true]
    rw [Rat.intCast_neg, ← h]
    show -((m <<< k : Nat) : Rat) * p2 e = _
    grind
theorem vl_int (n : Int) (e : Int) : (n : Rat) * p2 e = vl (decide (n < 0)) n.natAbs e := by
  unfold vl sgn
  rcases (show n < 0 ∨ 0 ≤ n from by omega) with h | h
  · rw [decide_eq_true h, if_pos rfl]
    have : ((n.natAbs : Nat) : Rat) = -(n : Rat) := by
      rw [← Rat.intCast_natCast, ← Rat.intCast_neg]
      congr 1
      omega
    rw [this]
    grind
  · rw [decide_eq_false (by omega), if_neg (by decide)]
    have : ((n.natAbs : Nat) : Rat) = (n : Rat) := by
      rw [← Rat.intCast_natCast]
      congr 1
      omega
    rw [this, Rat.one_mul]
/-- The same value, whatever the sign of a nought. -/
theorem vl_zero (s : Bool) (e : Int) : vl s 0 e = 0 := by
  unfold vl
  rw [show ((0 : Nat) : Rat) = 0 from rfl, Rat.zero_mul, Rat.mul_zero]

theorem cut_err (neg : Bool) (n d : Nat) : 2 * n ≤ 2 * (Ieee.Toward.even.cut neg n d * 2 ^ d) + 2 ^ d ∧ 2 * (Ieee.Toward.even.cut neg n d * 2 ^ d) ≤ 2 * n + 2 ^ d := by
  unfold Ieee.Toward.cut
  dsimp only
  rw [Nat.one_shiftLeft]
  rcases Nat.le_total d (n.log2 + 2) with hm | hm
  · rw [Nat.min_eq_left hm]
    have hG : 0 < 2 ^ d := Nat.two_pow_pos _
    generalize 2 ^ d = G at *
    have h1 := Nat.div_add_mod n G
    have h2 := Nat.mod_lt n hG
    generalize n / G = q at *
    generalize n % G = r at *
    rw [Nat.mul_comm] at h1
    have hx : ∀ b : Bool, (q + b.toNat) * G = q * G + b.toNat * G := fun b => Nat.add_mul _ _ _
    rw [hx]
    generalize q * G = qg at *
    cases hb : (decide (G < 2 * r) || (G == 2 * r && q % 2 == 1)) with
    | true =>
      simp only [Bool.toNat_true, Nat.one_mul]
      have : G ≤ 2 * r := by
        rw [Bool.or_eq_true, Bool.and_eq_true] at hb
        rcases hb with hb | hb
        · have := of_decide_eq_true hb; omega
        · have := beq_iff_eq.1 hb.1; omega
      omega
    | false =>
      simp only [Bool.toNat_false, Nat.zero_mul]
      have : 2 * r ≤ G := by
        rw [Bool.or_eq_false_iff] at hb
        have := of_decide_eq_false hb.1
        omega
      omega
  · rw [Nat.min_eq_right hm]
    have h1 : n < 2 ^ (n.log2 + 1) := Nat.lt_log2_self
    have h2 : 2 ^ (n.log2 + 2) = 2 * 2 ^ (n.log2 + 1) := by rw [Nat.pow_succ]; omega
    have h3 : 2 ^ (n.log2 + 2) ≤ 2 ^ d := Nat.pow_le_pow_right (by decide) hm
    have h4 : n / 2 ^ (n.log2 + 2) = 0 := Nat.div_eq_of_lt (by omega)
    have h5 : n % 2 ^ (n.log2 + 2) = n := Nat.mod_eq_of_lt (by omega)
    rw [h4, h5]
    have h6 : (decide (2 ^ (n.log2 + 2) < 2 * n) || (2 ^ (n.log2 + 2) == 2 * n && 0 % 2 == 1)) = false := by
      rw [decide_eq_false (by omega)]
      simp
    rw [h6]
    simp only [Bool.toNat_false, Nat.add_zero, Nat.zero_mul]
    omega

/-- The place of the last digit that is kept. -/
def lastP (f : Ieee.Format) (m : Nat) (e : Int) : Int := max (e + m.log2 - f.fractionBits) f.leastPlace
theorem read_rung (f : Ieee.Format) (s : Bool) (a kept : Nat) (hk : kept ≤ 2 ^ (f.fractionBits + 1)) (ha : 0 < a → 2 ^ f.fractionBits ≤ kept) (hlt : a * f.binade + kept < f.infRung) :
    ∃ m' e', f.read (f.word s (a * f.binade + kept)) = .number s m' e' ∧ (m' : Rat) * p2 e' = (kept : Rat) * p2 (f.leastPlace + a) := by
  have hb : f.binade = 2 ^ f.fractionBits := rfl
  have hB : 0 < f.binade := Nat.two_pow_pos _
  have hsw : a * f.binade + kept < f.signWeight := Nat.lt_trans hlt f.infRung_lt
  have hsg : (f.word s (a * f.binade + kept) / f.signWeight % 2 == 1) = s := by
    unfold Ieee.Format.word
    cases s
    · simp only [Bool.false_eq_true, if_false]
      rw [Nat.div_eq_of_lt hsw]
      rfl
    · simp only [if_true]
      have hpos : 0 < f.signWeight := Nat.two_pow_pos _
      rw [Nat.add_comm, Nat.add_div_right _ hpos, Nat.div_eq_of_lt hsw]
      rfl
  unfold Ieee.Format.read
  simp only [word_mod f s hsw, hsg]
  rw [← hb] at ha
  have hk2 : kept ≤ 2 * f.binade := by rw [hb]; rw [Nat.pow_succ] at hk; omega
  clear hk
  by_cases h1 : a * f.binade + kept < f.binade
  · rw [if_pos h1]
    have h0 : a = 0 := by
      rcases Nat.eq_zero_or_pos a with h | h
      · exact h
      · have := Nat.mul_le_mul_right f.binade h
        omega
    subst h0
    refine ⟨_, _, rfl, ?_⟩
    rw [Nat.zero_mul, Nat.zero_add]
    congr 2
    omega
  · rw [if_neg h1, if_pos hlt]
    refine ⟨_, _, rfl, ?_⟩
    rcases Nat.lt_or_ge kept (2 * f.binade) with h2 | h2
    · have h3 : f.binade ≤ kept := by
        rcases Nat.eq_zero_or_pos a with h | h
        · subst h; omega
        · exact ha h
      obtain ⟨r, rfl⟩ : ∃ r, kept = f.binade + r := ⟨kept - f.binade, by omega⟩
      have e1 : a * f.binade + (f.binade + r) = r + f.binade * (a + 1) := by rw [Nat.mul_add, Nat.mul_one, Nat.mul_comm]; omega
      have hr : r < f.binade := by omega
      rw [e1, Nat.add_mul_mod_self_left, Nat.mod_eq_of_lt hr, Nat.add_mul_div_left _ _ hB, Nat.div_eq_of_lt hr]
      congr 2
      omega
    · have h3 : kept = 2 * f.binade := by omega
      subst h3
      have e1 : a * f.binade + 2 * f.binade = f.binade * (a + 2) := by rw [Nat.mul_add, Nat.mul_comm f.binade 2, Nat.mul_comm]
      rw [e1, Nat.mul_mod_right, Nat.mul_div_right _ hB]
      have e2 : ((a + 2 - 1 : Nat) : Int) = (a : Int) + 1 := by omega
      rw [e2, Nat.add_zero, Rat.natCast_mul, ← Int.add_assoc, p2_add _ 1, p2_one]
      have : ((2 : Nat) : Rat) = 2 := rfl
      rw [this]
      grind

/-- Where the nearest word lies, by the grid of its last place. -/
theorem nearest_grid (f : Ieee.Format) (s : Bool) (m : Nat) (e : Int) (hm : m ≠ 0) (hhi : lastP f m e - f.leastPlace + 2 < 2 ^ f.exponentBits - 1) :
    ∃ m' e' kept, f.read (f.nearest s m e) = .number s m' e' ∧ (m' : Rat) * p2 e' = ((kept : Nat) : Rat) * p2 (lastP f m e) ∧
      2 * ((m : Rat) * p2 e) ≤ 2 * ((kept : Rat) * p2 (lastP f m e)) + p2 (lastP f m e) ∧ 2 * ((kept : Rat) * p2 (lastP f m e)) ≤ 2 * ((m : Rat) * p2 e) + p2 (lastP f m e) := by
  unfold Ieee.Format.nearest
  rw [if_neg hm]
  dsimp only
  have hl : max (e + (m.log2 : Int) - f.fractionBits) f.leastPlace = lastP f m e := rfl
  rw [hl]
  have hlast2 : e + m.log2 - f.fractionBits ≤ lastP f m e := Int.le_max_left _ _
  have hlast3 : f.leastPlace ≤ lastP f m e := Int.le_max_right _ _
  have hlast4 : lastP f m e = f.leastPlace ∨ lastP f m e = e + m.log2 - f.fractionBits := by unfold lastP; omega
  generalize lastP f m e = last at *
  have herr := cut_err s (m <<< (e - last).toNat) (last - e).toNat
  have hcut : Ieee.Toward.even.cut s (m <<< (e - last).toNat) (last - e).toNat ≤ 2 ^ (f.fractionBits + 1) := by
    refine cut_le _ _ _ _ ?_
    rw [Nat.shiftLeft_eq]
    have h1 : m < 2 ^ (m.log2 + 1) := Nat.lt_log2_self
    have h2 : m * 2 ^ (e - last).toNat < 2 ^ (m.log2 + 1) * 2 ^ (e - last).toNat := Nat.mul_lt_mul_of_pos_right h1 (Nat.two_pow_pos _)
    rw [← Nat.pow_add] at h2
    exact Nat.lt_of_lt_of_le h2 (Nat.pow_le_pow_right (by decide) (by omega))
  have hlow : f.leastPlace < last → 2 ^ f.fractionBits ≤ Ieee.Toward.even.cut s (m <<< (e - last).toNat) (last - e).toNat := by
    intro hlt
    have hle : last = e + m.log2 - f.fractionBits := by omega
    have h1 : 2 ^ m.log2 ≤ m := Nat.log2_self_le hm
    have h2 : 2 ^ (f.fractionBits + (last - e).toNat) ≤ m <<< (e - last).toNat := by
      rw [Nat.shiftLeft_eq]
      have h3 : 2 ^ m.log2 * 2 ^ (e - last).toNat ≤ m * 2 ^ (e - last).toNat := Nat.mul_le_mul_right _ h1
      rw [← Nat.pow_add] at h3
      refine Nat.le_trans (Nat.pow_le_pow_right (by decide) ?_) h3
      omega
    rw [Nat.pow_add] at h2
    generalize m <<< (e - last).toNat = n at *
    generalize Ieee.Toward.even.cut s n (last - e).toNat = kept at *
    have hG : 0 < 2 ^ (last - e).toNat := Nat.two_pow_pos _
    generalize 2 ^ (last - e).toNat = G at *
    generalize 2 ^ f.fractionBits = B at *
    rcases Nat.lt_or_ge kept B with h | h
    · exfalso
      have h4 : (kept + 1) * G ≤ B * G := Nat.mul_le_mul_right _ h
      rw [Nat.add_mul, Nat.one_mul] at h4
      omega
    · exact h
  generalize hkept : Ieee.Toward.even.cut s (m <<< (e - last).toNat) (last - e).toNat = kept at *
  have hb : f.binade = 2 ^ f.fractionBits := rfl
  have hi : (f.infRung : Int) = (2 ^ f.exponentBits - 1) * 2 ^ f.fractionBits := by
    unfold Ieee.Format.infRung
    rw [hb]
    have : 1 ≤ 2 ^ f.exponentBits := Nat.one_le_two_pow
    push_cast [Int.natCast_sub this]
    rfl
  have hB : 0 < 2 ^ f.fractionBits := Nat.two_pow_pos _
  have hrung : (last - f.leastPlace).toNat * f.binade + kept < f.infRung := by
    have h1 : (((last - f.leastPlace).toNat * f.binade + kept : Nat) : Int) ≤ (last - f.leastPlace + 2) * 2 ^ f.fractionBits := by
      have e1 : (((last - f.leastPlace).toNat : Nat) : Int) = last - f.leastPlace := by omega
      rw [hb, Int.natCast_add, Int.natCast_mul, e1, Int.add_mul]
      have h2 : (kept : Int) ≤ 2 * 2 ^ f.fractionBits := by
        rw [Nat.pow_succ, Nat.mul_comm] at hcut
        exact_mod_cast hcut
      have h3 : (((2 ^ f.fractionBits : Nat)) : Int) = 2 ^ f.fractionBits := by push_cast; rfl
      rw [h3]
      omega
    have h2 : (last - f.leastPlace + 2) * 2 ^ f.fractionBits < (2 ^ f.exponentBits - 1) * 2 ^ f.fractionBits := Int.mul_lt_mul_of_pos_right hhi (by exact_mod_cast hB)
    have : (((last - f.leastPlace).toNat * f.binade + kept : Nat) : Int) < f.infRung := by rw [hi]; omega
    exact_mod_cast this
  rw [Nat.min_eq_left (Nat.le_of_lt hrung)]
  obtain ⟨m', e', h1, h2⟩ := read_rung f s (last - f.leastPlace).toNat kept hcut (fun h => hlow (by omega)) hrung
  have e1 : f.leastPlace + ((last - f.leastPlace).toNat : Int) = last := by omega
  rw [e1] at h2
  refine ⟨m', e', kept, h1, h2, ?_⟩
  -- the error, in units of the place
  clear h1 h2 hrung hi hB hb hcut hlow hlast4 hlast2 hhi
  rcases Int.le_total last e with hle | hle
  · have a2 : (last - e).toNat = 0 := by omega
    rw [a2, cut_zero] at hkept
    subst hkept
    rw [mul_shl]
    have : last + ((e - last).toNat : Int) = e := by omega
    rw [this]
    have := p2_pos last
    constructor <;> grind
  · have a1 : (e - last).toNat = 0 := by omega
    rw [a1, Nat.shiftLeft_zero] at herr
    have hs := p2_split hle
    generalize 2 ^ (last - e).toNat = G at *
    have hp := p2_pos e
    obtain ⟨h1, h2⟩ := herr
    have h1' : (2 * (m : Rat)) ≤ 2 * ((kept : Rat) * (G : Rat)) + G := by exact_mod_cast Rat.natCast_le_natCast.2 h1
    have h2' : 2 * ((kept : Rat) * (G : Rat)) ≤ 2 * (m : Rat) + G := by exact_mod_cast Rat.natCast_le_natCast.2 h2
    have h3 := Rat.mul_le_mul_of_nonneg_right h1' (Rat.le_of_lt hp)
    have h4 := Rat.mul_le_mul_of_nonneg_right h2' (Rat.le_of_lt hp)
    rw [hs]
    constructor <;> grind

def feps : FloatKind → Rat
  | .f32 => p2 (-23)
  | .f64 => p2 (-52)
def ftiny : FloatKind → Rat
  | .f32 => p2 (-149)
  | .f64 => p2 (-1074)
def ftop : FloatKind → Int
  | .f32 => 127
  | .f64 => 1023
/-- What can be written. -/
def RepN (k : FloatKind) (B : Rat) : Prop := ∃ (M : Nat) (E : Int), M ≤ 2 ^ (k.format.fractionBits + 1) ∧ k.format.leastPlace ≤ E ∧ B = (M : Rat) * p2 E
def Rep (k : FloatKind) (B : Rat) : Prop := RepN k B ∨ RepN k (-B)
/-- r is q rounded. -/
structure Rnd (k : FloatKind) (q r : Rat) : Prop where
  near : ∀ a, -a ≤ q → q ≤ a → q ≤ r + (a * feps k + ftiny k) ∧ r ≤ q + (a * feps k + ftiny k)
  side : ∀ B, Rep k B → (q ≤ B → r ≤ B) ∧ (B ≤ q → B ≤ r)

theorem nat_le_of_rat {a b : Nat} (h : 2 * (a : Rat) ≤ 2 * (b : Rat) + 1) : a ≤ b := by
  have h1 : ((2 * a : Nat) : Rat) ≤ ((2 * b + 1 : Nat) : Rat) := by
    rw [Rat.natCast_mul, Rat.natCast_add, Rat.natCast_mul]
    exact h
  have h2 := Rat.natCast_le_natCast.1 h1
  omega
theorem grid_le {kept N : Nat} {q P : Rat} (hP : 0 < P) (h : 2 * ((kept : Rat) * P) ≤ 2 * q + P) (hq : q ≤ (N : Rat) * P) : kept ≤ N := by
  refine nat_le_of_rat ?_
  have h1 : (2 * (kept : Rat)) * P ≤ (2 * (N : Rat) + 1) * P := by grind
  exact Rat.le_of_mul_le_mul_right h1 hP
theorem grid_ge {kept N : Nat} {q P : Rat} (hP : 0 < P) (h : 2 * q ≤ 2 * ((kept : Rat) * P) + P) (hq : (N : Rat) * P ≤ q) : N ≤ kept := by
  refine nat_le_of_rat ?_
  have h1 : (2 * (N : Rat)) * P ≤ (2 * (kept : Rat) + 1) * P := by grind
  exact Rat.le_of_mul_le_mul_right h1 hP
theorem mul_p2_le {a b : Nat} (h : a ≤ b) (e : Int) : (a : Rat) * p2 e ≤ (b : Rat) * p2 e :=
  Rat.mul_le_mul_of_nonneg_right (Rat.natCast_le_natCast.2 h) (Rat.le_of_lt (p2_pos e))
theorem p2_shl (n : Nat) (e : Int) : ((2 ^ n : Nat) : Rat) * p2 e = p2 (n + e) := by rw [← p2_nat, ← p2_add]
/-- The highest digit. -/
theorem log_le (m : Nat) (hm : m ≠ 0) (e : Int) : p2 (e + m.log2) ≤ (m : Rat) * p2 e := by
  have h := mul_p2_le (Nat.log2_self_le hm) e
  rw [p2_shl, Int.add_comm] at h
  exact h
theorem p2_lt_of_lt {a b : Int} (h : p2 a < p2 b) : a < b := by
  rcases (show a < b ∨ b ≤ a from by omega) with h1 | h1
  · exact h1
  · exact absurd (p2_le h1) (Rat.not_le.2 h)
theorem grid_side (f : Ieee.Format) (m : Nat) (e : Int) (hm : m ≠ 0) (kept : Nat) (h1 : 2 * ((m : Rat) * p2 e) ≤ 2 * ((kept : Rat) * p2 (lastP f m e)) + p2 (lastP f m e)) (h2 : 2 * ((kept : Rat) * p2 (lastP f m e)) ≤ 2 * ((m : Rat) * p2 e) + p2 (lastP f m e))
    {M : Nat} {E : Int} (hM : M ≤ 2 ^ (f.fractionBits + 1)) (hE : f.leastPlace ≤ E) :
    ((m : Rat) * p2 e ≤ (M : Rat) * p2 E → (kept : Rat) * p2 (lastP f m e) ≤ (M : Rat) * p2 E) ∧ ((M : Rat) * p2 E ≤ (m : Rat) * p2 e → (M : Rat) * p2 E ≤ (kept : Rat) * p2 (lastP f m e)) := by
  have hP := p2_pos (lastP f m e)
  rcases Int.le_total (lastP f m e) E with hle | hle
  · have hB : (M : Rat) * p2 E = ((M * 2 ^ (E - lastP f m e).toNat : Nat) : Rat) * p2 (lastP f m e) := by
      rw [p2_split hle, Rat.natCast_mul, Rat.mul_assoc]
    rw [hB]
    exact ⟨fun h => mul_p2_le (grid_le hP h2 h) _, fun h => mul_p2_le (grid_ge hP h1 h) _⟩
  · rcases (show E < lastP f m e ∨ lastP f m e ≤ E from by omega) with hlt | hge
    · have hl : lastP f m e = e + m.log2 - f.fractionBits := by
        have : lastP f m e = f.leastPlace ∨ lastP f m e = e + m.log2 - f.fractionBits := by unfold lastP; omega
        omega
      have hlow := log_le m hm e
      have e1 : e + (m.log2 : Int) = (f.fractionBits : Int) + lastP f m e := by omega
      rw [e1, ← p2_shl] at hlow
      have hMB : (M : Rat) * p2 E ≤ ((2 ^ f.fractionBits : Nat) : Rat) * p2 (lastP f m e) := by
        refine Rat.le_trans (mul_p2_le hM E) ?_
        rw [p2_shl, p2_shl]
        exact p2_le (by omega)
      refine ⟨fun h => ?_, fun h => Rat.le_trans hMB (mul_p2_le (grid_ge hP h1 hlow) _)⟩
      have heq : (M : Rat) * p2 E = ((2 ^ f.fractionBits : Nat) : Rat) * p2 (lastP f m e) := Rat.le_antisymm hMB (Rat.le_trans hlow h)
      rw [heq] at h ⊢
      exact mul_p2_le (grid_le hP h2 h) _
    · have : E = lastP f m e := by omega
      subst this
      exact ⟨fun h => mul_p2_le (grid_le hP h2 h) _, fun h => mul_p2_le (grid_ge hP h1 h) _⟩
theorem last_bound (f : Ieee.Format) (m : Nat) (e : Int) (hm : m ≠ 0) : p2 (lastP f m e) ≤ ((m : Rat) * p2 e) * p2 (-(f.fractionBits : Int)) + p2 f.leastPlace := by
  have hlow := log_le m hm e
  have h0 := p2_pos (-(f.fractionBits : Int))
  have h1 := Rat.mul_le_mul_of_nonneg_right hlow (Rat.le_of_lt h0)
  rw [← p2_add] at h1
  have hlp := p2_pos f.leastPlace
  have : lastP f m e = f.leastPlace ∨ lastP f m e = e + m.log2 + -(f.fractionBits : Int) := by unfold lastP; omega
  rcases this with h | h
  · rw [h]
    have := p2_pos (e + m.log2 + -(f.fractionBits : Int))
    grind
  · rw [h]
    grind
theorem rnd_sign {k : FloatKind} {s : Bool} {q r : Rat} (h0 : 0 ≤ q) (hr : 0 ≤ r) (hn : q ≤ r + (q * feps k + ftiny k) ∧ r ≤ q + (q * feps k + ftiny k)) (he : 0 ≤ feps k)
    (hs : ∀ B, RepN k B → (q ≤ B → r ≤ B) ∧ (B ≤ q → B ≤ r)) : Rnd k (sgn s * q) (sgn s * r) := by
  have hneg : ∀ B, RepN k B → 0 ≤ B := fun B ⟨M, E, _, _, hB⟩ => by
    rw [hB]
    exact Rat.mul_nonneg Rat.natCast_nonneg (Rat.le_of_lt (p2_pos E))
  refine ⟨fun a h1 h2 => ?_, fun B hB => ?_⟩
  · have ha : q ≤ a := by cases s <;> simp only [sgn] at h1 h2 <;> grind
    have hm := Rat.mul_le_mul_of_nonneg_right ha he
    obtain ⟨h3, h4⟩ := hn
    cases s <;> simp only [sgn] <;> constructor <;> grind
  · rcases hB with hB | hB
    · have h3 := hs B hB
      have h4 := hneg B hB
      cases s
      · simp only [sgn, Bool.false_eq_true, if_false, Rat.one_mul]
        exact h3
      · simp only [sgn, if_true]
        refine ⟨fun h => by grind, fun h => ?_⟩
        have hB0 : B = 0 := by grind
        have hq0 : q = 0 := by grind
        have := (hs 0 ⟨0, k.format.leastPlace, Nat.zero_le _, Int.le_refl _, by rw [show ((0 : Nat) : Rat) = 0 from rfl, Rat.zero_mul]⟩).1 (by grind)
        grind
    · have h3 := hs (-B) hB
      have h4 := hneg (-B) hB
      cases s
      · simp only [sgn, Bool.false_eq_true, if_false, Rat.one_mul]
        refine ⟨fun h => ?_, fun h => by grind⟩
        have := (hs 0 ⟨0, k.format.leastPlace, Nat.zero_le _, Int.le_refl _, by rw [show ((0 : Nat) : Rat) = 0 from rfl, Rat.zero_mul]⟩).1 (by grind)
        grind
      · simp only [sgn, if_true]
        refine ⟨fun h => ?_, fun h => ?_⟩
        · have := h3.2 (by grind)
          grind
        · have := h3.1 (by grind)
          grind
theorem eps_eq (k : FloatKind) : feps k = p2 (-(k.format.fractionBits : Int)) := by cases k <;> rfl
theorem tiny_eq (k : FloatKind) : ftiny k = p2 k.format.leastPlace := by cases k <;> decide +kernel
theorem eps_pos (k : FloatKind) : 0 < feps k := by rw [eps_eq]; exact p2_pos _
theorem tiny_pos (k : FloatKind) : 0 < ftiny k := by rw [tiny_eq]; exact p2_pos _
theorem top_ok {k : FloatKind} {m : Nat} {e : Int} (hm : m ≠ 0) (h : (m : Rat) * p2 e < p2 (ftop k)) : lastP k.format m e - k.format.leastPlace + 2 < 2 ^ k.format.exponentBits - 1 := by
  have h1 := p2_lt_of_lt (Std.lt_of_le_of_lt (log_le m hm e) h)
  cases k
  · have a1 : FloatKind.f32.format.leastPlace = -149 := by decide
    have a2 : FloatKind.f32.format.fractionBits = 23 := rfl
    have a3 : FloatKind.f32.format.exponentBits = 8 := rfl
    unfold lastP
    rw [a1, a2, a3]
    simp only [ftop] at h1
    omega
  · have a1 : FloatKind.f64.format.leastPlace = -1074 := by decide
    have a2 : FloatKind.f64.format.fractionBits = 52 := rfl
    have a3 : FloatKind.f64.format.exponentBits = 11 := rfl
    unfold lastP
    rw [a1, a2, a3]
    simp only [ftop] at h1
    omega
/-- What is written is what is rounded. -/
theorem nearest_rnd' (k : FloatKind) (s : Bool) (m : Nat) (e : Int) (h : (m : Rat) * p2 e < p2 (ftop k)) :
    ∃ m' e', k.decode (k.format.nearest s m e) = .number s m' e' ∧ Rnd k (vl s m e) (vl s m' e') ∧ (∀ B, RepN k B → ((m : Rat) * p2 e ≤ B → (m' : Rat) * p2 e' ≤ B) ∧ (B ≤ (m : Rat) * p2 e → B ≤ (m' : Rat) * p2 e')) ∧
      2 * ((m : Rat) * p2 e) ≤ 2 * ((m' : Rat) * p2 e') + ((m : Rat) * p2 e * feps k + ftiny k) ∧ 2 * ((m' : Rat) * p2 e') ≤ 2 * ((m : Rat) * p2 e) + ((m : Rat) * p2 e * feps k + ftiny k) := by
  by_cases hm : m = 0
  · subst hm
    have h0 : k.decode (k.format.nearest s 0 e) = .number s 0 k.format.leastPlace := by
      unfold Ieee.Format.nearest
      rw [if_pos rfl]
      have hlt : (0 : Nat) < k.format.signWeight := Nat.two_pow_pos _
      have hsg : (k.format.word s 0 / k.format.signWeight % 2 == 1) = s := by
        unfold Ieee.Format.word
        cases s
        · simp only [Bool.false_eq_true, if_false, Nat.zero_div]; rfl
        · simp only [if_true, Nat.add_zero, Nat.div_self hlt]; rfl
      unfold FloatKind.decode Ieee.Format.read
      simp only [word_mod k.format s hlt, hsg]
      rw [if_pos (show 0 < k.format.binade from Nat.two_pow_pos _)]
    refine ⟨0, k.format.leastPlace, h0, ?_, fun B _ => ?_, ?_⟩
    · rw [vl_zero, vl_zero]
      refine ⟨fun a h1 h2 => ?_, fun B _ => ⟨id, id⟩⟩
      have h3 := Rat.mul_nonneg (show 0 ≤ a from h2) (Rat.le_of_lt (eps_pos k))
      have h4 := tiny_pos k
      constructor <;> grind
    · rw [show ((0 : Nat) : Rat) = 0 from rfl, Rat.zero_mul, Rat.zero_mul]
      exact ⟨id, id⟩
    · have h4 := tiny_pos k
      rw [show ((0 : Nat) : Rat) = 0 from rfl, Rat.zero_mul, Rat.zero_mul, Rat.zero_mul]
      constructor <;> grind
  · obtain ⟨m', e', kept, h1, h2, h3, h4⟩ := nearest_grid k.format s m e hm (top_ok hm h)
    have hside : ∀ B, RepN k B → ((m : Rat) * p2 e ≤ B → (m' : Rat) * p2 e' ≤ B) ∧ (B ≤ (m : Rat) * p2 e → B ≤ (m' : Rat) * p2 e') := fun B ⟨M, E, hM, hE, hB⟩ => by
      rw [h2, hB]
      exact grid_side k.format m e hm kept h3 h4 hM hE
    have hl := last_bound k.format m e hm
    rw [← eps_eq, ← tiny_eq] at hl
    have hP := p2_pos (lastP k.format m e)
    refine ⟨m', e', h1, ?_, hside, ?_⟩
    · refine rnd_sign (Rat.mul_nonneg Rat.natCast_nonneg (Rat.le_of_lt (p2_pos e))) (Rat.mul_nonneg Rat.natCast_nonneg (Rat.le_of_lt (p2_pos e'))) ?_ (Rat.le_of_lt (eps_pos k)) hside
      rw [h2]
      constructor <;> grind
    · rw [h2]
      constructor <;> grind
theorem nearest_rnd (k : FloatKind) (s : Bool) (m : Nat) (e : Int) (h : (m : Rat) * p2 e < p2 (ftop k)) :
    ∃ m' e', k.decode (k.format.nearest s m e) = .number s m' e' ∧ Rnd k (vl s m e) (vl s m' e') ∧ ∀ B, RepN k B → ((m : Rat) * p2 e ≤ B → (m' : Rat) * p2 e' ≤ B) ∧ (B ≤ (m : Rat) * p2 e → B ≤ (m' : Rat) * p2 e') := by
  obtain ⟨m', e', h1, h2, h3, _⟩ := nearest_rnd' k s m e h
  exact ⟨m', e', h1, h2, h3⟩
end Go.Ab
namespace Go.Ab
/-- A float that is a number of some value. -/
def Vl (k : FloatKind) (x : FV) (q : Rat) : Prop := ∃ b s m e, x = some b ∧ k.decode b = .number s m e ∧ vl s m e = q
theorem Vl.of {k : FloatKind} {b : Nat} {s : Bool} {m : Nat} {e : Int} (h : k.decode b = .number s m e) : Vl k (some b) (vl s m e) := ⟨b, s, m, e, rfl, h, rfl⟩
theorem Vl.fvc {k : FloatKind} {b : Nat} {s : Bool} {m : Nat} {e : Int} {q : Rat} (h : k.decode b = .number s m e) (hq : vl s m e = q) : Vl k (fv k b) q := by
  have : fv k b = some b := fv_some (by rw [h]; rfl)
  rw [this, ← hq]
  exact .of h
/-- Whether a word is a number of some value. -/
def vlc (k : FloatKind) (b : Nat) (q : Rat) : Bool := match k.decode b with
  | .number s m e => decide (vl s m e = q)
  | _ => false
theorem Vl.cs {k : FloatKind} {b : Nat} {q : Rat} (h : vlc k b q = true) : Vl k (.some b) q := by
  unfold vlc at h
  split at h
  · rename_i s m e hd
    exact ⟨b, s, m, e, rfl, hd, of_decide_eq_true h⟩
  · cases h
theorem Vl.c {k : FloatKind} {b : Nat} {q : Rat} (h : vlc k b q = true) : Vl k (fv k b) q := by
  obtain ⟨b', s, m, e, hb, hd, hq⟩ := Vl.cs h
  cases hb
  exact Vl.fvc hd hq
theorem Vl.some {k : FloatKind} {x : FV} {q : Rat} (h : Vl k x q) : x ≠ none := by
  obtain ⟨b, _, _, _, rfl, _, _⟩ := h
  exact Option.some_ne_none b
theorem Vl.unique {k : FloatKind} {x : FV} {p q : Rat} (h : Vl k x p) (h' : Vl k x q) : p = q := by
  obtain ⟨b, s, m, e, rfl, hd, rfl⟩ := h
  obtain ⟨b', s', m', e', hb, hd', rfl⟩ := h'
  cases hb
  rw [hd] at hd'
  cases hd'
  rfl
/-- Not too great to be written. -/
def Fit (k : FloatKind) (q : Rat) : Prop := -p2 (ftop k) < q ∧ q < p2 (ftop k)
theorem Fit.mag {k : FloatKind} {s : Bool} {m : Nat} {e : Int} (h : Fit k (vl s m e)) : (m : Rat) * p2 e < p2 (ftop k) := by
  obtain ⟨h1, h2⟩ := h
  unfold vl sgn at h1 h2
  cases s <;> grind
theorem write_vl (k : FloatKind) (s : Bool) (m : Nat) (e : Int) (h : Fit k (vl s m e)) : ∃ r, Vl k (some (k.format.nearest s m e)) r ∧ Rnd k (vl s m e) r := by
  obtain ⟨m', e', h1, h2, _⟩ := nearest_rnd k s m e h.mag
  exact ⟨_, .of h1, h2⟩
/-- What has a value of its own. -/
theorem rnd_rep {k : FloatKind} {q r : Rat} (h : Rnd k q r) (hq : Rep k q) : r = q :=
  Rat.le_antisymm ((h.side q hq).1 Rat.le_refl) ((h.side q hq).2 Rat.le_refl)
theorem rep_zero (k : FloatKind) : Rep k 0 := .inl ⟨0, k.format.leastPlace, Nat.zero_le _, Int.le_refl _, by rw [show ((0 : Nat) : Rat) = 0 from rfl, Rat.zero_mul]⟩
theorem rep_int (k : FloatKind) (n : Int) (h : n.natAbs ≤ 2 ^ (k.format.fractionBits + 1)) : Rep k (n : Rat) := by
  have hlp : k.format.leastPlace ≤ 0 := by cases k <;> decide
  rcases Int.le_total 0 n with h0 | h0
  · refine .inl ⟨n.natAbs, 0, h, hlp, ?_⟩
    rw [p2_zero, Rat.mul_one, ← Rat.intCast_natCast]
    congr 1
    omega
  · refine .inr ⟨n.natAbs, 0, h, hlp, ?_⟩
    rw [p2_zero, Rat.mul_one, ← Rat.intCast_natCast, ← Rat.intCast_neg]
    congr 1
    omega

theorem sum_vl (s t : Bool) (m n : Nat) (i j : Int) : ∃ u M, Ieee.Datum.sum (.number s m i) (.number t n j) = some (.number u M (min i j)) ∧ vl u M (min i j) = vl s m i + vl t n j := by
  simp only [Ieee.Datum.sum]
  refine ⟨_, _, rfl, ?_⟩
  have e1 := vl_signed s m (i - min i j).toNat (min i j)
  have e2 := vl_signed t n (j - min i j).toNat (min i j)
  have a1 : min i j + ((i - min i j).toNat : Int) = i := by omega
  have a2 : min i j + ((j - min i j).toNat : Int) = j := by omega
  rw [a1] at e1
  rw [a2] at e2
  rw [← e1, ← e2, ← Rat.add_mul, ← Rat.intCast_add, vl_int]
  split
  · rename_i h0
    rw [h0]
    show vl _ 0 _ = vl _ 0 _
    rw [vl_zero, vl_zero]
  · rfl
theorem vl_add {k : FloatKind} {x y : FV} {p q : Rat} (hx : Vl k x p) (hy : Vl k y q) (hf : Fit k (p + q)) : ∃ r, Vl k (fbin .add k x y) r ∧ Rnd k (p + q) r := by
  obtain ⟨a, s, m, i, rfl, ha, rfl⟩ := hx
  obtain ⟨b, t, n, j, rfl, hb, rfl⟩ := hy
  obtain ⟨u, M, h1, h2⟩ := sum_vl s t m n i j
  rw [← h2] at hf ⊢
  have : fbin .add k (some a) (some b) = some (k.format.nearest u M (min i j)) := by
    have ha' : k.format.read a = .number s m i := ha
    have hb' : k.format.read b = .number t n j := hb
    simp [fbin, floatBits, Ieee.Format.add, ha', hb', h1, Ieee.Format.write]
  rw [this]
  exact write_vl k u M _ hf
theorem vl_sub {k : FloatKind} {x y : FV} {p q : Rat} (hx : Vl k x p) (hy : Vl k y q) (hf : Fit k (p - q)) : ∃ r, Vl k (fbin .sub k x y) r ∧ Rnd k (p - q) r := by
  obtain ⟨a, s, m, i, rfl, ha, rfl⟩ := hx
  obtain ⟨b, t, n, j, rfl, hb, rfl⟩ := hy
  obtain ⟨u, M, h1, h2⟩ := sum_vl s (!t) m n i j
  have h3 : vl s m i - vl t n j = vl s m i + vl (!t) n j := by rw [vl_neg, Rat.sub_eq_add_neg]
  rw [h3, ← h2] at hf ⊢
  have : fbin .sub k (some a) (some b) = some (k.format.nearest u M (min i j)) := by
    have ha' : k.format.read a = .number s m i := ha
    have hb' : k.format.read b = .number t n j := hb
    simp [fbin, floatBits, Ieee.Format.sub, ha', hb', Ieee.Datum.opposite, h1, Ieee.Format.write]
  rw [this]
  exact write_vl k u M _ hf
theorem mul_vl (s t : Bool) (m n : Nat) (i j : Int) : vl (s ^^ t) (m * n) (i + j) = vl s m i * vl t n j := by
  unfold vl
  rw [Rat.natCast_mul, p2_add]
  have : sgn (s ^^ t) = sgn s * sgn t := by cases s <;> cases t <;> decide +kernel
  rw [this]
  grind
theorem vl_mul {k : FloatKind} {x y : FV} {p q : Rat} (hx : Vl k x p) (hy : Vl k y q) (hf : Fit k (p * q)) : ∃ r, Vl k (fbin .mul k x y) r ∧ Rnd k (p * q) r := by
  obtain ⟨a, s, m, i, rfl, ha, rfl⟩ := hx
  obtain ⟨b, t, n, j, rfl, hb, rfl⟩ := hy
  rw [← mul_vl] at hf ⊢
  have : fbin .mul k (some a) (some b) = some (k.format.nearest (s ^^ t) (m * n) (i + j)) := by
    have ha' : k.format.read a = .number s m i := ha
    have hb' : k.format.read b = .number t n j := hb
    simp [fbin, floatBits, Ieee.Format.mul, ha', hb', Ieee.Datum.product, Ieee.Format.write]
  rw [this]
  exact write_vl k _ _ _ hf
/-- A quotient with its sticky digit, as it lies beside the true one. -/
theorem quo_sticky (m n fb : Nat) (i j : Int) (hm : m ≠ 0) (hn : n ≠ 0) : ∀ more, fb + 2 + n.log2 ≤ m.log2 + more → ∀ A : Rat, A * ((n : Rat) * p2 j) = (m : Rat) * p2 i →
    ∃ F st : Nat, 2 * (m <<< more / n) + (m <<< more % n != 0).toNat = 2 * F + st ∧ (st = 0 ∨ st = 1) ∧ 2 ^ (fb + 1) ≤ F ∧
      ((st = 0 ∧ A = 2 * ((F : Rat) * p2 (i - j - more - 1))) ∨ (st = 1 ∧ 2 * ((F : Rat) * p2 (i - j - more - 1)) < A ∧ A < 2 * ((F : Rat) * p2 (i - j - more - 1)) + 2 * p2 (i - j - more - 1))) := by
  intro more hmore A hA
  have hD := mul_shl m more (i - more)
  have hDn : 2 ^ (fb + 1) * n ≤ m <<< more := by
    rw [Nat.shiftLeft_eq]
    have h1 : n < 2 ^ (n.log2 + 1) := Nat.lt_log2_self
    have h2 : 2 ^ (fb + 1) * n ≤ 2 ^ (fb + 1) * 2 ^ (n.log2 + 1) := Nat.mul_le_mul_left _ (Nat.le_of_lt h1)
    rw [← Nat.pow_add] at h2
    have h3 : 2 ^ m.log2 * 2 ^ more ≤ m * 2 ^ more := Nat.mul_le_mul_right _ (Nat.log2_self_le hm)
    rw [← Nat.pow_add] at h3
    exact Nat.le_trans h2 (Nat.le_trans (Nat.pow_le_pow_right (by decide) (by omega)) h3)
  generalize m <<< more = D at *
  have hn0 : 0 < n := by omega
  have hF : 2 ^ (fb + 1) ≤ D / n := (Nat.le_div_iff_mul_le hn0).2 hDn
  have h3 := Nat.div_add_mod D n
  have h4 := Nat.mod_lt D hn0
  generalize D / n = F at *
  generalize D % n = r at *
  have e1 : i - (more : Int) + more = i := by omega
  rw [e1] at hD
  have hu : p2 (i - more) = 2 * p2 (i - j - more - 1) * p2 j := by
    rw [← p2_one, ← p2_add, ← p2_add]
    congr 1
    omega
  have hj := p2_pos j
  have hup := p2_pos (i - j - more - 1)
  generalize p2 (i - j - more - 1) = u at *
  have hN : (0 : Rat) < n := by
    rw [show (0 : Rat) = ((0 : Nat) : Rat) from rfl]
    exact Rat.natCast_lt_natCast.2 hn0
  have hDr : (D : Rat) = (n : Rat) * F + r := by rw [← h3, Rat.natCast_add, Rat.natCast_mul]
  have hnj : 0 < (n : Rat) * p2 j := Rat.mul_pos hN hj
  -- A n = D 2u
  have hAn : A * ((n : Rat) * p2 j) = ((n : Rat) * F + r) * (2 * u * p2 j) := by rw [hA, ← hD, hu, hDr]
  have hAn2 : (A * (n : Rat)) * p2 j = (((n : Rat) * F + r) * (2 * u)) * p2 j := by grind
  have hAn3 : A * (n : Rat) = ((n : Rat) * F + r) * (2 * u) := by
    apply Rat.le_antisymm
    · exact Rat.le_of_mul_le_mul_right (by rw [hAn2]; exact Rat.le_refl) hj
    · exact Rat.le_of_mul_le_mul_right (by rw [hAn2]; exact Rat.le_refl) hj
  rcases Nat.eq_zero_or_pos r with h0 | h0
  · subst h0
    refine ⟨F, 0, by simp, .inl rfl, hF, .inl ⟨rfl, ?_⟩⟩
    rw [show ((0 : Nat) : Rat) = 0 from rfl, Rat.add_zero] at hAn3
    apply Rat.le_antisymm
    · exact Rat.le_of_mul_le_mul_right (c := (n : Rat)) (by grind) hN
    · exact Rat.le_of_mul_le_mul_right (c := (n : Rat)) (by grind) hN
  · have hr0 : (0 : Rat) < r := by
      rw [show (0 : Rat) = ((0 : Nat) : Rat) from rfl]
      exact Rat.natCast_lt_natCast.2 h0
    have hrn : (r : Rat) < n := Rat.natCast_lt_natCast.2 h4
    have hne : (r != 0).toNat = 1 := by
      have : (r != 0) = true := by simp; omega
      rw [this]; rfl
    refine ⟨F, 1, by rw [hne], .inr rfl, hF, .inr ⟨rfl, ?_, ?_⟩⟩
    · refine Rat.lt_of_mul_lt_mul_right (c := (n : Rat)) ?_ (Rat.le_of_lt hN)
      rw [hAn3]
      have := Rat.mul_pos hr0 hup
      grind
    · refine Rat.lt_of_mul_lt_mul_right (c := (n : Rat)) ?_ (Rat.le_of_lt hN)
      rw [hAn3]
      have := Rat.mul_lt_mul_of_pos_right hrn hup
      grind
theorem sticky_side {k : FloatKind} {A u : Rat} {F st : Nat} {e : Int} (hu : u = p2 e) (hst : st = 0 ∨ st = 1) (hF : 2 ^ (k.format.fractionBits + 1) ≤ F)
    (hA : (st = 0 ∧ A = 2 * ((F : Rat) * u)) ∨ (st = 1 ∧ 2 * ((F : Rat) * u) < A ∧ A < 2 * ((F : Rat) * u) + 2 * u)) {B : Rat} (hB : RepN k B) :
    (A ≤ B → ((2 * F + st : Nat) : Rat) * u ≤ B) ∧ (B ≤ A → B ≤ ((2 * F + st : Nat) : Rat) * u) := by
  have hup : 0 < u := by rw [hu]; exact p2_pos e
  have hc : ((2 * F + st : Nat) : Rat) * u = 2 * ((F : Rat) * u) + (st : Rat) * u := by
    rw [Rat.natCast_add, Rat.natCast_mul]
    show (2 * (F : Rat) + st) * u = _
    grind
  rw [hc]
  rcases hA with ⟨h0, h1⟩ | ⟨h0, h1, h2⟩
  · subst h0
    rw [show ((0 : Nat) : Rat) = 0 from rfl, Rat.zero_mul, Rat.add_zero, ← h1]
    exact ⟨id, id⟩
  · subst h0
    rw [show ((1 : Nat) : Rat) = 1 from rfl, Rat.one_mul]
    obtain ⟨M, E, hM, hE, hBe⟩ := hB
    rcases (show e + 1 ≤ E ∨ E ≤ e from by omega) with hle | hle
    · have hB2 : B = 2 * (((M * 2 ^ (E - (e + 1)).toNat : Nat) : Rat) * u) := by
        rw [hBe, p2_split hle, p2_add, p2_one, Rat.natCast_mul, hu]
        grind
      generalize M * 2 ^ (E - (e + 1)).toNat = N at *
      refine ⟨fun h => ?_, fun h => ?_⟩
      · have h3 : (F : Rat) * u < (N : Rat) * u := by grind
        have h4 : F < N := Rat.natCast_lt_natCast.1 ((Rat.mul_lt_mul_right hup).1 h3)
        have h5 : ((F + 1 : Nat) : Rat) * u ≤ (N : Rat) * u := Rat.mul_le_mul_of_nonneg_right (Rat.natCast_le_natCast.2 h4) (Rat.le_of_lt hup)
        rw [Rat.natCast_add, show ((1 : Nat) : Rat) = 1 from rfl] at h5
        grind
      · have h3 : (N : Rat) * u < ((F + 1 : Nat) : Rat) * u := by
          rw [Rat.natCast_add, show ((1 : Nat) : Rat) = 1 from rfl]
          grind
        have h4 : N < F + 1 := Rat.natCast_lt_natCast.1 ((Rat.mul_lt_mul_right hup).1 h3)
        have h5 : (N : Rat) * u ≤ (F : Rat) * u := Rat.mul_le_mul_of_nonneg_right (Rat.natCast_le_natCast.2 (by omega)) (Rat.le_of_lt hup)
        grind
    · have h3 : B ≤ (F : Rat) * u := by
        rw [hBe, hu]
        refine Rat.le_trans (Rat.mul_le_mul_of_nonneg_left (p2_le hle) Rat.natCast_nonneg) (mul_p2_le (Nat.le_trans hM hF) e)
      have h4 : 0 < (F : Rat) * u := by
        refine Rat.mul_pos ?_ hup
        rw [show (0 : Rat) = ((0 : Nat) : Rat) from rfl]
        exact Rat.natCast_lt_natCast.2 (Nat.lt_of_lt_of_le (Nat.two_pow_pos _) hF)
      exact ⟨fun h => by grind, fun h => by grind⟩
theorem vl_div {k : FloatKind} {x y : FV} {p q : Rat} (hx : Vl k x p) (hy : Vl k y q) (hq : q ≠ 0) (hf : -p2 (ftop k - 1) ≤ p / q ∧ p / q ≤ p2 (ftop k - 1)) : ∃ r, Vl k (fbin .quo k x y) r ∧ Rnd k (p / q) r := by
  obtain ⟨a, s, m, i, rfl, ha, rfl⟩ := hx
  obtain ⟨b, t, n, j, rfl, hb, rfl⟩ := hy
  have hn : n ≠ 0 := fun h => by
    subst h
    exact hq (vl_zero t j)
  have hn0 : (0 : Rat) < n := by
    rw [show (0 : Rat) = ((0 : Nat) : Rat) from rfl]
    exact Rat.natCast_lt_natCast.2 (by omega)
  have hnj : 0 < (n : Rat) * p2 j := Rat.mul_pos hn0 (p2_pos j)
  have hsg : vl s m i / vl t n j = sgn (s ^^ t) * (((m : Rat) * p2 i) / ((n : Rat) * p2 j)) := by
    have h1 : vl s m i / vl t n j * vl t n j = vl s m i := Rat.div_mul_cancel hq
    have h2 : ((m : Rat) * p2 i) / ((n : Rat) * p2 j) * ((n : Rat) * p2 j) = (m : Rat) * p2 i := Rat.div_mul_cancel (Rat.ne_of_gt hnj)
    have h3 : sgn (s ^^ t) * (((m : Rat) * p2 i) / ((n : Rat) * p2 j)) * vl t n j = vl s m i := by
      have h4 : sgn (s ^^ t) * sgn t = sgn s := by cases s <;> cases t <;> decide +kernel
      have h5 : sgn (s ^^ t) * (((m : Rat) * p2 i) / ((n : Rat) * p2 j)) * vl t n j = (sgn (s ^^ t) * sgn t) * (((m : Rat) * p2 i) / ((n : Rat) * p2 j) * ((n : Rat) * p2 j)) := by
        unfold vl
        generalize ((m : Rat) * p2 i) / ((n : Rat) * p2 j) = A
        grind
      rw [h5, h4, h2]
      rfl
    generalize vl s m i / vl t n j = X at *
    generalize sgn (s ^^ t) * (((m : Rat) * p2 i) / ((n : Rat) * p2 j)) = Y at *
    have h6 : (X - Y) * vl t n j = 0 := by grind
    rcases Rat.mul_eq_zero.1 h6 with h7 | h7
    · grind
    · exact absurd h7 hq
  rw [hsg] at hf ⊢
  have hA : ((m : Rat) * p2 i) / ((n : Rat) * p2 j) * ((n : Rat) * p2 j) = (m : Rat) * p2 i := Rat.div_mul_cancel (Rat.ne_of_gt hnj)
  generalize ((m : Rat) * p2 i) / ((n : Rat) * p2 j) = A at *
  have hA0 : 0 ≤ A := by
    rcases Rat.le_total (a := 0) (b := A) with h | h
    · exact h
    · have h1 := Rat.mul_nonneg (Rat.natCast_nonneg (a := m)) (Rat.le_of_lt (p2_pos i))
      rw [← hA] at h1
      have h2 := Rat.mul_nonneg (show 0 ≤ -A by grind) (Rat.le_of_lt hnj)
      have h3 : A * ((n : Rat) * p2 j) = 0 := by grind
      rcases Rat.mul_eq_zero.1 h3 with h4 | h4
      · grind
      · grind
  have hAf : A ≤ p2 (ftop k - 1) := by
    obtain ⟨h1, h2⟩ := hf
    cases hst : (s ^^ t) <;> rw [hst] at h1 h2 <;> simp only [sgn] at h1 h2 <;> grind
  have hfb : fbin .quo k (some a) (some b) = some (k.format.nearest (s ^^ t) (2 * (m <<< (k.format.fractionBits + 2 + n.log2 - m.log2) / n) + (m <<< (k.format.fractionBits + 2 + n.log2 - m.log2) % n != 0).toNat) (i - j - (k.format.fractionBits + 2 + n.log2 - m.log2 : Nat) - 1)) := by
    have ha' : k.format.read a = .number s m i := ha
    have hb' : k.format.read b = .number t n j := hb
    simp [fbin, floatBits, Ieee.Format.div, ha', hb', Ieee.Datum.quotient, hn, Ieee.Format.write]
  rw [hfb]
  have htop : p2 (ftop k - 1) < p2 (ftop k) := by cases k <;> decide +kernel
  by_cases hm : m = 0
  · subst hm
    have hA1 : A = 0 := by
      rw [show ((0 : Nat) : Rat) = 0 from rfl, Rat.zero_mul] at hA
      rcases Rat.mul_eq_zero.1 hA with h4 | h4
      · exact h4
      · exact absurd h4 (Rat.ne_of_gt hnj)
    subst hA1
    have e0 : 2 * (0 <<< (k.format.fractionBits + 2 + n.log2 - Nat.log2 0) / n) + (0 <<< (k.format.fractionBits + 2 + n.log2 - Nat.log2 0) % n != 0).toNat = 0 := by
      rw [Nat.zero_shiftLeft, Nat.zero_div, Nat.zero_mod]; rfl
    rw [e0]
    generalize i - j - (k.format.fractionBits + 2 + n.log2 - Nat.log2 0 : Nat) - 1 = e
    have h1 := write_vl k (s ^^ t) 0 e (by rw [vl_zero]; cases k <;> exact ⟨by decide +kernel, by decide +kernel⟩)
    rw [vl_zero] at h1
    rw [Rat.mul_zero]
    exact h1
  · obtain ⟨F, st, h1, h2, h3, h4⟩ := quo_sticky m n k.format.fractionBits i j hm hn (k.format.fractionBits + 2 + n.log2 - m.log2) (by omega) A hA
    rw [h1]
    generalize i - j - (k.format.fractionBits + 2 + n.log2 - m.log2 : Nat) - 1 = e at *
    have hsd := fun {B} (hB : RepN k B) => sticky_side (k := k) rfl h2 h3 h4 (B := B) hB
    have hrt : RepN k (p2 (ftop k - 1)) := ⟨1, ftop k - 1, Nat.one_le_two_pow, by cases k <;> decide, by rw [show ((1 : Nat) : Rat) = 1 from rfl, Rat.one_mul]⟩
    have hA' := (hsd hrt).1 hAf
    obtain ⟨m', e', g1, g2, g3, g4, g5⟩ := nearest_rnd' k (s ^^ t) (2 * F + st) e (Std.lt_of_le_of_lt hA' htop)
    refine ⟨_, .of g1, ?_⟩
    have hup := p2_pos e
    have hFu : feps k * ((F : Rat) * p2 e) ≥ 2 * p2 e := by
      have h5 := mul_p2_le h3 e
      rw [p2_shl] at h5
      have h6 := Rat.mul_le_mul_of_nonneg_left h5 (Rat.le_of_lt (eps_pos k))
      rw [eps_eq, ← p2_add] at h6
      have h7 : -(k.format.fractionBits : Int) + (((k.format.fractionBits + 1 : Nat) : Int) + e) = 1 + e := by omega
      rw [h7, p2_add, p2_one] at h6
      rw [eps_eq]
      exact h6
    have hc : ((2 * F + st : Nat) : Rat) * p2 e = 2 * ((F : Rat) * p2 e) + (st : Rat) * p2 e := by
      rw [Rat.natCast_add, Rat.natCast_mul]
      show (2 * (F : Rat) + st) * p2 e = _
      grind
    have he1 : feps k ≤ 1 / 4 := by cases k <;> decide +kernel
    have he0 := eps_pos k
    have ht := tiny_pos k
    refine rnd_sign hA0 (Rat.mul_nonneg Rat.natCast_nonneg (Rat.le_of_lt (p2_pos e'))) ?_ (Rat.le_of_lt he0) (fun B hB => ⟨fun h => (g3 B hB).1 ((hsd hB).1 h), fun h => (g3 B hB).2 ((hsd hB).2 h)⟩)
    generalize (m' : Rat) * p2 e' = R at *
    generalize ((2 * F + st : Nat) : Rat) * p2 e = A' at *
    generalize (F : Rat) * p2 e = FU at *
    generalize p2 e = u at *
    generalize ftiny k = T at *
    generalize feps k = E at *
    rcases h4 with ⟨h0, h5⟩ | ⟨h0, h5, h6⟩
    · subst h0
      rw [show ((0 : Nat) : Rat) = 0 from rfl, Rat.zero_mul, Rat.add_zero, ← h5] at hc
      subst hc
      have := Rat.mul_nonneg hA0 (Rat.le_of_lt he0)
      constructor <;> grind
    · subst h0
      rw [show ((1 : Nat) : Rat) = 1 from rfl, Rat.one_mul] at hc
      -- u ≤ E * FU / 2 ≤ E * A / 4
      have a1 : E * (2 * FU) ≤ E * A := Rat.mul_le_mul_of_nonneg_left (Rat.le_of_lt h5) (Rat.le_of_lt he0)
      have a2 : A' * E ≤ (A + u) * E := Rat.mul_le_mul_of_nonneg_right (by grind) (Rat.le_of_lt he0)
      have a3 : u * E ≤ u * (1 / 4) := Rat.mul_le_mul_of_nonneg_left he1 (Rat.le_of_lt hup)
      constructor <;> grind
theorem int_mul_lt {a b : Int} (e : Int) : (a : Rat) * p2 e < (b : Rat) * p2 e ↔ a < b := by
  rw [Rat.mul_lt_mul_right (p2_pos e)]
  exact Rat.intCast_lt_intCast
theorem vl_cmp {k : FloatKind} {x y : FV} {p q : Rat} (hx : Vl k x p) (hy : Vl k y q) : ∃ a b : Int, fcmp k x y = some (compare a b) ∧ (p < q ↔ a < b) ∧ (q < p ↔ b < a) := by
  obtain ⟨a, s, m, i, rfl, ha, rfl⟩ := hx
  obtain ⟨b, t, n, j, rfl, hb, rfl⟩ := hy
  have ha' : k.format.read a = .number s m i := ha
  have hb' : k.format.read b = .number t n j := hb
  refine ⟨_, _, by simp [fcmp, Ieee.Format.order, ha', hb', Ieee.Datum.order]; rfl, ?_, ?_⟩
  all_goals
    have e1 := vl_signed s m (i - min i j).toNat (min i j)
    have e2 := vl_signed t n (j - min i j).toNat (min i j)
    have a1 : min i j + ((i - min i j).toNat : Int) = i := by omega
    have a2 : min i j + ((j - min i j).toNat : Int) = j := by omega
    rw [a1] at e1
    rw [a2] at e2
    rw [← e1, ← e2, int_mul_lt]
theorem vl_lss {k : FloatKind} {x y : FV} {p q : Rat} (hx : Vl k x p) (hy : Vl k y q) : cmpB .lss (fcmp k x y) = decide (p < q) := by
  obtain ⟨a, b, h, h1, h2⟩ := vl_cmp hx hy
  rw [h]
  have hh : (p < q) = (a < b) := propext h1
  simp only [hh]
  rcases Int.lt_trichotomy a b with h3 | h3 | h3
  · simp [cmpB, h3, Int.compare_eq_lt.2 h3]
  · subst h3; simp [cmpB]
  · have : ¬ a < b := by omega
    simp [cmpB, this, Int.compare_eq_gt.2 h3]
theorem vl_gtr {k : FloatKind} {x y : FV} {p q : Rat} (hx : Vl k x p) (hy : Vl k y q) : cmpB .gtr (fcmp k x y) = decide (q < p) := by
  obtain ⟨a, b, h, h1, h2⟩ := vl_cmp hx hy
  rw [h]
  have hh : (q < p) = (b < a) := propext h2
  simp only [hh]
  rcases Int.lt_trichotomy a b with h3 | h3 | h3
  · have : ¬ b < a := by omega
    simp [cmpB, this, Int.compare_eq_lt.2 h3]
  · subst h3; simp [cmpB]
  · simp [cmpB, h3, Int.compare_eq_gt.2 h3]
theorem vl_leq {k : FloatKind} {x y : FV} {p q : Rat} (hx : Vl k x p) (hy : Vl k y q) : cmpB .leq (fcmp k x y) = decide (p ≤ q) := by
  obtain ⟨a, b, h, h1, h2⟩ := vl_cmp hx hy
  rw [h]
  have hh : (p ≤ q) = ¬ (b < a) := propext (by rw [← h2]; exact Rat.not_lt.symm)
  simp only [hh]
  rcases Int.lt_trichotomy a b with h3 | h3 | h3
  · have : ¬ b < a := by omega
    simp [cmpB, this, Int.compare_eq_lt.2 h3]
  · subst h3; simp [cmpB]
  · simp [cmpB, h3, Int.compare_eq_gt.2 h3]
theorem vl_geq {k : FloatKind} {x y : FV} {p q : Rat} (hx : Vl k x p) (hy : Vl k y q) : cmpB .geq (fcmp k x y) = decide (q ≤ p) := by
  obtain ⟨a, b, h, h1, h2⟩ := vl_cmp hx hy
  rw [h]
  have hh : (q ≤ p) = ¬ (a < b) := propext (by rw [← h1]; exact Rat.not_lt.symm)
  simp only [hh]
  rcases Int.lt_trichotomy a b with h3 | h3 | h3
  · simp [cmpB, h3, Int.compare_eq_lt.2 h3]
  · subst h3; simp [cmpB]
  · have : ¬ a < b := by omega
    simp [cmpB, this, Int.compare_eq_gt.2 h3]
theorem vl_eql {k : FloatKind} {x y : FV} {p q : Rat} (hx : Vl k x p) (hy : Vl k y q) : cmpB .eql (fcmp k x y) = decide (p = q) := by
  obtain ⟨a, b, h, h1, h2⟩ := vl_cmp hx hy
  rw [h]
  rcases Int.lt_trichotomy a b with h3 | h3 | h3
  · have : ¬ p = q := Rat.ne_of_lt (h1.2 h3)
    simp [cmpB, this, Int.compare_eq_lt.2 h3]
  · have : p = q := Rat.le_antisymm (Rat.not_lt.1 fun h4 => by have := h2.1 h4; omega) (Rat.not_lt.1 fun h4 => by have := h1.1 h4; omega)
    subst h3; simp [cmpB, this]
  · have : ¬ p = q := fun e => Rat.ne_of_lt (h2.2 h3) e.symm
    simp [cmpB, this, Int.compare_eq_gt.2 h3]
theorem single_fit {b : Nat} {s : Bool} {m : Nat} {e : Int} (h : FloatKind.f32.decode b = .number s m e) : (m : Rat) * p2 e < p2 128 := by
  obtain ⟨h1, h2, h3⟩ := single_number h
  have h4 : (m : Rat) < ((2 ^ 24 : Nat) : Rat) := Rat.natCast_lt_natCast.2 h1
  have h5 := Rat.mul_lt_mul_of_pos_right h4 (p2_pos e)
  rw [p2_shl] at h5
  exact Std.lt_of_lt_of_le h5 (p2_le (by omega))
theorem vl_wide {x : FV} {p : Rat} (hx : Vl .f32 x p) : Vl .f64 (fconv .f32 .f64 x) p := by
  obtain ⟨b, s, m, e, rfl, hd, rfl⟩ := hx
  obtain ⟨h1, h2, h3⟩ := single_number hd
  have h4 := single_fit hd
  obtain ⟨m', e', h5, h6, h7⟩ := nearest_rnd .f64 s m e (Std.lt_of_lt_of_le h4 (p2_le (by decide)))
  have hrep : RepN .f64 ((m : Rat) * p2 e) := ⟨m, e, Nat.le_trans (Nat.le_of_lt h1) (by decide), Int.le_trans (by decide) h2, rfl⟩
  have heq : (m' : Rat) * p2 e' = (m : Rat) * p2 e := Rat.le_antisymm ((h7 _ hrep).1 Rat.le_refl) ((h7 _ hrep).2 Rat.le_refl)
  have hc : fconv .f32 .f64 (some b) = some (FloatKind.f64.format.nearest s m e) := by
    have h8 : FloatKind.f64.encode (.number s m e) = FloatKind.f64.format.nearest s m e := rfl
    simp only [fconv, Option.bind_some, floatToFloatBits, if_neg (by decide : ¬ FloatKind.f32 = FloatKind.f64), hd, h8]
    rw [if_neg]
    rw [h5]
    simp [Ieee.Datum.isInfinity]
  rw [hc]
  refine ⟨_, s, m', e', rfl, h5, ?_⟩
  unfold vl
  rw [heq]
theorem vl_narrow {x : FV} {p : Rat} (hx : Vl .f64 x p) (hf : Fit .f32 p) : ∃ r, Vl .f32 (fconv .f64 .f32 x) r ∧ Rnd .f32 p r := by
  obtain ⟨b, s, m, e, rfl, hd, rfl⟩ := hx
  obtain ⟨m', e', h5, h6, h7⟩ := nearest_rnd .f32 s m e hf.mag
  have hc : fconv .f64 .f32 (some b) = some (FloatKind.f32.format.nearest s m e) := by
    have h8 : FloatKind.f32.encode (.number s m e) = FloatKind.f32.format.nearest s m e := rfl
    simp only [fconv, Option.bind_some, floatToFloatBits, if_neg (by decide : ¬ FloatKind.f64 = FloatKind.f32), hd, h8]
    rw [if_neg]
    rw [h5]
    simp [Ieee.Datum.isInfinity]
  rw [hc]
  exact ⟨_, .of h5, h6⟩
theorem vl_narrow_ok {x : FV} {p : Rat} (hx : Vl .f64 x p) (hf : Fit .f32 p) : ConvOk .f64 .f32 x := by
  obtain ⟨r, h, _⟩ := vl_narrow hx hf
  exact .inr h.some
theorem vl_ofInt (k : FloatKind) (n : Int) (h : n.natAbs ≤ 2 ^ (k.format.fractionBits + 1)) : Vl k (some (k.nearest n)) (n : Rat) := by
  have hv := vl_int n 0
  rw [p2_zero, Rat.mul_one] at hv
  have hrep := rep_int k n h
  have hb : (((2 ^ (k.format.fractionBits + 1) : Nat)) : Rat) < p2 (ftop k) := by cases k <;> decide +kernel
  have hfit : (n.natAbs : Rat) * p2 0 < p2 (ftop k) := by
    rw [p2_zero, Rat.mul_one]
    exact Std.lt_of_le_of_lt (Rat.natCast_le_natCast.2 h) hb
  obtain ⟨m', e', h5, h6, _⟩ := nearest_rnd k (decide (n < 0)) n.natAbs 0 hfit
  rw [← hv] at h6
  have := rnd_rep h6 hrep
  exact ⟨_, _, m', e', rfl, h5, this⟩
theorem vl_fin {x : FV} {p : Rat} (hx : Vl .f32 x p) : cmpB .eql (fcmp .f32 (fbin .sub .f32 x x) (fv .f32 0)) = true := by
  have hz : p - p = 0 := Rat.sub_self
  obtain ⟨r, h1, h2⟩ := vl_sub hx hx (by rw [hz]; exact ⟨by decide +kernel, by decide +kernel⟩)
  rw [hz] at h2
  have hr := rnd_rep h2 (rep_zero _)
  subst hr
  rw [vl_eql h1 (Vl.c (b := 0) (q := 0) (by decide +kernel))]
  rfl
/-- The other sign. -/
def negBits (k : FloatKind) (b : Nat) : Nat := b ^^^ 2 ^ (k.format.exponentBits + k.format.fractionBits)
def fneg (k : FloatKind) (x : FV) : FV := x.map (negBits k)
theorem negBits_mod (k : FloatKind) (b : Nat) : negBits k b % k.format.signWeight = b % k.format.signWeight := by
  show (b ^^^ k.format.signWeight) % 2 ^ (k.format.exponentBits + k.format.fractionBits) = b % 2 ^ (k.format.exponentBits + k.format.fractionBits)
  rw [Nat.xor_mod_two_pow]
  show _ ^^^ 2 ^ (k.format.exponentBits + k.format.fractionBits) % 2 ^ (k.format.exponentBits + k.format.fractionBits) = _
  rw [Nat.mod_self, Nat.xor_zero]
theorem negBits_sign (k : FloatKind) (b : Nat) : (negBits k b / k.format.signWeight % 2 == 1) = !(b / k.format.signWeight % 2 == 1) := by
  have h : ∀ x : Nat, (x / k.format.signWeight % 2 == 1) = x.testBit (k.format.exponentBits + k.format.fractionBits) := fun x => by
    rw [Nat.testBit_eq_decide_div_mod_eq]
    show (x / 2 ^ _ % 2 == 1) = _
    rw [Bool.eq_iff_iff, beq_iff_eq, decide_eq_true_iff]
  rw [h, h]
  unfold negBits
  rw [Nat.testBit_xor, Nat.testBit_two_pow_self, Bool.xor_true]
theorem read_negBits (k : FloatKind) (b : Nat) : k.decode (negBits k b) = (k.decode b).opposite := by
  unfold FloatKind.decode Ieee.Format.read
  simp only [negBits_mod, negBits_sign]
  split
  · rfl
  · split
    · rfl
    · split <;> rfl
theorem fv_negBits (k : FloatKind) (b : Nat) : fv k (negBits k b) = fneg k (fv k b) := by
  unfold fv
  rw [read_negBits]
  have : (k.decode b).opposite.isNaN = (k.decode b).isNaN := by cases k.decode b <;> rfl
  rw [this]
  split <;> rfl
theorem vl_fneg {k : FloatKind} {x : FV} {q : Rat} (h : Vl k x q) : Vl k (fneg k x) (-q) := by
  obtain ⟨b, s, m, e, rfl, hd, rfl⟩ := h
  refine ⟨negBits k b, !s, m, e, rfl, ?_, vl_neg s m e⟩
  rw [read_negBits, hd]
  rfl
theorem negBits_lt (k : FloatKind) {b : Nat} (h : b < 2 ^ k.format.width) : negBits k b < 2 ^ k.format.width := by
  unfold negBits
  refine Nat.xor_lt_two_pow h (Nat.pow_lt_pow_right (by decide) ?_)
  show _ < 1 + k.format.exponentBits + k.format.fractionBits
  omega
end Go.Ab
namespace Go.Ab
variable {R : World → Prop} [RStab R]
section
variable {P : Program} {N : Nat} {S : World → Prop} {e : Env} {Q : Exit → Env → World → Prop} {ops : Array Oper} {l : List Oper}
variable {w0 : World} {gs : List Nat} {H : List Ent} {dst : Option Tmp} {ty : TypeId} {pos : String} {after : Array Edge} {guard : Option (Nat × Bool)}
theorem opj_neg {t : TypeId} {X : Operand} {k : FloatKind} {x : FV} (hx : e.ev X = some (.f k x)) : OpJ P S e ⟨dst, .unOp .neg t X, ty, pos, after, guard⟩ (.f k (fneg k x)) :=
  opj_value fun a w _ h => by
    obtain ⟨b, h1, e1, hb⟩ := (h X (by simp [Op.operands]) _ hx).inv_f
    refine ⟨.float k (negBits k b), w, ?_, Ext.refl _, Rel.f' (negBits_lt k hb) (by rw [fv_negBits, e1])⟩
    simp [execOp, h1, Op.unary, Op.negFloat, negBits]
theorem opj_caddsub {op : BinOp} (hop : op = .add ∨ op = .sub) {t t' : TypeId} {X Y : Operand} {k : FloatKind} {x y x' y' : FV} (hx : e.ev X = some (.c k x y)) (hy : e.ev Y = some (.c k x' y')) :
    OpJ P S e ⟨dst, .binOp op t X Y t', ty, pos, after, guard⟩ (.c k (fbin op k x x') (fbin op k y y')) :=
  opj_value fun a w _ h => by
    obtain ⟨p, q, h1, e1, e2, hp, hq⟩ := (h X (by simp [Op.operands]) _ hx).inv_c
    obtain ⟨p', q', h2, e1', e2', hp', hq'⟩ := (h Y (by simp [Op.operands]) _ hy).inv_c
    have ha : isArith op = true := by rcases hop with rfl | rfl <;> rfl
    obtain ⟨r, w1, hr, hq1, hv, hl⟩ := run_farith P w op ha k p p'
    obtain ⟨r2, w2, hr2, hq2, hv2, hl2⟩ := run_farith P w1 op ha k q q'
    refine ⟨.complex k r r2, w2, ?_, (Ext.of_quiet hq1).trans (Ext.of_quiet hq2), Rel.c' hl hl2 (by rw [hv, e1, e1']) (by rw [hv2, e2, e2'])⟩
    rcases hop with rfl | rfl <;> simp [execOp, h1, h2, eqGuard, binOp, Op.complexOp, Op.Complex.arith, hr, hr2]
theorem opj_cadd {t t' : TypeId} {X Y : Operand} {k : FloatKind} {x y x' y' : FV} (hx : e.ev X = some (.c k x y)) (hy : e.ev Y = some (.c k x' y')) :
    OpJ P S e ⟨dst, .binOp .add t X Y t', ty, pos, after, guard⟩ (.c k (fbin .add k x x') (fbin .add k y y')) := opj_caddsub (.inl rfl) hx hy
theorem opj_csub {t t' : TypeId} {X Y : Operand} {k : FloatKind} {x y x' y' : FV} (hx : e.ev X = some (.c k x y)) (hy : e.ev Y = some (.c k x' y')) :
    OpJ P S e ⟨dst, .binOp .sub t X Y t', ty, pos, after, guard⟩ (.c k (fbin .sub k x x') (fbin .sub k y y')) := opj_caddsub (.inr rfl) hx hy
theorem run_ccmp (w : World) (k : FloatKind) (a b : Nat) : (Op.Complex.cmp .eql k a b).run P w = .ok (cmpB .eql (fcmp k (fv k a) (fv k b))) w := by
  rw [fcmp_fv]
  simp [Op.Complex.cmp, Op.floatCmp, asBool, cmpB]
theorem opj_ceql {t t' : TypeId} {X Y : Operand} {k : FloatKind} {x y x' y' : FV} (hx : e.ev X = some (.c k x y)) (hy : e.ev Y = some (.c k x' y')) :
    OpJ P S e ⟨dst, .binOp .eql t X Y t', ty, pos, after, guard⟩ (.raw (.bool (cmpB .eql (fcmp k x x') && cmpB .eql (fcmp k y y')))) :=
  opj_value fun a w _ h => by
    obtain ⟨p, q, h1, e1, e2, hp, hq⟩ := (h X (by simp [Op.operands]) _ hx).inv_c
    obtain ⟨p', q', h2, e1', e2', hp', hq'⟩ := (h Y (by simp [Op.operands]) _ hy).inv_c
    refine ⟨_, w, ?_, Ext.refl _, .raw⟩
    rw [← e1, ← e2, ← e1', ← e2']
    cases hc : cmpB .eql (fcmp k (fv k p) (fv k p')) <;> simp [execOp, h1, h2, eqGuard, binOp, Op.complexOp, run_ccmp, hc]
theorem opj_makeFunc2 {c : FuncId} {X Y : Operand} {u v : Value} (hx : e.ev X = some (.raw u)) (hy : e.ev Y = some (.raw v)) :
    OpJ P S e ⟨dst, .makeFunc (.func c) #[] #[X, Y], ty, pos, after, guard⟩ (.raw (.func (.func c) #[] #[u, v])) :=
  opj_value fun a w _ h => by
    have h1 := (h X (by simp [Op.operands]) _ hx).inv_raw
    have h2 := (h Y (by simp [Op.operands]) _ hy).inv_raw
    exact ⟨_, w, by simp [execOp, h1, h2, Instr.makeFunc], Ext.refl _, .raw⟩
theorem rel_raws (w : World) : ∀ cap : List Value, RelL w (cap.map AV.raw) cap
  | [] => .nil
  | _ :: r => .cons .raw (rel_raws w r)
theorem relL_append {w : World} {xs ys : List AV} {us vs : List Value} (h : RelL w xs us) (h' : RelL w ys vs) : RelL w (xs ++ ys) (us ++ vs) := by
  induction xs generalizing us with
  | nil =>
    obtain rfl := h.inv_nil
    exact h'
  | cons x xs ih =>
    obtain ⟨v, r, rfl, hv, hr⟩ := h.inv_cons
    exact .cons hv (ih hr)
theorem opj_callC {c : FuncId} {xs : List Operand} {F : Operand} {args : List AV} {r : AV} {ts : Array TypeId} {A : World → List AV} [hb : HasBody P c] {cap : List Value}
    (hF : e.ev F = some (.raw (.func (.func c) #[] cap.toArray))) (hx : evL e xs = some args) (hc : Fn P c A r) (ht : Takes S (args ++ cap.map AV.raw) A) :
    OpJ P S e ⟨dst, .call { callee := .value F, args := xs.toArray, argTypes := ts }, ty, pos, after, guard⟩ r := by
  intro a w K Q hS ho hK
  obtain ⟨fnc, hf, hbd, hn⟩ := hb.h
  have h1 := (ho F (by simp [Op.operands, Call.operands]) _ hF).inv_raw
  have hrl0 : RelL w args (xs.map a.eval) := evL_rel hx fun x hxm => ho x (by simp [Op.operands, Call.operands, hxm])
  have hrl : RelL w (A w) (xs.map a.eval ++ cap) := ht w _ hS (relL_append hrl0 (rel_raws w cap))
  have hcall := hc w _ hrl (fun _ h => by cases h) List.Pairwise.nil
  unfold Oper.wp
  have hrun : (execOp a.eval ⟨dst, .call { callee := .value F, args := xs.toArray, argTypes := ts }, ty, pos, after, guard⟩).run P w = .ok (.enter c (xs.map a.eval ++ cap).toArray) w := by
    simp [execOp, resolve, h1, Deferred.ofValue, invoke, run_callFn hf hbd hn]
  rw [hrun]
  refine Calls.mono hcall fun x w' ⟨v, y, hx', _, hrv, hm, _, _⟩ => ?_
  subst hx'
  exact hK v w' hm.to_ext hrv
theorem done_ret3 {R0 : World → Prop} {X : Type} {mk : X → AV} {post : X → List Ent} {good : X → Prop} {fn : Func} {t1 t2 t3 : Tmp} {x1 x2 x3 : AV} (hr : fn.results = #[.tmp t1, .tmp t2, .tmp t3]) (y : X) (hmk : mk y = .tup [x1, x2, x3]) (h1 : e.look t1 = some x1) (h2 : e.look t2 = some x2) (h3 : e.look t3 = some x3) (hy : good y) (hs : (post y).Sublist H) :
    Done .ret e (StR R0 w0 gs H) (Ret P fn N w0 gs mk post good) := fun w hw =>
  ⟨.inl rfl, y, hy, hw.mod, fun x hx => ⟨(hw.own x (hs.subset hx)).2, (hw.own x (hs.subset hx)).1⟩, (hw.weak hs).nodup, fun a hF => by
    obtain ⟨u1, hu1, hr1⟩ := hF.rel t1 _ h1
    obtain ⟨u2, hu2, hr2⟩ := hF.rel t2 _ h2
    obtain ⟨u3, hu3, hr3⟩ := hF.rel t3 _ h3
    refine ⟨.tuple #[u1, u2, u3], by rw [results_tmp3 hr]; simp [hu1, hu2, hu3], ?_⟩
    rw [hmk]
    exact .tup (vs := [u1, u2, u3]) (.cons hr1 (.cons hr2 (.cons hr3 .nil)))⟩
def Join {ι : Type} (E : ι → Env) (SI : ι → World → Prop) (ok : ι → Prop) (Q : Exit → Env → World → Prop) : Exit → Env → World → Prop
  | .normal, e, w => ∃ y, ok y ∧ Env.sub (E y) e ∧ SI y w
  | x, e, w => Q x e w
theorem ws_thenJ {ι : Type} (E : ι → Env) (SI : ι → World → Prop) (ok : ι → Prop) {c d : Code} (h1 : WS P N c e S (Join E SI ok Q)) (h2 : ∀ y, ok y → WS P N d (E y) (SI y) Q) : WS P N c e S (Then P N d Q) := by
  refine h1.mono fun x e' w hq => ?_
  cases x <;> first | exact hq | skip
  obtain ⟨y, hy, hs, hw⟩ := hq
  exact fun a w' hw' hF => h2 y hy a w' (hw' ▸ hw) (hF.sub hs)
theorem done_join {ι : Type} {E : ι → Env} {SI : ι → World → Prop} {ok : ι → Prop} (y : ι) (hy : ok y) (hs : Env.sub (E y) e) (hS : ∀ w, S w → SI y w) : Done .normal e S (Join E SI ok Q) := fun w hw => ⟨y, hy, hs, hS w hw⟩
end
end Go.Ab
