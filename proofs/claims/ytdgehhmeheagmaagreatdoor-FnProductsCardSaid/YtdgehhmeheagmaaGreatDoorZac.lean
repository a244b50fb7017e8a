/- Part 3 of the texts on which the law leans, joined: The length of a complex number, as it is computed. No conditions. -/
import Derived.Deep.AppendLies
import Derived.OwnWalk
import Derived.KernelRfl
import Derived.ProofKit
import Derived.OpenShut
import Derived.Deep.Slices
import Derived.Laws.IdiomStrings
import Derived.Test.YtdgehhmeheagmaaGreatDoorZab
namespace Go.Ab
variable {R : World → Prop} [RStab R]
theorem erase_perm {α : Type} : ∀ {l : List α} {i : Nat} (h : i < l.length), (l[i] :: l.eraseIdx i).Perm l
  | a :: l, 0, _ => List.Perm.refl _
  | a :: l, i + 1, h => (List.Perm.swap a (l[i]'(by simpa using h)) (l.eraseIdx i)).trans ((erase_perm (l := l) (i := i) (by simpa using h)).cons a)
/-- The block at some place has turned, no other. -/
theorem StR.updAt {w0 w w' : World} {gs : List Nat} {H : List Ent} {i : Nat} {e e' : Ent} (h : StR R w0 gs H w) (hi : H[i]? = some e) (hw : Mod w w' [e.g]) (hg : e'.g = e.g ∨ w.heap.size ≤ e'.g) (ho : OwnE w' e') : StR R w0 gs (H.set i e') w' := by
  obtain ⟨hlt, rfl⟩ := List.getElem?_eq_some_iff.1 hi
  have hp : (H[i] :: H.eraseIdx i).Perm H := erase_perm hlt
  have h1 : StR R w0 gs ([H[i]] ++ H.eraseIdx i) w := h.perm hp
  have h2 : StR R w0 gs ([e'] ++ H.eraseIdx i) w' := h1.call hw (fun x hx => by
    have : x = e' := by simpa using hx
    subst this
    exact ⟨ho, by rcases hg with hg | hg; exact .inl (by simp [hg]); exact .inr hg⟩) (by simp)
  refine h2.perm ?_
  have hlt' : i < (H.set i e').length := by simpa using hlt
  have hp' : ((H.set i e')[i] :: (H.set i e').eraseIdx i).Perm (H.set i e') := erase_perm hlt'
  rw [List.getElem_set_self, List.eraseIdx_set_eq] at hp'
  exact hp'.symm

section
variable {P : Program} {N : Nat} {S : World → Prop} {e : Env} {Q : Exit → Env → World → Prop} {ops : Array Oper} {l : List Oper} {o : Oper}
variable {w0 : World} {gs : List Nat} {H : List Ent} {dst : Option Tmp} {ty : TypeId} {pos : String} {after : Array Edge} {guard : Option (Nat × Bool)}
theorem rs_storeAt (k : Nat) {en : Ent} {i : Nat} {t : TypeId} {z : Value} {b : Nat} [hi : TyI P t z 1 b] {A X : Operand} {x : AV} (hA : e.ev A = some (.raw (.pointer (some ⟨en.g, i, none⟩)))) (hx : e.ev X = some x) (h1 : oneAV x = true) (hH : H[k]? = some en) (hi' : i < en.csz)
    (hk : RS P N ops l e.keep (StR R w0 gs (H.set k { en with xs := en.xs.set i x })) Q) :
    RS P N ops (⟨none, .store t A X, ty, pos, after, none⟩ :: l) e (StR R w0 gs H) Q := by
  intro a w hS hF
  refine wpList_plain rfl fun K hK => ?_
  have h2 := (hF.eval hA).inv_raw
  have hr := hF.eval hx
  obtain ⟨hc, ho, hst⟩ := oneAV_spec h1 hr
  have hmem : en ∈ H := List.mem_of_getElem? hH
  have hown := (hS.own en hmem).2
  obtain ⟨cur, hb, hcs, _⟩ := hown
  have hcell : w.cell? ⟨en.g, i, none⟩ = some (cur[i]'(by omega)) := by simp [World.cell?, hb, hcs, hi']
  have hfr := OwnE.frozen (hS.own en hmem).2 i
  have hrun : (execOp a.eval ⟨none, .store t A X, ty, pos, after, none⟩).run P w = .ok .skip (w.setCell ⟨en.g, i, none⟩ (a.eval X)) := by
    have hst : (store ⟨en.g, i, none⟩ (a.eval X)).run P w = .ok () (w.setCell ⟨en.g, i, none⟩ (a.eval X)) := by
      rw [run_store P w _ _ _ ho, hcell]; simp [hfr]
    have hadd : (⟨en.g, i, none⟩ : Addr).add 0 = ⟨en.g, i, none⟩ := rfl
    simp [execOp, h2, Instr.storeAt, Instr.sureAddr, storeVar, run_size hi, hc, storeCells, hadd, hst]
  unfold Oper.wp
  rw [hrun]
  exact hK _ _ (hk _ _ (hS.updAt hH (mod_setCell w en.g i _) (.inl rfl) (own_setCell (hS.own en hmem).2 hi' (hr.ev hst))) hF.keep)
/-- A literal of one-cell elements in a block of its own. -/
theorem rs_litO {d : Tmp} {t el : TypeId} {z : Value} {b n : Nat} {parts : Array (Nat × Operand)} {Xs : List Operand} {xs : List AV} [hu : TyU P t (.slice el)] [hi : TyI P el z 1 b] (hd : Nat.blt d N = true)
    (hp : parts.toList = (List.range' 0 Xs.length).zip Xs) (hn : n = Xs.length) (hx : evL e Xs = some xs) (h1 : xs.all isOne = true) (hb : Nat.ble n 1000 = true)
    (hk : ∀ g, RS P N ops l ((d, .raw (.slice (some ⟨g, 0, none⟩) n n)) :: e) (StR R w0 gs (⟨g, el, xs, n⟩ :: H)) Q) :
    RS P N ops (⟨some d, .buildSlice t n parts, ty, pos, after, none⟩ :: l) e (StR R w0 gs H) Q := by
  refine rs_fresh (val := fun g => .raw (.slice (some ⟨g, 0, none⟩) n n)) (en := fun g => ⟨g, el, xs, n⟩) hd (fun _ => rfl) (fun a w hS hF => ?_) hk
  subst hn
  have hb' := Nat.le_of_ble_eq_true hb
  obtain ⟨i, hi1, hz1, hs1, hb1⟩ := hi.h
  have hrl : RelL w xs (Xs.map a.eval) := evL_rel hx fun X _ y hy => hF.eval hy
  have hlen : (Xs.map a.eval).length = xs.length := hrl.length
  have hlx : xs.length = Xs.length := by simpa using hlen.symm
  have hcells : ∀ v ∈ Xs.map a.eval, v.cells = #[v] := fun v hv => by
    obtain ⟨k, hk, rfl⟩ := List.mem_iff_getElem.1 hv
    obtain ⟨u, hu', hr⟩ := hrl.get (i := k) (a := xs[k]'(by omega)) (by simp)
    rw [List.getElem?_eq_getElem hk] at hu'
    cases hu'
    exact isOne_cells (List.all_eq_true.1 h1 _ (List.getElem_mem _)) hr
  have hfill : ∀ zc : Array Value, Instr.fill (fun i => some (i * 1, 1)) ((Array.range (Xs.length * 1)).map (zc[· % zc.size]!)) (parts.map fun (i, x) => (i, a.eval x)).toList = some (Xs.map a.eval).toArray := fun zc => by
    rw [Array.toList_map, hp]
    have hf := fill_row (Xs.map a.eval) 0 ((Array.range (Xs.length * 1)).map (zc[· % zc.size]!)) hcells (by simp)
    have e1 : ((List.range' 0 Xs.length).zip Xs).map (fun (x : Nat × Operand) => (x.1, a.eval x.2)) = (List.range' 0 (Xs.map a.eval).length).zip (Xs.map a.eval) := by
      rw [List.length_map, List.zip_map_right]
      rfl
    rw [show (fun (x : Nat × Operand) => match x with | (i, x) => (i, a.eval x)) = fun (x : Nat × Operand) => (x.1, a.eval x.2) from rfl, e1, hf]
    simp
  have hrun : (Instr.buildSlice t Xs.length (parts.map fun (i, x) => (i, a.eval x))).run P w = .ok (.slice (some ⟨w.heap.size, 0, none⟩) Xs.length Xs.length) (w.alloc (.cells (Xs.map a.eval).toArray el)) := by
    rcases Nat.eq_zero_or_pos Xs.length with h0 | h0
    · have hX : Xs = [] := List.eq_nil_of_length_eq_zero h0
      subst hX
      have hpe : parts = #[] := by
        apply Array.toList_inj.1
        rw [hp]; rfl
      subst hpe
      have hr0 : (Array.range 0) = (#[] : Array Nat) := rfl
      simp [Instr.buildSlice, run_underlying hu.h, sizeOf, typeInfo, hi1, newRow, Instr.fill, hr0]
    · have := run_buildSlice (P := P) w t el Xs.length (parts.map fun (i, x) => (i, a.eval x)) (Xs.map a.eval).toArray i z hu.h hi1 hz1 (by rw [hs1]; omega) (by rw [hs1]; omega) (by rw [hs1]; exact hfill z.cells)
      exact this
  refine ⟨w.heap.size, _, _, by simp only [execOp, Sem.run_bind, hrun, Result.andThen_ok]; rfl, ev_raw _, Ext.alloc _ _, Nat.le_refl _, ?_⟩
  have ho := ext_alloc_own (w := w) (T := el) (xs := xs) (cs := (Xs.map a.eval).toArray) (fun k x hk => by
    obtain ⟨u, hu', hr⟩ := hrl.get hk
    exact ⟨u, by simpa using hu', isOne_ev (List.all_eq_true.1 h1 _ (List.mem_of_getElem? hk)) hr⟩)
  have hsz : (Xs.map a.eval).toArray.size = Xs.length := by simp
  rw [hsz] at ho
  exact ho

theorem rs_litP {d : Tmp} {t el : TypeId} {z : Value} {b n : Nat} {parts : Array (Nat × Operand)} {xs : List AV} [hu : TyU P t (.slice el)] [hi : TyI P el z 1 b] (hd : Nat.blt d N = true)
    (hx : evL e (parts.toList.map (·.2)) = some xs) (hp : parts.toList = (List.range' 0 (parts.toList.map (·.2)).length).zip (parts.toList.map (·.2))) (hn : n = (parts.toList.map (·.2)).length) (h1 : xs.all isOne = true) (hb : Nat.ble n 1000 = true)
    (hk : ∀ g, RS P N ops l ((d, .raw (.slice (some ⟨g, 0, none⟩) n n)) :: e) (StR R w0 gs (⟨g, el, xs, n⟩ :: H)) Q) :
    RS P N ops (⟨some d, .buildSlice t n parts, ty, pos, after, none⟩ :: l) e (StR R w0 gs H) Q := rs_litO hd hp hn hx h1 hb hk

theorem zco {t el : TypeId} {z : Value} {b n : Nat} {parts : Array (Nat × Operand)} {xs : List AV} [hu : TyU P t (.slice el)] [hi : TyI P el z 1 b]
    (hx : evL e (parts.toList.map (·.2)) = some xs) (hp : parts.toList = (List.range' 0 (parts.toList.map (·.2)).length).zip (parts.toList.map (·.2))) (hn : n = (parts.toList.map (·.2)).length) (h1 : xs.all isOne = true) (h0 : Nat.blt 0 n = true) (hb : Nat.ble n 1000 = true) :
    OpJ P S e ⟨dst, .buildSlice t n parts, ty, pos, after, guard⟩ (AV.lit xs) := opj_lit hp hn hx h1 h0 hb

/-- 'append' of such elements to a list of the call's own. -/
theorem rs_append (k : Nat) {d : Tmp} {A B : Operand} {g n cap : Nat} {xs ys : List AV} {t el : TypeId} {z : Value} {b : Nat} [hu : TyU P t (.slice el)] [hi : TyI P el z 1 b] (hd : Nat.blt d N = true)
    (hA : e.ev A = some (.raw (.slice (some ⟨g, 0, none⟩) n cap))) (hB : ∃ y, e.ev B = some y ∧ ∀ w v, StR R w0 gs H w → Rel w y v → Rd w 1 v ys) (hH : H[k]? = some ⟨g, el, xs, cap⟩) (hn : xs.length = n ∧ n ≤ cap ∧ cap ≤ maxLen)
    (h0 : 1 ≤ ys.length) (h1 : ys.all isOne = true) (hm : n + ys.length ≤ maxLen) (hby : (n + ys.length) * b ≤ 140737488355328) (hzc : z.cells.size = 1)
    (hk : ∀ g' cap', n + ys.length ≤ cap' → cap' ≤ maxLen → RS P N ops l ((d, .raw (.slice (some ⟨g', 0, none⟩) (n + ys.length) cap')) :: e.keep) (StR R w0 gs (H.set k ⟨g', el, xs ++ ys, cap'⟩)) Q) :
    RS P N ops (⟨some d, .call { callee := .builtin .append, args := #[A, B], argTypes := #[t, t] }, ty, pos, after, none⟩ :: l) e (StR R w0 gs H) Q := by
  intro a w hS hF
  refine wpList_plain rfl fun K hK => ?_
  have hA' := (hF.eval hA).inv_raw
  obtain ⟨y, hy, hrd⟩ := hB
  obtain ⟨ad, m, c, hB', hl, _, _, hcells⟩ := hrd w _ hS (hF.eval hy)
  rw [Nat.mul_one] at hl
  obtain ⟨bb, had, hsp, _⟩ := hcells 0 _ (List.getElem?_eq_getElem (by omega))
  subst had
  obtain ⟨i, hi1, hz1, hs1, hb1⟩ := hi.h
  have hmem : (⟨g, el, xs, cap⟩ : Ent) ∈ H := List.mem_of_getElem? hH
  obtain ⟨cur, hcur, hcsz, hcx⟩ := (hS.own _ hmem).2
  obtain ⟨hxn, hnc, hcm⟩ := hn
  have hown : w.ownsRow 0 el 1 (.slice (some ⟨g, 0, none⟩) n cap) n (cur.toList.take n) := by
    refine ⟨by simp only [List.length_take, Array.length_toList, hcsz]; omega, .inr ⟨g, cap, cur, rfl, Nat.zero_le _, hcur, hnc, hcm, by simpa using hcsz, by simp⟩⟩
  -- what is to be appended
  have hnews : ∃ news : List Value, news.length = ys.length ∧ ∀ (j : Nat) (u : Value), news[j]? = some u → w.cell? (bb.add j) = some u ∧ ∃ y, ys[j]? = some y ∧ isOne y = true ∧ Ev y u := by
    have hex : ∀ k, k ≤ ys.length → ∃ news : List Value, news.length = k ∧ ∀ (j : Nat) (u : Value), news[j]? = some u → w.cell? (bb.add j) = some u ∧ ∃ y, ys[j]? = some y ∧ isOne y = true ∧ Ev y u := by
      intro k
      induction k with
      | zero => intro _; exact ⟨[], rfl, fun j u h => by simp at h⟩
      | succ k ih =>
        intro hk
        obtain ⟨news, hln, hall⟩ := ih (by omega)
        have hy' : ys[k]? = some (ys[k]'(by omega)) := List.getElem?_eq_getElem (by omega)
        obtain ⟨b', hb', hsp', u, hu', hev⟩ := hcells k _ hy'
        cases hb'
        refine ⟨news ++ [u], by simp [hln], fun j v hj => ?_⟩
        rcases Nat.lt_or_ge j k with h | h
        · rw [List.getElem?_append_left (by omega)] at hj; exact hall j v hj
        · have hjk : j = k := by
            have := (List.getElem?_eq_some_iff.1 hj).1
            simp only [List.length_append, hln, List.length_cons, List.length_nil] at this
            omega
          subst hjk
          rw [List.getElem?_append_right (by omega), hln, Nat.sub_self] at hj
          cases hj
          exact ⟨by rw [addr_add bb hsp]; exact hu', _, hy', List.all_eq_true.1 h1 _ (List.getElem_mem _), hev⟩
    exact hex _ (Nat.le_refl _)
  obtain ⟨news, hln, hnw⟩ := hnews
  have hone : ∀ u ∈ news, u.oneCell' = true := fun u hu => by
    obtain ⟨j, hj⟩ := List.mem_iff_getElem?.1 hu
    obtain ⟨_, y, _, hy1, hev⟩ := hnw j u hj
    exact (oneAV_spec hy1 (hev w)).2.1
  obtain ⟨g', cap', w', hr, hown', hgrow, hat, hlt⟩ := run_append_lies (P := P) w t ty 0 el i z 1 b hu.h hi1 hz1 hs1 hb1 hzc (by omega) (.slice (some ⟨g, 0, none⟩) n cap) n (cur.toList.take n) hown
    bb m c news (by omega) (fun j u hj => (hnw j u hj).1) hone (by omega) (by omega) (by rw [← hl]; exact hby) (Nat.zero_le _) _ rfl
  obtain ⟨hlx, hown'⟩ := hown'
  obtain ⟨g2, cap2, cur2, he2, _, hh2, hnc2, hcm2, hcs2, htk⟩ : ∃ g cap, ∃ X : Array Value, Value.slice (some ⟨g', 0, none⟩) (n + m) cap' = .slice (some ⟨g, 0, none⟩) (n + m) cap ∧ 0 ≤ g ∧ w'.heap[g]? = some (.cells X el (0, 0)) ∧ n + m ≤ cap ∧ cap ≤ maxLen ∧ X.size = cap * 1 ∧ X.toList.take ((n + m) * 1) = X.toList.take ((n + m) * 1) ∧ X.toList.take ((n + m) * 1) = cur.toList.take n ++ news := by
    rcases hown' with ⟨h, _⟩ | ⟨g, cap, cur, h1, h2, h3, h4, h5, h6, h7⟩
    · cases h
    · exact ⟨g, cap, cur, h1, h2, h3, h4, h5, h6, rfl, h7⟩
  obtain ⟨_, htk⟩ := htk
  cases he2
  have hmy : m = ys.length := hl.symm
  subst hmy
  have hmod : Mod w w' [g] := ⟨hgrow.os, hgrow.tape, hgrow.output, hgrow.size, fun k hk hne => hgrow.block k hk (by simp [Value.ownBlock]; simpa using hne)⟩
  have ho' : OwnE w' ⟨g', el, xs ++ ys, cap'⟩ := by
    refine ⟨cur2, hh2, by simpa using hcs2, fun j x hj => ?_⟩
    have htj : ∀ v, (cur.toList.take n ++ news)[j]? = some v → cur2[j]? = some v := fun v hv => by
      rw [← htk, List.getElem?_take] at hv
      split at hv
      · simpa using hv
      · cases hv
    have hlt' : (cur.toList.take n).length = n := by simp only [List.length_take, Array.length_toList, hcsz]; omega
    rcases Nat.lt_or_ge j n with h | h
    · rw [List.getElem?_append_left (by omega)] at hj
      obtain ⟨u, hu', hev⟩ := hcx j x hj
      refine ⟨u, htj u ?_, hev⟩
      rw [List.getElem?_append_left (by omega), List.getElem?_take, if_pos h]
      simpa using hu'
    · rw [List.getElem?_append_right (by omega), hxn] at hj
      have hj' : j - n < news.length := by rw [hln]; exact (List.getElem?_eq_some_iff.1 hj).1
      obtain ⟨_, y, hy', _, hev⟩ := hnw (j - n) _ (List.getElem?_eq_getElem hj')
      rw [hj] at hy'
      cases hy'
      refine ⟨_, htj _ ?_, hev⟩
      rw [List.getElem?_append_right (by omega), hlt', List.getElem?_eq_getElem hj']
  unfold Oper.wp
  have hrun : (execOp a.eval ⟨some d, .call { callee := .builtin .append, args := #[A, B], argTypes := #[t, t] }, ty, pos, after, none⟩).run P w = .ok (.value (.slice (some ⟨g', 0, none⟩) (n + ys.length) cap')) w' := by
    simp only [execOp, resolve, invoke, builtin, Sem.run_bind, Sem.run_pure, Result.andThen_ok, List.map_toArray, List.map_cons, List.map_nil, hA', hB', hr]
  rw [hrun]
  refine hK _ _ (hk g' cap' hnc2 hcm2 _ w' (hS.updAt hH hmod ?_ ho') (Fr.put (some d) hF.keep (fun _ h => by cases h; exact Nat.le_of_ble_eq_true hd) .raw))
  rcases hat with h | h
  · left
    have : g = g' := by simpa [Value.ownBlock] using h
    exact this.symm
  · right; simp only; omega
/-- A call that turns the owned block at some place. -/
theorem rs_callAt (k : Nat) {X : Type} {A : World → List AV} {mk : X → AV} {good : X → Prop} {c : FuncId} {xs : List Operand} {F : Operand} {args : List AV} {d : Tmp} {ts : Array TypeId} [hb : HasBody P c] {en : Ent} {en' : X → Ent}
    (hc : FnH P c A [en] mk (fun y => [en' y]) good) (hH : H[k]? = some en) (hF : e.ev F = some (.raw (.func (.func c) #[] #[]))) (hx : evL e xs = some args) (ht : Takes (StR R w0 gs H) args A) (hd : Nat.blt d N = true)
    (h : ∀ y, good y → RS P N ops l ((d, mk y) :: e.keep) (StR R w0 gs (H.set k (en' y))) Q) :
    RS P N ops (⟨some d, .call { callee := .value F, args := xs.toArray, argTypes := ts }, ty, pos, after, none⟩ :: l) e (StR R w0 gs H) Q := by
  obtain ⟨hlt, hen⟩ := List.getElem?_eq_some_iff.1 hH
  have hp : (en :: H.eraseIdx k).Perm H := by
    have := erase_perm hlt
    rw [hen] at this
    exact this
  refine RS.perm (rs_call (pre := [en]) (H := H.eraseIdx k) hc hF hx (fun w vs hS hr => ht w vs (hS.perm hp.symm) hr) hd fun y hy => ?_) hp
  refine RS.perm (h y hy) ?_
  have hlt' : k < (H.set k (en' y)).length := by simpa using hlt
  have hp' := erase_perm hlt'
  rw [List.getElem_set_self, List.eraseIdx_set_eq] at hp'
  exact hp'.symm
theorem zae {t : TypeId} {X : Operand} (h : RS P N ops (⟨dst, .load t X, ty, pos, after, guard⟩ :: l) e S Q) : RS P N ops (⟨dst, .load t X, ty, pos, after, guard⟩ :: l) e S Q := h
theorem zaf {t : TypeId} {X I : Operand} (h : RS P N ops (⟨dst, .indexAddr t X I, ty, pos, after, guard⟩ :: l) e S Q) : RS P N ops (⟨dst, .indexAddr t X I, ty, pos, after, guard⟩ :: l) e S Q := h
theorem zag {t : TypeId} {X Y : Operand} (h : RS P N ops (⟨dst, .store t X Y, ty, pos, after, guard⟩ :: l) e S Q) : RS P N ops (⟨dst, .store t X Y, ty, pos, after, guard⟩ :: l) e S Q := h
theorem zat {K : Env → Prop} {t : TypeId} {X : Operand} (h : Run1 P N S ops (⟨dst, .load t X, ty, pos, after, guard⟩ :: l) e K) : Run1 P N S ops (⟨dst, .load t X, ty, pos, after, guard⟩ :: l) e K := h
theorem zau {K : Env → Prop} {t : TypeId} {X I : Operand} (h : Run1 P N S ops (⟨dst, .indexAddr t X I, ty, pos, after, guard⟩ :: l) e K) : Run1 P N S ops (⟨dst, .indexAddr t X I, ty, pos, after, guard⟩ :: l) e K := h
theorem Takes.ownE {R0 : World → Prop} {g n cap sz : Nat} {xs : List AV} {args : List AV} {A : World → List AV} (hm : ∃ T c, (⟨g, T, xs, c⟩ : Ent) ∈ H) (hn : xs.length = n * sz) (hc : n ≤ cap) (hx : cap ≤ maxLen) (h : Takes (StR R0 w0 gs H) args A) :
    Takes (StR R0 w0 gs H) (.raw (.slice (some ⟨g, 0, none⟩) n cap) :: args) (fun w => AV.sl w sz xs :: A w) := by
  obtain ⟨T, c, hm⟩ := hm
  exact Takes.own hm hn hc hx h
end
end Go.Ab
namespace Go.Ab
variable {R : World → Prop} [RStab R]
section
variable {P : Program} {N : Nat} {S : World → Prop} {e : Env} {Q : Exit → Env → World → Prop} {ops : Array Oper} {l : List Oper}
variable {w0 : World} {gs : List Nat} {H : List Ent} {dst : Option Tmp} {ty : TypeId} {pos : String} {after : Array Edge} {guard : Option (Nat × Bool)}
theorem opj_neg {t : TypeId} {X : Operand} {k : FloatKind} {x : FV} (hx : e.ev X = some (.f k x)) : OpJ P S e ⟨dst, .unOp .neg t X, ty, pos, after, guard⟩ (.f k (fneg k x)) :=
  opj_value fun a w _ h => by
    obtain ⟨b, h1, e1, hb⟩ := (h X (by simp [Op.operands]) _ hx).inv_f
    refine ⟨.float k (negBits k b), w, ?_, Ext.refl _, Rel.f' (negBits_lt k hb) (by rw [fv_negBits, e1])⟩
    simp [execOp, h1, Op.unary, Op.negFloat, negBits]
theorem opj_caddsub {op : BinOp} (hop : op = .add ∨ op = .sub) {t t' : TypeId} {X Y : Operand} {k : FloatKind} {x y x' y' : FV} (hx : e.ev X = some (.c k x y)) (hy : e.ev Y = some (.c k x' y')) :
    OpJ P S e ⟨dst, .binOp op t X Y t', ty, pos, after, guard⟩ (.c k (fbin op k x x') (fbin op k y y')) :=
  opj_value fun a w _ h => by
    obtain ⟨p, q, h1, e1, e2, hp, hq⟩ := (h X (by simp [Op.operands]) _ hx).inv_c
    obtain ⟨p', q', h2, e1', e2', hp', hq'⟩ := (h Y (by simp [Op.operands]) _ hy).inv_c
    have ha : isArith op = true := by rcases hop with rfl | rfl <;> rfl
    obtain ⟨r, w1, hr, hq1, hv, hl⟩ := run_farith P w op ha k p p'
    obtain ⟨r2, w2, hr2, hq2, hv2, hl2⟩ := run_farith P w1 op ha k q q'
    refine ⟨.complex k r r2, w2, ?_, (Ext.of_quiet hq1).trans (Ext.of_quiet hq2), Rel.c' hl hl2 (by rw [hv, e1, e1']) (by rw [hv2, e2, e2'])⟩
    rcases hop with rfl | rfl <;> simp [execOp, h1, h2, eqGuard, binOp, Op.complexOp, Op.Complex.arith, hr, hr2]
theorem opj_cadd {t t' : TypeId} {X Y : Operand} {k : FloatKind} {x y x' y' : FV} (hx : e.ev X = some (.c k x y)) (hy : e.ev Y = some (.c k x' y')) :
    OpJ P S e ⟨dst, .binOp .add t X Y t', ty, pos, after, guard⟩ (.c k (fbin .add k x x') (fbin .add k y y')) := opj_caddsub (.inl rfl) hx hy
theorem run_ccmp (w : World) (k : FloatKind) (a b : Nat) : (Op.Complex.cmp .eql k a b).run P w = .ok (cmpB .eql (fcmp k (fv k a) (fv k b))) w := by
  rw [fcmp_fv]
  simp [Op.Complex.cmp, Op.floatCmp, asBool, cmpB]
theorem opj_cneq {t t' : TypeId} {X Y : Operand} {k : FloatKind} {x y x' y' : FV} (hx : e.ev X = some (.c k x y)) (hy : e.ev Y = some (.c k x' y')) :
    OpJ P S e ⟨dst, .binOp .neq t X Y t', ty, pos, after, guard⟩ (.raw (.bool (!(cmpB .eql (fcmp k x x') && cmpB .eql (fcmp k y y'))))) :=
  opj_value fun a w _ h => by
    obtain ⟨p, q, h1, e1, e2, hp, hq⟩ := (h X (by simp [Op.operands]) _ hx).inv_c
    obtain ⟨p', q', h2, e1', e2', hp', hq'⟩ := (h Y (by simp [Op.operands]) _ hy).inv_c
    refine ⟨_, w, ?_, Ext.refl _, .raw⟩
    rw [← e1, ← e2, ← e1', ← e2']
    cases hc : cmpB .eql (fcmp k (fv k p) (fv k p')) <;> simp [execOp, h1, h2, eqGuard, binOp, Op.complexOp, run_ccmp, hc]
def Join {ι : Type} (E : ι → Env) (SI : ι → World → Prop) (ok : ι → Prop) (Q : Exit → Env → World → Prop) : Exit → Env → World → Prop
  | .normal, e, w => ∃ y, ok y ∧ Env.sub (E y) e ∧ SI y w
  | x, e, w => Q x e w
theorem ws_thenJ {ι : Type} (E : ι → Env) (SI : ι → World → Prop) (ok : ι → Prop) {c d : Code} (h1 : WS P N c e S (Join E SI ok Q)) (h2 : ∀ y, ok y → WS P N d (E y) (SI y) Q) : WS P N c e S (Then P N d Q) := by
  refine h1.mono fun x e' w hq => ?_
  cases x <;> first | exact hq | skip
  obtain ⟨y, hy, hs, hw⟩ := hq
  exact fun a w' hw' hF => h2 y hy a w' (hw' ▸ hw) (hF.sub hs)
theorem done_join {ι : Type} {E : ι → Env} {SI : ι → World → Prop} {ok : ι → Prop} (y : ι) (hy : ok y) (hs : Env.sub (E y) e) (hS : ∀ w, S w → SI y w) : Done .normal e S (Join E SI ok Q) := fun w hw => ⟨y, hy, hs, hS w hw⟩
end
end Go.Ab
namespace Go.Ab
variable {R : World → Prop} [RStab R]
/-- Field k of a struct lies at cell off. -/
class TyF (P : Program) (t : TypeId) (k : Nat) (off : outParam Nat) : Prop where
  h : ∃ fs f i, P.underlying t = some (.struct fs) ∧ fs[k]? = some f ∧ f.offset = off ∧ P.info? f.type = some i ∧ (i.size == 0) = false

section
variable {P : Program} {N : Nat} {S : World → Prop} {e : Env} {Q : Exit → Env → World → Prop} {ops : Array Oper} {l : List Oper} {o : Oper}
variable {w0 : World} {gs : List Nat} {H : List Ent} {dst : Option Tmp} {ty : TypeId} {pos : String} {after : Array Edge} {guard : Option (Nat × Bool)}
theorem run_fieldAt {t : TypeId} {k off : Nat} [hf : TyF P t k off] (w : World) (a : Addr) : (Instr.fieldAt t (.pointer (some a)) k).run P w = .ok (.pointer (some (a.add off))) w := by
  obtain ⟨fs, f, i, h1, h2, h3, h4, h5⟩ := hf.h
  have h5' : ¬ i.size = 0 := by simpa using h5
  simp [Instr.fieldAt, run_underlying h1, h2, Instr.sureAddr, fieldPlace, sizeOf, typeInfo, h4, h5', h3]
theorem zcd {t : TypeId} {X : Operand} {k off g i : Nat} [hf : TyF P t k off] (hx : e.ev X = some (.raw (.pointer (some ⟨g, i, none⟩)))) :
    OpJ P S e ⟨dst, .fieldAddr t X k, ty, pos, after, guard⟩ (.raw (.pointer (some ⟨g, i + off, none⟩))) :=
  opj_value fun a w _ h => by
    have h1 := (h X (by simp [Op.operands]) _ hx).inv_raw
    refine ⟨_, w, ?_, Ext.refl _, .raw⟩
    have hr := run_fieldAt (P := P) (t := t) (k := k) w ⟨g, i, none⟩
    rw [addr_add _ rfl] at hr
    simp [execOp, h1, hr]
theorem zcf {R0 : World → Prop} {X : Operand} {x : AV} {g i c : Nat} {T : TypeId} {xs : List AV} {t : TypeId} {d : TypeDesc} [hd : TyU P t d] (ha : aggD d = false)
    (hx : e.ev X = some (.raw (.pointer (some ⟨g, i, none⟩)))) (hm : (⟨g, T, xs, c⟩ : Ent) ∈ H) (h0 : xs[i]? = some x) : OpJ P (StR R0 w0 gs H) e ⟨dst, .load t X, ty, pos, after, guard⟩ x :=
  opj_load_own (en := ⟨g, T, xs, c⟩) ha hx hm h0
theorem zam (k : Nat) {g i c : Nat} {T : TypeId} {xs ys : List AV} {t : TypeId} {z : Value} {b : Nat} [hi : TyI P t z 1 b] {A X : Operand} {x : AV} (hA : e.ev A = some (.raw (.pointer (some ⟨g, i, none⟩)))) (hx : e.ev X = some x) (h1 : oneAV x = true) (hH : H[k]? = some ⟨g, T, xs, c⟩) (hi' : Nat.blt i c = true) (hy : xs.set i x = ys)
    (hk : RS P N ops l e.keep (StR R w0 gs (H.set k ⟨g, T, ys, c⟩)) Q) :
    RS P N ops (⟨none, .store t A X, ty, pos, after, none⟩ :: l) e (StR R w0 gs H) Q := by
  subst hy
  exact rs_storeAt k (en := ⟨g, T, xs, c⟩) hA hx h1 hH (Nat.le_of_ble_eq_true hi') hk
end
end Go.Ab
namespace Go.Ab
open Go.Proofs
instance tf76_0 : TyF Tryz.prog 76 0 0 := ⟨⟨Tryz.prog.fieldsOf 75, (Tryz.prog.fieldsOf 75)[0]?.getD default, (Tryz.prog.info? ((Tryz.prog.fieldsOf 75)[0]?.getD default).type).getD default, by kernel_rfl, by kernel_rfl, by kernel_rfl, by kernel_rfl, by kernel_rfl⟩⟩
instance tf76_1 : TyF Tryz.prog 76 1 1 := ⟨⟨Tryz.prog.fieldsOf 75, (Tryz.prog.fieldsOf 75)[1]?.getD default, (Tryz.prog.info? ((Tryz.prog.fieldsOf 75)[1]?.getD default).type).getD default, by kernel_rfl, by kernel_rfl, by kernel_rfl, by kernel_rfl, by kernel_rfl⟩⟩
instance tf76_2 : TyF Tryz.prog 76 2 2 := ⟨⟨Tryz.prog.fieldsOf 75, (Tryz.prog.fieldsOf 75)[2]?.getD default, (Tryz.prog.info? ((Tryz.prog.fieldsOf 75)[2]?.getD default).type).getD default, by kernel_rfl, by kernel_rfl, by kernel_rfl, by kernel_rfl, by kernel_rfl⟩⟩
end Go.Ab
namespace Go.Ab
open Go.ChangeShapes Go.WideShapes Go.ChangeAt Go.RowKit
section
variable {H : Type} {enc : TypeId × Value → H} {P : Program}
theorem stays_all (hl : laidOutB P = true) {W W' : World} (hw : Ext W W') : ∀ {ts : List TypeId} {vs : List Value} {ds : List (DataW H)} {ps : List MemPlace}, (∀ t ∈ ts, P.readableRec t = true ∧ t < P.types.size) →
    DataW.TrodAll enc P W 0 (fun _ => true) true ts vs ds ps → (∀ p ∈ ps, p.block < W.heap.size) → ∀ sp : Nat → Bool, (∀ p ∈ ps, sp p.block = true) → DataW.TrodAll enc P W' 0 sp true ts vs ds ps
  | [], vs, ds, ps, _, h, _, sp, _ => by
    obtain ⟨rfl, rfl, rfl⟩ := trodAll_nil h
    exact rfl
  | t :: ts, vs, ds, ps, ht, h, hlt, sp, hsp => by
    obtain ⟨v, vs', d, ds', p, q, rfl, rfl, rfl, h1, h2⟩ := trodAll_cons h
    refine ⟨p, q, ?_, stays_all hl hw (fun t' h' => ht t' (by simp [h'])) h2 (fun x hx => hlt x (by simp [hx])) sp (fun x hx => hsp x (by simp [hx])), rfl⟩
    exact WideElems.Trod_stays hl (ht t (by simp)).1 (ht t (by simp)).2 h1 (fun x hx => RowKit.Below.same hw (hlt x (by simp [hx]))) (fun x hx => hsp x (by simp [hx]))

theorem trod_int1 {W : World} {t : TypeId} {k : IntKind} {sp : Nat → Bool} {hd : Bool} {fuel base : Nat} {cs : List Value} {x : DataW H × List MemPlace} (ht : P.underlying t = some (.int k)) (h : DataW.trod enc P W base sp hd fuel t cs = some x) :
    ∃ n, cs = [.int k n] ∧ k.min ≤ n ∧ n ≤ k.max := by
  cases fuel with
  | zero => simp [DataW.trod] at h
  | succ fuel =>
    unfold DataW.trod at h
    rw [ht] at h
    split at h <;> simp_all
    rename_i k' b hk
    obtain ⟨⟨rfl, hw⟩, _⟩ := h
    simpa [Lit.wf] using hw

theorem spot_of_cell {W : World} {a : Addr} {u : Value} (h : W.cell? a = some u) : a.spot = none := by
  unfold World.cell? at h
  split at h
  · cases hs : a.spot with
    | none => rfl
    | some s => simp [hs] at h
  · cases h
/-- A slice of one-cell elements that came in: each element is as its reading says. -/
theorem open_sl {α : Type} {m : α → AV} {W : World} {t e : TypeId} {v : Value} {d : DataW H} {p : List MemPlace} {base b2 : Nat} {sp : Nat → Bool} {hd : Bool} [ht : TyU P t (.slice e)] (hc : P.cellsOf e = 1)
    (helem : ∀ (n : Nat) (u : Value) (y : DataW H × List MemPlace), DataW.trod enc P W base sp hd n e [u] = some y → ∃ x : α, Ev (m x) u)
    (hval : Value.okWide P W .any b2 t v) (h : DataW.Trod enc P W base sp hd t v d p) : ∃ L : List α, Rd W 1 v (L.map m) := by
  obtain ⟨a0, n0, c0, rfl⟩ := okWide_slice ht.h hval
  obtain ⟨fuel, h⟩ := h
  rcases Deep.open_slice1 ht.h hc h with ⟨hcs, _⟩ | ⟨a, len, cap, mm, n, V, D, Pl, hcs, _, hl, hm, hmm, _, hx⟩
  · simp [Value.cells] at hcs
    obtain ⟨rfl, rfl, rfl⟩ := hcs
    exact ⟨[], none, 0, 0, rfl, rfl, Nat.le_refl _, by simp [maxLen], fun i x hi => by simp at hi⟩
  · simp [Value.cells] at hcs
    obtain ⟨rfl, rfl, rfl⟩ := hcs
    have hle : n0 ≤ mm := by rw [hmm]; split <;> omega
    have hex : ∀ k, k ≤ n0 → ∃ L : List α, L.length = k ∧ ∀ i x, L[i]? = some x → Ev (m x) (V i) := by
      intro k
      induction k with
      | zero => intro _; exact ⟨[], rfl, fun i x hi => by simp at hi⟩
      | succ k ih =>
        intro hk
        obtain ⟨L, hL, hall⟩ := ih (by omega)
        obtain ⟨x, hxk⟩ := helem _ _ _ (hx k (by omega)).2
        refine ⟨L ++ [x], by simp [hL], fun i y hi => ?_⟩
        rcases Nat.lt_or_ge i k with hik | hik
        · rw [List.getElem?_append_left (by omega)] at hi; exact hall i y hi
        · rw [List.getElem?_append_right (by omega)] at hi
          have : i - L.length = 0 := by
            false_or_by_contra
            rename_i hne
            rw [List.getElem?_eq_none (by simp; omega)] at hi
            cases hi
          have hik' : i = k := by omega
          subst hik'
          rw [this] at hi
          simp at hi
          subst hi
          exact hxk
    obtain ⟨L, hL, hall⟩ := hex n0 (Nat.le_refl _)
    refine ⟨L, some a, n0, c0, rfl, by simp [hL], hl, hm, fun i x hi => ?_⟩
    rw [List.getElem?_map] at hi
    obtain ⟨y, hy, rfl⟩ := Option.map_eq_some_iff.1 hi
    have hin : i < n0 := by rw [← hL]; exact (List.getElem?_eq_some_iff.1 hy).1
    have h0 := (hx 0 (by omega)).1
    have hsp : a.spot = none := by
      have := spot_of_cell h0
      simpa [Addr.add] using this
    refine ⟨a, rfl, hsp, V i, ?_, hall i y hy⟩
    have := (hx i (by omega)).1
    rw [addr_add a hsp] at this
    exact this
end
end Go.Ab
namespace Go.Ab
open Go.Proofs
variable {R : World → Prop} [RStab R]
abbrev By := Fin 256
def byA (x : By) : AV := .raw (.int .u8 (x.val : Int))
abbrev slB (w : World) (L : List By) : AV := AV.sl w 1 (L.map byA)
theorem open_slB {H : Type} {enc : TypeId × Value → H} {P : Program} {W : World} {t e : TypeId} {v : Value} {d : DataW H} {p : List MemPlace} {base b2 : Nat} {sp : Nat → Bool} {hd : Bool} [ht : TyU P t (.slice e)] [he : TyU P e (.int .u8)] (hc : P.cellsOf e = 1)
    (hval : Value.okWide P W .any b2 t v) (h : DataW.Trod enc P W base sp hd t v d p) : ∃ L : List By, Rel W (slB W L) v := by
  obtain ⟨L, hL⟩ := open_sl (m := byA) hc (fun n u y hy => by
    obtain ⟨b, hb, h1, h2⟩ := trod_int1 he.h hy
    have hmin : IntKind.u8.min = 0 := by decide
    have hmax : IntKind.u8.max = 255 := by decide
    rw [hmin] at h1
    rw [hmax] at h2
    obtain rfl : u = .int .u8 b := by simpa using hb
    refine ⟨⟨b.toNat, by omega⟩, ?_⟩
    have : (((⟨b.toNat, by omega⟩ : By).val : Nat) : Int) = b := by
      show ((b.toNat : Nat) : Int) = b
      omega
    unfold byA
    rw [this]
    exact fun _ => .raw) hval h
  exact ⟨L, .q hL⟩
section
variable {P : Program} {N : Nat} {S : World → Prop} {e : Env} {Q : Exit → Env → World → Prop} {ops : Array Oper} {l : List Oper}
variable {w0 w1 : World} {gs : List Nat} {H : List Ent} {dst : Option Tmp} {ty : TypeId} {pos : String} {after : Array Edge} {guard : Option (Nat × Bool)}
def KeepW (w1 w0 : World) (gs : List Nat) : Prop := Ext w1 w0 ∧ ∀ g ∈ gs, w1.heap.size ≤ g
theorem StR.extK {R0 : World → Prop} {w : World} (hk : KeepW w1 w0 gs) (h : StR R0 w0 gs H w) : Ext w1 w := by
  obtain ⟨h1, h2⟩ := hk
  refine ⟨h.mod.os.trans h1.os, h.mod.tape.trans h1.tape, h.mod.output.trans h1.output, Nat.le_trans h1.size h.mod.size, fun k hk => ?_⟩
  exact (h.mod.block k (Nat.lt_of_lt_of_le hk h1.size) (fun hm => by have := h2 k hm; omega)).trans (RowKit.Below.block h1 k hk)
theorem opj_lenK {R0 : World → Prop} {α : Type} {m : α → AV} {L : List α} {X : Operand} {t t2 : TypeId} {b : Nat} {z : Value} {el : TypeId} (hk : KeepW w1 w0 gs) [hu : TyU P t (.slice el)] [hi : TyI P el z 1 b] (hx : e.ev X = some (AV.sl w1 1 (L.map m))) :
    OpJ P (StR R0 w0 gs H) e ⟨dst, .call { callee := .builtin .len, args := #[X], argTypes := #[t] }, t2, pos, after, guard⟩ (.raw (.int .i64 (L.length : Int))) :=
  opj_value fun a w hS h => by
    have h1 := ((h X (by simp [Op.operands, Call.operands]) _ hx).inv_q : Rd w1 1 _ _).ext (hS.extK hk)
    obtain ⟨ad, len, cap, hv, hl, _, _, _⟩ := h1
    refine ⟨_, w, ?_, Ext.refl _, .raw⟩
    have : L.length = len := by simpa using hl
    rw [this]
    simp [execOp, resolve, invoke, builtin, Builtin.len_, run_underlying hu.h, hv, goInt]
theorem opj_indexK {R0 : World → Prop} {α : Type} [Inhabited α] {m : α → AV} {L : List α} {X I : Operand} {i : Int} {t : TypeId} {b : Nat} {z : Value} {el : TypeId} (hk : KeepW w1 w0 gs) [hu : TyU P t (.slice el)] [hi : TyI P el z 1 b]
    (hx : e.ev X = some (AV.sl w1 1 (L.map m))) (hI : e.ev I = some (.raw (.int .i64 i))) (h0 : 0 ≤ i) (hlt : i < (L.length : Int)) :
    OpJ P (StR R0 w0 gs H) e ⟨dst, .indexAddr t X I, ty, pos, after, guard⟩ (AV.ptr [m (L.getD i.toNat default)]) :=
  opj_value fun a w hS h => by
    have h1 := ((h X (by simp [Op.operands]) _ hx).inv_q : Rd w1 1 _ _).ext (hS.extK hk)
    have h2 := (h I (by simp [Op.operands]) _ hI).inv_raw
    obtain ⟨ad, len, cap, hv, hl, hc, hm, hr⟩ := h1
    have hlen : L.length = len := by simpa using hl
    have hget : (L.map m)[i.toNat]? = some (m (L.getD i.toNat default)) := by
      have hlt' : i.toNat < L.length := by omega
      simp [List.getD, hlt']
    obtain ⟨bb, hbb, hsp, u, hu', hev⟩ := hr _ _ hget
    subst hbb
    have hil' : i < (len : Int) := by omega
    refine ⟨_, w, ?_, Ext.refl _, .p (mono_ptrTo _) (?_ : PtrTo _ w (.pointer (some (bb.add (i.toNat * 1)))))⟩
    · simp [execOp, h2, hv, Instr.indexAt, asIntOf, run_underlying hu.h, run_size hi, h0, hil']
    · rw [addr_add bb hsp, Nat.mul_one]
      refine ⟨_, rfl, rfl, fun j x hj => ?_⟩
      cases j with
      | succ j => simp at hj
      | zero =>
        simp only [List.getElem?_cons_zero, Option.some.injEq] at hj
        subst hj
        exact ⟨u, hu', hev⟩
/-- What a predicate of the value alone tells. -/
theorem ws_q {c : Code} {t : Nat} {φ : Value → Prop} (h : e.look t = some (.q φ)) (hk : ∀ v, φ v → WS P N c ((t, .raw v) :: e) S Q) : WS P N c e S Q := fun a w hS hF => by
  obtain ⟨u, hu, hr⟩ := hF.rel t _ h
  refine hk u hr.inv_q a w hS ⟨hF.defers, hF.size, fun s v hs => ?_⟩
  simp only [Env.look] at hs
  cases hb : Nat.beq t s with
  | true =>
    have := Nat.eq_of_beq_eq_true hb
    subst this
    simp only [hb, Option.some.injEq] at hs
    subst hs
    exact ⟨u, hu, .raw⟩
  | false =>
    simp only [hb] at hs
    exact hF.rel s v hs
/-- What the state tells of no world. -/
theorem ws_fact {c : Code} {φ : Prop} (hφ : ∀ w, S w → φ) (h : φ → WS P N c e S Q) : WS P N c e S Q := fun a w hS hF => h (hφ w hS) a w hS hF
theorem rs_fact {φ : Prop} (hφ : ∀ w, S w → φ) (h : φ → RS P N ops l e S Q) : RS P N ops l e S Q := fun a w hS hF => h (hφ w hS) a w hS hF
theorem own_new {R0 : World → Prop} {w : World} {en : Ent} (h : StR R0 w0 [] H w) (hm : en ∈ H) : w0.heap.size ≤ en.g := by
  rcases (h.own en hm).1 with h1 | h1
  · cases h1
  · exact h1
theorem opj_intW {op : BinOp} (hop : isArithI op = true) {t t' : TypeId} {X Y : Operand} {k : IntKind} {x y : Int} (hx : e.ev X = some (.raw (.int k x))) (hy : e.ev Y = some (.raw (.int k y))) :
    OpJ P S e ⟨dst, .binOp op t X Y t', ty, pos, after, guard⟩ (.raw (.int k (k.wrap (arithI op x y)))) :=
  opj_value fun a w _ h => by
    have h1 := (h X (by simp [Op.operands]) _ hx).inv_raw
    have h2 := (h Y (by simp [Op.operands]) _ hy).inv_raw
    refine ⟨_, w, ?_, Ext.refl _, .raw⟩
    cases op <;> first | (cases hop; done) | simp [execOp, h1, h2, eqGuard, binOp, Op.intArith, arithI]
theorem opj_mulW {t t' : TypeId} {X Y : Operand} {x y : Int} (hx : e.ev X = some (.raw (.int .u64 x))) (hy : e.ev Y = some (.raw (.int .u64 y))) :
    OpJ P S e ⟨dst, .binOp .mul t X Y t', ty, pos, after, guard⟩ (.raw (.int .u64 (IntKind.u64.wrap (x * y)))) := opj_intW (op := .mul) rfl hx hy
theorem opj_addW {t t' : TypeId} {X Y : Operand} {x y : Int} (hx : e.ev X = some (.raw (.int .u64 x))) (hy : e.ev Y = some (.raw (.int .u64 y))) :
    OpJ P S e ⟨dst, .binOp .add t X Y t', ty, pos, after, guard⟩ (.raw (.int .u64 (IntKind.u64.wrap (x + y)))) := opj_intW (op := .add) rfl hx hy
theorem opj_shrW {t t' : TypeId} {X Y : Operand} {x y : Int} (h0 : 0 ≤ y) (hx : e.ev X = some (.raw (.int .u64 x))) (hy : e.ev Y = some (.raw (.int .u64 y))) :
    OpJ P S e ⟨dst, .binOp .shr t X Y t', ty, pos, after, guard⟩ (.raw (.int .u64 (x.fdiv (2 ^ min y.toNat 64)))) :=
  opj_value fun a w _ h => by
    have h1 := (h X (by simp [Op.operands]) _ hx).inv_raw
    have h2 := (h Y (by simp [Op.operands]) _ hy).inv_raw
    have hb : IntKind.u64.bits = 64 := rfl
    have h3 : ¬ y < 0 := by omega
    exact ⟨_, w, by simp [execOp, h1, h2, eqGuard, binOp, Op.shift, h3, hb], Ext.refl _, .raw⟩
def andW (x y : Int) : Int := IntKind.u64.wrap ((BitVec.ofInt 64 x &&& BitVec.ofInt 64 y).toNat : Int)
theorem opj_andW {t t' : TypeId} {X Y : Operand} {x y : Int} (hx : e.ev X = some (.raw (.int .u64 x))) (hy : e.ev Y = some (.raw (.int .u64 y))) :
    OpJ P S e ⟨dst, .binOp .and t X Y t', ty, pos, after, guard⟩ (.raw (.int .u64 (andW x y))) :=
  opj_value fun a w _ h => by
    have h1 := (h X (by simp [Op.operands]) _ hx).inv_raw
    have h2 := (h Y (by simp [Op.operands]) _ hy).inv_raw
    refine ⟨_, w, ?_, Ext.refl _, .raw⟩
    have hr : (binOp .and t (.int .u64 x) (.int .u64 y)).run P w = .ok (.int .u64 (andW x y)) w := by
      have h3 : (Op.intBits .and .u64 x y).run P w = .ok (.int .u64 (andW x y)) w := rfl
      simpa [binOp] using h3
    simp [execOp, h1, h2, eqGuard, hr]
theorem andW_255 (x : Int) : 0 ≤ andW x 255 ∧ andW x 255 ≤ 255 := by
  unfold andW
  have h1 : (BitVec.ofInt 64 x &&& BitVec.ofInt 64 255).toNat ≤ 255 := by
    have e2 : (BitVec.ofInt 64 255).toNat = 2 ^ 8 - 1 := by decide
    rw [BitVec.toNat_and, e2, Nat.and_two_pow_sub_one_eq_mod]
    have := Nat.mod_lt (BitVec.ofInt 64 x).toNat (show 0 < 2 ^ 8 by decide)
    omega
  rw [IntWalk.u64_in _ (by omega)]
  omega
theorem opj_byte {src dt : TypeId} {X : Operand} {x : By} [hs : TyU P src (.int .u8)] [hd : TyU P dt (.int .i64)] (hx : e.ev X = some (byA x)) : OpJ P S e ⟨dst, .convert src dt X, ty, pos, after, guard⟩ (.raw (.int .i64 (x.val : Int))) := by
  have h := opj_iint (P := P) (S := S) (e := e) (dst := dst) (ty := ty) (pos := pos) (after := after) (guard := guard) (k0 := .u8) (k := .u8) (k' := .i64) (hs := hs) (hd := hd) hx
  rwa [IntWalk.i64_in _ (by have := x.isLt; omega)] at h
theorem opj_small {src dt : TypeId} {X : Operand} {k0 k : IntKind} {n : Int} [hs : TyU P src (.int k0)] [hd : TyU P dt (.int .i64)] (hx : e.ev X = some (.raw (.int k n))) (hn : -9223372036854775808 ≤ n ∧ n ≤ 9223372036854775807) : OpJ P S e ⟨dst, .convert src dt X, ty, pos, after, guard⟩ (.raw (.int .i64 n)) := by
  have h := opj_iint (P := P) (S := S) (e := e) (dst := dst) (ty := ty) (pos := pos) (after := after) (guard := guard) (k0 := k0) (k := k) (k' := .i64) (hs := hs) (hd := hd) hx
  rwa [IntWalk.i64_in _ hn] at h
end
theorem opj_and255 {P : Program} {S : World → Prop} {e : Env} {dst : Option Tmp} {ty : TypeId} {pos : String} {after : Array Edge} {guard : Option (Nat × Bool)} {src dt : TypeId} {X : Operand} {x : Int} [hs : TyU P src (.int .u64)] [hd : TyU P dt (.int .i64)] (hx : e.ev X = some (.raw (.int .u64 (andW x 255)))) : OpJ P S e ⟨dst, .convert src dt X, ty, pos, after, guard⟩ (.raw (.int .i64 (andW x 255))) :=
  opj_small (k0 := .u64) hx (by have := andW_255 x; omega)
class SrcT (P : Program) (t : TypeId) : Prop where
  b1 : ∀ (w : World) (a : Option Addr) (n c : Nat), (Instr.build t #[(0, .slice a n c)]).run P w = .ok (.agg #[.slice a n c, .int .i64 0, .int .u64 0]) w
instance srcTi : SrcT Tryz.prog 76 := ⟨fun w a n c => by kernel_rfl⟩
section
variable {P : Program} {S : World → Prop} {e : Env} {dst : Option Tmp} {ty : TypeId} {pos : String} {after : Array Edge} {guard : Option (Nat × Bool)}
theorem opj_buildSrc {t : TypeId} [hb : SrcT P t] {X : Operand} {w1 : World} {us : List AV} (hx : e.ev X = some (AV.sl w1 1 us)) : OpJ P S e ⟨dst, .build t #[(0, X)], ty, pos, after, guard⟩ (.agg [AV.sl w1 1 us, .raw (.int .i64 0), .raw (.int .u64 0)]) :=
  opj_value fun ac w _ h => by
    have h1 := (h X (by simp [Op.operands]) _ hx)
    obtain ⟨a, n, c, hv, hr⟩ := (h1.inv_q : Rd w1 1 _ _)
    refine ⟨.agg #[.slice a n c, .int .i64 0, .int .u64 0], w, ?_, Ext.refl _, .agg (vs := [.slice a n c, .int .i64 0, .int .u64 0]) (.cons (.q ⟨a, n, c, rfl, hr⟩) (.cons .raw (.cons .raw .nil)))⟩
    simp only [execOp, List.map_toArray, List.map_cons, List.map_nil, hv, Sem.run_bind, hb.b1, Result.andThen_ok]
    rfl
end
attribute [local irreducible] WS RS Done OpJ Then InBlock Round Ret Env.sub FnH
theorem b10Long_fn (L M : List By) : Fn Tryz.prog 4 (fun w => [slB w L, slB w M]) (.raw (.bool (decide ((1048576 : Int) < L.length) || decide ((1048576 : Int) < M.length)))) := by
  refine fn_intro Tryz.func4 rfl Tryz.ntmps4 (fun _ => Nat.le_of_ble_eq_true rfl) fun w0 => ?_
  repeat first | refine zai rfl rfl ?_ | refine zaj rfl rfl rfl rfl ?_ | refine zaa rfl (zay rfl) ?_ | refine zaa rfl (zaz rfl) ?_ | (refine zac ?_; first | refine zaa rfl (zba rfl rfl rfl) ?_ | refine zaa rfl (zbb rfl rfl (by omega)) ?_ | refine zaa rfl (zbc rfl rfl (by omega)) ?_ | refine zaa rfl (zbd rfl rfl rfl) ?_ | refine zaa rfl (zbe rfl rfl) ?_ | refine zaa rfl (zbf rfl rfl) ?_ | refine zaa rfl (zbg rfl rfl) ?_ | refine zaa rfl (zbh rfl rfl) ?_ | refine zaa rfl (zbi rfl rfl) ?_ | refine zaa rfl (zbj rfl rfl) ?_ | refine zaa rfl (zbk rfl rfl) ?_ | refine zaa rfl (zbl rfl rfl) ?_) | (refine zad ?_; first | refine zaa rfl (zbo rfl) ?_ | refine zaa rfl (zbm rfl) ?_ | refine zaa rfl (zbn rfl) ?_ | refine zaa rfl (zbp rfl) ?_ | refine zaa rfl (zbq rfl) ?_ | refine zaa rfl (zbr rfl rfl) ?_) | (refine zae ?_; first | refine zaa rfl (zbt rfl rfl (by (repeat (first | exact mh | refine mt ?_)); done) (by omega)) ?_ | refine zaa rfl (zcf rfl rfl (by (repeat (first | exact mh | refine mt ?_)); done) rfl) ?_ | refine zaa rfl (zcg rfl rfl (by (repeat (first | exact mh | refine mt ?_)); done) rfl rfl) ?_ | refine zaa rfl (zch rfl rfl rfl rfl) ?_ | refine zaa rfl (zbu rfl rfl) ?_) | (refine zaf ?_; first | refine zaa rfl (zbs rfl rfl (by omega) (by omega)) ?_ | refine zaa rfl (zbv rfl rfl (by omega) (by omega)) ?_ | refine zaa rfl (zbw rfl rfl (by omega) (by omega)) ?_) | refine zaa rfl (zcd rfl) ?_ | refine zaa rfl (zce rfl) ?_ | refine zaa rfl (zbx rfl) ?_ | refine zaa rfl (zby rfl) ?_ | refine zaa rfl (zbz rfl rfl) ?_ | refine zaa rfl (zca rfl rfl) ?_ | refine zaa rfl (zcb rfl rfl) ?_ | refine zaa rfl (zcc rfl) ?_ | refine zah ?_ | (refine zcr ?_; first | refine zcs ?_ | refine zct ?_ | refine zcu ?_ | refine zcv ?_ | refine zcw ?_ | refine zcx ?_ | refine zcy rfl ?_ | refine zcz ?_ | refine zda ?_) | (refine zdb ?_; first | refine zdc ?_ | refine zdd ?_ | refine zde ?_ | refine zdf ?_ | refine zdg ?_ | refine zdh ?_ | refine zdi rfl ?_ | refine zdj rfl ?_) | (refine zak rfl rfl rfl ?_; intro g) | (refine zal rfl rfl ?_; intro g) | (refine zag ?_; first | refine zam 0 rfl rfl rfl rfl rfl rfl ?_ | refine zam 1 rfl rfl rfl rfl rfl rfl ?_ | refine zan 0 rfl rfl rfl rfl rfl rfl rfl rfl rfl ?_ | refine zan 1 rfl rfl rfl rfl rfl rfl rfl rfl rfl ?_ | refine zao 0 rfl rfl rfl rfl rfl rfl ?_ | refine zao 1 rfl rfl rfl rfl rfl rfl ?_)
  cases decide ((1048576 : Int) < L.length)
  all_goals
    repeat first | refine zai rfl rfl ?_ | refine zaj rfl rfl rfl rfl ?_ | refine zaa rfl (zay rfl) ?_ | refine zaa rfl (zaz rfl) ?_ | (refine zac ?_; first | refine zaa rfl (zba rfl rfl rfl) ?_ | refine zaa rfl (zbb rfl rfl (by omega)) ?_ | refine zaa rfl (zbc rfl rfl (by omega)) ?_ | refine zaa rfl (zbd rfl rfl rfl) ?_ | refine zaa rfl (zbe rfl rfl) ?_ | refine zaa rfl (zbf rfl rfl) ?_ | refine zaa rfl (zbg rfl rfl) ?_ | refine zaa rfl (zbh rfl rfl) ?_ | refine zaa rfl (zbi rfl rfl) ?_ | refine zaa rfl (zbj rfl rfl) ?_ | refine zaa rfl (zbk rfl rfl) ?_ | refine zaa rfl (zbl rfl rfl) ?_) | (refine zad ?_; first | refine zaa rfl (zbo rfl) ?_ | refine zaa rfl (zbm rfl) ?_ | refine zaa rfl (zbn rfl) ?_ | refine zaa rfl (zbp rfl) ?_ | refine zaa rfl (zbq rfl) ?_ | refine zaa rfl (zbr rfl rfl) ?_) | (refine zae ?_; first | refine zaa rfl (zbt rfl rfl (by (repeat (first | exact mh | refine mt ?_)); done) (by omega)) ?_ | refine zaa rfl (zcf rfl rfl (by (repeat (first | exact mh | refine mt ?_)); done) rfl) ?_ | refine zaa rfl (zcg rfl rfl (by (repeat (first | exact mh | refine mt ?_)); done) rfl rfl) ?_ | refine zaa rfl (zch rfl rfl rfl rfl) ?_ | refine zaa rfl (zbu rfl rfl) ?_) | (refine zaf ?_; first | refine zaa rfl (zbs rfl rfl (by omega) (by omega)) ?_ | refine zaa rfl (zbv rfl rfl (by omega) (by omega)) ?_ | refine zaa rfl (zbw rfl rfl (by omega) (by omega)) ?_) | refine zaa rfl (zcd rfl) ?_ | refine zaa rfl (zce rfl) ?_ | refine zaa rfl (zbx rfl) ?_ | refine zaa rfl (zby rfl) ?_ | refine zaa rfl (zbz rfl rfl) ?_ | refine zaa rfl (zca rfl rfl) ?_ | refine zaa rfl (zcb rfl rfl) ?_ | refine zaa rfl (zcc rfl) ?_ | refine zah ?_ | (refine zcr ?_; first | refine zcs ?_ | refine zct ?_ | refine zcu ?_ | refine zcv ?_ | refine zcw ?_ | refine zcx ?_ | refine zcy rfl ?_ | refine zcz ?_ | refine zda ?_) | (refine zdb ?_; first | refine zdc ?_ | refine zdd ?_ | refine zde ?_ | refine zdf ?_ | refine zdg ?_ | refine zdh ?_ | refine zdi rfl ?_ | refine zdj rfl ?_) | (refine zak rfl rfl rfl ?_; intro g) | (refine zal rfl rfl ?_; intro g) | (refine zag ?_; first | refine zam 0 rfl rfl rfl rfl rfl rfl ?_ | refine zam 1 rfl rfl rfl rfl rfl rfl ?_ | refine zan 0 rfl rfl rfl rfl rfl rfl rfl rfl rfl ?_ | refine zan 1 rfl rfl rfl rfl rfl rfl rfl rfl rfl ?_ | refine zao 0 rfl rfl rfl rfl rfl rfl ?_ | refine zao 1 rfl rfl rfl rfl rfl rfl ?_)
    exact done_ret1 rfl () rfl trivial (List.nil_sublist _)
theorem b10At_fn (L : List By) (i n : Int) (hn : 2 ≤ n) (hi : 0 ≤ i ∧ i < 2 ^ 40) : FnH (X := Int) Tryz.prog 15 (fun w => [slB w L, .raw (.int .i64 i), .raw (.int .i64 n)]) [] (fun y => .raw (.int .i64 y)) (fun _ => []) (fun y => 0 ≤ y ∧ y < n) := by
  refine fn_intro Tryz.func15 rfl Tryz.ntmps15 (fun _ => Nat.le_of_ble_eq_true rfl) fun w0 => ?_
  repeat first | refine zai rfl rfl ?_ | refine zaj rfl rfl rfl rfl ?_ | refine zaa rfl (zay rfl) ?_ | refine zaa rfl (zaz rfl) ?_ | (refine zac ?_; first | refine zaa rfl (zba rfl rfl rfl) ?_ | refine zaa rfl (zbb rfl rfl (by omega)) ?_ | refine zaa rfl (zbc rfl rfl (by omega)) ?_ | refine zaa rfl (zbd rfl rfl rfl) ?_ | refine zaa rfl (zbe rfl rfl) ?_ | refine zaa rfl (zbf rfl rfl) ?_ | refine zaa rfl (zbg rfl rfl) ?_ | refine zaa rfl (zbh rfl rfl) ?_ | refine zaa rfl (zbi rfl rfl) ?_ | refine zaa rfl (zbj rfl rfl) ?_ | refine zaa rfl (zbk rfl rfl) ?_ | refine zaa rfl (zbl rfl rfl) ?_) | (refine zad ?_; first | refine zaa rfl (zbo rfl) ?_ | refine zaa rfl (zbm rfl) ?_ | refine zaa rfl (zbn rfl) ?_ | refine zaa rfl (zbp rfl) ?_ | refine zaa rfl (zbq rfl) ?_ | refine zaa rfl (zbr rfl rfl) ?_) | (refine zae ?_; first | refine zaa rfl (zbt rfl rfl (by (repeat (first | exact mh | refine mt ?_)); done) (by omega)) ?_ | refine zaa rfl (zcf rfl rfl (by (repeat (first | exact mh | refine mt ?_)); done) rfl) ?_ | refine zaa rfl (zcg rfl rfl (by (repeat (first | exact mh | refine mt ?_)); done) rfl rfl) ?_ | refine zaa rfl (zch rfl rfl rfl rfl) ?_ | refine zaa rfl (zbu rfl rfl) ?_) | (refine zaf ?_; first | refine zaa rfl (zbs rfl rfl (by omega) (by omega)) ?_ | refine zaa rfl (zbv rfl rfl (by omega) (by omega)) ?_ | refine zaa rfl (zbw rfl rfl (by omega) (by omega)) ?_) | refine zaa rfl (zcd rfl) ?_ | refine zaa rfl (zce rfl) ?_ | refine zaa rfl (zbx rfl) ?_ | refine zaa rfl (zby rfl) ?_ | refine zaa rfl (zbz rfl rfl) ?_ | refine zaa rfl (zca rfl rfl) ?_ | refine zaa rfl (zcb rfl rfl) ?_ | refine zaa rfl (zcc rfl) ?_ | refine zah ?_ | (refine zcr ?_; first | refine zcs ?_ | refine zct ?_ | refine zcu ?_ | refine zcv ?_ | refine zcw ?_ | refine zcx ?_ | refine zcy rfl ?_ | refine zcz ?_ | refine zda ?_) | (refine zdb ?_; first | refine zdc ?_ | refine zdd ?_ | refine zde ?_ | refine zdf ?_ | refine zdg ?_ | refine zdh ?_ | refine zdi rfl ?_ | refine zdj rfl ?_) | (refine zak rfl rfl rfl ?_; intro g) | (refine zal rfl rfl ?_; intro g) | (refine zag ?_; first | refine zam 0 rfl rfl rfl rfl rfl rfl ?_ | refine zam 1 rfl rfl rfl rfl rfl rfl ?_ | refine zan 0 rfl rfl rfl rfl rfl rfl rfl rfl rfl ?_ | refine zan 1 rfl rfl rfl rfl rfl rfl rfl rfl rfl ?_ | refine zao 0 rfl rfl rfl rfl rfl rfl ?_ | refine zao 1 rfl rfl rfl rfl rfl rfl ?_)
  rw [decide_eq_false (show ¬ n ≤ 1 by omega)]
  repeat first | refine zai rfl rfl ?_ | refine zaj rfl rfl rfl rfl ?_ | refine zaa rfl (zay rfl) ?_ | refine zaa rfl (zaz rfl) ?_ | (refine zac ?_; first | refine zaa rfl (zba rfl rfl rfl) ?_ | refine zaa rfl (zbb rfl rfl (by omega)) ?_ | refine zaa rfl (zbc rfl rfl (by omega)) ?_ | refine zaa rfl (zbd rfl rfl rfl) ?_ | refine zaa rfl (zbe rfl rfl) ?_ | refine zaa rfl (zbf rfl rfl) ?_ | refine zaa rfl (zbg rfl rfl) ?_ | refine zaa rfl (zbh rfl rfl) ?_ | refine zaa rfl (zbi rfl rfl) ?_ | refine zaa rfl (zbj rfl rfl) ?_ | refine zaa rfl (zbk rfl rfl) ?_ | refine zaa rfl (zbl rfl rfl) ?_) | (refine zad ?_; first | refine zaa rfl (zbo rfl) ?_ | refine zaa rfl (zbm rfl) ?_ | refine zaa rfl (zbn rfl) ?_ | refine zaa rfl (zbp rfl) ?_ | refine zaa rfl (zbq rfl) ?_ | refine zaa rfl (zbr rfl rfl) ?_) | (refine zae ?_; first | refine zaa rfl (zbt rfl rfl (by (repeat (first | exact mh | refine mt ?_)); done) (by omega)) ?_ | refine zaa rfl (zcf rfl rfl (by (repeat (first | exact mh | refine mt ?_)); done) rfl) ?_ | refine zaa rfl (zcg rfl rfl (by (repeat (first | exact mh | refine mt ?_)); done) rfl rfl) ?_ | refine zaa rfl (zch rfl rfl rfl rfl) ?_ | refine zaa rfl (zbu rfl rfl) ?_) | (refine zaf ?_; first | refine zaa rfl (zbs rfl rfl (by omega) (by omega)) ?_ | refine zaa rfl (zbv rfl rfl (by omega) (by omega)) ?_ | refine zaa rfl (zbw rfl rfl (by omega) (by omega)) ?_) | refine zaa rfl (zcd rfl) ?_ | refine zaa rfl (zce rfl) ?_ | refine zaa rfl (zbx rfl) ?_ | refine zaa rfl (zby rfl) ?_ | refine zaa rfl (zbz rfl rfl) ?_ | refine zaa rfl (zca rfl rfl) ?_ | refine zaa rfl (zcb rfl rfl) ?_ | refine zaa rfl (zcc rfl) ?_ | refine zah ?_ | (refine zcr ?_; first | refine zcs ?_ | refine zct ?_ | refine zcu ?_ | refine zcv ?_ | refine zcw ?_ | refine zcx ?_ | refine zcy rfl ?_ | refine zcz ?_ | refine zda ?_) | (refine zdb ?_; first | refine zdc ?_ | refine zdd ?_ | refine zde ?_ | refine zdf ?_ | refine zdg ?_ | refine zdh ?_ | refine zdi rfl ?_ | refine zdj rfl ?_) | (refine zak rfl rfl rfl ?_; intro g) | (refine zal rfl rfl ?_; intro g) | (refine zag ?_; first | refine zam 0 rfl rfl rfl rfl rfl rfl ?_ | refine zam 1 rfl rfl rfl rfl rfl rfl ?_ | refine zan 0 rfl rfl rfl rfl rfl rfl rfl rfl rfl ?_ | refine zan 1 rfl rfl rfl rfl rfl rfl rfl rfl rfl ?_ | refine zao 0 rfl rfl rfl rfl rfl rfl ?_ | refine zao 1 rfl rfl rfl rfl rfl rfl ?_)
  refine ws_cond rfl (fun hd => ?_) (fun hd => ?_)
  · have hlt := of_decide_eq_true hd
    have hby := (L.getD i.toNat default).isLt
    repeat first | refine zai rfl rfl ?_ | refine zaj rfl rfl rfl rfl ?_ | refine zaa rfl (zay rfl) ?_ | refine zaa rfl (zaz rfl) ?_ | (refine zac ?_; first | refine zaa rfl (zba rfl rfl rfl) ?_ | refine zaa rfl (zbb rfl rfl (by omega)) ?_ | refine zaa rfl (zbc rfl rfl (by omega)) ?_ | refine zaa rfl (zbd rfl rfl rfl) ?_ | refine zaa rfl (zbe rfl rfl) ?_ | refine zaa rfl (zbf rfl rfl) ?_ | refine zaa rfl (zbg rfl rfl) ?_ | refine zaa rfl (zbh rfl rfl) ?_ | refine zaa rfl (zbi rfl rfl) ?_ | refine zaa rfl (zbj rfl rfl) ?_ | refine zaa rfl (zbk rfl rfl) ?_ | refine zaa rfl (zbl rfl rfl) ?_ | refine zaa rfl (zcq rfl rfl (by omega) (by omega)) ?_) | (refine zad ?_; first | refine zaa rfl (zbo rfl) ?_ | refine zaa rfl (zbm rfl) ?_ | refine zaa rfl (zbn rfl) ?_ | refine zaa rfl (zbp rfl) ?_ | refine zaa rfl (zbq rfl) ?_ | refine zaa rfl (zbr rfl rfl) ?_) | (refine zae ?_; first | refine zaa rfl (zbt rfl rfl (by (repeat (first | exact mh | refine mt ?_)); done) (by omega)) ?_ | refine zaa rfl (zcf rfl rfl (by (repeat (first | exact mh | refine mt ?_)); done) rfl) ?_ | refine zaa rfl (zcg rfl rfl (by (repeat (first | exact mh | refine mt ?_)); done) rfl rfl) ?_ | refine zaa rfl (zch rfl rfl rfl rfl) ?_ | refine zaa rfl (zbu rfl rfl) ?_) | (refine zaf ?_; first | refine zaa rfl (zbs rfl rfl (by omega) (by omega)) ?_ | refine zaa rfl (zbv rfl rfl (by omega) (by omega)) ?_ | refine zaa rfl (zbw rfl rfl (by omega) (by omega)) ?_) | refine zaa rfl (zcd rfl) ?_ | refine zaa rfl (zce rfl) ?_ | refine zaa rfl (zbx rfl) ?_ | refine zaa rfl (zby rfl) ?_ | refine zaa rfl (zbz rfl rfl) ?_ | refine zaa rfl (zca rfl rfl) ?_ | refine zaa rfl (zcb rfl rfl) ?_ | refine zaa rfl (zcc rfl) ?_ | refine zah ?_ | (refine zcr ?_; first | refine zcs ?_ | refine zct ?_ | refine zcu ?_ | refine zcv ?_ | refine zcw ?_ | refine zcx ?_ | refine zcy rfl ?_ | refine zcz ?_ | refine zda ?_) | (refine zdb ?_; first | refine zdc ?_ | refine zdd ?_ | refine zde ?_ | refine zdf ?_ | refine zdg ?_ | refine zdh ?_ | refine zdi rfl ?_ | refine zdj rfl ?_) | (refine zak rfl rfl rfl ?_; intro g) | (refine zal rfl rfl ?_; intro g) | (refine zag ?_; first | refine zam 0 rfl rfl rfl rfl rfl rfl ?_ | refine zam 1 rfl rfl rfl rfl rfl rfl ?_ | refine zan 0 rfl rfl rfl rfl rfl rfl rfl rfl rfl ?_ | refine zan 1 rfl rfl rfl rfl rfl rfl rfl rfl rfl ?_ | refine zao 0 rfl rfl rfl rfl rfl rfl ?_ | refine zao 1 rfl rfl rfl rfl rfl rfl ?_) | refine zaa rfl (opj_byte rfl) ?_
    exact done_ret1 rfl _ rfl ⟨Int.emod_nonneg _ (by omega), Int.emod_lt_of_pos _ (by omega)⟩ (List.nil_sublist _)
  · repeat first | refine zai rfl rfl ?_ | refine zaj rfl rfl rfl rfl ?_ | refine zaa rfl (zay rfl) ?_ | refine zaa rfl (zaz rfl) ?_ | (refine zac ?_; first | refine zaa rfl (zba rfl rfl rfl) ?_ | refine zaa rfl (zbb rfl rfl (by omega)) ?_ | refine zaa rfl (zbc rfl rfl (by omega)) ?_ | refine zaa rfl (zbd rfl rfl rfl) ?_ | refine zaa rfl (zbe rfl rfl) ?_ | refine zaa rfl (zbf rfl rfl) ?_ | refine zaa rfl (zbg rfl rfl) ?_ | refine zaa rfl (zbh rfl rfl) ?_ | refine zaa rfl (zbi rfl rfl) ?_ | refine zaa rfl (zbj rfl rfl) ?_ | refine zaa rfl (zbk rfl rfl) ?_ | refine zaa rfl (zbl rfl rfl) ?_ | refine zaa rfl (opj_mul rfl rfl (by omega)) ?_ | refine zaa rfl (zcq rfl rfl (by omega) (by omega)) ?_) | (refine zad ?_; first | refine zaa rfl (zbo rfl) ?_ | refine zaa rfl (zbm rfl) ?_ | refine zaa rfl (zbn rfl) ?_ | refine zaa rfl (zbp rfl) ?_ | refine zaa rfl (zbq rfl) ?_ | refine zaa rfl (zbr rfl rfl) ?_) | (refine zae ?_; first | refine zaa rfl (zbt rfl rfl (by (repeat (first | exact mh | refine mt ?_)); done) (by omega)) ?_ | refine zaa rfl (zcf rfl rfl (by (repeat (first | exact mh | refine mt ?_)); done) rfl) ?_ | refine zaa rfl (zcg rfl rfl (by (repeat (first | exact mh | refine mt ?_)); done) rfl rfl) ?_ | refine zaa rfl (zch rfl rfl rfl rfl) ?_ | refine zaa rfl (zbu rfl rfl) ?_) | (refine zaf ?_; first | refine zaa rfl (zbs rfl rfl (by omega) (by omega)) ?_ | refine zaa rfl (zbv rfl rfl (by omega) (by omega)) ?_ | refine zaa rfl (zbw rfl rfl (by omega) (by omega)) ?_) | refine zaa rfl (zcd rfl) ?_ | refine zaa rfl (zce rfl) ?_ | refine zaa rfl (zbx rfl) ?_ | refine zaa rfl (zby rfl) ?_ | refine zaa rfl (zbz rfl rfl) ?_ | refine zaa rfl (zca rfl rfl) ?_ | refine zaa rfl (zcb rfl rfl) ?_ | refine zaa rfl (zcc rfl) ?_ | refine zah ?_ | (refine zcr ?_; first | refine zcs ?_ | refine zct ?_ | refine zcu ?_ | refine zcv ?_ | refine zcw ?_ | refine zcx ?_ | refine zcy rfl ?_ | refine zcz ?_ | refine zda ?_) | (refine zdb ?_; first | refine zdc ?_ | refine zdd ?_ | refine zde ?_ | refine zdf ?_ | refine zdg ?_ | refine zdh ?_ | refine zdi rfl ?_ | refine zdj rfl ?_) | (refine zak rfl rfl rfl ?_; intro g) | (refine zal rfl rfl ?_; intro g) | (refine zag ?_; first | refine zam 0 rfl rfl rfl rfl rfl rfl ?_ | refine zam 1 rfl rfl rfl rfl rfl rfl ?_ | refine zan 0 rfl rfl rfl rfl rfl rfl rfl rfl rfl ?_ | refine zan 1 rfl rfl rfl rfl rfl rfl rfl rfl rfl ?_ | refine zao 0 rfl rfl rfl rfl rfl rfl ?_ | refine zao 1 rfl rfl rfl rfl rfl rfl ?_)
    exact done_ret1 rfl _ rfl ⟨Int.emod_nonneg _ (by omega), Int.emod_lt_of_pos _ (by omega)⟩ (List.nil_sublist _)
abbrev srcE (w1 : World) (g : Nat) (L : List By) (at_ seed : Int) : Ent := ⟨g, 76, [slB w1 L, .raw (.int .i64 at_), .raw (.int .u64 seed)], 3⟩
/-- The source's place, younger than a world of which no block has turned. -/
def srcP (w1 : World) (g : Nat) (w : World) : AV := .q fun v => v = .pointer (some ⟨g, 0, none⟩) ∧ Ext w1 w ∧ w1.heap.size ≤ g
theorem Takes.srcP {R0 : World → Prop} {w0 w1 : World} {gs : List Nat} {H : List Ent} {g : Nat} {args : List AV} {A : World → List AV} (hk : KeepW w1 w0 gs) (hg : w1.heap.size ≤ g) (h : Takes (StR R0 w0 gs H) args A) :
    Takes (StR R0 w0 gs H) (.raw (.pointer (some ⟨g, 0, none⟩)) :: args) (fun w => Go.Ab.srcP w1 g w :: A w) := fun w vs hS hr => by
  obtain ⟨v, r, rfl, hv, hr⟩ := hr.inv_cons
  rw [hv.inv_raw]
  exact .cons (.q ⟨rfl, hS.extK hk, hg⟩) (h w r hS hr)
theorem l00From_fn (w1 : World) (L : List By) : FnH (X := Nat) Tryz.prog 27 (fun _ => [slB w1 L]) [] (fun g => .raw (.pointer (some ⟨g, 0, none⟩))) (fun g => [srcE w1 g L 0 0]) (fun _ => True) := by
  refine fn_intro Tryz.func27 rfl Tryz.ntmps27 (fun _ => Nat.le_of_ble_eq_true rfl) fun w0 => ?_
  repeat first | refine zai rfl rfl ?_ | refine zaj rfl rfl rfl rfl ?_ | refine zaa rfl (zay rfl) ?_ | refine zaa rfl (zaz rfl) ?_ | (refine zac ?_; first | refine zaa rfl (zba rfl rfl rfl) ?_ | refine zaa rfl (zbb rfl rfl (by omega)) ?_ | refine zaa rfl (zbc rfl rfl (by omega)) ?_ | refine zaa rfl (zbd rfl rfl rfl) ?_ | refine zaa rfl (zbe rfl rfl) ?_ | refine zaa rfl (zbf rfl rfl) ?_ | refine zaa rfl (zbg rfl rfl) ?_ | refine zaa rfl (zbh rfl rfl) ?_ | refine zaa rfl (zbi rfl rfl) ?_ | refine zaa rfl (zbj rfl rfl) ?_ | refine zaa rfl (zbk rfl rfl) ?_ | refine zaa rfl (zbl rfl rfl) ?_) | (refine zad ?_; first | refine zaa rfl (zbo rfl) ?_ | refine zaa rfl (zbm rfl) ?_ | refine zaa rfl (zbn rfl) ?_ | refine zaa rfl (zbp rfl) ?_ | refine zaa rfl (zbq rfl) ?_ | refine zaa rfl (zbr rfl rfl) ?_) | (refine zae ?_; first | refine zaa rfl (zbt rfl rfl (by (repeat (first | exact mh | refine mt ?_)); done) (by omega)) ?_ | refine zaa rfl (zcf rfl rfl (by (repeat (first | exact mh | refine mt ?_)); done) rfl) ?_ | refine zaa rfl (zcg rfl rfl (by (repeat (first | exact mh | refine mt ?_)); done) rfl rfl) ?_ | refine zaa rfl (zch rfl rfl rfl rfl) ?_ | refine zaa rfl (zbu rfl rfl) ?_) | (refine zaf ?_; first | refine zaa rfl (zbs rfl rfl (by omega) (by omega)) ?_ | refine zaa rfl (zbv rfl rfl (by omega) (by omega)) ?_ | refine zaa rfl (zbw rfl rfl (by omega) (by omega)) ?_) | refine zaa rfl (zcd rfl) ?_ | refine zaa rfl (zce rfl) ?_ | refine zaa rfl (zbx rfl) ?_ | refine zaa rfl (zby rfl) ?_ | refine zaa rfl (zbz rfl rfl) ?_ | refine zaa rfl (zca rfl rfl) ?_ | refine zaa rfl (zcb rfl rfl) ?_ | refine zaa rfl (zcc rfl) ?_ | refine zah ?_ | (refine zcr ?_; first | refine zcs ?_ | refine zct ?_ | refine zcu ?_ | refine zcv ?_ | refine zcw ?_ | refine zcx ?_ | refine zcy rfl ?_ | refine zcz ?_ | refine zda ?_) | (refine zdb ?_; first | refine zdc ?_ | refine zdd ?_ | refine zde ?_ | refine zdf ?_ | refine zdg ?_ | refine zdh ?_ | refine zdi rfl ?_ | refine zdj rfl ?_) | (refine zak rfl rfl rfl ?_; intro g) | (refine zal rfl rfl ?_; intro g) | (refine zag ?_; first | refine zam 0 rfl rfl rfl rfl rfl rfl ?_ | refine zam 1 rfl rfl rfl rfl rfl rfl ?_ | refine zan 0 rfl rfl rfl rfl rfl rfl rfl rfl rfl ?_ | refine zan 1 rfl rfl rfl rfl rfl rfl rfl rfl rfl ?_ | refine zao 0 rfl rfl rfl rfl rfl rfl ?_ | refine zao 1 rfl rfl rfl rfl rfl rfl ?_) | refine zaa rfl (opj_buildSrc rfl) ?_
  exact done_ret1 rfl g rfl trivial (List.Sublist.refl _)
/-- What a draw leaves. -/
structure Dr where
  r : Int
  at_ : Int
  seed : Int
theorem next_fn (w1 : World) (g : Nat) (L : List By) (at_ seed : Int) (hat : 0 ≤ at_ ∧ at_ < 2 ^ 40) (hL : L.length < 2 ^ 40) :
    FnH (X := Dr) Tryz.prog 52 (fun w => [srcP w1 g w]) [srcE w1 g L at_ seed] (fun y => .raw (.int .i64 y.r)) (fun y => [srcE w1 g L y.at_ y.seed]) (fun y => 0 ≤ y.r ∧ y.r ≤ 255 ∧ y.at_ = at_ + 1) := by
  refine fn_intro Tryz.func52 rfl Tryz.ntmps52 (fun _ => Nat.le_of_ble_eq_true rfl) fun w0 => ?_
  refine ws_q (t := 0) rfl fun v hv => ?_
  obtain ⟨rfl, hx, hg⟩ := hv
  have hk : KeepW w1 w0 [g] := ⟨hx, fun x hx => by simp at hx; omega⟩
  repeat first | refine zai rfl rfl ?_ | refine zaj rfl rfl rfl rfl ?_ | refine zaa rfl (zay rfl) ?_ | refine zaa rfl (zaz rfl) ?_ | (refine zac ?_; first | refine zaa rfl (zba rfl rfl rfl) ?_ | refine zaa rfl (zbb rfl rfl (by omega)) ?_ | refine zaa rfl (zbc rfl rfl (by omega)) ?_ | refine zaa rfl (zbd rfl rfl rfl) ?_ | refine zaa rfl (zbe rfl rfl) ?_ | refine zaa rfl (zbf rfl rfl) ?_ | refine zaa rfl (zbg rfl rfl) ?_ | refine zaa rfl (zbh rfl rfl) ?_ | refine zaa rfl (zbi rfl rfl) ?_ | refine zaa rfl (zbj rfl rfl) ?_ | refine zaa rfl (zbk rfl rfl) ?_ | refine zaa rfl (zbl rfl rfl) ?_) | (refine zad ?_; first | refine zaa rfl (zbo rfl) ?_ | refine zaa rfl (zbm rfl) ?_ | refine zaa rfl (zbn rfl) ?_ | refine zaa rfl (zbp rfl) ?_ | refine zaa rfl (zbq rfl) ?_ | refine zaa rfl (zbr rfl rfl) ?_) | (refine zae ?_; first | refine zaa rfl (zbt rfl rfl (by (repeat (first | exact mh | refine mt ?_)); done) (by omega)) ?_ | refine zaa rfl (zcf rfl rfl (by (repeat (first | exact mh | refine mt ?_)); done) rfl) ?_ | refine zaa rfl (zcg rfl rfl (by (repeat (first | exact mh | refine mt ?_)); done) rfl rfl) ?_ | refine zaa rfl (zch rfl rfl rfl rfl) ?_ | refine zaa rfl (zbu rfl rfl) ?_) | (refine zaf ?_; first | refine zaa rfl (zbs rfl rfl (by omega) (by omega)) ?_ | refine zaa rfl (zbv rfl rfl (by omega) (by omega)) ?_ | refine zaa rfl (zbw rfl rfl (by omega) (by omega)) ?_) | refine zaa rfl (zcd rfl) ?_ | refine zaa rfl (zce rfl) ?_ | refine zaa rfl (zbx rfl) ?_ | refine zaa rfl (zby rfl) ?_ | refine zaa rfl (zbz rfl rfl) ?_ | refine zaa rfl (zca rfl rfl) ?_ | refine zaa rfl (zcb rfl rfl) ?_ | refine zaa rfl (zcc rfl) ?_ | refine zah ?_ | (refine zcr ?_; first | refine zcs ?_ | refine zct ?_ | refine zcu ?_ | refine zcv ?_ | refine zcw ?_ | refine zcx ?_ | refine zcy rfl ?_ | refine zcz ?_ | refine zda ?_) | (refine zdb ?_; first | refine zdc ?_ | refine zdd ?_ | refine zde ?_ | refine zdf ?_ | refine zdg ?_ | refine zdh ?_ | refine zdi rfl ?_ | refine zdj rfl ?_) | (refine zak rfl rfl rfl ?_; intro g) | (refine zal rfl rfl ?_; intro g) | (refine zag ?_; first | refine zam 0 rfl rfl rfl rfl rfl rfl ?_ | refine zam 1 rfl rfl rfl rfl rfl rfl ?_ | refine zan 0 rfl rfl rfl rfl rfl rfl rfl rfl rfl ?_ | refine zan 1 rfl rfl rfl rfl rfl rfl rfl rfl rfl ?_ | refine zao 0 rfl rfl rfl rfl rfl rfl ?_ | refine zao 1 rfl rfl rfl rfl rfl rfl ?_)
  refine ws_draw (n := 10) mixed (by decide +kernel) ?_
  repeat first | refine zaw rfl rfl ?_ | refine zax rfl rfl rfl rfl ?_ | refine zap rfl (zay rfl) ?_ | refine zap rfl (zaz rfl) ?_ | (refine zar ?_; first | refine zap rfl (zba rfl rfl rfl) ?_ | refine zap rfl (zbb rfl rfl (by omega)) ?_ | refine zap rfl (zbc rfl rfl (by omega)) ?_ | refine zap rfl (zbd rfl rfl rfl) ?_ | refine zap rfl (zbe rfl rfl) ?_ | refine zap rfl (zbf rfl rfl) ?_ | refine zap rfl (zbg rfl rfl) ?_ | refine zap rfl (zbh rfl rfl) ?_ | refine zap rfl (zbi rfl rfl) ?_ | refine zap rfl (zbj rfl rfl) ?_ | refine zap rfl (zbk rfl rfl) ?_ | refine zap rfl (zbl rfl rfl) ?_) | (refine zas ?_; first | refine zap rfl (zbo rfl) ?_ | refine zap rfl (zbm rfl) ?_ | refine zap rfl (zbn rfl) ?_ | refine zap rfl (zbp rfl) ?_ | refine zap rfl (zbq rfl) ?_ | refine zap rfl (zbr rfl rfl) ?_) | (refine zat ?_; first | refine zap rfl (zbt rfl rfl (by (repeat (first | exact mh | refine mt ?_)); done) (by omega)) ?_ | refine zap rfl (zcf rfl rfl (by (repeat (first | exact mh | refine mt ?_)); done) rfl) ?_ | refine zap rfl (zcg rfl rfl (by (repeat (first | exact mh | refine mt ?_)); done) rfl rfl) ?_ | refine zap rfl (zch rfl rfl rfl rfl) ?_ | refine zap rfl (zbu rfl rfl) ?_) | (refine zau ?_; first | refine zap rfl (zbs rfl rfl (by omega) (by omega)) ?_ | refine zap rfl (zbv rfl rfl (by omega) (by omega)) ?_ | refine zap rfl (zbw rfl rfl (by omega) (by omega)) ?_) | refine zap rfl (zcd rfl) ?_ | refine zap rfl (zce rfl) ?_ | refine zap rfl (zbx rfl) ?_ | refine zap rfl (zby rfl) ?_ | refine zap rfl (zbz rfl rfl) ?_ | refine zap rfl (zca rfl rfl) ?_ | refine zap rfl (zcb rfl rfl) ?_ | refine zap rfl (zcc rfl) ?_ | refine zav ?_ | refine zap rfl (opj_nilCheck rfl) ?_ | refine zap rfl (zcd rfl) ?_ | refine zap rfl (opj_lenK hk rfl) ?_ | refine zap rfl (zcf (T := 76) rfl rfl mh rfl) ?_
  repeat first | refine zai rfl rfl ?_ | refine zaj rfl rfl rfl rfl ?_ | refine zaa rfl (zay rfl) ?_ | refine zaa rfl (zaz rfl) ?_ | (refine zac ?_; first | refine zaa rfl (zba rfl rfl rfl) ?_ | refine zaa rfl (zbb rfl rfl (by omega)) ?_ | refine zaa rfl (zbc rfl rfl (by omega)) ?_ | refine zaa rfl (zbd rfl rfl rfl) ?_ | refine zaa rfl (zbe rfl rfl) ?_ | refine zaa rfl (zbf rfl rfl) ?_ | refine zaa rfl (zbg rfl rfl) ?_ | refine zaa rfl (zbh rfl rfl) ?_ | refine zaa rfl (zbi rfl rfl) ?_ | refine zaa rfl (zbj rfl rfl) ?_ | refine zaa rfl (zbk rfl rfl) ?_ | refine zaa rfl (zbl rfl rfl) ?_) | (refine zad ?_; first | refine zaa rfl (zbo rfl) ?_ | refine zaa rfl (zbm rfl) ?_ | refine zaa rfl (zbn rfl) ?_ | refine zaa rfl (zbp rfl) ?_ | refine zaa rfl (zbq rfl) ?_ | refine zaa rfl (zbr rfl rfl) ?_) | (refine zae ?_; first | refine zaa rfl (zbt rfl rfl (by (repeat (first | exact mh | refine mt ?_)); done) (by omega)) ?_ | refine zaa rfl (zcf rfl rfl (by (repeat (first | exact mh | refine mt ?_)); done) rfl) ?_ | refine zaa rfl (zcg rfl rfl (by (repeat (first | exact mh | refine mt ?_)); done) rfl rfl) ?_ | refine zaa rfl (zch rfl rfl rfl rfl) ?_ | refine zaa rfl (zbu rfl rfl) ?_) | (refine zaf ?_; first | refine zaa rfl (zbs rfl rfl (by omega) (by omega)) ?_ | refine zaa rfl (zbv rfl rfl (by omega) (by omega)) ?_ | refine zaa rfl (zbw rfl rfl (by omega) (by omega)) ?_) | refine zaa rfl (zcd rfl) ?_ | refine zaa rfl (zce rfl) ?_ | refine zaa rfl (zbx rfl) ?_ | refine zaa rfl (zby rfl) ?_ | refine zaa rfl (zbz rfl rfl) ?_ | refine zaa rfl (zca rfl rfl) ?_ | refine zaa rfl (zcb rfl rfl) ?_ | refine zaa rfl (zcc rfl) ?_ | refine zah ?_ | (refine zcr ?_; first | refine zcs ?_ | refine zct ?_ | refine zcu ?_ | refine zcv ?_ | refine zcw ?_ | refine zcx ?_ | refine zcy rfl ?_ | refine zcz ?_ | refine zda ?_) | (refine zdb ?_; first | refine zdc ?_ | refine zdd ?_ | refine zde ?_ | refine zdf ?_ | refine zdg ?_ | refine zdh ?_ | refine zdi rfl ?_ | refine zdj rfl ?_) | (refine zak rfl rfl rfl ?_; intro g) | (refine zal rfl rfl ?_; intro g) | (refine zag ?_; first | refine zam 0 rfl rfl rfl rfl rfl rfl ?_ | refine zam 1 rfl rfl rfl rfl rfl rfl ?_ | refine zan 0 rfl rfl rfl rfl rfl rfl rfl rfl rfl ?_ | refine zan 1 rfl rfl rfl rfl rfl rfl rfl rfl rfl ?_ | refine zao 0 rfl rfl rfl rfl rfl rfl ?_ | refine zao 1 rfl rfl rfl rfl rfl rfl ?_)
  refine ws_thenJ (fun b : Int => [(0, .raw (.pointer (some ⟨g, 0, none⟩))), (3, .raw (.int .i64 b))]) (fun _ => St w0 [g] [srcE w1 g L at_ seed]) (fun b => 0 ≤ b ∧ b ≤ 255) (ws_cond rfl (fun hd => ?_) (fun hd => ?_)) (fun b hb => ?_)
  · have hlt := of_decide_eq_true hd
    have hby := (L.getD at_.toNat default).isLt
    repeat first | refine zai rfl rfl ?_ | refine zaj rfl rfl rfl rfl ?_ | refine zaa rfl (zay rfl) ?_ | refine zaa rfl (zaz rfl) ?_ | (refine zac ?_; first | refine zaa rfl (zba rfl rfl rfl) ?_ | refine zaa rfl (zbb rfl rfl (by omega)) ?_ | refine zaa rfl (zbc rfl rfl (by omega)) ?_ | refine zaa rfl (zbd rfl rfl rfl) ?_ | refine zaa rfl (zbe rfl rfl) ?_ | refine zaa rfl (zbf rfl rfl) ?_ | refine zaa rfl (zbg rfl rfl) ?_ | refine zaa rfl (zbh rfl rfl) ?_ | refine zaa rfl (zbi rfl rfl) ?_ | refine zaa rfl (zbj rfl rfl) ?_ | refine zaa rfl (zbk rfl rfl) ?_ | refine zaa rfl (zbl rfl rfl) ?_) | (refine zad ?_; first | refine zaa rfl (zbo rfl) ?_ | refine zaa rfl (zbm rfl) ?_ | refine zaa rfl (zbn rfl) ?_ | refine zaa rfl (zbp rfl) ?_ | refine zaa rfl (zbq rfl) ?_ | refine zaa rfl (zbr rfl rfl) ?_) | (refine zae ?_; first | refine zaa rfl (zbt rfl rfl (by (repeat (first | exact mh | refine mt ?_)); done) (by omega)) ?_ | refine zaa rfl (zcf rfl rfl (by (repeat (first | exact mh | refine mt ?_)); done) rfl) ?_ | refine zaa rfl (zcg rfl rfl (by (repeat (first | exact mh | refine mt ?_)); done) rfl rfl) ?_ | refine zaa rfl (zch rfl rfl rfl rfl) ?_ | refine zaa rfl (zbu rfl rfl) ?_) | (refine zaf ?_; first | refine zaa rfl (zbs rfl rfl (by omega) (by omega)) ?_ | refine zaa rfl (zbv rfl rfl (by omega) (by omega)) ?_ | refine zaa rfl (zbw rfl rfl (by omega) (by omega)) ?_) | refine zaa rfl (zcd rfl) ?_ | refine zaa rfl (zce rfl) ?_ | refine zaa rfl (zbx rfl) ?_ | refine zaa rfl (zby rfl) ?_ | refine zaa rfl (zbz rfl rfl) ?_ | refine zaa rfl (zca rfl rfl) ?_ | refine zaa rfl (zcb rfl rfl) ?_ | refine zaa rfl (zcc rfl) ?_ | refine zah ?_ | (refine zcr ?_; first | refine zcs ?_ | refine zct ?_ | refine zcu ?_ | refine zcv ?_ | refine zcw ?_ | refine zcx ?_ | refine zcy rfl ?_ | refine zcz ?_ | refine zda ?_) | (refine zdb ?_; first | refine zdc ?_ | refine zdd ?_ | refine zde ?_ | refine zdf ?_ | refine zdg ?_ | refine zdh ?_ | refine zdi rfl ?_ | refine zdj rfl ?_) | (refine zak rfl rfl rfl ?_; intro g) | (refine zal rfl rfl ?_; intro g) | (refine zag ?_; first | refine zam 0 rfl rfl rfl rfl rfl rfl ?_ | refine zam 1 rfl rfl rfl rfl rfl rfl ?_ | refine zan 0 rfl rfl rfl rfl rfl rfl rfl rfl rfl ?_ | refine zan 1 rfl rfl rfl rfl rfl rfl rfl rfl rfl ?_ | refine zao 0 rfl rfl rfl rfl rfl rfl ?_ | refine zao 1 rfl rfl rfl rfl rfl rfl ?_)
    refine ws_draw (n := 12) mixed (by decide +kernel) ?_
    repeat first | refine zaw rfl rfl ?_ | refine zax rfl rfl rfl rfl ?_ | refine zap rfl (zay rfl) ?_ | refine zap rfl (zaz rfl) ?_ | (refine zar ?_; first | refine zap rfl (zba rfl rfl rfl) ?_ | refine zap rfl (zbb rfl rfl (by omega)) ?_ | refine zap rfl (zbc rfl rfl (by omega)) ?_ | refine zap rfl (zbd rfl rfl rfl) ?_ | refine zap rfl (zbe rfl rfl) ?_ | refine zap rfl (zbf rfl rfl) ?_ | refine zap rfl (zbg rfl rfl) ?_ | refine zap rfl (zbh rfl rfl) ?_ | refine zap rfl (zbi rfl rfl) ?_ | refine zap rfl (zbj rfl rfl) ?_ | refine zap rfl (zbk rfl rfl) ?_ | refine zap rfl (zbl rfl rfl) ?_) | (refine zas ?_; first | refine zap rfl (zbo rfl) ?_ | refine zap rfl (zbm rfl) ?_ | refine zap rfl (zbn rfl) ?_ | refine zap rfl (zbp rfl) ?_ | refine zap rfl (zbq rfl) ?_ | refine zap rfl (zbr rfl rfl) ?_) | (refine zat ?_; first | refine zap rfl (zbt rfl rfl (by (repeat (first | exact mh | refine mt ?_)); done) (by omega)) ?_ | refine zap rfl (zcf rfl rfl (by (repeat (first | exact mh | refine mt ?_)); done) rfl) ?_ | refine zap rfl (zcg rfl rfl (by (repeat (first | exact mh | refine mt ?_)); done) rfl rfl) ?_ | refine zap rfl (zch rfl rfl rfl rfl) ?_ | refine zap rfl (zbu rfl rfl) ?_) | (refine zau ?_; first | refine zap rfl (zbs rfl rfl (by omega) (by omega)) ?_ | refine zap rfl (zbv rfl rfl (by omega) (by omega)) ?_ | refine zap rfl (zbw rfl rfl (by omega) (by omega)) ?_) | refine zap rfl (zcd rfl) ?_ | refine zap rfl (zce rfl) ?_ | refine zap rfl (zbx rfl) ?_ | refine zap rfl (zby rfl) ?_ | refine zap rfl (zbz rfl rfl) ?_ | refine zap rfl (zca rfl rfl) ?_ | refine zap rfl (zcb rfl rfl) ?_ | refine zap rfl (zcc rfl) ?_ | refine zav ?_ | refine zap rfl (opj_nilCheck rfl) ?_ | refine zap rfl (zcd rfl) ?_ | refine zap rfl (opj_lenK hk rfl) ?_ | refine zap rfl (zcf (T := 76) rfl rfl mh rfl) ?_ | refine zap rfl (opj_indexK hk rfl rfl (by omega) (by omega)) ?_ | refine zap rfl (opj_byte rfl) ?_
    repeat first | refine zai rfl rfl ?_ | refine zaj rfl rfl rfl rfl ?_ | refine zaa rfl (zay rfl) ?_ | refine zaa rfl (zaz rfl) ?_ | (refine zac ?_; first | refine zaa rfl (zba rfl rfl rfl) ?_ | refine zaa rfl (zbb rfl rfl (by omega)) ?_ | refine zaa rfl (zbc rfl rfl (by omega)) ?_ | refine zaa rfl (zbd rfl rfl rfl) ?_ | refine zaa rfl (zbe rfl rfl) ?_ | refine zaa rfl (zbf rfl rfl) ?_ | refine zaa rfl (zbg rfl rfl) ?_ | refine zaa rfl (zbh rfl rfl) ?_ | refine zaa rfl (zbi rfl rfl) ?_ | refine zaa rfl (zbj rfl rfl) ?_ | refine zaa rfl (zbk rfl rfl) ?_ | refine zaa rfl (zbl rfl rfl) ?_) | (refine zad ?_; first | refine zaa rfl (zbo rfl) ?_ | refine zaa rfl (zbm rfl) ?_ | refine zaa rfl (zbn rfl) ?_ | refine zaa rfl (zbp rfl) ?_ | refine zaa rfl (zbq rfl) ?_ | refine zaa rfl (zbr rfl rfl) ?_) | (refine zae ?_; first | refine zaa rfl (zbt rfl rfl (by (repeat (first | exact mh | refine mt ?_)); done) (by omega)) ?_ | refine zaa rfl (zcf rfl rfl (by (repeat (first | exact mh | refine mt ?_)); done) rfl) ?_ | refine zaa rfl (zcg rfl rfl (by (repeat (first | exact mh | refine mt ?_)); done) rfl rfl) ?_ | refine zaa rfl (zch rfl rfl rfl rfl) ?_ | refine zaa rfl (zbu rfl rfl) ?_) | (refine zaf ?_; first | refine zaa rfl (zbs rfl rfl (by omega) (by omega)) ?_ | refine zaa rfl (zbv rfl rfl (by omega) (by omega)) ?_ | refine zaa rfl (zbw rfl rfl (by omega) (by omega)) ?_) | refine zaa rfl (zcd rfl) ?_ | refine zaa rfl (zce rfl) ?_ | refine zaa rfl (zbx rfl) ?_ | refine zaa rfl (zby rfl) ?_ | refine zaa rfl (zbz rfl rfl) ?_ | refine zaa rfl (zca rfl rfl) ?_ | refine zaa rfl (zcb rfl rfl) ?_ | refine zaa rfl (zcc rfl) ?_ | refine zah ?_ | (refine zcr ?_; first | refine zcs ?_ | refine zct ?_ | refine zcu ?_ | refine zcv ?_ | refine zcw ?_ | refine zcx ?_ | refine zcy rfl ?_ | refine zcz ?_ | refine zda ?_) | (refine zdb ?_; first | refine zdc ?_ | refine zdd ?_ | refine zde ?_ | refine zdf ?_ | refine zdg ?_ | refine zdh ?_ | refine zdi rfl ?_ | refine zdj rfl ?_) | (refine zak rfl rfl rfl ?_; intro g) | (refine zal rfl rfl ?_; intro g) | (refine zag ?_; first | refine zam 0 rfl rfl rfl rfl rfl rfl ?_ | refine zam 1 rfl rfl rfl rfl rfl rfl ?_ | refine zan 0 rfl rfl rfl rfl rfl rfl rfl rfl rfl ?_ | refine zan 1 rfl rfl rfl rfl rfl rfl rfl rfl rfl ?_ | refine zao 0 rfl rfl rfl rfl rfl rfl ?_ | refine zao 1 rfl rfl rfl rfl rfl rfl ?_)
    refine done_join ((L.getD at_.toNat default).val : Int) (by omega) ?_ (fun _ h => h)
    (repeat (first | exact Env.sub_nil _ | refine Env.sub_cons rfl ?_))
  · repeat first | refine zai rfl rfl ?_ | refine zaj rfl rfl rfl rfl ?_ | refine zaa rfl (zay rfl) ?_ | refine zaa rfl (zaz rfl) ?_ | (refine zac ?_; first | refine zaa rfl (zba rfl rfl rfl) ?_ | refine zaa rfl (zbb rfl rfl (by omega)) ?_ | refine zaa rfl (zbc rfl rfl (by omega)) ?_ | refine zaa rfl (zbd rfl rfl rfl) ?_ | refine zaa rfl (zbe rfl rfl) ?_ | refine zaa rfl (zbf rfl rfl) ?_ | refine zaa rfl (zbg rfl rfl) ?_ | refine zaa rfl (zbh rfl rfl) ?_ | refine zaa rfl (zbi rfl rfl) ?_ | refine zaa rfl (zbj rfl rfl) ?_ | refine zaa rfl (zbk rfl rfl) ?_ | refine zaa rfl (zbl rfl rfl) ?_) | (refine zad ?_; first | refine zaa rfl (zbo rfl) ?_ | refine zaa rfl (zbm rfl) ?_ | refine zaa rfl (zbn rfl) ?_ | refine zaa rfl (zbp rfl) ?_ | refine zaa rfl (zbq rfl) ?_ | refine zaa rfl (zbr rfl rfl) ?_) | (refine zae ?_; first | refine zaa rfl (zbt rfl rfl (by (repeat (first | exact mh | refine mt ?_)); done) (by omega)) ?_ | refine zaa rfl (zcf rfl rfl (by (repeat (first | exact mh | refine mt ?_)); done) rfl) ?_ | refine zaa rfl (zcg rfl rfl (by (repeat (first | exact mh | refine mt ?_)); done) rfl rfl) ?_ | refine zaa rfl (zch rfl rfl rfl rfl) ?_ | refine zaa rfl (zbu rfl rfl) ?_) | (refine zaf ?_; first | refine zaa rfl (zbs rfl rfl (by omega) (by omega)) ?_ | refine zaa rfl (zbv rfl rfl (by omega) (by omega)) ?_ | refine zaa rfl (zbw rfl rfl (by omega) (by omega)) ?_) | refine zaa rfl (zcd rfl) ?_ | refine zaa rfl (zce rfl) ?_ | refine zaa rfl (zbx rfl) ?_ | refine zaa rfl (zby rfl) ?_ | refine zaa rfl (zbz rfl rfl) ?_ | refine zaa rfl (zca rfl rfl) ?_ | refine zaa rfl (zcb rfl rfl) ?_ | refine zaa rfl (zcc rfl) ?_ | refine zah ?_ | (refine zcr ?_; first | refine zcs ?_ | refine zct ?_ | refine zcu ?_ | refine zcv ?_ | refine zcw ?_ | refine zcx ?_ | refine zcy rfl ?_ | refine zcz ?_ | refine zda ?_) | (refine zdb ?_; first | refine zdc ?_ | refine zdd ?_ | refine zde ?_ | refine zdf ?_ | refine zdg ?_ | refine zdh ?_ | refine zdi rfl ?_ | refine zdj rfl ?_) | (refine zak rfl rfl rfl ?_; intro g) | (refine zal rfl rfl ?_; intro g) | (refine zag ?_; first | refine zam 0 rfl rfl rfl rfl rfl rfl ?_ | refine zam 1 rfl rfl rfl rfl rfl rfl ?_ | refine zan 0 rfl rfl rfl rfl rfl rfl rfl rfl rfl ?_ | refine zan 1 rfl rfl rfl rfl rfl rfl rfl rfl rfl ?_ | refine zao 0 rfl rfl rfl rfl rfl rfl ?_ | refine zao 1 rfl rfl rfl rfl rfl rfl ?_)
    refine done_join (0 : Int) (by omega) ?_ (fun _ h => h)
    (repeat (first | exact Env.sub_nil _ | refine Env.sub_cons rfl ?_))
  repeat first | refine zai rfl rfl ?_ | refine zaj rfl rfl rfl rfl ?_ | refine zaa rfl (zay rfl) ?_ | refine zaa rfl (zaz rfl) ?_ | (refine zac ?_; first | refine zaa rfl (zba rfl rfl rfl) ?_ | refine zaa rfl (zbb rfl rfl (by omega)) ?_ | refine zaa rfl (zbc rfl rfl (by omega)) ?_ | refine zaa rfl (zbd rfl rfl rfl) ?_ | refine zaa rfl (zbe rfl rfl) ?_ | refine zaa rfl (zbf rfl rfl) ?_ | refine zaa rfl (zbg rfl rfl) ?_ | refine zaa rfl (zbh rfl rfl) ?_ | refine zaa rfl (zbi rfl rfl) ?_ | refine zaa rfl (zbj rfl rfl) ?_ | refine zaa rfl (zbk rfl rfl) ?_ | refine zaa rfl (zbl rfl rfl) ?_ | refine zaa rfl (opj_mulW rfl rfl) ?_ | refine zaa rfl (opj_addW rfl rfl) ?_) | (refine zad ?_; first | refine zaa rfl (zbo rfl) ?_ | refine zaa rfl (zbm rfl) ?_ | refine zaa rfl (zbn rfl) ?_ | refine zaa rfl (zbp rfl) ?_ | refine zaa rfl (zbq rfl) ?_ | refine zaa rfl (zbr rfl rfl) ?_) | (refine zae ?_; first | refine zaa rfl (zbt rfl rfl (by (repeat (first | exact mh | refine mt ?_)); done) (by omega)) ?_ | refine zaa rfl (zcf rfl rfl (by (repeat (first | exact mh | refine mt ?_)); done) rfl) ?_ | refine zaa rfl (zcg rfl rfl (by (repeat (first | exact mh | refine mt ?_)); done) rfl rfl) ?_ | refine zaa rfl (zch rfl rfl rfl rfl) ?_ | refine zaa rfl (zbu rfl rfl) ?_) | (refine zaf ?_; first | refine zaa rfl (zbs rfl rfl (by omega) (by omega)) ?_ | refine zaa rfl (zbv rfl rfl (by omega) (by omega)) ?_ | refine zaa rfl (zbw rfl rfl (by omega) (by omega)) ?_) | refine zaa rfl (zcd rfl) ?_ | refine zaa rfl (zce rfl) ?_ | refine zaa rfl (zbx rfl) ?_ | refine zaa rfl (zby rfl) ?_ | refine zaa rfl (zbz rfl rfl) ?_ | refine zaa rfl (zca rfl rfl) ?_ | refine zaa rfl (zcb rfl rfl) ?_ | refine zaa rfl (zcc rfl) ?_ | refine zah ?_ | (refine zcr ?_; first | refine zcs ?_ | refine zct ?_ | refine zcu ?_ | refine zcv ?_ | refine zcw ?_ | refine zcx ?_ | refine zcy rfl ?_ | refine zcz ?_ | refine zda ?_) | (refine zdb ?_; first | refine zdc ?_ | refine zdd ?_ | refine zde ?_ | refine zdf ?_ | refine zdg ?_ | refine zdh ?_ | refine zdi rfl ?_ | refine zdj rfl ?_) | (refine zak rfl rfl rfl ?_; intro g) | (refine zal rfl rfl ?_; intro g) | (refine zag ?_; first | refine zam 0 rfl rfl rfl rfl rfl rfl ?_ | refine zam 1 rfl rfl rfl rfl rfl rfl ?_ | refine zan 0 rfl rfl rfl rfl rfl rfl rfl rfl rfl ?_ | refine zan 1 rfl rfl rfl rfl rfl rfl rfl rfl rfl ?_ | refine zao 0 rfl rfl rfl rfl rfl rfl ?_ | refine zao 1 rfl rfl rfl rfl rfl rfl ?_) | refine zaa rfl (opj_nilCheck rfl) ?_ | refine zaa rfl (opj_iint (k0 := .i64) (k' := .u64) rfl) ?_
  refine ws_draw (n := 10) mixed (by decide +kernel) ?_
  repeat first | refine zaw rfl rfl ?_ | refine zax rfl rfl rfl rfl ?_ | refine zap rfl (zay rfl) ?_ | refine zap rfl (zaz rfl) ?_ | (refine zar ?_; first | refine zap rfl (zba rfl rfl rfl) ?_ | refine zap rfl (zbb rfl rfl (by omega)) ?_ | refine zap rfl (zbc rfl rfl (by omega)) ?_ | refine zap rfl (zbd rfl rfl rfl) ?_ | refine zap rfl (zbe rfl rfl) ?_ | refine zap rfl (zbf rfl rfl) ?_ | refine zap rfl (zbg rfl rfl) ?_ | refine zap rfl (zbh rfl rfl) ?_ | refine zap rfl (zbi rfl rfl) ?_ | refine zap rfl (zbj rfl rfl) ?_ | refine zap rfl (zbk rfl rfl) ?_ | refine zap rfl (zbl rfl rfl) ?_) | (refine zas ?_; first | refine zap rfl (zbo rfl) ?_ | refine zap rfl (zbm rfl) ?_ | refine zap rfl (zbn rfl) ?_ | refine zap rfl (zbp rfl) ?_ | refine zap rfl (zbq rfl) ?_ | refine zap rfl (zbr rfl rfl) ?_) | (refine zat ?_; first | refine zap rfl (zbt rfl rfl (by (repeat (first | exact mh | refine mt ?_)); done) (by omega)) ?_ | refine zap rfl (zcf rfl rfl (by (repeat (first | exact mh | refine mt ?_)); done) rfl) ?_ | refine zap rfl (zcg rfl rfl (by (repeat (first | exact mh | refine mt ?_)); done) rfl rfl) ?_ | refine zap rfl (zch rfl rfl rfl rfl) ?_ | refine zap rfl (zbu rfl rfl) ?_) | (refine zau ?_; first | refine zap rfl (zbs rfl rfl (by omega) (by omega)) ?_ | refine zap rfl (zbv rfl rfl (by omega) (by omega)) ?_ | refine zap rfl (zbw rfl rfl (by omega) (by omega)) ?_) | refine zap rfl (zcd rfl) ?_ | refine zap rfl (zce rfl) ?_ | refine zap rfl (zbx rfl) ?_ | refine zap rfl (zby rfl) ?_ | refine zap rfl (zbz rfl rfl) ?_ | refine zap rfl (zca rfl rfl) ?_ | refine zap rfl (zcb rfl rfl) ?_ | refine zap rfl (zcc rfl) ?_ | refine zav ?_ | refine zap rfl (opj_nilCheck rfl) ?_ | refine zap rfl (zcd rfl) ?_ | refine zap rfl (opj_lenK hk rfl) ?_ | refine zap rfl (zcf (T := 76) rfl rfl mh rfl) ?_
  repeat first | refine zai rfl rfl ?_ | refine zaj rfl rfl rfl rfl ?_ | refine zaa rfl (zay rfl) ?_ | refine zaa rfl (zaz rfl) ?_ | (refine zac ?_; first | refine zaa rfl (zba rfl rfl rfl) ?_ | refine zaa rfl (zbb rfl rfl (by omega)) ?_ | refine zaa rfl (zbc rfl rfl (by omega)) ?_ | refine zaa rfl (zbd rfl rfl rfl) ?_ | refine zaa rfl (zbe rfl rfl) ?_ | refine zaa rfl (zbf rfl rfl) ?_ | refine zaa rfl (zbg rfl rfl) ?_ | refine zaa rfl (zbh rfl rfl) ?_ | refine zaa rfl (zbi rfl rfl) ?_ | refine zaa rfl (zbj rfl rfl) ?_ | refine zaa rfl (zbk rfl rfl) ?_ | refine zaa rfl (zbl rfl rfl) ?_) | (refine zad ?_; first | refine zaa rfl (zbo rfl) ?_ | refine zaa rfl (zbm rfl) ?_ | refine zaa rfl (zbn rfl) ?_ | refine zaa rfl (zbp rfl) ?_ | refine zaa rfl (zbq rfl) ?_ | refine zaa rfl (zbr rfl rfl) ?_) | (refine zae ?_; first | refine zaa rfl (zbt rfl rfl (by (repeat (first | exact mh | refine mt ?_)); done) (by omega)) ?_ | refine zaa rfl (zcf rfl rfl (by (repeat (first | exact mh | refine mt ?_)); done) rfl) ?_ | refine zaa rfl (zcg rfl rfl (by (repeat (first | exact mh | refine mt ?_)); done) rfl rfl) ?_ | refine zaa rfl (zch rfl rfl rfl rfl) ?_ | refine zaa rfl (zbu rfl rfl) ?_) | (refine zaf ?_; first | refine zaa rfl (zbs rfl rfl (by omega) (by omega)) ?_ | refine zaa rfl (zbv rfl rfl (by omega) (by omega)) ?_ | refine zaa rfl (zbw rfl rfl (by omega) (by omega)) ?_) | refine zaa rfl (zcd rfl) ?_ | refine zaa rfl (zce rfl) ?_ | refine zaa rfl (zbx rfl) ?_ | refine zaa rfl (zby rfl) ?_ | refine zaa rfl (zbz rfl rfl) ?_ | refine zaa rfl (zca rfl rfl) ?_ | refine zaa rfl (zcb rfl rfl) ?_ | refine zaa rfl (zcc rfl) ?_ | refine zah ?_ | (refine zcr ?_; first | refine zcs ?_ | refine zct ?_ | refine zcu ?_ | refine zcv ?_ | refine zcw ?_ | refine zcx ?_ | refine zcy rfl ?_ | refine zcz ?_ | refine zda ?_) | (refine zdb ?_; first | refine zdc ?_ | refine zdd ?_ | refine zde ?_ | refine zdf ?_ | refine zdg ?_ | refine zdh ?_ | refine zdi rfl ?_ | refine zdj rfl ?_) | (refine zak rfl rfl rfl ?_; intro g) | (refine zal rfl rfl ?_; intro g) | (refine zag ?_; first | refine zam 0 rfl rfl rfl rfl rfl rfl ?_ | refine zam 1 rfl rfl rfl rfl rfl rfl ?_ | refine zan 0 rfl rfl rfl rfl rfl rfl rfl rfl rfl ?_ | refine zan 1 rfl rfl rfl rfl rfl rfl rfl rfl rfl ?_ | refine zao 0 rfl rfl rfl rfl rfl rfl ?_ | refine zao 1 rfl rfl rfl rfl rfl rfl ?_)
  refine ws_cond rfl (fun hd => ?_) (fun hd => ?_)
  · repeat first | refine zai rfl rfl ?_ | refine zaj rfl rfl rfl rfl ?_ | refine zaa rfl (zay rfl) ?_ | refine zaa rfl (zaz rfl) ?_ | (refine zac ?_; first | refine zaa rfl (zba rfl rfl rfl) ?_ | refine zaa rfl (zbb rfl rfl (by omega)) ?_ | refine zaa rfl (zbc rfl rfl (by omega)) ?_ | refine zaa rfl (zbd rfl rfl rfl) ?_ | refine zaa rfl (zbe rfl rfl) ?_ | refine zaa rfl (zbf rfl rfl) ?_ | refine zaa rfl (zbg rfl rfl) ?_ | refine zaa rfl (zbh rfl rfl) ?_ | refine zaa rfl (zbi rfl rfl) ?_ | refine zaa rfl (zbj rfl rfl) ?_ | refine zaa rfl (zbk rfl rfl) ?_ | refine zaa rfl (zbl rfl rfl) ?_) | (refine zad ?_; first | refine zaa rfl (zbo rfl) ?_ | refine zaa rfl (zbm rfl) ?_ | refine zaa rfl (zbn rfl) ?_ | refine zaa rfl (zbp rfl) ?_ | refine zaa rfl (zbq rfl) ?_ | refine zaa rfl (zbr rfl rfl) ?_) | (refine zae ?_; first | refine zaa rfl (zbt rfl rfl (by (repeat (first | exact mh | refine mt ?_)); done) (by omega)) ?_ | refine zaa rfl (zcf rfl rfl (by (repeat (first | exact mh | refine mt ?_)); done) rfl) ?_ | refine zaa rfl (zcg rfl rfl (by (repeat (first | exact mh | refine mt ?_)); done) rfl rfl) ?_ | refine zaa rfl (zch rfl rfl rfl rfl) ?_ | refine zaa rfl (zbu rfl rfl) ?_) | (refine zaf ?_; first | refine zaa rfl (zbs rfl rfl (by omega) (by omega)) ?_ | refine zaa rfl (zbv rfl rfl (by omega) (by omega)) ?_ | refine zaa rfl (zbw rfl rfl (by omega) (by omega)) ?_) | refine zaa rfl (zcd rfl) ?_ | refine zaa rfl (zce rfl) ?_ | refine zaa rfl (zbx rfl) ?_ | refine zaa rfl (zby rfl) ?_ | refine zaa rfl (zbz rfl rfl) ?_ | refine zaa rfl (zca rfl rfl) ?_ | refine zaa rfl (zcb rfl rfl) ?_ | refine zaa rfl (zcc rfl) ?_ | refine zah ?_ | (refine zcr ?_; first | refine zcs ?_ | refine zct ?_ | refine zcu ?_ | refine zcv ?_ | refine zcw ?_ | refine zcx ?_ | refine zcy rfl ?_ | refine zcz ?_ | refine zda ?_) | (refine zdb ?_; first | refine zdc ?_ | refine zdd ?_ | refine zde ?_ | refine zdf ?_ | refine zdg ?_ | refine zdh ?_ | refine zdi rfl ?_ | refine zdj rfl ?_) | (refine zak rfl rfl rfl ?_; intro g) | (refine zal rfl rfl ?_; intro g) | (refine zag ?_; first | refine zam 0 rfl rfl rfl rfl rfl rfl ?_ | refine zam 1 rfl rfl rfl rfl rfl rfl ?_ | refine zan 0 rfl rfl rfl rfl rfl rfl rfl rfl rfl ?_ | refine zan 1 rfl rfl rfl rfl rfl rfl rfl rfl rfl ?_ | refine zao 0 rfl rfl rfl rfl rfl rfl ?_ | refine zao 1 rfl rfl rfl rfl rfl rfl ?_)
    exact done_ret1 rfl (⟨b, at_ + 1, _⟩ : Dr) rfl ⟨hb.1, hb.2, rfl⟩ (List.Sublist.refl _)
  · repeat first | refine zai rfl rfl ?_ | refine zaj rfl rfl rfl rfl ?_ | refine zaa rfl (zay rfl) ?_ | refine zaa rfl (zaz rfl) ?_ | (refine zac ?_; first | refine zaa rfl (zba rfl rfl rfl) ?_ | refine zaa rfl (zbb rfl rfl (by omega)) ?_ | refine zaa rfl (zbc rfl rfl (by omega)) ?_ | refine zaa rfl (zbd rfl rfl rfl) ?_ | refine zaa rfl (zbe rfl rfl) ?_ | refine zaa rfl (zbf rfl rfl) ?_ | refine zaa rfl (zbg rfl rfl) ?_ | refine zaa rfl (zbh rfl rfl) ?_ | refine zaa rfl (zbi rfl rfl) ?_ | refine zaa rfl (zbj rfl rfl) ?_ | refine zaa rfl (zbk rfl rfl) ?_ | refine zaa rfl (zbl rfl rfl) ?_ | refine zaa rfl (opj_shrW (by omega) rfl rfl) ?_ | refine zaa rfl (opj_andW rfl rfl) ?_) | (refine zad ?_; first | refine zaa rfl (zbo rfl) ?_ | refine zaa rfl (zbm rfl) ?_ | refine zaa rfl (zbn rfl) ?_ | refine zaa rfl (zbp rfl) ?_ | refine zaa rfl (zbq rfl) ?_ | refine zaa rfl (zbr rfl rfl) ?_) | (refine zae ?_; first | refine zaa rfl (zbt rfl rfl (by (repeat (first | exact mh | refine mt ?_)); done) (by omega)) ?_ | refine zaa rfl (zcf rfl rfl (by (repeat (first | exact mh | refine mt ?_)); done) rfl) ?_ | refine zaa rfl (zcg rfl rfl (by (repeat (first | exact mh | refine mt ?_)); done) rfl rfl) ?_ | refine zaa rfl (zch rfl rfl rfl rfl) ?_ | refine zaa rfl (zbu rfl rfl) ?_) | (refine zaf ?_; first | refine zaa rfl (zbs rfl rfl (by omega) (by omega)) ?_ | refine zaa rfl (zbv rfl rfl (by omega) (by omega)) ?_ | refine zaa rfl (zbw rfl rfl (by omega) (by omega)) ?_) | refine zaa rfl (zcd rfl) ?_ | refine zaa rfl (zce rfl) ?_ | refine zaa rfl (zbx rfl) ?_ | refine zaa rfl (zby rfl) ?_ | refine zaa rfl (zbz rfl rfl) ?_ | refine zaa rfl (zca rfl rfl) ?_ | refine zaa rfl (zcb rfl rfl) ?_ | refine zaa rfl (zcc rfl) ?_ | refine zah ?_ | (refine zcr ?_; first | refine zcs ?_ | refine zct ?_ | refine zcu ?_ | refine zcv ?_ | refine zcw ?_ | refine zcx ?_ | refine zcy rfl ?_ | refine zcz ?_ | refine zda ?_) | (refine zdb ?_; first | refine zdc ?_ | refine zdd ?_ | refine zde ?_ | refine zdf ?_ | refine zdg ?_ | refine zdh ?_ | refine zdi rfl ?_ | refine zdj rfl ?_) | (refine zak rfl rfl rfl ?_; intro g) | (refine zal rfl rfl ?_; intro g) | (refine zag ?_; first | refine zam 0 rfl rfl rfl rfl rfl rfl ?_ | refine zam 1 rfl rfl rfl rfl rfl rfl ?_ | refine zan 0 rfl rfl rfl rfl rfl rfl rfl rfl rfl ?_ | refine zan 1 rfl rfl rfl rfl rfl rfl rfl rfl rfl ?_ | refine zao 0 rfl rfl rfl rfl rfl rfl ?_ | refine zao 1 rfl rfl rfl rfl rfl rfl ?_) | refine zaa rfl (opj_nilCheck rfl) ?_ | refine zaa rfl (opj_and255 rfl) ?_
    exact done_ret1 rfl (⟨_, at_ + 1, _⟩ : Dr) rfl ⟨(andW_255 _).1, (andW_255 _).2, rfl⟩ (List.Sublist.refl _)
theorem pick_fn (w1 : World) (g : Nat) (L : List By) (at_ seed : Int) (n : Int) (hn : 2 ≤ n ∧ n ≤ 200) (hat : 0 ≤ at_ ∧ at_ < 2 ^ 40) (hL : L.length < 2 ^ 40) :
    FnH (X := Dr) Tryz.prog 28 (fun w => [srcP w1 g w, .raw (.int .i64 n)]) [srcE w1 g L at_ seed] (fun y => .raw (.int .i64 y.r)) (fun y => [srcE w1 g L y.at_ y.seed]) (fun y => 0 ≤ y.r ∧ y.r < n ∧ y.at_ = at_ + 1) := by
  have hnx := next_fn w1 g L at_ seed hat hL
  refine fn_intro Tryz.func28 rfl Tryz.ntmps28 (fun _ => Nat.le_of_ble_eq_true rfl) fun w0 => ?_
  refine ws_q (t := 0) rfl fun v hv => ?_
  obtain ⟨rfl, hx, hg⟩ := hv
  have hk : KeepW w1 w0 [g] := ⟨hx, fun x hx => by simp at hx; omega⟩
  repeat first | refine zai rfl rfl ?_ | refine zaj rfl rfl rfl rfl ?_ | refine zaa rfl (zay rfl) ?_ | refine zaa rfl (zaz rfl) ?_ | (refine zac ?_; first | refine zaa rfl (zba rfl rfl rfl) ?_ | refine zaa rfl (zbb rfl rfl (by omega)) ?_ | refine zaa rfl (zbc rfl rfl (by omega)) ?_ | refine zaa rfl (zbd rfl rfl rfl) ?_ | refine zaa rfl (zbe rfl rfl) ?_ | refine zaa rfl (zbf rfl rfl) ?_ | refine zaa rfl (zbg rfl rfl) ?_ | refine zaa rfl (zbh rfl rfl) ?_ | refine zaa rfl (zbi rfl rfl) ?_ | refine zaa rfl (zbj rfl rfl) ?_ | refine zaa rfl (zbk rfl rfl) ?_ | refine zaa rfl (zbl rfl rfl) ?_) | (refine zad ?_; first | refine zaa rfl (zbo rfl) ?_ | refine zaa rfl (zbm rfl) ?_ | refine zaa rfl (zbn rfl) ?_ | refine zaa rfl (zbp rfl) ?_ | refine zaa rfl (zbq rfl) ?_ | refine zaa rfl (zbr rfl rfl) ?_) | (refine zae ?_; first | refine zaa rfl (zbt rfl rfl (by (repeat (first | exact mh | refine mt ?_)); done) (by omega)) ?_ | refine zaa rfl (zcf rfl rfl (by (repeat (first | exact mh | refine mt ?_)); done) rfl) ?_ | refine zaa rfl (zcg rfl rfl (by (repeat (first | exact mh | refine mt ?_)); done) rfl rfl) ?_ | refine zaa rfl (zch rfl rfl rfl rfl) ?_ | refine zaa rfl (zbu rfl rfl) ?_) | (refine zaf ?_; first | refine zaa rfl (zbs rfl rfl (by omega) (by omega)) ?_ | refine zaa rfl (zbv rfl rfl (by omega) (by omega)) ?_ | refine zaa rfl (zbw rfl rfl (by omega) (by omega)) ?_) | refine zaa rfl (zcd rfl) ?_ | refine zaa rfl (zce rfl) ?_ | refine zaa rfl (zbx rfl) ?_ | refine zaa rfl (zby rfl) ?_ | refine zaa rfl (zbz rfl rfl) ?_ | refine zaa rfl (zca rfl rfl) ?_ | refine zaa rfl (zcb rfl rfl) ?_ | refine zaa rfl (zcc rfl) ?_ | refine zah ?_ | (refine zcr ?_; first | refine zcs ?_ | refine zct ?_ | refine zcu ?_ | refine zcv ?_ | refine zcw ?_ | refine zcx ?_ | refine zcy rfl ?_ | refine zcz ?_ | refine zda ?_) | (refine zdb ?_; first | refine zdc ?_ | refine zdd ?_ | refine zde ?_ | refine zdf ?_ | refine zdg ?_ | refine zdh ?_ | refine zdi rfl ?_ | refine zdj rfl ?_) | (refine zak rfl rfl rfl ?_; intro g) | (refine zal rfl rfl ?_; intro g) | (refine zag ?_; first | refine zam 0 rfl rfl rfl rfl rfl rfl ?_ | refine zam 1 rfl rfl rfl rfl rfl rfl ?_ | refine zan 0 rfl rfl rfl rfl rfl rfl rfl rfl rfl ?_ | refine zan 1 rfl rfl rfl rfl rfl rfl rfl rfl rfl ?_ | refine zao 0 rfl rfl rfl rfl rfl rfl ?_ | refine zao 1 rfl rfl rfl rfl rfl rfl ?_)
  rw [decide_eq_false (show ¬ n ≤ 1 by omega)]
  repeat first | refine zai rfl rfl ?_ | refine zaj rfl rfl rfl rfl ?_ | refine zaa rfl (zay rfl) ?_ | refine zaa rfl (zaz rfl) ?_ | (refine zac ?_; first | refine zaa rfl (zba rfl rfl rfl) ?_ | refine zaa rfl (zbb rfl rfl (by omega)) ?_ | refine zaa rfl (zbc rfl rfl (by omega)) ?_ | refine zaa rfl (zbd rfl rfl rfl) ?_ | refine zaa rfl (zbe rfl rfl) ?_ | refine zaa rfl (zbf rfl rfl) ?_ | refine zaa rfl (zbg rfl rfl) ?_ | refine zaa rfl (zbh rfl rfl) ?_ | refine zaa rfl (zbi rfl rfl) ?_ | refine zaa rfl (zbj rfl rfl) ?_ | refine zaa rfl (zbk rfl rfl) ?_ | refine zaa rfl (zbl rfl rfl) ?_) | (refine zad ?_; first | refine zaa rfl (zbo rfl) ?_ | refine zaa rfl (zbm rfl) ?_ | refine zaa rfl (zbn rfl) ?_ | refine zaa rfl (zbp rfl) ?_ | refine zaa rfl (zbq rfl) ?_ | refine zaa rfl (zbr rfl rfl) ?_) | (refine zae ?_; first | refine zaa rfl (zbt rfl rfl (by (repeat (first | exact mh | refine mt ?_)); done) (by omega)) ?_ | refine zaa rfl (zcf rfl rfl (by (repeat (first | exact mh | refine mt ?_)); done) rfl) ?_ | refine zaa rfl (zcg rfl rfl (by (repeat (first | exact mh | refine mt ?_)); done) rfl rfl) ?_ | refine zaa rfl (zch rfl rfl rfl rfl) ?_ | refine zaa rfl (zbu rfl rfl) ?_) | (refine zaf ?_; first | refine zaa rfl (zbs rfl rfl (by omega) (by omega)) ?_ | refine zaa rfl (zbv rfl rfl (by omega) (by omega)) ?_ | refine zaa rfl (zbw rfl rfl (by omega) (by omega)) ?_) | refine zaa rfl (zcd rfl) ?_ | refine zaa rfl (zce rfl) ?_ | refine zaa rfl (zbx rfl) ?_ | refine zaa rfl (zby rfl) ?_ | refine zaa rfl (zbz rfl rfl) ?_ | refine zaa rfl (zca rfl rfl) ?_ | refine zaa rfl (zcb rfl rfl) ?_ | refine zaa rfl (zcc rfl) ?_ | refine zah ?_ | (refine zcr ?_; first | refine zcs ?_ | refine zct ?_ | refine zcu ?_ | refine zcv ?_ | refine zcw ?_ | refine zcx ?_ | refine zcy rfl ?_ | refine zcz ?_ | refine zda ?_) | (refine zdb ?_; first | refine zdc ?_ | refine zdd ?_ | refine zde ?_ | refine zdf ?_ | refine zdg ?_ | refine zdh ?_ | refine zdi rfl ?_ | refine zdj rfl ?_) | (refine zak rfl rfl rfl ?_; intro g) | (refine zal rfl rfl ?_; intro g) | (refine zag ?_; first | refine zam 0 rfl rfl rfl rfl rfl rfl ?_ | refine zam 1 rfl rfl rfl rfl rfl rfl ?_ | refine zan 0 rfl rfl rfl rfl rfl rfl rfl rfl rfl ?_ | refine zan 1 rfl rfl rfl rfl rfl rfl rfl rfl rfl ?_ | refine zao 0 rfl rfl rfl rfl rfl rfl ?_ | refine zao 1 rfl rfl rfl rfl rfl rfl ?_) | (refine rs_callAt 0 hnx rfl rfl rfl (Takes.srcP hk hg Takes.nil) rfl ?_; rintro ⟨r, a2, s2⟩ ⟨hr1, hr2, hr3⟩)
  rw [decide_eq_false (show ¬ (200 : Int) < n by omega)]
  simp only at hr1 hr2 hr3
  repeat first | refine zai rfl rfl ?_ | refine zaj rfl rfl rfl rfl ?_ | refine zaa rfl (zay rfl) ?_ | refine zaa rfl (zaz rfl) ?_ | (refine zac ?_; first | refine zaa rfl (zba rfl rfl rfl) ?_ | refine zaa rfl (zbb rfl rfl (by omega)) ?_ | refine zaa rfl (zbc rfl rfl (by omega)) ?_ | refine zaa rfl (zbd rfl rfl rfl) ?_ | refine zaa rfl (zbe rfl rfl) ?_ | refine zaa rfl (zbf rfl rfl) ?_ | refine zaa rfl (zbg rfl rfl) ?_ | refine zaa rfl (zbh rfl rfl) ?_ | refine zaa rfl (zbi rfl rfl) ?_ | refine zaa rfl (zbj rfl rfl) ?_ | refine zaa rfl (zbk rfl rfl) ?_ | refine zaa rfl (zbl rfl rfl) ?_ | refine zaa rfl (zcq rfl rfl (by omega) (by omega)) ?_) | (refine zad ?_; first | refine zaa rfl (zbo rfl) ?_ | refine zaa rfl (zbm rfl) ?_ | refine zaa rfl (zbn rfl) ?_ | refine zaa rfl (zbp rfl) ?_ | refine zaa rfl (zbq rfl) ?_ | refine zaa rfl (zbr rfl rfl) ?_) | (refine zae ?_; first | refine zaa rfl (zbt rfl rfl (by (repeat (first | exact mh | refine mt ?_)); done) (by omega)) ?_ | refine zaa rfl (zcf rfl rfl (by (repeat (first | exact mh | refine mt ?_)); done) rfl) ?_ | refine zaa rfl (zcg rfl rfl (by (repeat (first | exact mh | refine mt ?_)); done) rfl rfl) ?_ | refine zaa rfl (zch rfl rfl rfl rfl) ?_ | refine zaa rfl (zbu rfl rfl) ?_) | (refine zaf ?_; first | refine zaa rfl (zbs rfl rfl (by omega) (by omega)) ?_ | refine zaa rfl (zbv rfl rfl (by omega) (by omega)) ?_ | refine zaa rfl (zbw rfl rfl (by omega) (by omega)) ?_) | refine zaa rfl (zcd rfl) ?_ | refine zaa rfl (zce rfl) ?_ | refine zaa rfl (zbx rfl) ?_ | refine zaa rfl (zby rfl) ?_ | refine zaa rfl (zbz rfl rfl) ?_ | refine zaa rfl (zca rfl rfl) ?_ | refine zaa rfl (zcb rfl rfl) ?_ | refine zaa rfl (zcc rfl) ?_ | refine zah ?_ | (refine zcr ?_; first | refine zcs ?_ | refine zct ?_ | refine zcu ?_ | refine zcv ?_ | refine zcw ?_ | refine zcx ?_ | refine zcy rfl ?_ | refine zcz ?_ | refine zda ?_) | (refine zdb ?_; first | refine zdc ?_ | refine zdd ?_ | refine zde ?_ | refine zdf ?_ | refine zdg ?_ | refine zdh ?_ | refine zdi rfl ?_ | refine zdj rfl ?_) | (refine zak rfl rfl rfl ?_; intro g) | (refine zal rfl rfl ?_; intro g) | (refine zag ?_; first | refine zam 0 rfl rfl rfl rfl rfl rfl ?_ | refine zam 1 rfl rfl rfl rfl rfl rfl ?_ | refine zan 0 rfl rfl rfl rfl rfl rfl rfl rfl rfl ?_ | refine zan 1 rfl rfl rfl rfl rfl rfl rfl rfl rfl ?_ | refine zao 0 rfl rfl rfl rfl rfl rfl ?_ | refine zao 1 rfl rfl rfl rfl rfl rfl ?_)
  exact done_ret1 rfl (⟨_, a2, s2⟩ : Dr) rfl ⟨Int.emod_nonneg _ (by omega), Int.emod_lt_of_pos _ (by omega), hr3⟩ (List.Sublist.refl _)
end Go.Ab
namespace Go.Ab
open Go.Proofs
section
variable {P : Program} {N : Nat} {S : World → Prop} {e : Env} {Q : Exit → Env → World → Prop} {ops : Array Oper} {l : List Oper}
variable {w0 w1 : World} {gs : List Nat} {H : List Ent} {dst : Option Tmp} {ty : TypeId} {pos : String} {after : Array Edge} {guard : Option (Nat × Bool)}
theorem opj_binR {op : BinOp} {t t' : TypeId} {X Y : Operand} {x y v : Value} (hx : e.ev X = some (.raw x)) (hy : e.ev Y = some (.raw y)) (hg : ∀ w, (eqGuard op t X Y x y).run P w = .ok () w) (hr : ∀ w, (binOp op t x y).run P w = .ok v w) :
    OpJ P S e ⟨dst, .binOp op t X Y t', ty, pos, after, guard⟩ (.raw v) :=
  opj_value fun a w _ h => by
    have h1 := (h X (by simp [Op.operands]) _ hx).inv_raw
    have h2 := (h Y (by simp [Op.operands]) _ hy).inv_raw
    exact ⟨_, w, by simp [execOp, h1, h2, hg, hr], Ext.refl _, .raw⟩
theorem opj_unR {op : UnOp} {t : TypeId} {X : Operand} {x v : Value} (hx : e.ev X = some (.raw x)) (hr : ∀ w, (Op.unary op x).run P w = .ok v w) : OpJ P S e ⟨dst, .unOp op t X, ty, pos, after, guard⟩ (.raw v) :=
  opj_value fun a w _ h => by
    have h1 := (h X (by simp [Op.operands]) _ hx).inv_raw
    exact ⟨_, w, by simp [execOp, h1, hr], Ext.refl _, .raw⟩
theorem opj_sadd {t t' : TypeId} {X Y : Operand} {x y : ByteArray} (hx : e.ev X = some (.raw (.string x))) (hy : e.ev Y = some (.raw (.string y))) (hn : x.size + y.size ≤ 1000000) :
    OpJ P S e ⟨dst, .binOp .add t X Y t', ty, pos, after, guard⟩ (.raw (.string (x ++ y))) :=
  opj_binR hx hy (fun _ => rfl) fun w => by
    have : ¬ (IntKind.i64.max < ((x.size + y.size : Nat) : Int)) := by
      have : IntKind.i64.max = 9223372036854775807 := by decide
      omega
    simp only [binOp, Op.stringOp, gt_iff_lt, if_neg this]
    rfl
theorem opj_seq {t t' : TypeId} {X Y : Operand} {x y : ByteArray} (hx : e.ev X = some (.raw (.string x))) (hy : e.ev Y = some (.raw (.string y))) :
    OpJ P S e ⟨dst, .binOp .eql t X Y t', ty, pos, after, guard⟩ (.raw (.bool (x.toList == y.toList))) := opj_binR hx hy (fun _ => rfl) fun _ => rfl
theorem opj_sne {t t' : TypeId} {X Y : Operand} {x y : ByteArray} (hx : e.ev X = some (.raw (.string x))) (hy : e.ev Y = some (.raw (.string y))) :
    OpJ P S e ⟨dst, .binOp .neq t X Y t', ty, pos, after, guard⟩ (.raw (.bool (!(x.toList == y.toList)))) := opj_binR hx hy (fun _ => rfl) fun _ => rfl
theorem opj_slen {t t2 : TypeId} [hu : TyU P t .string] {X : Operand} {x : ByteArray} (hx : e.ev X = some (.raw (.string x))) :
    OpJ P S e ⟨dst, .call { callee := .builtin .len, args := #[X], argTypes := #[t] }, t2, pos, after, guard⟩ (.raw (.int .i64 (x.size : Int))) :=
  opj_value fun a w _ h => by
    have h1 := (h X (by simp [Op.operands, Call.operands]) _ hx).inv_raw
    exact ⟨_, w, by simp [execOp, resolve, invoke, builtin, Builtin.len_, run_underlying hu.h, h1, goInt], Ext.refl _, .raw⟩
theorem opj_scut_l {t : TypeId} [hu : TyU P t .string] {X : Operand} {x : ByteArray} {c : Nat} (hx : e.ev X = some (.raw (.string x))) (hc : c ≤ x.size) :
    OpJ P S e ⟨dst, .slice t X none (some (.const (.int .i64 (c : Int)))) none, ty, pos, after, guard⟩ (.raw (.string (x.extract 0 c))) :=
  opj_value fun a w _ h => by
    have h1 := (h X (by simp [Op.operands]) _ hx).inv_raw
    have h2 : ((c : Nat) : Int) ≤ (x.size : Int) := by omega
    have h3 : (0 : Int) ≤ (c : Int) := by omega
    have he : a.eval (.const (.int .i64 (c : Int))) = .int .i64 (c : Int) := rfl
    refine ⟨.string (x.extract 0 c), w, ?_, Ext.refl _, .raw⟩
    simp [execOp, h1, Instr.sliceAt, Instr.slice, run_underlying hu.h, Instr.sliceBounds, Instr.sliceBound, asIntOf, he, h2, h3, hc]
theorem opj_scut_h {t : TypeId} [hu : TyU P t .string] {X : Operand} {x : ByteArray} {c : Nat} (hx : e.ev X = some (.raw (.string x))) (hc : c ≤ x.size) :
    OpJ P S e ⟨dst, .slice t X (some (.const (.int .i64 (c : Int)))) none none, ty, pos, after, guard⟩ (.raw (.string (x.extract c x.size))) :=
  opj_value fun a w _ h => by
    have h1 := (h X (by simp [Op.operands]) _ hx).inv_raw
    have h2 : ((c : Nat) : Int) ≤ (x.size : Int) := by omega
    have h3 : (0 : Int) ≤ (c : Int) := by omega
    have he : a.eval (.const (.int .i64 (c : Int))) = .int .i64 (c : Int) := rfl
    refine ⟨.string (x.extract c x.size), w, ?_, Ext.refl _, .raw⟩
    simp [execOp, h1, Instr.sliceAt, Instr.slice, run_underlying hu.h, Instr.sliceBounds, Instr.sliceBound, asIntOf, he, h2, h3, hc]
theorem opj_sindex {t : TypeId} [hu : TyU P t .string] {X I : Operand} {x : ByteArray} {k : IntKind} {i : Int} {b : UInt8} (hx : e.ev X = some (.raw (.string x))) (hI : e.ev I = some (.raw (.int k i))) (h0 : 0 ≤ i) (hb : x[i.toNat]? = some b) :
    OpJ P S e ⟨dst, .index t X I, ty, pos, after, guard⟩ (.raw (.int .u8 (b.toNat : Int))) :=
  opj_value fun a w _ h => by
    have h1 := (h X (by simp [Op.operands]) _ hx).inv_raw
    have h2 := (h I (by simp [Op.operands]) _ hI).inv_raw
    exact ⟨_, w, by simp [execOp, h1, h2, Instr.index, asIntOf, run_underlying hu.h, h0, hb], Ext.refl _, .raw⟩
/-- A text's bytes. -/
def byteV (b : UInt8) : AV := .raw (.int .u8 (b.toNat : Int))
theorem ext_drew_alloc (w : World) (o : Obj) : Ext w (w.drew.alloc o) := (Ext.of_quiet (w := w) (w' := w.drew) (.inr rfl)).trans (Ext.alloc _ _)
theorem opj_s2b {src dt el : TypeId} [hs : TyU P src .string] [hd : TyU P dt (.slice el)] [he : TyU P el (.int .u8)] {X : Operand} {x : ByteArray} (hx : e.ev X = some (.raw (.string x))) (hn : x.size ≤ 1000000) :
    OpJ P S e ⟨dst, .convert src dt X, ty, pos, after, guard⟩ (AV.lit (x.data.toList.map byteV)) :=
  opj_value fun a w _ h => by
    have h1 := (h X (by simp [Op.operands]) _ hx).inv_raw
    refine ⟨_, _, by simp only [execOp, h1]; rw [Sem.run_bind, run_bytes_of_string w src dt el x hs.h hd.h he.h]; rfl, ext_drew_alloc _ _, .p (mono_lit _) ?_⟩
    refine ⟨some ⟨w.heap.size, 0, none⟩, x.size, _, rfl, by simp, grownCap_ge _ _ _ _, grownCap_le_maxLen _ _ _ _ (by simp only [maxLen]; omega), fun i y hy => ⟨_, rfl, rfl, ?_⟩⟩
    simp only [List.getElem?_map, Option.map_eq_some_iff] at hy
    obtain ⟨b, hb, rfl⟩ := hy
    refine ⟨.int .u8 b.toNat, ?_, fun _ => .raw⟩
    have := World.cell?_alloc_mark w.drew (bytesRow x (grownCap w x.size 0 el)) el ((bytesRow x (grownCap w x.size 0 el)).size, (bytesRow x (grownCap w x.size 0 el)).size + 1) i
    rw [show 0 + i = i by omega]
    refine Eq.trans this ?_
    unfold bytesRow
    have hi : i < x.data.toList.length := (List.getElem?_eq_some_iff.1 hb).1
    rw [Array.getElem?_append_left (by simpa using hi), Array.getElem?_map]
    rw [Array.getElem?_toList] at hb
    rw [hb]
    rfl
theorem opj_lenL {xs : List AV} {X : Operand} {t t2 el : TypeId} [hu : TyU P t (.slice el)] (hx : e.ev X = some (AV.lit xs)) :
    OpJ P S e ⟨dst, .call { callee := .builtin .len, args := #[X], argTypes := #[t] }, t2, pos, after, guard⟩ (.raw (.int .i64 (xs.length : Int))) :=
  opj_value fun a w hS h => by
    obtain ⟨ad, len, cap, hv, hl, _, _, _⟩ := ((h X (by simp [Op.operands, Call.operands]) _ hx).inv_p.2 : Rd w 1 _ _)
    refine ⟨_, w, ?_, Ext.refl _, .raw⟩
    have : xs.length = len := by omega
    rw [this]
    simp [execOp, resolve, invoke, builtin, Builtin.len_, run_underlying hu.h, hv, goInt]
theorem opj_indexL {xs : List AV} {x : AV} {X I : Operand} {i : Int} {t : TypeId} {b : Nat} {z : Value} {el : TypeId} [hu : TyU P t (.slice el)] [hi : TyI P el z 1 b]
    (hx : e.ev X = some (AV.lit xs)) (hI : e.ev I = some (.raw (.int .i64 i))) (h0 : 0 ≤ i) (hg : xs[i.toNat]? = some x) : OpJ P S e ⟨dst, .indexAddr t X I, ty, pos, after, guard⟩ (AV.ptr [x]) :=
  opj_value fun a w hS h => by
    obtain ⟨ad, len, cap, hv, hl, hc, hm, hr⟩ := ((h X (by simp [Op.operands]) _ hx).inv_p.2 : Rd w 1 _ _)
    have h2 := (h I (by simp [Op.operands]) _ hI).inv_raw
    have hlt := (List.getElem?_eq_some_iff.1 hg).1
    obtain ⟨bb, hbb, hsp, u, hu', hev⟩ := hr _ _ hg
    subst hbb
    have hil' : i < (len : Int) := by omega
    refine ⟨_, w, ?_, Ext.refl _, .p (mono_ptrTo _) (?_ : PtrTo _ w (.pointer (some (bb.add (i.toNat * 1)))))⟩
    · simp [execOp, h2, hv, Instr.indexAt, asIntOf, run_underlying hu.h, run_size hi, h0, hil']
    · rw [addr_add bb hsp, Nat.mul_one]
      refine ⟨_, rfl, rfl, fun j y hj => ?_⟩
      cases j with
      | succ j => simp at hj
      | zero =>
        simp only [List.getElem?_cons_zero, Option.some.injEq] at hj
        subst hj
        exact ⟨u, hu', hev⟩
/-- A row of the call's own, cut at its front: its last bytes. -/
theorem opj_acut {t el : TypeId} {n b : Nat} {z : Value} [hu : TyU P t (.array n el)] [hi : TyI P el z 1 b] {X I : Operand} {g i : Nat} (hx : e.ev X = some (.raw (.pointer (some ⟨g, 0, none⟩)))) (hI : e.ev I = some (.raw (.int .i64 (i : Int)))) (h0 : i < n) (h1 : 1 ≤ i) :
    OpJ P S e ⟨dst, .slice t X (some I) none none, ty, pos, after, guard⟩ (.raw (.slice (some ⟨g, i, none⟩) (n - i) (n - i))) :=
  opj_value fun a w _ h => by
    have e1 := (h X (by simp [Op.operands]) _ hx).inv_raw
    have e2 := (h I (by simp [Op.operands]) _ hI).inv_raw
    have h3 : (0 : Int) ≤ (i : Int) := by omega
    have h4 : (i : Int) ≤ (n : Int) := by omega
    have h5 : ¬ n = i := by omega
    have h6 : i ≤ n := by omega
    refine ⟨_, w, ?_, Ext.refl _, .raw⟩
    have := addr_add ⟨g, 0, none⟩ rfl i
    simp only [Nat.zero_add] at this
    simp [execOp, e1, e2, Instr.sliceAt, Instr.slice, run_underlying hu.h, Instr.sliceBounds, Instr.sliceBound, asIntOf, h3, h4, h5, h6, run_size hi, this, Instr.sureAddr]
theorem opj_b2s {R0 : World → Prop} {src dt el : TypeId} [hs : TyU P src (.slice el)] [he : TyU P el (.int .u8)] [hd : TyU P dt .string] {X : Operand} {g i m c csz : Nat} {T : TypeId} {xs : List AV} {l : List UInt8} (hx : e.ev X = some (.raw (.slice (some ⟨g, i, none⟩) m c))) (hm : (⟨g, T, xs, csz⟩ : Ent) ∈ H) (hl : l.length = m) (hxs : ∀ j b, l[j]? = some b → xs[i + j]? = some (byteV b)) :
    OpJ P (StR R0 w0 gs H) e ⟨dst, .convert src dt X, ty, pos, after, guard⟩ (.raw (.string ⟨l.toArray⟩)) :=
  opj_value fun a w hS h => by
    have e1 := (h X (by simp [Op.operands]) _ hx).inv_raw
    subst hl
    refine ⟨_, w, ?_, Ext.refl _, .raw⟩
    simp only [execOp, e1]
    rw [Sem.run_bind, run_convert_bytes_back w src dt el ⟨g, i, none⟩ c l hs.h he.h hd.h (fun j hj => ?_)]
    · rfl
    · obtain ⟨cur, hb, hcs, hev⟩ := (hS.own _ hm).2
      obtain ⟨u, hu, hv⟩ := hev (i + j) _ (hxs j _ (List.getElem?_eq_getElem hj))
      obtain rfl : u = .int .u8 ((l[j].toNat : Nat) : Int) := (hv w).inv_raw
      rw [addr_add ⟨g, i, none⟩ rfl j]
      simp only [World.cell?] at hb ⊢
      simp [hb, hu]
end
end Go.Ab
namespace Go.Ab
open Go.Proofs
variable {R : World → Prop} [RStab R]
instance hbP0 : HasBody Tryz.prog 97 := ⟨⟨Tryz.f97, Tryz.func97, rfl, by kernel_rfl⟩⟩
instance hbP1 : HasBody Tryz.prog 79 := ⟨⟨Tryz.f79, Tryz.func79, rfl, by kernel_rfl⟩⟩
instance hbP2 : HasBody Tryz.prog 65 := ⟨⟨Tryz.f65, Tryz.func65, rfl, by kernel_rfl⟩⟩
instance hbP3 : HasBody Tryz.prog 73 := ⟨⟨Tryz.f73, Tryz.func73, rfl, by kernel_rfl⟩⟩
instance hbP4 : HasBody Tryz.prog 88 := ⟨⟨Tryz.f88, Tryz.func88, rfl, by kernel_rfl⟩⟩
instance tiStr : TyI Tryz.prog 9 (.string ⟨#[]⟩) 1 16 := ⟨⟨(Tryz.prog.info? 9).getD default, by kernel_rfl, by kernel_rfl, by kernel_rfl, by kernel_rfl⟩⟩
/-- A value that stands beside a fact on the world. -/
def AV.w (w : World) (Φ : World → Prop) (x : AV) : AV := .q fun u => Rel w x u ∧ Φ w
section
variable {P : Program} {N : Nat} {S : World → Prop} {e : Env} {Q : Exit → Env → World → Prop} {w0 w1 : World} {gs : List Nat} {H : List Ent} {Φ : World → Prop}
theorem ws_w {c : Code} {x : AV} (t : Nat) (h : e.look t = some (AV.w w1 Φ x)) (hs : x.still = true) (hk : Φ w1 → WS P N c ((t, x) :: e) S Q) : WS P N c e S Q := fun a w hS hF => by
  obtain ⟨u, hu, hr⟩ := hF.rel t _ h
  obtain ⟨h1, h2⟩ := hr.inv_q
  refine hk h2 a w hS ⟨hF.defers, hF.size, fun s v hs' => ?_⟩
  simp only [Env.look] at hs'
  cases hb : Nat.beq t s with
  | true =>
    have := Nat.eq_of_beq_eq_true hb
    subst this
    simp only [hb, Option.some.injEq] at hs'
    subst hs'
    exact ⟨u, hu, h1.any hs⟩
  | false =>
    simp only [hb] at hs'
    exact hF.rel s v hs'
theorem Takes.w {args : List AV} {X : World → AV} {A : World → List AV} (hΦ : ∀ w, S w → Φ w) (h : Takes S args (fun w => X w :: A w)) : Takes S args (fun w => AV.w w Φ (X w) :: A w) := fun w vs hS hr => by
  have := h w vs hS hr
  obtain ⟨v, r, rfl, hv, hrr⟩ := this.inv_cons
  exact .cons (.q ⟨hv, hΦ w hS⟩) hrr
end
/-- The library's table bears what is asked of it. -/
def Tab64 (w : World) : Prop := w.cell? ⟨6, 15, none⟩ = some (.int .u8 4)
theorem Tab64.at {R0 : World → Prop} {w0 : World} {H : List Ent} (h : Tab64 w0) : ∀ w, StR R0 w0 [] H w → Tab64 w := fun _ hS => hS.ext0.cell h
def hexD (d : Nat) : UInt8 := UInt8.ofNat (if d < 10 then 48 + d else 87 + d)
def dgt (n j : Nat) : UInt8 := hexD (n / 16 ^ j % 16)
def lowD (n m : Nat) : List UInt8 := (List.range m).map fun i => dgt n (m - 1 - i)
theorem lowD_len (n m : Nat) : (lowD n m).length = m := by simp [lowD]
/-- The row in which they are written, behind some rounds. -/
def rowV (n k : Nat) : List AV := (List.range 65).map fun j => byteV (if 65 ≤ j + k then dgt n (64 - j) else 0)
theorem rowV_len (n k : Nat) : (rowV n k).length = 65 := by simp [rowV]
theorem rowV_zero (n : Nat) : rowV n 0 = List.replicate 65 (byteV 0) := by
  refine List.ext_getElem? fun i => ?_
  unfold rowV
  rw [List.getElem?_map, List.getElem?_replicate]
  by_cases hi : i < 65
  · rw [List.getElem?_range hi, if_pos hi, Option.map_some, if_neg (by omega)]
  · rw [List.getElem?_eq_none (by simpa using hi), if_neg hi]
    rfl
theorem rowV_set (n k : Nat) (hk : k < 65) : (rowV n k).set (64 - k) (byteV (dgt n k)) = rowV n (k + 1) := by
  refine List.ext_getElem? fun i => ?_
  rw [List.getElem?_set, rowV_len]
  by_cases h : 64 - k = i
  · subst h
    rw [if_pos rfl, if_pos (by omega)]
    unfold rowV
    rw [List.getElem?_map, List.getElem?_range (by omega), Option.map_some, if_pos (by omega), show 64 - (64 - k) = k by omega]
  · rw [if_neg h]
    unfold rowV
    rw [List.getElem?_map, List.getElem?_map]
    by_cases hi : i < 65
    · rw [List.getElem?_range hi, Option.map_some, Option.map_some]
      by_cases h2 : 65 ≤ i + k
      · rw [if_pos h2, if_pos (by omega)]
      · rw [if_neg h2, if_neg (by omega)]
    · rw [List.getElem?_eq_none (by simpa using hi)]
      rfl
theorem rowV_at (n m : Nat) (hm : m ≤ 65) (j : Nat) (b : UInt8) (h : (lowD n m)[j]? = some b) : (rowV n m)[65 - m + j]? = some (byteV b) := by
  have hj : j < m := by have := (List.getElem?_eq_some_iff.1 h).1; rwa [lowD_len] at this
  unfold lowD at h
  rw [List.getElem?_map, List.getElem?_range hj, Option.map_some] at h
  cases h
  unfold rowV
  rw [List.getElem?_map, List.getElem?_range (by omega), Option.map_some, if_pos (by omega), show 64 - (65 - m + j) = m - 1 - j by omega]
def digS : ByteArray := { data := #[48, 49, 50, 51, 52, 53, 54, 55, 56, 57, 97, 98, 99, 100, 101, 102, 103, 104, 105, 106, 107, 108, 109, 110, 111, 112, 113, 114, 115, 116, 117, 118, 119, 120, 121, 122] }
theorem digS_at (d : Nat) (h : d < 16) : digS[d]? = some (hexD d) := by
  have : ∀ d : Fin 16, digS[d.1]? = some (hexD d.1) := by decide +kernel
  exact this ⟨d, h⟩
section
variable {P : Program} {S : World → Prop} {e : Env} {dst : Option Tmp} {ty : TypeId} {pos : String} {after : Array Edge} {guard : Option (Nat × Bool)} {w0 : World} {gs : List Nat} {H : List Ent}
/-- A place of a row of bytes. -/
theorem opj_aindex {t el : TypeId} {n : Nat} {X I : Operand} {g : Nat} {k : IntKind} {i : Int} {z : Value} {b : Nat} [hu : TyU P t (.array n el)] [hi : TyI P el z 1 b] (hx : e.ev X = some (.raw (.pointer (some ⟨g, 0, none⟩)))) (hI : e.ev I = some (.raw (.int k i))) (h0 : 0 ≤ i) (h1 : i < (n : Int)) :
    OpJ P S e ⟨dst, .indexAddr t X I, ty, pos, after, guard⟩ (.raw (.pointer (some ⟨g, i.toNat, none⟩))) :=
  opj_value fun a w hS h => by
    have h1' := (h X (by simp [Op.operands]) _ hx).inv_raw
    have h2 := (h I (by simp [Op.operands]) _ hI).inv_raw
    refine ⟨_, w, ?_, Ext.refl _, .raw⟩
    have := addr_add ⟨g, 0, none⟩ rfl i.toNat
    simp only [Nat.zero_add] at this
    simp [execOp, h1', h2, Instr.indexAt, Instr.sureAddr, asIntOf, run_underlying hu.h, run_size hi, h0, h1, this]
theorem opj_loadG {R0 : World → Prop} {t : TypeId} {d : TypeDesc} [hd : TyU P t d] (ha : aggD d = false) {X : Operand} {g i : Nat} {v : Value} (hx : e.ev X = some (.raw (.pointer (some ⟨g, i, none⟩)))) (hc : ∀ w, StR R0 w0 gs H w → w.cell? ⟨g, i, none⟩ = some v) :
    OpJ P (StR R0 w0 gs H) e ⟨dst, .load t X, ty, pos, after, guard⟩ (.raw v) :=
  opj_value fun a w hS h => by
    have h1 := (h X (by simp [Op.operands]) _ hx).inv_raw
    exact ⟨v, w, by simp [execOp, h1, Instr.loadAt, Instr.sureAddr, run_loadVar_cell hd.h ha (hc w hS)], Ext.refl _, .raw⟩
end
attribute [local irreducible] WS RS Done OpJ Then InBlock Round Ret Env.sub FnH
theorem isPow_fn : Fn Tryz.prog 97 (fun _ => [.raw (.int .i64 16)]) (.raw (.bool true)) := by
  refine fn_intro Tryz.func97 rfl Tryz.ntmps97 (fun _ => Nat.le_of_ble_eq_true rfl) fun w0 => ?_
  repeat first | refine zai rfl rfl ?_ | refine zaj rfl rfl rfl rfl ?_ | refine zaa rfl (zay rfl) ?_ | refine zaa rfl (zaz rfl) ?_ | (refine zac ?_; first | refine zaa rfl (zba rfl rfl rfl) ?_ | refine zaa rfl (zbb rfl rfl (by omega)) ?_ | refine zaa rfl (zbc rfl rfl (by omega)) ?_ | refine zaa rfl (zbd rfl rfl rfl) ?_ | refine zaa rfl (zbe rfl rfl) ?_ | refine zaa rfl (zbf rfl rfl) ?_ | refine zaa rfl (zbg rfl rfl) ?_ | refine zaa rfl (zbh rfl rfl) ?_ | refine zaa rfl (zbi rfl rfl) ?_ | refine zaa rfl (zbj rfl rfl) ?_ | refine zaa rfl (zbk rfl rfl) ?_ | refine zaa rfl (zbl rfl rfl) ?_ | refine zaa rfl (opj_binR (v := .int .i64 0) rfl rfl (fun _ => rfl) (fun _ => by kernel_rfl)) ?_) | (refine zad ?_; first | refine zaa rfl (zbo rfl) ?_ | refine zaa rfl (zbm rfl) ?_ | refine zaa rfl (zbn rfl) ?_ | refine zaa rfl (zbp rfl) ?_ | refine zaa rfl (zbq rfl) ?_ | refine zaa rfl (zbr rfl rfl) ?_) | (refine zae ?_; first | refine zaa rfl (zbt rfl rfl (by (repeat (first | exact mh | refine mt ?_)); done) (by omega)) ?_ | refine zaa rfl (zcf rfl rfl (by (repeat (first | exact mh | refine mt ?_)); done) rfl) ?_ | refine zaa rfl (zcg rfl rfl (by (repeat (first | exact mh | refine mt ?_)); done) rfl rfl) ?_ | refine zaa rfl (zch rfl rfl rfl rfl) ?_ | refine zaa rfl (zbu rfl rfl) ?_) | (refine zaf ?_; first | refine zaa rfl (zbs rfl rfl (by omega) (by omega)) ?_ | refine zaa rfl (zbv rfl rfl (by omega) (by omega)) ?_ | refine zaa rfl (zbw rfl rfl (by omega) (by omega)) ?_) | refine zaa rfl (zcd rfl) ?_ | refine zaa rfl (zce rfl) ?_ | refine zaa rfl (zbx rfl) ?_ | refine zaa rfl (zby rfl) ?_ | refine zaa rfl (zbz rfl rfl) ?_ | refine zaa rfl (zca rfl rfl) ?_ | refine zaa rfl (zcb rfl rfl) ?_ | refine zaa rfl (zcc rfl) ?_ | refine zah ?_ | (refine zcr ?_; first | refine zcs ?_ | refine zct ?_ | refine zcu ?_ | refine zcv ?_ | refine zcw ?_ | refine zcx ?_ | refine zcy rfl ?_ | refine zcz ?_ | refine zda ?_) | (refine zdb ?_; first | refine zdc ?_ | refine zdd ?_ | refine zde ?_ | refine zdf ?_ | refine zdg ?_ | refine zdh ?_ | refine zdi rfl ?_ | refine zdj rfl ?_) | (refine zak rfl rfl rfl ?_; intro g) | (refine zal rfl rfl ?_; intro g) | (refine zag ?_; first | refine zam 0 rfl rfl rfl rfl rfl rfl ?_ | refine zam 1 rfl rfl rfl rfl rfl rfl ?_ | refine zan 0 rfl rfl rfl rfl rfl rfl rfl rfl rfl ?_ | refine zan 1 rfl rfl rfl rfl rfl rfl rfl rfl rfl ?_ | refine zao 0 rfl rfl rfl rfl rfl rfl ?_ | refine zao 1 rfl rfl rfl rfl rfl rfl ?_)
  exact done_ret1 rfl () rfl trivial (List.nil_sublist _)
theorem tz64_fn : Fn Tryz.prog 109 (fun w => [AV.w w Tab64 (.raw (.int .u64 16))]) (.raw (.int .i64 4)) := by
  refine fn_intro Tryz.func109 rfl Tryz.ntmps109 (fun _ => Nat.le_of_ble_eq_true rfl) fun w0 => ?_
  refine ws_w 0 rfl rfl fun hT => ?_
  repeat first | refine zai rfl rfl ?_ | refine zaj rfl rfl rfl rfl ?_ | refine zaa rfl (zay rfl) ?_ | refine zaa rfl (zaz rfl) ?_ | (refine zac ?_; first | refine zaa rfl (zba rfl rfl rfl) ?_ | refine zaa rfl (zbb rfl rfl (by omega)) ?_ | refine zaa rfl (zbc rfl rfl (by omega)) ?_ | refine zaa rfl (zbd rfl rfl rfl) ?_ | refine zaa rfl (zbe rfl rfl) ?_ | refine zaa rfl (zbf rfl rfl) ?_ | refine zaa rfl (zbg rfl rfl) ?_ | refine zaa rfl (zbh rfl rfl) ?_ | refine zaa rfl (zbi rfl rfl) ?_ | refine zaa rfl (zbj rfl rfl) ?_ | refine zaa rfl (zbk rfl rfl) ?_ | refine zaa rfl (zbl rfl rfl) ?_ | refine zaa rfl (opj_binR (op := .and) (v := .int .u64 16) rfl rfl (fun _ => rfl) (fun _ => by kernel_rfl)) ?_ | refine zaa rfl (opj_binR (op := .mul) (v := .int .u64 4573923408821661840) rfl rfl (fun _ => rfl) (fun _ => by kernel_rfl)) ?_ | refine zaa rfl (opj_binR (op := .shr) (v := .int .u64 15) rfl rfl (fun _ => rfl) (fun _ => by kernel_rfl)) ?_) | (refine zad ?_; first | refine zaa rfl (zbo rfl) ?_ | refine zaa rfl (zbm rfl) ?_ | refine zaa rfl (zbn rfl) ?_ | refine zaa rfl (zbp rfl) ?_ | refine zaa rfl (zbq rfl) ?_ | refine zaa rfl (zbr rfl rfl) ?_) | (refine zae ?_; first | refine zaa rfl (zbt rfl rfl (by (repeat (first | exact mh | refine mt ?_)); done) (by omega)) ?_ | refine zaa rfl (zcf rfl rfl (by (repeat (first | exact mh | refine mt ?_)); done) rfl) ?_ | refine zaa rfl (zcg rfl rfl (by (repeat (first | exact mh | refine mt ?_)); done) rfl rfl) ?_ | refine zaa rfl (zch rfl rfl rfl rfl) ?_ | refine zaa rfl (zbu rfl rfl) ?_) | (refine zaf ?_; first | refine zaa rfl (opj_aindex rfl rfl (by decide) (by decide)) ?_ | refine zaa rfl (zbs rfl rfl (by omega) (by omega)) ?_ | refine zaa rfl (zbv rfl rfl (by omega) (by omega)) ?_ | refine zaa rfl (zbw rfl rfl (by omega) (by omega)) ?_) | refine zaa rfl (zcd rfl) ?_ | refine zaa rfl (zce rfl) ?_ | refine zaa rfl (zbx rfl) ?_ | refine zaa rfl (zby rfl) ?_ | refine zaa rfl (zbz rfl rfl) ?_ | refine zaa rfl (zca rfl rfl) ?_ | refine zaa rfl (zcb rfl rfl) ?_ | refine zaa rfl (zcc rfl) ?_ | refine zah ?_ | (refine zcr ?_; first | refine zcs ?_ | refine zct ?_ | refine zcu ?_ | refine zcv ?_ | refine zcw ?_ | refine zcx ?_ | refine zcy rfl ?_ | refine zcz ?_ | refine zda ?_) | (refine zdb ?_; first | refine zdc ?_ | refine zdd ?_ | refine zde ?_ | refine zdf ?_ | refine zdg ?_ | refine zdh ?_ | refine zdi rfl ?_ | refine zdj rfl ?_) | (refine zak rfl rfl rfl ?_; intro g) | (refine zal rfl rfl ?_; intro g) | (refine zag ?_; first | refine zam 0 rfl rfl rfl rfl rfl rfl ?_ | refine zam 1 rfl rfl rfl rfl rfl rfl ?_ | refine zan 0 rfl rfl rfl rfl rfl rfl rfl rfl rfl ?_ | refine zan 1 rfl rfl rfl rfl rfl rfl rfl rfl rfl ?_ | refine zao 0 rfl rfl rfl rfl rfl rfl ?_ | refine zao 1 rfl rfl rfl rfl rfl rfl ?_) | refine zaa rfl (opj_unR (v := .int .u64 18446744073709551600) rfl (fun _ => by kernel_rfl)) ?_ | refine zaa rfl (opj_loadG rfl rfl hT.at) ?_ | refine zaa rfl (opj_small rfl (by decide)) ?_
  exact done_ret1 rfl () rfl trivial (List.nil_sublist _)
theorem tz_fn : Fn Tryz.prog 98 (fun w => [AV.w w Tab64 (.raw (.int .u64 16))]) (.raw (.int .i64 4)) := by
  refine fn_intro Tryz.func98 rfl Tryz.ntmps98 (fun _ => Nat.le_of_ble_eq_true rfl) fun w0 => ?_
  refine ws_w 0 rfl rfl fun hT => ?_
  repeat first | refine zai rfl rfl ?_ | refine zaj rfl rfl rfl rfl ?_ | refine zaa rfl (zay rfl) ?_ | refine zaa rfl (zaz rfl) ?_ | (refine zac ?_; first | refine zaa rfl (zba rfl rfl rfl) ?_ | refine zaa rfl (zbb rfl rfl (by omega)) ?_ | refine zaa rfl (zbc rfl rfl (by omega)) ?_ | refine zaa rfl (zbd rfl rfl rfl) ?_ | refine zaa rfl (zbe rfl rfl) ?_ | refine zaa rfl (zbf rfl rfl) ?_ | refine zaa rfl (zbg rfl rfl) ?_ | refine zaa rfl (zbh rfl rfl) ?_ | refine zaa rfl (zbi rfl rfl) ?_ | refine zaa rfl (zbj rfl rfl) ?_ | refine zaa rfl (zbk rfl rfl) ?_ | refine zaa rfl (zbl rfl rfl) ?_) | (refine zad ?_; first | refine zaa rfl (zbo rfl) ?_ | refine zaa rfl (zbm rfl) ?_ | refine zaa rfl (zbn rfl) ?_ | refine zaa rfl (zbp rfl) ?_ | refine zaa rfl (zbq rfl) ?_ | refine zaa rfl (zbr rfl rfl) ?_ | (refine zaa rfl (zci rfl rfl (tz64_fn) ?_) ?_; (focus ((repeat (first | exact Takes.nil | refine Takes.sl ?_ | refine Takes.lit ?_ | refine Takes.fa ?_ | refine Takes.fc ?_ | refine Takes.net ?_ | (refine Takes.ownE ?_ ?_ ?_ ?_ ?_; (focus (exact ⟨_, _, (by (repeat (first | exact mh | refine mt ?_)); done)⟩)); (focus (simp; done)); (focus omega); (focus (simp only [maxLen]; omega))) | refine Takes.same ?_)); done)))) | (refine zae ?_; first | refine zaa rfl (zbt rfl rfl (by (repeat (first | exact mh | refine mt ?_)); done) (by omega)) ?_ | refine zaa rfl (zcf rfl rfl (by (repeat (first | exact mh | refine mt ?_)); done) rfl) ?_ | refine zaa rfl (zcg rfl rfl (by (repeat (first | exact mh | refine mt ?_)); done) rfl rfl) ?_ | refine zaa rfl (zch rfl rfl rfl rfl) ?_ | refine zaa rfl (zbu rfl rfl) ?_) | (refine zaf ?_; first | refine zaa rfl (zbs rfl rfl (by omega) (by omega)) ?_ | refine zaa rfl (zbv rfl rfl (by omega) (by omega)) ?_ | refine zaa rfl (zbw rfl rfl (by omega) (by omega)) ?_) | refine zaa rfl (zcd rfl) ?_ | refine zaa rfl (zce rfl) ?_ | refine zaa rfl (zbx rfl) ?_ | refine zaa rfl (zby rfl) ?_ | refine zaa rfl (zbz rfl rfl) ?_ | refine zaa rfl (zca rfl rfl) ?_ | refine zaa rfl (zcb rfl rfl) ?_ | refine zaa rfl (zcc rfl) ?_ | refine zah ?_ | (refine zcr ?_; first | refine zcs ?_ | refine zct ?_ | refine zcu ?_ | refine zcv ?_ | refine zcw ?_ | refine zcx ?_ | refine zcy rfl ?_ | refine zcz ?_ | refine zda ?_) | (refine zdb ?_; first | refine zdc ?_ | refine zdd ?_ | refine zde ?_ | refine zdf ?_ | refine zdg ?_ | refine zdh ?_ | refine zdi rfl ?_ | refine zdj rfl ?_) | (refine zak rfl rfl rfl ?_; intro g) | (refine zal rfl rfl ?_; intro g) | (refine zag ?_; first | refine zam 0 rfl rfl rfl rfl rfl rfl ?_ | refine zam 1 rfl rfl rfl rfl rfl rfl ?_ | refine zan 0 rfl rfl rfl rfl rfl rfl rfl rfl rfl ?_ | refine zan 1 rfl rfl rfl rfl rfl rfl rfl rfl rfl ?_ | refine zao 0 rfl rfl rfl rfl rfl rfl ?_ | refine zao 1 rfl rfl rfl rfl rfl rfl ?_) | refine zaa rfl (zci rfl rfl tz64_fn (Takes.w hT.at (Takes.same Takes.nil))) ?_
  exact done_ret1 rfl () rfl trivial (List.nil_sublist _)
end Go.Ab
namespace Go.Ab
open Go.Proofs
abbrev CV := FV × FV
def cA (p : CV) : AV := .c .f32 p.1 p.2
/-- A list of complex numbers that came in. -/
abbrev slC (w : World) (L : List CV) : AV := AV.sl w 1 (L.map cA)
def tabC (n : Nat) (f : Nat → CV) : List CV := (List.range n).map f
@[simp] theorem tabC_length (n : Nat) (f : Nat → CV) : (tabC n f).length = n := by simp [tabC]
theorem tabC_get {n : Nat} (f : Nat → CV) {i : Nat} (h : i < n) : (tabC n f)[i]? = some (f i) := by simp [tabC, h]
theorem tabC_getD {n : Nat} (f : Nat → CV) {i : Nat} (h : i < n) : (tabC n f).getD i default = f i := by simp [List.getD, tabC_get f h]
theorem tabC_ext {L : List CV} {n : Nat} {f : Nat → CV} (hl : L.length = n) (h : ∀ i, i < n → L[i]? = some (f i)) : L = tabC n f := by
  apply List.ext_getElem?
  intro i
  rcases Nat.lt_or_ge i n with hi | hi
  · rw [h i hi, tabC_get f hi]
  · rw [List.getElem?_eq_none (by omega), List.getElem?_eq_none (by rw [tabC_length]; exact hi)]
theorem tabC_congr {n : Nat} {f g : Nat → CV} (h : ∀ i, i < n → f i = g i) : tabC n f = tabC n g := tabC_ext (tabC_length n f) fun i hi => by rw [tabC_get f hi, h i hi]
theorem tabC_snoc (n : Nat) (f : Nat → CV) : tabC n f ++ [f n] = tabC (n + 1) f := by unfold tabC; rw [List.range_succ, List.map_append]; rfl
abbrev entC (g n : Nat) (f : Nat → CV) (c : Nat) : Ent := ⟨g, 24, (tabC n f).map cA, c⟩
attribute [local irreducible] WS RS Done OpJ Then InBlock Round Ret Env.sub FnH
end Go.Ab
namespace Go.Ab
open Go.Proofs
def scaleC (p : CV) (h : FV) : CV := (fbin .mul .f32 p.1 h, fbin .mul .f32 p.2 h)
attribute [local irreducible] WS RS Done OpJ Then InBlock Round Ret Env.sub FnH
theorem within_fn (n a b : Int) : Fn Tryz.prog 43 (fun _ => [.raw (.int .i64 n), .raw (.int .i64 a), .raw (.int .i64 b)]) (.raw (.bool (decide (a ≤ n) && decide (n ≤ b)))) := by
  refine fn_intro Tryz.func43 rfl Tryz.ntmps43 (fun _ => Nat.le_of_ble_eq_true rfl) fun w0 => ?_
  repeat first | refine zai rfl rfl ?_ | refine zaj rfl rfl rfl rfl ?_ | refine zaa rfl (zay rfl) ?_ | refine zaa rfl (zaz rfl) ?_ | (refine zac ?_; first | refine zaa rfl (zba rfl rfl rfl) ?_ | refine zaa rfl (zbb rfl rfl (by omega)) ?_ | refine zaa rfl (zbc rfl rfl (by omega)) ?_ | refine zaa rfl (zbd rfl rfl rfl) ?_ | refine zaa rfl (zbe rfl rfl) ?_ | refine zaa rfl (zbf rfl rfl) ?_ | refine zaa rfl (zbg rfl rfl) ?_ | refine zaa rfl (zbh rfl rfl) ?_ | refine zaa rfl (zbi rfl rfl) ?_ | refine zaa rfl (zbj rfl rfl) ?_ | refine zaa rfl (zbk rfl rfl) ?_ | refine zaa rfl (zbl rfl rfl) ?_) | (refine zad ?_; first | refine zaa rfl (zbo rfl) ?_ | refine zaa rfl (zbm rfl) ?_ | refine zaa rfl (zbn rfl) ?_ | refine zaa rfl (zbp rfl) ?_ | refine zaa rfl (zbq rfl) ?_ | refine zaa rfl (zbr rfl rfl) ?_) | (refine zae ?_; first | refine zaa rfl (zbt rfl rfl (by (repeat (first | exact mh | refine mt ?_)); done) (by omega)) ?_ | refine zaa rfl (zbu rfl rfl) ?_) | (refine zaf ?_; first | refine zaa rfl (zbs rfl rfl (by omega) (by omega)) ?_ | refine zaa rfl (zbv rfl rfl (by omega) (by omega)) ?_ | refine zaa rfl (zbw rfl rfl (by omega) (by omega)) ?_) | refine zaa rfl (zbx rfl) ?_ | refine zaa rfl (zby rfl) ?_ | refine zaa rfl (zbz rfl rfl) ?_ | refine zaa rfl (zca rfl rfl) ?_ | refine zaa rfl (zcb rfl rfl) ?_ | refine zaa rfl (zcc rfl) ?_ | refine zah ?_ | (refine zcr ?_; first | refine zcs ?_ | refine zct ?_ | refine zcu ?_ | refine zcv ?_ | refine zcw ?_ | refine zcx ?_ | refine zcy rfl ?_ | refine zcz ?_ | refine zda ?_) | (refine zdb ?_; first | refine zdc ?_ | refine zdd ?_ | refine zde ?_ | refine zdf ?_ | refine zdg ?_ | refine zdh ?_ | refine zdi rfl ?_ | refine zdj rfl ?_)
  cases decide (a ≤ n)
  all_goals
    repeat first | refine zai rfl rfl ?_ | refine zaj rfl rfl rfl rfl ?_ | refine zaa rfl (zay rfl) ?_ | refine zaa rfl (zaz rfl) ?_ | (refine zac ?_; first | refine zaa rfl (zba rfl rfl rfl) ?_ | refine zaa rfl (zbb rfl rfl (by omega)) ?_ | refine zaa rfl (zbc rfl rfl (by omega)) ?_ | refine zaa rfl (zbd rfl rfl rfl) ?_ | refine zaa rfl (zbe rfl rfl) ?_ | refine zaa rfl (zbf rfl rfl) ?_ | refine zaa rfl (zbg rfl rfl) ?_ | refine zaa rfl (zbh rfl rfl) ?_ | refine zaa rfl (zbi rfl rfl) ?_ | refine zaa rfl (zbj rfl rfl) ?_ | refine zaa rfl (zbk rfl rfl) ?_ | refine zaa rfl (zbl rfl rfl) ?_) | (refine zad ?_; first | refine zaa rfl (zbo rfl) ?_ | refine zaa rfl (zbm rfl) ?_ | refine zaa rfl (zbn rfl) ?_ | refine zaa rfl (zbp rfl) ?_ | refine zaa rfl (zbq rfl) ?_ | refine zaa rfl (zbr rfl rfl) ?_) | (refine zae ?_; first | refine zaa rfl (zbt rfl rfl (by (repeat (first | exact mh | refine mt ?_)); done) (by omega)) ?_ | refine zaa rfl (zbu rfl rfl) ?_) | (refine zaf ?_; first | refine zaa rfl (zbs rfl rfl (by omega) (by omega)) ?_ | refine zaa rfl (zbv rfl rfl (by omega) (by omega)) ?_ | refine zaa rfl (zbw rfl rfl (by omega) (by omega)) ?_) | refine zaa rfl (zbx rfl) ?_ | refine zaa rfl (zby rfl) ?_ | refine zaa rfl (zbz rfl rfl) ?_ | refine zaa rfl (zca rfl rfl) ?_ | refine zaa rfl (zcb rfl rfl) ?_ | refine zaa rfl (zcc rfl) ?_ | refine zah ?_ | (refine zcr ?_; first | refine zcs ?_ | refine zct ?_ | refine zcu ?_ | refine zcv ?_ | refine zcw ?_ | refine zcx ?_ | refine zcy rfl ?_ | refine zcz ?_ | refine zda ?_) | (refine zdb ?_; first | refine zdc ?_ | refine zdd ?_ | refine zde ?_ | refine zdf ?_ | refine zdg ?_ | refine zdh ?_ | refine zdi rfl ?_ | refine zdj rfl ?_)
    exact done_ret1 rfl () rfl trivial (List.nil_sublist _)
theorem scaleComplex_fn (p : CV) (h : FV) : Fn Tryz.prog 13 (fun _ => [cA p, .f .f32 h]) (cA (scaleC p h)) := by
  refine fn_intro Tryz.func13 rfl Tryz.ntmps13 (fun _ => Nat.le_of_ble_eq_true rfl) fun w0 => ?_
  unfold cA
  repeat first | refine zai rfl rfl ?_ | refine zaj rfl rfl rfl rfl ?_ | refine zaa rfl (zay rfl) ?_ | refine zaa rfl (zaz rfl) ?_ | (refine zac ?_; first | refine zaa rfl (zba rfl rfl rfl) ?_ | refine zaa rfl (zbb rfl rfl (by omega)) ?_ | refine zaa rfl (zbc rfl rfl (by omega)) ?_ | refine zaa rfl (zbd rfl rfl rfl) ?_ | refine zaa rfl (zbe rfl rfl) ?_ | refine zaa rfl (zbf rfl rfl) ?_ | refine zaa rfl (zbg rfl rfl) ?_ | refine zaa rfl (zbh rfl rfl) ?_ | refine zaa rfl (zbi rfl rfl) ?_ | refine zaa rfl (zbj rfl rfl) ?_ | refine zaa rfl (zbk rfl rfl) ?_ | refine zaa rfl (zbl rfl rfl) ?_) | (refine zad ?_; first | refine zaa rfl (zbo rfl) ?_ | refine zaa rfl (zbm rfl) ?_ | refine zaa rfl (zbn rfl) ?_ | refine zaa rfl (zbp rfl) ?_ | refine zaa rfl (zbq rfl) ?_ | refine zaa rfl (zbr rfl rfl) ?_) | (refine zae ?_; first | refine zaa rfl (zbt rfl rfl (by (repeat (first | exact mh | refine mt ?_)); done) (by omega)) ?_ | refine zaa rfl (zbu rfl rfl) ?_) | (refine zaf ?_; first | refine zaa rfl (zbs rfl rfl (by omega) (by omega)) ?_ | refine zaa rfl (zbv rfl rfl (by omega) (by omega)) ?_ | refine zaa rfl (zbw rfl rfl (by omega) (by omega)) ?_) | refine zaa rfl (zbx rfl) ?_ | refine zaa rfl (zby rfl) ?_ | refine zaa rfl (zbz rfl rfl) ?_ | refine zaa rfl (zca rfl rfl) ?_ | refine zaa rfl (zcb rfl rfl) ?_ | refine zaa rfl (zcc rfl) ?_ | refine zah ?_ | (refine zcr ?_; first | refine zcs ?_ | refine zct ?_ | refine zcu ?_ | refine zcv ?_ | refine zcw ?_ | refine zcx ?_ | refine zcy rfl ?_ | refine zcz ?_ | refine zda ?_) | (refine zdb ?_; first | refine zdc ?_ | refine zdd ?_ | refine zde ?_ | refine zdf ?_ | refine zdg ?_ | refine zdh ?_ | refine zdi rfl ?_ | refine zdj rfl ?_)
  exact done_ret1 rfl () rfl trivial (List.nil_sublist _)
end Go.Ab
namespace Go.Ab
open Go.Proofs
variable {R : World → Prop} [RStab R]
def intA (k : Int) : AV := .raw (.int .i64 k)
attribute [local irreducible] WS RS Done OpJ Then InBlock Round Ret Env.sub FnH
end Go.Ab
namespace Go.Ab
open Go.Proofs
variable {R : World → Prop} [RStab R]
section
variable {P : Program} {S : World → Prop} {N : Nat} {e : Env} {Q : Exit → Env → World → Prop} {ops : Array Oper} {l : List Oper} {dst : Option Tmp} {ty : TypeId} {pos : String} {after : Array Edge} {guard : Option (Nat × Bool)}
variable {w0 : World} {gs : List Nat} {H : List Ent}
theorem opj_loadC {R0 : World → Prop} {X : Operand} {g n c : Nat} {i : Int} {f : Nat → CV} {t : TypeId} {d : TypeDesc} [hd : TyU P t d] (ha : aggD d = false)
    (hx : e.ev X = some (.raw (.pointer (some ⟨g, i.toNat * 1, none⟩)))) (hm : entC g n f c ∈ H) (h0 : 0 ≤ i ∧ i < n) : OpJ P (StR R0 w0 gs H) e ⟨dst, .load t X, ty, pos, after, guard⟩ (cA (f i.toNat)) := by
  refine opj_load_own (en := entC g n f c) ha hx hm ?_
  have hi : i.toNat < n := by omega
  rw [Nat.mul_one, List.getElem?_map, tabC_get f hi]
  rfl
end
attribute [local irreducible] WS RS Done OpJ Then InBlock Round Ret Env.sub FnH
attribute [local irreducible] tabC
end Go.Ab
namespace Go.Ab
def powF (x y : FV) : FV := fbin .add .f64 (fbin .mul .f64 (fconv .f32 .f64 x) (fconv .f32 .f64 x)) (fbin .mul .f64 (fconv .f32 .f64 y) (fconv .f32 .f64 y))
def longF (x y : FV) : FV := fconv .f64 .f32 (fsqrt (powF x y))
end Go.Ab
