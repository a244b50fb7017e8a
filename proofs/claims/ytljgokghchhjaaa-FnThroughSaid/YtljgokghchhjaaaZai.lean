/- Part 9 of the texts on which the law leans, joined: Steps of drawn paths and how much they weigh: a table; the steps of their parameters. No conditions. -/
import Derived.Laws.CopyRow
import Derived.KernelRfl
import Derived.Test.YtljgokghchhjaaaZah
namespace Go.Ab
open Go.Proofs
variable {R : World → Prop} [RStab R]
section
variable {P : Program} {N : Nat} {S : World → Prop} {e : Env} {Q : Exit → Env → World → Prop} {ops : Array Oper} {l : List Oper}
variable {w0 : World} {gs : List Nat} {H : List Ent} {dst : Option Tmp} {ty : TypeId} {pos : String} {after : Array Edge} {guard : Option (Nat × Bool)} {t el : TypeId}
theorem opj_cut_l {X Y : Operand} {g n cap : Nat} {z : Value} {b : Nat} {k : IntKind} {h : Int} [hu : TyU P t (.slice el)] [hi : TyI P el z 1 b] (hx : e.ev X = some (.raw (.slice (some ⟨g, 0, none⟩) n cap))) (hy : e.ev Y = some (.raw (.int k h))) (h0 : 0 ≤ h ∧ h < n) (hc : n ≤ cap) :
    OpJ P S e ⟨dst, .slice t X (some Y) none none, ty, pos, after, guard⟩ (.raw (.slice (some ⟨g, h.toNat, none⟩) (n - h.toNat) (cap - h.toNat))) :=
  opj_value fun a w _ ho => by
    have h1 := (ho X (by simp [Op.operands]) _ hx).inv_raw
    have h2 := (ho Y (by simp [Op.operands]) _ hy).inv_raw
    have hel : P.elem t = el := by simp [Program.elem, hu.h]
    have ht : P.underlying t = some (.slice (P.elem t)) := by rw [hel]; exact hu.h
    have hr := run_slice_l (P := P) (w := w) t (some ⟨g, 0, none⟩) n cap ht k h h0.1 (by omega)
    rw [hel, run_size hi] at hr
    have hs := run_sliceAt_slice (P := P) w t (.slice (some ⟨g, 0, none⟩) n cap) (some (.int k h)) none none ht
    have hv : sliced (some ⟨g, 0, none⟩) h.toNat n cap 1 = .slice (some ⟨g, h.toNat, none⟩) (n - h.toNat) (cap - h.toNat) := by
      unfold sliced
      rw [if_neg (by omega)]
      simp [Addr.add]
      try omega
    exact ⟨_, w, by simp [execOp, h1, h2, hs, hr, hv], Ext.refl _, .raw⟩
theorem opj_cut_h {X Y : Operand} {g n cap : Nat} {z : Value} {b : Nat} {k : IntKind} {h : Int} [hu : TyU P t (.slice el)] [hi : TyI P el z 1 b] (hx : e.ev X = some (.raw (.slice (some ⟨g, 0, none⟩) n cap))) (hy : e.ev Y = some (.raw (.int k h))) (h0 : 0 ≤ h ∧ h ≤ cap) (hc : 0 < cap) :
    OpJ P S e ⟨dst, .slice t X none (some Y) none, ty, pos, after, guard⟩ (.raw (.slice (some ⟨g, 0, none⟩) h.toNat cap)) :=
  opj_value fun a w _ ho => by
    have h1 := (ho X (by simp [Op.operands]) _ hx).inv_raw
    have h2 := (ho Y (by simp [Op.operands]) _ hy).inv_raw
    have hel : P.elem t = el := by simp [Program.elem, hu.h]
    have ht : P.underlying t = some (.slice (P.elem t)) := by rw [hel]; exact hu.h
    have hr := run_slice_h (P := P) (w := w) t (some ⟨g, 0, none⟩) n cap ht k h h0.1 h0.2
    rw [hel, run_size hi] at hr
    have hs := run_sliceAt_slice (P := P) w t (.slice (some ⟨g, 0, none⟩) n cap) none (some (.int k h)) none ht
    have hv : sliced (some ⟨g, 0, none⟩) 0 h.toNat cap 1 = .slice (some ⟨g, 0, none⟩) h.toNat cap := by
      unfold sliced
      rw [if_neg (by omega)]
      simp [Addr.add]
    exact ⟨_, w, by simp [execOp, h1, h2, hs, hr, hv], Ext.refl _, .raw⟩
/-- 'copy' into a list of the call's own. -/
theorem run_copyE (k K : Nat) {a : Act} {w : World} {d : Tmp} {A B : Operand} {off m cap : Nat} {en : Ent} {ys : List AV} {z : Value} {b : Nat} [hu : TyU P t (.slice el)] [hi : TyI P el z 1 b] (hS : StR R w0 gs H w)
    (hA' : a.eval A = .slice (some ⟨en.g, off, none⟩) m cap) (hrd : Rd w 1 (a.eval B) ys) (hH : H[k]? = some en)
    (h0 : 1 ≤ ys.length) (h1 : ys.all isOne = true) (hK : K = min ys.length m) (hfit : off + K ≤ en.xs.length) :
    ∃ w', (execOp a.eval ⟨some d, .call { callee := .builtin .copy, args := #[A, B], argTypes := #[t, t] }, ty, pos, after, none⟩).run P w = .ok (.value (goInt K)) w' ∧ StR R w0 gs (H.set k { en with xs := en.xs.take off ++ (ys.take K ++ en.xs.drop (off + K)) }) w' := by
  obtain ⟨ad, n, c, hB', hl, _, _, hcells⟩ := hrd
  rw [Nat.mul_one] at hl
  obtain ⟨bb, had, hsp, _⟩ := hcells 0 _ (List.getElem?_eq_getElem (by omega))
  subst had
  obtain ⟨i, hi1, hz1, hs1, hb1⟩ := hi.h
  have hmem : en ∈ H := List.mem_of_getElem? hH
  obtain ⟨cur, hcur, hcsz, hcx⟩ := (hS.own _ hmem).2
  have hnews : ∃ news : List Value, news.length = ys.length ∧ ∀ (j : Nat) (u : Value), news[j]? = some u → w.cell? (bb.add j) = some u ∧ ∃ y, ys[j]? = some y ∧ isOne y = true ∧ Ev y u := by
    have hex : ∀ k, k ≤ ys.length → ∃ news : List Value, news.length = k ∧ ∀ (j : Nat) (u : Value), news[j]? = some u → w.cell? (bb.add j) = some u ∧ ∃ y, ys[j]? = some y ∧ isOne y = true ∧ Ev y u := by
      intro k
      induction k with
      | zero => intro _; exact ⟨[], rfl, fun j u h => by simp at h⟩
      | succ k ih =>
        intro hk
        obtain ⟨news, hln, hall⟩ := ih (by omega)
        have hy' : ys[k]? = some (ys[k]'(by omega)) := List.getElem?_eq_getElem (by omega)
        obtain ⟨b', hb', hsp', u, hu', hev⟩ := hcells k _ hy'
        cases hb'
        refine ⟨news ++ [u], by simp [hln], fun j v hj => ?_⟩
        rcases Nat.lt_or_ge j k with h | h
        · rw [List.getElem?_append_left (by omega)] at hj; exact hall j v hj
        · have hjk : j = k := by
            have := (List.getElem?_eq_some_iff.1 hj).1
            simp only [List.length_append, hln, List.length_cons, List.length_nil] at this
            omega
          subst hjk
          rw [List.getElem?_append_right (by omega), hln, Nat.sub_self] at hj
          cases hj
          exact ⟨by rw [addr_add bb hsp]; exact hu', _, hy', List.all_eq_true.1 h1 _ (List.getElem_mem _), hev⟩
    exact hex _ (Nat.le_refl _)
  obtain ⟨news, hln, hnw⟩ := hnews
  have hcs : en.xs.length ≤ cur.size := by
    rcases Nat.lt_or_ge cur.size en.xs.length with h | h
    · obtain ⟨u, hu', _⟩ := hcx cur.size _ (List.getElem?_eq_getElem h)
      rw [Array.getElem?_eq_none (Nat.le_refl _)] at hu'
      cases hu'
    · exact h
  have htk : ∀ (j : Nat) (u : Value), (news.take K)[j]? = some u → j < K ∧ news[j]? = some u := fun j u hj => by
    rw [List.getElem?_take] at hj
    split at hj
    · rename_i h; exact ⟨h, hj⟩
    · cases hj
  have hlK : (news.take K).length = K := by rw [List.length_take, hln]; omega
  have hone : ∀ u ∈ news.take K, u.oneCell' = true := fun u hu => by
    obtain ⟨j, hj⟩ := List.mem_iff_getElem?.1 hu
    obtain ⟨_, y, _, hy1, hev⟩ := hnw j u (htk j u hj).2
    exact (oneAV_spec hy1 (hev w)).2.1
  have hrun := run_copy_row (P := P) w t t ty el en.g off m cap bb n c cur en.T (news.take K) hu.h (by rw [hi1]; simp only [Option.map_some, hs1]) hcur (by rw [hlK, hK, hl]) (fun j v hj => (hnw j v (htk j v hj).2).1) (by rw [hlK]; omega) hone
  have hmod : Mod w (w.setRow en.g (cur.toList.take off ++ news.take K ++ cur.toList.drop (off + (news.take K).length)).toArray) [en.g] :=
    ⟨rfl, rfl, rfl, by simp [World.setRow], fun k hk hn => setRow_other w en.g k _ (by simpa using hn)⟩
  have ho' : OwnE (w.setRow en.g (cur.toList.take off ++ news.take K ++ cur.toList.drop (off + (news.take K).length)).toArray) { en with xs := en.xs.take off ++ (ys.take K ++ en.xs.drop (off + K)) } := by
    refine ⟨_, setRow_heap w en.g _ _ _ _ hcur, ?_, fun j x hj => ?_⟩
    · simp only [hlK, List.size_toArray, List.length_append, List.length_take, List.length_drop, Array.length_toList] at *
      omega
    · have hlt : (cur.toList.take off).length = off := by simp; omega
      have hlx : (en.xs.take off).length = off := by simp; omega
      rw [hlK]
      simp only [List.append_assoc, List.getElem?_toArray]
      rcases Nat.lt_or_ge j off with h | h
      · rw [List.getElem?_append_left (by omega), List.getElem?_take, if_pos h] at hj
        obtain ⟨u, hu', hev⟩ := hcx j x hj
        exact ⟨u, by rw [List.getElem?_append_left (by omega), List.getElem?_take, if_pos h]; simpa using hu', hev⟩
      · rw [List.getElem?_append_right (by omega), hlx] at hj
        rw [List.getElem?_append_right (by omega), hlt]
        have hly : (ys.take K).length = K := by rw [List.length_take]; omega
        rcases Nat.lt_or_ge (j - off) K with h' | h'
        · rw [List.getElem?_append_left (by omega), List.getElem?_take, if_pos h'] at hj
          have hnj : news[j - off]? = some (news[j - off]'(by omega)) := List.getElem?_eq_getElem (by omega)
          obtain ⟨_, y', hy', _, hev⟩ := hnw _ _ hnj
          rw [hj] at hy'
          cases hy'
          exact ⟨_, by rw [List.getElem?_append_left (by omega), List.getElem?_take, if_pos h']; exact hnj, hev⟩
        · rw [List.getElem?_append_right (by omega), hly, List.getElem?_drop] at hj
          obtain ⟨u, hu', hev⟩ := hcx _ x hj
          exact ⟨u, by rw [List.getElem?_append_right (by omega), hlK, List.getElem?_drop]; simpa using hu', hev⟩
  have hex : (execOp a.eval ⟨some d, .call { callee := .builtin .copy, args := #[A, B], argTypes := #[t, t] }, ty, pos, after, none⟩).run P w = .ok (.value (goInt (news.take K).length)) (w.setRow en.g (cur.toList.take off ++ news.take K ++ cur.toList.drop (off + (news.take K).length)).toArray) := by
    simp only [execOp, resolve, invoke, builtin, Sem.run_bind, Sem.run_pure, Result.andThen_ok, List.map_toArray, List.map_cons, List.map_nil, hA', hB', hrun]
  rw [hlK] at hex
  refine ⟨_, hex, ?_⟩
  rw [hlK] at hmod ho'
  exact hS.updAt hH hmod (.inl rfl) ho'
theorem rs_copy (k K : Nat) {d : Tmp} {A B : Operand} {off m cap : Nat} {en : Ent} {ys : List AV} {z : Value} {b : Nat} [hu : TyU P t (.slice el)] [hi : TyI P el z 1 b] (hd : Nat.blt d N = true)
    (hA : e.ev A = some (.raw (.slice (some ⟨en.g, off, none⟩) m cap))) (hB : ∃ y, e.ev B = some y ∧ ∀ w v, StR R w0 gs H w → Rel w y v → Rd w 1 v ys) (hH : H[k]? = some en)
    (h0 : 1 ≤ ys.length) (h1 : ys.all isOne = true) (hK : K = min ys.length m) (hfit : off + K ≤ en.xs.length)
    (hk : RS P N ops l ((d, .raw (.int .i64 (K : Int))) :: e.keep) (StR R w0 gs (H.set k { en with xs := en.xs.take off ++ (ys.take K ++ en.xs.drop (off + K)) })) Q) :
    RS P N ops (⟨some d, .call { callee := .builtin .copy, args := #[A, B], argTypes := #[t, t] }, ty, pos, after, none⟩ :: l) e (StR R w0 gs H) Q := by
  intro a w hS hF
  refine wpList_plain rfl fun K' hK' => ?_
  obtain ⟨y, hy, hrd⟩ := hB
  obtain ⟨w', hex, hS'⟩ := run_copyE (P := P) (ty := ty) (pos := pos) (after := after) (d := d) (hu := hu) (hi := hi) k K hS (hF.eval hA).inv_raw (hrd w _ hS (hF.eval hy)) hH h0 h1 hK hfit
  unfold Oper.wp
  rw [hex]
  exact hK' _ _ (hk _ _ hS' (Fr.put (some d) hF.keep (fun _ h => by cases h; exact Nat.le_of_ble_eq_true hd) .raw))
theorem effv_copy (k K : Nat) {d : Tmp} {A B : Operand} {off m cap : Nat} {en : Ent} {ys : List AV} {z : Value} {b : Nat} [hu : TyU P t (.slice el)] [hi : TyI P el z 1 b]
    (hA : e.ev A = some (.raw (.slice (some ⟨en.g, off, none⟩) m cap))) (hB : ∃ y, e.ev B = some y ∧ ∀ w v, StR R w0 gs H w → Rel w y v → Rd w 1 v ys) (hH : H[k]? = some en)
    (h0 : 1 ≤ ys.length) (h1 : ys.all isOne = true) (hK : K = min ys.length m) (hfit : off + K ≤ en.xs.length) :
    EffV P (StR R w0 gs H) (StR R w0 gs (H.set k { en with xs := en.xs.take off ++ (ys.take K ++ en.xs.drop (off + K)) })) (.int .i64 (K : Int)) e ⟨some d, .call { callee := .builtin .copy, args := #[A, B], argTypes := #[t, t] }, ty, pos, after, none⟩ := by
  intro a w K' Q' hS ho hK'
  obtain ⟨y, hy, hrd⟩ := hB
  obtain ⟨w', hex, hS'⟩ := run_copyE (P := P) (ty := ty) (pos := pos) (after := after) (d := d) (hu := hu) (hi := hi) k K hS (ho A (by simp [Op.operands, Call.operands]) _ hA).inv_raw (hrd w _ hS (ho B (by simp [Op.operands, Call.operands]) _ hy)) hH h0 h1 hK hfit
  unfold Oper.wp
  rw [hex]
  exact hK' _ hS'
omit [RStab R] in
/-- A list of the call's own may be read. -/
theorem rd_own {n m g c cap : Nat} {f : Int → FV} {T : TypeId} {w : World} {v : Value} (hS : StR R w0 gs H w) (hr : Rel w (.raw (.slice (some ⟨g, 0, none⟩) m cap)) v) (hm : (entF g T n f c : Ent) ∈ H) (hn : m ≤ n) (hc : m ≤ cap ∧ cap ≤ maxLen) : Rd w 1 v ((tab m f).map (AV.f .f32)) := by
  have hv := hr.inv_raw
  subst hv
  refine ⟨_, m, cap, rfl, by simp, hc.1, hc.2, fun i x hi => ⟨_, rfl, rfl, ?_⟩⟩
  have hlt : i < m := by
    have := (List.getElem?_eq_some_iff.1 hi).1
    simpa using this
  have hx : (entF g T n f c).xs[i]? = some x := by
    simp only [entF, List.getElem?_map] at hi ⊢
    rw [tab_get f (by omega)]
    rw [tab_get f hlt] at hi
    exact hi
  obtain ⟨u, hu, hev⟩ := (hS.own _ hm).2.cell hx
  exact ⟨u, by simpa [entF] using hu, hev⟩
omit [RStab R] in
theorem tab_copy {g n c off K j : Nat} {f h f' : Int → FV} {T : TypeId} (hj : K ≤ j) (hfit : off + K ≤ n) (hf' : ∀ s : Nat, s < n → f' s = if off ≤ s ∧ s < off + K then h ((s - off : Nat) : Int) else f s) :
    ({ entF g T n f c with xs := (entF g T n f c).xs.take off ++ (((tab j h).map (AV.f .f32)).take K ++ (entF g T n f c).xs.drop (off + K)) } : Ent) = entF g T n f' c := by
  unfold entF
  simp only [← List.map_take, ← List.map_drop, ← List.map_append]
  congr 2
  refine tab_ext (by simp only [List.length_append, List.length_take, List.length_drop, tab_length]; omega) fun i hi => ?_
  have l1 : ((tab n f).take off).length = off := by rw [List.length_take, tab_length]; omega
  have l2 : ((tab j h).take K).length = K := by rw [List.length_take, tab_length]; omega
  rw [hf' i hi]
  rcases Nat.lt_or_ge i off with ho | ho
  · rw [List.getElem?_append_left (by omega), List.getElem?_take, if_pos ho, tab_get f hi, if_neg (by omega)]
  · rw [List.getElem?_append_right (by omega), l1]
    rcases Nat.lt_or_ge (i - off) K with h1 | h1
    · rw [List.getElem?_append_left (by omega), List.getElem?_take, if_pos h1, tab_get h (by omega), if_pos (by omega)]
    · rw [List.getElem?_append_right (by omega), l2, List.getElem?_drop, if_neg (by omega), show off + K + (i - off - K) = i by omega, tab_get f hi]
/-- 'copy' into a table of the call's own. -/
theorem rs_copyT (k K : Nat) (f' : Int → FV) {d : Tmp} {A B : Operand} {off m cap g n c j : Nat} {f h : Int → FV} {T : TypeId} {z : Value} {b : Nat} [hu : TyU P t (.slice el)] [hi : TyI P el z 1 b] (hd : Nat.blt d N = true)
    (hA : e.ev A = some (.raw (.slice (some ⟨g, off, none⟩) m cap))) (hB : ∃ y, e.ev B = some y ∧ ∀ w v, StR R w0 gs H w → Rel w y v → Rd w 1 v ((tab j h).map (AV.f .f32))) (hH : H[k]? = some (entF g T n f c))
    (h0 : 1 ≤ j) (hK : K = min j m) (hfit : off + K ≤ n) (hf' : ∀ s : Nat, s < n → f' s = if off ≤ s ∧ s < off + K then h ((s - off : Nat) : Int) else f s)
    (hk : RS P N ops l ((d, .raw (.int .i64 (K : Int))) :: e.keep) (StR R w0 gs (H.set k (entF g T n f' c))) Q) :
    RS P N ops (⟨some d, .call { callee := .builtin .copy, args := #[A, B], argTypes := #[t, t] }, ty, pos, after, none⟩ :: l) e (StR R w0 gs H) Q := by
  refine rs_copy k K (en := entF g T n f c) hd hA hB hH (by simpa using h0) ?_ (by simpa using hK) (by simpa [entF] using hfit) ?_
  · exact List.all_eq_true.2 fun x hx => by
      obtain ⟨y, _, rfl⟩ := List.mem_map.1 hx
      rfl
  · rw [tab_copy (by omega) hfit hf']
    exact hk
theorem effv_copyT (k K : Nat) (f' : Int → FV) {d : Tmp} {A B : Operand} {off m cap g n c j : Nat} {f h : Int → FV} {T : TypeId} {z : Value} {b : Nat} [hu : TyU P t (.slice el)] [hi : TyI P el z 1 b]
    (hA : e.ev A = some (.raw (.slice (some ⟨g, off, none⟩) m cap))) (hB : ∃ y, e.ev B = some y ∧ ∀ w v, StR R w0 gs H w → Rel w y v → Rd w 1 v ((tab j h).map (AV.f .f32))) (hH : H[k]? = some (entF g T n f c))
    (h0 : 1 ≤ j) (hK : K = min j m) (hfit : off + K ≤ n) (hf' : ∀ s : Nat, s < n → f' s = if off ≤ s ∧ s < off + K then h ((s - off : Nat) : Int) else f s) :
    EffV P (StR R w0 gs H) (StR R w0 gs (H.set k (entF g T n f' c))) (.int .i64 (K : Int)) e ⟨some d, .call { callee := .builtin .copy, args := #[A, B], argTypes := #[t, t] }, ty, pos, after, none⟩ := by
  rw [← tab_copy (f := f) (h := h) (j := j) (by omega) hfit hf']
  refine effv_copy k K (en := entF g T n f c) hA hB hH (by simpa using h0) ?_ (by simpa using hK) (by simpa [entF] using hfit)
  exact List.all_eq_true.2 fun x hx => by
    obtain ⟨y, _, rfl⟩ := List.mem_map.1 hx
    rfl
theorem opj_smallU {src dt : TypeId} {X : Operand} {k0 k : IntKind} {n : Int} [hs : TyU P src (.int k0)] [hd : TyU P dt (.int .u64)] (hx : e.ev X = some (.raw (.int k n))) (hn : 0 ≤ n ∧ n ≤ 18446744073709551615) : OpJ P S e ⟨dst, .convert src dt X, ty, pos, after, guard⟩ (.raw (.int .u64 n)) := by
  have h := opj_iint (P := P) (S := S) (e := e) (dst := dst) (ty := ty) (pos := pos) (after := after) (guard := guard) (k0 := k0) (k := k) (k' := .u64) (hs := hs) (hd := hd) hx
  rwa [IntWalk.u64_in _ hn] at h
theorem opj_mulU {t' : TypeId} {X Y : Operand} {x y : Int} (hx : e.ev X = some (.raw (.int .u64 x))) (hy : e.ev Y = some (.raw (.int .u64 y))) (hn : 0 ≤ x * y ∧ x * y ≤ 18446744073709551615) :
    OpJ P S e ⟨dst, .binOp .mul t X Y t', ty, pos, after, guard⟩ (.raw (.int .u64 (x * y))) := by
  have h := opj_mulW (P := P) (S := S) (e := e) (dst := dst) (ty := ty) (pos := pos) (after := after) (guard := guard) (t := t) (t' := t') hx hy
  rwa [IntWalk.u64_in _ hn] at h
theorem opj_addU {t' : TypeId} {X Y : Operand} {x y : Int} (hx : e.ev X = some (.raw (.int .u64 x))) (hy : e.ev Y = some (.raw (.int .u64 y))) (hn : 0 ≤ x + y ∧ x + y ≤ 18446744073709551615) :
    OpJ P S e ⟨dst, .binOp .add t X Y t', ty, pos, after, guard⟩ (.raw (.int .u64 (x + y))) := by
  have h := opj_addW (P := P) (S := S) (e := e) (dst := dst) (ty := ty) (pos := pos) (after := after) (guard := guard) (t := t) (t' := t') hx hy
  rwa [IntWalk.u64_in _ hn] at h
theorem opj_shr32 {t' : TypeId} {X Y : Operand} {x : Int} (hx : e.ev X = some (.raw (.int .u64 x))) (hy : e.ev Y = some (.raw (.int .u64 32))) (hn : 0 ≤ x ∧ x ≤ 4294967295) :
    OpJ P S e ⟨dst, .binOp .shr t X Y t', ty, pos, after, guard⟩ (.raw (.int .u64 0)) := by
  have h := opj_shrW (P := P) (S := S) (e := e) (dst := dst) (ty := ty) (pos := pos) (after := after) (guard := guard) (t := t) (t' := t') (by omega) hx hy
  have e1 : x.fdiv (2 ^ min (32 : Int).toNat 64) = 0 := by
    rw [show (2 : Int) ^ min (32 : Int).toNat 64 = 4294967296 from by decide +kernel, Int.fdiv_eq_ediv_of_nonneg _ (by omega)]
    omega
  rwa [e1] at h
theorem opj_and32 {t' : TypeId} {X Y : Operand} {x : Int} (hx : e.ev X = some (.raw (.int .u64 x))) (hy : e.ev Y = some (.raw (.int .u64 4294967295))) (hn : 0 ≤ x ∧ x ≤ 4294967295) :
    OpJ P S e ⟨dst, .binOp .and t X Y t', ty, pos, after, guard⟩ (.raw (.int .u64 x)) := by
  have h := opj_andW (P := P) (S := S) (e := e) (dst := dst) (ty := ty) (pos := pos) (after := after) (guard := guard) (t := t) (t' := t') hx hy
  have e1 : andW x 4294967295 = x := by
    unfold andW
    have e2 : (BitVec.ofInt 64 4294967295).toNat = 2 ^ 32 - 1 := by decide
    have e3 : (BitVec.ofInt 64 x).toNat = x.toNat := by
      rw [BitVec.toNat_ofInt]
      have : x % ((2 ^ 64 : Nat) : Int) = x := Int.emod_eq_of_lt hn.1 (by have : ((2 ^ 64 : Nat) : Int) = 18446744073709551616 := by decide +kernel
                                                                          omega)
      rw [this]
    rw [BitVec.toNat_and, e2, Nat.and_two_pow_sub_one_eq_mod, e3, Nat.mod_eq_of_lt (by have : (2 : Nat) ^ 32 = 4294967296 := by decide +kernel
                                                                                       omega), Int.toNat_of_nonneg hn.1]
    exact IntWalk.u64_in _ (by omega)
  rwa [e1] at h
end
attribute [local irreducible] WS RS Done OpJ Then InBlock Round Ret Env.sub FnH
attribute [local irreducible] tab tabC
abbrev uA (n : Int) : AV := .raw (.int .u64 n)
theorem mul64_fn (n : Int) (hn : 0 ≤ n ∧ n ≤ 4294967295) : Fn Try.prog 106 (fun _ => [uA 1, uA n]) (.tup [uA 0, uA n]) := by
  refine fn_intro Try.func106 rfl Try.ntmps106 (fun _ => Nat.le_of_ble_eq_true rfl) fun w0 => ?_
  repeat first | refine zai rfl rfl ?_ | refine zaj rfl rfl rfl rfl ?_ | refine zaa rfl (zay rfl) ?_ | refine zaa rfl (zaz rfl) ?_ | (refine zac ?_; first | refine zaa rfl (zba rfl rfl rfl) ?_ | refine zaa rfl (zbb rfl rfl (by omega)) ?_ | refine zaa rfl (zbc rfl rfl (by omega)) ?_ | refine zaa rfl (zbd rfl rfl rfl) ?_ | refine zaa rfl (zbe rfl rfl) ?_ | refine zaa rfl (zbf rfl rfl) ?_ | refine zaa rfl (zbg rfl rfl) ?_ | refine zaa rfl (zbh rfl rfl) ?_ | refine zaa rfl (zbi rfl rfl) ?_ | refine zaa rfl (zbj rfl rfl) ?_ | refine zaa rfl (zbk rfl rfl) ?_ | refine zaa rfl (zbl rfl rfl) ?_ | refine zaa rfl (opj_and32 rfl rfl (by omega)) ?_ | refine zaa rfl (opj_shr32 rfl rfl (by omega)) ?_ | refine zaa rfl (opj_mulU rfl rfl (by omega)) ?_ | refine zaa rfl (opj_addU rfl rfl (by omega)) ?_) | (refine zad ?_; first | refine zaa rfl (opj_lenC rfl) ?_ | refine zaa rfl (zbo rfl) ?_ | refine zaa rfl (zbm rfl) ?_ | refine zaa rfl (zbn rfl) ?_ | refine zaa rfl (zbp rfl) ?_ | refine zaa rfl (zbq rfl) ?_ | refine zaa rfl (zbr rfl rfl) ?_) | (refine zae ?_; first | refine zaa rfl (opj_loadC rfl rfl (by (repeat (first | exact mh | refine mt ?_)); done) (by omega)) ?_ | refine zaa rfl (zbt rfl rfl (by (repeat (first | exact mh | refine mt ?_)); done) (by omega)) ?_ | refine zaa rfl (zcf rfl rfl (by (repeat (first | exact mh | refine mt ?_)); done) rfl) ?_ | refine zaa rfl (zcg rfl rfl (by (repeat (first | exact mh | refine mt ?_)); done) rfl rfl) ?_ | refine zaa rfl (zch rfl rfl rfl rfl) ?_ | refine zaa rfl (zbu rfl rfl) ?_) | (refine zaf ?_; first | refine zaa rfl (opj_indexC rfl rfl (by omega) (by omega)) ?_ | refine zaa rfl (zbs rfl rfl (by omega) (by omega)) ?_ | refine zaa rfl (zbv rfl rfl (by omega) (by omega)) ?_ | refine zaa rfl (zbw rfl rfl (by omega) (by omega)) ?_) | refine zaa rfl (zcd rfl) ?_ | refine zaa rfl (zce rfl) ?_ | refine zaa rfl (zbx rfl) ?_ | refine zaa rfl (zby rfl) ?_ | refine zaa rfl (zbz rfl rfl) ?_ | refine zaa rfl (zca rfl rfl) ?_ | refine zaa rfl (zcb rfl rfl) ?_ | refine zaa rfl (zcc rfl) ?_ | refine zah ?_ | (refine zcr ?_; first | refine zcs ?_ | refine zct ?_ | refine zcu ?_ | refine zcv ?_ | refine zcw ?_ | refine zcx ?_ | refine zcy rfl ?_ | refine zcz ?_ | refine zda ?_) | (refine zdb ?_; first | refine zdc ?_ | refine zdd ?_ | refine zde ?_ | refine zdf ?_ | refine zdg ?_ | refine zdh ?_ | refine zdi rfl ?_ | refine zdj rfl ?_) | (refine zak rfl rfl rfl ?_; intro g) | (refine zal rfl rfl ?_; intro g) | (refine zag ?_; first | refine zam 0 rfl rfl rfl rfl rfl rfl ?_ | refine zam 1 rfl rfl rfl rfl rfl rfl ?_ | refine zan 0 rfl rfl rfl rfl rfl rfl rfl rfl rfl ?_ | refine zan 1 rfl rfl rfl rfl rfl rfl rfl rfl rfl ?_ | refine zao 0 rfl rfl rfl rfl rfl rfl ?_ | refine zao 1 rfl rfl rfl rfl rfl rfl ?_)
  exact done_ret2 rfl () (by simp) rfl rfl trivial (List.nil_sublist _)
theorem mul_fn (n : Int) (hn : 0 ≤ n ∧ n ≤ 4294967295) : Fn Try.prog 103 (fun _ => [uA 1, uA n]) (.tup [uA 0, uA n]) := by
  have hM := mul64_fn n hn
  refine fn_intro Try.func103 rfl Try.ntmps103 (fun _ => Nat.le_of_ble_eq_true rfl) fun w0 => ?_
  repeat first | refine zai rfl rfl ?_ | refine zaj rfl rfl rfl rfl ?_ | refine zaa rfl (zay rfl) ?_ | refine zaa rfl (zaz rfl) ?_ | (refine zac ?_; first | refine zaa rfl (zba rfl rfl rfl) ?_ | refine zaa rfl (zbb rfl rfl (by omega)) ?_ | refine zaa rfl (zbc rfl rfl (by omega)) ?_ | refine zaa rfl (zbd rfl rfl rfl) ?_ | refine zaa rfl (zbe rfl rfl) ?_ | refine zaa rfl (zbf rfl rfl) ?_ | refine zaa rfl (zbg rfl rfl) ?_ | refine zaa rfl (zbh rfl rfl) ?_ | refine zaa rfl (zbi rfl rfl) ?_ | refine zaa rfl (zbj rfl rfl) ?_ | refine zaa rfl (zbk rfl rfl) ?_ | refine zaa rfl (zbl rfl rfl) ?_) | (refine zad ?_; first | refine zaa rfl (opj_lenC rfl) ?_ | refine zaa rfl (zbo rfl) ?_ | refine zaa rfl (zbm rfl) ?_ | refine zaa rfl (zbn rfl) ?_ | refine zaa rfl (zbp rfl) ?_ | refine zaa rfl (zbq rfl) ?_ | refine zaa rfl (zbr rfl rfl) ?_ | (refine zaa rfl (zci rfl rfl (hM) ?_) ?_; (focus ((repeat (first | exact Takes.nil | refine Takes.sl ?_ | refine Takes.lit ?_ | refine Takes.fa ?_ | refine Takes.fc ?_ | refine Takes.net ?_ | (refine Takes.ownE ?_ ?_ ?_ ?_ ?_; (focus (exact ⟨_, _, (by (repeat (first | exact mh | refine mt ?_)); done)⟩)); (focus (simp; done)); (focus omega); (focus (simp only [maxLen]; omega))) | refine Takes.same ?_)); done)))) | (refine zae ?_; first | refine zaa rfl (opj_loadC rfl rfl (by (repeat (first | exact mh | refine mt ?_)); done) (by omega)) ?_ | refine zaa rfl (zbt rfl rfl (by (repeat (first | exact mh | refine mt ?_)); done) (by omega)) ?_ | refine zaa rfl (zcf rfl rfl (by (repeat (first | exact mh | refine mt ?_)); done) rfl) ?_ | refine zaa rfl (zcg rfl rfl (by (repeat (first | exact mh | refine mt ?_)); done) rfl rfl) ?_ | refine zaa rfl (zch rfl rfl rfl rfl) ?_ | refine zaa rfl (zbu rfl rfl) ?_) | (refine zaf ?_; first | refine zaa rfl (opj_indexC rfl rfl (by omega) (by omega)) ?_ | refine zaa rfl (zbs rfl rfl (by omega) (by omega)) ?_ | refine zaa rfl (zbv rfl rfl (by omega) (by omega)) ?_ | refine zaa rfl (zbw rfl rfl (by omega) (by omega)) ?_) | refine zaa rfl (zcd rfl) ?_ | refine zaa rfl (zce rfl) ?_ | refine zaa rfl (zbx rfl) ?_ | refine zaa rfl (zby rfl) ?_ | refine zaa rfl (zbz rfl rfl) ?_ | refine zaa rfl (zca rfl rfl) ?_ | refine zaa rfl (zcb rfl rfl) ?_ | refine zaa rfl (zcc rfl) ?_ | refine zah ?_ | (refine zcr ?_; first | refine zcs ?_ | refine zct ?_ | refine zcu ?_ | refine zcv ?_ | refine zcw ?_ | refine zcx ?_ | refine zcy rfl ?_ | refine zcz ?_ | refine zda ?_) | (refine zdb ?_; first | refine zdc ?_ | refine zdd ?_ | refine zde ?_ | refine zdf ?_ | refine zdg ?_ | refine zdh ?_ | refine zdi rfl ?_ | refine zdj rfl ?_) | (refine zak rfl rfl rfl ?_; intro g) | (refine zal rfl rfl ?_; intro g) | (refine zag ?_; first | refine zam 0 rfl rfl rfl rfl rfl rfl ?_ | refine zam 1 rfl rfl rfl rfl rfl rfl ?_ | refine zan 0 rfl rfl rfl rfl rfl rfl rfl rfl rfl ?_ | refine zan 1 rfl rfl rfl rfl rfl rfl rfl rfl rfl ?_ | refine zao 0 rfl rfl rfl rfl rfl rfl ?_ | refine zao 1 rfl rfl rfl rfl rfl rfl ?_)
  exact done_ret2 rfl () rfl rfl rfl trivial (List.nil_sublist _)
section
variable {P : Program} {N : Nat} {S : World → Prop} {e : Env} {Q : Exit → Env → World → Prop} {ops : Array Oper} {l : List Oper}
variable {w0 : World} {gs : List Nat} {H : List Ent} {dst : Option Tmp} {ty : TypeId} {pos : String} {after : Array Edge} {guard : Option (Nat × Bool)} {t el : TypeId}
theorem rs_makeT1 {d : Tmp} {A B : Operand} {n : Nat} {z : Value} {b : Nat} [hu : TyU P t (.slice el)] [hi : TyI P el z 1 b]
    (hA : e.ev A = some (.raw (.int .i64 (n : Int)))) (hB : e.ev B = some (.raw (.int .i64 (n : Int)))) (hd : Nat.blt d N = true) (hz : cv1 z = .f .f32 (fv .f32 0)) (hzo : okv1 z = true) (hzc : z.cells = #[z])
    (hb : b * n ≤ 281474976710656) (hm : n ≤ maxLen)
    (hk : ∀ g, RS P N ops l ((d, .raw (.slice (some ⟨g, 0, none⟩) n n)) :: e) (StR R w0 gs (entF g el n (fun _ => fv .f32 0) n :: H)) Q) :
    RS P N ops (⟨some d, .makeSlice t A B, ty, pos, after, none⟩ :: l) e (StR R w0 gs H) Q := by
  refine rs_make (m := AV.f .f32) (zx := fv .f32 0) hA hB hd hz hzo hzc hb hm fun g => ?_
  rw [tab_rep]
  exact hk g
end
abbrev one1 : FV := fv .f32 1065353216
def onesK (m : Nat) (s : Int) : FV := if s < m then one1 else fv .f32 0
theorem rep_fn (n : Nat) (hn : 1 ≤ n ∧ n ≤ 1000) : FnH (X := Nat) Try.prog 94 (fun w => [AV.sl w 1 ((tab 1 fun _ => one1).map (AV.f .f32)), .raw (.int .i64 n)]) []
    (fun g => .raw (.slice (some ⟨g, 0, none⟩) n n)) (fun g => [entF g 24 n (fun _ => one1) n]) (fun _ => True) := by
  have hM := mul_fn n (by omega)
  have d1 : decide ((9223372036854775807 : Int) < n) = false := decide_eq_false (by omega)
  refine fn_intro Try.func94 rfl Try.ntmps94 (fun _ => Nat.le_of_ble_eq_true rfl) fun w0 => ?_
  repeat first | refine zai rfl rfl ?_ | refine zaj rfl rfl rfl rfl ?_ | refine zaa rfl (zay rfl) ?_ | refine zaa rfl (zaz rfl) ?_ | (refine zac ?_; first | refine zaa rfl (zba rfl rfl rfl) ?_ | refine zaa rfl (zbb rfl rfl (by omega)) ?_ | refine zaa rfl (zbc rfl rfl (by omega)) ?_ | refine zaa rfl (zbd rfl rfl rfl) ?_ | refine zaa rfl (zbe rfl rfl) ?_ | refine zaa rfl (zbf rfl rfl) ?_ | refine zaa rfl (zbg rfl rfl) ?_ | refine zaa rfl (zbh rfl rfl) ?_ | refine zaa rfl (zbi rfl rfl) ?_ | refine zaa rfl (zbj rfl rfl) ?_ | refine zaa rfl (zbk rfl rfl) ?_ | refine zaa rfl (zbl rfl rfl) ?_) | (refine zad ?_; first | refine zaa rfl (opj_lenC rfl) ?_ | refine zaa rfl (zbo rfl) ?_ | refine zaa rfl (zbm rfl) ?_ | refine zaa rfl (zbn rfl) ?_ | refine zaa rfl (zbp rfl) ?_ | refine zaa rfl (zbq rfl) ?_ | refine zaa rfl (zbr rfl rfl) ?_ | (refine zaa rfl (zci rfl rfl (hM) ?_) ?_; (focus ((repeat (first | exact Takes.nil | refine Takes.sl ?_ | refine Takes.lit ?_ | refine Takes.fa ?_ | refine Takes.fc ?_ | refine Takes.net ?_ | (refine Takes.ownE ?_ ?_ ?_ ?_ ?_; (focus (exact ⟨_, _, (by (repeat (first | exact mh | refine mt ?_)); done)⟩)); (focus (simp; done)); (focus omega); (focus (simp only [maxLen]; omega))) | refine Takes.same ?_)); done)))) | (refine zae ?_; first | refine zaa rfl (opj_loadC rfl rfl (by (repeat (first | exact mh | refine mt ?_)); done) (by omega)) ?_ | refine zaa rfl (zbt rfl rfl (by (repeat (first | exact mh | refine mt ?_)); done) (by omega)) ?_ | refine zaa rfl (zcf rfl rfl (by (repeat (first | exact mh | refine mt ?_)); done) rfl) ?_ | refine zaa rfl (zcg rfl rfl (by (repeat (first | exact mh | refine mt ?_)); done) rfl rfl) ?_ | refine zaa rfl (zch rfl rfl rfl rfl) ?_ | refine zaa rfl (zbu rfl rfl) ?_) | (refine zaf ?_; first | refine zaa rfl (opj_indexC rfl rfl (by omega) (by omega)) ?_ | refine zaa rfl (zbs rfl rfl (by omega) (by omega)) ?_ | refine zaa rfl (zbv rfl rfl (by omega) (by omega)) ?_ | refine zaa rfl (zbw rfl rfl (by omega) (by omega)) ?_) | refine zaa rfl (zcd rfl) ?_ | refine zaa rfl (zce rfl) ?_ | refine zaa rfl (zbx rfl) ?_ | refine zaa rfl (zby rfl) ?_ | refine zaa rfl (zbz rfl rfl) ?_ | refine zaa rfl (zca rfl rfl) ?_ | refine zaa rfl (zcb rfl rfl) ?_ | refine zaa rfl (zcc rfl) ?_ | refine zah ?_ | (refine zcr ?_; first | refine zcs ?_ | refine zct ?_ | refine zcu ?_ | refine zcv ?_ | refine zcw ?_ | refine zcx ?_ | refine zcy rfl ?_ | refine zcz ?_ | refine zda ?_) | (refine zdb ?_; first | refine zdc ?_ | refine zdd ?_ | refine zde ?_ | refine zdf ?_ | refine zdg ?_ | refine zdh ?_ | refine zdi rfl ?_ | refine zdj rfl ?_) | (refine zak rfl rfl rfl ?_; intro g) | (refine zal rfl rfl ?_; intro g) | (refine zag ?_; first | refine zam 0 rfl rfl rfl rfl rfl rfl ?_ | refine zam 1 rfl rfl rfl rfl rfl rfl ?_ | refine zan 0 rfl rfl rfl rfl rfl rfl rfl rfl rfl ?_ | refine zan 1 rfl rfl rfl rfl rfl rfl rfl rfl rfl ?_ | refine zao 0 rfl rfl rfl rfl rfl rfl ?_ | refine zao 1 rfl rfl rfl rfl rfl rfl ?_) | refine zaa rfl (opj_smallU (k0 := .i64) rfl (by omega)) ?_ | refine zaa rfl (opj_small (k0 := .u64) rfl (by omega)) ?_
  rw [d1]
  repeat first | refine zai rfl rfl ?_ | refine zaj rfl rfl rfl rfl ?_ | refine zaa rfl (zay rfl) ?_ | refine zaa rfl (zaz rfl) ?_ | (refine zac ?_; first | refine zaa rfl (zba rfl rfl rfl) ?_ | refine zaa rfl (zbb rfl rfl (by omega)) ?_ | refine zaa rfl (zbc rfl rfl (by omega)) ?_ | refine zaa rfl (zbd rfl rfl rfl) ?_ | refine zaa rfl (zbe rfl rfl) ?_ | refine zaa rfl (zbf rfl rfl) ?_ | refine zaa rfl (zbg rfl rfl) ?_ | refine zaa rfl (zbh rfl rfl) ?_ | refine zaa rfl (zbi rfl rfl) ?_ | refine zaa rfl (zbj rfl rfl) ?_ | refine zaa rfl (zbk rfl rfl) ?_ | refine zaa rfl (zbl rfl rfl) ?_) | (refine zad ?_; first | refine zaa rfl (opj_lenC rfl) ?_ | refine zaa rfl (zbo rfl) ?_ | refine zaa rfl (zbm rfl) ?_ | refine zaa rfl (zbn rfl) ?_ | refine zaa rfl (zbp rfl) ?_ | refine zaa rfl (zbq rfl) ?_ | refine zaa rfl (zbr rfl rfl) ?_) | (refine zae ?_; first | refine zaa rfl (opj_loadC rfl rfl (by (repeat (first | exact mh | refine mt ?_)); done) (by omega)) ?_ | refine zaa rfl (zbt rfl rfl (by (repeat (first | exact mh | refine mt ?_)); done) (by omega)) ?_ | refine zaa rfl (zcf rfl rfl (by (repeat (first | exact mh | refine mt ?_)); done) rfl) ?_ | refine zaa rfl (zcg rfl rfl (by (repeat (first | exact mh | refine mt ?_)); done) rfl rfl) ?_ | refine zaa rfl (zch rfl rfl rfl rfl) ?_ | refine zaa rfl (zbu rfl rfl) ?_) | (refine zaf ?_; first | refine zaa rfl (opj_indexC rfl rfl (by omega) (by omega)) ?_ | refine zaa rfl (zbs rfl rfl (by omega) (by omega)) ?_ | refine zaa rfl (zbv rfl rfl (by omega) (by omega)) ?_ | refine zaa rfl (zbw rfl rfl (by omega) (by omega)) ?_) | refine zaa rfl (zcd rfl) ?_ | refine zaa rfl (zce rfl) ?_ | refine zaa rfl (zbx rfl) ?_ | refine zaa rfl (zby rfl) ?_ | refine zaa rfl (zbz rfl rfl) ?_ | refine zaa rfl (zca rfl rfl) ?_ | refine zaa rfl (zcb rfl rfl) ?_ | refine zaa rfl (zcc rfl) ?_ | refine zah ?_ | (refine zcr ?_; first | refine zcs ?_ | refine zct ?_ | refine zcu ?_ | refine zcv ?_ | refine zcw ?_ | refine zcx ?_ | refine zcy rfl ?_ | refine zcz ?_ | refine zda ?_) | (refine zdb ?_; first | refine zdc ?_ | refine zdd ?_ | refine zde ?_ | refine zdf ?_ | refine zdg ?_ | refine zdh ?_ | refine zdi rfl ?_ | refine zdj rfl ?_) | (refine zak rfl rfl rfl ?_; intro g) | (refine zal rfl rfl ?_; intro g) | (refine zag ?_; first | refine zam 0 rfl rfl rfl rfl rfl rfl ?_ | refine zam 1 rfl rfl rfl rfl rfl rfl ?_ | refine zan 0 rfl rfl rfl rfl rfl rfl rfl rfl rfl ?_ | refine zan 1 rfl rfl rfl rfl rfl rfl rfl rfl rfl ?_ | refine zao 0 rfl rfl rfl rfl rfl rfl ?_ | refine zao 1 rfl rfl rfl rfl rfl rfl ?_) | refine zaa rfl (opj_smallU (k0 := .i64) rfl (by omega)) ?_ | refine zaa rfl (opj_small (k0 := .u64) rfl (by omega)) ?_ | (refine rs_makeT1 rfl rfl rfl rfl rfl rfl (by omega) (by simp only [maxLen]; omega) ?_; intro g)
  refine rs_copyT 0 1 (onesK 1) (off := 0) (h := fun _ => one1) (j := 1) rfl rfl ⟨_, rfl, fun w v hS h => h.inv_q.ext hS.mod.to_ext⟩ rfl (by omega) (by omega) (by omega) (fun s hs => ?_) ?_
  · unfold onesK
    by_cases h : s < 1
    · rw [if_pos (by omega), if_pos (by omega)]
    · rw [if_neg (by omega), if_neg (by omega)]
  repeat first | refine zai rfl rfl ?_ | refine zaj rfl rfl rfl rfl ?_ | refine zaa rfl (zay rfl) ?_ | refine zaa rfl (zaz rfl) ?_ | (refine zac ?_; first | refine zaa rfl (zba rfl rfl rfl) ?_ | refine zaa rfl (zbb rfl rfl (by omega)) ?_ | refine zaa rfl (zbc rfl rfl (by omega)) ?_ | refine zaa rfl (zbd rfl rfl rfl) ?_ | refine zaa rfl (zbe rfl rfl) ?_ | refine zaa rfl (zbf rfl rfl) ?_ | refine zaa rfl (zbg rfl rfl) ?_ | refine zaa rfl (zbh rfl rfl) ?_ | refine zaa rfl (zbi rfl rfl) ?_ | refine zaa rfl (zbj rfl rfl) ?_ | refine zaa rfl (zbk rfl rfl) ?_ | refine zaa rfl (zbl rfl rfl) ?_) | (refine zad ?_; first | refine zaa rfl (opj_lenC rfl) ?_ | refine zaa rfl (zbo rfl) ?_ | refine zaa rfl (zbm rfl) ?_ | refine zaa rfl (zbn rfl) ?_ | refine zaa rfl (zbp rfl) ?_ | refine zaa rfl (zbq rfl) ?_ | refine zaa rfl (zbr rfl rfl) ?_) | (refine zae ?_; first | refine zaa rfl (opj_loadC rfl rfl (by (repeat (first | exact mh | refine mt ?_)); done) (by omega)) ?_ | refine zaa rfl (zbt rfl rfl (by (repeat (first | exact mh | refine mt ?_)); done) (by omega)) ?_ | refine zaa rfl (zcf rfl rfl (by (repeat (first | exact mh | refine mt ?_)); done) rfl) ?_ | refine zaa rfl (zcg rfl rfl (by (repeat (first | exact mh | refine mt ?_)); done) rfl rfl) ?_ | refine zaa rfl (zch rfl rfl rfl rfl) ?_ | refine zaa rfl (zbu rfl rfl) ?_) | (refine zaf ?_; first | refine zaa rfl (opj_indexC rfl rfl (by omega) (by omega)) ?_ | refine zaa rfl (zbs rfl rfl (by omega) (by omega)) ?_ | refine zaa rfl (zbv rfl rfl (by omega) (by omega)) ?_ | refine zaa rfl (zbw rfl rfl (by omega) (by omega)) ?_) | refine zaa rfl (zcd rfl) ?_ | refine zaa rfl (zce rfl) ?_ | refine zaa rfl (zbx rfl) ?_ | refine zaa rfl (zby rfl) ?_ | refine zaa rfl (zbz rfl rfl) ?_ | refine zaa rfl (zca rfl rfl) ?_ | refine zaa rfl (zcb rfl rfl) ?_ | refine zaa rfl (zcc rfl) ?_ | refine zah ?_ | (refine zcr ?_; first | refine zcs ?_ | refine zct ?_ | refine zcu ?_ | refine zcv ?_ | refine zcw ?_ | refine zcx ?_ | refine zcy rfl ?_ | refine zcz ?_ | refine zda ?_) | (refine zdb ?_; first | refine zdc ?_ | refine zdd ?_ | refine zde ?_ | refine zdf ?_ | refine zdg ?_ | refine zdh ?_ | refine zdi rfl ?_ | refine zdj rfl ?_) | (refine zak rfl rfl rfl ?_; intro g) | (refine zal rfl rfl ?_; intro g) | (refine zag ?_; first | refine zam 0 rfl rfl rfl rfl rfl rfl ?_ | refine zam 1 rfl rfl rfl rfl rfl rfl ?_ | refine zan 0 rfl rfl rfl rfl rfl rfl rfl rfl rfl ?_ | refine zan 1 rfl rfl rfl rfl rfl rfl rfl rfl rfl ?_ | refine zao 0 rfl rfl rfl rfl rfl rfl ?_ | refine zao 1 rfl rfl rfl rfl rfl rfl ?_)
  refine ws_loop (ι := Nat) (fun m => [(7, .raw (.slice (some ⟨g, 0, none⟩) n n)), (8, .raw (.int .i64 m))]) (fun m => St w0 [] [entF g 24 n (onesK m) n]) (fun m => 1 ≤ m ∧ m ≤ n) (fun m => n - m) 1 (by omega) ?_ (fun _ h => h) (fun m hm => ?_)
  · (repeat (first | exact Env.sub_nil _ | refine Env.sub_cons rfl ?_))
  repeat first | refine zai rfl rfl ?_ | refine zaj rfl rfl rfl rfl ?_ | refine zaa rfl (zay rfl) ?_ | refine zaa rfl (zaz rfl) ?_ | (refine zac ?_; first | refine zaa rfl (zba rfl rfl rfl) ?_ | refine zaa rfl (zbb rfl rfl (by omega)) ?_ | refine zaa rfl (zbc rfl rfl (by omega)) ?_ | refine zaa rfl (zbd rfl rfl rfl) ?_ | refine zaa rfl (zbe rfl rfl) ?_ | refine zaa rfl (zbf rfl rfl) ?_ | refine zaa rfl (zbg rfl rfl) ?_ | refine zaa rfl (zbh rfl rfl) ?_ | refine zaa rfl (zbi rfl rfl) ?_ | refine zaa rfl (zbj rfl rfl) ?_ | refine zaa rfl (zbk rfl rfl) ?_ | refine zaa rfl (zbl rfl rfl) ?_) | (refine zad ?_; first | refine zaa rfl (opj_lenC rfl) ?_ | refine zaa rfl (zbo rfl) ?_ | refine zaa rfl (zbm rfl) ?_ | refine zaa rfl (zbn rfl) ?_ | refine zaa rfl (zbp rfl) ?_ | refine zaa rfl (zbq rfl) ?_ | refine zaa rfl (zbr rfl rfl) ?_) | (refine zae ?_; first | refine zaa rfl (opj_loadC rfl rfl (by (repeat (first | exact mh | refine mt ?_)); done) (by omega)) ?_ | refine zaa rfl (zbt rfl rfl (by (repeat (first | exact mh | refine mt ?_)); done) (by omega)) ?_ | refine zaa rfl (zcf rfl rfl (by (repeat (first | exact mh | refine mt ?_)); done) rfl) ?_ | refine zaa rfl (zcg rfl rfl (by (repeat (first | exact mh | refine mt ?_)); done) rfl rfl) ?_ | refine zaa rfl (zch rfl rfl rfl rfl) ?_ | refine zaa rfl (zbu rfl rfl) ?_) | (refine zaf ?_; first | refine zaa rfl (opj_indexC rfl rfl (by omega) (by omega)) ?_ | refine zaa rfl (zbs rfl rfl (by omega) (by omega)) ?_ | refine zaa rfl (zbv rfl rfl (by omega) (by omega)) ?_ | refine zaa rfl (zbw rfl rfl (by omega) (by omega)) ?_) | refine zaa rfl (zcd rfl) ?_ | refine zaa rfl (zce rfl) ?_ | refine zaa rfl (zbx rfl) ?_ | refine zaa rfl (zby rfl) ?_ | refine zaa rfl (zbz rfl rfl) ?_ | refine zaa rfl (zca rfl rfl) ?_ | refine zaa rfl (zcb rfl rfl) ?_ | refine zaa rfl (zcc rfl) ?_ | refine zah ?_ | (refine zcr ?_; first | refine zcs ?_ | refine zct ?_ | refine zcu ?_ | refine zcv ?_ | refine zcw ?_ | refine zcx ?_ | refine zcy rfl ?_ | refine zcz ?_ | refine zda ?_) | (refine zdb ?_; first | refine zdc ?_ | refine zdd ?_ | refine zde ?_ | refine zdf ?_ | refine zdg ?_ | refine zdh ?_ | refine zdi rfl ?_ | refine zdj rfl ?_) | (refine zak rfl rfl rfl ?_; intro g) | (refine zal rfl rfl ?_; intro g) | (refine zag ?_; first | refine zam 0 rfl rfl rfl rfl rfl rfl ?_ | refine zam 1 rfl rfl rfl rfl rfl rfl ?_ | refine zan 0 rfl rfl rfl rfl rfl rfl rfl rfl rfl ?_ | refine zan 1 rfl rfl rfl rfl rfl rfl rfl rfl rfl ?_ | refine zao 0 rfl rfl rfl rfl rfl rfl ?_ | refine zao 1 rfl rfl rfl rfl rfl rfl ?_)
  refine ws_cond rfl (fun hd => ?_) (fun hd => ?_)
  · have hlt : (m : Int) < n := of_decide_eq_true hd
    clear hd
    repeat first | refine zai rfl rfl ?_ | refine zaj rfl rfl rfl rfl ?_ | refine zaa rfl (zay rfl) ?_ | refine zaa rfl (zaz rfl) ?_ | (refine zac ?_; first | refine zaa rfl (zba rfl rfl rfl) ?_ | refine zaa rfl (zbb rfl rfl (by omega)) ?_ | refine zaa rfl (zbc rfl rfl (by omega)) ?_ | refine zaa rfl (zbd rfl rfl rfl) ?_ | refine zaa rfl (zbe rfl rfl) ?_ | refine zaa rfl (zbf rfl rfl) ?_ | refine zaa rfl (zbg rfl rfl) ?_ | refine zaa rfl (zbh rfl rfl) ?_ | refine zaa rfl (zbi rfl rfl) ?_ | refine zaa rfl (zbj rfl rfl) ?_ | refine zaa rfl (zbk rfl rfl) ?_ | refine zaa rfl (zbl rfl rfl) ?_) | (refine zad ?_; first | refine zaa rfl (opj_lenC rfl) ?_ | refine zaa rfl (zbo rfl) ?_ | refine zaa rfl (zbm rfl) ?_ | refine zaa rfl (zbn rfl) ?_ | refine zaa rfl (zbp rfl) ?_ | refine zaa rfl (zbq rfl) ?_ | refine zaa rfl (zbr rfl rfl) ?_) | (refine zae ?_; first | refine zaa rfl (opj_loadC rfl rfl (by (repeat (first | exact mh | refine mt ?_)); done) (by omega)) ?_ | refine zaa rfl (zbt rfl rfl (by (repeat (first | exact mh | refine mt ?_)); done) (by omega)) ?_ | refine zaa rfl (zcf rfl rfl (by (repeat (first | exact mh | refine mt ?_)); done) rfl) ?_ | refine zaa rfl (zcg rfl rfl (by (repeat (first | exact mh | refine mt ?_)); done) rfl rfl) ?_ | refine zaa rfl (zch rfl rfl rfl rfl) ?_ | refine zaa rfl (zbu rfl rfl) ?_) | (refine zaf ?_; first | refine zaa rfl (opj_indexC rfl rfl (by omega) (by omega)) ?_ | refine zaa rfl (zbs rfl rfl (by omega) (by omega)) ?_ | refine zaa rfl (zbv rfl rfl (by omega) (by omega)) ?_ | refine zaa rfl (zbw rfl rfl (by omega) (by omega)) ?_) | refine zaa rfl (zcd rfl) ?_ | refine zaa rfl (zce rfl) ?_ | refine zaa rfl (zbx rfl) ?_ | refine zaa rfl (zby rfl) ?_ | refine zaa rfl (zbz rfl rfl) ?_ | refine zaa rfl (zca rfl rfl) ?_ | refine zaa rfl (zcb rfl rfl) ?_ | refine zaa rfl (zcc rfl) ?_ | refine zah ?_ | (refine zcr ?_; first | refine zcs ?_ | refine zct ?_ | refine zcu ?_ | refine zcv ?_ | refine zcw ?_ | refine zcx ?_ | refine zcy rfl ?_ | refine zcz ?_ | refine zda ?_) | (refine zdb ?_; first | refine zdc ?_ | refine zdd ?_ | refine zde ?_ | refine zdf ?_ | refine zdg ?_ | refine zdh ?_ | refine zdi rfl ?_ | refine zdj rfl ?_) | (refine zak rfl rfl rfl ?_; intro g) | (refine zal rfl rfl ?_; intro g) | (refine zag ?_; first | refine zam 0 rfl rfl rfl rfl rfl rfl ?_ | refine zam 1 rfl rfl rfl rfl rfl rfl ?_ | refine zan 0 rfl rfl rfl rfl rfl rfl rfl rfl rfl ?_ | refine zan 1 rfl rfl rfl rfl rfl rfl rfl rfl rfl ?_ | refine zao 0 rfl rfl rfl rfl rfl rfl ?_ | refine zao 1 rfl rfl rfl rfl rfl rfl ?_)
    refine ws_drawV (n := 7) (d := 45) (.int .i64 ((min m (n - m) : Nat) : Int)) (W := St w0 [] []) (S1 := St w0 [] [entF g 24 n (onesK ((m + min m (n - m) : Nat))) n]) mixed (by decide +kernel) rfl rfl (fun _ h => h.weak (List.nil_sublist _)) (fun _ h => h.weak (List.nil_sublist _)) ?_
    repeat first | refine zaw rfl rfl ?_ | refine zax rfl rfl rfl rfl ?_ | refine zap rfl (zay rfl) ?_ | refine zap rfl (zaz rfl) ?_ | (refine zar ?_; first | refine zap rfl (zba rfl rfl rfl) ?_ | refine zap rfl (zbb rfl rfl (by omega)) ?_ | refine zap rfl (zbc rfl rfl (by omega)) ?_ | refine zap rfl (zbd rfl rfl rfl) ?_ | refine zap rfl (zbe rfl rfl) ?_ | refine zap rfl (zbf rfl rfl) ?_ | refine zap rfl (zbg rfl rfl) ?_ | refine zap rfl (zbh rfl rfl) ?_ | refine zap rfl (zbi rfl rfl) ?_ | refine zap rfl (zbj rfl rfl) ?_ | refine zap rfl (zbk rfl rfl) ?_ | refine zap rfl (zbl rfl rfl) ?_) | (refine zas ?_; first | refine zap rfl (opj_lenC rfl) ?_ | refine zap rfl (zbo rfl) ?_ | refine zap rfl (zbm rfl) ?_ | refine zap rfl (zbn rfl) ?_ | refine zap rfl (zbp rfl) ?_ | refine zap rfl (zbq rfl) ?_ | refine zap rfl (zbr rfl rfl) ?_) | (refine zat ?_; first | refine zap rfl (opj_loadC rfl rfl (by (repeat (first | exact mh | refine mt ?_)); done) (by omega)) ?_ | refine zap rfl (zbt rfl rfl (by (repeat (first | exact mh | refine mt ?_)); done) (by omega)) ?_ | refine zap rfl (zcf rfl rfl (by (repeat (first | exact mh | refine mt ?_)); done) rfl) ?_ | refine zap rfl (zcg rfl rfl (by (repeat (first | exact mh | refine mt ?_)); done) rfl rfl) ?_ | refine zap rfl (zch rfl rfl rfl rfl) ?_ | refine zap rfl (zbu rfl rfl) ?_) | (refine zau ?_; first | refine zap rfl (opj_indexC rfl rfl (by omega) (by omega)) ?_ | refine zap rfl (zbs rfl rfl (by omega) (by omega)) ?_ | refine zap rfl (zbv rfl rfl (by omega) (by omega)) ?_ | refine zap rfl (zbw rfl rfl (by omega) (by omega)) ?_) | refine zap rfl (zcd rfl) ?_ | refine zap rfl (zce rfl) ?_ | refine zap rfl (zbx rfl) ?_ | refine zap rfl (zby rfl) ?_ | refine zap rfl (zbz rfl rfl) ?_ | refine zap rfl (zca rfl rfl) ?_ | refine zap rfl (zcb rfl rfl) ?_ | refine zap rfl (zcc rfl) ?_ | refine zav ?_ | refine zap rfl (opj_cut_l rfl rfl (by omega) (Nat.le_refl _)) ?_ | refine zap rfl (opj_cut_h rfl rfl (by omega) (by omega)) ?_
    refine ⟨rfl, fun o ho => ?_, ?_⟩
    · cases ho
      refine effv_copyT 0 (min m (n - m)) (onesK ((m + min m (n - m) : Nat))) (off := (m : Int).toNat) (h := onesK m) (j := (m : Int).toNat) rfl ⟨_, rfl, fun w v hS h => rd_own hS h mh (by omega) ⟨by omega, by simp only [maxLen]; omega⟩⟩ rfl (by omega) (by omega) (by omega) (fun s hs => ?_)
      unfold onesK
      by_cases h : s < m
      · rw [if_pos (by omega), if_neg (by omega), if_pos (by omega)]
      · by_cases h' : s < m + min m (n - m)
        · rw [if_pos (by omega), if_pos (by omega), if_pos (by omega)]
        · rw [if_neg (by omega), if_neg (by omega), if_neg (by omega)]
    repeat first | refine zai rfl rfl ?_ | refine zaj rfl rfl rfl rfl ?_ | refine zaa rfl (zay rfl) ?_ | refine zaa rfl (zaz rfl) ?_ | (refine zac ?_; first | refine zaa rfl (zba rfl rfl rfl) ?_ | refine zaa rfl (zbb rfl rfl (by omega)) ?_ | refine zaa rfl (zbc rfl rfl (by omega)) ?_ | refine zaa rfl (zbd rfl rfl rfl) ?_ | refine zaa rfl (zbe rfl rfl) ?_ | refine zaa rfl (zbf rfl rfl) ?_ | refine zaa rfl (zbg rfl rfl) ?_ | refine zaa rfl (zbh rfl rfl) ?_ | refine zaa rfl (zbi rfl rfl) ?_ | refine zaa rfl (zbj rfl rfl) ?_ | refine zaa rfl (zbk rfl rfl) ?_ | refine zaa rfl (zbl rfl rfl) ?_) | (refine zad ?_; first | refine zaa rfl (opj_lenC rfl) ?_ | refine zaa rfl (zbo rfl) ?_ | refine zaa rfl (zbm rfl) ?_ | refine zaa rfl (zbn rfl) ?_ | refine zaa rfl (zbp rfl) ?_ | refine zaa rfl (zbq rfl) ?_ | refine zaa rfl (zbr rfl rfl) ?_) | (refine zae ?_; first | refine zaa rfl (opj_loadC rfl rfl (by (repeat (first | exact mh | refine mt ?_)); done) (by omega)) ?_ | refine zaa rfl (zbt rfl rfl (by (repeat (first | exact mh | refine mt ?_)); done) (by omega)) ?_ | refine zaa rfl (zcf rfl rfl (by (repeat (first | exact mh | refine mt ?_)); done) rfl) ?_ | refine zaa rfl (zcg rfl rfl (by (repeat (first | exact mh | refine mt ?_)); done) rfl rfl) ?_ | refine zaa rfl (zch rfl rfl rfl rfl) ?_ | refine zaa rfl (zbu rfl rfl) ?_) | (refine zaf ?_; first | refine zaa rfl (opj_indexC rfl rfl (by omega) (by omega)) ?_ | refine zaa rfl (zbs rfl rfl (by omega) (by omega)) ?_ | refine zaa rfl (zbv rfl rfl (by omega) (by omega)) ?_ | refine zaa rfl (zbw rfl rfl (by omega) (by omega)) ?_) | refine zaa rfl (zcd rfl) ?_ | refine zaa rfl (zce rfl) ?_ | refine zaa rfl (zbx rfl) ?_ | refine zaa rfl (zby rfl) ?_ | refine zaa rfl (zbz rfl rfl) ?_ | refine zaa rfl (zca rfl rfl) ?_ | refine zaa rfl (zcb rfl rfl) ?_ | refine zaa rfl (zcc rfl) ?_ | refine zah ?_ | (refine zcr ?_; first | refine zcs ?_ | refine zct ?_ | refine zcu ?_ | refine zcv ?_ | refine zcw ?_ | refine zcx ?_ | refine zcy rfl ?_ | refine zcz ?_ | refine zda ?_) | (refine zdb ?_; first | refine zdc ?_ | refine zdd ?_ | refine zde ?_ | refine zdf ?_ | refine zdg ?_ | refine zdh ?_ | refine zdi rfl ?_ | refine zdj rfl ?_) | (refine zak rfl rfl rfl ?_; intro g) | (refine zal rfl rfl ?_; intro g) | (refine zag ?_; first | refine zam 0 rfl rfl rfl rfl rfl rfl ?_ | refine zam 1 rfl rfl rfl rfl rfl rfl ?_ | refine zan 0 rfl rfl rfl rfl rfl rfl rfl rfl rfl ?_ | refine zan 1 rfl rfl rfl rfl rfl rfl rfl rfl rfl ?_ | refine zao 0 rfl rfl rfl rfl rfl rfl ?_ | refine zao 1 rfl rfl rfl rfl rfl rfl ?_)
    refine done_round (m + min m (n - m)) (by omega) (by omega) ?_ (fun _ h => h)
    have hnext : ((m + min m (n - m) : Nat) : Int) = (m : Int) + (min m (n - m) : Nat) := by omega
    rw [hnext]
    (repeat (first | exact Env.sub_nil _ | refine Env.sub_cons rfl ?_))
  · have hge : ¬ (m : Int) < n := of_decide_eq_false hd
    have hmn : m = n := by omega
    subst hmn
    repeat first | refine zai rfl rfl ?_ | refine zaj rfl rfl rfl rfl ?_ | refine zaa rfl (zay rfl) ?_ | refine zaa rfl (zaz rfl) ?_ | (refine zac ?_; first | refine zaa rfl (zba rfl rfl rfl) ?_ | refine zaa rfl (zbb rfl rfl (by omega)) ?_ | refine zaa rfl (zbc rfl rfl (by omega)) ?_ | refine zaa rfl (zbd rfl rfl rfl) ?_ | refine zaa rfl (zbe rfl rfl) ?_ | refine zaa rfl (zbf rfl rfl) ?_ | refine zaa rfl (zbg rfl rfl) ?_ | refine zaa rfl (zbh rfl rfl) ?_ | refine zaa rfl (zbi rfl rfl) ?_ | refine zaa rfl (zbj rfl rfl) ?_ | refine zaa rfl (zbk rfl rfl) ?_ | refine zaa rfl (zbl rfl rfl) ?_) | (refine zad ?_; first | refine zaa rfl (opj_lenC rfl) ?_ | refine zaa rfl (zbo rfl) ?_ | refine zaa rfl (zbm rfl) ?_ | refine zaa rfl (zbn rfl) ?_ | refine zaa rfl (zbp rfl) ?_ | refine zaa rfl (zbq rfl) ?_ | refine zaa rfl (zbr rfl rfl) ?_) | (refine zae ?_; first | refine zaa rfl (opj_loadC rfl rfl (by (repeat (first | exact mh | refine mt ?_)); done) (by omega)) ?_ | refine zaa rfl (zbt rfl rfl (by (repeat (first | exact mh | refine mt ?_)); done) (by omega)) ?_ | refine zaa rfl (zcf rfl rfl (by (repeat (first | exact mh | refine mt ?_)); done) rfl) ?_ | refine zaa rfl (zcg rfl rfl (by (repeat (first | exact mh | refine mt ?_)); done) rfl rfl) ?_ | refine zaa rfl (zch rfl rfl rfl rfl) ?_ | refine zaa rfl (zbu rfl rfl) ?_) | (refine zaf ?_; first | refine zaa rfl (opj_indexC rfl rfl (by omega) (by omega)) ?_ | refine zaa rfl (zbs rfl rfl (by omega) (by omega)) ?_ | refine zaa rfl (zbv rfl rfl (by omega) (by omega)) ?_ | refine zaa rfl (zbw rfl rfl (by omega) (by omega)) ?_) | refine zaa rfl (zcd rfl) ?_ | refine zaa rfl (zce rfl) ?_ | refine zaa rfl (zbx rfl) ?_ | refine zaa rfl (zby rfl) ?_ | refine zaa rfl (zbz rfl rfl) ?_ | refine zaa rfl (zca rfl rfl) ?_ | refine zaa rfl (zcb rfl rfl) ?_ | refine zaa rfl (zcc rfl) ?_ | refine zah ?_ | (refine zcr ?_; first | refine zcs ?_ | refine zct ?_ | refine zcu ?_ | refine zcv ?_ | refine zcw ?_ | refine zcx ?_ | refine zcy rfl ?_ | refine zcz ?_ | refine zda ?_) | (refine zdb ?_; first | refine zdc ?_ | refine zdd ?_ | refine zde ?_ | refine zdf ?_ | refine zdg ?_ | refine zdh ?_ | refine zdi rfl ?_ | refine zdj rfl ?_) | (refine zak rfl rfl rfl ?_; intro g) | (refine zal rfl rfl ?_; intro g) | (refine zag ?_; first | refine zam 0 rfl rfl rfl rfl rfl rfl ?_ | refine zam 1 rfl rfl rfl rfl rfl rfl ?_ | refine zan 0 rfl rfl rfl rfl rfl rfl rfl rfl rfl ?_ | refine zan 1 rfl rfl rfl rfl rfl rfl rfl rfl rfl ?_ | refine zao 0 rfl rfl rfl rfl rfl rfl ?_ | refine zao 1 rfl rfl rfl rfl rfl rfl ?_)
    refine done_ret1 rfl g rfl trivial ?_
    have : entF g 24 m (onesK m) m = entF g 24 m (fun _ => one1) m := by
      unfold entF
      rw [tab_congr (g := fun _ => one1) fun i h0 h1 => by unfold onesK; rw [if_pos h1]]
    rw [this]
    exact List.Sublist.refl _
theorem ones_fn (n : Nat) (hn : 1 ≤ n ∧ n ≤ 1000) : FnH (X := Nat) Try.prog 72 (fun _ => [.raw (.int .i64 n)]) []
    (fun g => .raw (.slice (some ⟨g, 0, none⟩) n n)) (fun g => [entF g 24 n (fun _ => one1) n]) (fun _ => True) := by
  have e1 : (tab 1 fun _ => one1).map (AV.f .f32) = [.f .f32 one1] := by unfold tab; rfl
  have hR := rep_fn n hn
  rw [e1] at hR
  refine fn_intro Try.func72 rfl Try.ntmps72 (fun _ => Nat.le_of_ble_eq_true rfl) fun w0 => ?_
  repeat first | refine zai rfl rfl ?_ | refine zaj rfl rfl rfl rfl ?_ | refine zaa rfl (zay rfl) ?_ | refine zaa rfl (zaz rfl) ?_ | (refine zac ?_; first | refine zaa rfl (zba rfl rfl rfl) ?_ | refine zaa rfl (zbb rfl rfl (by omega)) ?_ | refine zaa rfl (zbc rfl rfl (by omega)) ?_ | refine zaa rfl (zbd rfl rfl rfl) ?_ | refine zaa rfl (zbe rfl rfl) ?_ | refine zaa rfl (zbf rfl rfl) ?_ | refine zaa rfl (zbg rfl rfl) ?_ | refine zaa rfl (zbh rfl rfl) ?_ | refine zaa rfl (zbi rfl rfl) ?_ | refine zaa rfl (zbj rfl rfl) ?_ | refine zaa rfl (zbk rfl rfl) ?_ | refine zaa rfl (zbl rfl rfl) ?_) | (refine zad ?_; first | refine zaa rfl (opj_lenC rfl) ?_ | refine zaa rfl (zbo rfl) ?_ | refine zaa rfl (zbm rfl) ?_ | refine zaa rfl (zbn rfl) ?_ | refine zaa rfl (zbp rfl) ?_ | refine zaa rfl (zbq rfl) ?_ | refine zaa rfl (zbr rfl rfl) ?_ | (refine rs_call1 (hR) rfl rfl ?_ rfl ?_; (focus ((repeat (first | exact Takes.nil | refine Takes.sl ?_ | refine Takes.lit ?_ | refine Takes.fa ?_ | refine Takes.fc ?_ | refine Takes.net ?_ | (refine Takes.ownE ?_ ?_ ?_ ?_ ?_; (focus (exact ⟨_, _, (by (repeat (first | exact mh | refine mt ?_)); done)⟩)); (focus (simp; done)); (focus omega); (focus (simp only [maxLen]; omega))) | refine Takes.same ?_)); done)); intro g _)) | (refine zae ?_; first | refine zaa rfl (opj_loadC rfl rfl (by (repeat (first | exact mh | refine mt ?_)); done) (by omega)) ?_ | refine zaa rfl (zbt rfl rfl (by (repeat (first | exact mh | refine mt ?_)); done) (by omega)) ?_ | refine zaa rfl (zcf rfl rfl (by (repeat (first | exact mh | refine mt ?_)); done) rfl) ?_ | refine zaa rfl (zcg rfl rfl (by (repeat (first | exact mh | refine mt ?_)); done) rfl rfl) ?_ | refine zaa rfl (zch rfl rfl rfl rfl) ?_ | refine zaa rfl (zbu rfl rfl) ?_) | (refine zaf ?_; first | refine zaa rfl (opj_indexC rfl rfl (by omega) (by omega)) ?_ | refine zaa rfl (zbs rfl rfl (by omega) (by omega)) ?_ | refine zaa rfl (zbv rfl rfl (by omega) (by omega)) ?_ | refine zaa rfl (zbw rfl rfl (by omega) (by omega)) ?_) | refine zaa rfl (zcd rfl) ?_ | refine zaa rfl (zce rfl) ?_ | refine zaa rfl (zbx rfl) ?_ | refine zaa rfl (zby rfl) ?_ | refine zaa rfl (zbz rfl rfl) ?_ | refine zaa rfl (zca rfl rfl) ?_ | refine zaa rfl (zcb rfl rfl) ?_ | refine zaa rfl (zcc rfl) ?_ | refine zah ?_ | (refine zcr ?_; first | refine zcs ?_ | refine zct ?_ | refine zcu ?_ | refine zcv ?_ | refine zcw ?_ | refine zcx ?_ | refine zcy rfl ?_ | refine zcz ?_ | refine zda ?_) | (refine zdb ?_; first | refine zdc ?_ | refine zdd ?_ | refine zde ?_ | refine zdf ?_ | refine zdg ?_ | refine zdh ?_ | refine zdi rfl ?_ | refine zdj rfl ?_) | (refine zak rfl rfl rfl ?_; intro g) | (refine zal rfl rfl ?_; intro g) | (refine zag ?_; first | refine zam 0 rfl rfl rfl rfl rfl rfl ?_ | refine zam 1 rfl rfl rfl rfl rfl rfl ?_ | refine zan 0 rfl rfl rfl rfl rfl rfl rfl rfl rfl ?_ | refine zan 1 rfl rfl rfl rfl rfl rfl rfl rfl rfl ?_ | refine zao 0 rfl rfl rfl rfl rfl rfl ?_ | refine zao 1 rfl rfl rfl rfl rfl rfl ?_) | refine zaa rfl (zco rfl rfl rfl rfl rfl rfl) ?_
  exact done_ret1 rfl g rfl trivial (List.Sublist.refl _)
end Go.Ab
namespace Go.Ab
open Go.Proofs
attribute [local irreducible] WS RS Done OpJ Then InBlock Round Ret Env.sub FnH
def hT (f : Int → FV) (i : Int) : FV := if i < 1 then fv .f32 0 else fbin .sub .f32 (f i) (f (i - 1))
def stpT (f g : Int → FV) (i : Int) : FV := if i < 1 then fv .f32 0 else fbin .quo .f32 (fbin .sub .f32 (g i) (g (i - 1))) (hT f i)
theorem hT_pos (f : Int → FV) {i : Int} (h : 1 ≤ i) : hT f i = fbin .sub .f32 (f i) (f (i - 1)) := if_neg (by omega)
theorem stpT_pos (f g : Int → FV) {i : Int} (h : 1 ≤ i) : stpT f g i = fbin .quo .f32 (fbin .sub .f32 (g i) (g (i - 1))) (hT f i) := if_neg (by omega)

theorem stepsOf_fn (n : Nat) (f g : Int → FV) (hn : 2 ≤ n) (hn' : n < 2 ^ 40) : FnH (X := (Nat × Nat) × (Nat × Nat)) Try.prog 95 (fun w => [slF w (tab n f), slF w (tab n g)]) []
    (fun y => .tup [.raw (.slice (some ⟨y.1.1, 0, none⟩) n y.1.2), .raw (.slice (some ⟨y.2.1, 0, none⟩) n y.2.2)])
    (fun y => [entF y.2.1 24 n (stpT f g) y.2.2, entF y.1.1 24 n (hT f) y.1.2]) (fun y => n ≤ y.1.2 ∧ n ≤ y.2.2) := by
  refine fn_intro Try.func95 rfl Try.ntmps95 (fun _ => Nat.le_of_ble_eq_true rfl) fun w0 => ?_
  repeat first | refine zai rfl rfl ?_ | refine zaj rfl rfl rfl rfl ?_ | refine zaa rfl (zay rfl) ?_ | refine zaa rfl (zaz rfl) ?_ | (refine zac ?_; first | refine zaa rfl (zba rfl rfl rfl) ?_ | refine zaa rfl (zbb rfl rfl (by omega)) ?_ | refine zaa rfl (zbc rfl rfl (by omega)) ?_ | refine zaa rfl (zbd rfl rfl rfl) ?_ | refine zaa rfl (zbe rfl rfl) ?_ | refine zaa rfl (zbf rfl rfl) ?_ | refine zaa rfl (zbg rfl rfl) ?_ | refine zaa rfl (zbh rfl rfl) ?_ | refine zaa rfl (zbi rfl rfl) ?_ | refine zaa rfl (zbj rfl rfl) ?_ | refine zaa rfl (zbk rfl rfl) ?_ | refine zaa rfl (zbl rfl rfl) ?_) | (refine zad ?_; first | refine zaa rfl (zbo rfl) ?_ | refine zaa rfl (zbm rfl) ?_ | refine zaa rfl (zbn rfl) ?_ | refine zaa rfl (zbp rfl) ?_ | refine zaa rfl (zbq rfl) ?_ | refine zaa rfl (zbr rfl rfl) ?_) | (refine zae ?_; first | refine zaa rfl (zbt rfl rfl (by (repeat (first | exact mh | refine mt ?_)); done) (by omega)) ?_ | refine zaa rfl (zbu rfl rfl) ?_) | (refine zaf ?_; first | refine zaa rfl (zbs rfl rfl (by omega) (by omega)) ?_ | refine zaa rfl (zbv rfl rfl (by omega) (by omega)) ?_ | refine zaa rfl (zbw rfl rfl (by omega) (by omega)) ?_) | refine zaa rfl (zbx rfl) ?_ | refine zaa rfl (zby rfl) ?_ | refine zaa rfl (zbz rfl rfl) ?_ | refine zaa rfl (zca rfl rfl) ?_ | refine zaa rfl (zcb rfl rfl) ?_ | refine zaa rfl (zcc rfl) ?_ | refine zah ?_ | (refine zcr ?_; first | refine zcs ?_ | refine zct ?_ | refine zcu ?_ | refine zcv ?_ | refine zcw ?_ | refine zcx ?_ | refine zcy rfl ?_ | refine zcz ?_ | refine zda ?_) | (refine zdb ?_; first | refine zdc ?_ | refine zdd ?_ | refine zde ?_ | refine zdf ?_ | refine zdg ?_ | refine zdh ?_ | refine zdi rfl ?_ | refine zdj rfl ?_)
  refine rs_litP rfl rfl rfl rfl rfl rfl fun g1 => ?_
  refine rs_litP rfl rfl rfl rfl rfl rfl fun g2 => ?_
  repeat first | refine zai rfl rfl ?_ | refine zaj rfl rfl rfl rfl ?_ | refine zaa rfl (zay rfl) ?_ | refine zaa rfl (zaz rfl) ?_ | (refine zac ?_; first | refine zaa rfl (zba rfl rfl rfl) ?_ | refine zaa rfl (zbb rfl rfl (by omega)) ?_ | refine zaa rfl (zbc rfl rfl (by omega)) ?_ | refine zaa rfl (zbd rfl rfl rfl) ?_ | refine zaa rfl (zbe rfl rfl) ?_ | refine zaa rfl (zbf rfl rfl) ?_ | refine zaa rfl (zbg rfl rfl) ?_ | refine zaa rfl (zbh rfl rfl) ?_ | refine zaa rfl (zbi rfl rfl) ?_ | refine zaa rfl (zbj rfl rfl) ?_ | refine zaa rfl (zbk rfl rfl) ?_ | refine zaa rfl (zbl rfl rfl) ?_) | (refine zad ?_; first | refine zaa rfl (zbo rfl) ?_ | refine zaa rfl (zbm rfl) ?_ | refine zaa rfl (zbn rfl) ?_ | refine zaa rfl (zbp rfl) ?_ | refine zaa rfl (zbq rfl) ?_ | refine zaa rfl (zbr rfl rfl) ?_) | (refine zae ?_; first | refine zaa rfl (zbt rfl rfl (by (repeat (first | exact mh | refine mt ?_)); done) (by omega)) ?_ | refine zaa rfl (zbu rfl rfl) ?_) | (refine zaf ?_; first | refine zaa rfl (zbs rfl rfl (by omega) (by omega)) ?_ | refine zaa rfl (zbv rfl rfl (by omega) (by omega)) ?_ | refine zaa rfl (zbw rfl rfl (by omega) (by omega)) ?_) | refine zaa rfl (zbx rfl) ?_ | refine zaa rfl (zby rfl) ?_ | refine zaa rfl (zbz rfl rfl) ?_ | refine zaa rfl (zca rfl rfl) ?_ | refine zaa rfl (zcb rfl rfl) ?_ | refine zaa rfl (zcc rfl) ?_ | refine zah ?_ | (refine zcr ?_; first | refine zcs ?_ | refine zct ?_ | refine zcu ?_ | refine zcv ?_ | refine zcw ?_ | refine zcx ?_ | refine zcy rfl ?_ | refine zcz ?_ | refine zda ?_) | (refine zdb ?_; first | refine zdc ?_ | refine zdd ?_ | refine zde ?_ | refine zdf ?_ | refine zdg ?_ | refine zdh ?_ | refine zdi rfl ?_ | refine zdj rfl ?_)
  refine ws_loop (ι := Nat × (Nat × Nat) × (Nat × Nat)) (fun y => [(0, slF w0 (tab n f)), (1, slF w0 (tab n g)), (6, .raw (.slice (some ⟨y.2.1.1, 0, none⟩) (y.1 + 1) y.2.1.2)), (7, .raw (.slice (some ⟨y.2.2.1, 0, none⟩) (y.1 + 1) y.2.2.2)), (8, .raw (.int .i64 ((y.1 : Int) + 1)))])
    (fun y => St w0 [] [entF y.2.2.1 24 (y.1 + 1) (stpT f g) y.2.2.2, entF y.2.1.1 24 (y.1 + 1) (hT f) y.2.1.2])
    (fun y => y.1 + 1 ≤ n ∧ y.1 + 1 ≤ y.2.1.2 ∧ y.1 + 1 ≤ y.2.2.2 ∧ y.2.1.2 ≤ maxLen ∧ y.2.2.2 ≤ maxLen) (fun y => n - y.1) (0, (g1, 1), (g2, 1)) (by simp only [maxLen]; omega) ?_ (fun _ h => h) (fun y hy => ?_)
  · (repeat (first | exact Env.sub_nil _ | refine Env.sub_cons rfl ?_))
  · obtain ⟨k, ⟨a1, c1⟩, ⟨a2, c2⟩⟩ := y
    simp only at hy ⊢
    obtain ⟨hk, hc1, hc2, hm1, hm2⟩ := hy
    repeat first | refine zai rfl rfl ?_ | refine zaj rfl rfl rfl rfl ?_ | refine zaa rfl (zay rfl) ?_ | refine zaa rfl (zaz rfl) ?_ | (refine zac ?_; first | refine zaa rfl (zba rfl rfl rfl) ?_ | refine zaa rfl (zbb rfl rfl (by omega)) ?_ | refine zaa rfl (zbc rfl rfl (by omega)) ?_ | refine zaa rfl (zbd rfl rfl rfl) ?_ | refine zaa rfl (zbe rfl rfl) ?_ | refine zaa rfl (zbf rfl rfl) ?_ | refine zaa rfl (zbg rfl rfl) ?_ | refine zaa rfl (zbh rfl rfl) ?_ | refine zaa rfl (zbi rfl rfl) ?_ | refine zaa rfl (zbj rfl rfl) ?_ | refine zaa rfl (zbk rfl rfl) ?_ | refine zaa rfl (zbl rfl rfl) ?_) | (refine zad ?_; first | refine zaa rfl (zbo rfl) ?_ | refine zaa rfl (zbm rfl) ?_ | refine zaa rfl (zbn rfl) ?_ | refine zaa rfl (zbp rfl) ?_ | refine zaa rfl (zbq rfl) ?_ | refine zaa rfl (zbr rfl rfl) ?_) | (refine zae ?_; first | refine zaa rfl (zbt rfl rfl (by (repeat (first | exact mh | refine mt ?_)); done) (by omega)) ?_ | refine zaa rfl (zbu rfl rfl) ?_) | (refine zaf ?_; first | refine zaa rfl (zbs rfl rfl (by omega) (by omega)) ?_ | refine zaa rfl (zbv rfl rfl (by omega) (by omega)) ?_ | refine zaa rfl (zbw rfl rfl (by omega) (by omega)) ?_) | refine zaa rfl (zbx rfl) ?_ | refine zaa rfl (zby rfl) ?_ | refine zaa rfl (zbz rfl rfl) ?_ | refine zaa rfl (zca rfl rfl) ?_ | refine zaa rfl (zcb rfl rfl) ?_ | refine zaa rfl (zcc rfl) ?_ | refine zah ?_ | (refine zcr ?_; first | refine zcs ?_ | refine zct ?_ | refine zcu ?_ | refine zcv ?_ | refine zcw ?_ | refine zcx ?_ | refine zcy rfl ?_ | refine zcz ?_ | refine zda ?_) | (refine zdb ?_; first | refine zdc ?_ | refine zdd ?_ | refine zde ?_ | refine zdf ?_ | refine zdg ?_ | refine zdh ?_ | refine zdi rfl ?_ | refine zdj rfl ?_)
    refine ws_cond rfl (fun hc => ?_) (fun hc => ?_)
    · have hlt : (k : Int) + 1 < n := of_decide_eq_true hc
      repeat first | refine zai rfl rfl ?_ | refine zaj rfl rfl rfl rfl ?_ | refine zaa rfl (zay rfl) ?_ | refine zaa rfl (zaz rfl) ?_ | (refine zac ?_; first | refine zaa rfl (zba rfl rfl rfl) ?_ | refine zaa rfl (zbb rfl rfl (by omega)) ?_ | refine zaa rfl (zbc rfl rfl (by omega)) ?_ | refine zaa rfl (zbd rfl rfl rfl) ?_ | refine zaa rfl (zbe rfl rfl) ?_ | refine zaa rfl (zbf rfl rfl) ?_ | refine zaa rfl (zbg rfl rfl) ?_ | refine zaa rfl (zbh rfl rfl) ?_ | refine zaa rfl (zbi rfl rfl) ?_ | refine zaa rfl (zbj rfl rfl) ?_ | refine zaa rfl (zbk rfl rfl) ?_ | refine zaa rfl (zbl rfl rfl) ?_) | (refine zad ?_; first | refine zaa rfl (zbo rfl) ?_ | refine zaa rfl (zbm rfl) ?_ | refine zaa rfl (zbn rfl) ?_ | refine zaa rfl (zbp rfl) ?_ | refine zaa rfl (zbq rfl) ?_ | refine zaa rfl (zbr rfl rfl) ?_) | (refine zae ?_; first | refine zaa rfl (zbt rfl rfl (by (repeat (first | exact mh | refine mt ?_)); done) (by omega)) ?_ | refine zaa rfl (zbu rfl rfl) ?_) | (refine zaf ?_; first | refine zaa rfl (zbs rfl rfl (by omega) (by omega)) ?_ | refine zaa rfl (zbv rfl rfl (by omega) (by omega)) ?_ | refine zaa rfl (zbw rfl rfl (by omega) (by omega)) ?_) | refine zaa rfl (zbx rfl) ?_ | refine zaa rfl (zby rfl) ?_ | refine zaa rfl (zbz rfl rfl) ?_ | refine zaa rfl (zca rfl rfl) ?_ | refine zaa rfl (zcb rfl rfl) ?_ | refine zaa rfl (zcc rfl) ?_ | refine zah ?_ | (refine zcr ?_; first | refine zcs ?_ | refine zct ?_ | refine zcu ?_ | refine zcv ?_ | refine zcw ?_ | refine zcx ?_ | refine zcy rfl ?_ | refine zcz ?_ | refine zda ?_) | (refine zdb ?_; first | refine zdc ?_ | refine zdd ?_ | refine zde ?_ | refine zdf ?_ | refine zdg ?_ | refine zdh ?_ | refine zdi rfl ?_ | refine zdj rfl ?_)
      refine ws_draw (n := 12) mixed (by decide +kernel) ?_
      repeat first | refine zaw rfl rfl ?_ | refine zax rfl rfl rfl rfl ?_ | refine zap rfl (zay rfl) ?_ | refine zap rfl (zaz rfl) ?_ | (refine zar ?_; first | refine zap rfl (zba rfl rfl rfl) ?_ | refine zap rfl (zbb rfl rfl (by omega)) ?_ | refine zap rfl (zbc rfl rfl (by omega)) ?_ | refine zap rfl (zbd rfl rfl rfl) ?_ | refine zap rfl (zbe rfl rfl) ?_ | refine zap rfl (zbf rfl rfl) ?_ | refine zap rfl (zbg rfl rfl) ?_ | refine zap rfl (zbh rfl rfl) ?_ | refine zap rfl (zbi rfl rfl) ?_ | refine zap rfl (zbj rfl rfl) ?_ | refine zap rfl (zbk rfl rfl) ?_ | refine zap rfl (zbl rfl rfl) ?_) | (refine zas ?_; first | refine zap rfl (zbo rfl) ?_ | refine zap rfl (zbm rfl) ?_ | refine zap rfl (zbn rfl) ?_ | refine zap rfl (zbp rfl) ?_ | refine zap rfl (zbq rfl) ?_ | refine zap rfl (zbr rfl rfl) ?_) | (refine zat ?_; first | refine zap rfl (zbt rfl rfl (by (repeat (first | exact mh | refine mt ?_)); done) (by omega)) ?_ | refine zap rfl (zbu rfl rfl) ?_) | (refine zau ?_; first | refine zap rfl (zbs rfl rfl (by omega) (by omega)) ?_ | refine zap rfl (zbv rfl rfl (by omega) (by omega)) ?_ | refine zap rfl (zbw rfl rfl (by omega) (by omega)) ?_) | refine zap rfl (zbx rfl) ?_ | refine zap rfl (zby rfl) ?_ | refine zap rfl (zbz rfl rfl) ?_ | refine zap rfl (zca rfl rfl) ?_ | refine zap rfl (zcb rfl rfl) ?_ | refine zap rfl (zcc rfl) ?_ | refine zav ?_ | refine zap rfl (zco rfl rfl rfl rfl rfl rfl) ?_
      refine rs_appendT 1 (hT f) rfl rfl rfl rfl ⟨hc1, hm1⟩ (by omega) rfl rfl (hT_pos f (by omega)) (fun _ _ _ => rfl) fun b1 d1 hd1 hx1 => ?_
      repeat first | refine zai rfl rfl ?_ | refine zaj rfl rfl rfl rfl ?_ | refine zaa rfl (zay rfl) ?_ | refine zaa rfl (zaz rfl) ?_ | (refine zac ?_; first | refine zaa rfl (zba rfl rfl rfl) ?_ | refine zaa rfl (zbb rfl rfl (by omega)) ?_ | refine zaa rfl (zbc rfl rfl (by omega)) ?_ | refine zaa rfl (zbd rfl rfl rfl) ?_ | refine zaa rfl (zbe rfl rfl) ?_ | refine zaa rfl (zbf rfl rfl) ?_ | refine zaa rfl (zbg rfl rfl) ?_ | refine zaa rfl (zbh rfl rfl) ?_ | refine zaa rfl (zbi rfl rfl) ?_ | refine zaa rfl (zbj rfl rfl) ?_ | refine zaa rfl (zbk rfl rfl) ?_ | refine zaa rfl (zbl rfl rfl) ?_) | (refine zad ?_; first | refine zaa rfl (zbo rfl) ?_ | refine zaa rfl (zbm rfl) ?_ | refine zaa rfl (zbn rfl) ?_ | refine zaa rfl (zbp rfl) ?_ | refine zaa rfl (zbq rfl) ?_ | refine zaa rfl (zbr rfl rfl) ?_) | (refine zae ?_; first | refine zaa rfl (zbt rfl rfl (by (repeat (first | exact mh | refine mt ?_)); done) (by omega)) ?_ | refine zaa rfl (zbu rfl rfl) ?_) | (refine zaf ?_; first | refine zaa rfl (zbs rfl rfl (by omega) (by omega)) ?_ | refine zaa rfl (zbv rfl rfl (by omega) (by omega)) ?_ | refine zaa rfl (zbw rfl rfl (by omega) (by omega)) ?_) | refine zaa rfl (zbx rfl) ?_ | refine zaa rfl (zby rfl) ?_ | refine zaa rfl (zbz rfl rfl) ?_ | refine zaa rfl (zca rfl rfl) ?_ | refine zaa rfl (zcb rfl rfl) ?_ | refine zaa rfl (zcc rfl) ?_ | refine zah ?_ | (refine zcr ?_; first | refine zcs ?_ | refine zct ?_ | refine zcu ?_ | refine zcv ?_ | refine zcw ?_ | refine zcx ?_ | refine zcy rfl ?_ | refine zcz ?_ | refine zda ?_) | (refine zdb ?_; first | refine zdc ?_ | refine zdd ?_ | refine zde ?_ | refine zdf ?_ | refine zdg ?_ | refine zdh ?_ | refine zdi rfl ?_ | refine zdj rfl ?_)
      refine ws_draw (n := 17) mixed (by decide +kernel) ?_
      repeat first | refine zaw rfl rfl ?_ | refine zax rfl rfl rfl rfl ?_ | refine zap rfl (zay rfl) ?_ | refine zap rfl (zaz rfl) ?_ | (refine zar ?_; first | refine zap rfl (zba rfl rfl rfl) ?_ | refine zap rfl (zbb rfl rfl (by omega)) ?_ | refine zap rfl (zbc rfl rfl (by omega)) ?_ | refine zap rfl (zbd rfl rfl rfl) ?_ | refine zap rfl (zbe rfl rfl) ?_ | refine zap rfl (zbf rfl rfl) ?_ | refine zap rfl (zbg rfl rfl) ?_ | refine zap rfl (zbh rfl rfl) ?_ | refine zap rfl (zbi rfl rfl) ?_ | refine zap rfl (zbj rfl rfl) ?_ | refine zap rfl (zbk rfl rfl) ?_ | refine zap rfl (zbl rfl rfl) ?_) | (refine zas ?_; first | refine zap rfl (zbo rfl) ?_ | refine zap rfl (zbm rfl) ?_ | refine zap rfl (zbn rfl) ?_ | refine zap rfl (zbp rfl) ?_ | refine zap rfl (zbq rfl) ?_ | refine zap rfl (zbr rfl rfl) ?_) | (refine zat ?_; first | refine zap rfl (zbt rfl rfl (by (repeat (first | exact mh | refine mt ?_)); done) (by omega)) ?_ | refine zap rfl (zbu rfl rfl) ?_) | (refine zau ?_; first | refine zap rfl (zbs rfl rfl (by omega) (by omega)) ?_ | refine zap rfl (zbv rfl rfl (by omega) (by omega)) ?_ | refine zap rfl (zbw rfl rfl (by omega) (by omega)) ?_) | refine zap rfl (zbx rfl) ?_ | refine zap rfl (zby rfl) ?_ | refine zap rfl (zbz rfl rfl) ?_ | refine zap rfl (zca rfl rfl) ?_ | refine zap rfl (zcb rfl rfl) ?_ | refine zap rfl (zcc rfl) ?_ | refine zav ?_ | refine zap rfl (zco rfl rfl rfl rfl rfl rfl) ?_
      refine rs_appendT 0 (stpT f g) rfl rfl rfl rfl ⟨hc2, hm2⟩ (by omega) rfl rfl (stpT_pos f g (by omega)) (fun _ _ _ => rfl) fun b2 d2 hd2 hx2 => ?_
      repeat first | refine zai rfl rfl ?_ | refine zaj rfl rfl rfl rfl ?_ | refine zaa rfl (zay rfl) ?_ | refine zaa rfl (zaz rfl) ?_ | (refine zac ?_; first | refine zaa rfl (zba rfl rfl rfl) ?_ | refine zaa rfl (zbb rfl rfl (by omega)) ?_ | refine zaa rfl (zbc rfl rfl (by omega)) ?_ | refine zaa rfl (zbd rfl rfl rfl) ?_ | refine zaa rfl (zbe rfl rfl) ?_ | refine zaa rfl (zbf rfl rfl) ?_ | refine zaa rfl (zbg rfl rfl) ?_ | refine zaa rfl (zbh rfl rfl) ?_ | refine zaa rfl (zbi rfl rfl) ?_ | refine zaa rfl (zbj rfl rfl) ?_ | refine zaa rfl (zbk rfl rfl) ?_ | refine zaa rfl (zbl rfl rfl) ?_) | (refine zad ?_; first | refine zaa rfl (zbo rfl) ?_ | refine zaa rfl (zbm rfl) ?_ | refine zaa rfl (zbn rfl) ?_ | refine zaa rfl (zbp rfl) ?_ | refine zaa rfl (zbq rfl) ?_ | refine zaa rfl (zbr rfl rfl) ?_) | (refine zae ?_; first | refine zaa rfl (zbt rfl rfl (by (repeat (first | exact mh | refine mt ?_)); done) (by omega)) ?_ | refine zaa rfl (zbu rfl rfl) ?_) | (refine zaf ?_; first | refine zaa rfl (zbs rfl rfl (by omega) (by omega)) ?_ | refine zaa rfl (zbv rfl rfl (by omega) (by omega)) ?_ | refine zaa rfl (zbw rfl rfl (by omega) (by omega)) ?_) | refine zaa rfl (zbx rfl) ?_ | refine zaa rfl (zby rfl) ?_ | refine zaa rfl (zbz rfl rfl) ?_ | refine zaa rfl (zca rfl rfl) ?_ | refine zaa rfl (zcb rfl rfl) ?_ | refine zaa rfl (zcc rfl) ?_ | refine zah ?_ | (refine zcr ?_; first | refine zcs ?_ | refine zct ?_ | refine zcu ?_ | refine zcv ?_ | refine zcw ?_ | refine zcx ?_ | refine zcy rfl ?_ | refine zcz ?_ | refine zda ?_) | (refine zdb ?_; first | refine zdc ?_ | refine zdd ?_ | refine zde ?_ | refine zdf ?_ | refine zdg ?_ | refine zdh ?_ | refine zdi rfl ?_ | refine zdj rfl ?_)
      refine done_round (k + 1, (b1, d1), (b2, d2)) ⟨by omega, hd1, hd2, hx1, hx2⟩ (by simp only; omega) ?_ (fun _ h => h)
      (repeat (first | exact Env.sub_nil _ | refine Env.sub_cons rfl ?_))
    · have hge : ¬ (k : Int) + 1 < n := of_decide_eq_false hc
      obtain rfl : n = k + 1 := by omega
      repeat first | refine zai rfl rfl ?_ | refine zaj rfl rfl rfl rfl ?_ | refine zaa rfl (zay rfl) ?_ | refine zaa rfl (zaz rfl) ?_ | (refine zac ?_; first | refine zaa rfl (zba rfl rfl rfl) ?_ | refine zaa rfl (zbb rfl rfl (by omega)) ?_ | refine zaa rfl (zbc rfl rfl (by omega)) ?_ | refine zaa rfl (zbd rfl rfl rfl) ?_ | refine zaa rfl (zbe rfl rfl) ?_ | refine zaa rfl (zbf rfl rfl) ?_ | refine zaa rfl (zbg rfl rfl) ?_ | refine zaa rfl (zbh rfl rfl) ?_ | refine zaa rfl (zbi rfl rfl) ?_ | refine zaa rfl (zbj rfl rfl) ?_ | refine zaa rfl (zbk rfl rfl) ?_ | refine zaa rfl (zbl rfl rfl) ?_) | (refine zad ?_; first | refine zaa rfl (zbo rfl) ?_ | refine zaa rfl (zbm rfl) ?_ | refine zaa rfl (zbn rfl) ?_ | refine zaa rfl (zbp rfl) ?_ | refine zaa rfl (zbq rfl) ?_ | refine zaa rfl (zbr rfl rfl) ?_) | (refine zae ?_; first | refine zaa rfl (zbt rfl rfl (by (repeat (first | exact mh | refine mt ?_)); done) (by omega)) ?_ | refine zaa rfl (zbu rfl rfl) ?_) | (refine zaf ?_; first | refine zaa rfl (zbs rfl rfl (by omega) (by omega)) ?_ | refine zaa rfl (zbv rfl rfl (by omega) (by omega)) ?_ | refine zaa rfl (zbw rfl rfl (by omega) (by omega)) ?_) | refine zaa rfl (zbx rfl) ?_ | refine zaa rfl (zby rfl) ?_ | refine zaa rfl (zbz rfl rfl) ?_ | refine zaa rfl (zca rfl rfl) ?_ | refine zaa rfl (zcb rfl rfl) ?_ | refine zaa rfl (zcc rfl) ?_ | refine zah ?_ | (refine zcr ?_; first | refine zcs ?_ | refine zct ?_ | refine zcu ?_ | refine zcv ?_ | refine zcw ?_ | refine zcx ?_ | refine zcy rfl ?_ | refine zcz ?_ | refine zda ?_) | (refine zdb ?_; first | refine zdc ?_ | refine zdd ?_ | refine zde ?_ | refine zdf ?_ | refine zdg ?_ | refine zdh ?_ | refine zdi rfl ?_ | refine zdj rfl ?_)
      exact done_ret2 rfl ((a1, c1), (a2, c2)) rfl rfl rfl ⟨hc1, hc2⟩ (List.Sublist.refl _)
end Go.Ab
namespace Go.Ab
open Go.Proofs
attribute [local irreducible] WS RS Done OpJ Then InBlock Round Ret Env.sub FnH
abbrev c2 : FV := fv .f32 1073741824
abbrev c6 : FV := fv .f32 1086324736
abbrev c0 : FV := fv .f32 0
def mr (h s : Int → FV) : Nat → FV × FV
  | 0 => (fbin .mul .f32 c2 (fbin .add .f32 (h 1) (h 2)), fbin .mul .f32 c6 (fbin .sub .f32 (s 2) (s 1)))
  | k + 1 => (fbin .sub .f32 (fbin .mul .f32 c2 (fbin .add .f32 (h ((k : Int) + 2)) (h ((k : Int) + 2 + 1)))) (fbin .mul .f32 (fbin .quo .f32 (h ((k : Int) + 2)) (mr h s k).1) (h ((k : Int) + 2))),
      fbin .sub .f32 (fbin .mul .f32 c6 (fbin .sub .f32 (s ((k : Int) + 2 + 1)) (s ((k : Int) + 2)))) (fbin .mul .f32 (fbin .quo .f32 (h ((k : Int) + 2)) (mr h s k).1) (mr h s k).2))
def midF (h s : Int → FV) (t : Int) : FV := (mr h s (t - 1).toNat).1
def rgtF (h s : Int → FV) (t : Int) : FV := (mr h s (t - 1).toNat).2
section
variable (h s : Int → FV) (n : Nat)
theorem mr_step {i : Int} (hi : 1 < i) : midF h s i = fbin .sub .f32 (fbin .mul .f32 c2 (fbin .add .f32 (h i) (h (i + 1)))) (fbin .mul .f32 (fbin .quo .f32 (h i) (midF h s (i - 1))) (h i)) ∧
    rgtF h s i = fbin .sub .f32 (fbin .mul .f32 c6 (fbin .sub .f32 (s (i + 1)) (s i))) (fbin .mul .f32 (fbin .quo .f32 (h i) (midF h s (i - 1))) (rgtF h s (i - 1))) := by
  obtain ⟨k, rfl⟩ : ∃ k : Nat, i = (k : Int) + 2 := ⟨(i - 2).toNat, by omega⟩
  have e1 : ((k : Int) + 2 - 1).toNat = k + 1 := by omega
  have e2 : ((k : Int) + 2 - 1 - 1).toNat = k := by omega
  unfold midF rgtF
  rw [e1, e2]
  exact ⟨rfl, rfl⟩
def oN : Nat → FV
  | 0 => fbin .quo .f32 (rgtF h s ((n : Int) - 2)) (midF h s ((n : Int) - 2))
  | j + 1 => fbin .quo .f32 (fbin .sub .f32 (rgtF h s ((n : Int) - 3 - j)) (fbin .mul .f32 (h ((n : Int) - 3 - j + 1)) (oN j))) (midF h s ((n : Int) - 3 - j))
def oF (t : Int) : FV := oN h s n ((n : Int) - 2 - t).toNat
theorem oF_top : oF h s n ((n : Int) - 2) = fbin .quo .f32 (rgtF h s ((n : Int) - 2)) (midF h s ((n : Int) - 2)) := by
  unfold oF
  rw [show ((n : Int) - 2 - ((n : Int) - 2)).toNat = 0 from by omega]
  rfl
theorem oF_step {i : Int} (hi : i < (n : Int) - 2) : oF h s n i = fbin .quo .f32 (fbin .sub .f32 (rgtF h s i) (fbin .mul .f32 (h (i + 1)) (oF h s n (i + 1)))) (midF h s i) := by
  obtain ⟨k, rfl⟩ : ∃ k : Nat, i = (n : Int) - 3 - k := ⟨((n : Int) - 3 - i).toNat, by omega⟩
  have e1 : ((n : Int) - 2 - ((n : Int) - 3 - k)).toNat = k + 1 := by omega
  have e2 : ((n : Int) - 2 - ((n : Int) - 3 - k + 1)).toNat = k := by omega
  unfold oF
  rw [e1, e2]
  rfl
/-- What the lists hold on the way. -/
def midT (i t : Int) : FV := if 1 ≤ t ∧ t < i then midF h s t else c0
def rgtT (i t : Int) : FV := if 1 ≤ t ∧ t < i then rgtF h s t else c0
def outT (i t : Int) : FV := if i < t ∧ t < (n : Int) - 1 then oF h s n t else c0
def rgt2 (i t : Int) : FV := if i < t ∧ t < (n : Int) - 2 then fbin .sub .f32 (rgtF h s t) (fbin .mul .f32 (h (t + 1)) (oF h s n (t + 1))) else rgtT h s ((n : Int) - 1) t
def put (i : Int) (x : FV) (f : Int → FV) (t : Int) : FV := if t = i then x else f t
end
theorem put_at (i : Int) (x : FV) (f : Int → FV) : put i x f i = x := if_pos rfl
theorem put_ne (i : Int) (x : FV) (f : Int → FV) {t : Int} (h : t ≠ i) : put i x f t = f t := if_neg h
def bendT (n : Nat) (f g : Int → FV) : Int → FV := outT (hT f) (stpT f g) n 0
end Go.Ab
namespace Go.Ab
open Go.Proofs
section
variable {x y : FV} {p q : Rat}
theorem fitN {q A : Rat} (h1 : -A ≤ q) (h2 : q ≤ A) (hA : A ≤ 100000) : Fit .f32 q := by
  have : (100000 : Rat) < p2 (ftop .f32) := by decide +kernel
  constructor <;> grind
theorem adn (hx : Vl .f32 x p) (hy : Vl .f32 y q) (A : Rat) (h1 : -A ≤ p + q) (h2 : p + q ≤ A) (hA : A ≤ 100000) : ∃ r, Vl .f32 (fbin .add .f32 x y) r ∧ -((A + 1) / 8388608) ≤ r - (p + q) ∧ r - (p + q) ≤ (A + 1) / 8388608 := by
  obtain ⟨r, v, h⟩ := vl_add hx hy (fitN h1 h2 hA)
  have := rnd_abs h A h1 h2
  exact ⟨r, v, by grind, by grind⟩
theorem sbn (hx : Vl .f32 x p) (hy : Vl .f32 y q) (A : Rat) (h1 : -A ≤ p - q) (h2 : p - q ≤ A) (hA : A ≤ 100000) : ∃ r, Vl .f32 (fbin .sub .f32 x y) r ∧ -((A + 1) / 8388608) ≤ r - (p - q) ∧ r - (p - q) ≤ (A + 1) / 8388608 := by
  obtain ⟨r, v, h⟩ := vl_sub hx hy (fitN h1 h2 hA)
  have := rnd_abs h A h1 h2
  exact ⟨r, v, by grind, by grind⟩
theorem mln (hx : Vl .f32 x p) (hy : Vl .f32 y q) (A : Rat) (h1 : -A ≤ p * q) (h2 : p * q ≤ A) (hA : A ≤ 100000) : ∃ r, Vl .f32 (fbin .mul .f32 x y) r ∧ -((A + 1) / 8388608) ≤ r - p * q ∧ r - p * q ≤ (A + 1) / 8388608 := by
  obtain ⟨r, v, h⟩ := vl_mul hx hy (fitN h1 h2 hA)
  have := rnd_abs h A h1 h2
  exact ⟨r, v, by grind, by grind⟩
theorem dvn (hx : Vl .f32 x p) (hy : Vl .f32 y q) (hq : 0 < q) (A : Rat) (h1 : -(A * q) ≤ p) (h2 : p ≤ A * q) (hA : A ≤ 100000) : ∃ r v, Vl .f32 (fbin .quo .f32 x y) r ∧ v * q = p ∧ (-A ≤ v ∧ v ≤ A) ∧ -((A + 1) / 8388608) ≤ r - v ∧ r - v ≤ (A + 1) / 8388608 := by
  have e : p / q * q = p := Rat.div_mul_cancel (Rat.ne_of_gt hq)
  have b : -A ≤ p / q ∧ p / q ≤ A := ⟨le_div_of hq (by grind), div_le_of hq h2⟩
  have : (100000 : Rat) ≤ p2 (ftop .f32 - 1) := by decide +kernel
  obtain ⟨r, v, h⟩ := vl_div hx hy (Rat.ne_of_gt hq) (by constructor <;> grind)
  have := rnd_abs h A b.1 b.2
  exact ⟨r, p / q, v, e, b, by grind, by grind⟩
end
/-- What is multiplied by a share of a sum is bounded by what the sum gives. -/
theorem times_bd {m v a b R c0 c1 : Rat} (ha : 0 ≤ a) (hb : 0 ≤ b) (h0 : 0 < c0) (h1 : 0 < c1) (hm : c0 * a + c1 * b ≤ m) (hl : -R ≤ m * v) (hu : m * v ≤ R) : (-(R / c0) ≤ a * v ∧ a * v ≤ R / c0) ∧ (-(R / c1) ≤ b * v ∧ b * v ≤ R / c1) := by
  have e0 : R / c0 * c0 = R := Rat.div_mul_cancel (Rat.ne_of_gt h0)
  have e1 : R / c1 * c1 = R := Rat.div_mul_cancel (Rat.ne_of_gt h1)
  have ca := Rat.mul_nonneg (Rat.le_of_lt h0) ha
  have cb := Rat.mul_nonneg (Rat.le_of_lt h1) hb
  have key : (-R ≤ c0 * (a * v) ∧ c0 * (a * v) ≤ R) ∧ (-R ≤ c1 * (b * v) ∧ c1 * (b * v) ≤ R) := by
    rcases Rat.le_total (a := 0) (b := v) with g | g
    · have z1 := Rat.mul_nonneg (show 0 ≤ m - c0 * a by grind) g
      have z2 := Rat.mul_nonneg (show 0 ≤ m - c1 * b by grind) g
      have z3 := Rat.mul_nonneg ca g
      have z4 := Rat.mul_nonneg cb g
      constructor <;> constructor <;> grind
    · have g' : 0 ≤ -v := by grind
      have z1 := Rat.mul_nonneg (show 0 ≤ m - c0 * a by grind) g'
      have z2 := Rat.mul_nonneg (show 0 ≤ m - c1 * b by grind) g'
      have z3 := Rat.mul_nonneg ca g'
      have z4 := Rat.mul_nonneg cb g'
      constructor <;> constructor <;> grind
  obtain ⟨⟨k1, k2⟩, k3, k4⟩ := key
  refine ⟨⟨?_, ?_⟩, ?_, ?_⟩
  · exact Rat.le_of_mul_le_mul_right (by grind : -(R / c0) * c0 ≤ a * v * c0) h0
  · exact Rat.le_of_mul_le_mul_right (by grind : a * v * c0 ≤ R / c0 * c0) h0
  · exact Rat.le_of_mul_le_mul_right (by grind : -(R / c1) * c1 ≤ b * v * c1) h1
  · exact Rat.le_of_mul_le_mul_right (by grind : b * v * c1 ≤ R / c1 * c1) h1
/-- A graph: its steps and the slopes between its points, as they are computed. -/
structure NB (n : Nat) (f g : Int → FV) (h s : Int → Rat) : Prop where
  hn : 2 ≤ n ∧ n ≤ 7
  hv : ∀ i : Int, 1 ≤ i → i < n → Vl .f32 (hT f i) (h i)
  hb : ∀ i : Int, 1 ≤ i → i < n → 35 / 1000 ≤ h i ∧ h i ≤ 101 / 100
  hs : ∀ i : Int, 1 ≤ i → i + 1 < n → h i + h (i + 1) ≤ 101 / 100
  sv : ∀ i : Int, 1 ≤ i → i < n → Vl .f32 (stpT f g i) (s i) ∧ -14 ≤ s i ∧ s i ≤ 14
section
variable {n : Nat} {f g : Int → FV} {h s : Int → Rat}
theorem NB.two (H : NB n f g h s) {i : Int} (h1 : 1 ≤ i) (h2 : i + 1 < n) : ∃ m, Vl .f32 (fbin .mul .f32 c2 (fbin .add .f32 (hT f i) (hT f (i + 1)))) m ∧ -(8 / 8388608) ≤ m - 2 * (h i + h (i + 1)) ∧ m - 2 * (h i + h (i + 1)) ≤ 8 / 8388608 := by
  have b1 := H.hb i h1 (by omega)
  have b2 := H.hb (i + 1) (by omega) h2
  have b3 := H.hs i h1 h2
  have v2 : Vl .f32 c2 2 := Vl.c (by decide +kernel)
  obtain ⟨a, va, a1, a2⟩ := adn (H.hv i h1 (by omega)) (H.hv (i + 1) (by omega) h2) (101 / 100) (by grind) (by grind) (by decide +kernel)
  obtain ⟨m, vm, m1, m2⟩ := mln v2 va (203 / 100) (by grind) (by grind) (by decide +kernel)
  exact ⟨m, vm, by grind, by grind⟩
theorem NB.six (H : NB n f g h s) {i : Int} (h1 : 1 ≤ i) (h2 : i + 1 < n) : ∃ r, Vl .f32 (fbin .mul .f32 c6 (fbin .sub .f32 (stpT f g (i + 1)) (stpT f g i))) r ∧ -(400 / 8388608) ≤ r - 6 * (s (i + 1) - s i) ∧ r - 6 * (s (i + 1) - s i) ≤ 400 / 8388608 := by
  obtain ⟨w1, a1, a2⟩ := H.sv i h1 (by omega)
  obtain ⟨w2, b1, b2⟩ := H.sv (i + 1) (by omega) h2
  have v6 : Vl .f32 c6 6 := Vl.c (by decide +kernel)
  obtain ⟨d, vd, d1, d2⟩ := sbn w2 w1 28 (by grind) (by grind) (by decide +kernel)
  obtain ⟨r, vr, r1, r2⟩ := mln v6 vd 169 (by grind) (by grind) (by decide +kernel)
  exact ⟨r, vr, by grind, by grind⟩
/-- The rows on the way down. -/
theorem NB.mr (H : NB n f g h s) : ∀ k : Nat, (k : Int) + 2 < n → ∃ m r, Vl .f32 (mr (hT f) (stpT f g) k).1 m ∧ Vl .f32 (mr (hT f) (stpT f g) k).2 r ∧
    149 / 100 * h ((k : Int) + 1) + 199 / 100 * h ((k : Int) + 2) ≤ m ∧ m ≤ 205 / 100 ∧ (-350 ≤ r ∧ r ≤ 350) ∧
    (k = 0 → (-(8 / 8388608) ≤ m - 2 * (h 1 + h 2) ∧ m - 2 * (h 1 + h 2) ≤ 8 / 8388608) ∧ -(400 / 8388608) ≤ r - 6 * (s 2 - s 1) ∧ r - 6 * (s 2 - s 1) ≤ 400 / 8388608) ∧
    ∀ k' : Nat, k = k' + 1 → ∃ m' r' F, Vl .f32 (Go.Ab.mr (hT f) (stpT f g) k').1 m' ∧ Vl .f32 (Go.Ab.mr (hT f) (stpT f g) k').2 r' ∧ (0 ≤ F ∧ F ≤ 51 / 100) ∧
      (-(4 / 8388608) ≤ F * m' - h ((k : Int) + 1) ∧ F * m' - h ((k : Int) + 1) ≤ 4 / 8388608) ∧
      (-(16 / 8388608) ≤ m - (2 * (h ((k : Int) + 1) + h ((k : Int) + 2)) - F * h ((k : Int) + 1)) ∧ m - (2 * (h ((k : Int) + 1) + h ((k : Int) + 2)) - F * h ((k : Int) + 1)) ≤ 16 / 8388608) ∧
      -(1000 / 8388608) ≤ r - (6 * (s ((k : Int) + 2) - s ((k : Int) + 1)) - F * r') ∧ r - (6 * (s ((k : Int) + 2) - s ((k : Int) + 1)) - F * r') ≤ 1000 / 8388608
  | 0, hk => by
    obtain ⟨m, vm, m1, m2⟩ := H.two (i := 1) (by omega) (by omega)
    obtain ⟨r, vr, r1, r2⟩ := H.six (i := 1) (by omega) (by omega)
    have b1 := H.hb 1 (by omega) (by omega)
    have b2 := H.hb 2 (by omega) (by omega)
    have b3 := H.hs 1 (by omega) (by omega)
    obtain ⟨_, a1, a2⟩ := H.sv 1 (by omega) (by omega)
    obtain ⟨_, c1, c2⟩ := H.sv 2 (by omega) (by omega)
    rw [show (1 : Int) + 1 = 2 from rfl] at m1 m2 r1 r2 b3
    refine ⟨m, r, vm, vr, ?_, ?_, ?_, fun _ => ⟨⟨m1, m2⟩, r1, r2⟩, fun k' hk' => by omega⟩
    · show 149 / 100 * h 1 + 199 / 100 * h 2 ≤ m
      grind
    · grind
    · constructor <;> grind
  | k + 1, hk => by
    obtain ⟨m', r', vm', vr', pa, pb, ⟨p3, p4⟩, _⟩ := H.mr k (by omega)
    have e1 : (((k + 1 : Nat) : Int) + 1) = (k : Int) + 2 := by omega
    have e2 : (((k + 1 : Nat) : Int) + 2) = (k : Int) + 2 + 1 := by omega
    rw [e1, e2]
    have hi1 : (1 : Int) ≤ (k : Int) + 2 := by omega
    have hi3 : (k : Int) + 2 + 1 < n := by omega
    obtain ⟨M, vM, M1, M2⟩ := H.two hi1 hi3
    obtain ⟨D, vD, D1, D2⟩ := H.six hi1 hi3
    have b0 := H.hb ((k : Int) + 1) (by omega) (by omega)
    have b1 := H.hb ((k : Int) + 2) (by omega) (by omega)
    have b2 := H.hb ((k : Int) + 2 + 1) (by omega) hi3
    have b3 := H.hs ((k : Int) + 2) hi1 hi3
    have v1 := H.hv ((k : Int) + 2) hi1 (by omega)
    obtain ⟨_, a1, a2⟩ := H.sv ((k : Int) + 2) hi1 (by omega)
    obtain ⟨_, c1, c2⟩ := H.sv ((k : Int) + 2 + 1) (by omega) hi3
    generalize h ((k : Int) + 1) = h0 at *
    generalize h ((k : Int) + 2) = h1 at *
    generalize h ((k : Int) + 2 + 1) = h2 at *
    generalize s ((k : Int) + 2) = s1 at *
    generalize s ((k : Int) + 2 + 1) = s2 at *
    obtain ⟨F, v, vF, e, ⟨w1, w2⟩, f1, f2⟩ := dvn v1 vm' (by grind) (505 / 1000) (by grind) (by grind) (by decide +kernel)
    have w0 : 0 ≤ v := by
      rcases Rat.le_total (a := 0) (b := v) with g | g
      · exact g
      · have := Rat.mul_nonneg (show 0 ≤ -v by grind) (show 0 ≤ m' - 1 / 100 by grind)
        grind
    have hF0 : 0 ≤ F := by
      obtain ⟨r, vr, hr⟩ := vl_div v1 vm' (show m' ≠ 0 by grind) (by have : (100000 : Rat) ≤ p2 (ftop .f32 - 1) := by decide +kernel
                                                                     have e' : v = h1 / m' := by rw [← e]; exact (Rat.mul_div_cancel (show m' ≠ 0 by grind)).symm
                                                                     rw [← e']; constructor <;> grind)
      obtain rfl := Vl.unique vr vF
      refine (hr.side 0 (rep_zero _)).2 ?_
      have e' : v = h1 / m' := by rw [← e]; exact (Rat.mul_div_cancel (show m' ≠ 0 by grind)).symm
      rw [← e']
      exact w0
    have hF1 : F ≤ 51 / 100 := by grind
    have nb := mul_bnd (p := F - v) (q := m') (a := 16 / 10 / 8388608) (b := 205 / 100) (by grind) (by grind) (by grind) (by grind)
    have n1 : F * m' - h1 = (F - v) * m' := by rw [← e]; grind
    have n2 := mul_bnd (p := F) (q := h1) (a := 51 / 100) (b := 101 / 100) (by grind) hF1 (by grind) (by grind)
    have n2' := Rat.mul_le_mul_of_nonneg_right hF1 (show 0 ≤ h1 by grind)
    have n3 := Rat.mul_nonneg hF0 (show 0 ≤ h1 by grind)
    obtain ⟨X, vX, X1, X2⟩ := mln vF v1 (52 / 100) (by grind) (by grind) (by decide +kernel)
    obtain ⟨m, vm, m1, m2⟩ := sbn vM vX (204 / 100) (by grind) (by grind) (by decide +kernel)
    have n4 := mul_bnd (p := F) (q := r') (a := 51 / 100) (b := 350) (by grind) hF1 p3 p4
    obtain ⟨Y, vY, Y1, Y2⟩ := mln vF vr' 179 (by grind) (by grind) (by decide +kernel)
    obtain ⟨r, vr, r1, r2⟩ := sbn vD vY 349 (by grind) (by grind) (by decide +kernel)
    refine ⟨m, r, vm, vr, by grind, by grind, ⟨by grind, by grind⟩, fun h => by omega, fun k' hk' => ?_⟩
    obtain rfl : k' = k := by omega
    exact ⟨m', r', F, vm', vr', ⟨hF0, hF1⟩, ⟨by grind, by grind⟩, ⟨by grind, by grind⟩, by grind, by grind⟩
/-- The numbers that are reckoned. -/
def nM (f g : Int → FV) (i : Int) : Rat := ratL (midF (hT f) (stpT f g) i)
def nR (f g : Int → FV) (i : Int) : Rat := ratL (rgtF (hT f) (stpT f g) i)
def nO (n : Nat) (f g : Int → FV) (i : Int) : Rat := ratL (bendT n f g i)
theorem NB.row (H : NB n f g h s) {i : Int} (h1 : 1 ≤ i) (h2 : i + 1 < n) : Vl .f32 (midF (hT f) (stpT f g) i) (nM f g i) ∧ Vl .f32 (rgtF (hT f) (stpT f g) i) (nR f g i) ∧ 149 / 100 * h i + 199 / 100 * h (i + 1) ≤ nM f g i ∧ nM f g i ≤ 205 / 100 ∧ (-350 ≤ nR f g i ∧ nR f g i ≤ 350) := by
  obtain ⟨m, r, vm, vr, a1, a2, a3, _⟩ := H.mr (i - 1).toNat (by omega)
  rw [show (((i - 1).toNat : Nat) : Int) + 1 = i by omega, show (((i - 1).toNat : Nat) : Int) + 2 = i + 1 by omega] at a1
  unfold nM nR midF rgtF
  rw [ratL_eq vm, ratL_eq vr]
  exact ⟨vm, vr, a1, a2, a3⟩
theorem NB.row1 (H : NB n f g h s) (h2 : 2 < n) : (-(8 / 8388608) ≤ nM f g 1 - 2 * (h 1 + h 2) ∧ nM f g 1 - 2 * (h 1 + h 2) ≤ 8 / 8388608) ∧ -(400 / 8388608) ≤ nR f g 1 - 6 * (s 2 - s 1) ∧ nR f g 1 - 6 * (s 2 - s 1) ≤ 400 / 8388608 := by
  obtain ⟨m, r, vm, vr, a1, a2, a3, a4, _⟩ := H.mr 0 (by omega)
  have e1 : nM f g 1 = m := ratL_eq vm
  have e2 : nR f g 1 = r := ratL_eq vr
  rw [e1, e2]
  exact a4 rfl
theorem NB.rowN (H : NB n f g h s) {i : Int} (h1 : 1 < i) (h2 : i + 1 < n) : ∃ F, (0 ≤ F ∧ F ≤ 51 / 100) ∧ (-(4 / 8388608) ≤ F * nM f g (i - 1) - h i ∧ F * nM f g (i - 1) - h i ≤ 4 / 8388608) ∧
    (-(16 / 8388608) ≤ nM f g i - (2 * (h i + h (i + 1)) - F * h i) ∧ nM f g i - (2 * (h i + h (i + 1)) - F * h i) ≤ 16 / 8388608) ∧
    -(1000 / 8388608) ≤ nR f g i - (6 * (s (i + 1) - s i) - F * nR f g (i - 1)) ∧ nR f g i - (6 * (s (i + 1) - s i) - F * nR f g (i - 1)) ≤ 1000 / 8388608 := by
  obtain ⟨m, r, vm, vr, _, _, _, _, a4⟩ := H.mr (i - 1).toNat (by omega)
  obtain ⟨m', r', F, vm', vr', b1, b2, b3, b4⟩ := a4 (i - 2).toNat (by omega)
  rw [show (((i - 1).toNat : Nat) : Int) + 1 = i by omega] at b2 b3 b4
  rw [show (((i - 1).toNat : Nat) : Int) + 2 = i + 1 by omega] at b3 b4
  have e1 : nM f g i = m := ratL_eq vm
  have e2 : nR f g i = r := ratL_eq vr
  have e3 : nM f g (i - 1) = m' := by
    unfold nM midF
    rw [show (i - 1 - 1).toNat = (i - 2).toNat by omega]
    exact ratL_eq vm'
  have e4 : nR f g (i - 1) = r' := by
    unfold nR rgtF
    rw [show (i - 1 - 1).toNat = (i - 2).toNat by omega]
    exact ratL_eq vr'
  rw [e1, e2, e3, e4]
  exact ⟨F, b1, b2, b3, b4⟩
/-- The way back up. -/
theorem NB.up (H : NB n f g h s) : ∀ j : Nat, (j : Int) + 3 ≤ n → ∃ o, Vl .f32 (oN (hT f) (stpT f g) n j) o ∧ (-10000 ≤ o ∧ o ≤ 10000) ∧
    (-800 ≤ h ((n : Int) - 2 - j) * o ∧ h ((n : Int) - 2 - j) * o ≤ 800) ∧ (-600 ≤ h ((n : Int) - 2 - j + 1) * o ∧ h ((n : Int) - 2 - j + 1) * o ≤ 600) ∧
    (j = 0 → -(50000 / 8388608) ≤ nM f g ((n : Int) - 2 - j) * o - nR f g ((n : Int) - 2 - j) ∧ nM f g ((n : Int) - 2 - j) * o - nR f g ((n : Int) - 2 - j) ≤ 50000 / 8388608) ∧
    ∀ j' : Nat, j = j' + 1 → ∃ o', Vl .f32 (oN (hT f) (stpT f g) n j') o' ∧ -(50000 / 8388608) ≤ nM f g ((n : Int) - 2 - j) * o + h ((n : Int) - 2 - j + 1) * o' - nR f g ((n : Int) - 2 - j) ∧ nM f g ((n : Int) - 2 - j) * o + h ((n : Int) - 2 - j + 1) * o' - nR f g ((n : Int) - 2 - j) ≤ 50000 / 8388608
  | 0, hj => by
    have hn := H.hn
    rw [show (n : Int) - 2 - ((0 : Nat) : Int) = (n : Int) - 2 by omega]
    have h1 : (1 : Int) ≤ (n : Int) - 2 := by omega
    have h2 : (n : Int) - 2 + 1 < n := by omega
    obtain ⟨vm, vr, m1, m2, r1, r2⟩ := H.row h1 h2
    have b0 := H.hb ((n : Int) - 2) h1 (by omega)
    have b1 := H.hb ((n : Int) - 2 + 1) (by omega) h2
    show ∃ o, Vl .f32 (fbin .quo .f32 (rgtF (hT f) (stpT f g) ((n : Int) - 2)) (midF (hT f) (stpT f g) ((n : Int) - 2))) o ∧ _
    generalize h ((n : Int) - 2) = h0 at *
    generalize h ((n : Int) - 2 + 1) = h1 at *
    generalize nM f g ((n : Int) - 2) = m at *
    generalize nR f g ((n : Int) - 2) = r at *
    obtain ⟨o, v, vo, e, ⟨w1, w2⟩, o1, o2⟩ := dvn vr vm (by grind) 9000 (by grind) (by grind) (by decide +kernel)
    have k1 := mul_bnd (p := o - v) (q := m) (a := 9001 / 8388608) (b := 205 / 100) (by grind) (by grind) (by grind) (by grind)
    have k2 : m * o - r = (o - v) * m := by rw [← e]; grind
    obtain ⟨t1, t2⟩ := times_bd (m := m) (v := v) (a := h0) (b := h1) (R := 350) (c0 := 149 / 100) (c1 := 199 / 100) (by grind) (by grind) (by decide +kernel) (by decide +kernel) m1 (by rw [Rat.mul_comm, e]; grind) (by rw [Rat.mul_comm, e]; grind)
    have k3 := mul_bnd (p := o - v) (q := h0) (a := 9001 / 8388608) (b := 101 / 100) (by grind) (by grind) (by grind) (by grind)
    have k4 := mul_bnd (p := o - v) (q := h1) (a := 9001 / 8388608) (b := 101 / 100) (by grind) (by grind) (by grind) (by grind)
    have k5 : h0 * o = h0 * v + (o - v) * h0 := by grind
    have k6 : h1 * o = h1 * v + (o - v) * h1 := by grind
    exact ⟨o, vo, ⟨by grind, by grind⟩, ⟨by grind, by grind⟩, ⟨by grind, by grind⟩, fun _ => ⟨by grind, by grind⟩, fun j' hj' => by omega⟩
  | j + 1, hj => by
    have hn := H.hn
    obtain ⟨o', vo', ⟨q1, q2⟩, ⟨q3, q4⟩, _⟩ := H.up j (by omega)
    rw [show (n : Int) - 2 - ((j + 1 : Nat) : Int) = (n : Int) - 3 - j by omega]
    rw [show (n : Int) - 2 - (j : Int) = (n : Int) - 3 - j + 1 by omega] at q3 q4
    have h1 : (1 : Int) ≤ (n : Int) - 3 - j := by omega
    have h2 : (n : Int) - 3 - j + 1 < n := by omega
    obtain ⟨vm, vr, m1, m2, r1, r2⟩ := H.row h1 h2
    have b0 := H.hb ((n : Int) - 3 - j) h1 (by omega)
    have b1 := H.hb ((n : Int) - 3 - j + 1) (by omega) h2
    have vh := H.hv ((n : Int) - 3 - j + 1) (by omega) h2
    show ∃ o, Vl .f32 (fbin .quo .f32 (fbin .sub .f32 (rgtF (hT f) (stpT f g) ((n : Int) - 3 - j)) (fbin .mul .f32 (hT f ((n : Int) - 3 - j + 1)) (oN (hT f) (stpT f g) n j))) (midF (hT f) (stpT f g) ((n : Int) - 3 - j))) o ∧ _
    generalize h ((n : Int) - 3 - j) = h0 at *
    generalize h ((n : Int) - 3 - j + 1) = h1 at *
    generalize nM f g ((n : Int) - 3 - j) = m at *
    generalize nR f g ((n : Int) - 3 - j) = r at *
    obtain ⟨x, vx, x1, x2⟩ := mln vh vo' 800 q3 q4 (by decide +kernel)
    obtain ⟨y, vy, y1, y2⟩ := sbn vr vx 1151 (by grind) (by grind) (by decide +kernel)
    have q5 := Rat.mul_le_mul_of_nonneg_left q1 (show 0 ≤ h1 by grind)
    have q6 := Rat.mul_le_mul_of_nonneg_left q2 (show 0 ≤ h1 by grind)
    obtain ⟨o, v, vo, e, ⟨w1, w2⟩, o1, o2⟩ := dvn vy vm (by grind) 9990 (by grind) (by grind) (by decide +kernel)
    have k1 := mul_bnd (p := o - v) (q := m) (a := 9991 / 8388608) (b := 205 / 100) (by grind) (by grind) (by grind) (by grind)
    have k2 : m * o - y = (o - v) * m := by rw [← e]; grind
    obtain ⟨t1, t2⟩ := times_bd (m := m) (v := v) (a := h0) (b := h1) (R := 1152) (c0 := 149 / 100) (c1 := 199 / 100) (by grind) (by grind) (by decide +kernel) (by decide +kernel) m1 (by rw [Rat.mul_comm, e]; grind) (by rw [Rat.mul_comm, e]; grind)
    have k3 := mul_bnd (p := o - v) (q := h0) (a := 9991 / 8388608) (b := 101 / 100) (by grind) (by grind) (by grind) (by grind)
    have k4 := mul_bnd (p := o - v) (q := h1) (a := 9991 / 8388608) (b := 101 / 100) (by grind) (by grind) (by grind) (by grind)
    have k5 : h0 * o = h0 * v + (o - v) * h0 := by grind
    have k6 : h1 * o = h1 * v + (o - v) * h1 := by grind
    refine ⟨o, vo, ⟨by grind, by grind⟩, ⟨by grind, by grind⟩, ⟨by grind, by grind⟩, fun h => by omega, fun j' hj' => ?_⟩
    obtain rfl : j' = j := by omega
    exact ⟨o', vo', by grind, by grind⟩
theorem NB.bend (H : NB n f g h s) {t : Int} (h0 : 0 ≤ t) (h1 : t < n) : Vl .f32 (bendT n f g t) (nO n f g t) ∧ (-10000 ≤ nO n f g t ∧ nO n f g t ≤ 10000) ∧
    (1 ≤ t → -800 ≤ h t * nO n f g t ∧ h t * nO n f g t ≤ 800) ∧ (t + 1 < n → -800 ≤ h (t + 1) * nO n f g t ∧ h (t + 1) * nO n f g t ≤ 800) ∧ ((t < 1 ∨ (n : Int) - 1 ≤ t) → nO n f g t = 0) := by
  by_cases hc : (0 : Int) < t ∧ t < (n : Int) - 1
  · obtain ⟨o, vo, o1, o2, o3, _⟩ := H.up ((n : Int) - 2 - t).toNat (by omega)
    have e : bendT n f g t = oN (hT f) (stpT f g) n ((n : Int) - 2 - t).toNat := by
      unfold bendT outT
      rw [if_pos hc]
      rfl
    have e1 : nO n f g t = o := by
      unfold nO
      rw [e]
      exact ratL_eq vo
    rw [show (n : Int) - 2 - (((n : Int) - 2 - t).toNat : Nat) = t by omega] at o2 o3
    rw [e1, e]
    exact ⟨vo, o1, fun _ => o2, fun _ => ⟨by grind, by grind⟩, fun h => by omega⟩
  · have e : bendT n f g t = c0 := by
      unfold bendT outT
      rw [if_neg hc]
    have v0 : Vl .f32 c0 0 := Vl.c (by decide +kernel)
    have e1 : nO n f g t = 0 := by
      unfold nO
      rw [e]
      exact ratL_eq v0
    rw [e1, e]
    exact ⟨v0, by decide +kernel, fun _ => by rw [Rat.mul_zero]; decide +kernel, fun _ => by rw [Rat.mul_zero]; decide +kernel, fun _ => rfl⟩
/-- A row of the triangle. -/
theorem NB.tri (H : NB n f g h s) {i : Int} (h1 : 1 ≤ i) (h2 : i + 1 < n) : -(50000 / 8388608) ≤ nM f g i * nO n f g i + h (i + 1) * nO n f g (i + 1) - nR f g i ∧ nM f g i * nO n f g i + h (i + 1) * nO n f g (i + 1) - nR f g i ≤ 50000 / 8388608 := by
  have hb : ∀ t : Int, 0 < t → t < (n : Int) - 1 → bendT n f g t = oN (hT f) (stpT f g) n ((n : Int) - 2 - t).toNat := fun t t0 t1 => by
    unfold bendT outT
    rw [if_pos ⟨t0, t1⟩]
    rfl
  obtain ⟨o, vo, _, _, _, o4, o5⟩ := H.up ((n : Int) - 2 - i).toNat (by omega)
  have e1 : nO n f g i = o := by
    unfold nO
    rw [hb i (by omega) (by omega)]
    exact ratL_eq vo
  rw [show (n : Int) - 2 - (((n : Int) - 2 - i).toNat : Nat) = i by omega] at o4 o5
  rw [e1]
  by_cases hc : i = (n : Int) - 2
  · have e2 := (H.bend (t := i + 1) (by omega) h2).2.2.2.2 (.inr (by omega))
    have := o4 (by omega)
    rw [e2, Rat.mul_zero, Rat.add_zero]
    exact this
  · obtain ⟨o', vo', k1, k2⟩ := o5 ((n : Int) - 2 - i - 1).toNat (by omega)
    have e2 : nO n f g (i + 1) = o' := by
      unfold nO
      rw [hb (i + 1) (by omega) (by omega), show ((n : Int) - 2 - (i + 1)).toNat = ((n : Int) - 2 - i - 1).toNat by omega]
      exact ratL_eq vo'
    rw [e2]
    exact ⟨k1, k2⟩
/-- The rows of the system are met, nearly. -/
theorem NB.res (H : NB n f g h s) {i : Int} (h1 : 1 ≤ i) (h2 : i + 1 < n) : -(1 / 30) ≤ h i * nO n f g (i - 1) + 2 * (h i + h (i + 1)) * nO n f g i + h (i + 1) * nO n f g (i + 1) - 6 * (s (i + 1) - s i) ∧
    h i * nO n f g (i - 1) + 2 * (h i + h (i + 1)) * nO n f g i + h (i + 1) * nO n f g (i + 1) - 6 * (s (i + 1) - s i) ≤ 1 / 30 := by
  have t1 := H.tri h1 h2
  obtain ⟨_, b1, _⟩ := H.bend (t := i) (by omega) (by omega)
  obtain ⟨_, b0, _, _, z0⟩ := H.bend (t := i - 1) (by omega) (by omega)
  by_cases hc : i = 1
  · subst hc
    have r1 := H.row1 (by omega)
    rw [show (1 : Int) + 1 = 2 from rfl] at *
    rw [z0 (.inl (by omega)), Rat.mul_zero, Rat.zero_add]
    have k := mul_bnd (p := nM f g 1 - 2 * (h 1 + h 2)) (q := nO n f g 1) (a := 8 / 8388608) (b := 10000) (by grind) (by grind) (by grind) (by grind)
    constructor <;> grind
  · obtain ⟨F, f0, fm, fr, fs1, fs2⟩ := H.rowN (i := i) (by omega) h2
    have t0 := H.tri (i := i - 1) (by omega) (by omega)
    rw [show i - 1 + 1 = i by omega] at t0
    have k1 := mul_bnd (p := nM f g i - (2 * (h i + h (i + 1)) - F * h i)) (q := nO n f g i) (a := 16 / 8388608) (b := 10000) (by grind) (by grind) (by grind) (by grind)
    have k2 := mul_bnd (p := F * nM f g (i - 1) - h i) (q := nO n f g (i - 1)) (a := 4 / 8388608) (b := 10000) (by grind) (by grind) (by grind) (by grind)
    have k3 := mul_bnd (p := F) (q := nM f g (i - 1) * nO n f g (i - 1) + h i * nO n f g i - nR f g (i - 1)) (a := 51 / 100) (b := 50000 / 8388608) (by grind) (by grind) (by grind) (by grind)
    generalize nM f g i = M at *
    generalize nM f g (i - 1) = M0 at *
    generalize nR f g i = R at *
    generalize nR f g (i - 1) = R0 at *
    generalize nO n f g i = o at *
    generalize nO n f g (i - 1) = o0 at *
    generalize nO n f g (i + 1) = o1 at *
    generalize h i = x at *
    generalize h (i + 1) = y at *
    generalize s i = u at *
    generalize s (i + 1) = v at *
    have key : x * o0 + 2 * (x + y) * o + y * o1 - 6 * (v - u) = (M * o + y * o1 - R) + F * (M0 * o0 + x * o - R0) - (F * M0 - x) * o0 - (M - (2 * (x + y) - F * x)) * o + (R - (6 * (v - u) - F * R0)) := by grind
    rw [key]
    constructor <;> grind
end
end Go.Ab
namespace Go.Ab
open Go.Proofs
/-- A quotient of complex numbers, while the divisor's real part is the greater. -/
def qrR (C D : FV) : FV := fbin .quo .f64 D C
def qrN (C D : FV) : FV := fbin .add .f64 C (fbin .mul .f64 (qrR C D) D)
def qrE (A B C D : FV) : FV := fbin .quo .f64 (fbin .add .f64 A (fbin .mul .f64 B (qrR C D))) (qrN C D)
def qrF (A B C D : FV) : FV := fbin .quo .f64 (fbin .sub .f64 B (fbin .mul .f64 A (qrR C D))) (qrN C D)
theorem run_carith (P : Program) (w : World) (op : BinOp) (hop : isArith op = true) (a b : Nat) :
    ∃ r w', (Op.Complex.arith op .f64 a b).run P w = .ok r w' ∧ Ext w w' ∧ fv .f64 r = fbin op .f64 (fv .f64 a) (fv .f64 b) ∧ r < 2 ^ FloatKind.f64.format.width := by
  obtain ⟨r, w', h, q, e, l⟩ := run_farith P w op hop .f64 a b
  exact ⟨r, w', by simp [Op.Complex.arith, h], Ext.of_quiet q, e, l⟩
theorem run_ccmpB (P : Program) (w : World) (op : BinOp) (hop : isCmp op = true) (k : FloatKind) (a b : Nat) : (Op.Complex.cmp op k a b).run P w = .ok (cmpB op (fcmp k (fv k a) (fv k b))) w := by
  rw [fcmp_fv]
  cases op <;> first | (cases hop; done) | simp [Op.Complex.cmp, Op.floatCmp, asBool, cmpB]
theorem notnan_of {b : Nat} {x : FV} (h : fv .f64 b = x) (hx : x ≠ none) : Op.Complex.isNaN b = false := by
  unfold Op.Complex.isNaN
  cases hn : (FloatKind.f64.decode b).isNaN with
  | false => rfl
  | true => rw [fv_nan hn] at h; exact absurd h.symm hx
theorem run_cquo (P : Program) (w : World) {a b c d : Nat} (hge : cmpB .geq (fcmp .f64 (fv .f64 (Op.Complex.abs c)) (fv .f64 (Op.Complex.abs d))) = true)
    (he : qrE (fv .f64 a) (fv .f64 b) (fv .f64 c) (fv .f64 d) ≠ none) :
    ∃ e f w', (Op.Complex.quotient a b c d).run P w = .ok (e, f) w' ∧ Ext w w' ∧ (fv .f64 e = qrE (fv .f64 a) (fv .f64 b) (fv .f64 c) (fv .f64 d) ∧ e < 2 ^ FloatKind.f64.format.width) ∧
      fv .f64 f = qrF (fv .f64 a) (fv .f64 b) (fv .f64 c) (fv .f64 d) ∧ f < 2 ^ FloatKind.f64.format.width := by
  obtain ⟨r, w1, r1, x1, e1, _⟩ := run_carith P w .quo rfl d c
  obtain ⟨m, w2, r2, x2, e2, _⟩ := run_carith P w1 .mul rfl r d
  obtain ⟨n, w3, r3, x3, e3, _⟩ := run_carith P w2 .add rfl c m
  obtain ⟨m2, w4, r4, x4, e4, _⟩ := run_carith P w3 .mul rfl b r
  obtain ⟨s, w5, r5, x5, e5, _⟩ := run_carith P w4 .add rfl a m2
  obtain ⟨e, w6, r6, x6, e6, l6⟩ := run_carith P w5 .quo rfl s n
  obtain ⟨m3, w7, r7, x7, e7, _⟩ := run_carith P w6 .mul rfl a r
  obtain ⟨t, w8, r8, x8, e8, _⟩ := run_carith P w7 .sub rfl b m3
  obtain ⟨f, w9, r9, x9, e9, l9⟩ := run_carith P w8 .quo rfl t n
  have hE : fv .f64 e = qrE (fv .f64 a) (fv .f64 b) (fv .f64 c) (fv .f64 d) := by rw [e6, e5, e4, e3, e2, e1]; rfl
  have hF : fv .f64 f = qrF (fv .f64 a) (fv .f64 b) (fv .f64 c) (fv .f64 d) := by rw [e9, e8, e7, e3, e2, e1]; rfl
  have hn := notnan_of hE he
  refine ⟨e, f, w9, ?_, ((((((((x1.trans x2).trans x3).trans x4).trans x5).trans x6).trans x7).trans x8).trans x9), ⟨hE, l6⟩, hF, l9⟩
  have hc0 := run_ccmpB P w .geq rfl .f64 (Op.Complex.abs c) (Op.Complex.abs d)
  rw [hge] at hc0
  have z1 := run_ccmpB P w9 .eql rfl .f64 c 0
  have z2 := run_ccmpB P w9 .eql rfl .f64 d 0
  unfold Op.Complex.quotient Op.Complex.quo Op.Complex.mul Op.Complex.add Op.Complex.sub
  cases hz : cmpB .eql (fcmp .f64 (fv .f64 c) (fv .f64 0)) <;> rw [hz] at z1 <;>
    simp only [Sem.run_bind, Sem.run_pure, Result.andThen_ok, hc0, r1, r2, r3, r4, r5, r6, r7, r8, r9, z1, z2, hn, if_true, Bool.false_and, Bool.not_false, Bool.false_eq_true, if_false]
section
variable {P : Program} {S : World → Prop} {e : Env} {dst : Option Tmp} {ty : TypeId} {pos : String} {after : Array Edge} {guard : Option (Nat × Bool)}
abbrev w64 (x : FV) : FV := fconv .f32 .f64 x
theorem opj_cquo {t t' : TypeId} {X Y : Operand} {x y c d : FV} (hx : e.ev X = some (.c .f32 x y)) (hy : e.ev Y = some (.c .f32 c d))
    (hge : cmpB .geq (fcmp .f64 (fabs64 (w64 c)) (fabs64 (w64 d))) = true) (hc : w64 c ≠ none) (hd : w64 d ≠ none) (he : qrE (w64 x) (w64 y) (w64 c) (w64 d) ≠ none)
    (o1 : ConvOk .f64 .f32 (qrE (w64 x) (w64 y) (w64 c) (w64 d))) (o2 : ConvOk .f64 .f32 (qrF (w64 x) (w64 y) (w64 c) (w64 d))) :
    OpJ P S e ⟨dst, .binOp .quo t X Y t', ty, pos, after, guard⟩ (.c .f32 (fconv .f64 .f32 (qrE (w64 x) (w64 y) (w64 c) (w64 d))) (fconv .f64 .f32 (qrF (w64 x) (w64 y) (w64 c) (w64 d)))) :=
  opj_value fun a w _ h => by
    obtain ⟨p, q, h1, e1, e2, hp, hq⟩ := (h X (by simp [Op.operands]) _ hx).inv_c
    obtain ⟨p', q', h2, e1', e2', hp', hq'⟩ := (h Y (by simp [Op.operands]) _ hy).inv_c
    obtain ⟨b1, w1, r1, x1, f1, _⟩ := run_fconv P w .f32 .f64 p hp (conv_wide (is32_fv p))
    obtain ⟨b2, w2, r2, x2, f2, _⟩ := run_fconv P w1 .f32 .f64 q hq (conv_wide (is32_fv q))
    obtain ⟨b3, w3, r3, x3, f3, _⟩ := run_fconv P w2 .f32 .f64 p' hp' (conv_wide (is32_fv p'))
    obtain ⟨b4, w4, r4, x4, f4, _⟩ := run_fconv P w3 .f32 .f64 q' hq' (conv_wide (is32_fv q'))
    rw [e1] at f1
    rw [e2] at f2
    rw [e1'] at f3
    rw [e2'] at f4
    have habs : ∀ {b : Nat} {z : FV}, fv .f64 b = z → z ≠ none → fv .f64 (Op.Complex.abs b) = fabs64 z := fun {b z} hb hz => by
      have hn : (FloatKind.f64.decode b).isNaN = false := notnan_of hb hz
      have hz' : z = some b := by rw [← hb, fv_some hn]
      rw [hz']
      have : (FloatKind.f64.decode (b % 2 ^ 63)).isNaN = false := by
        rw [read_abs]
        cases hd : FloatKind.f64.decode b with
        | nan s t => rw [hd] at hn; cases hn
        | infinity s => rfl
        | number s m e => rfl
      unfold Op.Complex.abs
      rw [fv_some this]
      rfl
    obtain ⟨u, v, w5, r5, x5, ⟨f5, l5⟩, f6, l6⟩ := run_cquo P w4 (a := b1) (b := b2) (c := b3) (d := b4) (by rw [habs f3 hc, habs f4 hd]; exact hge) (by rw [f1, f2, f3, f4]; exact he)
    rw [f1, f2, f3, f4] at f5 f6
    obtain ⟨b7, w7, r7, x7, f7, l7⟩ := run_fconv P w5 .f64 .f32 u l5 (by rw [f5]; exact o1)
    obtain ⟨b8, w8, r8, x8, f8, l8⟩ := run_fconv P w7 .f64 .f32 v l6 (by rw [f6]; exact o2)
    refine ⟨.complex .f32 b7 b8, w8, ?_, (((((((Ext.of_quiet x1).trans (Ext.of_quiet x2)).trans (Ext.of_quiet x3)).trans (Ext.of_quiet x4)).trans x5).trans (Ext.of_quiet x7)).trans (Ext.of_quiet x8)), Rel.c' l7 l8 (by rw [f7, f5]) (by rw [f8, f6])⟩
    simp [execOp, h1, h2, eqGuard, binOp, Op.complexOp, Op.Complex.conv, r1, r2, r3, r4, r5, r7, r8]
end
/-- Divided by a real number. -/
def cdC (p : CV) (c : FV) : CV := (fconv .f64 .f32 (qrE (w64 p.1) (w64 p.2) (w64 c) (w64 (fv .f32 0))), fconv .f64 .f32 (qrF (w64 p.1) (w64 p.2) (w64 c) (w64 (fv .f32 0))))
/-- What is needed for it. -/
structure CdOk (p : CV) (c : FV) : Prop where
  ge : cmpB .geq (fcmp .f64 (fabs64 (w64 c)) (fabs64 (w64 (fv .f32 0)))) = true
  nc : w64 c ≠ none
  nd : w64 (fv .f32 0) ≠ none
  e : qrE (w64 p.1) (w64 p.2) (w64 c) (w64 (fv .f32 0)) ≠ none
  o1 : ConvOk .f64 .f32 (qrE (w64 p.1) (w64 p.2) (w64 c) (w64 (fv .f32 0)))
  o2 : ConvOk .f64 .f32 (qrF (w64 p.1) (w64 p.2) (w64 c) (w64 (fv .f32 0)))
theorem opj_cdC {P : Program} {S : World → Prop} {e : Env} {dst : Option Tmp} {ty : TypeId} {pos : String} {after : Array Edge} {guard : Option (Nat × Bool)} {t t' : TypeId} {X Y : Operand} {p : CV} {c : FV} (hk : CdOk p c) (hx : e.ev X = some (.c .f32 p.1 p.2)) (hy : e.ev Y = some (.c .f32 c (fv .f32 0))) :
    OpJ P S e ⟨dst, .binOp .quo t X Y t', ty, pos, after, guard⟩ (.c .f32 (cdC p c).1 (cdC p c).2) := opj_cquo hx hy hk.ge hk.nc hk.nd hk.e hk.o1 hk.o2
theorem rep_wide {x : FV} {p : Rat} (h : Vl .f32 x p) : Rep .f64 p := by
  have h1 : FloatKind.f32.format.leastPlace = -149 := by decide
  have h2 : FloatKind.f64.format.leastPlace = -1074 := by decide
  rcases vl_rep h with ⟨M, E, hM, hE, hB⟩ | ⟨M, E, hM, hE, hB⟩
  · exact .inl ⟨M, E, Nat.le_trans hM (by decide), by omega, hB⟩
  · exact .inr ⟨M, E, Nat.le_trans hM (by decide), by omega, hB⟩
theorem near64r {q r : Rat} (h : Rnd .f64 q r) (a : Rat) (h1 : -a ≤ q) (h2 : q ≤ a) (ha : a ≤ 100000) : -(1 / 1000000000) ≤ q - r ∧ q - r ≤ 1 / 1000000000 := by
  have h3 := h.near a h1 h2
  have e1 : feps .f64 ≤ 1 / 1000000000000000 := by decide +kernel
  have e0 : 0 < feps .f64 := eps_pos _
  have e2 : ftiny .f64 ≤ 1 / 1000000000000000 := by decide +kernel
  have ha0 : 0 ≤ a := by grind
  have := Rat.mul_le_mul_of_nonneg_left e1 ha0
  obtain ⟨h4, h5⟩ := h3
  constructor <;> grind
/-- How near it is. -/
theorem cdC_vl {p : CV} {c : FV} {x y h : Rat} (hx : Vl .f32 p.1 x) (hy : Vl .f32 p.2 y) (hc : Vl .f32 c h) (h0 : 0 < h) (A : Rat) (x1 : -(A * h) ≤ x) (x2 : x ≤ A * h) (y1 : -(A * h) ≤ y) (y2 : y ≤ A * h) (hA : A ≤ 10000) (b1 : -10000 ≤ x ∧ x ≤ 10000) (b2 : -10000 ≤ y ∧ y ≤ 10000) (b3 : h ≤ 10000) :
    CdOk p c ∧ ∃ u v s t, Vl .f32 (cdC p c).1 u ∧ Vl .f32 (cdC p c).2 v ∧ s * h = x ∧ t * h = y ∧ (-A ≤ s ∧ s ≤ A) ∧ (-A ≤ t ∧ t ≤ A) ∧ (-((A + 2) / 8388608) ≤ u - s ∧ u - s ≤ (A + 2) / 8388608) ∧ -((A + 2) / 8388608) ≤ v - t ∧ v - t ≤ (A + 2) / 8388608 := by
  have z32 : Vl .f32 (fv .f32 0) 0 := Vl.c (by decide +kernel)
  have Z := vl_wide z32
  have X := vl_wide hx
  have Y := vl_wide hy
  have C := vl_wide hc
  have k0 : Fit .f64 0 := by constructor <;> decide +kernel
  have f100 : (1000000 : Rat) < p2 (ftop .f64) := by decide +kernel
  have f100' : (100000 : Rat) ≤ p2 (ftop .f64 - 1) := by decide +kernel
  have hz : (0 : Rat) / h = 0 := by rw [Rat.div_def, Rat.zero_mul]
  obtain ⟨r, vr, rr⟩ := vl_div Z C (Rat.ne_of_gt h0) (by rw [hz]; constructor <;> decide +kernel)
  rw [hz] at rr
  obtain rfl := rnd_rep rr (rep_zero _)
  obtain ⟨m, vm, rm⟩ := vl_mul vr Z (by rw [Rat.mul_zero]; exact k0)
  rw [Rat.mul_zero] at rm
  obtain rfl := rnd_rep rm (rep_zero _)
  have repC : Rep .f64 h := rep_wide hc
  have repX : Rep .f64 x := rep_wide hx
  have repY : Rep .f64 y := rep_wide hy
  obtain ⟨n, vn, rn⟩ := vl_add C vm (by rw [Rat.add_zero]; constructor <;> grind)
  rw [Rat.add_zero] at rn
  obtain rfl := rnd_rep rn repC
  have vN : Vl .f64 (qrN (w64 c) (w64 (fv .f32 0))) n := vn
  obtain ⟨m2, vm2, rm2⟩ := vl_mul Y vr (by rw [Rat.mul_zero]; exact k0)
  rw [Rat.mul_zero] at rm2
  obtain rfl := rnd_rep rm2 (rep_zero _)
  obtain ⟨s1, vs1, rs1⟩ := vl_add X vm2 (by rw [Rat.add_zero]; constructor <;> grind)
  rw [Rat.add_zero] at rs1
  obtain rfl := rnd_rep rs1 repX
  obtain ⟨m3, vm3, rm3⟩ := vl_mul X vr (by rw [Rat.mul_zero]; exact k0)
  rw [Rat.mul_zero] at rm3
  obtain rfl := rnd_rep rm3 (rep_zero _)
  have e0 : y - 0 = y := by grind
  obtain ⟨s2, vs2, rs2⟩ := vl_sub Y vm3 (by rw [e0]; constructor <;> grind)
  rw [e0] at rs2
  obtain rfl := rnd_rep rs2 repY
  have q1 : -A ≤ s1 / n ∧ s1 / n ≤ A := ⟨le_div_of h0 (by grind), div_le_of h0 x2⟩
  have q2 : -A ≤ s2 / n ∧ s2 / n ≤ A := ⟨le_div_of h0 (by grind), div_le_of h0 y2⟩
  obtain ⟨E, vE, rE⟩ := vl_div vs1 vN (Rat.ne_of_gt h0) (by constructor <;> grind)
  obtain ⟨F, vF, rF⟩ := vl_div vs2 vN (Rat.ne_of_gt h0) (by constructor <;> grind)
  have n1 := near64r rE A q1.1 q1.2 (by grind)
  have n2 := near64r rF A q2.1 q2.2 (by grind)
  have vE' : Vl .f64 (qrE (w64 p.1) (w64 p.2) (w64 c) (w64 (fv .f32 0))) E := vE
  have vF' : Vl .f64 (qrF (w64 p.1) (w64 p.2) (w64 c) (w64 (fv .f32 0))) F := vF
  have fE : Fit .f32 E := fitN (A := 20000) (by grind) (by grind) (by decide +kernel)
  have fF : Fit .f32 F := fitN (A := 20000) (by grind) (by grind) (by decide +kernel)
  obtain ⟨u, vu, ru⟩ := vl_narrow vE' fE
  obtain ⟨v, vv, rv⟩ := vl_narrow vF' fF
  have n3 := rnd_abs ru (A + 1 / 1000000000) (by grind) (by grind)
  have n4 := rnd_abs rv (A + 1 / 1000000000) (by grind) (by grind)
  refine ⟨⟨?_, C.some, Z.some, vE'.some, vl_narrow_ok vE' fE, vl_narrow_ok vF' fF⟩, u, v, s1 / n, s2 / n, vu, vv, Rat.div_mul_cancel (Rat.ne_of_gt h0), Rat.div_mul_cancel (Rat.ne_of_gt h0), q1, q2, ⟨by grind, by grind⟩, by grind, by grind⟩
  rw [vl_geq (vl_abs C) (vl_abs Z)]
  rw [if_pos (Rat.le_of_lt h0), if_pos (Rat.le_refl)]
  exact decide_eq_true (Rat.le_of_lt h0)
end Go.Ab
namespace Go.Ab
variable {n : Nat} {f g : Int → FV} {a b : Int → Int}
theorem tab_all_fin {n : Nat} {f : Int → FV} (h : ∀ t : Int, 0 ≤ t → t < n → ∃ o, Vl .f32 (f t) o) : (tab n f).all finB = true := by
  rw [List.all_eq_true]
  intro x hx
  obtain ⟨i, hi, rfl⟩ := List.mem_iff_getElem.1 hx
  rw [tab_length] at hi
  have h1 := tab_get f hi
  rw [List.getElem?_eq_getElem (by rw [tab_length]; exact hi)] at h1
  rw [Option.some.inj h1]
  obtain ⟨o, ho⟩ := h i (by omega) (by omega)
  exact vl_fin ho
end Go.Ab
namespace Go.Ab
variable {n : Nat} {f g : Int → FV} {a b : Int → Int}
theorem tiny_le : ftiny .f32 ≤ 1 / 1000000000000000000000000000000 := by decide +kernel
theorem rnd_rel {q r : Rat} (h : Rnd .f32 q r) (a : Rat) (h1 : -a ≤ q) (h2 : q ≤ a) : q - (a / 8388608 + 1 / 1000000000000000000000000000000) ≤ r ∧ r ≤ q + (a / 8388608 + 1 / 1000000000000000000000000000000) := by
  have h3 := h.near a h1 h2
  have e1 : feps .f32 = 1 / 8388608 := by decide +kernel
  have e2 := tiny_le
  rw [e1] at h3
  obtain ⟨h4, h5⟩ := h3
  constructor <;> grind
end Go.Ab
namespace Go.Ab
open Go.Proofs
theorem qrt_subX {A d : Int} (hA : 0 ≤ A ∧ A ≤ 48) (hd : 2 ≤ d ∧ d ≤ 8) : fbin .sub .f32 (qrt (A + d)) (qrt A) = qrt d := by
  have h : ((List.range 49).all fun A => (List.range 9).all fun d => decide (fbin .sub .f32 (qrt ((A : Int) + (d : Int))) (qrt (A : Int)) = qrt (d : Int))) = true := by decide +kernel
  have h1 := (List.all_eq_true.1 ((List.all_eq_true.1 h) A.toNat (by simp; omega))) d.toNat (by simp; omega)
  rw [show ((A.toNat : Nat) : Int) = A from by omega, show ((d.toNat : Nat) : Int) = d from by omega] at h1
  exact of_decide_eq_true h1
theorem qrt_subY {C d : Int} (hC : -24 ≤ C ∧ C ≤ 24) (hd : -4 ≤ d ∧ d ≤ 4) : fbin .sub .f32 (qrt (C + d)) (qrt C) = qrt d := by
  have h : ((List.range 49).all fun A => (List.range 9).all fun v => decide (fbin .sub .f32 (qrt (((A : Int) - 24) + ((v : Int) - 4))) (qrt ((A : Int) - 24)) = qrt ((v : Int) - 4))) = true := by decide +kernel
  have h1 := (List.all_eq_true.1 ((List.all_eq_true.1 h) (C + 24).toNat (by simp; omega))) (d + 4).toNat (by simp; omega)
  rw [show (((C + 24).toNat : Nat) : Int) - 24 = C from by omega, show (((d + 4).toNat : Nat) : Int) - 4 = d from by omega] at h1
  exact of_decide_eq_true h1
def lenT (d e : Int) : FV := longC (qrt d, qrt e)
def wT (d e : Int) : FV := exF (fbin .mul .f32 one1 (lgF (lenT d e)))
def chkT (d e : Int) : Bool := decide (999 / 1000 * ratL (lenT d e) ≤ ratL (wT d e)) && decide (ratL (wT d e) ≤ 1001 / 1000 * ratL (lenT d e))
theorem chkT_all : ((List.range 7).all fun d => (List.range 9).all fun e => chkT ((d : Int) + 2) ((e : Int) - 4)) = true := by decide +kernel
theorem chkT_at {d e : Int} (hd : 2 ≤ d ∧ d ≤ 8) (he : -4 ≤ e ∧ e ≤ 4) : 999 / 1000 * ratL (lenT d e) ≤ ratL (wT d e) ∧ ratL (wT d e) ≤ 1001 / 1000 * ratL (lenT d e) := by
  have h1 := (List.all_eq_true.1 ((List.all_eq_true.1 chkT_all) (d - 2).toNat (by simp; omega))) (e + 4).toNat (by simp; omega)
  rw [show (((d - 2).toNat : Nat) : Int) + 2 = d from by omega, show (((e + 4).toNat : Nat) : Int) - 4 = e from by omega] at h1
  unfold chkT at h1
  simp only [Bool.and_eq_true, decide_eq_true_eq] at h1
  exact h1
section
variable {n : Nat} {P : Nat → CV} {a c : Nat → Int} {l : Nat → Rat}
theorem vl_one1 : Vl .f32 one1 1 := Vl.c (by decide +kernel)
/-- A step weighs what it is long, nearly. -/
theorem Lth.w1 (h : Lth n P a c l) (hp : Pth n P a c) (hn : n ≤ 7) {i : Nat} (hi : i + 1 < n) : ∃ r, Vl .f32 (stW one1 P i) r ∧ 999 / 1000 * l i ≤ r ∧ r ≤ 1001 / 1000 * l i := by
  obtain ⟨_, _, r, vr, _⟩ := h.pow vl_one1 (by decide +kernel) hi
  obtain ⟨⟨s1, s2⟩, s3, s4⟩ := hp.st i hi
  obtain ⟨⟨b1, b2⟩, b3, b4⟩ := hp.bd i (by omega)
  have e : subC2 (P (i + 1)) (P i) = (qrt (a (i + 1) - a i), qrt (c (i + 1) - c i)) := by
    rw [hp.q i (by omega), hp.q (i + 1) hi]
    have h1 := qrt_subX (A := a i) (d := a (i + 1) - a i) (by omega) (by omega)
    have h2 := qrt_subY (C := c i) (d := c (i + 1) - c i) (by omega) (by omega)
    rw [show a i + (a (i + 1) - a i) = a (i + 1) by omega] at h1
    rw [show c i + (c (i + 1) - c i) = c (i + 1) by omega] at h2
    exact Prod.ext h1 h2
  have e1 : lngF P i = lenT (a (i + 1) - a i) (c (i + 1) - c i) := by
    show longC (subC2 (P (i + 1)) (P i)) = _
    rw [e]
    rfl
  have e2 : stW one1 P i = wT (a (i + 1) - a i) (c (i + 1) - c i) := by
    unfold stW wT
    rw [e1]
  have t := chkT_at (d := a (i + 1) - a i) (e := c (i + 1) - c i) ⟨s1, s2⟩ ⟨s3, s4⟩
  rw [← e1, ← e2, ratL_eq vr, ratL_eq (h.v i hi)] at t
  exact ⟨r, vr, t⟩
/-- The steps of the parameters. -/
theorem Lth.steps (h : Lth n P a c l) (hp : Pth n P a c) (hn : 2 ≤ n ∧ n ≤ 7) {t : Nat → Rat} (ht : ∀ i : Nat, i < n → Vl .f32 (parF one1 P n i) (t i)) {i : Nat} (hi : i + 1 < n) : l i ≤ 1388 / 100 * (t (i + 1) - t i) := by
  obtain ⟨A, vA, A1, A2, _⟩ := sP_vl h hn.2 vl_one1 (by decide +kernel) (n - 1) (by omega)
  -- the whole
  have hup : ∀ j, j < n → ∃ s, Vl .f32 (sP one1 P j) s ∧ 0 ≤ s ∧ s ≤ 2303 / 1000 * (j : Rat) := by
    intro j
    induction j with
    | zero => intro _; exact ⟨0, Vl.c (k := .f32) (b := 0) (q := 0) (by decide +kernel), Rat.le_refl, by rw [show ((0 : Nat) : Rat) = 0 from rfl]; decide +kernel⟩
    | succ j ih =>
      intro hj
      obtain ⟨s, vs, s0, s1⟩ := ih (by omega)
      obtain ⟨r, vr, r1, r2⟩ := h.w1 hp hn.2 hj
      have hl := h.b j hj
      have j6 : (j : Rat) ≤ 6 := natLe (j := 6) (by omega)
      have j0 : (0 : Rat) ≤ (j : Rat) := Rat.natCast_nonneg
      obtain ⟨u, vu, u1, u2⟩ := adn vs vr 20 (by grind) (by grind) (by decide +kernel)
      have e : ((j + 1 : Nat) : Rat) = (j : Rat) + 1 := Rat.natCast_add j 1
      exact ⟨u, vu, by grind, by rw [e]; grind⟩
  obtain ⟨A', vA', A0', A3⟩ := hup (n - 1) (by omega)
  obtain rfl := Vl.unique vA vA'
  have n6 : ((n - 1 : Nat) : Rat) ≤ ((6 : Nat) : Rat) := natLe (by omega)
  have n1 : ((1 : Nat) : Rat) ≤ ((n - 1 : Nat) : Rat) := natLe (by omega)
  rw [show ((6 : Nat) : Rat) = 6 from rfl] at n6
  rw [show ((1 : Nat) : Rat) = 1 from rfl] at n1
  have A0 : 23 / 100 ≤ A := by grind
  have A14 : A ≤ 1382 / 100 := by grind
  -- the parts
  have hle : ∀ d j : Nat, j + d < n → ∃ s r, Vl .f32 (sP one1 P j) s ∧ Vl .f32 (sP one1 P (j + d)) r ∧ s ≤ r := fun d => by
    induction d with
    | zero =>
      intro j hj
      obtain ⟨s, vs, _⟩ := hup j hj
      exact ⟨s, s, vs, vs, Rat.le_refl⟩
    | succ d ih =>
      intro j hj
      obtain ⟨s, r, vs, vr, h1⟩ := ih j (by omega)
      obtain ⟨u, vu, _, _, h2⟩ := sP_vl h hn.2 vl_one1 (by decide +kernel) (j + d + 1) (by omega)
      obtain ⟨r', vr', h3⟩ := h2 (j + d) rfl
      obtain rfl := Vl.unique vr vr'
      exact ⟨s, u, vs, vu, by grind⟩
  have hq : ∀ j : Nat, j < n → ∃ s v, Vl .f32 (sP one1 P j) s ∧ v * A = s ∧ -(2 / 8388608) ≤ t j - v ∧ t j - v ≤ 2 / 8388608 := fun j hj => by
    obtain ⟨s, A', vs, vA', h1⟩ := hle (n - 1 - j) j (by omega)
    rw [show j + (n - 1 - j) = n - 1 by omega] at vA'
    obtain rfl := Vl.unique vA vA'
    obtain ⟨s', vs', s0, _⟩ := hup j hj
    obtain rfl := Vl.unique vs vs'
    have hv := ht j hj
    by_cases h0 : j = 0
    · subst h0
      have e : parF one1 P n ((0 : Nat) : Int) = fv .f32 0 := by unfold parF parK; rw [if_neg (by omega)]; rfl
      rw [e] at hv
      have v0 : Vl .f32 (fv .f32 0) 0 := Vl.c (by decide +kernel)
      have vs0 : Vl .f32 (sP one1 P 0) 0 := v0
      obtain rfl := Vl.unique vs vs0
      have e0 := Vl.unique hv v0
      exact ⟨0, 0, vs, Rat.zero_mul _, by rw [e0]; decide +kernel, by rw [e0]; decide +kernel⟩
    · have e : parF one1 P n (j : Int) = fbin .quo .f32 (sP one1 P j) (sP one1 P (n - 1)) := by unfold parF parK; rw [if_pos (by omega)]; rfl
      rw [e] at hv
      obtain ⟨r, v, vr, ev, _, r1, r2⟩ := dvn vs vA (by grind) 1 (by grind) (by grind) (by decide +kernel)
      obtain rfl := Vl.unique hv vr
      exact ⟨s, v, vs, ev, by grind, by grind⟩
  obtain ⟨s, v, vs, ev, e1, e2⟩ := hq i (by omega)
  obtain ⟨r, u, vr, eu, e3, e4⟩ := hq (i + 1) hi
  obtain ⟨w, vw, w1, w2⟩ := h.w1 hp hn.2 hi
  obtain ⟨s', vs', s0, s1⟩ := hup i (by omega)
  obtain rfl := Vl.unique vs vs'
  have i6 : (i : Rat) ≤ 6 := natLe (j := 6) (by omega)
  have hl := h.b i hi
  obtain ⟨r', vr', x1, x2⟩ := adn vs vw 20 (by grind) (by grind) (by decide +kernel)
  have vr2 : Vl .f32 (sP one1 P (i + 1)) r' := vr'
  obtain rfl := Vl.unique vr vr2
  have k1 := mul_bnd (p := t (i + 1) - u) (q := A) (a := 2 / 8388608) (b := 1382 / 100) (by grind) (by grind) (by grind) (by grind)
  have k2 := mul_bnd (p := t i - v) (q := A) (a := 2 / 8388608) (b := 1382 / 100) (by grind) (by grind) (by grind) (by grind)
  have k3 : (t (i + 1) - t i) * A = (t (i + 1) - u) * A - (t i - v) * A + (r - s) := by grind
  have k4 : 998 / 1000 * l i ≤ (t (i + 1) - t i) * A := by grind
  have k5 : 0 ≤ t (i + 1) - t i := by
    rcases Rat.le_total (a := 0) (b := t (i + 1) - t i) with g | g
    · exact g
    · have := Rat.mul_nonneg (show 0 ≤ -(t (i + 1) - t i) by grind) (show 0 ≤ A by grind)
      grind
  have k6 := Rat.mul_le_mul_of_nonneg_left A14 k5
  grind
end
end Go.Ab
