/- Part 5 of the texts on which the law leans, joined: Lists of structs that a call makes: append; lists of curves. No conditions. -/
import Derived.Laws.CopyRow
import Derived.Test.YtjjhppoidopflaaZad
namespace Go.Ab
open Go.Proofs
variable {R : World → Prop} [RStab R]
attribute [local irreducible] WS RS Done OpJ Then InBlock Round Ret Env.sub FnH
attribute [local irreducible] tab tabC
section
variable {n : Nat} {P : Nat → CV} {a c : Nat → Int} {l : Nat → Rat} {w : FV} {ω : Rat}
theorem isTime_yes (vw : Vl .f32 w ω) (hw : 0 ≤ ω ∧ ω ≤ 1) : Fn Try.prog 38 (fun _ => [.f .f32 w]) (.raw (.bool true)) := by
  have e1 : cmpB .geq (fcmp .f32 w (fv .f32 0)) = true := by rw [vl_geq vw (Vl.c (k := .f32) (b := 0) (q := 0) (by decide +kernel))]; exact decide_eq_true hw.1
  have e2 : cmpB .leq (fcmp .f32 w (fv .f32 1065353216)) = true := by rw [vl_leq vw (Vl.c (k := .f32) (b := 1065353216) (q := 1) (by decide +kernel))]; exact decide_eq_true hw.2
  refine fn_intro Try.func38 rfl Try.ntmps38 (fun _ => Nat.le_of_ble_eq_true rfl) fun w0 => ?_
  repeat first | refine zaa rfl (zay rfl) ?_ | refine zaa rfl (zaz rfl) ?_ | (refine zac ?_; refine zaa rfl (zbd rfl rfl rfl) ?_) | refine zah ?_ | (refine zcr ?_; refine zcs ?_) | (refine zdb ?_; first | refine zdc ?_ | refine zdd ?_)
  rw [e1]
  repeat first | refine zai rfl rfl ?_ | refine zaa rfl (zay rfl) ?_ | refine zaa rfl (zaz rfl) ?_ | (refine zac ?_; refine zaa rfl (zbd rfl rfl rfl) ?_) | refine zaa rfl (zca rfl rfl) ?_ | refine zah ?_ | (refine zcr ?_; refine zcs ?_) | (refine zdb ?_; refine zdg ?_)
  rw [e2]
  skip
  exact done_ret1 rfl () rfl trivial (List.nil_sublist _)
theorem l02Share_yes (vw : Vl .f32 w ω) (hw : 0 ≤ ω ∧ ω ≤ 1) : Fn Try.prog 23 (fun _ => [.f .f32 w]) (.raw (.bool true)) := by
  have e1 : cmpB .geq (fcmp .f32 w (fv .f32 0)) = true := by rw [vl_geq vw (Vl.c (k := .f32) (b := 0) (q := 0) (by decide +kernel))]; exact decide_eq_true hw.1
  have e2 : cmpB .leq (fcmp .f32 w (fv .f32 1065353216)) = true := by rw [vl_leq vw (Vl.c (k := .f32) (b := 1065353216) (q := 1) (by decide +kernel))]; exact decide_eq_true hw.2
  refine fn_intro Try.func23 rfl Try.ntmps23 (fun _ => Nat.le_of_ble_eq_true rfl) fun w0 => ?_
  repeat first | refine zaa rfl (zay rfl) ?_ | refine zaa rfl (zaz rfl) ?_ | (refine zac ?_; refine zaa rfl (zbd rfl rfl rfl) ?_) | refine zah ?_ | (refine zcr ?_; refine zcs ?_) | (refine zdb ?_; first | refine zdc ?_ | refine zdd ?_)
  rw [e1]
  repeat first | refine zai rfl rfl ?_ | refine zaa rfl (zay rfl) ?_ | refine zaa rfl (zaz rfl) ?_ | (refine zac ?_; refine zaa rfl (zbd rfl rfl rfl) ?_) | refine zaa rfl (zca rfl rfl) ?_ | refine zah ?_ | (refine zcr ?_; refine zcs ?_) | (refine zdb ?_; refine zdg ?_)
  rw [e2]
  skip
  exact done_ret1 rfl () rfl trivial (List.nil_sublist _)
end
end Go.Ab
namespace Go.Ab
open Go.Proofs
variable {R : World → Prop} [RStab R]
section
variable {P : Program} {N : Nat} {S : World → Prop} {e : Env} {Q : Exit → Env → World → Prop} {ops : Array Oper} {l : List Oper}
variable {w0 : World} {gs : List Nat} {H : List Ent} {dst : Option Tmp} {ty : TypeId} {pos : String} {after : Array Edge} {guard : Option (Nat × Bool)} {t el : TypeId}
theorem opj_cut_l {X Y : Operand} {g n cap : Nat} {z : Value} {b : Nat} {k : IntKind} {h : Int} [hu : TyU P t (.slice el)] [hi : TyI P el z 1 b] (hx : e.ev X = some (.raw (.slice (some ⟨g, 0, none⟩) n cap))) (hy : e.ev Y = some (.raw (.int k h))) (h0 : 0 ≤ h ∧ h < n) (hc : n ≤ cap) :
    OpJ P S e ⟨dst, .slice t X (some Y) none none, ty, pos, after, guard⟩ (.raw (.slice (some ⟨g, h.toNat, none⟩) (n - h.toNat) (cap - h.toNat))) :=
  opj_value fun a w _ ho => by
    have h1 := (ho X (by simp [Op.operands]) _ hx).inv_raw
    have h2 := (ho Y (by simp [Op.operands]) _ hy).inv_raw
    have hel : P.elem t = el := by simp [Program.elem, hu.h]
    have ht : P.underlying t = some (.slice (P.elem t)) := by rw [hel]; exact hu.h
    have hr := run_slice_l (P := P) (w := w) t (some ⟨g, 0, none⟩) n cap ht k h h0.1 (by omega)
    rw [hel, run_size hi] at hr
    have hs := run_sliceAt_slice (P := P) w t (.slice (some ⟨g, 0, none⟩) n cap) (some (.int k h)) none none ht
    have hv : sliced (some ⟨g, 0, none⟩) h.toNat n cap 1 = .slice (some ⟨g, h.toNat, none⟩) (n - h.toNat) (cap - h.toNat) := by
      unfold sliced
      rw [if_neg (by omega)]
      simp [Addr.add]
      try omega
    exact ⟨_, w, by simp [execOp, h1, h2, hs, hr, hv], Ext.refl _, .raw⟩
theorem opj_cut_h {X Y : Operand} {g n cap : Nat} {z : Value} {b : Nat} {k : IntKind} {h : Int} [hu : TyU P t (.slice el)] [hi : TyI P el z 1 b] (hx : e.ev X = some (.raw (.slice (some ⟨g, 0, none⟩) n cap))) (hy : e.ev Y = some (.raw (.int k h))) (h0 : 0 ≤ h ∧ h ≤ cap) (hc : 0 < cap) :
    OpJ P S e ⟨dst, .slice t X none (some Y) none, ty, pos, after, guard⟩ (.raw (.slice (some ⟨g, 0, none⟩) h.toNat cap)) :=
  opj_value fun a w _ ho => by
    have h1 := (ho X (by simp [Op.operands]) _ hx).inv_raw
    have h2 := (ho Y (by simp [Op.operands]) _ hy).inv_raw
    have hel : P.elem t = el := by simp [Program.elem, hu.h]
    have ht : P.underlying t = some (.slice (P.elem t)) := by rw [hel]; exact hu.h
    have hr := run_slice_h (P := P) (w := w) t (some ⟨g, 0, none⟩) n cap ht k h h0.1 h0.2
    rw [hel, run_size hi] at hr
    have hs := run_sliceAt_slice (P := P) w t (.slice (some ⟨g, 0, none⟩) n cap) none (some (.int k h)) none ht
    have hv : sliced (some ⟨g, 0, none⟩) 0 h.toNat cap 1 = .slice (some ⟨g, 0, none⟩) h.toNat cap := by
      unfold sliced
      rw [if_neg (by omega)]
      simp [Addr.add]
    exact ⟨_, w, by simp [execOp, h1, h2, hs, hr, hv], Ext.refl _, .raw⟩
/-- 'copy' into a list of the call's own. -/
theorem run_copyE (k K : Nat) {a : Act} {w : World} {d : Tmp} {A B : Operand} {off m cap : Nat} {en : Ent} {ys : List AV} {z : Value} {b : Nat} [hu : TyU P t (.slice el)] [hi : TyI P el z 1 b] (hS : StR R w0 gs H w)
    (hA' : a.eval A = .slice (some ⟨en.g, off, none⟩) m cap) (hrd : Rd w 1 (a.eval B) ys) (hH : H[k]? = some en)
    (h0 : 1 ≤ ys.length) (h1 : ys.all isOne = true) (hK : K = min ys.length m) (hfit : off + K ≤ en.xs.length) :
    ∃ w', (execOp a.eval ⟨some d, .call { callee := .builtin .copy, args := #[A, B], argTypes := #[t, t] }, ty, pos, after, none⟩).run P w = .ok (.value (goInt K)) w' ∧ StR R w0 gs (H.set k { en with xs := en.xs.take off ++ (ys.take K ++ en.xs.drop (off + K)) }) w' := by
  obtain ⟨ad, n, c, hB', hl, _, _, hcells⟩ := hrd
  rw [Nat.mul_one] at hl
  obtain ⟨bb, had, hsp, _⟩ := hcells 0 _ (List.getElem?_eq_getElem (by omega))
  subst had
  obtain ⟨i, hi1, hz1, hs1, hb1⟩ := hi.h
  have hmem : en ∈ H := List.mem_of_getElem? hH
  obtain ⟨cur, hcur, hcsz, hcx⟩ := (hS.own _ hmem).2
  have hnews : ∃ news : List Value, news.length = ys.length ∧ ∀ (j : Nat) (u : Value), news[j]? = some u → w.cell? (bb.add j) = some u ∧ ∃ y, ys[j]? = some y ∧ isOne y = true ∧ Ev y u := by
    have hex : ∀ k, k ≤ ys.length → ∃ news : List Value, news.length = k ∧ ∀ (j : Nat) (u : Value), news[j]? = some u → w.cell? (bb.add j) = some u ∧ ∃ y, ys[j]? = some y ∧ isOne y = true ∧ Ev y u := by
      intro k
      induction k with
      | zero => intro _; exact ⟨[], rfl, fun j u h => by simp at h⟩
      | succ k ih =>
        intro hk
        obtain ⟨news, hln, hall⟩ := ih (by omega)
        have hy' : ys[k]? = some (ys[k]'(by omega)) := List.getElem?_eq_getElem (by omega)
        obtain ⟨b', hb', hsp', u, hu', hev⟩ := hcells k _ hy'
        cases hb'
        refine ⟨news ++ [u], by simp [hln], fun j v hj => ?_⟩
        rcases Nat.lt_or_ge j k with h | h
        · rw [List.getElem?_append_left (by omega)] at hj; exact hall j v hj
        · have hjk : j = k := by
            have := (List.getElem?_eq_some_iff.1 hj).1
            simp only [List.length_append, hln, List.length_cons, List.length_nil] at this
            omega
          subst hjk
          rw [List.getElem?_append_right (by omega), hln, Nat.sub_self] at hj
          cases hj
          exact ⟨by rw [addr_add bb hsp]; exact hu', _, hy', List.all_eq_true.1 h1 _ (List.getElem_mem _), hev⟩
    exact hex _ (Nat.le_refl _)
  obtain ⟨news, hln, hnw⟩ := hnews
  have hcs : en.xs.length ≤ cur.size := by
    rcases Nat.lt_or_ge cur.size en.xs.length with h | h
    · obtain ⟨u, hu', _⟩ := hcx cur.size _ (List.getElem?_eq_getElem h)
      rw [Array.getElem?_eq_none (Nat.le_refl _)] at hu'
      cases hu'
    · exact h
  have htk : ∀ (j : Nat) (u : Value), (news.take K)[j]? = some u → j < K ∧ news[j]? = some u := fun j u hj => by
    rw [List.getElem?_take] at hj
    split at hj
    · rename_i h; exact ⟨h, hj⟩
    · cases hj
  have hlK : (news.take K).length = K := by rw [List.length_take, hln]; omega
  have hone : ∀ u ∈ news.take K, u.oneCell' = true := fun u hu => by
    obtain ⟨j, hj⟩ := List.mem_iff_getElem?.1 hu
    obtain ⟨_, y, _, hy1, hev⟩ := hnw j u (htk j u hj).2
    exact (oneAV_spec hy1 (hev w)).2.1
  have hrun := run_copy_row (P := P) w t t ty el en.g off m cap bb n c cur en.T (news.take K) hu.h (by rw [hi1]; simp only [Option.map_some, hs1]) hcur (by rw [hlK, hK, hl]) (fun j v hj => (hnw j v (htk j v hj).2).1) (by rw [hlK]; omega) hone
  have hmod : Mod w (w.setRow en.g (cur.toList.take off ++ news.take K ++ cur.toList.drop (off + (news.take K).length)).toArray) [en.g] :=
    ⟨rfl, rfl, rfl, by simp [World.setRow], fun k hk hn => setRow_other w en.g k _ (by simpa using hn)⟩
  have ho' : OwnE (w.setRow en.g (cur.toList.take off ++ news.take K ++ cur.toList.drop (off + (news.take K).length)).toArray) { en with xs := en.xs.take off ++ (ys.take K ++ en.xs.drop (off + K)) } := by
    refine ⟨_, setRow_heap w en.g _ _ _ _ hcur, ?_, fun j x hj => ?_⟩
    · simp only [hlK, List.size_toArray, List.length_append, List.length_take, List.length_drop, Array.length_toList] at *
      omega
    · have hlt : (cur.toList.take off).length = off := by simp; omega
      have hlx : (en.xs.take off).length = off := by simp; omega
      rw [hlK]
      simp only [List.append_assoc, List.getElem?_toArray]
      rcases Nat.lt_or_ge j off with h | h
      · rw [List.getElem?_append_left (by omega), List.getElem?_take, if_pos h] at hj
        obtain ⟨u, hu', hev⟩ := hcx j x hj
        exact ⟨u, by rw [List.getElem?_append_left (by omega), List.getElem?_take, if_pos h]; simpa using hu', hev⟩
      · rw [List.getElem?_append_right (by omega), hlx] at hj
        rw [List.getElem?_append_right (by omega), hlt]
        have hly : (ys.take K).length = K := by rw [List.length_take]; omega
        rcases Nat.lt_or_ge (j - off) K with h' | h'
        · rw [List.getElem?_append_left (by omega), List.getElem?_take, if_pos h'] at hj
          have hnj : news[j - off]? = some (news[j - off]'(by omega)) := List.getElem?_eq_getElem (by omega)
          obtain ⟨_, y', hy', _, hev⟩ := hnw _ _ hnj
          rw [hj] at hy'
          cases hy'
          exact ⟨_, by rw [List.getElem?_append_left (by omega), List.getElem?_take, if_pos h']; exact hnj, hev⟩
        · rw [List.getElem?_append_right (by omega), hly, List.getElem?_drop] at hj
          obtain ⟨u, hu', hev⟩ := hcx _ x hj
          exact ⟨u, by rw [List.getElem?_append_right (by omega), hlK, List.getElem?_drop]; simpa using hu', hev⟩
  have hex : (execOp a.eval ⟨some d, .call { callee := .builtin .copy, args := #[A, B], argTypes := #[t, t] }, ty, pos, after, none⟩).run P w = .ok (.value (goInt (news.take K).length)) (w.setRow en.g (cur.toList.take off ++ news.take K ++ cur.toList.drop (off + (news.take K).length)).toArray) := by
    simp only [execOp, resolve, invoke, builtin, Sem.run_bind, Sem.run_pure, Result.andThen_ok, List.map_toArray, List.map_cons, List.map_nil, hA', hB', hrun]
  rw [hlK] at hex
  refine ⟨_, hex, ?_⟩
  rw [hlK] at hmod ho'
  exact hS.updAt hH hmod (.inl rfl) ho'
theorem rs_copy (k K : Nat) {d : Tmp} {A B : Operand} {off m cap : Nat} {en : Ent} {ys : List AV} {z : Value} {b : Nat} [hu : TyU P t (.slice el)] [hi : TyI P el z 1 b] (hd : Nat.blt d N = true)
    (hA : e.ev A = some (.raw (.slice (some ⟨en.g, off, none⟩) m cap))) (hB : ∃ y, e.ev B = some y ∧ ∀ w v, StR R w0 gs H w → Rel w y v → Rd w 1 v ys) (hH : H[k]? = some en)
    (h0 : 1 ≤ ys.length) (h1 : ys.all isOne = true) (hK : K = min ys.length m) (hfit : off + K ≤ en.xs.length)
    (hk : RS P N ops l ((d, .raw (.int .i64 (K : Int))) :: e.keep) (StR R w0 gs (H.set k { en with xs := en.xs.take off ++ (ys.take K ++ en.xs.drop (off + K)) })) Q) :
    RS P N ops (⟨some d, .call { callee := .builtin .copy, args := #[A, B], argTypes := #[t, t] }, ty, pos, after, none⟩ :: l) e (StR R w0 gs H) Q := by
  intro a w hS hF
  refine wpList_plain rfl fun K' hK' => ?_
  obtain ⟨y, hy, hrd⟩ := hB
  obtain ⟨w', hex, hS'⟩ := run_copyE (P := P) (ty := ty) (pos := pos) (after := after) (d := d) (hu := hu) (hi := hi) k K hS (hF.eval hA).inv_raw (hrd w _ hS (hF.eval hy)) hH h0 h1 hK hfit
  unfold Oper.wp
  rw [hex]
  exact hK' _ _ (hk _ _ hS' (Fr.put (some d) hF.keep (fun _ h => by cases h; exact Nat.le_of_ble_eq_true hd) .raw))
theorem effv_copy (k K : Nat) {d : Tmp} {A B : Operand} {off m cap : Nat} {en : Ent} {ys : List AV} {z : Value} {b : Nat} [hu : TyU P t (.slice el)] [hi : TyI P el z 1 b]
    (hA : e.ev A = some (.raw (.slice (some ⟨en.g, off, none⟩) m cap))) (hB : ∃ y, e.ev B = some y ∧ ∀ w v, StR R w0 gs H w → Rel w y v → Rd w 1 v ys) (hH : H[k]? = some en)
    (h0 : 1 ≤ ys.length) (h1 : ys.all isOne = true) (hK : K = min ys.length m) (hfit : off + K ≤ en.xs.length) :
    EffV P (StR R w0 gs H) (StR R w0 gs (H.set k { en with xs := en.xs.take off ++ (ys.take K ++ en.xs.drop (off + K)) })) (.int .i64 (K : Int)) e ⟨some d, .call { callee := .builtin .copy, args := #[A, B], argTypes := #[t, t] }, ty, pos, after, none⟩ := by
  intro a w K' Q' hS ho hK'
  obtain ⟨y, hy, hrd⟩ := hB
  obtain ⟨w', hex, hS'⟩ := run_copyE (P := P) (ty := ty) (pos := pos) (after := after) (d := d) (hu := hu) (hi := hi) k K hS (ho A (by simp [Op.operands, Call.operands]) _ hA).inv_raw (hrd w _ hS (ho B (by simp [Op.operands, Call.operands]) _ hy)) hH h0 h1 hK hfit
  unfold Oper.wp
  rw [hex]
  exact hK' _ hS'
omit [RStab R] in
/-- A list of the call's own may be read. -/
theorem rd_own {n m g c cap : Nat} {f : Int → FV} {T : TypeId} {w : World} {v : Value} (hS : StR R w0 gs H w) (hr : Rel w (.raw (.slice (some ⟨g, 0, none⟩) m cap)) v) (hm : (entF g T n f c : Ent) ∈ H) (hn : m ≤ n) (hc : m ≤ cap ∧ cap ≤ maxLen) : Rd w 1 v ((tab m f).map (AV.f .f32)) := by
  have hv := hr.inv_raw
  subst hv
  refine ⟨_, m, cap, rfl, by simp, hc.1, hc.2, fun i x hi => ⟨_, rfl, rfl, ?_⟩⟩
  have hlt : i < m := by
    have := (List.getElem?_eq_some_iff.1 hi).1
    simpa using this
  have hx : (entF g T n f c).xs[i]? = some x := by
    simp only [entF, List.getElem?_map] at hi ⊢
    rw [tab_get f (by omega)]
    rw [tab_get f hlt] at hi
    exact hi
  obtain ⟨u, hu, hev⟩ := (hS.own _ hm).2.cell hx
  exact ⟨u, by simpa [entF] using hu, hev⟩
omit [RStab R] in
theorem tab_copy {g n c off K j : Nat} {f h f' : Int → FV} {T : TypeId} (hj : K ≤ j) (hfit : off + K ≤ n) (hf' : ∀ s : Nat, s < n → f' s = if off ≤ s ∧ s < off + K then h ((s - off : Nat) : Int) else f s) :
    ({ entF g T n f c with xs := (entF g T n f c).xs.take off ++ (((tab j h).map (AV.f .f32)).take K ++ (entF g T n f c).xs.drop (off + K)) } : Ent) = entF g T n f' c := by
  unfold entF
  simp only [← List.map_take, ← List.map_drop, ← List.map_append]
  congr 2
  refine tab_ext (by simp only [List.length_append, List.length_take, List.length_drop, tab_length]; omega) fun i hi => ?_
  have l1 : ((tab n f).take off).length = off := by rw [List.length_take, tab_length]; omega
  have l2 : ((tab j h).take K).length = K := by rw [List.length_take, tab_length]; omega
  rw [hf' i hi]
  rcases Nat.lt_or_ge i off with ho | ho
  · rw [List.getElem?_append_left (by omega), List.getElem?_take, if_pos ho, tab_get f hi, if_neg (by omega)]
  · rw [List.getElem?_append_right (by omega), l1]
    rcases Nat.lt_or_ge (i - off) K with h1 | h1
    · rw [List.getElem?_append_left (by omega), List.getElem?_take, if_pos h1, tab_get h (by omega), if_pos (by omega)]
    · rw [List.getElem?_append_right (by omega), l2, List.getElem?_drop, if_neg (by omega), show off + K + (i - off - K) = i by omega, tab_get f hi]
/-- 'copy' into a table of the call's own. -/
theorem rs_copyT (k K : Nat) (f' : Int → FV) {d : Tmp} {A B : Operand} {off m cap g n c j : Nat} {f h : Int → FV} {T : TypeId} {z : Value} {b : Nat} [hu : TyU P t (.slice el)] [hi : TyI P el z 1 b] (hd : Nat.blt d N = true)
    (hA : e.ev A = some (.raw (.slice (some ⟨g, off, none⟩) m cap))) (hB : ∃ y, e.ev B = some y ∧ ∀ w v, StR R w0 gs H w → Rel w y v → Rd w 1 v ((tab j h).map (AV.f .f32))) (hH : H[k]? = some (entF g T n f c))
    (h0 : 1 ≤ j) (hK : K = min j m) (hfit : off + K ≤ n) (hf' : ∀ s : Nat, s < n → f' s = if off ≤ s ∧ s < off + K then h ((s - off : Nat) : Int) else f s)
    (hk : RS P N ops l ((d, .raw (.int .i64 (K : Int))) :: e.keep) (StR R w0 gs (H.set k (entF g T n f' c))) Q) :
    RS P N ops (⟨some d, .call { callee := .builtin .copy, args := #[A, B], argTypes := #[t, t] }, ty, pos, after, none⟩ :: l) e (StR R w0 gs H) Q := by
  refine rs_copy k K (en := entF g T n f c) hd hA hB hH (by simpa using h0) ?_ (by simpa using hK) (by simpa [entF] using hfit) ?_
  · exact List.all_eq_true.2 fun x hx => by
      obtain ⟨y, _, rfl⟩ := List.mem_map.1 hx
      rfl
  · rw [tab_copy (by omega) hfit hf']
    exact hk
theorem effv_copyT (k K : Nat) (f' : Int → FV) {d : Tmp} {A B : Operand} {off m cap g n c j : Nat} {f h : Int → FV} {T : TypeId} {z : Value} {b : Nat} [hu : TyU P t (.slice el)] [hi : TyI P el z 1 b]
    (hA : e.ev A = some (.raw (.slice (some ⟨g, off, none⟩) m cap))) (hB : ∃ y, e.ev B = some y ∧ ∀ w v, StR R w0 gs H w → Rel w y v → Rd w 1 v ((tab j h).map (AV.f .f32))) (hH : H[k]? = some (entF g T n f c))
    (h0 : 1 ≤ j) (hK : K = min j m) (hfit : off + K ≤ n) (hf' : ∀ s : Nat, s < n → f' s = if off ≤ s ∧ s < off + K then h ((s - off : Nat) : Int) else f s) :
    EffV P (StR R w0 gs H) (StR R w0 gs (H.set k (entF g T n f' c))) (.int .i64 (K : Int)) e ⟨some d, .call { callee := .builtin .copy, args := #[A, B], argTypes := #[t, t] }, ty, pos, after, none⟩ := by
  rw [← tab_copy (f := f) (h := h) (j := j) (by omega) hfit hf']
  refine effv_copy k K (en := entF g T n f c) hA hB hH (by simpa using h0) ?_ (by simpa using hK) (by simpa [entF] using hfit)
  exact List.all_eq_true.2 fun x hx => by
    obtain ⟨y, _, rfl⟩ := List.mem_map.1 hx
    rfl
theorem opj_smallU {src dt : TypeId} {X : Operand} {k0 k : IntKind} {n : Int} [hs : TyU P src (.int k0)] [hd : TyU P dt (.int .u64)] (hx : e.ev X = some (.raw (.int k n))) (hn : 0 ≤ n ∧ n ≤ 18446744073709551615) : OpJ P S e ⟨dst, .convert src dt X, ty, pos, after, guard⟩ (.raw (.int .u64 n)) := by
  have h := opj_iint (P := P) (S := S) (e := e) (dst := dst) (ty := ty) (pos := pos) (after := after) (guard := guard) (k0 := k0) (k := k) (k' := .u64) (hs := hs) (hd := hd) hx
  rwa [IntWalk.u64_in _ hn] at h
theorem opj_mulU {t' : TypeId} {X Y : Operand} {x y : Int} (hx : e.ev X = some (.raw (.int .u64 x))) (hy : e.ev Y = some (.raw (.int .u64 y))) (hn : 0 ≤ x * y ∧ x * y ≤ 18446744073709551615) :
    OpJ P S e ⟨dst, .binOp .mul t X Y t', ty, pos, after, guard⟩ (.raw (.int .u64 (x * y))) := by
  have h := opj_mulW (P := P) (S := S) (e := e) (dst := dst) (ty := ty) (pos := pos) (after := after) (guard := guard) (t := t) (t' := t') hx hy
  rwa [IntWalk.u64_in _ hn] at h
theorem opj_addU {t' : TypeId} {X Y : Operand} {x y : Int} (hx : e.ev X = some (.raw (.int .u64 x))) (hy : e.ev Y = some (.raw (.int .u64 y))) (hn : 0 ≤ x + y ∧ x + y ≤ 18446744073709551615) :
    OpJ P S e ⟨dst, .binOp .add t X Y t', ty, pos, after, guard⟩ (.raw (.int .u64 (x + y))) := by
  have h := opj_addW (P := P) (S := S) (e := e) (dst := dst) (ty := ty) (pos := pos) (after := after) (guard := guard) (t := t) (t' := t') hx hy
  rwa [IntWalk.u64_in _ hn] at h
theorem opj_shr32 {t' : TypeId} {X Y : Operand} {x : Int} (hx : e.ev X = some (.raw (.int .u64 x))) (hy : e.ev Y = some (.raw (.int .u64 32))) (hn : 0 ≤ x ∧ x ≤ 4294967295) :
    OpJ P S e ⟨dst, .binOp .shr t X Y t', ty, pos, after, guard⟩ (.raw (.int .u64 0)) := by
  have h := opj_shrW (P := P) (S := S) (e := e) (dst := dst) (ty := ty) (pos := pos) (after := after) (guard := guard) (t := t) (t' := t') (by omega) hx hy
  have e1 : x.fdiv (2 ^ min (32 : Int).toNat 64) = 0 := by
    rw [show (2 : Int) ^ min (32 : Int).toNat 64 = 4294967296 from by decide +kernel, Int.fdiv_eq_ediv_of_nonneg _ (by omega)]
    omega
  rwa [e1] at h
theorem opj_and32 {t' : TypeId} {X Y : Operand} {x : Int} (hx : e.ev X = some (.raw (.int .u64 x))) (hy : e.ev Y = some (.raw (.int .u64 4294967295))) (hn : 0 ≤ x ∧ x ≤ 4294967295) :
    OpJ P S e ⟨dst, .binOp .and t X Y t', ty, pos, after, guard⟩ (.raw (.int .u64 x)) := by
  have h := opj_andW (P := P) (S := S) (e := e) (dst := dst) (ty := ty) (pos := pos) (after := after) (guard := guard) (t := t) (t' := t') hx hy
  have e1 : andW x 4294967295 = x := by
    unfold andW
    have e2 : (BitVec.ofInt 64 4294967295).toNat = 2 ^ 32 - 1 := by decide
    have e3 : (BitVec.ofInt 64 x).toNat = x.toNat := by
      rw [BitVec.toNat_ofInt]
      have : x % ((2 ^ 64 : Nat) : Int) = x := Int.emod_eq_of_lt hn.1 (by have : ((2 ^ 64 : Nat) : Int) = 18446744073709551616 := by decide +kernel
                                                                          omega)
      rw [this]
    rw [BitVec.toNat_and, e2, Nat.and_two_pow_sub_one_eq_mod, e3, Nat.mod_eq_of_lt (by have : (2 : Nat) ^ 32 = 4294967296 := by decide +kernel
                                                                                       omega), Int.toNat_of_nonneg hn.1]
    exact IntWalk.u64_in _ (by omega)
  rwa [e1] at h
end
attribute [local irreducible] WS RS Done OpJ Then InBlock Round Ret Env.sub FnH
attribute [local irreducible] tab tabC
abbrev uA (n : Int) : AV := .raw (.int .u64 n)
theorem mul64_fn (n : Int) (hn : 0 ≤ n ∧ n ≤ 4294967295) : Fn Try.prog 92 (fun _ => [uA 1, uA n]) (.tup [uA 0, uA n]) := by
  refine fn_intro Try.func92 rfl Try.ntmps92 (fun _ => Nat.le_of_ble_eq_true rfl) fun w0 => ?_
  repeat first | refine zaa rfl (zay rfl) ?_ | refine zaa rfl (zaz rfl) ?_ | (refine zac ?_; first | refine zaa rfl (opj_and32 rfl rfl (by omega)) ?_ | refine zaa rfl (opj_shr32 rfl rfl (by omega)) ?_ | refine zaa rfl (opj_mulU rfl rfl (by omega)) ?_ | refine zaa rfl (opj_addU rfl rfl (by omega)) ?_) | refine zah ?_ | (refine zcr ?_; refine zcs ?_) | (refine zdb ?_; first | refine zdc ?_ | refine zdd ?_ | refine zdg ?_)
  exact done_ret2 rfl () (by simp) rfl rfl trivial (List.nil_sublist _)
theorem mul_fn (n : Int) (hn : 0 ≤ n ∧ n ≤ 4294967295) : Fn Try.prog 90 (fun _ => [uA 1, uA n]) (.tup [uA 0, uA n]) := by
  have hM := mul64_fn n hn
  refine fn_intro Try.func90 rfl Try.ntmps90 (fun _ => Nat.le_of_ble_eq_true rfl) fun w0 => ?_
  repeat first | refine zaa rfl (zay rfl) ?_ | refine zaa rfl (zaz rfl) ?_ | (refine zad ?_; (refine zaa rfl (zci rfl rfl (hM) ?_) ?_; (focus ((repeat (first | exact Takes.nil | refine Takes.sl ?_ | refine Takes.lit ?_ | refine Takes.fa ?_ | refine Takes.fc ?_ | refine Takes.net ?_ | (refine Takes.ownE ?_ ?_ ?_ ?_ ?_; (focus (exact ⟨_, _, (by (repeat (first | exact mh | refine mt ?_)); done)⟩)); (focus (simp; done)); (focus omega); (focus (simp only [maxLen]; omega))) | refine Takes.same ?_)); done)))) | refine zaa rfl (zbz rfl rfl) ?_ | refine zah ?_ | (refine zcr ?_; refine zcs ?_) | (refine zdb ?_; first | refine zdc ?_ | refine zdd ?_ | refine zdf ?_ | refine zdg ?_ | refine zdj rfl ?_)
  exact done_ret2 rfl () rfl rfl rfl trivial (List.nil_sublist _)
section
variable {P : Program} {N : Nat} {S : World → Prop} {e : Env} {Q : Exit → Env → World → Prop} {ops : Array Oper} {l : List Oper}
variable {w0 : World} {gs : List Nat} {H : List Ent} {dst : Option Tmp} {ty : TypeId} {pos : String} {after : Array Edge} {guard : Option (Nat × Bool)} {t el : TypeId}
theorem rs_makeT1 {d : Tmp} {A B : Operand} {n : Nat} {z : Value} {b : Nat} [hu : TyU P t (.slice el)] [hi : TyI P el z 1 b]
    (hA : e.ev A = some (.raw (.int .i64 (n : Int)))) (hB : e.ev B = some (.raw (.int .i64 (n : Int)))) (hd : Nat.blt d N = true) (hz : cv1 z = .f .f32 (fv .f32 0)) (hzo : okv1 z = true) (hzc : z.cells = #[z])
    (hb : b * n ≤ 281474976710656) (hm : n ≤ maxLen)
    (hk : ∀ g, RS P N ops l ((d, .raw (.slice (some ⟨g, 0, none⟩) n n)) :: e) (StR R w0 gs (entF g el n (fun _ => fv .f32 0) n :: H)) Q) :
    RS P N ops (⟨some d, .makeSlice t A B, ty, pos, after, none⟩ :: l) e (StR R w0 gs H) Q := by
  refine rs_make (m := AV.f .f32) (zx := fv .f32 0) hA hB hd hz hzo hzc hb hm fun g => ?_
  rw [tab_rep]
  exact hk g
end
abbrev one1 : FV := fv .f32 1065353216
def onesK (m : Nat) (s : Int) : FV := if s < m then one1 else fv .f32 0
theorem rep_fn (n : Nat) (hn : 1 ≤ n ∧ n ≤ 1000) : FnH (X := Nat) Try.prog 88 (fun w => [AV.sl w 1 ((tab 1 fun _ => one1).map (AV.f .f32)), .raw (.int .i64 n)]) []
    (fun g => .raw (.slice (some ⟨g, 0, none⟩) n n)) (fun g => [entF g 30 n (fun _ => one1) n]) (fun _ => True) := by
  have hM := mul_fn n (by omega)
  have d1 : decide ((9223372036854775807 : Int) < n) = false := decide_eq_false (by omega)
  refine fn_intro Try.func88 rfl Try.ntmps88 (fun _ => Nat.le_of_ble_eq_true rfl) fun w0 => ?_
  repeat first | refine zai rfl rfl ?_ | refine zaa rfl (zay rfl) ?_ | refine zaa rfl (zaz rfl) ?_ | (refine zac ?_; first | refine zaa rfl (zbe rfl rfl) ?_ | refine zaa rfl (zbg rfl rfl) ?_) | (refine zad ?_; first | refine zaa rfl (zbo rfl) ?_ | (refine zaa rfl (zci rfl rfl (hM) ?_) ?_; (focus ((repeat (first | exact Takes.nil | refine Takes.sl ?_ | refine Takes.lit ?_ | refine Takes.fa ?_ | refine Takes.fc ?_ | refine Takes.net ?_ | (refine Takes.ownE ?_ ?_ ?_ ?_ ?_; (focus (exact ⟨_, _, (by (repeat (first | exact mh | refine mt ?_)); done)⟩)); (focus (simp; done)); (focus omega); (focus (simp only [maxLen]; omega))) | refine Takes.same ?_)); done)))) | refine zaa rfl (zbz rfl rfl) ?_ | refine zaa rfl (zcb rfl rfl) ?_ | refine zah ?_ | (refine zcr ?_; refine zcs ?_) | (refine zdb ?_; first | refine zdc ?_ | refine zdd ?_ | refine zdf ?_ | refine zdj rfl ?_) | refine zaa rfl (opj_smallU (k0 := .i64) rfl (by omega)) ?_
  rw [d1]
  repeat first | refine zaa rfl (zay rfl) ?_ | refine zaa rfl (zaz rfl) ?_ | refine zah ?_ | (refine zcr ?_; refine zcs ?_) | (refine zdb ?_; first | refine zdc ?_ | refine zdd ?_ | refine zdf ?_ | refine zdj rfl ?_) | refine zaa rfl (opj_small (k0 := .u64) rfl (by omega)) ?_ | (refine rs_makeT1 rfl rfl rfl rfl rfl rfl (by omega) (by simp only [maxLen]; omega) ?_; intro g)
  refine rs_copyT 0 1 (onesK 1) (off := 0) (h := fun _ => one1) (j := 1) rfl rfl ⟨_, rfl, fun w v hS h => h.inv_q.ext hS.mod.to_ext⟩ rfl (by omega) (by omega) (by omega) (fun s hs => ?_) ?_
  · unfold onesK
    by_cases h : s < 1
    · rw [if_pos (by omega), if_pos (by omega)]
    · rw [if_neg (by omega), if_neg (by omega)]
  repeat first | refine zaa rfl (zaz rfl) ?_ | refine zah ?_ | (refine zcr ?_; refine zcs ?_) | (refine zdb ?_; first | refine zdc ?_ | refine zde ?_)
  refine ws_loop (ι := Nat) (fun m => [(7, .raw (.slice (some ⟨g, 0, none⟩) n n)), (8, .raw (.int .i64 m))]) (fun m => St w0 [] [entF g 30 n (onesK m) n]) (fun m => 1 ≤ m ∧ m ≤ n) (fun m => n - m) 1 (by omega) ?_ (fun _ h => h) (fun m hm => ?_)
  · (repeat (first | exact Env.sub_nil _ | refine Env.sub_cons rfl ?_))
  repeat first | refine zaa rfl (zay rfl) ?_ | (refine zac ?_; refine zaa rfl (zbe rfl rfl) ?_) | (refine zad ?_; refine zaa rfl (zbn rfl) ?_) | refine zah ?_ | (refine zcr ?_; refine zcs ?_) | (refine zdb ?_; first | refine zdc ?_ | refine zdd ?_)
  refine ws_cond rfl (fun hd => ?_) (fun hd => ?_)
  · have hlt : (m : Int) < n := of_decide_eq_true hd
    clear hd
    repeat first | (refine zcr ?_; refine zcs ?_) | (refine zdb ?_; first | refine zde ?_ | refine zdf ?_)
    refine ws_drawV (n := 7) (d := 45) (.int .i64 ((min m (n - m) : Nat) : Int)) (W := St w0 [] []) (S1 := St w0 [] [entF g 30 n (onesK ((m + min m (n - m) : Nat))) n]) mixed (by decide +kernel) rfl rfl (fun _ h => h.weak (List.nil_sublist _)) (fun _ h => h.weak (List.nil_sublist _)) ?_
    repeat first | refine zap rfl (zay rfl) ?_ | refine zav ?_ | refine zap rfl (opj_cut_l rfl rfl (by omega) (Nat.le_refl _)) ?_ | refine zap rfl (opj_cut_h rfl rfl (by omega) (by omega)) ?_
    refine ⟨rfl, fun o ho => ?_, ?_⟩
    · cases ho
      refine effv_copyT 0 (min m (n - m)) (onesK ((m + min m (n - m) : Nat))) (off := (m : Int).toNat) (h := onesK m) (j := (m : Int).toNat) rfl ⟨_, rfl, fun w v hS h => rd_own hS h mh (by omega) ⟨by omega, by simp only [maxLen]; omega⟩⟩ rfl (by omega) (by omega) (by omega) (fun s hs => ?_)
      unfold onesK
      by_cases h : s < m
      · rw [if_pos (by omega), if_neg (by omega), if_pos (by omega)]
      · by_cases h' : s < m + min m (n - m)
        · rw [if_pos (by omega), if_pos (by omega), if_pos (by omega)]
        · rw [if_neg (by omega), if_neg (by omega), if_neg (by omega)]
    repeat first | refine zaa rfl (zaz rfl) ?_ | (refine zac ?_; refine zaa rfl (zbb rfl rfl (by omega)) ?_) | refine zah ?_ | (refine zcr ?_; refine zcv ?_)
    refine done_round (m + min m (n - m)) (by omega) (by omega) ?_ (fun _ h => h)
    have hnext : ((m + min m (n - m) : Nat) : Int) = (m : Int) + (min m (n - m) : Nat) := by omega
    rw [hnext]
    (repeat (first | exact Env.sub_nil _ | refine Env.sub_cons rfl ?_))
  · have hge : ¬ (m : Int) < n := of_decide_eq_false hd
    have hmn : m = n := by omega
    subst hmn
    repeat first | refine zaa rfl (zay rfl) ?_ | refine zaa rfl (zaz rfl) ?_ | refine zah ?_ | (refine zcr ?_; first | refine zcs ?_ | refine zcu ?_ | refine zcx ?_ | refine zda ?_) | (refine zdb ?_; first | refine zdc ?_ | refine zdd ?_ | refine zdg ?_ | refine zdh ?_)
    refine done_ret1 rfl g rfl trivial ?_
    have : entF g 30 m (onesK m) m = entF g 30 m (fun _ => one1) m := by
      unfold entF
      rw [tab_congr (g := fun _ => one1) fun i h0 h1 => by unfold onesK; rw [if_pos h1]]
    rw [this]
    exact List.Sublist.refl _
theorem ones_fn (n : Nat) (hn : 1 ≤ n ∧ n ≤ 1000) : FnH (X := Nat) Try.prog 81 (fun _ => [.raw (.int .i64 n)]) []
    (fun g => .raw (.slice (some ⟨g, 0, none⟩) n n)) (fun g => [entF g 30 n (fun _ => one1) n]) (fun _ => True) := by
  have e1 : (tab 1 fun _ => one1).map (AV.f .f32) = [.f .f32 one1] := by unfold tab; rfl
  have hR := rep_fn n hn
  rw [e1] at hR
  refine fn_intro Try.func81 rfl Try.ntmps81 (fun _ => Nat.le_of_ble_eq_true rfl) fun w0 => ?_
  repeat first | refine zaa rfl (zay rfl) ?_ | refine zaa rfl (zaz rfl) ?_ | (refine zad ?_; (refine rs_call1 (hR) rfl rfl ?_ rfl ?_; (focus ((repeat (first | exact Takes.nil | refine Takes.sl ?_ | refine Takes.lit ?_ | refine Takes.fa ?_ | refine Takes.fc ?_ | refine Takes.net ?_ | (refine Takes.ownE ?_ ?_ ?_ ?_ ?_; (focus (exact ⟨_, _, (by (repeat (first | exact mh | refine mt ?_)); done)⟩)); (focus (simp; done)); (focus omega); (focus (simp only [maxLen]; omega))) | refine Takes.same ?_)); done)); intro g _)) | refine zah ?_ | (refine zcr ?_; refine zcs ?_) | (refine zdb ?_; first | refine zdc ?_ | refine zdd ?_ | refine zdg ?_) | refine zaa rfl (zco rfl rfl rfl rfl rfl rfl) ?_
  exact done_ret1 rfl g rfl trivial (List.Sublist.refl _)
end Go.Ab
namespace Go.Ab
open Go.Proofs
variable {R : World → Prop} [RStab R]
/-- A curve that came in. -/
abbrev crvA (w : World) (n : Nat) (P : Nat → CV) (f : Int → FV) : AV := .agg [slC w (tabC n P), AV.sl w 1 ((tab n f).map (AV.f .f32))]
section
variable {w0 : World} {gs : List Nat} {H : List Ent} {n : Nat} {P : Nat → CV} {f : Int → FV} {args : List AV} {A : World → List AV}
theorem Takes.crv {R0 : World → Prop} (h : Takes (StR R0 w0 [] H) args A) : Takes (StR R0 w0 [] H) (crvA w0 n P f :: args) (fun w => crvA w n P f :: A w) := fun w vs hS hr => by
  obtain ⟨v, r, rfl, hv, hrr⟩ := hr.inv_cons
  obtain ⟨us, rfl, hu⟩ := hv.inv_agg
  obtain ⟨a, r1, rfl, ha, hu⟩ := hu.inv_cons
  obtain ⟨b, r2, rfl, hb, hu⟩ := hu.inv_cons
  obtain rfl := hu.inv_nil
  exact .cons (.agg (.cons (.q (hS.rd ha.inv_q)) (.cons (.q (hS.rd hb.inv_q)) .nil))) (h w r hS hrr)
theorem rd_ownC {m g c cap : Nat} {w : World} {v : Value} {R0 : World → Prop} (hS : StR R0 w0 gs H w) (hr : Rel w (.raw (.slice (some ⟨g, 0, none⟩) m cap)) v) (hm : (entC g n P c : Ent) ∈ H) (hn : m ≤ n) (hc : m ≤ cap ∧ cap ≤ maxLen) : Rd w 1 v ((tabC m P).map cA) := by
  have hv := hr.inv_raw
  subst hv
  refine ⟨_, m, cap, rfl, by simp, hc.1, hc.2, fun i x hi => ⟨_, rfl, rfl, ?_⟩⟩
  have hlt : i < m := by
    have := (List.getElem?_eq_some_iff.1 hi).1
    simpa using this
  have hx : (entC g n P c).xs[i]? = some x := by
    simp only [entC, List.getElem?_map] at hi ⊢
    rw [tabC_get P (by omega)]
    rw [tabC_get P hlt] at hi
    exact hi
  obtain ⟨u, hu, hev⟩ := (hS.own _ hm).2.cell hx
  exact ⟨u, by simpa [entC] using hu, hev⟩
end
section
variable {P : Program} {N : Nat} {S : World → Prop} {e : Env} {Q : Exit → Env → World → Prop}
variable {w0 : World} {gs : List Nat} {H : List Ent} {t : TypeId}
/-- A struct that lies in a block of its own, and one more value, are what is returned. -/
theorem done_retCX {R0 : World → Prop} {X : Type} {mk : X → AV} {post : X → List Ent} {good : X → Prop} {fn : Func} {p u : Tmp} {d : TypeDesc} {z : Value} {sz b g c : Nat} {T : TypeId} {xs ys : List AV} {x2 : AV} [hd : TyU P t d] [hi : TyI P t z sz b] (ha : aggD d = true) (hr : fn.results = #[.cell p t, .tmp u]) (y : X)
    (hp : e.look p = some (.raw (.pointer (some ⟨g, 0, none⟩)))) (h2 : e.look u = some x2) (hm : (⟨g, T, xs, c⟩ : Ent) ∈ H) (hl : Nat.beq xs.length sz = true) (hmk : mk y = .tup [.agg ys, x2]) (hxy : ys = xs) (hy : good y) (hs : (post y).Sublist H) :
    Done .ret e (StR R0 w0 gs H) (Ret P fn N w0 gs mk post good) := fun w hw =>
  ⟨.inl rfl, y, hy, hw.mod, fun x hx => ⟨(hw.own x (hs.subset hx)).2, (hw.own x (hs.subset hx)).1⟩, (hw.weak hs).nodup, fun a hF => by
    subst hxy
    obtain ⟨v, hv, hrv⟩ := hF.rel p _ hp
    have := hrv.inv_raw
    subst this
    obtain ⟨v2, hv2, hrv2⟩ := hF.rel u _ h2
    obtain ⟨cs, hrun, hrel⟩ := run_loadA (P := P) (t := t) (w := w) ha (bb := ⟨g, 0, none⟩) rfl (xs := ys) (Nat.eq_of_beq_eq_true hl) (fun j x hj => (hw.own _ hm).2.cell (by simpa using hj))
    refine ⟨.tuple #[.agg cs.toArray, v2], ?_, by rw [hmk]; exact .tup (vs := [_, _]) (.cons (.agg hrel) (.cons hrv2 .nil))⟩
    simp [results, hr, hv, hv2, asAddr, hrun]⟩
end
attribute [local irreducible] WS RS Done OpJ Then InBlock Round Ret Env.sub FnH
attribute [local irreducible] tab tabC
theorem degree_fn (n : Nat) (P : Nat → CV) (f : Int → FV) (hn : n ≤ 1000) : Fn Try.prog 39 (fun w => [crvA w n P f]) (.raw (.int .i64 ((n : Int) - 1))) := by
  refine fn_intro Try.func39 rfl Try.ntmps39 (fun _ => Nat.le_of_ble_eq_true rfl) fun w0 => ?_
  repeat first | refine zaa rfl (zaz rfl) ?_ | (refine zac ?_; refine zaa rfl (zbc rfl rfl (by omega)) ?_) | (refine zad ?_; refine zaa rfl (opj_lenC rfl) ?_) | (refine zae ?_; refine zaa rfl (zcf rfl rfl (by (repeat (first | exact mh | refine mt ?_)); done) rfl) ?_) | refine zaa rfl (zcd rfl) ?_ | refine zah ?_ | (refine zcr ?_; refine zcs ?_) | (refine zdb ?_; first | refine zdc ?_ | refine zdd ?_ | refine zdg ?_) | (refine zak rfl rfl rfl ?_; intro g)
  exact done_ret1 rfl () rfl trivial (List.nil_sublist _)
theorem isDegree_yes (n : Int) (hn : 1 ≤ n ∧ n ≤ 7) : Fn Try.prog 75 (fun _ => [.raw (.int .i64 n)]) (.raw (.bool true)) := by
  refine fn_intro Try.func75 rfl Try.ntmps75 (fun _ => Nat.le_of_ble_eq_true rfl) fun w0 => ?_
  repeat' first | refine zai rfl rfl ?_ | refine zaj rfl rfl rfl rfl ?_ | refine zaa rfl (zay rfl) ?_ | refine zaa rfl (zaz rfl) ?_ | (refine zac ?_; first | (refine zab rfl (zbf rfl rfl) ?_; intro c hc) | (refine zab rfl (zbh rfl rfl) ?_; intro c hc)) | refine zaa rfl (zca rfl rfl) ?_ | refine zaa rfl (zcb rfl rfl) ?_ | refine zah ?_ | (refine zcr ?_; refine zcs ?_) | (refine zdb ?_; first | refine zdc ?_ | refine zdd ?_ | refine zdg ?_) | cases c
  all_goals exact done_ret1B rfl () rfl rfl (by simp_all <;> omega) trivial (List.nil_sublist _)
theorem validCurve_yes {n : Nat} {P : Nat → CV} {f : Int → FV} (hn : 2 ≤ n ∧ n ≤ 8) (hP : (tabC n P).all finC = true) (hf : (tab n f).all aboveB = true) : Fn Try.prog 57 (fun w => [crvA w n P f]) (.raw (.bool true)) := by
  have hD := degree_fn n P f (by omega)
  have hI := isDegree_yes ((n : Int) - 1) (by omega)
  have hA := arePoints_fn (tabC n P) (by simp; omega)
  rw [hP] at hA
  have hM := areMore_fn (tab n f) (by simp; omega)
  rw [hf] at hM
  refine fn_intro Try.func57 rfl Try.ntmps57 (fun _ => Nat.le_of_ble_eq_true rfl) fun w0 => ?_
  repeat first | refine zai rfl rfl ?_ | refine zaa rfl (zay rfl) ?_ | refine zaa rfl (zaz rfl) ?_ | (refine zac ?_; refine zaa rfl (zbi rfl rfl) ?_) | (refine zad ?_; first | refine zaa rfl (opj_lenC rfl) ?_ | refine zaa rfl (zbo rfl) ?_ | (refine zaa rfl (zci rfl rfl (hI) ?_) ?_; (focus ((repeat (first | exact Takes.nil | refine Takes.sl ?_ | refine Takes.lit ?_ | refine Takes.fa ?_ | refine Takes.fc ?_ | refine Takes.net ?_ | (refine Takes.ownE ?_ ?_ ?_ ?_ ?_; (focus (exact ⟨_, _, (by (repeat (first | exact mh | refine mt ?_)); done)⟩)); (focus (simp; done)); (focus omega); (focus (simp only [maxLen]; omega))) | refine Takes.same ?_)); done)))) | (refine zae ?_; first | refine zaa rfl (zcf rfl rfl (by (repeat (first | exact mh | refine mt ?_)); done) rfl) ?_ | refine zaa rfl (zcg rfl rfl (by (repeat (first | exact mh | refine mt ?_)); done) rfl rfl) ?_) | refine zaa rfl (zcd rfl) ?_ | refine zaa rfl (zca rfl rfl) ?_ | refine zah ?_ | (refine zcr ?_; refine zcs ?_) | (refine zdb ?_; first | refine zdc ?_ | refine zdd ?_) | (refine zak rfl rfl rfl ?_; intro g) | refine zaa rfl (zci rfl rfl hD (Takes.crv Takes.nil)) ?_
  rw [show decide ((n : Int) = n) = true from decide_eq_true rfl]
  repeat first | refine zai rfl rfl ?_ | refine zaa rfl (zay rfl) ?_ | refine zaa rfl (zaz rfl) ?_ | (refine zad ?_; first | (refine zaa rfl (zci rfl rfl (hA) ?_) ?_; (focus ((repeat (first | exact Takes.nil | refine Takes.sl ?_ | refine Takes.lit ?_ | refine Takes.fa ?_ | refine Takes.fc ?_ | refine Takes.net ?_ | (refine Takes.ownE ?_ ?_ ?_ ?_ ?_; (focus (exact ⟨_, _, (by (repeat (first | exact mh | refine mt ?_)); done)⟩)); (focus (simp; done)); (focus omega); (focus (simp only [maxLen]; omega))) | refine Takes.same ?_)); done))) | (refine zaa rfl (zci rfl rfl (hM) ?_) ?_; (focus ((repeat (first | exact Takes.nil | refine Takes.sl ?_ | refine Takes.lit ?_ | refine Takes.fa ?_ | refine Takes.fc ?_ | refine Takes.net ?_ | (refine Takes.ownE ?_ ?_ ?_ ?_ ?_; (focus (exact ⟨_, _, (by (repeat (first | exact mh | refine mt ?_)); done)⟩)); (focus (simp; done)); (focus omega); (focus (simp only [maxLen]; omega))) | refine Takes.same ?_)); done)))) | (refine zae ?_; refine zaa rfl (zcf rfl rfl (by (repeat (first | exact mh | refine mt ?_)); done) rfl) ?_) | refine zaa rfl (zcd rfl) ?_ | refine zaa rfl (zca rfl rfl) ?_ | refine zah ?_ | (refine zcr ?_; refine zcs ?_) | (refine zdb ?_; refine zdg ?_)
  exact done_ret1 rfl () rfl trivial (List.nil_sublist _)
class CrvT (P : Program) (t : TypeId) : Prop where
  b2 : ∀ (w : World) (a b : Option Addr) (n c n' c' : Nat), (Instr.build t #[(0, .slice a n c), (1, .slice b n' c')]).run P w = .ok (.agg #[.slice a n c, .slice b n' c']) w
instance crvTi : CrvT Try.prog 27 := ⟨fun w a b n c n' c' => by kernel_rfl⟩
section
variable {P : Program} {S : World → Prop} {e : Env} {dst : Option Tmp} {ty : TypeId} {pos : String} {after : Array Edge} {guard : Option (Nat × Bool)} {t : TypeId}
theorem opj_buildV {X Y : Operand} {a b n c n' c' : _} [hb : CrvT P t] (hx : e.ev X = some (.raw (.slice a n c))) (hy : e.ev Y = some (.raw (.slice b n' c'))) :
    OpJ P S e ⟨dst, .build t #[(0, X), (1, Y)], ty, pos, after, guard⟩ (.agg [.raw (.slice a n c), .raw (.slice b n' c')]) :=
  opj_value fun ac w _ h => by
    have h1 := (h X (by simp [Op.operands]) _ hx).inv_raw
    have h2 := (h Y (by simp [Op.operands]) _ hy).inv_raw
    refine ⟨_, w, ?_, Ext.refl _, .agg (vs := [_, _]) (.cons .raw (.cons .raw .nil))⟩
    simp only [execOp, List.map_toArray, List.map_cons, List.map_nil, h1, h2, Sem.run_bind, hb.b2, Result.andThen_ok]
    rfl
end
end Go.Ab
namespace Go.Ab
open Go.Proofs
variable {R : World → Prop} [RStab R]
section
variable {P : Program} {t el : TypeId} {S : World → Prop} {N : Nat} {e : Env} {Q : Exit → Env → World → Prop} {ops : Array Oper} {l : List Oper} {dst : Option Tmp} {ty : TypeId} {pos : String} {after : Array Edge} {guard : Option (Nat × Bool)}
variable {w0 : World} {gs : List Nat} {H : List Ent}
theorem rs_lit0 {d : Tmp} {sz : Nat} {z : Value} {b : Nat} [hu : TyU P t (.slice el)] [hi : TyI P el z sz b] (hd : Nat.blt d N = true)
    (hk : ∀ g, RS P N ops l ((d, .raw (.slice (some ⟨g, 0, none⟩) 0 0)) :: e) (StR R w0 gs (⟨g, el, [], 0⟩ :: H)) Q) :
    RS P N ops (⟨some d, .buildSlice t 0 #[], ty, pos, after, none⟩ :: l) e (StR R w0 gs H) Q := by
  refine rs_fresh (val := fun g => .raw (.slice (some ⟨g, 0, none⟩) 0 0)) (en := fun g => ⟨g, el, [], 0⟩) hd (fun _ => rfl) (fun a w hS hF => ?_) hk
  obtain ⟨i, hi1, hz1, hs1, hb1⟩ := hi.h
  have hr0 : (Array.range 0) = (#[] : Array Nat) := rfl
  refine ⟨w.heap.size, .slice (some ⟨w.heap.size, 0, none⟩) 0 0, w.alloc (.cells #[] el), ?_, ev_raw _, Ext.alloc _ _, Nat.le_refl _, ?_⟩
  · simp [execOp, Instr.buildSlice, run_underlying hu.h, sizeOf, typeInfo, hi1, newRow, Instr.fill, hr0]
  · exact ext_alloc_own (w := w) (T := el) (xs := []) (cs := #[]) (fun k x hk => by simp at hk)
end
end Go.Ab
