/- Part 12 of the texts on which the law leans, joined: A knot put into a spline; walked; region 2 printed by gen_put.py. No conditions. -/
import Derived.Lib.AppendZerosOnto
import Derived.Lib.Overlaps
import Derived.Test.YtijihljfpeajlaaZak
namespace Go.Ab
section
variable {y : Dsp} {t : FV} {τ : Int} {k : Nat}
theorem DspOk.outFin (h : DspOk y) (ht : Gd t τ) (h1 : τ ≤ 64 * y.m y.n) (hs : SpanI (fun i => 64 * y.m i) y.d y.n τ k) : (tab y.n (outB (mF y.m) t k y.d)).all finB = true := by
  have hG := h.spanG ht h1 hs
  have s1 := hs.lo
  have s2 := hs.hi
  unfold tab
  rw [List.all_eq_true]
  intro p hp
  obtain ⟨i, hi, rfl⟩ := List.mem_map.1 hp
  obtain ⟨⟨u, vu, _⟩, _⟩ := out_near hG s1 h.d.2 (by omega) (by omega) i
  exact vl_fin vu
/-- Its point at a time. -/
theorem DspOk.at (h : DspOk y) (ht : Gd t τ) (h0 : 0 ≤ τ) (h1 : τ ≤ 64 * y.m y.n) (hs : SpanI (fun i => 64 * y.m i) y.d y.n τ k) :
    Nea (deBF (mF y.m) t y.d (ptI y.P) k) (deBR (kR fun i => 64 * y.m i) ((τ : Rat) / 64) y.d (ixR y.a) k) (deBR (kR fun i => 64 * y.m i) ((τ : Rat) / 64) y.d (ixR y.b) k) (1 / 10000) := by
  have e0 := h.ends.1
  have hN := h.spv.at ht (by show 64 * y.m 0 ≤ τ; omega) h1 (by have := h.d.2; omega) hs
  have d4 : (y.d : Rat) ≤ 4 := k_le h.d.2
  exact hN.mono (by grind)
/-- The shares add up to 1; times the points they are the point. -/
theorem DspOk.sums (h : DspOk y) (ht : Gd t τ) (h1 : τ ≤ 64 * y.m y.n) (hs : SpanI (fun i => 64 * y.m i) y.d y.n τ k) :
    (∃ r, Vl .f64 (accF (fun i => fconv .f32 .f64 (outB (mF y.m) t k y.d i)) y.n) r ∧ -(1 / 2000) ≤ r - 1 ∧ r - 1 ≤ 1 / 2000) ∧
    (∃ r, Vl .f64 (accF (fun i => fbin .mul .f64 (fconv .f32 .f64 (outB (mF y.m) t k y.d i)) (fconv .f32 .f64 (y.P i).1)) y.n) r ∧ -(1 / 400) ≤ r - deBR (kR fun i => 64 * y.m i) ((τ : Rat) / 64) y.d (ixR y.a) k ∧ r - deBR (kR fun i => 64 * y.m i) ((τ : Rat) / 64) y.d (ixR y.a) k ≤ 1 / 400) ∧
    ∃ r, Vl .f64 (accF (fun i => fbin .mul .f64 (fconv .f32 .f64 (outB (mF y.m) t k y.d i)) (fconv .f32 .f64 (y.P i).2)) y.n) r ∧ -(1 / 400) ≤ r - deBR (kR fun i => 64 * y.m i) ((τ : Rat) / 64) y.d (ixR y.b) k ∧ r - deBR (kR fun i => 64 * y.m i) ((τ : Rat) / 64) y.d (ixR y.b) k ≤ 1 / 400 := by
  have hG := h.spanG ht h1 hs
  have s1 := hs.lo
  have s2 := hs.hi
  have hp := h.p.pv
  obtain ⟨n1, n2⟩ := h.n
  have d4 := h.d.2
  exact ⟨sum_near hG s1 h.d.2 (by omega) (by omega) s2 (by omega),
    dot_near hG s1 h.d.2 (by omega) (by omega) s2 (by omega) (X := fun i => (y.P i).1) (x := ixR y.a) (fun i hi => hp.vx i hi) (fun i hi => hp.bx i hi),
    dot_near hG s1 h.d.2 (by omega) (by omega) s2 (by omega) (X := fun i => (y.P i).2) (x := ixR y.b) (fun i hi => hp.vy i hi) (fun i hi => hp.by_ i hi)⟩
end
end Go.Ab
namespace Go.Ab
theorem vl_64 : Vl .f32 (fv .f32 1115684864) 64 := Vl.c (by decide +kernel)
/-- A 64th part of the last knot, some times. -/
theorem time_gd {k l : Int} (h0 : 0 ≤ k) (h1 : k ≤ 64) (l0 : 0 ≤ l) (l1 : l ≤ 10) : Gd (fbin .mul .f32 (fbin .quo .f32 (some (FloatKind.f32.nearest k)) (fv .f32 1115684864)) (some (FloatKind.f32.nearest l))) (k * l) := by
  have vk := vl_ofInt .f32 k (by have : FloatKind.f32.format.fractionBits = 23 := rfl; rw [this]; omega)
  have vl := vl_ofInt .f32 l (by have : FloatKind.f32.format.fractionBits = 23 := rfl; rw [this]; omega)
  have b0 := Rat.intCast_le_intCast.2 h0
  have b1 := Rat.intCast_le_intCast.2 h1
  have z0 : ((0 : Int) : Rat) = 0 := rfl
  have z64 : ((64 : Int) : Rat) = 64 := rfl
  have kl0 : 0 ≤ k * l := Int.mul_nonneg h0 l0
  have kl1 : k * l ≤ 64 * 10 := Int.mul_le_mul h1 l1 l0 (by decide)
  obtain ⟨q, vq, hq, _⟩ := divR vk vl_64 (by decide) 1 (by grind) (by grind) (by decide +kernel)
  rw [rnd_rep hq (rep_64 k (by omega))] at vq
  have e : (k : Rat) / 64 * (l : Rat) = ((k * l : Int) : Rat) / 64 := by
    rw [Rat.intCast_mul]
    grind
  have c0 := Rat.intCast_le_intCast.2 kl0
  have c1 := Rat.intCast_le_intCast.2 kl1
  have z640 : ((64 * 10 : Int) : Rat) = 640 := rfl
  obtain ⟨r, vr, hr, _⟩ := mulR vq vl 10 (by rw [e]; grind) (by rw [e]; grind) (by decide +kernel)
  rw [e] at hr
  rw [rnd_rep hr (rep_64 (k * l) (by omega))] at vr
  exact ⟨vr, kl0, by omega⟩
/-- Between two knots. -/
theorem mid_gd {k l : Int} (h0 : 0 ≤ k) (h1 : k ≤ 10) (l0 : 0 ≤ l) (l1 : l ≤ 10) : Gd (fbin .quo .f32 (fbin .add .f32 (some (FloatKind.f32.nearest k)) (some (FloatKind.f32.nearest l))) (fv .f32 1073741824)) (32 * (k + l)) := by
  have vk := vl_ofInt .f32 k (by have : FloatKind.f32.format.fractionBits = 23 := rfl; rw [this]; omega)
  have vl := vl_ofInt .f32 l (by have : FloatKind.f32.format.fractionBits = 23 := rfl; rw [this]; omega)
  have v2 : Vl .f32 (fv .f32 1073741824) 2 := Vl.c (by decide +kernel)
  have b0 := Rat.intCast_le_intCast.2 h0
  have b1 := Rat.intCast_le_intCast.2 h1
  have c0 := Rat.intCast_le_intCast.2 l0
  have c1 := Rat.intCast_le_intCast.2 l1
  have z0 : ((0 : Int) : Rat) = 0 := rfl
  have z10 : ((10 : Int) : Rat) = 10 := rfl
  have es : (k : Rat) + l = ((k + l : Int) : Rat) := (Rat.intCast_add k l).symm
  obtain ⟨s, vs, hs, _⟩ := addR vk vl 20 (by grind) (by grind) (by decide +kernel)
  rw [es] at hs
  rw [rnd_rep hs (rep_int .f32 (k + l) (by have : FloatKind.f32.format.fractionBits = 23 := rfl; rw [this]; omega))] at vs
  have e : ((k + l : Int) : Rat) / 2 = ((32 * (k + l) : Int) : Rat) / 64 := by
    rw [Rat.intCast_mul]
    have : ((32 : Int) : Rat) = 32 := rfl
    rw [this]
    grind
  obtain ⟨r, vr, hr, _⟩ := divR vs v2 (by decide) 10 (by rw [← es]; grind) (by rw [← es]; grind) (by decide +kernel)
  rw [e] at hr
  rw [rnd_rep hr (rep_64 _ (by omega))] at vr
  exact ⟨vr, by omega, by omega⟩
end Go.Ab
namespace Go.Ab
theorem evF_eq {d n : Nat} (hn : d + 1 ≤ n) : evF d n = mF (eeI d n) := funext fun i => by
  unfold evF mF
  rw [((eeI_eq d n i).resolve_right (by omega))]
theorem even_ok {d n : Nat} {P : Nat → CV} (hd : 1 ≤ d ∧ d ≤ 4) (hn : d + 1 ≤ n ∧ n ≤ d + 5) (hP : (tabC n P).all finC = true) : SpOk d n (evF d n) P (fun i => 64 * eeI d n i) := by
  rw [evF_eq hn.1]
  have h := DrK.start (d := d) (n := n) hn.1
  exact DrK.ok ⟨h.lo, fun j _ => rfl, h.up, h.le, h.two, h.one, h.fst⟩ hd hn hP
/-- Nine. -/
def nineC : CV := (fv .f32 1091567616, fv .f32 0)
theorem nine_vl : Vl .f32 nineC.1 9 ∧ Vl .f32 nineC.2 0 := ⟨show Vl .f32 (fv .f32 1091567616) 9 from Vl.c (by decide +kernel), show Vl .f32 (fv .f32 0) 0 from Vl.c (by decide +kernel)⟩
theorem DspOk.moved {y : Dsp} (h : DspOk y) : SpV y.d y.n (mF y.m) (ptI (putU 0 nineC y.P)) (fun i => 64 * y.m i) (fun i => if i = 0 then 9 else ixR y.a i) (fun i => if i = 0 then 0 else ixR y.b i) 0 := by
  obtain ⟨d1, n1, kn, first, last, lt, gt, nea, e0, e1⟩ := h.spv
  refine ⟨d1, n1, kn, first, last, lt, gt, fun i h0 h1 => ?_, e0, e1⟩
  unfold ptI
  by_cases hi : i = 0
  · subst hi
    rw [if_pos rfl, if_pos rfl, show (0 : Int).toNat = 0 from rfl, putU_at]
    exact ⟨⟨9, 0, nine_vl.1, nine_vl.2, by constructor <;> grind, by constructor <;> grind⟩, by constructor <;> grind, by constructor <;> grind⟩
  · rw [if_neg hi, if_neg hi, putU_ne _ _ (by omega)]
    exact nea i h0 h1
end Go.Ab
namespace Go.Ab
open Go.Proofs
variable {R : World → Prop} [RStab R]
attribute [local irreducible] WS RS Done OpJ Then InBlock Round Ret Env.sub FnH
attribute [local irreducible] tab tabC
theorem putKnot1_fn (x t : FV) : Fn Try.prog 28 (fun w => [.f .f32 x, AV.ptrQ w [.f .f32 t]]) (.raw (.bool (cmpB .neq (fcmp .f32 x t)))) := by
  refine fn_intro Try.func28 rfl Try.ntmps28 (fun _ => Nat.le_of_ble_eq_true rfl) fun w0 => ?_
  repeat first | refine zaa rfl (zay rfl) ?_ | refine zaa rfl (zaz rfl) ?_ | (refine zac ?_; refine zaa rfl (zbd rfl rfl rfl) ?_) | refine zah ?_ | (refine zcr ?_; refine zcs ?_) | (refine zdb ?_; first | refine zdc ?_ | refine zdd ?_ | refine zdg ?_) | refine zaa rfl (opj_loadZ rfl rfl rfl) ?_
  exact done_ret1 rfl () rfl trivial (List.nil_sublist _)
end Go.Ab
namespace Go.Ab
open Go.Proofs
variable {R : World → Prop} [RStab R]
section
variable {P : Program} {N : Nat} {S : World → Prop} {e : Env} {Q : Exit → Env → World → Prop} {ops : Array Oper} {l : List Oper}
variable {w0 : World} {gs : List Nat} {H : List Ent} {dst : Option Tmp} {ty : TypeId} {pos : String} {after : Array Edge} {guard : Option (Nat × Bool)} {t el : TypeId}
omit [RStab R] in
theorem cur_len {w : World} {en : Ent} {cur : Array Value} (h : ∀ (i : Nat) (x : AV), en.xs[i]? = some x → ∃ u, cur[i]? = some u ∧ Ev x u) : en.xs.length ≤ cur.size := by
  rcases Nat.lt_or_ge cur.size en.xs.length with h' | h'
  · obtain ⟨u, hu', _⟩ := h cur.size _ (List.getElem?_eq_getElem h')
    rw [Array.getElem?_eq_none (Nat.le_refl _)] at hu'
    cases hu'
  · exact h'
/-- 'append(s[:i], make([]T, m)...)' where there is no room. -/
theorem rs_appendZ (k : Nat) {d : Tmp} {A B : Operand} {g i m c cc n : Nat} {q : Int} {f : Int → FV} {tn : TypeId} {z : Value} {b : Nat} [hu : TyU P t (.slice el)] [hn : TyU P tn (.int .i64)] [hi : TyI P el z 1 b] (hd : Nat.blt d N = true)
    (hA : e.ev A = some (.raw (.slice (some ⟨g, 0, none⟩) i c))) (hB : e.ev B = some (.raw (.int .i64 q))) (hq : q = (m : Nat)) (hH : H[k]? = some (entF g el n f cc)) (h0 : 1 ≤ m) (hin : i ≤ n) (hroom : c < i + m) (hm : i + m ≤ maxLen)
    (hb : (i + m) * b ≤ 140737488355328) (hz : cv1 z = .f .f32 (fv .f32 0)) (hzo : okv1 z = true) (hzc : z.cells = #[z])
    (hk : ∀ g' c', i + m ≤ c' → c' ≤ maxLen → RS P N ops l ((d, .raw (.slice (some ⟨g', 0, none⟩) (i + m) c')) :: e) (StR R w0 gs (entF g' el (i + m) (fun s => if s < i then f s else fv .f32 0) c' :: H)) Q) :
    RS P N ops (⟨some d, .call { callee := .builtin .append, args := #[A, B], argTypes := #[t, tn] }, ty, pos, after, none⟩ :: l) e (StR R w0 gs H) Q := by
  intro a w hS hF
  refine wpList_plain rfl fun K hK => ?_
  subst hq
  have h1 := (hF.eval hA).inv_raw
  have h2 := (hF.eval hB).inv_raw
  obtain ⟨inf, hi1, hz1, hs1, hb1⟩ := hi.h
  have hmem := List.mem_of_getElem? hH
  obtain ⟨cur, hcur, hcsz, hcx⟩ := (hS.own _ hmem).2
  have hcs : n ≤ cur.size := by
    have := cur_len (w := w) (en := entF g el n f cc) hcx
    simpa [entF] using this
  have hol : (cur.toList.take i).length = i := by simp only [List.length_take, Array.length_toList]; omega
  have hold : (Builtin.firstCells inf.size i (.slice (some ⟨g, 0, none⟩) i c)).run P w.drew = .ok (cur.toList.take i).toArray w.drew := by
    rw [hs1]
    refine run_firstCells_some (w := w.drew) 1 i ⟨g, 0, none⟩ i c (cur.toList.take i) (by omega) (fun j v hj => ?_)
    rw [List.getElem?_take] at hj
    split at hj
    · show w.cell? _ = some v
      rw [Addr.add_lit]
      have hc' : w.heap[g]? = some (.cells cur el (0, 0)) := hcur
      simp only [World.cell?, hc', Nat.zero_add]
      simpa using hj
    · cases hj
  have hr := Lib.run_append_grow_zeros (P := P) w t tn ty el inf z .i64 .i64 hu.h hn.h hi1 hz1 (some ⟨g, 0, none⟩) i c _ hold m (by omega) (by omega) hroom (by simp only [maxLen] at hm; omega)
    (by rw [hb1]; have := Nat.mul_le_mul_right b (show m ≤ i + m by omega); omega) (by rw [hb1]; exact growslice_fits hroom hb)
  obtain ⟨G, hG⟩ : ∃ G, G = grownCap w (i + m) c el := ⟨_, rfl⟩
  have hG1 : i + m ≤ G := by rw [hG]; exact grownCap_ge w _ _ _
  have hG2 : G ≤ maxLen := by rw [hG]; exact grownCap_le_maxLen w _ _ _ hm
  rw [← hG] at hr
  obtain ⟨ROW, hROW⟩ : ∃ ROW : Array Value, ROW = (cur.toList.take i).toArray ++ Builtin.zeroCells z.cells m ++ Builtin.zeroCells z.cells (G - (i + m)) := ⟨_, rfl⟩
  rw [← hROW] at hr
  have hzs : ∀ k, (Builtin.zeroCells z.cells k).size = k := fun k => by rw [hzc]; simp [Builtin.zeroCells]
  have hzg : ∀ k j, j < k → (Builtin.zeroCells z.cells k)[j]? = some z := fun k j h => by
    rw [hzc]
    simp [Builtin.zeroCells, h, Nat.mod_one]
  have hsz : ROW.size = G := by
    rw [hROW]
    simp only [Array.size_append, hzs, List.size_toArray, hol]
    omega
  have hO := ext_alloc_own (w := w.drew) (T := el) (xs := (tab (i + m) (fun s => if s < i then f s else fv .f32 0)).map (AV.f .f32)) (cs := ROW) (fun j x hj => by
    have hlt : j < i + m := by
      have := (List.getElem?_eq_some_iff.1 hj).1
      simpa using this
    rw [List.getElem?_map, tab_get _ hlt] at hj
    rw [hROW]
    rcases Nat.lt_or_ge j i with hji | hji
    · have hx : (entF g el n f cc).xs[j]? = some (.f .f32 (f j)) := by
        simp only [entF, List.getElem?_map]
        rw [tab_get f (by omega)]
        rfl
      obtain ⟨u, hu', hev⟩ := hcx j _ hx
      simp only [show (j : Int) < i from by omega, if_true, Option.map_some, Option.some.injEq] at hj
      subst hj
      refine ⟨u, ?_, hev⟩
      rw [Array.append_assoc, Array.getElem?_append_left (by simp only [List.size_toArray, hol]; omega), List.getElem?_toArray, List.getElem?_take, if_pos hji]
      simpa using hu'
    · simp only [show ¬ (j : Int) < i from by omega, if_false, Option.map_some, Option.some.injEq] at hj
      subst hj
      refine ⟨z, ?_, by rw [← hz]; exact cv1_ev z hzo⟩
      rw [Array.append_assoc, Array.getElem?_append_right (by simp only [List.size_toArray, hol]; omega), List.size_toArray, hol, Array.getElem?_append_left (by rw [hzs]; omega)]
      exact hzg _ _ (by omega))
  rw [hsz] at hO
  have hE : Ext w (w.drew.alloc (.cells ROW el)) := (Ext.of_quiet (.inr rfl) : Ext w w.drew).trans (Ext.alloc _ _)
  have hex : (execOp a.eval ⟨some d, .call { callee := .builtin .append, args := #[A, B], argTypes := #[t, tn] }, ty, pos, after, none⟩).run P w = .ok (.value (.slice (some ⟨w.heap.size, 0, none⟩) (i + m) G)) (w.drew.alloc (.cells ROW el)) := by
    simp only [execOp, resolve, invoke, builtin, Sem.run_bind, Sem.run_pure, Result.andThen_ok, List.map_toArray, List.map_cons, List.map_nil, h1, h2, hr]
  unfold Oper.wp
  rw [hex]
  exact hK _ _ (hk w.heap.size G hG1 hG2 _ _ (hS.new hE (Nat.le_refl _) hO) (Fr.put (some d) (hF.ext hE) (fun _ h => by cases h; exact Nat.le_of_ble_eq_true hd) .raw))
/-- 'copy' within a list of the call's own, that grows it where there is room. -/
theorem effv_copyIn (k K : Nat) (f' : Int → FV) {d : Tmp} {A B : Operand} {oa ob m m' cap cap' g n c : Nat} {f : Int → FV} {T : TypeId} {z : Value} {b : Nat} [hu : TyU P t (.slice el)] [hi : TyI P el z 1 b]
    (hA : e.ev A = some (.raw (.slice (some ⟨g, oa, none⟩) m cap))) (hB : e.ev B = some (.raw (.slice (some ⟨g, ob, none⟩) m' cap'))) (hH : H[k]? = some (entF g T n f c))
    (hK : K = min m' m) (h1 : oa ≤ n) (h2 : n ≤ oa + K) (h3 : oa + K ≤ c) (h4 : ob + K ≤ n) (hf' : ∀ s : Nat, s < oa + K → f' s = if s < oa then f s else f ((s - oa + ob : Nat) : Int)) :
    EffV P (StR R w0 gs H) (StR R w0 gs (H.set k (entF g T (oa + K) f' c))) (.int .i64 (K : Int)) e ⟨some d, .call { callee := .builtin .copy, args := #[A, B], argTypes := #[t, t] }, ty, pos, after, none⟩ := by
  intro a w K' Q' hS ho hK'
  have hA' := (ho A (by simp [Op.operands, Call.operands]) _ hA).inv_raw
  have hB' := (ho B (by simp [Op.operands, Call.operands]) _ hB).inv_raw
  obtain ⟨inf, hi1, hz1, hs1, hb1⟩ := hi.h
  have hmem := List.mem_of_getElem? hH
  obtain ⟨cur, hcur, hcsz, hcx⟩ := (hS.own _ hmem).2
  have hcur' : w.heap[g]? = some (.cells cur T (0, 0)) := hcur
  have hcsz' : cur.size = c := hcsz
  have hcell : ∀ j : Nat, j < n → ∃ u, cur[j]? = some u ∧ Ev (.f .f32 (f j)) u := fun j hj => by
    refine hcx j _ ?_
    simp only [entF, List.getElem?_map]
    rw [tab_get f hj]
    rfl
  obtain ⟨news, hnews⟩ : ∃ news, news = (cur.toList.drop ob).take K := ⟨_, rfl⟩
  have hln : news.length = K := by rw [hnews, List.length_take, List.length_drop, Array.length_toList]; omega
  have hget : ∀ j, j < K → news[j]? = cur[ob + j]? := fun j hj => by rw [hnews, List.getElem?_take, if_pos hj, List.getElem?_drop]; simp
  have hone : ∀ u ∈ news, u.oneCell' = true := fun u hu => by
    obtain ⟨j, hj⟩ := List.mem_iff_getElem?.1 hu
    have hjk : j < K := by rw [← hln]; exact (List.getElem?_eq_some_iff.1 hj).1
    rw [hget j hjk] at hj
    obtain ⟨u', hu', hev⟩ := hcell (ob + j) (by omega)
    rw [hu'] at hj
    cases hj
    exact (oneAV_spec rfl (hev w)).2.1
  have hrun := run_copy_row (P := P) w t t ty el g oa m cap ⟨g, ob, none⟩ m' cap' cur T news hu.h (by rw [hi1]; simp only [Option.map_some, hs1]) hcur' (by rw [hln, hK]) (fun j v hj => by
    have hjk : j < K := by rw [← hln]; exact (List.getElem?_eq_some_iff.1 hj).1
    rw [hget j hjk] at hj
    rw [Addr.add_lit]
    simp only [World.cell?, hcur']
    exact hj) (by rw [hln]; omega) hone
  have hmod : Mod w (w.setRow g (cur.toList.take oa ++ news ++ cur.toList.drop (oa + news.length)).toArray) [g] :=
    ⟨rfl, rfl, rfl, by simp [World.setRow], fun k hk hn => setRow_other w g k _ (by simpa using hn)⟩
  have ho' : OwnE (w.setRow g (cur.toList.take oa ++ news ++ cur.toList.drop (oa + news.length)).toArray) (entF g T (oa + K) f' c) := by
    refine ⟨_, setRow_heap w g _ _ _ _ hcur', ?_, fun j x hj => ?_⟩
    · simp only [hln, List.size_toArray, List.length_append, List.length_take, List.length_drop, Array.length_toList, entF] at *
      omega
    · have hj2 : j < oa + K := by
        have := (List.getElem?_eq_some_iff.1 hj).1
        simpa [entF] using this
      simp only [entF, List.getElem?_map] at hj
      rw [tab_get f' hj2, hf' j hj2] at hj
      simp only [Option.map_some, Option.some.injEq] at hj
      have hlt : (cur.toList.take oa).length = oa := by rw [List.length_take, Array.length_toList]; omega
      simp only [List.append_assoc, List.getElem?_toArray]
      rcases Nat.lt_or_ge j oa with h | h
      · rw [if_pos h] at hj
        obtain ⟨u, hu', hev⟩ := hcell j (by omega)
        subst hj
        exact ⟨u, by rw [List.getElem?_append_left (by omega), List.getElem?_take, if_pos h]; simpa using hu', hev⟩
      · rw [if_neg (by omega)] at hj
        obtain ⟨u, hu', hev⟩ := hcell (j - oa + ob) (by omega)
        subst hj
        refine ⟨u, ?_, hev⟩
        rw [List.getElem?_append_right (by omega), hlt, List.getElem?_append_left (by omega), hget _ (by omega), show ob + (j - oa) = j - oa + ob by omega]
        exact hu'
  have hex : (execOp a.eval ⟨some d, .call { callee := .builtin .copy, args := #[A, B], argTypes := #[t, t] }, ty, pos, after, none⟩).run P w = .ok (.value (goInt news.length)) (w.setRow g (cur.toList.take oa ++ news ++ cur.toList.drop (oa + news.length)).toArray) := by
    simp only [execOp, resolve, invoke, builtin, Sem.run_bind, Sem.run_pure, Result.andThen_ok, List.map_toArray, List.map_cons, List.map_nil, hA', hB', hrun]
  unfold Oper.wp
  rw [hex]
  have hgi : (goInt news.length : Value) = .int .i64 (K : Int) := by rw [hln]; rfl
  rw [hgi]
  exact hK' _ (hS.updAt hH hmod (.inl rfl) ho')
omit [RStab R] in
/-- A part of a list of the call's own may be read. -/
theorem rd_ownO {n m g c cap off : Nat} {f : Int → FV} {T : TypeId} {w : World} {v : Value} (hS : StR R w0 gs H w) (hr : Rel w (.raw (.slice (some ⟨g, off, none⟩) m cap)) v) (hm : (entF g T n f c : Ent) ∈ H) (hn : off + m ≤ n) (hc : m ≤ cap ∧ cap ≤ maxLen) : Rd w 1 v ((tab m fun s => f (s + off)).map (AV.f .f32)) := by
  have hv := hr.inv_raw
  subst hv
  refine ⟨_, m, cap, rfl, by simp, hc.1, hc.2, fun i x hi => ⟨_, rfl, rfl, ?_⟩⟩
  have hlt : i < m := by
    have := (List.getElem?_eq_some_iff.1 hi).1
    simpa using this
  have hx : (entF g T n f c).xs[off + i]? = some x := by
    simp only [entF, List.getElem?_map] at hi ⊢
    rw [tab_get f (by omega)]
    rw [tab_get _ hlt] at hi
    rw [← hi, show ((off + i : Nat) : Int) = (i : Int) + off by omega]
  obtain ⟨u, hu, hev⟩ := (hS.own _ hm).2.cell hx
  exact ⟨u, by simpa [entF] using hu, hev⟩
omit [RStab R] in
/-- Two lists of the call's own do not overlap. -/
theorem opj_overlaps {c : FuncId} {tR : TypeId} {z : Value} {sz b : Nat} [hc : ExtFn P c (Extern.SlicesOverlaps.overlaps #[t, t] #[tR])] [hu : TyU P t (.slice el)] [hi : TyI P el z sz b] {F X Y : Operand} {ts : Array TypeId} (i j : Nat) {x y : Ent} {ox oy m1 c1 m2 c2 : Nat}
    (hF : e.ev F = some (.raw (.func (.func c) #[] #[]))) (hX : e.ev X = some (.raw (.slice (some ⟨x.g, ox, none⟩) m1 c1))) (hY : e.ev Y = some (.raw (.slice (some ⟨y.g, oy, none⟩) m2 c2)))
    (hx : H[i]? = some x) (hy : H[j]? = some y) (hij : i ≠ j) (hsz : y.csz ≠ 0) :
    OpJ P (StR R w0 gs H) e ⟨dst, .call { callee := .value F, args := #[X, Y], argTypes := ts }, ty, pos, after, guard⟩ (.raw (.bool false)) :=
  opj_value fun a w hS h => by
    have h1 := (h F (by simp [Op.operands, Call.operands]) _ hF).inv_raw
    have h2 := (h X (by simp [Op.operands, Call.operands]) _ hX).inv_raw
    have h3 := (h Y (by simp [Op.operands, Call.operands]) _ hY).inv_raw
    have ox' := (hS.own _ (List.mem_of_getElem? hx)).2
    have oy' := (hS.own _ (List.mem_of_getElem? hy)).2
    have hne : x.g ≠ y.g := fun heq => by
      have hnd := hS.nodup
      have ha : (H.map (·.g))[i]? = some x.g := by simp [hx]
      have hb : (H.map (·.g))[j]? = some x.g := by simp [hy, heq]
      obtain ⟨la, ea⟩ := List.getElem?_eq_some_iff.1 ha
      obtain ⟨lb, eb⟩ := List.getElem?_eq_some_iff.1 hb
      exact hij ((List.getElem_inj hnd).1 (ea.trans eb.symm))
    have fx := ox'.frozen
    obtain ⟨cx, hcx, hsx, _⟩ := ox'
    obtain ⟨cy, hcy, hsy, _⟩ := oy'
    have hr := Lib.run_overlaps_apart (P := P) w t tR el hu.h sz (fun w => run_size hi w) ⟨x.g, ox, none⟩ ⟨y.g, oy, none⟩ m1 c1 m2 c2 hne x.T y.T cx.size cy.size (by simp [World.shape?, hcx]) (by simp [World.shape?, hcy]) (by rw [hsy]; exact hsz) (fx _) (fx _)
    have hrun := run_ext (h := hc) hr
    exact ⟨_, w, by simp [execOp, resolve, h1, Deferred.ofValue, invoke, h2, h3, hrun], Ext.refl _, .raw⟩
end
section
variable {P : Program} {N : Nat} {S : World → Prop} {e : Env} {Q : Exit → Env → World → Prop} {ops : Array Oper} {l : List Oper}
variable {dst : Option Tmp} {ty : TypeId} {pos : String} {after : Array Edge} {guard : Option (Nat × Bool)} {t el : TypeId}
theorem opj_cap_raw {X : Operand} {ad : Option Addr} {n cap : Nat} {t t2 : TypeId} {el : TypeId} [hu : TyU P t (.slice el)] (hx : e.ev X = some (.raw (.slice ad n cap))) :
    OpJ P S e ⟨dst, .call { callee := .builtin .cap, args := #[X], argTypes := #[t] }, t2, pos, after, guard⟩ (.raw (.int .i64 (cap : Int))) :=
  opj_value fun a w _ h => by
    have h1 := (h X (by simp [Op.operands, Call.operands]) _ hx).inv_raw
    exact ⟨_, w, by simp [execOp, resolve, invoke, builtin, Builtin.cap_, run_underlying hu.h, h1, goInt], Ext.refl _, .raw⟩
/-- Parts of a list of the call's own. -/
theorem opj_cutLo (k : Nat) {X Y : Operand} {g n cap : Nat} {z : Value} {b : Nat} {ik : IntKind} {h : Int} [hu : TyU P t (.slice el)] [hi : TyI P el z 1 b] (hx : e.ev X = some (.raw (.slice (some ⟨g, 0, none⟩) n cap))) (hy : e.ev Y = some (.raw (.int ik h))) (hk : h = (k : Nat)) (h0 : k < n) (hc : n ≤ cap) :
    OpJ P S e ⟨dst, .slice t X (some Y) none none, ty, pos, after, guard⟩ (.raw (.slice (some ⟨g, k, none⟩) (n - k) (cap - k))) := by
  have := opj_cut_l (P := P) (S := S) (e := e) (dst := dst) (ty := ty) (pos := pos) (after := after) (guard := guard) (t := t) (hi := hi) hx hy (by omega) hc
  rwa [show h.toNat = k by omega] at this
theorem opj_cutHi (k : Nat) {X Y : Operand} {g n cap : Nat} {z : Value} {b : Nat} {ik : IntKind} {h : Int} [hu : TyU P t (.slice el)] [hi : TyI P el z 1 b] (hx : e.ev X = some (.raw (.slice (some ⟨g, 0, none⟩) n cap))) (hy : e.ev Y = some (.raw (.int ik h))) (hk : h = (k : Nat)) (h0 : k ≤ cap) (hc : 0 < cap) :
    OpJ P S e ⟨dst, .slice t X none (some Y) none, ty, pos, after, guard⟩ (.raw (.slice (some ⟨g, 0, none⟩) k cap)) := by
  have := opj_cut_h (P := P) (S := S) (e := e) (dst := dst) (ty := ty) (pos := pos) (after := after) (guard := guard) (t := t) (hi := hi) hx hy (by omega) hc
  rwa [show h.toNat = k by omega] at this
end
instance extOverlaps : ExtFn Try.prog 65 (Extern.SlicesOverlaps.overlaps #[24, 24] #[4]) := ⟨⟨(Try.prog.funcs[65]?).getD default, by kernel_rfl, by kernel_rfl, by kernel_rfl, by kernel_rfl, by kernel_rfl⟩⟩
attribute [local irreducible] WS RS Done OpJ Then InBlock Round Ret Env.sub FnH
attribute [local irreducible] tab tabC
theorem insert_fn (g N c gv cv i : Nat) (f : Int → FV) (u : FV) (h0 : 1 ≤ i) (hi : i < N) (hN : N ≤ 100) (hc : N ≤ c ∧ c ≤ maxLen) (hcv : 1 ≤ cv ∧ cv ≤ maxLen) :
    FnH (X := Nat × Nat) Try.prog 50 (fun _ => [.raw (.slice (some ⟨g, 0, none⟩) N c), .raw (.int .i64 (i : Int)), .raw (.slice (some ⟨gv, 0, none⟩) 1 cv)]) [entF g 29 N f c, entF gv 29 1 (fun _ => u) cv]
      (fun y => .raw (.slice (some ⟨y.1, 0, none⟩) (N + 1) y.2)) (fun y => [entF y.1 29 (N + 1) (insKF f ((i : Int) - 1) u) y.2]) (fun y => N + 1 ≤ y.2 ∧ y.2 ≤ maxLen) := by
  simp only [maxLen] at hc hcv
  refine fn_intro Try.func50 rfl Try.ntmps50 (fun _ => Nat.le_of_ble_eq_true rfl) fun w0 => ?_
  repeat first | refine zaa rfl (zay rfl) ?_ | refine zaa rfl (zaz rfl) ?_ | (refine zac ?_; refine zaa rfl (zbi rfl rfl) ?_) | (refine zad ?_; refine zaa rfl (zbn rfl) ?_) | refine zah ?_ | (refine zcr ?_; refine zcs ?_) | (refine zdb ?_; first | refine zdc ?_ | refine zdd ?_ | refine zdf ?_ | refine zdj rfl ?_) | refine zaa rfl (opj_cutLo i rfl rfl rfl hi hc.1) ?_
  rw [decide_eq_false (show ¬ (i : Int) = (N : Int) by omega)]
  repeat first | refine zaa rfl (zay rfl) ?_ | (refine zac ?_; first | refine zaa rfl (zbb rfl rfl (by omega)) ?_ | refine zaa rfl (zbg rfl rfl) ?_) | refine zah ?_ | (refine zcr ?_; refine zcs ?_) | (refine zdb ?_; first | refine zdc ?_ | refine zdd ?_ | refine zdf ?_ | refine zdj rfl ?_) | refine zaa rfl (opj_cap_raw rfl) ?_
  cases hr : decide ((c : Int) < (N : Int) + 1)
  · have hroom := of_decide_eq_false hr
    repeat first | refine zaa rfl (zay rfl) ?_ | refine zaa rfl (zaz rfl) ?_ | (refine zac ?_; refine zaa rfl (zbb rfl rfl (by omega)) ?_) | refine zaa rfl (zcc rfl) ?_ | refine zah ?_ | (refine zcr ?_; refine zcs ?_) | (refine zdb ?_; first | refine zdc ?_ | refine zdd ?_ | refine zdf ?_ | refine zdi rfl ?_ | refine zdj rfl ?_) | refine zaa rfl (opj_cutHi (N + 1) rfl rfl (by omega) (by omega) (by omega)) ?_ | refine zaa rfl (opj_cutLo (i + 1) rfl rfl (by omega) (by omega) (by omega)) ?_ | refine zaa rfl (opj_overlaps 1 0 (x := entF gv _ 1 (fun _ => u) cv) (y := entF g _ N f c) rfl rfl rfl rfl rfl (by decide) (by show c ≠ 0; omega)) ?_
    refine ws_drawV (n := 8) (d := 77) (.int .i64 ((N - i : Nat) : Int)) (W := StR (fun _ => True) w0 [g, gv] []) (S1 := StR (fun _ => True) w0 [g, gv] [entF g 29 (i + 1 + (N - i)) (fun s => if s < (i : Int) + 1 then f s else f (s - 1)) c, entF gv 29 1 (fun _ => u) cv]) mixed (by decide +kernel) rfl rfl (fun _ h => h.weak (List.nil_sublist _)) (fun _ h => h.weak (List.nil_sublist _)) ?_
    repeat first | refine zap rfl (zay rfl) ?_ | (refine zar ?_; refine zap rfl (zbb rfl rfl (by omega)) ?_) | refine zav ?_ | refine zap rfl (opj_cutLo (i + 1) rfl rfl (by omega) (by omega) (by omega)) ?_ | refine zap rfl (opj_cutLo i rfl rfl rfl (by omega) (by omega)) ?_
    refine ⟨rfl, fun o ho => ?_, ?_⟩
    · cases ho
      refine effv_copyIn 0 (N - i) (fun s => if s < (i : Int) + 1 then f s else f (s - 1)) (oa := i + 1) (ob := i) (f := f) rfl rfl rfl (by omega) (by omega) (by omega) (by omega) (by omega) (fun s hs => ?_)
      by_cases h : s < i + 1
      · rw [if_pos (by omega), if_pos (by omega)]
      · rw [if_neg (by omega), if_neg (by omega), show ((s - (i + 1) + i : Nat) : Int) = (s : Int) - 1 by omega]
    rw [show i + 1 + (N - i) = N + 1 by omega]
    repeat first | refine zaa rfl (zay rfl) ?_ | refine zah ?_ | (refine zcr ?_; refine zcs ?_) | (refine zdb ?_; first | refine zdc ?_ | refine zdd ?_) | refine zaa rfl (opj_cutLo i rfl rfl rfl (by omega) (by omega)) ?_
    refine rs_copyT 0 1 (insKF f ((i : Int) - 1) u) (off := i) (h := fun _ => u) (j := 1) rfl rfl ⟨_, rfl, fun w v hS h => rd_own hS h (mt mh) (by omega) (by simp only [maxLen]; omega)⟩ rfl (by omega) (by omega) (by omega) (fun s hs => ?_) ?_
    · unfold insKF
      by_cases h : s < i
      · rw [if_pos (by omega), if_neg (by omega), if_pos (by omega)]
      · by_cases h2 : s = i
        · rw [if_neg (by omega), if_pos (by omega), if_pos (by omega)]
        · rw [if_neg (by omega), if_neg (by omega), if_neg (by omega), if_neg (by omega)]
    repeat first | refine zaa rfl (zay rfl) ?_ | refine zaa rfl (zaz rfl) ?_ | refine zah ?_ | (refine zcr ?_; first | refine zcs ?_ | refine zct ?_) | (refine zdb ?_; first | refine zdc ?_ | refine zdd ?_ | refine zdg ?_)
    exact done_ret1 rfl (g, c) rfl (by simp only [maxLen]; omega) (.cons_cons _ (List.nil_sublist _))
  · have hroom := of_decide_eq_true hr
    repeat first | refine zaa rfl (zay rfl) ?_ | (refine zac ?_; first | refine zaa rfl (zbb rfl rfl (by omega)) ?_ | refine zaa rfl (zbc rfl rfl (by omega)) ?_) | (refine zdb ?_; first | refine zdc ?_ | refine zdd ?_ | refine zdi rfl ?_) | refine zaa rfl (opj_cutHi i rfl rfl rfl (by omega) (by omega)) ?_
    refine rs_appendZ 0 (m := N + 1 - i) rfl rfl rfl (by omega) rfl (by omega) (by omega) (by omega) (by simp only [maxLen]; omega) (by omega) rfl rfl rfl ?_
    intro g' c' hc1 hc2
    rw [show i + (N + 1 - i) = N + 1 by omega]
    rw [show i + (N + 1 - i) = N + 1 by omega] at hc1
    simp only [maxLen] at hc2
    repeat first | refine zaa rfl (zay rfl) ?_ | refine zaa rfl (zaz rfl) ?_ | refine zah ?_ | (refine zcr ?_; refine zcs ?_) | (refine zdb ?_; first | refine zdc ?_ | refine zdd ?_) | refine zaa rfl (opj_cutLo i rfl rfl rfl (by omega) (by omega)) ?_
    refine rs_copyT 0 1 (fun s => if s < (i : Int) then f s else if s < (i : Int) + 1 then u else fv .f32 0) (off := i) (h := fun _ => u) (j := 1) rfl rfl ⟨_, rfl, fun w v hS h => rd_own hS h (mt (mt mh)) (by omega) (by simp only [maxLen]; omega)⟩ rfl (by omega) (by omega) (by omega) (fun s hs => ?_) ?_
    · by_cases h : s < i
      · rw [if_pos (by omega), if_neg (by omega), if_pos (by omega)]
      · by_cases h2 : s = i
        · rw [if_neg (by omega), if_pos (by omega), if_pos (by omega)]
        · rw [if_neg (by omega), if_neg (by omega), if_neg (by omega), if_neg (by omega)]
    repeat first | refine zah ?_ | (refine zcr ?_; refine zcs ?_) | (refine zdb ?_; refine zdc ?_)
    refine ws_drawV (n := 8) (d := 54) (.int .i64 ((N - i : Nat) : Int)) (W := StR (fun _ => True) w0 [g, gv] []) (S1 := StR (fun _ => True) w0 [g, gv] [entF g' 29 (N + 1) (insKF f ((i : Int) - 1) u) c', entF g 29 N f c, entF gv 29 1 (fun _ => u) cv]) mixed (by decide +kernel) rfl rfl (fun _ h => h.weak (List.nil_sublist _)) (fun _ h => h.weak (List.nil_sublist _)) ?_
    repeat first | refine zap rfl (zay rfl) ?_ | (refine zar ?_; refine zap rfl (zbb rfl rfl (by omega)) ?_) | refine zav ?_ | refine zap rfl (opj_cutLo (i + 1) rfl rfl (by omega) (by omega) (by omega)) ?_ | refine zap rfl (opj_cutLo i rfl rfl rfl (by omega) (by omega)) ?_
    refine ⟨rfl, fun o ho => ?_, ?_⟩
    · cases ho
      refine effv_copyT 0 (N - i) (insKF f ((i : Int) - 1) u) (off := i + 1) (h := fun s => f (s + i)) (j := N - i) rfl ⟨_, rfl, fun w v hS h => rd_ownO hS h (mt mh) (by omega) (by simp only [maxLen]; omega)⟩ rfl (by omega) (by omega) (by omega) (fun s hs => ?_)
      unfold insKF
      by_cases h : s < i
      · rw [if_pos (by omega), if_neg (by omega), if_pos (by omega)]
      · by_cases h2 : s = i
        · rw [if_neg (by omega), if_pos (by omega), if_neg (by omega), if_neg (by omega), if_pos (by omega)]
        · rw [if_neg (by omega), if_neg (by omega), if_pos (by omega), show ((s - (i + 1) : Nat) : Int) + i = (s : Int) - 1 by omega]
    repeat first | refine zaa rfl (zay rfl) ?_ | refine zaa rfl (zaz rfl) ?_ | refine zah ?_ | (refine zcr ?_; first | refine zcs ?_ | refine zct ?_) | (refine zdb ?_; first | refine zdc ?_ | refine zdd ?_ | refine zdg ?_)
    exact done_ret1 rfl (g', c') rfl (by simp only [maxLen]; omega) (.cons_cons _ (List.nil_sublist _))
end Go.Ab
namespace Go.Ab
open Go.Proofs
variable {R : World → Prop} [RStab R]
section
variable {P : Program} {N : Nat} {ops : Array Oper} {ix : List Nat} {W : World → Prop} {D : List Nat} {F : Env} {Q : Exit → Env → World → Prop} {w0 : World} {gs : List Nat} {H : List Ent} {ty : TypeId} {pos : String} {after : Array Edge}
/-- A call that takes blocks of the call's own over. -/
theorem sp_callP {X : Type} {A : World → List AV} {mk : X → AV} {pre H' : List Ent} {post : X → List Ent} {good : X → Prop} {f : Nat} {c : FuncId} {xs : List Operand} {Fo : Operand} {args : List AV} {d : Tmp} {ts : Array TypeId} [hb : HasBody P c]
    (ho : ops[f]? = some ⟨some d, .call { callee := .value Fo, args := xs.toArray, argTypes := ts }, ty, pos, after, none⟩) (hck : tuOk ops ix N f = true) (hfr : F.look d = none)
    (hc : FnH P c A pre mk post good) (hsel : ∀ w, StR R w0 gs H w → StR R w0 gs (pre ++ H') w) (hF' : F.ev Fo = some (.raw (.func (.func c) #[] #[]))) (hx : evL F xs = some args) (ht : Takes (StR R w0 gs (pre ++ H')) args A) (hs : ∀ y, good y → (mk y).still = true)
    (hk : ∀ y, good y → Cont P N ops ix W D Q f ((d, mk y) :: F) (StR R w0 gs (post y ++ H'))) : SP P N ops ix W D F (StR R w0 gs H) Q f := by
  refine ⟨_, ho, hck, fun a w K Q' hS0 hop hK => ?_⟩
  have hS := hsel w hS0
  obtain ⟨fnc, hf, hbd, hn⟩ := hb.h
  have h1 := (hop Fo (by simp [Op.operands, Call.operands]) _ hF').inv_raw
  have hrl : RelL w (A w) (xs.map a.eval) := ht w _ hS (evL_rel hx fun x hxm => hop x (by simp [Op.operands, Call.operands, hxm]))
  have hnd := hS.nodup
  rw [List.map_append, List.nodup_append] at hnd
  have hcall := hc w _ hrl (fun x hx => (hS.own x (by simp [hx])).2) hnd.1
  unfold Oper.wp
  have hrun : (execOp a.eval ⟨some d, .call { callee := .value Fo, args := xs.toArray, argTypes := ts }, ty, pos, after, none⟩).run P w = .ok (.enter c (xs.map a.eval).toArray) w := by
    simp [execOp, resolve, h1, Deferred.ofValue, invoke, run_callFn hf hbd hn]
  rw [hrun]
  refine Calls.mono hcall fun x w' ⟨v, y, hx', hy, hrv, hm, hp, hpn⟩ => ?_
  subst hx'
  exact hK _ w' ⟨_, _, StR.call (A := pre) (H := H') hS hm hp hpn, hk y hy, .inr ⟨d, mk y, v, rfl, hfr, rfl, hrv, hs y hy, rfl⟩⟩
variable {S : World → Prop} {e : Env} {dst : Option Tmp} {guard : Option (Nat × Bool)} {t el : TypeId}
omit [RStab R] in
theorem opj_indexQG {R0 : World → Prop} {X I : Operand} {xs : List AV} {x : AV} {i : Int} {t : TypeId} {b : Nat} {z : Value} {el : TypeId} [hu : TyU P t (.slice el)] [hi : TyI P el z 1 b]
    (hx : e.ev X = some (AV.sl w0 1 xs)) (hI : e.ev I = some (.raw (.int .i64 i))) (h0 : 0 ≤ i) (hne : xs[i.toNat]? = some x) :
    OpJ P (StR R0 w0 [] H) e ⟨dst, .indexAddr t X I, ty, pos, after, guard⟩ (AV.ptrQ w0 [x]) :=
  opj_value fun a w hS h => by
    have h1 := (h X (by simp [Op.operands]) _ hx).inv_q
    have h2 := (h I (by simp [Op.operands]) _ hI).inv_raw
    obtain ⟨ad, len, cap, hv, hl, hc, hm, hr⟩ := h1
    have hlt : i.toNat < xs.length := (List.getElem?_eq_some_iff.1 hne).1
    obtain ⟨bb, hbb, hsp, u, hu', hev⟩ := hr _ _ hne
    subst hbb
    rw [Nat.mul_one] at hl
    have hil' : i < (len : Int) := by omega
    have hP : PtrTo [x] w0 (.pointer (some (bb.add (i.toNat * 1)))) := by
      rw [addr_add bb hsp]
      refine ⟨_, rfl, rfl, fun j y hj => ?_⟩
      match j, hj with
      | 0, hj =>
        cases hj
        exact ⟨u, by simpa using hu', hev⟩
    refine ⟨_, w, ?_, Ext.refl _, .q hP⟩
    simp [execOp, h2, hv, Instr.indexAt, asIntOf, run_underlying hu.h, run_size hi, h0, hil']
omit [RStab R] in
theorem opj_indexQC {R0 : World → Prop} {n : Nat} {f : Nat → CV} {X I : Operand} {i : Int} {t : TypeId} {b : Nat} {z : Value} {el : TypeId} [hu : TyU P t (.slice el)] [hi : TyI P el z 1 b]
    (hx : e.ev X = some (AV.sl w0 1 ((tabC n f).map cA))) (hI : e.ev I = some (.raw (.int .i64 i))) (h0 : 0 ≤ i) (hlt : i < (n : Int)) :
    OpJ P (StR R0 w0 [] H) e ⟨dst, .indexAddr t X I, ty, pos, after, guard⟩ (AV.ptrQ w0 [cA (f i.toNat)]) :=
  opj_indexQG hx hI h0 (by rw [List.getElem?_map, tabC_get f (by omega)]; rfl)
omit [RStab R] in
/-- The first ones of a list of complex numbers that came in; the last ones. -/
theorem opj_takeC (m : Nat) {z : Value} {b : Nat} {X Y : Operand} {n : Nat} {F : Nat → CV} {k : IntKind} {h : Int} [hu : TyU P t (.slice el)] [hi : TyI P el z 1 b]
    (hx : e.ev X = some (slC w0 (tabC n F))) (hy : e.ev Y = some (.raw (.int k h))) (hm : h = (m : Nat)) (hl : m ≤ n) :
    OpJ P S e ⟨dst, .slice t X none (some Y) none, ty, pos, after, guard⟩ (slC w0 (tabC m F)) :=
  opj_value fun a w _ ho => by
    have h1 := (ho X (by simp [Op.operands]) _ hx).inv_q
    have h2 := (ho Y (by simp [Op.operands]) _ hy).inv_raw
    subst hm
    obtain ⟨c, len, cap, hv, hlen, hc, hrd⟩ := rd_part3 h1 (l := 0) (m := m) (Nat.zero_le _) (by simpa using hl)
    have hlen' : len = n := by simpa using hlen
    have hel : P.elem t = el := by simp [Program.elem, hu.h]
    have ht : P.underlying t = some (.slice (P.elem t)) := by rw [hel]; exact hu.h
    have hr := run_slice_h (P := P) (w := w) t c len cap ht k (m : Nat) (by omega) (by omega)
    rw [hel, run_size hi] at hr
    have hs := run_sliceAt_slice (P := P) w t (.slice c len cap) none (some (.int k (m : Nat))) none ht
    have e1 : ((tabC n F).map cA).drop 0 = (tabC n F).map cA := rfl
    have e2 : ((tabC n F).map cA).take m = (tabC m F).map cA := by
      rw [← List.map_take]
      congr 1
      unfold tabC
      rw [← List.map_take, List.take_range, Nat.min_eq_left hl]
    rw [e1, Nat.sub_zero, e2] at hrd
    exact ⟨_, w, by simp [execOp, h2, hv, hs, hr], Ext.refl _, .q hrd⟩
theorem tabC_dropK {n m : Nat} (F : Nat → CV) (h : m ≤ n) : ((tabC n F).map cA).drop m = (tabC (n - m) (fun i => F (i + m))).map cA := by
  rw [← List.map_drop]
  congr 1
  refine List.ext_getElem? fun i => ?_
  rw [List.getElem?_drop]
  rcases Nat.lt_or_ge i (n - m) with h1 | h1
  · rw [tabC_get F (by omega), tabC_get _ h1, Nat.add_comm]
  · rw [List.getElem?_eq_none (by simp; omega), List.getElem?_eq_none (by simp; omega)]
omit [RStab R] in
theorem opj_dropC (m : Nat) {z : Value} {b : Nat} {X Y : Operand} {n : Nat} {F : Nat → CV} {k : IntKind} {h : Int} [hu : TyU P t (.slice el)] [hi : TyI P el z 1 b]
    (hx : e.ev X = some (slC w0 (tabC n F))) (hy : e.ev Y = some (.raw (.int k h))) (hm : h = (m : Nat)) (hl : m ≤ n) :
    OpJ P S e ⟨dst, .slice t X (some Y) none none, ty, pos, after, guard⟩ (slC w0 (tabC (n - m) (fun i => F (i + m)))) := by
  have := opj_slice_l (P := P) (S := S) (e := e) (dst := dst) (ty := ty) (pos := pos) (after := after) (guard := guard) (t := t) (hi := hi) hx hy (by omega) (by simp; omega)
  rw [show h.toNat = m by omega, tabC_dropK F hl] at this
  exact this
theorem entC_app {g c n m : Nat} {F G : Nat → CV} (h : ∀ i, i < m → F (n + i) = G i) : (⟨g, 31, (tabC n F).map cA ++ (tabC m G).map cA, c * 1⟩ : Ent) = entC g (n + m) F c := by
  unfold entC
  rw [Nat.mul_one, ← List.map_append]
  congr 2
  refine List.ext_getElem? fun i => ?_
  rcases Nat.lt_or_ge i n with h1 | h1
  · rw [List.getElem?_append_left (by simp; omega), tabC_get F h1, tabC_get F (by omega)]
  · rw [List.getElem?_append_right (by simp; omega), tabC_length]
    rcases Nat.lt_or_ge i (n + m) with h2 | h2
    · rw [tabC_get G (by omega), tabC_get F h2, ← h (i - n) (by omega), show n + (i - n) = i by omega]
    · rw [List.getElem?_eq_none (by simp; omega), List.getElem?_eq_none (by simp; omega)]
end
/-- The points with a knot more. -/
def putP (f : Int → FV) (k : Int) (u : FV) (d : Int) (P : Nat → CV) (j : Nat) : CV := insPF f k u d (ptI P) j
attribute [local irreducible] WS RS Done OpJ Then InBlock Round Ret Env.sub FnH
attribute [local irreducible] tab tabC
set_option maxRecDepth 100000 in
set_option maxHeartbeats 4000000 in
theorem put_fn {d n : Nat} {f : Int → FV} {P : Nat → CV} {a : Int → Int} (h : SpOk d n f P a) {u : FV} {υ : Int} (hu : Gd u υ) (h0 : a 0 ≤ υ) :
    FnH (X := (Nat × Nat) × Nat × Nat) Try.prog 30 (fun w => [splA w d n f P, .f .f32 u]) [] (fun y => splO y.1.1 y.1.2 d (n + 1) y.2.1 y.2.2)
      (fun y => [entF y.1.1 29 (n + 1 + d + 1) (insKF f (spanN a d υ (n - 1) : Nat) u) y.2.1, entC y.1.2 (n + 1) (putP f (spanN a d υ (n - 1) : Nat) u d P) y.2.2]) (fun y => (n + 1 + d + 1 ≤ y.2.1 ∧ y.2.1 ≤ maxLen) ∧ n + 1 ≤ y.2.2 ∧ y.2.2 ≤ maxLen) := by
  obtain ⟨d1, d2⟩ := h.d1
  obtain ⟨n1, n2⟩ := h.n1
  have hS := span_fn h hu h0
  obtain ⟨k1, k2, _, _⟩ := h.span h0
  generalize spanN a d υ (n - 1) = k at *
  have hCF := cloneFU_fn (n + d + 1) f (by omega) (by omega)
  have hCC := cloneC_fn (k - d + 1) P (by omega) (by omega)
  have hI : ∀ gk ck gu : Nat, (n + d + 1 ≤ ck ∧ ck ≤ maxLen) → FnH (X := Nat × Nat) Try.prog 50 (fun _ => [.raw (.slice (some ⟨gk, 0, none⟩) (n + d + 1) ck), .raw (.int .i64 ((k : Int) + 1)), .raw (.slice (some ⟨gu, 0, none⟩) 1 1)]) [entF gk 29 (n + d + 1) f ck, ⟨gu, 29, [.f .f32 u], 1⟩]
      (fun y => .raw (.slice (some ⟨y.1, 0, none⟩) (n + 1 + d + 1) y.2)) (fun y => [entF y.1 29 (n + 1 + d + 1) (insKF f k u) y.2]) (fun y => n + 1 + d + 1 ≤ y.2 ∧ y.2 ≤ maxLen) := fun gk ck gu hck => by
    have := insert_fn gk (n + d + 1) ck gu 1 (k + 1) f u (by omega) (by omega) (by omega) hck ⟨Nat.le_refl _, by simp only [maxLen]; omega⟩
    rw [show ((k + 1 : Nat) : Int) - 1 = k by omega, show ((k + 1 : Nat) : Int) = (k : Int) + 1 by omega, show n + d + 1 + 1 = n + 1 + d + 1 by omega, ← entF_one gu 1 29 (fun _ => u)] at this
    exact this
  refine fn_intro Try.func30 rfl Try.ntmps30 (fun _ => Nat.le_of_ble_eq_true rfl) fun w0 => ?_
  repeat first | refine zah ?_ | (refine zcr ?_; refine zcs ?_) | (refine zdb ?_; first | refine zdc ?_ | refine zdd ?_) | (refine zak rfl rfl rfl ?_; intro gx) | (refine zal rfl rfl ?_; intro gr)
  refine ws_draw (n := 7) mixed (by decide +kernel) ?_
  repeat first | refine zap rfl (zay rfl) ?_ | refine zap rfl (zaz rfl) ?_ | (refine zat ?_; first | refine zap rfl (zcf rfl rfl (by (repeat (first | exact mh | refine mt ?_)); done) rfl) ?_ | refine zap rfl (zcg rfl rfl (by (repeat (first | exact mh | refine mt ?_)); done) rfl rfl) ?_) | refine zap rfl (zcd rfl) ?_ | refine zav ?_ | refine zap rfl (zci rfl rfl hS (Takes.spl (Takes.same Takes.nil))) ?_
  repeat first | refine zah ?_ | (refine zcr ?_; refine zcs ?_) | (refine zdb ?_; refine zdc ?_)
  refine WS.weak (e' := [(1, .f .f32 u), (2, .raw (.pointer (some ⟨gx, 0, none⟩))), (4, .raw (.pointer (some ⟨gr, 0, none⟩))), (5, .raw (.int .i64 (d : Int))), (6, .raw (.int .i64 (k : Int)))]) (S' := St w0 [] [⟨gr, 27, [.raw (.int .i64 0), .raw (.slice none 0 0), .raw (.slice none 0 0)], 3⟩, ⟨gx, 27, [.raw (.int .i64 (d : Int)), AV.sl w0 1 ((tab (n + d + 1) f).map (AV.f .f32)), slC w0 (tabC n P)], 3⟩]) ?_ (by (repeat (first | exact Env.sub_nil _ | refine Env.sub_cons rfl ?_))) (fun w h => h)
  refine ws_K2 (Y := Nat × Nat × Nat) (E := fun ⟨gi, ci, g8⟩ => [(25, .agg [.raw (.int .i64 (d : Int)), .raw (.slice (some ⟨gi, 0, none⟩) (n + 1 + d + 1) ci), .raw (.slice none 0 0)]), (7, .raw (.pointer (some ⟨g8, 0, none⟩))), (22, .f .f32 u), (21, .raw (.int .i64 ((k : Int) + 1))), (20, .raw (.int .i64 (k : Int))), (18, AV.sl w0 1 ((tab (n + d + 1) f).map (AV.f .f32))), (17, .raw (.pointer (some ⟨gx, 0 + 1, none⟩))), (16, .raw (.int .i64 (d : Int))), (15, .raw (.pointer (some ⟨gx, 0 + 0, none⟩))), (1, .f .f32 u), (2, .raw (.pointer (some ⟨gx, 0, none⟩))), (4, .raw (.pointer (some ⟨gr, 0, none⟩))), (5, .raw (.int .i64 (d : Int))), (6, .raw (.int .i64 (k : Int)))]) (SS := fun ⟨gi, ci, g8⟩ => St w0 [] [⟨g8, 27, [.raw (.int .i64 (d : Int)), .raw (.slice (some ⟨gi, 0, none⟩) (n + 1 + d + 1) ci), .raw (.slice none 0 0)], 3⟩, entF gi 29 (n + 1 + d + 1) (insKF f k u) ci, ⟨gr, 27, [.raw (.int .i64 0), .raw (.slice none 0 0), .raw (.slice none 0 0)], 3⟩, ⟨gx, 27, [.raw (.int .i64 (d : Int)), AV.sl w0 1 ((tab (n + d + 1) f).map (AV.f .f32)), slC w0 (tabC n P)], 3⟩]) (ok := fun ⟨gi, ci, g8⟩ => n + 1 + d + 1 ≤ ci ∧ ci ≤ maxLen) (fun hD0 => ?_) (fun y hy => ?_)
  · have hD := fun gi ci g8 h => hD0 (gi, ci, g8) h
    refine ws_drawP (ix := [0, 1, 2, 3, 5, 6, 7]) (W := St w0 [] [⟨gx, 27, [.raw (.int .i64 (d : Int)), AV.sl w0 1 ((tab (n + d + 1) f).map (AV.f .f32)), slC w0 (tabC n P)], 3⟩]) mixed (by decide +kernel) (fun _ h => h.sel [1] (by decide) rfl) ?_
    repeat first | refine zap rfl (zay rfl) ?_ | (refine zar ?_; refine zap rfl (zbb rfl rfl (by omega)) ?_) | (refine zat ?_; refine zap rfl (zcf rfl rfl (by (repeat (first | exact mh | refine mt ?_)); done) rfl) ?_) | refine zap rfl (zcd rfl) ?_ | refine zav ?_
    refine ⟨rfl, ?_⟩
    refine gp_name fun o ho Q' hQ => ?_
    have hso : slotsOf o [0, 1, 2, 3, 5, 6, 7] = [15, 2, 16, 15, 17, 2, 18, 17, 20, 6, 21, 20, 22, 1] := by rw [ho]; decide +kernel
    have q4 := op_at (i := 4) ho rfl
    have q8 := op_at (i := 8) ho rfl
    have q9 := op_at (i := 9) ho rfl
    have q10 := op_at (i := 10) ho rfl
    have q11 := op_at (i := 11) ho rfl
    have q12 := op_at (i := 12) ho rfl
    have v_4_8_9_10_11_12 : ∀ (gi ci g8 : Nat) (_ : n + 1 + d + 1 ≤ ci ∧ ci ≤ maxLen), GP Try.prog 92 o [0, 1, 2, 3, 5, 6, 7] (St w0 [] [⟨gx, 27, [.raw (.int .i64 (d : Int)), AV.sl w0 1 ((tab (n + d + 1) f).map (AV.f .f32)), slC w0 (tabC n P)], 3⟩]) [12, 11, 10, 9, 8, 4] [(25, .agg [.raw (.int .i64 (d : Int)), .raw (.slice (some ⟨gi, 0, none⟩) (n + 1 + d + 1) ci), .raw (.slice none 0 0)]), (7, .raw (.pointer (some ⟨g8, 0, none⟩))), (22, .f .f32 u), (21, .raw (.int .i64 ((k : Int) + 1))), (20, .raw (.int .i64 (k : Int))), (18, AV.sl w0 1 ((tab (n + d + 1) f).map (AV.f .f32))), (17, .raw (.pointer (some ⟨gx, 0 + 1, none⟩))), (16, .raw (.int .i64 (d : Int))), (15, .raw (.pointer (some ⟨gx, 0 + 0, none⟩))), (1, .f .f32 u), (2, .raw (.pointer (some ⟨gx, 0, none⟩))), (4, .raw (.pointer (some ⟨gr, 0, none⟩))), (5, .raw (.int .i64 (d : Int))), (6, .raw (.int .i64 (k : Int)))] (St w0 [] [⟨g8, 27, [.raw (.int .i64 (d : Int)), .raw (.slice (some ⟨gi, 0, none⟩) (n + 1 + d + 1) ci), .raw (.slice none 0 0)], 3⟩, entF gi 29 (n + 1 + d + 1) (insKF f k u) ci, ⟨gr, 27, [.raw (.int .i64 0), .raw (.slice none 0 0), .raw (.slice none 0 0)], 3⟩, ⟨gx, 27, [.raw (.int .i64 (d : Int)), AV.sl w0 1 ((tab (n + d + 1) f).map (AV.f .f32)), slC w0 (tabC n P)], 3⟩]) Q' := fun gi ci g8 hci => by
      refine gp_end (by rw [ho]; decide +kernel) ?_
      rw [hQ]
      exact hD gi ci g8 hci
    have v_4_8_9_10_11 : ∀ (gi ci g8 : Nat) (_ : n + 1 + d + 1 ≤ ci ∧ ci ≤ maxLen), GP Try.prog 92 o [0, 1, 2, 3, 5, 6, 7] (St w0 [] [⟨gx, 27, [.raw (.int .i64 (d : Int)), AV.sl w0 1 ((tab (n + d + 1) f).map (AV.f .f32)), slC w0 (tabC n P)], 3⟩]) [11, 10, 9, 8, 4] [(25, .agg [.raw (.int .i64 (d : Int)), .raw (.slice (some ⟨gi, 0, none⟩) (n + 1 + d + 1) ci), .raw (.slice none 0 0)]), (7, .raw (.pointer (some ⟨g8, 0, none⟩))), (22, .f .f32 u), (21, .raw (.int .i64 ((k : Int) + 1))), (20, .raw (.int .i64 (k : Int))), (18, AV.sl w0 1 ((tab (n + d + 1) f).map (AV.f .f32))), (17, .raw (.pointer (some ⟨gx, 0 + 1, none⟩))), (16, .raw (.int .i64 (d : Int))), (15, .raw (.pointer (some ⟨gx, 0 + 0, none⟩))), (1, .f .f32 u), (2, .raw (.pointer (some ⟨gx, 0, none⟩))), (4, .raw (.pointer (some ⟨gr, 0, none⟩))), (5, .raw (.int .i64 (d : Int))), (6, .raw (.int .i64 (k : Int)))] (St w0 [] [⟨g8, 27, [.raw (.int .i64 0), .raw (.slice none 0 0), .raw (.slice none 0 0)], 3⟩, entF gi 29 (n + 1 + d + 1) (insKF f k u) ci, ⟨gr, 27, [.raw (.int .i64 0), .raw (.slice none 0 0), .raw (.slice none 0 0)], 3⟩, ⟨gx, 27, [.raw (.int .i64 (d : Int)), AV.sl w0 1 ((tab (n + d + 1) f).map (AV.f .f32)), slC w0 (tabC n P)], 3⟩]) Q' := fun gi ci g8 hci => by
      refine gp_step [12] (by rw [ho]; decide +kernel) fun x hx => ?_
      obtain rfl : x = 12 := by simpa using hx
      exact sp_eff q12 (by rw [ho]; decide +kernel) (effj_storeAX 0 rfl rfl rfl rfl rfl rfl rfl rfl rfl) (cont_go (fun _ h => h.sel [3] (by decide) rfl) (gp_end (by rw [ho]; decide +kernel) (by rw [hQ]; exact hD gi ci g8 hci)))
    have v_4_8_9_11 : ∀ (gi ci g8 : Nat) (_ : n + 1 + d + 1 ≤ ci ∧ ci ≤ maxLen), GP Try.prog 92 o [0, 1, 2, 3, 5, 6, 7] (St w0 [] [⟨gx, 27, [.raw (.int .i64 (d : Int)), AV.sl w0 1 ((tab (n + d + 1) f).map (AV.f .f32)), slC w0 (tabC n P)], 3⟩]) [11, 9, 8, 4] [(7, .raw (.pointer (some ⟨g8, 0, none⟩))), (24, .raw (.slice (some ⟨gi, 0, none⟩) (n + 1 + d + 1) ci)), (22, .f .f32 u), (21, .raw (.int .i64 ((k : Int) + 1))), (20, .raw (.int .i64 (k : Int))), (18, AV.sl w0 1 ((tab (n + d + 1) f).map (AV.f .f32))), (17, .raw (.pointer (some ⟨gx, 0 + 1, none⟩))), (16, .raw (.int .i64 (d : Int))), (15, .raw (.pointer (some ⟨gx, 0 + 0, none⟩))), (1, .f .f32 u), (2, .raw (.pointer (some ⟨gx, 0, none⟩))), (4, .raw (.pointer (some ⟨gr, 0, none⟩))), (5, .raw (.int .i64 (d : Int))), (6, .raw (.int .i64 (k : Int)))] (St w0 [] [⟨g8, 27, [.raw (.int .i64 0), .raw (.slice none 0 0), .raw (.slice none 0 0)], 3⟩, entF gi 29 (n + 1 + d + 1) (insKF f k u) ci, ⟨gr, 27, [.raw (.int .i64 0), .raw (.slice none 0 0), .raw (.slice none 0 0)], 3⟩, ⟨gx, 27, [.raw (.int .i64 (d : Int)), AV.sl w0 1 ((tab (n + d + 1) f).map (AV.f .f32)), slC w0 (tabC n P)], 3⟩]) Q' := fun gi ci g8 hci => by
      refine gp_step [10] (by rw [ho]; decide +kernel) fun x hx => ?_
      obtain rfl : x = 10 := by simpa using hx
      exact sp_op q10 (by rw [ho]; decide +kernel) rfl (opj_build01 rfl rfl) rfl (cont_go (fun _ h => h.sel [3] (by decide) rfl) (gp_to (v_4_8_9_10_11 gi ci g8 hci) (by decide +kernel) (by (repeat (first | exact Env.sub_nil _ | refine Env.sub_cons rfl ?_))) (by rw [hso]; exact ⟨rfl, rfl, rfl, rfl, rfl, rfl, rfl, rfl, rfl, rfl, rfl, rfl, rfl, rfl, trivial⟩) rfl (fun _ h => h.sel [0, 1, 2, 3] (by decide) rfl) (fun _ h => h.sel [3] (by decide) rfl)))
    have v_4_8_9_10 : ∀ (gi ci : Nat) (_ : n + 1 + d + 1 ≤ ci ∧ ci ≤ maxLen), GP Try.prog 92 o [0, 1, 2, 3, 5, 6, 7] (St w0 [] [⟨gx, 27, [.raw (.int .i64 (d : Int)), AV.sl w0 1 ((tab (n + d + 1) f).map (AV.f .f32)), slC w0 (tabC n P)], 3⟩]) [10, 9, 8, 4] [(25, .agg [.raw (.int .i64 (d : Int)), .raw (.slice (some ⟨gi, 0, none⟩) (n + 1 + d + 1) ci), .raw (.slice none 0 0)]), (22, .f .f32 u), (21, .raw (.int .i64 ((k : Int) + 1))), (20, .raw (.int .i64 (k : Int))), (18, AV.sl w0 1 ((tab (n + d + 1) f).map (AV.f .f32))), (17, .raw (.pointer (some ⟨gx, 0 + 1, none⟩))), (16, .raw (.int .i64 (d : Int))), (15, .raw (.pointer (some ⟨gx, 0 + 0, none⟩))), (1, .f .f32 u), (2, .raw (.pointer (some ⟨gx, 0, none⟩))), (4, .raw (.pointer (some ⟨gr, 0, none⟩))), (5, .raw (.int .i64 (d : Int))), (6, .raw (.int .i64 (k : Int)))] (St w0 [] [entF gi 29 (n + 1 + d + 1) (insKF f k u) ci, ⟨gr, 27, [.raw (.int .i64 0), .raw (.slice none 0 0), .raw (.slice none 0 0)], 3⟩, ⟨gx, 27, [.raw (.int .i64 (d : Int)), AV.sl w0 1 ((tab (n + d + 1) f).map (AV.f .f32)), slC w0 (tabC n P)], 3⟩]) Q' := fun gi ci hci => by
      refine gp_step [11] (by rw [ho]; decide +kernel) fun x hx => ?_
      obtain rfl : x = 11 := by simpa using hx
      exact sp_makes q11 rfl (by rw [ho]; decide +kernel) rfl (makesX_alloc rfl rfl rfl) fun g8 => cont_go (fun _ h => h.sel [3] (by decide) rfl) (gp_to (v_4_8_9_10_11 gi ci g8 hci) (by decide +kernel) (by (repeat (first | exact Env.sub_nil _ | refine Env.sub_cons rfl ?_))) (by rw [hso]; exact ⟨rfl, rfl, rfl, rfl, rfl, rfl, rfl, rfl, rfl, rfl, rfl, rfl, rfl, rfl, trivial⟩) rfl (fun _ h => h.sel [0, 1, 2, 3] (by decide) rfl) (fun _ h => h.sel [3] (by decide) rfl))
    have v_4_8_11 : ∀ (gk ck gu g8 : Nat) (_ : n + d + 1 ≤ ck ∧ ck ≤ maxLen), GP Try.prog 92 o [0, 1, 2, 3, 5, 6, 7] (St w0 [] [⟨gx, 27, [.raw (.int .i64 (d : Int)), AV.sl w0 1 ((tab (n + d + 1) f).map (AV.f .f32)), slC w0 (tabC n P)], 3⟩]) [11, 8, 4] [(7, .raw (.pointer (some ⟨g8, 0, none⟩))), (23, .raw (.slice (some ⟨gu, 0, none⟩) (1) 1)), (19, .raw (.slice (some ⟨gk, 0, none⟩) (n + d + 1) ck)), (22, .f .f32 u), (21, .raw (.int .i64 ((k : Int) + 1))), (20, .raw (.int .i64 (k : Int))), (18, AV.sl w0 1 ((tab (n + d + 1) f).map (AV.f .f32))), (17, .raw (.pointer (some ⟨gx, 0 + 1, none⟩))), (16, .raw (.int .i64 (d : Int))), (15, .raw (.pointer (some ⟨gx, 0 + 0, none⟩))), (1, .f .f32 u), (2, .raw (.pointer (some ⟨gx, 0, none⟩))), (4, .raw (.pointer (some ⟨gr, 0, none⟩))), (5, .raw (.int .i64 (d : Int))), (6, .raw (.int .i64 (k : Int)))] (St w0 [] [⟨g8, 27, [.raw (.int .i64 0), .raw (.slice none 0 0), .raw (.slice none 0 0)], 3⟩, ⟨gu, 29, [.f .f32 u], 1⟩, entF gk 29 (n + d + 1) f ck, ⟨gr, 27, [.raw (.int .i64 0), .raw (.slice none 0 0), .raw (.slice none 0 0)], 3⟩, ⟨gx, 27, [.raw (.int .i64 (d : Int)), AV.sl w0 1 ((tab (n + d + 1) f).map (AV.f .f32)), slC w0 (tabC n P)], 3⟩]) Q' := fun gk ck gu g8 hck => by
      refine gp_step [9] (by rw [ho]; decide +kernel) fun x hx => ?_
      obtain rfl : x = 9 := by simpa using hx
      refine sp_callP (H' := [⟨g8, 27, [.raw (.int .i64 0), .raw (.slice none 0 0), .raw (.slice none 0 0)], 3⟩, ⟨gr, 27, [.raw (.int .i64 0), .raw (.slice none 0 0), .raw (.slice none 0 0)], 3⟩, ⟨gx, 27, [.raw (.int .i64 (d : Int)), AV.sl w0 1 ((tab (n + d + 1) f).map (AV.f .f32)), slC w0 (tabC n P)], 3⟩]) q9 (by rw [ho]; decide +kernel) rfl (hI gk ck gu hck) (fun _ h => h.sel [2, 1, 0, 3, 4] (by decide) rfl) rfl rfl (Takes.same (Takes.same (Takes.same Takes.nil))) (fun _ _ => rfl) ?_
      rintro ⟨gi, ci⟩ hci
      dsimp only at hci
      exact cont_go (fun _ h => h.sel [3] (by decide) rfl) (gp_to (v_4_8_9_11 gi ci g8 hci) (by decide +kernel) (by (repeat (first | exact Env.sub_nil _ | refine Env.sub_cons rfl ?_))) (by rw [hso]; exact ⟨rfl, rfl, rfl, rfl, rfl, rfl, rfl, rfl, rfl, rfl, rfl, rfl, rfl, rfl, trivial⟩) rfl (fun _ h => h.sel [1, 0, 2, 3] (by decide) rfl) (fun _ h => h.sel [3] (by decide) rfl))
    have v_4_8_9 : ∀ (gi ci : Nat) (_ : n + 1 + d + 1 ≤ ci ∧ ci ≤ maxLen), GP Try.prog 92 o [0, 1, 2, 3, 5, 6, 7] (St w0 [] [⟨gx, 27, [.raw (.int .i64 (d : Int)), AV.sl w0 1 ((tab (n + d + 1) f).map (AV.f .f32)), slC w0 (tabC n P)], 3⟩]) [9, 8, 4] [(24, .raw (.slice (some ⟨gi, 0, none⟩) (n + 1 + d + 1) ci)), (22, .f .f32 u), (21, .raw (.int .i64 ((k : Int) + 1))), (20, .raw (.int .i64 (k : Int))), (18, AV.sl w0 1 ((tab (n + d + 1) f).map (AV.f .f32))), (17, .raw (.pointer (some ⟨gx, 0 + 1, none⟩))), (16, .raw (.int .i64 (d : Int))), (15, .raw (.pointer (some ⟨gx, 0 + 0, none⟩))), (1, .f .f32 u), (2, .raw (.pointer (some ⟨gx, 0, none⟩))), (4, .raw (.pointer (some ⟨gr, 0, none⟩))), (5, .raw (.int .i64 (d : Int))), (6, .raw (.int .i64 (k : Int)))] (St w0 [] [entF gi 29 (n + 1 + d + 1) (insKF f k u) ci, ⟨gr, 27, [.raw (.int .i64 0), .raw (.slice none 0 0), .raw (.slice none 0 0)], 3⟩, ⟨gx, 27, [.raw (.int .i64 (d : Int)), AV.sl w0 1 ((tab (n + d + 1) f).map (AV.f .f32)), slC w0 (tabC n P)], 3⟩]) Q' := fun gi ci hci => by
      refine gp_step [11, 10] (by rw [ho]; decide +kernel) fun x hx => ?_
      rcases (show x = 11 ∨ x = 10 by simpa using hx) with rfl | rfl
      · exact sp_makes q11 rfl (by rw [ho]; decide +kernel) rfl (makesX_alloc rfl rfl rfl) fun g8 => cont_go (fun _ h => h.sel [3] (by decide) rfl) (gp_to (v_4_8_9_11 gi ci g8 hci) (by decide +kernel) (by (repeat (first | exact Env.sub_nil _ | refine Env.sub_cons rfl ?_))) (by rw [hso]; exact ⟨rfl, rfl, rfl, rfl, rfl, rfl, rfl, rfl, rfl, rfl, rfl, rfl, rfl, rfl, trivial⟩) rfl (fun _ h => h.sel [0, 1, 2, 3] (by decide) rfl) (fun _ h => h.sel [3] (by decide) rfl))
      · exact sp_op q10 (by rw [ho]; decide +kernel) rfl (opj_build01 rfl rfl) rfl (cont_go (fun _ h => h.sel [2] (by decide) rfl) (gp_to (v_4_8_9_10 gi ci hci) (by decide +kernel) (by (repeat (first | exact Env.sub_nil _ | refine Env.sub_cons rfl ?_))) (by rw [hso]; exact ⟨rfl, rfl, rfl, rfl, rfl, rfl, rfl, rfl, rfl, rfl, rfl, rfl, rfl, rfl, trivial⟩) rfl (fun _ h => h.sel [0, 1, 2] (by decide) rfl) (fun _ h => h.sel [2] (by decide) rfl)))
    have v_4_8 : ∀ (gk ck gu : Nat) (_ : n + d + 1 ≤ ck ∧ ck ≤ maxLen), GP Try.prog 92 o [0, 1, 2, 3, 5, 6, 7] (St w0 [] [⟨gx, 27, [.raw (.int .i64 (d : Int)), AV.sl w0 1 ((tab (n + d + 1) f).map (AV.f .f32)), slC w0 (tabC n P)], 3⟩]) [8, 4] [(23, .raw (.slice (some ⟨gu, 0, none⟩) (1) 1)), (19, .raw (.slice (some ⟨gk, 0, none⟩) (n + d + 1) ck)), (22, .f .f32 u), (21, .raw (.int .i64 ((k : Int) + 1))), (20, .raw (.int .i64 (k : Int))), (18, AV.sl w0 1 ((tab (n + d + 1) f).map (AV.f .f32))), (17, .raw (.pointer (some ⟨gx, 0 + 1, none⟩))), (16, .raw (.int .i64 (d : Int))), (15, .raw (.pointer (some ⟨gx, 0 + 0, none⟩))), (1, .f .f32 u), (2, .raw (.pointer (some ⟨gx, 0, none⟩))), (4, .raw (.pointer (some ⟨gr, 0, none⟩))), (5, .raw (.int .i64 (d : Int))), (6, .raw (.int .i64 (k : Int)))] (St w0 [] [⟨gu, 29, [.f .f32 u], 1⟩, entF gk 29 (n + d + 1) f ck, ⟨gr, 27, [.raw (.int .i64 0), .raw (.slice none 0 0), .raw (.slice none 0 0)], 3⟩, ⟨gx, 27, [.raw (.int .i64 (d : Int)), AV.sl w0 1 ((tab (n + d + 1) f).map (AV.f .f32)), slC w0 (tabC n P)], 3⟩]) Q' := fun gk ck gu hck => by
      refine gp_step [11, 9] (by rw [ho]; decide +kernel) fun x hx => ?_
      rcases (show x = 11 ∨ x = 9 by simpa using hx) with rfl | rfl
      · exact sp_makes q11 rfl (by rw [ho]; decide +kernel) rfl (makesX_alloc rfl rfl rfl) fun g8 => cont_go (fun _ h => h.sel [4] (by decide) rfl) (gp_to (v_4_8_11 gk ck gu g8 hck) (by decide +kernel) (by (repeat (first | exact Env.sub_nil _ | refine Env.sub_cons rfl ?_))) (by rw [hso]; exact ⟨rfl, rfl, rfl, rfl, rfl, rfl, rfl, rfl, rfl, rfl, rfl, rfl, rfl, rfl, trivial⟩) rfl (fun _ h => h.sel [0, 1, 2, 3, 4] (by decide) rfl) (fun _ h => h.sel [4] (by decide) rfl))
      · refine sp_callP (H' := [⟨gr, 27, [.raw (.int .i64 0), .raw (.slice none 0 0), .raw (.slice none 0 0)], 3⟩, ⟨gx, 27, [.raw (.int .i64 (d : Int)), AV.sl w0 1 ((tab (n + d + 1) f).map (AV.f .f32)), slC w0 (tabC n P)], 3⟩]) q9 (by rw [ho]; decide +kernel) rfl (hI gk ck gu hck) (fun _ h => h.sel [1, 0, 2, 3] (by decide) rfl) rfl rfl (Takes.same (Takes.same (Takes.same Takes.nil))) (fun _ _ => rfl) ?_
        rintro ⟨gi, ci⟩ hci
        dsimp only at hci
        exact cont_go (fun _ h => h.sel [2] (by decide) rfl) (gp_to (v_4_8_9 gi ci hci) (by decide +kernel) (by (repeat (first | exact Env.sub_nil _ | refine Env.sub_cons rfl ?_))) (by rw [hso]; exact ⟨rfl, rfl, rfl, rfl, rfl, rfl, rfl, rfl, rfl, rfl, rfl, rfl, rfl, rfl, trivial⟩) rfl (fun _ h => h.sel [0, 1, 2] (by decide) rfl) (fun _ h => h.sel [2] (by decide) rfl))
    have v_4_11 : ∀ (gk ck g8 : Nat) (_ : n + d + 1 ≤ ck ∧ ck ≤ maxLen), GP Try.prog 92 o [0, 1, 2, 3, 5, 6, 7] (St w0 [] [⟨gx, 27, [.raw (.int .i64 (d : Int)), AV.sl w0 1 ((tab (n + d + 1) f).map (AV.f .f32)), slC w0 (tabC n P)], 3⟩]) [11, 4] [(7, .raw (.pointer (some ⟨g8, 0, none⟩))), (19, .raw (.slice (some ⟨gk, 0, none⟩) (n + d + 1) ck)), (22, .f .f32 u), (21, .raw (.int .i64 ((k : Int) + 1))), (20, .raw (.int .i64 (k : Int))), (18, AV.sl w0 1 ((tab (n + d + 1) f).map (AV.f .f32))), (17, .raw (.pointer (some ⟨gx, 0 + 1, none⟩))), (16, .raw (.int .i64 (d : Int))), (15, .raw (.pointer (some ⟨gx, 0 + 0, none⟩))), (1, .f .f32 u), (2, .raw (.pointer (some ⟨gx, 0, none⟩))), (4, .raw (.pointer (some ⟨gr, 0, none⟩))), (5, .raw (.int .i64 (d : Int))), (6, .raw (.int .i64 (k : Int)))] (St w0 [] [⟨g8, 27, [.raw (.int .i64 0), .raw (.slice none 0 0), .raw (.slice none 0 0)], 3⟩, entF gk 29 (n + d + 1) f ck, ⟨gr, 27, [.raw (.int .i64 0), .raw (.slice none 0 0), .raw (.slice none 0 0)], 3⟩, ⟨gx, 27, [.raw (.int .i64 (d : Int)), AV.sl w0 1 ((tab (n + d + 1) f).map (AV.f .f32)), slC w0 (tabC n P)], 3⟩]) Q' := fun gk ck g8 hck => by
      refine gp_step [8] (by rw [ho]; decide +kernel) fun x hx => ?_
      obtain rfl : x = 8 := by simpa using hx
      exact sp_lit (xs := [.f .f32 u]) q8 (by rw [ho]; decide +kernel) rfl rfl rfl rfl rfl rfl fun gu => cont_go (fun _ h => h.sel [4] (by decide) rfl) (gp_to (v_4_8_11 gk ck gu g8 hck) (by decide +kernel) (by (repeat (first | exact Env.sub_nil _ | refine Env.sub_cons rfl ?_))) (by rw [hso]; exact ⟨rfl, rfl, rfl, rfl, rfl, rfl, rfl, rfl, rfl, rfl, rfl, rfl, rfl, rfl, trivial⟩) rfl (fun _ h => h.sel [1, 0, 2, 3, 4] (by decide) rfl) (fun _ h => h.sel [4] (by decide) rfl))
    have v_8_11 : ∀ (gu g8 : Nat), GP Try.prog 92 o [0, 1, 2, 3, 5, 6, 7] (St w0 [] [⟨gx, 27, [.raw (.int .i64 (d : Int)), AV.sl w0 1 ((tab (n + d + 1) f).map (AV.f .f32)), slC w0 (tabC n P)], 3⟩]) [11, 8] [(7, .raw (.pointer (some ⟨g8, 0, none⟩))), (23, .raw (.slice (some ⟨gu, 0, none⟩) (1) 1)), (22, .f .f32 u), (21, .raw (.int .i64 ((k : Int) + 1))), (20, .raw (.int .i64 (k : Int))), (18, AV.sl w0 1 ((tab (n + d + 1) f).map (AV.f .f32))), (17, .raw (.pointer (some ⟨gx, 0 + 1, none⟩))), (16, .raw (.int .i64 (d : Int))), (15, .raw (.pointer (some ⟨gx, 0 + 0, none⟩))), (1, .f .f32 u), (2, .raw (.pointer (some ⟨gx, 0, none⟩))), (4, .raw (.pointer (some ⟨gr, 0, none⟩))), (5, .raw (.int .i64 (d : Int))), (6, .raw (.int .i64 (k : Int)))] (St w0 [] [⟨g8, 27, [.raw (.int .i64 0), .raw (.slice none 0 0), .raw (.slice none 0 0)], 3⟩, ⟨gu, 29, [.f .f32 u], 1⟩, ⟨gr, 27, [.raw (.int .i64 0), .raw (.slice none 0 0), .raw (.slice none 0 0)], 3⟩, ⟨gx, 27, [.raw (.int .i64 (d : Int)), AV.sl w0 1 ((tab (n + d + 1) f).map (AV.f .f32)), slC w0 (tabC n P)], 3⟩]) Q' := fun gu g8 => by
      refine gp_step [4] (by rw [ho]; decide +kernel) fun x hx => ?_
      obtain rfl : x = 4 := by simpa using hx
      refine sp_call q4 (by rw [ho]; decide +kernel) rfl hCF rfl rfl (by (repeat (first | exact Takes.nil | refine Takes.sl ?_ | refine Takes.lit ?_ | refine Takes.fa ?_ | refine Takes.fc ?_ | refine Takes.net ?_ | (refine Takes.ownE ?_ ?_ ?_ ?_ ?_; (focus (exact ⟨_, _, (by (repeat (first | exact mh | refine mt ?_)); done)⟩)); (focus (simp; done)); (focus omega); (focus (simp only [maxLen]; omega))) | refine Takes.same ?_)); done) (fun _ _ => rfl) ?_
      rintro ⟨gk, ck⟩ hck
      dsimp only at hck
      exact cont_go (fun _ h => h.sel [4] (by decide) rfl) (gp_to (v_4_8_11 gk ck gu g8 hck) (by decide +kernel) (by (repeat (first | exact Env.sub_nil _ | refine Env.sub_cons rfl ?_))) (by rw [hso]; exact ⟨rfl, rfl, rfl, rfl, rfl, rfl, rfl, rfl, rfl, rfl, rfl, rfl, rfl, rfl, trivial⟩) rfl (fun _ h => h.sel [1, 2, 0, 3, 4] (by decide) rfl) (fun _ h => h.sel [4] (by decide) rfl))
    have v_4 : ∀ (gk ck : Nat) (_ : n + d + 1 ≤ ck ∧ ck ≤ maxLen), GP Try.prog 92 o [0, 1, 2, 3, 5, 6, 7] (St w0 [] [⟨gx, 27, [.raw (.int .i64 (d : Int)), AV.sl w0 1 ((tab (n + d + 1) f).map (AV.f .f32)), slC w0 (tabC n P)], 3⟩]) [4] [(19, .raw (.slice (some ⟨gk, 0, none⟩) (n + d + 1) ck)), (22, .f .f32 u), (21, .raw (.int .i64 ((k : Int) + 1))), (20, .raw (.int .i64 (k : Int))), (18, AV.sl w0 1 ((tab (n + d + 1) f).map (AV.f .f32))), (17, .raw (.pointer (some ⟨gx, 0 + 1, none⟩))), (16, .raw (.int .i64 (d : Int))), (15, .raw (.pointer (some ⟨gx, 0 + 0, none⟩))), (1, .f .f32 u), (2, .raw (.pointer (some ⟨gx, 0, none⟩))), (4, .raw (.pointer (some ⟨gr, 0, none⟩))), (5, .raw (.int .i64 (d : Int))), (6, .raw (.int .i64 (k : Int)))] (St w0 [] [entF gk 29 (n + d + 1) f ck, ⟨gr, 27, [.raw (.int .i64 0), .raw (.slice none 0 0), .raw (.slice none 0 0)], 3⟩, ⟨gx, 27, [.raw (.int .i64 (d : Int)), AV.sl w0 1 ((tab (n + d + 1) f).map (AV.f .f32)), slC w0 (tabC n P)], 3⟩]) Q' := fun gk ck hck => by
      refine gp_step [8, 11] (by rw [ho]; decide +kernel) fun x hx => ?_
      rcases (show x = 8 ∨ x = 11 by simpa using hx) with rfl | rfl
      · exact sp_lit (xs := [.f .f32 u]) q8 (by rw [ho]; decide +kernel) rfl rfl rfl rfl rfl rfl fun gu => cont_go (fun _ h => h.sel [3] (by decide) rfl) (gp_to (v_4_8 gk ck gu hck) (by decide +kernel) (by (repeat (first | exact Env.sub_nil _ | refine Env.sub_cons rfl ?_))) (by rw [hso]; exact ⟨rfl, rfl, rfl, rfl, rfl, rfl, rfl, rfl, rfl, rfl, rfl, rfl, rfl, rfl, trivial⟩) rfl (fun _ h => h.sel [0, 1, 2, 3] (by decide) rfl) (fun _ h => h.sel [3] (by decide) rfl))
      · exact sp_makes q11 rfl (by rw [ho]; decide +kernel) rfl (makesX_alloc rfl rfl rfl) fun g8 => cont_go (fun _ h => h.sel [3] (by decide) rfl) (gp_to (v_4_11 gk ck g8 hck) (by decide +kernel) (by (repeat (first | exact Env.sub_nil _ | refine Env.sub_cons rfl ?_))) (by rw [hso]; exact ⟨rfl, rfl, rfl, rfl, rfl, rfl, rfl, rfl, rfl, rfl, rfl, rfl, rfl, rfl, trivial⟩) rfl (fun _ h => h.sel [0, 1, 2, 3] (by decide) rfl) (fun _ h => h.sel [3] (by decide) rfl))
    have v_8 : ∀ (gu : Nat), GP Try.prog 92 o [0, 1, 2, 3, 5, 6, 7] (St w0 [] [⟨gx, 27, [.raw (.int .i64 (d : Int)), AV.sl w0 1 ((tab (n + d + 1) f).map (AV.f .f32)), slC w0 (tabC n P)], 3⟩]) [8] [(23, .raw (.slice (some ⟨gu, 0, none⟩) (1) 1)), (22, .f .f32 u), (21, .raw (.int .i64 ((k : Int) + 1))), (20, .raw (.int .i64 (k : Int))), (18, AV.sl w0 1 ((tab (n + d + 1) f).map (AV.f .f32))), (17, .raw (.pointer (some ⟨gx, 0 + 1, none⟩))), (16, .raw (.int .i64 (d : Int))), (15, .raw (.pointer (some ⟨gx, 0 + 0, none⟩))), (1, .f .f32 u), (2, .raw (.pointer (some ⟨gx, 0, none⟩))), (4, .raw (.pointer (some ⟨gr, 0, none⟩))), (5, .raw (.int .i64 (d : Int))), (6, .raw (.int .i64 (k : Int)))] (St w0 [] [⟨gu, 29, [.f .f32 u], 1⟩, ⟨gr, 27, [.raw (.int .i64 0), .raw (.slice none 0 0), .raw (.slice none 0 0)], 3⟩, ⟨gx, 27, [.raw (.int .i64 (d : Int)), AV.sl w0 1 ((tab (n + d + 1) f).map (AV.f .f32)), slC w0 (tabC n P)], 3⟩]) Q' := fun gu => by
      refine gp_step [4, 11] (by rw [ho]; decide +kernel) fun x hx => ?_
      rcases (show x = 4 ∨ x = 11 by simpa using hx) with rfl | rfl
      · refine sp_call q4 (by rw [ho]; decide +kernel) rfl hCF rfl rfl (by (repeat (first | exact Takes.nil | refine Takes.sl ?_ | refine Takes.lit ?_ | refine Takes.fa ?_ | refine Takes.fc ?_ | refine Takes.net ?_ | (refine Takes.ownE ?_ ?_ ?_ ?_ ?_; (focus (exact ⟨_, _, (by (repeat (first | exact mh | refine mt ?_)); done)⟩)); (focus (simp; done)); (focus omega); (focus (simp only [maxLen]; omega))) | refine Takes.same ?_)); done) (fun _ _ => rfl) ?_
        rintro ⟨gk, ck⟩ hck
        dsimp only at hck
        exact cont_go (fun _ h => h.sel [3] (by decide) rfl) (gp_to (v_4_8 gk ck gu hck) (by decide +kernel) (by (repeat (first | exact Env.sub_nil _ | refine Env.sub_cons rfl ?_))) (by rw [hso]; exact ⟨rfl, rfl, rfl, rfl, rfl, rfl, rfl, rfl, rfl, rfl, rfl, rfl, rfl, rfl, trivial⟩) rfl (fun _ h => h.sel [1, 0, 2, 3] (by decide) rfl) (fun _ h => h.sel [3] (by decide) rfl))
      · exact sp_makes q11 rfl (by rw [ho]; decide +kernel) rfl (makesX_alloc rfl rfl rfl) fun g8 => cont_go (fun _ h => h.sel [3] (by decide) rfl) (gp_to (v_8_11 gu g8) (by decide +kernel) (by (repeat (first | exact Env.sub_nil _ | refine Env.sub_cons rfl ?_))) (by rw [hso]; exact ⟨rfl, rfl, rfl, rfl, rfl, rfl, rfl, rfl, rfl, rfl, rfl, rfl, rfl, rfl, trivial⟩) rfl (fun _ h => h.sel [0, 1, 2, 3] (by decide) rfl) (fun _ h => h.sel [3] (by decide) rfl))
    have v_11 : ∀ (g8 : Nat), GP Try.prog 92 o [0, 1, 2, 3, 5, 6, 7] (St w0 [] [⟨gx, 27, [.raw (.int .i64 (d : Int)), AV.sl w0 1 ((tab (n + d + 1) f).map (AV.f .f32)), slC w0 (tabC n P)], 3⟩]) [11] [(7, .raw (.pointer (some ⟨g8, 0, none⟩))), (22, .f .f32 u), (21, .raw (.int .i64 ((k : Int) + 1))), (20, .raw (.int .i64 (k : Int))), (18, AV.sl w0 1 ((tab (n + d + 1) f).map (AV.f .f32))), (17, .raw (.pointer (some ⟨gx, 0 + 1, none⟩))), (16, .raw (.int .i64 (d : Int))), (15, .raw (.pointer (some ⟨gx, 0 + 0, none⟩))), (1, .f .f32 u), (2, .raw (.pointer (some ⟨gx, 0, none⟩))), (4, .raw (.pointer (some ⟨gr, 0, none⟩))), (5, .raw (.int .i64 (d : Int))), (6, .raw (.int .i64 (k : Int)))] (St w0 [] [⟨g8, 27, [.raw (.int .i64 0), .raw (.slice none 0 0), .raw (.slice none 0 0)], 3⟩, ⟨gr, 27, [.raw (.int .i64 0), .raw (.slice none 0 0), .raw (.slice none 0 0)], 3⟩, ⟨gx, 27, [.raw (.int .i64 (d : Int)), AV.sl w0 1 ((tab (n + d + 1) f).map (AV.f .f32)), slC w0 (tabC n P)], 3⟩]) Q' := fun g8 => by
      refine gp_step [4, 8] (by rw [ho]; decide +kernel) fun x hx => ?_
      rcases (show x = 4 ∨ x = 8 by simpa using hx) with rfl | rfl
      · refine sp_call q4 (by rw [ho]; decide +kernel) rfl hCF rfl rfl (by (repeat (first | exact Takes.nil | refine Takes.sl ?_ | refine Takes.lit ?_ | refine Takes.fa ?_ | refine Takes.fc ?_ | refine Takes.net ?_ | (refine Takes.ownE ?_ ?_ ?_ ?_ ?_; (focus (exact ⟨_, _, (by (repeat (first | exact mh | refine mt ?_)); done)⟩)); (focus (simp; done)); (focus omega); (focus (simp only [maxLen]; omega))) | refine Takes.same ?_)); done) (fun _ _ => rfl) ?_
        rintro ⟨gk, ck⟩ hck
        dsimp only at hck
        exact cont_go (fun _ h => h.sel [3] (by decide) rfl) (gp_to (v_4_11 gk ck g8 hck) (by decide +kernel) (by (repeat (first | exact Env.sub_nil _ | refine Env.sub_cons rfl ?_))) (by rw [hso]; exact ⟨rfl, rfl, rfl, rfl, rfl, rfl, rfl, rfl, rfl, rfl, rfl, rfl, rfl, rfl, trivial⟩) rfl (fun _ h => h.sel [1, 0, 2, 3] (by decide) rfl) (fun _ h => h.sel [3] (by decide) rfl))
      · exact sp_lit (xs := [.f .f32 u]) q8 (by rw [ho]; decide +kernel) rfl rfl rfl rfl rfl rfl fun gu => cont_go (fun _ h => h.sel [3] (by decide) rfl) (gp_to (v_8_11 gu g8) (by decide +kernel) (by (repeat (first | exact Env.sub_nil _ | refine Env.sub_cons rfl ?_))) (by rw [hso]; exact ⟨rfl, rfl, rfl, rfl, rfl, rfl, rfl, rfl, rfl, rfl, rfl, rfl, rfl, rfl, trivial⟩) rfl (fun _ h => h.sel [1, 0, 2, 3] (by decide) rfl) (fun _ h => h.sel [3] (by decide) rfl))
    have v_ : GP Try.prog 92 o [0, 1, 2, 3, 5, 6, 7] (St w0 [] [⟨gx, 27, [.raw (.int .i64 (d : Int)), AV.sl w0 1 ((tab (n + d + 1) f).map (AV.f .f32)), slC w0 (tabC n P)], 3⟩]) [] [(22, .f .f32 u), (21, .raw (.int .i64 ((k : Int) + 1))), (20, .raw (.int .i64 (k : Int))), (18, AV.sl w0 1 ((tab (n + d + 1) f).map (AV.f .f32))), (17, .raw (.pointer (some ⟨gx, 0 + 1, none⟩))), (16, .raw (.int .i64 (d : Int))), (15, .raw (.pointer (some ⟨gx, 0 + 0, none⟩))), (1, .f .f32 u), (2, .raw (.pointer (some ⟨gx, 0, none⟩))), (4, .raw (.pointer (some ⟨gr, 0, none⟩))), (5, .raw (.int .i64 (d : Int))), (6, .raw (.int .i64 (k : Int)))] (St w0 [] [⟨gr, 27, [.raw (.int .i64 0), .raw (.slice none 0 0), .raw (.slice none 0 0)], 3⟩, ⟨gx, 27, [.raw (.int .i64 (d : Int)), AV.sl w0 1 ((tab (n + d + 1) f).map (AV.f .f32)), slC w0 (tabC n P)], 3⟩]) Q' := by
      refine gp_step [4, 8, 11] (by rw [ho]; decide +kernel) fun x hx => ?_
      rcases (show x = 4 ∨ x = 8 ∨ x = 11 by simpa using hx) with rfl | rfl | rfl
      · refine sp_call q4 (by rw [ho]; decide +kernel) rfl hCF rfl rfl (by (repeat (first | exact Takes.nil | refine Takes.sl ?_ | refine Takes.lit ?_ | refine Takes.fa ?_ | refine Takes.fc ?_ | refine Takes.net ?_ | (refine Takes.ownE ?_ ?_ ?_ ?_ ?_; (focus (exact ⟨_, _, (by (repeat (first | exact mh | refine mt ?_)); done)⟩)); (focus (simp; done)); (focus omega); (focus (simp only [maxLen]; omega))) | refine Takes.same ?_)); done) (fun _ _ => rfl) ?_
        rintro ⟨gk, ck⟩ hck
        dsimp only at hck
        exact cont_go (fun _ h => h.sel [2] (by decide) rfl) (gp_to (v_4 gk ck hck) (by decide +kernel) (by (repeat (first | exact Env.sub_nil _ | refine Env.sub_cons rfl ?_))) (by rw [hso]; exact ⟨rfl, rfl, rfl, rfl, rfl, rfl, rfl, rfl, rfl, rfl, rfl, rfl, rfl, rfl, trivial⟩) rfl (fun _ h => h.sel [0, 1, 2] (by decide) rfl) (fun _ h => h.sel [2] (by decide) rfl))
      · exact sp_lit (xs := [.f .f32 u]) q8 (by rw [ho]; decide +kernel) rfl rfl rfl rfl rfl rfl fun gu => cont_go (fun _ h => h.sel [2] (by decide) rfl) (gp_to (v_8 gu) (by decide +kernel) (by (repeat (first | exact Env.sub_nil _ | refine Env.sub_cons rfl ?_))) (by rw [hso]; exact ⟨rfl, rfl, rfl, rfl, rfl, rfl, rfl, rfl, rfl, rfl, rfl, rfl, rfl, rfl, trivial⟩) rfl (fun _ h => h.sel [0, 1, 2] (by decide) rfl) (fun _ h => h.sel [2] (by decide) rfl))
      · exact sp_makes q11 rfl (by rw [ho]; decide +kernel) rfl (makesX_alloc rfl rfl rfl) fun g8 => cont_go (fun _ h => h.sel [2] (by decide) rfl) (gp_to (v_11 g8) (by decide +kernel) (by (repeat (first | exact Env.sub_nil _ | refine Env.sub_cons rfl ?_))) (by rw [hso]; exact ⟨rfl, rfl, rfl, rfl, rfl, rfl, rfl, rfl, rfl, rfl, rfl, rfl, rfl, rfl, trivial⟩) rfl (fun _ h => h.sel [0, 1, 2] (by decide) rfl) (fun _ h => h.sel [2] (by decide) rfl))
    exact v_
  obtain ⟨gi, ci, g8⟩ := y
  dsimp only at hy ⊢
  repeat first | refine zaa rfl (zay rfl) ?_ | (refine zac ?_; first | refine zaa rfl (zbb rfl rfl (by omega)) ?_ | refine zaa rfl (zbc rfl rfl (by omega)) ?_) | (refine zae ?_; refine zaa rfl (zcf rfl rfl (by (repeat (first | exact mh | refine mt ?_)); done) rfl) ?_) | refine zaa rfl (zcd rfl) ?_ | (refine zcr ?_; refine zcs ?_) | (refine zdb ?_; first | refine zdc ?_ | refine zdd ?_) | refine zaa rfl (opj_takeC (k - d + 1) rfl rfl (by omega) (by omega)) ?_
  refine rs_callM3 hCC rfl rfl (by (repeat (first | exact Takes.nil | refine Takes.sl ?_ | refine Takes.lit ?_ | refine Takes.fa ?_ | refine Takes.fc ?_ | refine Takes.net ?_ | (refine Takes.ownE ?_ ?_ ?_ ?_ ?_; (focus (exact ⟨_, _, (by (repeat (first | exact mh | refine mt ?_)); done)⟩)); (focus (simp; done)); (focus omega); (focus (simp only [maxLen]; omega))) | refine Takes.same ?_)); done) rfl ?_
  rintro ⟨gp, cp⟩ hcp
  dsimp only at hcp ⊢
  repeat first | refine zaa rfl (zay rfl) ?_ | refine zaa rfl (zaz rfl) ?_ | (refine zac ?_; first | refine zaa rfl (zbb rfl rfl (by omega)) ?_ | refine zaa rfl (zbc rfl rfl (by omega)) ?_) | refine zaa rfl (zcd rfl) ?_ | refine zah ?_ | (refine zcr ?_; refine zcs ?_) | (refine zdb ?_; first | refine zdc ?_ | refine zdd ?_ | refine zde ?_) | refine zam 1 rfl rfl rfl rfl rfl rfl ?_
  rw [entC_congr (f' := putP f k u d P) (fun t ht => by unfold putP insPF ptI; rw [if_pos (by omega)]; rfl)]
  refine ws_loop (ι := Nat × Nat × Nat) (fun y => [(1, .f .f32 u), (2, .raw (.pointer (some ⟨gx, 0, none⟩))), (4, .raw (.pointer (some ⟨gr, 0, none⟩))), (5, .raw (.int .i64 (d : Int))), (6, .raw (.int .i64 (k : Int))), (7, .raw (.pointer (some ⟨g8, 0, none⟩))), (8, .raw (.int .i64 ((k : Int) - d + 1 + (y.1 : Nat))))])
    (fun y => St w0 [] [entC y.2.1 (k - d + 1 + y.1) (putP f k u d P) y.2.2, ⟨g8, 27, [.raw (.int .i64 (d : Int)), .raw (.slice (some ⟨gi, 0, none⟩) (n + 1 + d + 1) ci), .raw (.slice (some ⟨y.2.1, 0, none⟩) (k - d + 1 + y.1) y.2.2)], 3⟩, entF gi 29 (n + 1 + d + 1) (insKF f k u) ci, ⟨gr, 27, [.raw (.int .i64 0), .raw (.slice none 0 0), .raw (.slice none 0 0)], 3⟩, ⟨gx, 27, [.raw (.int .i64 (d : Int)), AV.sl w0 1 ((tab (n + d + 1) f).map (AV.f .f32)), slC w0 (tabC n P)], 3⟩]) (fun y => y.1 ≤ d ∧ k - d + 1 + y.1 ≤ y.2.2 ∧ y.2.2 ≤ maxLen) (fun y => d - y.1) (0, gp, cp) ⟨Nat.zero_le _, hcp⟩ ?_ (fun w hw => hw) (fun y hy1 => ?_)
  · rw [show (k : Int) - d + 1 + (((0, gp, cp) : Nat × Nat × Nat).1 : Nat) = (k : Int) - d + 1 by simp]
    (repeat (first | exact Env.sub_nil _ | refine Env.sub_cons rfl ?_))
  clear hcp
  obtain ⟨c, gp, cp⟩ := y
  obtain ⟨hc, hcp⟩ := hy1
  dsimp only at hc hcp ⊢
  repeat first | refine zaa rfl (zay rfl) ?_ | (refine zac ?_; refine zaa rfl (zbf rfl rfl) ?_) | refine zah ?_ | (refine zcr ?_; refine zcs ?_) | (refine zdb ?_; first | refine zdc ?_ | refine zdd ?_)
  refine ws_cond rfl (fun hd1 => ?_) (fun hd1 => ?_)
  · have hlt : (k : Int) - d + 1 + c ≤ (k : Int) := of_decide_eq_true hd1
    clear hd1
    have hB := between_fn (ptI P ((k : Int) - d + 1 + c - 1)) (ptI P ((k : Int) - d + 1 + c)) (uF u (f ((k : Int) - d + 1 + c)) (f ((k : Int) - d + 1 + c + d)))
    have hE : btC (ptI P ((k : Int) - d + 1 + c - 1)) (ptI P ((k : Int) - d + 1 + c)) (uF u (f ((k : Int) - d + 1 + c)) (f ((k : Int) - d + 1 + c + d))) = putP f k u d P (k - d + 1 + c) := by
      unfold putP insPF
      rw [show ((k - d + 1 + c : Nat) : Int) = (k : Int) - d + 1 + c by omega, if_neg (by omega), if_pos hlt]
      rfl
    repeat first | (refine zcr ?_; refine zcs ?_) | (refine zdb ?_; first | refine zdc ?_ | refine zde ?_ | refine zdf ?_)
    refine ws_draw (n := 22) mixed (by decide +kernel) ?_
    repeat first | refine zap rfl (zay rfl) ?_ | refine zap rfl (zaz rfl) ?_ | (refine zar ?_; first | refine zap rfl (zba rfl rfl rfl) ?_ | refine zap rfl (zbb rfl rfl (by omega)) ?_) | (refine zat ?_; first | refine zap rfl (zcf rfl rfl (by (repeat (first | exact mh | refine mt ?_)); done) rfl) ?_ | refine zap rfl (zbu rfl rfl) ?_) | (refine zau ?_; refine zap rfl (zbs rfl rfl (by omega) (by omega)) ?_) | refine zap rfl (zcd rfl) ?_ | refine zav ?_
    repeat first | refine zah ?_ | (refine zcr ?_; refine zcs ?_)
    refine ws_drawP (ix := [0, 1, 2, 3, 4, 5, 6, 7, 8, 9, 10, 11, 12, 13, 14, 17]) (W := St w0 [] [⟨g8, 27, [.raw (.int .i64 (d : Int)), .raw (.slice (some ⟨gi, 0, none⟩) (n + 1 + d + 1) ci), .raw (.slice (some ⟨gp, 0, none⟩) (k - d + 1 + c) cp)], 3⟩, ⟨gx, 27, [.raw (.int .i64 (d : Int)), AV.sl w0 1 ((tab (n + d + 1) f).map (AV.f .f32)), slC w0 (tabC n P)], 3⟩]) mixed (by decide +kernel) (fun _ h => h.sel [1, 4] (by decide) rfl) ?_
    repeat first | refine zap rfl (zay rfl) ?_ | (refine zar ?_; refine zap rfl (zbc rfl rfl (by omega)) ?_) | (refine zas ?_; (refine zap rfl (zci rfl rfl (hB) ?_) ?_; (focus ((repeat (first | exact Takes.nil | refine Takes.sl ?_ | refine Takes.lit ?_ | refine Takes.fa ?_ | refine Takes.fc ?_ | refine Takes.net ?_ | (refine Takes.ownE ?_ ?_ ?_ ?_ ?_; (focus (exact ⟨_, _, (by (repeat (first | exact mh | refine mt ?_)); done)⟩)); (focus (simp; done)); (focus omega); (focus (simp only [maxLen]; omega))) | refine Takes.same ?_)); done)))) | (refine zat ?_; refine zap rfl (zcf rfl rfl (by (repeat (first | exact mh | refine mt ?_)); done) rfl) ?_) | (refine zau ?_; refine zap rfl (opj_indexQC rfl rfl (by omega) (by omega)) ?_) | refine zap rfl (zcd rfl) ?_ | refine zav ?_ | refine zap rfl (opj_loadZ rfl rfl rfl) ?_
    refine ⟨rfl, ?_⟩
    rw [hE]
    refine gp_name fun o ho Q' hQ => ?_
    have q15 := op_at (i := 15) ho rfl
    have q16 := op_at (i := 16) ho rfl
    have q18 := op_at (i := 18) ho rfl
    refine gp_step [15] (by rw [ho]; decide +kernel) fun x hx => ?_
    obtain rfl : x = 15 := by simpa using hx
    refine sp_lit (xs := [cA (putP f k u d P (k - d + 1 + c))]) q15 (by rw [ho]; decide +kernel) rfl rfl rfl rfl rfl rfl fun u1 => cont_go (fun _ h => h.sel [2, 5] (by decide) rfl) ?_
    refine gp_step [16] (by rw [ho]; decide +kernel) fun x hx => ?_
    obtain rfl : x = 16 := by simpa using hx
    refine sp_append 1 (sz := 1) (m := 1) (n := (k - d + 1 + c)) (xs := (tabC (k - d + 1 + c) (putP f k u d P)).map cA) (ys := [cA (putP f k u d P (k - d + 1 + c))]) q16 (by rw [ho]; decide +kernel) rfl (by omega) rfl ⟨_, rfl, fun w v hS hr => rd_ownM hS hr mh rfl ⟨Nat.le_refl _, by simp only [maxLen]; decide⟩⟩ (by rw [Nat.mul_one]; rfl) ⟨by simp, hcp.1, hcp.2⟩ rfl (by omega) rfl (by simp only [maxLen]; omega) (by omega) rfl fun g2 c2 h1 h2 => ?_
    rw [entC_snoc]
    refine cont_go (fun _ h => h.sel [2, 5] (by decide) rfl) ?_
    refine gp_step [18] (by rw [ho]; decide +kernel) fun x hx => ?_
    obtain rfl : x = 18 := by simpa using hx
    refine sp_eff q18 (by rw [ho]; decide +kernel) (effj_storeX 2 rfl rfl rfl rfl rfl rfl) (cont_set (by rw [ho]; decide +kernel) rfl ?_)
    refine gp_end (by rw [ho]; decide +kernel) ?_
    rw [hQ]
    clear hQ ho
    repeat first | refine zaa rfl (zay rfl) ?_ | refine zaa rfl (zaz rfl) ?_ | (refine zac ?_; refine zaa rfl (zbb rfl rfl (by omega)) ?_) | refine zah ?_ | (refine zcr ?_; first | refine zcs ?_ | refine zcv ?_) | (refine zdb ?_; refine zdd ?_)
    refine done_round (c + 1, g2, c2) ⟨by simp only; omega, by simp only; omega, h2⟩ (by simp only; omega) ?_ (fun w h => ?_)
    · simp only
      rw [show (k : Int) - d + 1 + ((c + 1 : Nat) : Int) = (k : Int) - d + 1 + c + 1 by omega]
      (repeat (first | exact Env.sub_nil _ | refine Env.sub_cons rfl ?_))
    · exact h.sel [1, 2, 3, 4, 5] (by decide) rfl
  · have hgt : ¬ (k : Int) - d + 1 + c ≤ (k : Int) := of_decide_eq_false hd1
    clear hd1
    obtain rfl : d = c := by omega
    rw [show k - d + 1 + d = k + 1 by omega] at hcp ⊢
    repeat first | (refine zcr ?_; first | refine zcs ?_ | refine zcu ?_ | refine zcx ?_ | refine zda ?_) | (refine zdb ?_; first | refine zdc ?_ | refine zdh ?_)
    refine ws_drawP (ix := [0, 1, 2, 3, 4, 5, 7]) (W := St w0 [] [⟨g8, 27, [.raw (.int .i64 (d : Int)), .raw (.slice (some ⟨gi, 0, none⟩) (n + 1 + d + 1) ci), .raw (.slice (some ⟨gp, 0, none⟩) (k + 1) cp)], 3⟩, ⟨gx, 27, [.raw (.int .i64 (d : Int)), AV.sl w0 1 ((tab (n + d + 1) f).map (AV.f .f32)), slC w0 (tabC n P)], 3⟩]) mixed (by decide +kernel) (fun _ h => h.sel [1, 4] (by decide) rfl) ?_
    repeat first | refine zap rfl (zay rfl) ?_ | (refine zat ?_; refine zap rfl (zcf rfl rfl (by (repeat (first | exact mh | refine mt ?_)); done) rfl) ?_) | refine zap rfl (zcd rfl) ?_ | refine zav ?_ | refine zap rfl (opj_dropC k rfl rfl rfl (by omega)) ?_
    refine ⟨rfl, ?_⟩
    refine gp_name fun o ho Q' hQ => ?_
    have q6 := op_at (i := 6) ho rfl
    have q8 := op_at (i := 8) ho rfl
    refine gp_step [6] (by rw [ho]; decide +kernel) fun x hx => ?_
    obtain rfl : x = 6 := by simpa using hx
    refine sp_append 0 (sz := 1) (m := n - k) (n := (k + 1)) (xs := (tabC (k + 1) (putP f k u d P)).map cA) (ys := (tabC (n - k) (fun i => P (i + k))).map cA) q6 (by rw [ho]; decide +kernel) rfl (by omega) rfl ⟨_, rfl, fun w v hS hr => hS.rd hr.inv_q⟩ (by rw [Nat.mul_one]; rfl) ⟨by simp, hcp.1, hcp.2⟩ (by simp) (by omega) (one_cA _ _) (by simp only [maxLen]; omega) (by omega) rfl fun g2 c2 h1 h2 => ?_
    rw [entC_app (fun i hi => by
      unfold putP insPF ptI
      rw [if_neg (by omega), if_neg (by omega), show (((k + 1 + i : Nat) : Int) - 1).toNat = i + k by omega])]
    refine cont_go (fun _ h => h.sel [1, 4] (by decide) rfl) ?_
    refine gp_step [8] (by rw [ho]; decide +kernel) fun x hx => ?_
    obtain rfl : x = 8 := by simpa using hx
    refine sp_eff q8 (by rw [ho]; decide +kernel) (effj_storeX 1 rfl rfl rfl rfl rfl rfl) (cont_set (by rw [ho]; decide +kernel) rfl ?_)
    refine gp_end (by rw [ho]; decide +kernel) ?_
    rw [hQ]
    clear hQ ho
    rw [show k + 1 + (n - k) = n + 1 by omega] at h1 ⊢
    repeat first | (refine zae ?_; refine zaa rfl (zcg rfl rfl (by (repeat (first | exact mh | refine mt ?_)); done) rfl rfl) ?_) | refine zah ?_ | (refine zcr ?_; refine zcs ?_) | (refine zdb ?_; first | refine zdc ?_ | refine zdd ?_ | refine zdg ?_) | refine zan 3 rfl rfl rfl rfl rfl rfl rfl rfl rfl ?_
    refine Done.st (S' := StR (fun _ => True) w0 [] [entF gi 29 (n + 1 + d + 1) (insKF f k u) ci, entC g2 (n + 1) (putP f k u d P) c2, ⟨gr, 27, [.raw (.int .i64 (d : Int)), .raw (.slice (some ⟨gi, 0, none⟩) (n + 1 + d + 1) ci), .raw (.slice (some ⟨g2, 0, none⟩) (n + 1) c2)], 3⟩]) ?_ (fun w h => h.sel [2, 0, 3] (by decide) rfl)
    exact done_retX rfl rfl ((gi, g2), ci, c2) rfl (mt (mt mh)) rfl rfl rfl ⟨hy, h1, h2⟩ (.cons_cons _ (.cons_cons _ (List.nil_sublist _)))
end Go.Ab
