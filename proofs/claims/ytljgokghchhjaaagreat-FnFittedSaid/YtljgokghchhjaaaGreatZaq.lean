/- Pieces near a path, the reference's, walked: no conditions but the drawn path. -/
import Derived.Test.YtljgokghchhjaaaGreatZap
namespace Go.Ab
open Go.Proofs
variable {R : World → Prop} [RStab R]
/-- A list of whole numbers of the call's own. -/
def cellsJ (m : Nat) (c : Nat → Nat) : List AV := (List.range m).map fun i => .raw (.int .i64 (c i : Nat))
abbrev entJ (g m : Nat) (c : Nat → Nat) (cap : Nat) : Ent := ⟨g, 3, cellsJ m c, cap⟩
theorem cellsJ_length (m : Nat) (c : Nat → Nat) : (cellsJ m c).length = m := by unfold cellsJ; simp
theorem cellsJ_get {m : Nat} (c : Nat → Nat) {i : Nat} (h : i < m) : (cellsJ m c)[i]? = some (.raw (.int .i64 (c i : Nat))) := by unfold cellsJ; simp [h]
theorem cellsJ_take {m k : Nat} (c : Nat → Nat) (h : k ≤ m) : (cellsJ m c).take k = cellsJ k c := by
  unfold cellsJ
  rw [← List.map_take, List.take_range, Nat.min_eq_left h]
theorem cellsJ_snoc (m : Nat) (c : Nat → Nat) (x : Nat) : cellsJ m c ++ [.raw (.int .i64 (x : Nat))] = cellsJ (m + 1) (putN m x c) := by
  unfold cellsJ
  rw [List.range_succ, List.map_append]
  congr 1
  · refine List.map_congr_left fun i hi => ?_
    have : i < m := by simpa using hi
    unfold putN
    rw [if_neg (by omega)]
  · simp [putN]
theorem OwnE.take {w : World} {g c : Nat} {T : TypeId} {xs : List AV} (h : OwnE w ⟨g, T, xs, c⟩) (k : Nat) : OwnE w ⟨g, T, xs.take k, c⟩ := by
  obtain ⟨cur, hb, hs, hx⟩ := h
  refine ⟨cur, hb, hs, fun i x hi => hx i x ?_⟩
  simp only [List.getElem?_take] at hi
  split at hi
  · exact hi
  · cases hi
theorem StR.takeJ {w0 w : World} {gs : List Nat} {H : List Ent} {g c m k : Nat} {f : Nat → Nat} (j : Nat) (h : StR R w0 gs H w) (hH : H[j]? = some (entJ g m f c)) (hk : k ≤ m) : StR R w0 gs (H.set j (entJ g k f c)) w := by
  have := h.updAt hH (Mod.refl w _) (e' := entJ g k f c) (.inl rfl) (by
    have ho := ((h.own _ (List.mem_of_getElem? hH)).2.take k)
    rw [cellsJ_take f hk] at ho
    exact ho)
  exact this
theorem rowsV_put (A B : Nat → Nat) (Q : Nat → Nat → CV) (F : Nat → CV) (k a b : Nat) : rowsV A B Q k ++ [entF b 27 4 (fun _ => one1) 4, entC a 4 F 4] = rowsV (putN k a A) (putN k b B) (putC k F Q) (k + 1) := by
  have h := rowsV_snoc A B (putC k F Q) k a b
  rw [putC_at] at h
  rw [← h]
  congr 1
  unfold rowsV
  refine congrArg List.flatten (List.map_congr_left fun i hi => ?_)
  have : i < k := by simpa using hi
  rw [putC_ne F Q (by omega)]
section
variable {P : Program} {t el : TypeId} {S : World → Prop} {N : Nat} {e : Env} {Q : Exit → Env → World → Prop} {dst : Option Tmp} {ty : TypeId} {pos : String} {after : Array Edge} {guard : Option (Nat × Bool)}
variable {w0 : World} {gs : List Nat} {H : List Ent}
theorem opj_loadJ {R0 : World → Prop} {X : Operand} {g m cap i : Nat} {f : Nat → Nat} {d : TypeDesc} [hd : TyU P t d] (ha : aggD d = false)
    (hx : e.ev X = some (.raw (.pointer (some ⟨g, i * 1, none⟩)))) (hm : entJ g m f cap ∈ H) (hi : i < m) : OpJ P (StR R0 w0 gs H) e ⟨dst, .load t X, ty, pos, after, guard⟩ (.raw (.int .i64 (f i : Nat))) := by
  rw [Nat.mul_one] at hx
  exact opj_load_own (en := entJ g m f cap) ha hx hm (cellsJ_get f hi)
theorem run_slice_lh2 {w : World} (t : TypeId) (a : Option Addr) (len cap : Nat) (ht : P.underlying t = some (.slice (P.elem t))) (k k' : IntKind) (l h : Int) (h0 : 0 ≤ l) (h1 : l ≤ h) (h2 : h ≤ cap) :
    (Instr.slice t (.slice a len cap) (some (.int k l)) (some (.int k' h)) none).run P w = ((sizeOf (P.elem t)).run P w).andThen fun s w => .ok (sliced a l.toNat h.toNat cap s) w := by
  have eh : (h.toNat : Int) = h := Int.toNat_of_nonneg (by omega)
  simp [Instr.slice, run_underlying ht, Instr.sliceBounds, run_sliceBound, sliced, *, eh, (by omega : 0 ≤ h)]
theorem rd_part2 {w : World} {v : Value} {xs : List AV} (h : Rd w 1 v xs) {l m : Nat} (hlm : l ≤ m) (hm' : m ≤ xs.length) : ∃ a len cap, v = .slice a len cap ∧ len = xs.length ∧ len ≤ cap ∧ Rd w 1 (sliced a l m cap 1) ((xs.drop l).take (m - l)) := by
  obtain ⟨a, len, cap, rfl, hlen, hc, hm, hx⟩ := h
  refine ⟨a, len, cap, rfl, by omega, hc, ?_⟩
  unfold sliced
  refine ⟨_, _, _, rfl, by simp; omega, by omega, by omega, fun i x hi => ?_⟩
  rw [List.getElem?_take] at hi
  split at hi
  · rename_i hil
    rw [List.getElem?_drop] at hi
    obtain ⟨b, rfl, hs, u, hu, hev⟩ := hx _ _ hi
    have hlt := (List.getElem?_eq_some_iff.1 hi).1
    rw [if_neg (by omega)]
    refine ⟨b.add (l * 1), rfl, ?_, u, ?_, hev⟩
    · unfold Addr.add; split <;> simp_all
    · have : (b.add (l * 1)).block = b.block ∧ (b.add (l * 1)).off = b.off + l := by
        rw [addr_add b hs]; simp
      rw [this.1, this.2, Nat.add_assoc]
      exact hu
  · cases hi
theorem tabC_part {n l h : Nat} (f : Nat → CV) (h1 : h ≤ n) : (((tabC n f).map cA).drop l).take (h - l) = (tabC (h - l) (fun i => f (i + l))).map cA := by
  rcases Nat.lt_or_ge l n with h2 | h2
  · rw [tabC_drop f (by omega), tabC_take _ (by omega)]
  · rw [show h - l = 0 by omega]
    rfl
theorem opj_partC {z : Value} {b : Nat} {X Y Z : Operand} {n : Nat} {f : Nat → CV} {k k' : IntKind} {l h : Nat} [hu : TyU P t (.slice el)] [hi : TyI P el z 1 b]
    (hx : e.ev X = some (slC w0 (tabC n f))) (hy : e.ev Y = some (.raw (.int k (l : Nat)))) (hz : e.ev Z = some (.raw (.int k' ((h : Nat) + 1)))) (h1 : l ≤ h) (h2 : h < n) :
    OpJ P S e ⟨dst, .slice t X (some Y) (some Z) none, ty, pos, after, guard⟩ (slC w0 (tabC (h + 1 - l) (fun i => f (i + l)))) :=
  opj_value fun a w _ ho => by
    have e1 := (ho X (by simp [Op.operands]) _ hx).inv_q
    have e2 := (ho Y (by simp [Op.operands]) _ hy).inv_raw
    have e3 := (ho Z (by simp [Op.operands]) _ hz).inv_raw
    obtain ⟨c, len, cap, hv, hlen, hc, hrd⟩ := rd_part2 e1 (l := l) (m := h + 1) (by omega) (by simp; omega)
    have hel : P.elem t = el := by simp [Program.elem, hu.h]
    have ht : P.underlying t = some (.slice (P.elem t)) := by rw [hel]; exact hu.h
    simp only [List.length_map, tabC_length] at hlen
    have hr := run_slice_lh2 (P := P) (w := w) t c len cap ht k k' (l : Nat) ((h : Nat) + 1) (by omega) (by omega) (by omega)
    rw [hel, run_size hi, show ((h : Int) + 1).toNat = h + 1 by omega, show ((l : Nat) : Int).toNat = l by omega] at hr
    rw [tabC_part f (by omega)] at hrd
    refine ⟨_, w, ?_, Ext.refl _, .q hrd⟩
    have hs := run_sliceAt_slice (P := P) w t (.slice c len cap) (some (.int k (l : Nat))) (some (.int k' ((h : Nat) + 1))) none ht
    simp [execOp, e2, e3, hv, hs, hr]
end
section
variable {n : Nat} {P : Nat → CV} {a c : Nat → Int}
/-- All that the reference's fit is made of. -/
theorem Pth.fitVS (hp : Pth n P a c) (hn : 2 ≤ n ∧ n ≤ 7) : ∃ su sv eu ev x y t, FitV (unitC (dirS P)) (unitC (dirE n P)) n P (parS one1 P n) su sv eu ev x y t := by
  obtain ⟨l, h⟩ := hp.lens hn.2
  obtain ⟨_, _, _, su, sv, s1, s2, s3, s4, s5⟩ := dirS_ok hp hn
  obtain ⟨_, _, _, eu, ev, e1, e2, e3, e4, e5⟩ := dirE_ok hp hn
  obtain ⟨t, ht, t0, t1, tb, ts⟩ := par_vl h hn vl_one1 (by decide +kernel)
  have hS := parS_vl h hn vl_one1 (by decide +kernel) ht t0 t1
  refine ⟨su, sv, eu, ev, pX a, pX c, t, ⟨hn, ⟨s1, s3⟩, ⟨s2, s4⟩, ⟨e1, e3⟩, ⟨e2, e4⟩, s5, e5, fun i hi => ?_, fun i hi => ?_, fun i hi => ⟨hS i hi, tb i hi⟩, fun h3 => ?_, ⟨t0, t1⟩⟩⟩
  · have b := (hp.bdx hn.2 hi).1
    exact ⟨hp.vx i hi, by grind, by grind⟩
  · have b := (hp.bdx hn.2 hi).2
    exact ⟨hp.vy i hi, by grind, by grind⟩
  · have k0 := h.steps hp hn ht (i := 0) (by omega)
    have k1 := h.steps hp hn ht (i := 1) (by omega)
    have l0 := (h.b 0 (by omega)).1
    have l1 := (h.b 1 (by omega)).1
    have u2 := (tb 2 (by omega)).2
    rw [show (0 : Nat) + 1 = 1 from rfl, t0] at k0
    rw [show (1 : Nat) + 1 = 2 from rfl] at k1
    constructor <;> grind
def fitPS (n : Nat) (P : Nat → CV) : Nat → CV := fitQ (unitC (dirS P)) (unitC (dirE n P)) n P (parS one1 P n)
/-- What is told of a reference's fit. -/
def GdS (n : Nat) (y : FV × Int) : Prop := (∃ r, Vl .f32 y.1 r) ∧ (-1 ≤ y.2 ∧ y.2 + 1 < n) ∧ (3 ≤ n → 1 ≤ y.2)
theorem Pth.cubicS (hp : Pth n P a c) (hn : 2 ≤ n ∧ n ≤ 7) : (tabC 4 (fitPS n P)).all finC = true ∧
    FnH (X := (Nat × Nat) × FV × Int) Tryz.prog 17 (fun W => [slC W (tabC n P), cA (subC2 (P 1) (P 0)), cA (subC2 (P (n - 1)) (P (n - 2)))]) []
      (fun y => .tup [crvO y.1.1 y.1.2 4, .f .f32 y.2.1, .raw (.int .i64 y.2.2), .raw (.bool true)])
      (fun y => [entF y.1.2 27 4 (fun _ => one1) 4, entC y.1.1 4 (fitPS n P) 4]) (fun y => GdS n y.2) := by
  obtain ⟨l, h⟩ := hp.lens hn.2
  obtain ⟨su, sv, eu, ev, x, y, t, F⟩ := hp.fitVS hn
  obtain ⟨s1, _⟩ := dirS_ok hp hn
  obtain ⟨e1, _⟩ := dirE_ok hp hn
  obtain ⟨t', ht, t0, t1, tb, ts⟩ := par_vl h hn vl_one1 (by decide +kernel)
  have hS := parS_vl h hn vl_one1 (by decide +kernel) ht t0 t1
  exact ⟨F.ok.q, l05Cubic_fn F s1 e1 (l05Params_fn h hn vl_one1 (by decide +kernel) (tab_fin hS))⟩
end
/-- Where the reference's search for pieces stands. -/
structure FpS where
  fr : Nat
  k : Nat
  go : Nat
  co : Nat
  A : Nat → Nat
  B : Nat → Nat
  Q : Nat → Nat → CV
  gc : Nat
  cc : Nat
  m : Nat
  c : Nat → Nat
structure FpSOk (n : Nat) (y : FpS) : Prop where
  k : y.k ≤ y.fr
  co : y.k ≤ y.co ∧ y.co ≤ maxLen
  q : ∀ i, i < y.k → (tabC 4 (y.Q i)).all finC = true
  cc : y.m ≤ y.cc ∧ y.cc ≤ maxLen
  f : y.fr + 1 ≤ n
  d : ∀ i j, i ≤ j → j < y.m → y.c j + (j - i) ≤ y.c i
  t : ∀ i, i < y.m → y.fr + 1 ≤ y.c i ∧ y.c i + 1 ≤ n
theorem FpSOk.m {n : Nat} {y : FpS} (h : FpSOk n y) : y.m ≤ n - 1 - y.fr := by
  rcases Nat.eq_zero_or_pos y.m with h0 | h0
  · omega
  · have h1 := h.d 0 (y.m - 1) (by omega) (by omega)
    have h2 := (h.t (y.m - 1) (by omega)).1
    have h3 := (h.t 0 (by omega)).2
    omega
attribute [local irreducible] WS RS Done OpJ Then InBlock Round Ret Env.sub FnH
attribute [local irreducible] tab tabC cellsJ
set_option maxRecDepth 100000 in
set_option maxHeartbeats 40000000 in
theorem specPieces_fn {n : Nat} {P : Nat → CV} {a c_ : Nat → Int} (hp : Pth n P a c_) (hn : 2 ≤ n ∧ n ≤ 7) {near : FV} (hN : Fn Tryz.prog 16 (fun _ => [.f .f32 near]) (.raw (.bool true))) :
    Fn Tryz.prog 7 (fun w => [slC w (tabC n P), .f .f32 near]) (.tup [AV.unk, .raw (.bool true)]) := by
  obtain ⟨l, hL⟩ := hp.lens hn.2
  have hI := l05Path_yes hL hp hn
  refine fn_intro Tryz.func7 rfl Tryz.ntmps7 (fun _ => Nat.le_of_ble_eq_true rfl) fun w0 => ?_
  repeat first | refine zai rfl rfl ?_ | refine zaa rfl (zay rfl) ?_ | refine zaa rfl (zaz rfl) ?_ | (refine zac ?_; refine zaa rfl (zbc rfl rfl (by omega)) ?_) | (refine zad ?_; first | refine zaa rfl (opj_lenC rfl) ?_ | (refine zaa rfl (zci rfl rfl (hI) ?_) ?_; (focus ((repeat (first | exact Takes.nil | refine Takes.sl ?_ | refine Takes.lit ?_ | refine Takes.fa ?_ | refine Takes.fc ?_ | refine Takes.net ?_ | (refine Takes.ownE ?_ ?_ ?_ ?_ ?_; (focus (exact ⟨_, _, (by (repeat (first | exact mh | refine mt ?_)); done)⟩)); (focus (simp; done)); (focus omega); (focus (simp only [maxLen]; omega))) | refine Takes.same ?_)); done))) | (refine zaa rfl (zci rfl rfl (hN) ?_) ?_; (focus ((repeat (first | exact Takes.nil | refine Takes.sl ?_ | refine Takes.lit ?_ | refine Takes.fa ?_ | refine Takes.fc ?_ | refine Takes.net ?_ | (refine Takes.ownE ?_ ?_ ?_ ?_ ?_; (focus (exact ⟨_, _, (by (repeat (first | exact mh | refine mt ?_)); done)⟩)); (focus (simp; done)); (focus omega); (focus (simp only [maxLen]; omega))) | refine Takes.same ?_)); done)))) | refine zaa rfl (zcb rfl rfl) ?_ | refine zaa rfl (zcc rfl) ?_ | refine zah ?_ | (refine zcr ?_; refine zcs ?_) | (refine zdb ?_; first | refine zdc ?_ | refine zdd ?_ | refine zde ?_ | refine zdf ?_ | refine zdj rfl ?_) | (refine rs_lit0 rfl ?_; intro g0) | (refine rs_litP rfl rfl rfl rfl rfl rfl ?_; intro g1)
  refine ws_loop (ι := FpS) (fun y => [(0, slC w0 (tabC n P)), (1, .f .f32 near), (6, .raw (.slice (some ⟨y.go, 0, none⟩) y.k y.co)), (7, .raw (.slice (some ⟨y.gc, 0, none⟩) y.m y.cc)), (8, .raw (.int .i64 (y.fr : Nat)))])
    (fun y => St w0 [] (entV y.go y.A y.B y.k y.co :: entJ y.gc y.m y.c y.cc :: rowsV y.A y.B y.Q y.k)) (FpSOk n) (fun y => 2 * (n - 1 - y.fr) - y.m)
    ⟨0, 0, g0, 0, id, id, fun _ _ => (fv .f32 0, fv .f32 0), g1, 1, 1, fun _ => n - 1⟩
    ⟨Nat.le_refl _, ⟨Nat.le_refl _, Nat.zero_le _⟩, fun i hi => absurd hi (Nat.not_lt_zero i), ⟨Nat.le_refl _, by simp only [maxLen]; decide⟩, by simp only; omega, fun i j h1 h2 => by simp only at h2 ⊢; omega, fun i hi => by simp only; omega⟩ ?_ (fun w h => ?_) (fun y hy => ?_)
  · (repeat (first | exact Env.sub_nil _ | refine Env.sub_cons rfl ?_))
  · have e1 : cellsJ 1 (fun _ => n - 1) = [.raw (.int .i64 ((n : Int) - 1))] := by
      unfold cellsJ
      rw [show ((n : Int) - 1) = ((n - 1 : Nat) : Int) by omega]
      rfl
    unfold entJ
    simp only [e1]
    exact h.swap
  have hmn := hy.m
  obtain ⟨fr, k, go, co, A, B, Q, gc, cc, m, c⟩ := y
  obtain ⟨hk, ⟨hco1, hco2⟩, hq, ⟨hcc1, hcc2⟩, hf, hd0, ht0⟩ := hy
  simp only [maxLen] at hk hco1 hco2 hq hcc1 hcc2 hf hd0 ht0 hmn
  dsimp only
  repeat first | refine zaa rfl (zay rfl) ?_ | (refine zac ?_; refine zaa rfl (zbg rfl rfl) ?_) | (refine zad ?_; refine zaa rfl (zbn rfl) ?_) | refine zah ?_ | (refine zcr ?_; refine zcs ?_) | (refine zdb ?_; first | refine zdc ?_ | refine zdd ?_)
  refine ws_cond rfl (fun hd => ?_) (fun hd => ?_)
  case' refine_2 =>
    clear hd
    have hG := l05Give_fn (k := k) (Q := Q) (by omega) hq
    repeat first | refine zaa rfl (zay rfl) ?_ | refine zaa rfl (zaz rfl) ?_ | refine zaa rfl (zbz rfl rfl) ?_ | refine zah ?_ | (refine zcr ?_; first | refine zcs ?_ | refine zcu ?_ | refine zcx ?_ | refine zda ?_) | (refine zdb ?_; first | refine zdc ?_ | refine zdd ?_ | refine zdg ?_ | refine zdh ?_) | refine zaa rfl (zci rfl rfl hG (Takes.crvs mh (fun x hx => mt (mt hx)) ⟨by omega, by simp only [maxLen]; omega⟩ Takes.nil)) ?_
    exact done_retU2 rfl () rfl rfl rfl trivial (List.nil_sublist _)
  have hm : 0 < m := by have : (0 : Int) < m := of_decide_eq_true hd; omega
  clear hd
  obtain ⟨to, hto⟩ : ∃ to, to = c (m - 1) := ⟨_, rfl⟩
  obtain ⟨ht1, ht2⟩ := ht0 (m - 1) (by omega)
  rw [← hto] at ht1 ht2
  obtain ⟨n', hn'⟩ : ∃ n', n' = to + 1 - fr := ⟨_, rfl⟩
  obtain ⟨P', hP'⟩ : ∃ P' : Nat → CV, P' = fun i => P (i + fr) := ⟨_, rfl⟩
  have em1 : ((m : Int) - 1).toNat = m - 1 := by omega
  have hpp : Pth n' P' (fun i => a (i + fr)) (fun i => c_ (i + fr)) := by
    rw [hP']
    exact (hp.last fr).first (by omega)
  have hn2 : 2 ≤ n' ∧ n' ≤ 7 := by omega
  obtain ⟨hF, hfit⟩ := hpp.cubicS hn2
  obtain ⟨F, hFe⟩ : ∃ F, F = fitPS n' P' := ⟨_, rfl⟩
  rw [← hFe] at hF hfit
  obtain ⟨Gd, hGd⟩ : ∃ Gd, Gd = GdS n' := ⟨_, rfl⟩
  rw [← hGd] at hfit
  obtain ⟨HH, hHH⟩ : ∃ HH, HH = entV go A B k co :: entJ gc m c cc :: rowsV A B Q k := ⟨_, rfl⟩
  repeat first | refine zaa rfl (zay rfl) ?_ | (refine zac ?_; refine zaa rfl (zbc rfl rfl (by omega)) ?_) | (refine zad ?_; refine zaa rfl (zbn rfl) ?_) | (refine zaf ?_; refine zaa rfl (zbw rfl rfl (by omega) (by omega)) ?_) | (refine zcr ?_; refine zcs ?_) | (refine zdb ?_; first | refine zdc ?_ | refine zdd ?_ | refine zde ?_ | refine zdf ?_)
  rw [em1]
  repeat first | refine zaa rfl (zay rfl) ?_ | refine zaa rfl (zaz rfl) ?_ | (refine zac ?_; refine zaa rfl (zbb rfl rfl (by omega)) ?_) | (refine zad ?_; refine zaa rfl (opj_lenC rfl) ?_) | refine zah ?_ | (refine zcr ?_; refine zcs ?_) | (refine zdb ?_; first | refine zdc ?_ | refine zdd ?_) | (refine zaa rfl (opj_loadJ (f := c) (i := m - 1) rfl rfl (mt mh) (by omega)) ?_; rw [← hto]) | (refine zaa rfl (opj_partC (l := fr) (h := to) rfl rfl rfl (by omega) (by omega)) ?_; rw [← hn', ← hP'])
  rw [← hHH]
  refine ws_K (Y := ((Nat × Nat) × FV × Int) × Nat) (E := fun y => [(15, .raw (.bool true)), (14, .raw (.int .i64 y.1.2.2)), (13, .f .f32 y.1.2.1), (12, .raw (.pointer (some ⟨y.2, 0, none⟩))), (0, slC w0 (tabC n P)), (1, .f .f32 near), (6, .raw (.slice (some ⟨go, 0, none⟩) k co)), (7, .raw (.slice (some ⟨gc, 0, none⟩) m cc)), (8, .raw (.int .i64 fr)), (9, .raw (.int .i64 to)), (10, slC w0 (tabC n' P')), (11, .raw (.int .i64 n'))])
    (SS := fun y => St w0 [] (⟨y.2, 35, [.raw (.slice (some ⟨y.1.1.1, 0, none⟩) 4 4), .raw (.slice (some ⟨y.1.1.2, 0, none⟩) 4 4)], 2⟩ :: entF y.1.1.2 27 4 (fun _ => one1) 4 :: entC y.1.1.1 4 F 4 :: HH)) (ok := fun y => Gd y.1.2) (fun hD => ?_) (fun y hy => ?_)
  · have e0 : (0 : Int).toNat = 0 := rfl
    have e1 : (1 : Int).toNat = 1 := rfl
    have en1 : ((n' : Int) - 1).toNat = n' - 1 := by omega
    have en2 : ((n' : Int) - 2).toNat = n' - 2 := by omega
    refine ws_drawF (m := 19) (f := 25) (df := 12) (W := St w0 [] []) (S1 := fun g => St w0 [] (⟨g, 35, [.raw (.slice none 0 0), .raw (.slice none 0 0)], 2⟩ :: HH)) mixed (by decide +kernel) rfl rfl (fun _ h => h.weak (List.nil_sublist _)) (fun _ _ h => h.weak (List.nil_sublist _)) (fun o ho => by cases ho; exact makesX_alloc rfl rfl rfl) ?_
    repeat first | refine zap rfl (zay rfl) ?_ | (refine zar ?_; first | refine zap rfl (zbc rfl rfl (by omega)) ?_ | refine zap rfl (opj_csub rfl rfl) ?_) | (refine zat ?_; refine zap rfl (zbu rfl rfl) ?_) | (refine zau ?_; refine zap rfl (opj_indexC rfl rfl (by omega) (by omega)) ?_) | refine zav ?_
    rw [en1]
    skip
    rw [en2]
    skip
    refine raF_name fun o ho Q' hQ => ?_
    have r19_20_21_22_23_24_25_26_27_28_29 : ∀ (a b : Nat) (mo : FV) (wh : Int) (gq : Nat), Gd (mo, wh) → RA Tryz.prog 99 o (LD 30 19 [19, 20, 21, 22, 23, 24, 25, 26, 27, 28, 29]) 0 [(15, .raw (.bool true)), (14, .raw (.int .i64 wh)), (13, .f .f32 mo), (12, .raw (.pointer (some ⟨gq, 0, none⟩))), (0, slC w0 (tabC n P)), (1, .f .f32 near), (6, .raw (.slice (some ⟨go, 0, none⟩) k co)), (7, .raw (.slice (some ⟨gc, 0, none⟩) m cc)), (8, .raw (.int .i64 fr)), (9, .raw (.int .i64 to)), (10, slC w0 (tabC n' P')), (11, .raw (.int .i64 n'))] (St w0 [] (⟨gq, 35, [.raw (.slice (some ⟨a, 0, none⟩) 4 4), .raw (.slice (some ⟨b, 0, none⟩) 4 4)], 2⟩ :: entF b 27 4 (fun _ => one1) 4 :: entC a 4 F 4 :: HH)) Q' := fun a b mo wh gq hc => ra_end (by rw [ho]; decide +kernel) (by rw [hQ]; exact (hD (((a, b), mo, wh), gq) hc))
    have r19_20_21_22_23_24_25_26_27_28 : ∀ (a b : Nat) (mo : FV) (wh : Int) (gq : Nat), Gd (mo, wh) → RA Tryz.prog 99 o (LD 30 19 [19, 20, 21, 22, 23, 24, 25, 26, 27, 28]) 1 [(14, .raw (.int .i64 wh)), (13, .f .f32 mo), (12, .raw (.pointer (some ⟨gq, 0, none⟩))), (69, .raw (.bool true)), (68, .raw (.int .i64 wh)), (67, .f .f32 mo), (66, crvO a b 4), (45, .tup [crvO a b 4, .f .f32 mo, .raw (.int .i64 wh), .raw (.bool true)]), (65, .tup [crvO a b 4, .f .f32 mo, .raw (.int .i64 wh), .raw (.bool true)]), (0, slC w0 (tabC n P)), (1, .f .f32 near), (6, .raw (.slice (some ⟨go, 0, none⟩) k co)), (7, .raw (.slice (some ⟨gc, 0, none⟩) m cc)), (8, .raw (.int .i64 fr)), (9, .raw (.int .i64 to)), (10, slC w0 (tabC n' P')), (11, .raw (.int .i64 n'))] (St w0 [] (⟨gq, 35, [.raw (.slice (some ⟨a, 0, none⟩) 4 4), .raw (.slice (some ⟨b, 0, none⟩) 4 4)], 2⟩ :: entF b 27 4 (fun _ => one1) 4 :: entC a 4 F 4 :: HH)) Q' := fun a b mo wh gq hc => by
      refine ra_list [29] (by rw [ho]; decide +kernel) rfl ⟨?_, trivial⟩
      · refine ro_op (by rw [ho]; rfl) rfl (zaz rfl) ?_
        exact RA.weak (RA.toL' (r19_20_21_22_23_24_25_26_27_28_29 a b mo wh gq hc) (by decide +kernel)) (by (repeat (first | exact Env.sub_nil _ | refine Env.sub_cons rfl ?_))) (fun _ h => h)
    have r19_20_21_22_23_24_25_26_27 : ∀ (a b : Nat) (mo : FV) (wh : Int) (gq : Nat), Gd (mo, wh) → RA Tryz.prog 99 o (LD 30 19 [19, 20, 21, 22, 23, 24, 25, 26, 27]) 2 [(13, .f .f32 mo), (12, .raw (.pointer (some ⟨gq, 0, none⟩))), (69, .raw (.bool true)), (68, .raw (.int .i64 wh)), (67, .f .f32 mo), (66, crvO a b 4), (45, .tup [crvO a b 4, .f .f32 mo, .raw (.int .i64 wh), .raw (.bool true)]), (65, .tup [crvO a b 4, .f .f32 mo, .raw (.int .i64 wh), .raw (.bool true)]), (0, slC w0 (tabC n P)), (1, .f .f32 near), (6, .raw (.slice (some ⟨go, 0, none⟩) k co)), (7, .raw (.slice (some ⟨gc, 0, none⟩) m cc)), (8, .raw (.int .i64 fr)), (9, .raw (.int .i64 to)), (10, slC w0 (tabC n' P')), (11, .raw (.int .i64 n'))] (St w0 [] (⟨gq, 35, [.raw (.slice (some ⟨a, 0, none⟩) 4 4), .raw (.slice (some ⟨b, 0, none⟩) 4 4)], 2⟩ :: entF b 27 4 (fun _ => one1) 4 :: entC a 4 F 4 :: HH)) Q' := fun a b mo wh gq hc => by
      refine ra_list [28] (by rw [ho]; decide +kernel) rfl ⟨?_, trivial⟩
      · refine ro_op (by rw [ho]; rfl) rfl (zaz rfl) ?_
        exact RA.weak (RA.toL' (r19_20_21_22_23_24_25_26_27_28 a b mo wh gq hc) (by decide +kernel)) (by (repeat (first | exact Env.sub_nil _ | refine Env.sub_cons rfl ?_))) (fun _ h => h)
    have r19_20_21_22_23_25_26_27_28 : ∀ (a b : Nat) (mo : FV) (wh : Int) (gq : Nat), Gd (mo, wh) → RA Tryz.prog 99 o (LD 30 19 [19, 20, 21, 22, 23, 25, 26, 27, 28]) 2 [(14, .raw (.int .i64 wh)), (13, .f .f32 mo), (12, .raw (.pointer (some ⟨gq, 0, none⟩))), (68, .raw (.int .i64 wh)), (67, .f .f32 mo), (66, crvO a b 4), (45, .tup [crvO a b 4, .f .f32 mo, .raw (.int .i64 wh), .raw (.bool true)]), (65, .tup [crvO a b 4, .f .f32 mo, .raw (.int .i64 wh), .raw (.bool true)]), (0, slC w0 (tabC n P)), (1, .f .f32 near), (6, .raw (.slice (some ⟨go, 0, none⟩) k co)), (7, .raw (.slice (some ⟨gc, 0, none⟩) m cc)), (8, .raw (.int .i64 fr)), (9, .raw (.int .i64 to)), (10, slC w0 (tabC n' P')), (11, .raw (.int .i64 n'))] (St w0 [] (⟨gq, 35, [.raw (.slice (some ⟨a, 0, none⟩) 4 4), .raw (.slice (some ⟨b, 0, none⟩) 4 4)], 2⟩ :: entF b 27 4 (fun _ => one1) 4 :: entC a 4 F 4 :: HH)) Q' := fun a b mo wh gq hc => by
      refine ra_list [24] (by rw [ho]; decide +kernel) rfl ⟨?_, trivial⟩
      · refine ro_op (by rw [ho]; rfl) rfl (zbz rfl rfl) ?_
        exact RA.weak (RA.toL' (r19_20_21_22_23_24_25_26_27_28 a b mo wh gq hc) (by decide +kernel)) (by (repeat (first | exact Env.sub_nil _ | refine Env.sub_cons rfl ?_))) (fun _ h => h)
    have r19_20_21_22_23_24_25_26 : ∀ (a b : Nat) (mo : FV) (wh : Int) (gq : Nat), Gd (mo, wh) → RA Tryz.prog 99 o (LD 30 19 [19, 20, 21, 22, 23, 24, 25, 26]) 3 [(12, .raw (.pointer (some ⟨gq, 0, none⟩))), (69, .raw (.bool true)), (68, .raw (.int .i64 wh)), (67, .f .f32 mo), (66, crvO a b 4), (45, .tup [crvO a b 4, .f .f32 mo, .raw (.int .i64 wh), .raw (.bool true)]), (65, .tup [crvO a b 4, .f .f32 mo, .raw (.int .i64 wh), .raw (.bool true)]), (0, slC w0 (tabC n P)), (1, .f .f32 near), (6, .raw (.slice (some ⟨go, 0, none⟩) k co)), (7, .raw (.slice (some ⟨gc, 0, none⟩) m cc)), (8, .raw (.int .i64 fr)), (9, .raw (.int .i64 to)), (10, slC w0 (tabC n' P')), (11, .raw (.int .i64 n'))] (St w0 [] (⟨gq, 35, [.raw (.slice (some ⟨a, 0, none⟩) 4 4), .raw (.slice (some ⟨b, 0, none⟩) 4 4)], 2⟩ :: entF b 27 4 (fun _ => one1) 4 :: entC a 4 F 4 :: HH)) Q' := fun a b mo wh gq hc => by
      refine ra_list [27] (by rw [ho]; decide +kernel) rfl ⟨?_, trivial⟩
      · refine ro_op (by rw [ho]; rfl) rfl (zaz rfl) ?_
        exact RA.weak (RA.toL' (r19_20_21_22_23_24_25_26_27 a b mo wh gq hc) (by decide +kernel)) (by (repeat (first | exact Env.sub_nil _ | refine Env.sub_cons rfl ?_))) (fun _ h => h)
    have r19_20_21_22_23_25_26_27 : ∀ (a b : Nat) (mo : FV) (wh : Int) (gq : Nat), Gd (mo, wh) → RA Tryz.prog 99 o (LD 30 19 [19, 20, 21, 22, 23, 25, 26, 27]) 3 [(13, .f .f32 mo), (12, .raw (.pointer (some ⟨gq, 0, none⟩))), (68, .raw (.int .i64 wh)), (67, .f .f32 mo), (66, crvO a b 4), (45, .tup [crvO a b 4, .f .f32 mo, .raw (.int .i64 wh), .raw (.bool true)]), (65, .tup [crvO a b 4, .f .f32 mo, .raw (.int .i64 wh), .raw (.bool true)]), (0, slC w0 (tabC n P)), (1, .f .f32 near), (6, .raw (.slice (some ⟨go, 0, none⟩) k co)), (7, .raw (.slice (some ⟨gc, 0, none⟩) m cc)), (8, .raw (.int .i64 fr)), (9, .raw (.int .i64 to)), (10, slC w0 (tabC n' P')), (11, .raw (.int .i64 n'))] (St w0 [] (⟨gq, 35, [.raw (.slice (some ⟨a, 0, none⟩) 4 4), .raw (.slice (some ⟨b, 0, none⟩) 4 4)], 2⟩ :: entF b 27 4 (fun _ => one1) 4 :: entC a 4 F 4 :: HH)) Q' := fun a b mo wh gq hc => by
      refine ra_list [24, 28] (by rw [ho]; decide +kernel) rfl ⟨?_, ?_, trivial⟩
      · refine ro_op (by rw [ho]; rfl) rfl (zbz rfl rfl) ?_
        exact RA.weak (RA.toL' (r19_20_21_22_23_24_25_26_27 a b mo wh gq hc) (by decide +kernel)) (by (repeat (first | exact Env.sub_nil _ | refine Env.sub_cons rfl ?_))) (fun _ h => h)
      · refine ro_op (by rw [ho]; rfl) rfl (zaz rfl) ?_
        exact RA.weak (RA.toL' (r19_20_21_22_23_25_26_27_28 a b mo wh gq hc) (by decide +kernel)) (by (repeat (first | exact Env.sub_nil _ | refine Env.sub_cons rfl ?_))) (fun _ h => h)
    have r19_20_21_22_24_25_26_27 : ∀ (a b : Nat) (mo : FV) (wh : Int) (gq : Nat), Gd (mo, wh) → RA Tryz.prog 99 o (LD 30 19 [19, 20, 21, 22, 24, 25, 26, 27]) 3 [(13, .f .f32 mo), (12, .raw (.pointer (some ⟨gq, 0, none⟩))), (69, .raw (.bool true)), (67, .f .f32 mo), (66, crvO a b 4), (45, .tup [crvO a b 4, .f .f32 mo, .raw (.int .i64 wh), .raw (.bool true)]), (65, .tup [crvO a b 4, .f .f32 mo, .raw (.int .i64 wh), .raw (.bool true)]), (0, slC w0 (tabC n P)), (1, .f .f32 near), (6, .raw (.slice (some ⟨go, 0, none⟩) k co)), (7, .raw (.slice (some ⟨gc, 0, none⟩) m cc)), (8, .raw (.int .i64 fr)), (9, .raw (.int .i64 to)), (10, slC w0 (tabC n' P')), (11, .raw (.int .i64 n'))] (St w0 [] (⟨gq, 35, [.raw (.slice (some ⟨a, 0, none⟩) 4 4), .raw (.slice (some ⟨b, 0, none⟩) 4 4)], 2⟩ :: entF b 27 4 (fun _ => one1) 4 :: entC a 4 F 4 :: HH)) Q' := fun a b mo wh gq hc => by
      refine ra_list [23] (by rw [ho]; decide +kernel) rfl ⟨?_, trivial⟩
      · refine ro_op (by rw [ho]; rfl) rfl (zbz rfl rfl) ?_
        exact RA.weak (RA.toL' (r19_20_21_22_23_24_25_26_27 a b mo wh gq hc) (by decide +kernel)) (by (repeat (first | exact Env.sub_nil _ | refine Env.sub_cons rfl ?_))) (fun _ h => h)
    have r19_20_21_22_23_24_25 : ∀ (a b : Nat) (mo : FV) (wh : Int) (gq : Nat), Gd (mo, wh) → RA Tryz.prog 99 o (LD 30 19 [19, 20, 21, 22, 23, 24, 25]) 4 [(12, .raw (.pointer (some ⟨gq, 0, none⟩))), (69, .raw (.bool true)), (68, .raw (.int .i64 wh)), (67, .f .f32 mo), (66, crvO a b 4), (45, .tup [crvO a b 4, .f .f32 mo, .raw (.int .i64 wh), .raw (.bool true)]), (65, .tup [crvO a b 4, .f .f32 mo, .raw (.int .i64 wh), .raw (.bool true)]), (0, slC w0 (tabC n P)), (1, .f .f32 near), (6, .raw (.slice (some ⟨go, 0, none⟩) k co)), (7, .raw (.slice (some ⟨gc, 0, none⟩) m cc)), (8, .raw (.int .i64 fr)), (9, .raw (.int .i64 to)), (10, slC w0 (tabC n' P')), (11, .raw (.int .i64 n'))] (St w0 [] (⟨gq, 35, [.raw (.slice none 0 0), .raw (.slice none 0 0)], 2⟩ :: entF b 27 4 (fun _ => one1) 4 :: entC a 4 F 4 :: HH)) Q' := fun a b mo wh gq hc => by
      refine ra_list [26] (by rw [ho]; decide +kernel) rfl ⟨?_, trivial⟩
      · refine ro_effs (by rw [ho]; rfl) rfl (effs_storeAX (R := fun _ => True) (w0 := w0) (gs := []) 0 rfl rfl rfl rfl rfl rfl rfl rfl rfl) ?_
        exact RA.weak (RA.toL' (r19_20_21_22_23_24_25_26 a b mo wh gq hc) (by decide +kernel)) (by (repeat (first | exact Env.sub_nil _ | refine Env.sub_cons rfl ?_))) (fun _ h => h)
    have r19_20_21_22_23_25_26 : ∀ (a b : Nat) (mo : FV) (wh : Int) (gq : Nat), Gd (mo, wh) → RA Tryz.prog 99 o (LD 30 19 [19, 20, 21, 22, 23, 25, 26]) 4 [(12, .raw (.pointer (some ⟨gq, 0, none⟩))), (68, .raw (.int .i64 wh)), (67, .f .f32 mo), (66, crvO a b 4), (45, .tup [crvO a b 4, .f .f32 mo, .raw (.int .i64 wh), .raw (.bool true)]), (65, .tup [crvO a b 4, .f .f32 mo, .raw (.int .i64 wh), .raw (.bool true)]), (0, slC w0 (tabC n P)), (1, .f .f32 near), (6, .raw (.slice (some ⟨go, 0, none⟩) k co)), (7, .raw (.slice (some ⟨gc, 0, none⟩) m cc)), (8, .raw (.int .i64 fr)), (9, .raw (.int .i64 to)), (10, slC w0 (tabC n' P')), (11, .raw (.int .i64 n'))] (St w0 [] (⟨gq, 35, [.raw (.slice (some ⟨a, 0, none⟩) 4 4), .raw (.slice (some ⟨b, 0, none⟩) 4 4)], 2⟩ :: entF b 27 4 (fun _ => one1) 4 :: entC a 4 F 4 :: HH)) Q' := fun a b mo wh gq hc => by
      refine ra_list [24, 27] (by rw [ho]; decide +kernel) rfl ⟨?_, ?_, trivial⟩
      · refine ro_op (by rw [ho]; rfl) rfl (zbz rfl rfl) ?_
        exact RA.weak (RA.toL' (r19_20_21_22_23_24_25_26 a b mo wh gq hc) (by decide +kernel)) (by (repeat (first | exact Env.sub_nil _ | refine Env.sub_cons rfl ?_))) (fun _ h => h)
      · refine ro_op (by rw [ho]; rfl) rfl (zaz rfl) ?_
        exact RA.weak (RA.toL' (r19_20_21_22_23_25_26_27 a b mo wh gq hc) (by decide +kernel)) (by (repeat (first | exact Env.sub_nil _ | refine Env.sub_cons rfl ?_))) (fun _ h => h)
    have r19_20_21_22_24_25_26 : ∀ (a b : Nat) (mo : FV) (wh : Int) (gq : Nat), Gd (mo, wh) → RA Tryz.prog 99 o (LD 30 19 [19, 20, 21, 22, 24, 25, 26]) 4 [(12, .raw (.pointer (some ⟨gq, 0, none⟩))), (69, .raw (.bool true)), (67, .f .f32 mo), (66, crvO a b 4), (45, .tup [crvO a b 4, .f .f32 mo, .raw (.int .i64 wh), .raw (.bool true)]), (65, .tup [crvO a b 4, .f .f32 mo, .raw (.int .i64 wh), .raw (.bool true)]), (0, slC w0 (tabC n P)), (1, .f .f32 near), (6, .raw (.slice (some ⟨go, 0, none⟩) k co)), (7, .raw (.slice (some ⟨gc, 0, none⟩) m cc)), (8, .raw (.int .i64 fr)), (9, .raw (.int .i64 to)), (10, slC w0 (tabC n' P')), (11, .raw (.int .i64 n'))] (St w0 [] (⟨gq, 35, [.raw (.slice (some ⟨a, 0, none⟩) 4 4), .raw (.slice (some ⟨b, 0, none⟩) 4 4)], 2⟩ :: entF b 27 4 (fun _ => one1) 4 :: entC a 4 F 4 :: HH)) Q' := fun a b mo wh gq hc => by
      refine ra_list [23, 27] (by rw [ho]; decide +kernel) rfl ⟨?_, ?_, trivial⟩
      · refine ro_op (by rw [ho]; rfl) rfl (zbz rfl rfl) ?_
        exact RA.weak (RA.toL' (r19_20_21_22_23_24_25_26 a b mo wh gq hc) (by decide +kernel)) (by (repeat (first | exact Env.sub_nil _ | refine Env.sub_cons rfl ?_))) (fun _ h => h)
      · refine ro_op (by rw [ho]; rfl) rfl (zaz rfl) ?_
        exact RA.weak (RA.toL' (r19_20_21_22_24_25_26_27 a b mo wh gq hc) (by decide +kernel)) (by (repeat (first | exact Env.sub_nil _ | refine Env.sub_cons rfl ?_))) (fun _ h => h)
    have r19_20_21_22_25_26_27 : ∀ (a b : Nat) (mo : FV) (wh : Int) (gq : Nat), Gd (mo, wh) → RA Tryz.prog 99 o (LD 30 19 [19, 20, 21, 22, 25, 26, 27]) 4 [(13, .f .f32 mo), (12, .raw (.pointer (some ⟨gq, 0, none⟩))), (67, .f .f32 mo), (66, crvO a b 4), (45, .tup [crvO a b 4, .f .f32 mo, .raw (.int .i64 wh), .raw (.bool true)]), (65, .tup [crvO a b 4, .f .f32 mo, .raw (.int .i64 wh), .raw (.bool true)]), (0, slC w0 (tabC n P)), (1, .f .f32 near), (6, .raw (.slice (some ⟨go, 0, none⟩) k co)), (7, .raw (.slice (some ⟨gc, 0, none⟩) m cc)), (8, .raw (.int .i64 fr)), (9, .raw (.int .i64 to)), (10, slC w0 (tabC n' P')), (11, .raw (.int .i64 n'))] (St w0 [] (⟨gq, 35, [.raw (.slice (some ⟨a, 0, none⟩) 4 4), .raw (.slice (some ⟨b, 0, none⟩) 4 4)], 2⟩ :: entF b 27 4 (fun _ => one1) 4 :: entC a 4 F 4 :: HH)) Q' := fun a b mo wh gq hc => by
      refine ra_list [23, 24] (by rw [ho]; decide +kernel) rfl ⟨?_, ?_, trivial⟩
      · refine ro_op (by rw [ho]; rfl) rfl (zbz rfl rfl) ?_
        exact RA.weak (RA.toL' (r19_20_21_22_23_25_26_27 a b mo wh gq hc) (by decide +kernel)) (by (repeat (first | exact Env.sub_nil _ | refine Env.sub_cons rfl ?_))) (fun _ h => h)
      · refine ro_op (by rw [ho]; rfl) rfl (zbz rfl rfl) ?_
        exact RA.weak (RA.toL' (r19_20_21_22_24_25_26_27 a b mo wh gq hc) (by decide +kernel)) (by (repeat (first | exact Env.sub_nil _ | refine Env.sub_cons rfl ?_))) (fun _ h => h)
    have r19_20_21_23_24_25_26 : ∀ (a b : Nat) (mo : FV) (wh : Int) (gq : Nat), Gd (mo, wh) → RA Tryz.prog 99 o (LD 30 19 [19, 20, 21, 23, 24, 25, 26]) 4 [(12, .raw (.pointer (some ⟨gq, 0, none⟩))), (69, .raw (.bool true)), (68, .raw (.int .i64 wh)), (66, crvO a b 4), (45, .tup [crvO a b 4, .f .f32 mo, .raw (.int .i64 wh), .raw (.bool true)]), (65, .tup [crvO a b 4, .f .f32 mo, .raw (.int .i64 wh), .raw (.bool true)]), (0, slC w0 (tabC n P)), (1, .f .f32 near), (6, .raw (.slice (some ⟨go, 0, none⟩) k co)), (7, .raw (.slice (some ⟨gc, 0, none⟩) m cc)), (8, .raw (.int .i64 fr)), (9, .raw (.int .i64 to)), (10, slC w0 (tabC n' P')), (11, .raw (.int .i64 n'))] (St w0 [] (⟨gq, 35, [.raw (.slice (some ⟨a, 0, none⟩) 4 4), .raw (.slice (some ⟨b, 0, none⟩) 4 4)], 2⟩ :: entF b 27 4 (fun _ => one1) 4 :: entC a 4 F 4 :: HH)) Q' := fun a b mo wh gq hc => by
      refine ra_list [22] (by rw [ho]; decide +kernel) rfl ⟨?_, trivial⟩
      · refine ro_op (by rw [ho]; rfl) rfl (zbz rfl rfl) ?_
        exact RA.weak (RA.toL' (r19_20_21_22_23_24_25_26 a b mo wh gq hc) (by decide +kernel)) (by (repeat (first | exact Env.sub_nil _ | refine Env.sub_cons rfl ?_))) (fun _ h => h)
    have r19_20_21_22_23_24 : ∀ (a b : Nat) (mo : FV) (wh : Int) , Gd (mo, wh) → RA Tryz.prog 99 o (LD 30 19 [19, 20, 21, 22, 23, 24]) 5 [(69, .raw (.bool true)), (68, .raw (.int .i64 wh)), (67, .f .f32 mo), (66, crvO a b 4), (45, .tup [crvO a b 4, .f .f32 mo, .raw (.int .i64 wh), .raw (.bool true)]), (65, .tup [crvO a b 4, .f .f32 mo, .raw (.int .i64 wh), .raw (.bool true)]), (0, slC w0 (tabC n P)), (1, .f .f32 near), (6, .raw (.slice (some ⟨go, 0, none⟩) k co)), (7, .raw (.slice (some ⟨gc, 0, none⟩) m cc)), (8, .raw (.int .i64 fr)), (9, .raw (.int .i64 to)), (10, slC w0 (tabC n' P')), (11, .raw (.int .i64 n'))] (St w0 [] (entF b 27 4 (fun _ => one1) 4 :: entC a 4 F 4 :: HH)) Q' := fun a b mo wh hc => by
      refine ra_list [25] (by rw [ho]; decide +kernel) rfl ⟨?_, trivial⟩
      · refine ro_makes (by rw [ho]; rfl) rfl rfl rfl (makesX_alloc (R := fun _ => True) (w0 := w0) (gs := []) rfl rfl rfl) fun gq => ?_
        exact RA.weak (RA.toL' (r19_20_21_22_23_24_25 a b mo wh gq hc) (by decide +kernel)) (by (repeat (first | exact Env.sub_nil _ | refine Env.sub_cons rfl ?_))) (fun _ h => h)
    have r19_20_21_22_23_25 : ∀ (a b : Nat) (mo : FV) (wh : Int) (gq : Nat), Gd (mo, wh) → RA Tryz.prog 99 o (LD 30 19 [19, 20, 21, 22, 23, 25]) 5 [(12, .raw (.pointer (some ⟨gq, 0, none⟩))), (68, .raw (.int .i64 wh)), (67, .f .f32 mo), (66, crvO a b 4), (45, .tup [crvO a b 4, .f .f32 mo, .raw (.int .i64 wh), .raw (.bool true)]), (65, .tup [crvO a b 4, .f .f32 mo, .raw (.int .i64 wh), .raw (.bool true)]), (0, slC w0 (tabC n P)), (1, .f .f32 near), (6, .raw (.slice (some ⟨go, 0, none⟩) k co)), (7, .raw (.slice (some ⟨gc, 0, none⟩) m cc)), (8, .raw (.int .i64 fr)), (9, .raw (.int .i64 to)), (10, slC w0 (tabC n' P')), (11, .raw (.int .i64 n'))] (St w0 [] (⟨gq, 35, [.raw (.slice none 0 0), .raw (.slice none 0 0)], 2⟩ :: entF b 27 4 (fun _ => one1) 4 :: entC a 4 F 4 :: HH)) Q' := fun a b mo wh gq hc => by
      refine ra_list [24, 26] (by rw [ho]; decide +kernel) rfl ⟨?_, ?_, trivial⟩
      · refine ro_op (by rw [ho]; rfl) rfl (zbz rfl rfl) ?_
        exact RA.weak (RA.toL' (r19_20_21_22_23_24_25 a b mo wh gq hc) (by decide +kernel)) (by (repeat (first | exact Env.sub_nil _ | refine Env.sub_cons rfl ?_))) (fun _ h => h)
      · refine ro_effs (by rw [ho]; rfl) rfl (effs_storeAX (R := fun _ => True) (w0 := w0) (gs := []) 0 rfl rfl rfl rfl rfl rfl rfl rfl rfl) ?_
        exact RA.weak (RA.toL' (r19_20_21_22_23_25_26 a b mo wh gq hc) (by decide +kernel)) (by (repeat (first | exact Env.sub_nil _ | refine Env.sub_cons rfl ?_))) (fun _ h => h)
    have r19_20_21_22_24_25 : ∀ (a b : Nat) (mo : FV) (wh : Int) (gq : Nat), Gd (mo, wh) → RA Tryz.prog 99 o (LD 30 19 [19, 20, 21, 22, 24, 25]) 5 [(12, .raw (.pointer (some ⟨gq, 0, none⟩))), (69, .raw (.bool true)), (67, .f .f32 mo), (66, crvO a b 4), (45, .tup [crvO a b 4, .f .f32 mo, .raw (.int .i64 wh), .raw (.bool true)]), (65, .tup [crvO a b 4, .f .f32 mo, .raw (.int .i64 wh), .raw (.bool true)]), (0, slC w0 (tabC n P)), (1, .f .f32 near), (6, .raw (.slice (some ⟨go, 0, none⟩) k co)), (7, .raw (.slice (some ⟨gc, 0, none⟩) m cc)), (8, .raw (.int .i64 fr)), (9, .raw (.int .i64 to)), (10, slC w0 (tabC n' P')), (11, .raw (.int .i64 n'))] (St w0 [] (⟨gq, 35, [.raw (.slice none 0 0), .raw (.slice none 0 0)], 2⟩ :: entF b 27 4 (fun _ => one1) 4 :: entC a 4 F 4 :: HH)) Q' := fun a b mo wh gq hc => by
      refine ra_list [23, 26] (by rw [ho]; decide +kernel) rfl ⟨?_, ?_, trivial⟩
      · refine ro_op (by rw [ho]; rfl) rfl (zbz rfl rfl) ?_
        exact RA.weak (RA.toL' (r19_20_21_22_23_24_25 a b mo wh gq hc) (by decide +kernel)) (by (repeat (first | exact Env.sub_nil _ | refine Env.sub_cons rfl ?_))) (fun _ h => h)
      · refine ro_effs (by rw [ho]; rfl) rfl (effs_storeAX (R := fun _ => True) (w0 := w0) (gs := []) 0 rfl rfl rfl rfl rfl rfl rfl rfl rfl) ?_
        exact RA.weak (RA.toL' (r19_20_21_22_24_25_26 a b mo wh gq hc) (by decide +kernel)) (by (repeat (first | exact Env.sub_nil _ | refine Env.sub_cons rfl ?_))) (fun _ h => h)
    have r19_20_21_22_25_26 : ∀ (a b : Nat) (mo : FV) (wh : Int) (gq : Nat), Gd (mo, wh) → RA Tryz.prog 99 o (LD 30 19 [19, 20, 21, 22, 25, 26]) 5 [(12, .raw (.pointer (some ⟨gq, 0, none⟩))), (67, .f .f32 mo), (66, crvO a b 4), (45, .tup [crvO a b 4, .f .f32 mo, .raw (.int .i64 wh), .raw (.bool true)]), (65, .tup [crvO a b 4, .f .f32 mo, .raw (.int .i64 wh), .raw (.bool true)]), (0, slC w0 (tabC n P)), (1, .f .f32 near), (6, .raw (.slice (some ⟨go, 0, none⟩) k co)), (7, .raw (.slice (some ⟨gc, 0, none⟩) m cc)), (8, .raw (.int .i64 fr)), (9, .raw (.int .i64 to)), (10, slC w0 (tabC n' P')), (11, .raw (.int .i64 n'))] (St w0 [] (⟨gq, 35, [.raw (.slice (some ⟨a, 0, none⟩) 4 4), .raw (.slice (some ⟨b, 0, none⟩) 4 4)], 2⟩ :: entF b 27 4 (fun _ => one1) 4 :: entC a 4 F 4 :: HH)) Q' := fun a b mo wh gq hc => by
      refine ra_list [23, 24, 27] (by rw [ho]; decide +kernel) rfl ⟨?_, ?_, ?_, trivial⟩
      · refine ro_op (by rw [ho]; rfl) rfl (zbz rfl rfl) ?_
        exact RA.weak (RA.toL' (r19_20_21_22_23_25_26 a b mo wh gq hc) (by decide +kernel)) (by (repeat (first | exact Env.sub_nil _ | refine Env.sub_cons rfl ?_))) (fun _ h => h)
      · refine ro_op (by rw [ho]; rfl) rfl (zbz rfl rfl) ?_
        exact RA.weak (RA.toL' (r19_20_21_22_24_25_26 a b mo wh gq hc) (by decide +kernel)) (by (repeat (first | exact Env.sub_nil _ | refine Env.sub_cons rfl ?_))) (fun _ h => h)
      · refine ro_op (by rw [ho]; rfl) rfl (zaz rfl) ?_
        exact RA.weak (RA.toL' (r19_20_21_22_25_26_27 a b mo wh gq hc) (by decide +kernel)) (by (repeat (first | exact Env.sub_nil _ | refine Env.sub_cons rfl ?_))) (fun _ h => h)
    have r19_20_21_23_24_25 : ∀ (a b : Nat) (mo : FV) (wh : Int) (gq : Nat), Gd (mo, wh) → RA Tryz.prog 99 o (LD 30 19 [19, 20, 21, 23, 24, 25]) 5 [(12, .raw (.pointer (some ⟨gq, 0, none⟩))), (69, .raw (.bool true)), (68, .raw (.int .i64 wh)), (66, crvO a b 4), (45, .tup [crvO a b 4, .f .f32 mo, .raw (.int .i64 wh), .raw (.bool true)]), (65, .tup [crvO a b 4, .f .f32 mo, .raw (.int .i64 wh), .raw (.bool true)]), (0, slC w0 (tabC n P)), (1, .f .f32 near), (6, .raw (.slice (some ⟨go, 0, none⟩) k co)), (7, .raw (.slice (some ⟨gc, 0, none⟩) m cc)), (8, .raw (.int .i64 fr)), (9, .raw (.int .i64 to)), (10, slC w0 (tabC n' P')), (11, .raw (.int .i64 n'))] (St w0 [] (⟨gq, 35, [.raw (.slice none 0 0), .raw (.slice none 0 0)], 2⟩ :: entF b 27 4 (fun _ => one1) 4 :: entC a 4 F 4 :: HH)) Q' := fun a b mo wh gq hc => by
      refine ra_list [22, 26] (by rw [ho]; decide +kernel) rfl ⟨?_, ?_, trivial⟩
      · refine ro_op (by rw [ho]; rfl) rfl (zbz rfl rfl) ?_
        exact RA.weak (RA.toL' (r19_20_21_22_23_24_25 a b mo wh gq hc) (by decide +kernel)) (by (repeat (first | exact Env.sub_nil _ | refine Env.sub_cons rfl ?_))) (fun _ h => h)
      · refine ro_effs (by rw [ho]; rfl) rfl (effs_storeAX (R := fun _ => True) (w0 := w0) (gs := []) 0 rfl rfl rfl rfl rfl rfl rfl rfl rfl) ?_
        exact RA.weak (RA.toL' (r19_20_21_23_24_25_26 a b mo wh gq hc) (by decide +kernel)) (by (repeat (first | exact Env.sub_nil _ | refine Env.sub_cons rfl ?_))) (fun _ h => h)
    have r19_20_21_23_25_26 : ∀ (a b : Nat) (mo : FV) (wh : Int) (gq : Nat), Gd (mo, wh) → RA Tryz.prog 99 o (LD 30 19 [19, 20, 21, 23, 25, 26]) 5 [(12, .raw (.pointer (some ⟨gq, 0, none⟩))), (68, .raw (.int .i64 wh)), (66, crvO a b 4), (45, .tup [crvO a b 4, .f .f32 mo, .raw (.int .i64 wh), .raw (.bool true)]), (65, .tup [crvO a b 4, .f .f32 mo, .raw (.int .i64 wh), .raw (.bool true)]), (0, slC w0 (tabC n P)), (1, .f .f32 near), (6, .raw (.slice (some ⟨go, 0, none⟩) k co)), (7, .raw (.slice (some ⟨gc, 0, none⟩) m cc)), (8, .raw (.int .i64 fr)), (9, .raw (.int .i64 to)), (10, slC w0 (tabC n' P')), (11, .raw (.int .i64 n'))] (St w0 [] (⟨gq, 35, [.raw (.slice (some ⟨a, 0, none⟩) 4 4), .raw (.slice (some ⟨b, 0, none⟩) 4 4)], 2⟩ :: entF b 27 4 (fun _ => one1) 4 :: entC a 4 F 4 :: HH)) Q' := fun a b mo wh gq hc => by
      refine ra_list [22, 24] (by rw [ho]; decide +kernel) rfl ⟨?_, ?_, trivial⟩
      · refine ro_op (by rw [ho]; rfl) rfl (zbz rfl rfl) ?_
        exact RA.weak (RA.toL' (r19_20_21_22_23_25_26 a b mo wh gq hc) (by decide +kernel)) (by (repeat (first | exact Env.sub_nil _ | refine Env.sub_cons rfl ?_))) (fun _ h => h)
      · refine ro_op (by rw [ho]; rfl) rfl (zbz rfl rfl) ?_
        exact RA.weak (RA.toL' (r19_20_21_23_24_25_26 a b mo wh gq hc) (by decide +kernel)) (by (repeat (first | exact Env.sub_nil _ | refine Env.sub_cons rfl ?_))) (fun _ h => h)
    have r19_20_21_24_25_26 : ∀ (a b : Nat) (mo : FV) (wh : Int) (gq : Nat), Gd (mo, wh) → RA Tryz.prog 99 o (LD 30 19 [19, 20, 21, 24, 25, 26]) 5 [(12, .raw (.pointer (some ⟨gq, 0, none⟩))), (69, .raw (.bool true)), (66, crvO a b 4), (45, .tup [crvO a b 4, .f .f32 mo, .raw (.int .i64 wh), .raw (.bool true)]), (65, .tup [crvO a b 4, .f .f32 mo, .raw (.int .i64 wh), .raw (.bool true)]), (0, slC w0 (tabC n P)), (1, .f .f32 near), (6, .raw (.slice (some ⟨go, 0, none⟩) k co)), (7, .raw (.slice (some ⟨gc, 0, none⟩) m cc)), (8, .raw (.int .i64 fr)), (9, .raw (.int .i64 to)), (10, slC w0 (tabC n' P')), (11, .raw (.int .i64 n'))] (St w0 [] (⟨gq, 35, [.raw (.slice (some ⟨a, 0, none⟩) 4 4), .raw (.slice (some ⟨b, 0, none⟩) 4 4)], 2⟩ :: entF b 27 4 (fun _ => one1) 4 :: entC a 4 F 4 :: HH)) Q' := fun a b mo wh gq hc => by
      refine ra_list [22, 23] (by rw [ho]; decide +kernel) rfl ⟨?_, ?_, trivial⟩
      · refine ro_op (by rw [ho]; rfl) rfl (zbz rfl rfl) ?_
        exact RA.weak (RA.toL' (r19_20_21_22_24_25_26 a b mo wh gq hc) (by decide +kernel)) (by (repeat (first | exact Env.sub_nil _ | refine Env.sub_cons rfl ?_))) (fun _ h => h)
      · refine ro_op (by rw [ho]; rfl) rfl (zbz rfl rfl) ?_
        exact RA.weak (RA.toL' (r19_20_21_23_24_25_26 a b mo wh gq hc) (by decide +kernel)) (by (repeat (first | exact Env.sub_nil _ | refine Env.sub_cons rfl ?_))) (fun _ h => h)
    have r19_20_22_23_24_25 : ∀ (a b : Nat) (mo : FV) (wh : Int) (gq : Nat), Gd (mo, wh) → RA Tryz.prog 99 o (LD 30 19 [19, 20, 22, 23, 24, 25]) 5 [(12, .raw (.pointer (some ⟨gq, 0, none⟩))), (69, .raw (.bool true)), (68, .raw (.int .i64 wh)), (67, .f .f32 mo), (45, .tup [crvO a b 4, .f .f32 mo, .raw (.int .i64 wh), .raw (.bool true)]), (65, .tup [crvO a b 4, .f .f32 mo, .raw (.int .i64 wh), .raw (.bool true)]), (0, slC w0 (tabC n P)), (1, .f .f32 near), (6, .raw (.slice (some ⟨go, 0, none⟩) k co)), (7, .raw (.slice (some ⟨gc, 0, none⟩) m cc)), (8, .raw (.int .i64 fr)), (9, .raw (.int .i64 to)), (10, slC w0 (tabC n' P')), (11, .raw (.int .i64 n'))] (St w0 [] (⟨gq, 35, [.raw (.slice none 0 0), .raw (.slice none 0 0)], 2⟩ :: entF b 27 4 (fun _ => one1) 4 :: entC a 4 F 4 :: HH)) Q' := fun a b mo wh gq hc => by
      refine ra_list [21] (by rw [ho]; decide +kernel) rfl ⟨?_, trivial⟩
      · refine ro_op (by rw [ho]; rfl) rfl (zbz rfl rfl) ?_
        exact RA.weak (RA.toL' (r19_20_21_22_23_24_25 a b mo wh gq hc) (by decide +kernel)) (by (repeat (first | exact Env.sub_nil _ | refine Env.sub_cons rfl ?_))) (fun _ h => h)
    have r19_20_21_22_23 : ∀ (a b : Nat) (mo : FV) (wh : Int) , Gd (mo, wh) → RA Tryz.prog 99 o (LD 30 19 [19, 20, 21, 22, 23]) 6 [(68, .raw (.int .i64 wh)), (67, .f .f32 mo), (66, crvO a b 4), (45, .tup [crvO a b 4, .f .f32 mo, .raw (.int .i64 wh), .raw (.bool true)]), (65, .tup [crvO a b 4, .f .f32 mo, .raw (.int .i64 wh), .raw (.bool true)]), (0, slC w0 (tabC n P)), (1, .f .f32 near), (6, .raw (.slice (some ⟨go, 0, none⟩) k co)), (7, .raw (.slice (some ⟨gc, 0, none⟩) m cc)), (8, .raw (.int .i64 fr)), (9, .raw (.int .i64 to)), (10, slC w0 (tabC n' P')), (11, .raw (.int .i64 n'))] (St w0 [] (entF b 27 4 (fun _ => one1) 4 :: entC a 4 F 4 :: HH)) Q' := fun a b mo wh hc => by
      refine ra_list [24, 25] (by rw [ho]; decide +kernel) rfl ⟨?_, ?_, trivial⟩
      · refine ro_op (by rw [ho]; rfl) rfl (zbz rfl rfl) ?_
        exact RA.weak (RA.toL' (r19_20_21_22_23_24 a b mo wh hc) (by decide +kernel)) (by (repeat (first | exact Env.sub_nil _ | refine Env.sub_cons rfl ?_))) (fun _ h => h)
      · refine ro_makes (by rw [ho]; rfl) rfl rfl rfl (makesX_alloc (R := fun _ => True) (w0 := w0) (gs := []) rfl rfl rfl) fun gq => ?_
        exact RA.weak (RA.toL' (r19_20_21_22_23_25 a b mo wh gq hc) (by decide +kernel)) (by (repeat (first | exact Env.sub_nil _ | refine Env.sub_cons rfl ?_))) (fun _ h => h)
    have r19_20_21_22_24 : ∀ (a b : Nat) (mo : FV) (wh : Int) , Gd (mo, wh) → RA Tryz.prog 99 o (LD 30 19 [19, 20, 21, 22, 24]) 6 [(69, .raw (.bool true)), (67, .f .f32 mo), (66, crvO a b 4), (45, .tup [crvO a b 4, .f .f32 mo, .raw (.int .i64 wh), .raw (.bool true)]), (65, .tup [crvO a b 4, .f .f32 mo, .raw (.int .i64 wh), .raw (.bool true)]), (0, slC w0 (tabC n P)), (1, .f .f32 near), (6, .raw (.slice (some ⟨go, 0, none⟩) k co)), (7, .raw (.slice (some ⟨gc, 0, none⟩) m cc)), (8, .raw (.int .i64 fr)), (9, .raw (.int .i64 to)), (10, slC w0 (tabC n' P')), (11, .raw (.int .i64 n'))] (St w0 [] (entF b 27 4 (fun _ => one1) 4 :: entC a 4 F 4 :: HH)) Q' := fun a b mo wh hc => by
      refine ra_list [23, 25] (by rw [ho]; decide +kernel) rfl ⟨?_, ?_, trivial⟩
      · refine ro_op (by rw [ho]; rfl) rfl (zbz rfl rfl) ?_
        exact RA.weak (RA.toL' (r19_20_21_22_23_24 a b mo wh hc) (by decide +kernel)) (by (repeat (first | exact Env.sub_nil _ | refine Env.sub_cons rfl ?_))) (fun _ h => h)
      · refine ro_makes (by rw [ho]; rfl) rfl rfl rfl (makesX_alloc (R := fun _ => True) (w0 := w0) (gs := []) rfl rfl rfl) fun gq => ?_
        exact RA.weak (RA.toL' (r19_20_21_22_24_25 a b mo wh gq hc) (by decide +kernel)) (by (repeat (first | exact Env.sub_nil _ | refine Env.sub_cons rfl ?_))) (fun _ h => h)
    have r19_20_21_22_25 : ∀ (a b : Nat) (mo : FV) (wh : Int) (gq : Nat), Gd (mo, wh) → RA Tryz.prog 99 o (LD 30 19 [19, 20, 21, 22, 25]) 6 [(12, .raw (.pointer (some ⟨gq, 0, none⟩))), (67, .f .f32 mo), (66, crvO a b 4), (45, .tup [crvO a b 4, .f .f32 mo, .raw (.int .i64 wh), .raw (.bool true)]), (65, .tup [crvO a b 4, .f .f32 mo, .raw (.int .i64 wh), .raw (.bool true)]), (0, slC w0 (tabC n P)), (1, .f .f32 near), (6, .raw (.slice (some ⟨go, 0, none⟩) k co)), (7, .raw (.slice (some ⟨gc, 0, none⟩) m cc)), (8, .raw (.int .i64 fr)), (9, .raw (.int .i64 to)), (10, slC w0 (tabC n' P')), (11, .raw (.int .i64 n'))] (St w0 [] (⟨gq, 35, [.raw (.slice none 0 0), .raw (.slice none 0 0)], 2⟩ :: entF b 27 4 (fun _ => one1) 4 :: entC a 4 F 4 :: HH)) Q' := fun a b mo wh gq hc => by
      refine ra_list [23, 24, 26] (by rw [ho]; decide +kernel) rfl ⟨?_, ?_, ?_, trivial⟩
      · refine ro_op (by rw [ho]; rfl) rfl (zbz rfl rfl) ?_
        exact RA.weak (RA.toL' (r19_20_21_22_23_25 a b mo wh gq hc) (by decide +kernel)) (by (repeat (first | exact Env.sub_nil _ | refine Env.sub_cons rfl ?_))) (fun _ h => h)
      · refine ro_op (by rw [ho]; rfl) rfl (zbz rfl rfl) ?_
        exact RA.weak (RA.toL' (r19_20_21_22_24_25 a b mo wh gq hc) (by decide +kernel)) (by (repeat (first | exact Env.sub_nil _ | refine Env.sub_cons rfl ?_))) (fun _ h => h)
      · refine ro_effs (by rw [ho]; rfl) rfl (effs_storeAX (R := fun _ => True) (w0 := w0) (gs := []) 0 rfl rfl rfl rfl rfl rfl rfl rfl rfl) ?_
        exact RA.weak (RA.toL' (r19_20_21_22_25_26 a b mo wh gq hc) (by decide +kernel)) (by (repeat (first | exact Env.sub_nil _ | refine Env.sub_cons rfl ?_))) (fun _ h => h)
    have r19_20_21_23_24 : ∀ (a b : Nat) (mo : FV) (wh : Int) , Gd (mo, wh) → RA Tryz.prog 99 o (LD 30 19 [19, 20, 21, 23, 24]) 6 [(69, .raw (.bool true)), (68, .raw (.int .i64 wh)), (66, crvO a b 4), (45, .tup [crvO a b 4, .f .f32 mo, .raw (.int .i64 wh), .raw (.bool true)]), (65, .tup [crvO a b 4, .f .f32 mo, .raw (.int .i64 wh), .raw (.bool true)]), (0, slC w0 (tabC n P)), (1, .f .f32 near), (6, .raw (.slice (some ⟨go, 0, none⟩) k co)), (7, .raw (.slice (some ⟨gc, 0, none⟩) m cc)), (8, .raw (.int .i64 fr)), (9, .raw (.int .i64 to)), (10, slC w0 (tabC n' P')), (11, .raw (.int .i64 n'))] (St w0 [] (entF b 27 4 (fun _ => one1) 4 :: entC a 4 F 4 :: HH)) Q' := fun a b mo wh hc => by
      refine ra_list [22, 25] (by rw [ho]; decide +kernel) rfl ⟨?_, ?_, trivial⟩
      · refine ro_op (by rw [ho]; rfl) rfl (zbz rfl rfl) ?_
        exact RA.weak (RA.toL' (r19_20_21_22_23_24 a b mo wh hc) (by decide +kernel)) (by (repeat (first | exact Env.sub_nil _ | refine Env.sub_cons rfl ?_))) (fun _ h => h)
      · refine ro_makes (by rw [ho]; rfl) rfl rfl rfl (makesX_alloc (R := fun _ => True) (w0 := w0) (gs := []) rfl rfl rfl) fun gq => ?_
        exact RA.weak (RA.toL' (r19_20_21_23_24_25 a b mo wh gq hc) (by decide +kernel)) (by (repeat (first | exact Env.sub_nil _ | refine Env.sub_cons rfl ?_))) (fun _ h => h)
    have r19_20_21_23_25 : ∀ (a b : Nat) (mo : FV) (wh : Int) (gq : Nat), Gd (mo, wh) → RA Tryz.prog 99 o (LD 30 19 [19, 20, 21, 23, 25]) 6 [(12, .raw (.pointer (some ⟨gq, 0, none⟩))), (68, .raw (.int .i64 wh)), (66, crvO a b 4), (45, .tup [crvO a b 4, .f .f32 mo, .raw (.int .i64 wh), .raw (.bool true)]), (65, .tup [crvO a b 4, .f .f32 mo, .raw (.int .i64 wh), .raw (.bool true)]), (0, slC w0 (tabC n P)), (1, .f .f32 near), (6, .raw (.slice (some ⟨go, 0, none⟩) k co)), (7, .raw (.slice (some ⟨gc, 0, none⟩) m cc)), (8, .raw (.int .i64 fr)), (9, .raw (.int .i64 to)), (10, slC w0 (tabC n' P')), (11, .raw (.int .i64 n'))] (St w0 [] (⟨gq, 35, [.raw (.slice none 0 0), .raw (.slice none 0 0)], 2⟩ :: entF b 27 4 (fun _ => one1) 4 :: entC a 4 F 4 :: HH)) Q' := fun a b mo wh gq hc => by
      refine ra_list [22, 24, 26] (by rw [ho]; decide +kernel) rfl ⟨?_, ?_, ?_, trivial⟩
      · refine ro_op (by rw [ho]; rfl) rfl (zbz rfl rfl) ?_
        exact RA.weak (RA.toL' (r19_20_21_22_23_25 a b mo wh gq hc) (by decide +kernel)) (by (repeat (first | exact Env.sub_nil _ | refine Env.sub_cons rfl ?_))) (fun _ h => h)
      · refine ro_op (by rw [ho]; rfl) rfl (zbz rfl rfl) ?_
        exact RA.weak (RA.toL' (r19_20_21_23_24_25 a b mo wh gq hc) (by decide +kernel)) (by (repeat (first | exact Env.sub_nil _ | refine Env.sub_cons rfl ?_))) (fun _ h => h)
      · refine ro_effs (by rw [ho]; rfl) rfl (effs_storeAX (R := fun _ => True) (w0 := w0) (gs := []) 0 rfl rfl rfl rfl rfl rfl rfl rfl rfl) ?_
        exact RA.weak (RA.toL' (r19_20_21_23_25_26 a b mo wh gq hc) (by decide +kernel)) (by (repeat (first | exact Env.sub_nil _ | refine Env.sub_cons rfl ?_))) (fun _ h => h)
    have r19_20_21_24_25 : ∀ (a b : Nat) (mo : FV) (wh : Int) (gq : Nat), Gd (mo, wh) → RA Tryz.prog 99 o (LD 30 19 [19, 20, 21, 24, 25]) 6 [(12, .raw (.pointer (some ⟨gq, 0, none⟩))), (69, .raw (.bool true)), (66, crvO a b 4), (45, .tup [crvO a b 4, .f .f32 mo, .raw (.int .i64 wh), .raw (.bool true)]), (65, .tup [crvO a b 4, .f .f32 mo, .raw (.int .i64 wh), .raw (.bool true)]), (0, slC w0 (tabC n P)), (1, .f .f32 near), (6, .raw (.slice (some ⟨go, 0, none⟩) k co)), (7, .raw (.slice (some ⟨gc, 0, none⟩) m cc)), (8, .raw (.int .i64 fr)), (9, .raw (.int .i64 to)), (10, slC w0 (tabC n' P')), (11, .raw (.int .i64 n'))] (St w0 [] (⟨gq, 35, [.raw (.slice none 0 0), .raw (.slice none 0 0)], 2⟩ :: entF b 27 4 (fun _ => one1) 4 :: entC a 4 F 4 :: HH)) Q' := fun a b mo wh gq hc => by
      refine ra_list [22, 23, 26] (by rw [ho]; decide +kernel) rfl ⟨?_, ?_, ?_, trivial⟩
      · refine ro_op (by rw [ho]; rfl) rfl (zbz rfl rfl) ?_
        exact RA.weak (RA.toL' (r19_20_21_22_24_25 a b mo wh gq hc) (by decide +kernel)) (by (repeat (first | exact Env.sub_nil _ | refine Env.sub_cons rfl ?_))) (fun _ h => h)
      · refine ro_op (by rw [ho]; rfl) rfl (zbz rfl rfl) ?_
        exact RA.weak (RA.toL' (r19_20_21_23_24_25 a b mo wh gq hc) (by decide +kernel)) (by (repeat (first | exact Env.sub_nil _ | refine Env.sub_cons rfl ?_))) (fun _ h => h)
      · refine ro_effs (by rw [ho]; rfl) rfl (effs_storeAX (R := fun _ => True) (w0 := w0) (gs := []) 0 rfl rfl rfl rfl rfl rfl rfl rfl rfl) ?_
        exact RA.weak (RA.toL' (r19_20_21_24_25_26 a b mo wh gq hc) (by decide +kernel)) (by (repeat (first | exact Env.sub_nil _ | refine Env.sub_cons rfl ?_))) (fun _ h => h)
    have r19_20_21_25_26 : ∀ (a b : Nat) (mo : FV) (wh : Int) (gq : Nat), Gd (mo, wh) → RA Tryz.prog 99 o (LD 30 19 [19, 20, 21, 25, 26]) 6 [(12, .raw (.pointer (some ⟨gq, 0, none⟩))), (66, crvO a b 4), (45, .tup [crvO a b 4, .f .f32 mo, .raw (.int .i64 wh), .raw (.bool true)]), (65, .tup [crvO a b 4, .f .f32 mo, .raw (.int .i64 wh), .raw (.bool true)]), (0, slC w0 (tabC n P)), (1, .f .f32 near), (6, .raw (.slice (some ⟨go, 0, none⟩) k co)), (7, .raw (.slice (some ⟨gc, 0, none⟩) m cc)), (8, .raw (.int .i64 fr)), (9, .raw (.int .i64 to)), (10, slC w0 (tabC n' P')), (11, .raw (.int .i64 n'))] (St w0 [] (⟨gq, 35, [.raw (.slice (some ⟨a, 0, none⟩) 4 4), .raw (.slice (some ⟨b, 0, none⟩) 4 4)], 2⟩ :: entF b 27 4 (fun _ => one1) 4 :: entC a 4 F 4 :: HH)) Q' := fun a b mo wh gq hc => by
      refine ra_list [22, 23, 24] (by rw [ho]; decide +kernel) rfl ⟨?_, ?_, ?_, trivial⟩
      · refine ro_op (by rw [ho]; rfl) rfl (zbz rfl rfl) ?_
        exact RA.weak (RA.toL' (r19_20_21_22_25_26 a b mo wh gq hc) (by decide +kernel)) (by (repeat (first | exact Env.sub_nil _ | refine Env.sub_cons rfl ?_))) (fun _ h => h)
      · refine ro_op (by rw [ho]; rfl) rfl (zbz rfl rfl) ?_
        exact RA.weak (RA.toL' (r19_20_21_23_25_26 a b mo wh gq hc) (by decide +kernel)) (by (repeat (first | exact Env.sub_nil _ | refine Env.sub_cons rfl ?_))) (fun _ h => h)
      · refine ro_op (by rw [ho]; rfl) rfl (zbz rfl rfl) ?_
        exact RA.weak (RA.toL' (r19_20_21_24_25_26 a b mo wh gq hc) (by decide +kernel)) (by (repeat (first | exact Env.sub_nil _ | refine Env.sub_cons rfl ?_))) (fun _ h => h)
    have r19_20_22_23_24 : ∀ (a b : Nat) (mo : FV) (wh : Int) , Gd (mo, wh) → RA Tryz.prog 99 o (LD 30 19 [19, 20, 22, 23, 24]) 6 [(69, .raw (.bool true)), (68, .raw (.int .i64 wh)), (67, .f .f32 mo), (45, .tup [crvO a b 4, .f .f32 mo, .raw (.int .i64 wh), .raw (.bool true)]), (65, .tup [crvO a b 4, .f .f32 mo, .raw (.int .i64 wh), .raw (.bool true)]), (0, slC w0 (tabC n P)), (1, .f .f32 near), (6, .raw (.slice (some ⟨go, 0, none⟩) k co)), (7, .raw (.slice (some ⟨gc, 0, none⟩) m cc)), (8, .raw (.int .i64 fr)), (9, .raw (.int .i64 to)), (10, slC w0 (tabC n' P')), (11, .raw (.int .i64 n'))] (St w0 [] (entF b 27 4 (fun _ => one1) 4 :: entC a 4 F 4 :: HH)) Q' := fun a b mo wh hc => by
      refine ra_list [21, 25] (by rw [ho]; decide +kernel) rfl ⟨?_, ?_, trivial⟩
      · refine ro_op (by rw [ho]; rfl) rfl (zbz rfl rfl) ?_
        exact RA.weak (RA.toL' (r19_20_21_22_23_24 a b mo wh hc) (by decide +kernel)) (by (repeat (first | exact Env.sub_nil _ | refine Env.sub_cons rfl ?_))) (fun _ h => h)
      · refine ro_makes (by rw [ho]; rfl) rfl rfl rfl (makesX_alloc (R := fun _ => True) (w0 := w0) (gs := []) rfl rfl rfl) fun gq => ?_
        exact RA.weak (RA.toL' (r19_20_22_23_24_25 a b mo wh gq hc) (by decide +kernel)) (by (repeat (first | exact Env.sub_nil _ | refine Env.sub_cons rfl ?_))) (fun _ h => h)
    have r19_20_22_23_25 : ∀ (a b : Nat) (mo : FV) (wh : Int) (gq : Nat), Gd (mo, wh) → RA Tryz.prog 99 o (LD 30 19 [19, 20, 22, 23, 25]) 6 [(12, .raw (.pointer (some ⟨gq, 0, none⟩))), (68, .raw (.int .i64 wh)), (67, .f .f32 mo), (45, .tup [crvO a b 4, .f .f32 mo, .raw (.int .i64 wh), .raw (.bool true)]), (65, .tup [crvO a b 4, .f .f32 mo, .raw (.int .i64 wh), .raw (.bool true)]), (0, slC w0 (tabC n P)), (1, .f .f32 near), (6, .raw (.slice (some ⟨go, 0, none⟩) k co)), (7, .raw (.slice (some ⟨gc, 0, none⟩) m cc)), (8, .raw (.int .i64 fr)), (9, .raw (.int .i64 to)), (10, slC w0 (tabC n' P')), (11, .raw (.int .i64 n'))] (St w0 [] (⟨gq, 35, [.raw (.slice none 0 0), .raw (.slice none 0 0)], 2⟩ :: entF b 27 4 (fun _ => one1) 4 :: entC a 4 F 4 :: HH)) Q' := fun a b mo wh gq hc => by
      refine ra_list [21, 24] (by rw [ho]; decide +kernel) rfl ⟨?_, ?_, trivial⟩
      · refine ro_op (by rw [ho]; rfl) rfl (zbz rfl rfl) ?_
        exact RA.weak (RA.toL' (r19_20_21_22_23_25 a b mo wh gq hc) (by decide +kernel)) (by (repeat (first | exact Env.sub_nil _ | refine Env.sub_cons rfl ?_))) (fun _ h => h)
      · refine ro_op (by rw [ho]; rfl) rfl (zbz rfl rfl) ?_
        exact RA.weak (RA.toL' (r19_20_22_23_24_25 a b mo wh gq hc) (by decide +kernel)) (by (repeat (first | exact Env.sub_nil _ | refine Env.sub_cons rfl ?_))) (fun _ h => h)
    have r19_20_22_24_25 : ∀ (a b : Nat) (mo : FV) (wh : Int) (gq : Nat), Gd (mo, wh) → RA Tryz.prog 99 o (LD 30 19 [19, 20, 22, 24, 25]) 6 [(12, .raw (.pointer (some ⟨gq, 0, none⟩))), (69, .raw (.bool true)), (67, .f .f32 mo), (45, .tup [crvO a b 4, .f .f32 mo, .raw (.int .i64 wh), .raw (.bool true)]), (65, .tup [crvO a b 4, .f .f32 mo, .raw (.int .i64 wh), .raw (.bool true)]), (0, slC w0 (tabC n P)), (1, .f .f32 near), (6, .raw (.slice (some ⟨go, 0, none⟩) k co)), (7, .raw (.slice (some ⟨gc, 0, none⟩) m cc)), (8, .raw (.int .i64 fr)), (9, .raw (.int .i64 to)), (10, slC w0 (tabC n' P')), (11, .raw (.int .i64 n'))] (St w0 [] (⟨gq, 35, [.raw (.slice none 0 0), .raw (.slice none 0 0)], 2⟩ :: entF b 27 4 (fun _ => one1) 4 :: entC a 4 F 4 :: HH)) Q' := fun a b mo wh gq hc => by
      refine ra_list [21, 23] (by rw [ho]; decide +kernel) rfl ⟨?_, ?_, trivial⟩
      · refine ro_op (by rw [ho]; rfl) rfl (zbz rfl rfl) ?_
        exact RA.weak (RA.toL' (r19_20_21_22_24_25 a b mo wh gq hc) (by decide +kernel)) (by (repeat (first | exact Env.sub_nil _ | refine Env.sub_cons rfl ?_))) (fun _ h => h)
      · refine ro_op (by rw [ho]; rfl) rfl (zbz rfl rfl) ?_
        exact RA.weak (RA.toL' (r19_20_22_23_24_25 a b mo wh gq hc) (by decide +kernel)) (by (repeat (first | exact Env.sub_nil _ | refine Env.sub_cons rfl ?_))) (fun _ h => h)
    have r19_20_23_24_25 : ∀ (a b : Nat) (mo : FV) (wh : Int) (gq : Nat), Gd (mo, wh) → RA Tryz.prog 99 o (LD 30 19 [19, 20, 23, 24, 25]) 6 [(12, .raw (.pointer (some ⟨gq, 0, none⟩))), (69, .raw (.bool true)), (68, .raw (.int .i64 wh)), (45, .tup [crvO a b 4, .f .f32 mo, .raw (.int .i64 wh), .raw (.bool true)]), (65, .tup [crvO a b 4, .f .f32 mo, .raw (.int .i64 wh), .raw (.bool true)]), (0, slC w0 (tabC n P)), (1, .f .f32 near), (6, .raw (.slice (some ⟨go, 0, none⟩) k co)), (7, .raw (.slice (some ⟨gc, 0, none⟩) m cc)), (8, .raw (.int .i64 fr)), (9, .raw (.int .i64 to)), (10, slC w0 (tabC n' P')), (11, .raw (.int .i64 n'))] (St w0 [] (⟨gq, 35, [.raw (.slice none 0 0), .raw (.slice none 0 0)], 2⟩ :: entF b 27 4 (fun _ => one1) 4 :: entC a 4 F 4 :: HH)) Q' := fun a b mo wh gq hc => by
      refine ra_list [21, 22] (by rw [ho]; decide +kernel) rfl ⟨?_, ?_, trivial⟩
      · refine ro_op (by rw [ho]; rfl) rfl (zbz rfl rfl) ?_
        exact RA.weak (RA.toL' (r19_20_21_23_24_25 a b mo wh gq hc) (by decide +kernel)) (by (repeat (first | exact Env.sub_nil _ | refine Env.sub_cons rfl ?_))) (fun _ h => h)
      · refine ro_op (by rw [ho]; rfl) rfl (zbz rfl rfl) ?_
        exact RA.weak (RA.toL' (r19_20_22_23_24_25 a b mo wh gq hc) (by decide +kernel)) (by (repeat (first | exact Env.sub_nil _ | refine Env.sub_cons rfl ?_))) (fun _ h => h)
    have r19_20_21_22 : ∀ (a b : Nat) (mo : FV) (wh : Int) , Gd (mo, wh) → RA Tryz.prog 99 o (LD 30 19 [19, 20, 21, 22]) 7 [(67, .f .f32 mo), (66, crvO a b 4), (45, .tup [crvO a b 4, .f .f32 mo, .raw (.int .i64 wh), .raw (.bool true)]), (65, .tup [crvO a b 4, .f .f32 mo, .raw (.int .i64 wh), .raw (.bool true)]), (0, slC w0 (tabC n P)), (1, .f .f32 near), (6, .raw (.slice (some ⟨go, 0, none⟩) k co)), (7, .raw (.slice (some ⟨gc, 0, none⟩) m cc)), (8, .raw (.int .i64 fr)), (9, .raw (.int .i64 to)), (10, slC w0 (tabC n' P')), (11, .raw (.int .i64 n'))] (St w0 [] (entF b 27 4 (fun _ => one1) 4 :: entC a 4 F 4 :: HH)) Q' := fun a b mo wh hc => by
      refine ra_list [23, 24, 25] (by rw [ho]; decide +kernel) rfl ⟨?_, ?_, ?_, trivial⟩
      · refine ro_op (by rw [ho]; rfl) rfl (zbz rfl rfl) ?_
        exact RA.weak (RA.toL' (r19_20_21_22_23 a b mo wh hc) (by decide +kernel)) (by (repeat (first | exact Env.sub_nil _ | refine Env.sub_cons rfl ?_))) (fun _ h => h)
      · refine ro_op (by rw [ho]; rfl) rfl (zbz rfl rfl) ?_
        exact RA.weak (RA.toL' (r19_20_21_22_24 a b mo wh hc) (by decide +kernel)) (by (repeat (first | exact Env.sub_nil _ | refine Env.sub_cons rfl ?_))) (fun _ h => h)
      · refine ro_makes (by rw [ho]; rfl) rfl rfl rfl (makesX_alloc (R := fun _ => True) (w0 := w0) (gs := []) rfl rfl rfl) fun gq => ?_
        exact RA.weak (RA.toL' (r19_20_21_22_25 a b mo wh gq hc) (by decide +kernel)) (by (repeat (first | exact Env.sub_nil _ | refine Env.sub_cons rfl ?_))) (fun _ h => h)
    have r19_20_21_23 : ∀ (a b : Nat) (mo : FV) (wh : Int) , Gd (mo, wh) → RA Tryz.prog 99 o (LD 30 19 [19, 20, 21, 23]) 7 [(68, .raw (.int .i64 wh)), (66, crvO a b 4), (45, .tup [crvO a b 4, .f .f32 mo, .raw (.int .i64 wh), .raw (.bool true)]), (65, .tup [crvO a b 4, .f .f32 mo, .raw (.int .i64 wh), .raw (.bool true)]), (0, slC w0 (tabC n P)), (1, .f .f32 near), (6, .raw (.slice (some ⟨go, 0, none⟩) k co)), (7, .raw (.slice (some ⟨gc, 0, none⟩) m cc)), (8, .raw (.int .i64 fr)), (9, .raw (.int .i64 to)), (10, slC w0 (tabC n' P')), (11, .raw (.int .i64 n'))] (St w0 [] (entF b 27 4 (fun _ => one1) 4 :: entC a 4 F 4 :: HH)) Q' := fun a b mo wh hc => by
      refine ra_list [22, 24, 25] (by rw [ho]; decide +kernel) rfl ⟨?_, ?_, ?_, trivial⟩
      · refine ro_op (by rw [ho]; rfl) rfl (zbz rfl rfl) ?_
        exact RA.weak (RA.toL' (r19_20_21_22_23 a b mo wh hc) (by decide +kernel)) (by (repeat (first | exact Env.sub_nil _ | refine Env.sub_cons rfl ?_))) (fun _ h => h)
      · refine ro_op (by rw [ho]; rfl) rfl (zbz rfl rfl) ?_
        exact RA.weak (RA.toL' (r19_20_21_23_24 a b mo wh hc) (by decide +kernel)) (by (repeat (first | exact Env.sub_nil _ | refine Env.sub_cons rfl ?_))) (fun _ h => h)
      · refine ro_makes (by rw [ho]; rfl) rfl rfl rfl (makesX_alloc (R := fun _ => True) (w0 := w0) (gs := []) rfl rfl rfl) fun gq => ?_
        exact RA.weak (RA.toL' (r19_20_21_23_25 a b mo wh gq hc) (by decide +kernel)) (by (repeat (first | exact Env.sub_nil _ | refine Env.sub_cons rfl ?_))) (fun _ h => h)
    have r19_20_21_24 : ∀ (a b : Nat) (mo : FV) (wh : Int) , Gd (mo, wh) → RA Tryz.prog 99 o (LD 30 19 [19, 20, 21, 24]) 7 [(69, .raw (.bool true)), (66, crvO a b 4), (45, .tup [crvO a b 4, .f .f32 mo, .raw (.int .i64 wh), .raw (.bool true)]), (65, .tup [crvO a b 4, .f .f32 mo, .raw (.int .i64 wh), .raw (.bool true)]), (0, slC w0 (tabC n P)), (1, .f .f32 near), (6, .raw (.slice (some ⟨go, 0, none⟩) k co)), (7, .raw (.slice (some ⟨gc, 0, none⟩) m cc)), (8, .raw (.int .i64 fr)), (9, .raw (.int .i64 to)), (10, slC w0 (tabC n' P')), (11, .raw (.int .i64 n'))] (St w0 [] (entF b 27 4 (fun _ => one1) 4 :: entC a 4 F 4 :: HH)) Q' := fun a b mo wh hc => by
      refine ra_list [22, 23, 25] (by rw [ho]; decide +kernel) rfl ⟨?_, ?_, ?_, trivial⟩
      · refine ro_op (by rw [ho]; rfl) rfl (zbz rfl rfl) ?_
        exact RA.weak (RA.toL' (r19_20_21_22_24 a b mo wh hc) (by decide +kernel)) (by (repeat (first | exact Env.sub_nil _ | refine Env.sub_cons rfl ?_))) (fun _ h => h)
      · refine ro_op (by rw [ho]; rfl) rfl (zbz rfl rfl) ?_
        exact RA.weak (RA.toL' (r19_20_21_23_24 a b mo wh hc) (by decide +kernel)) (by (repeat (first | exact Env.sub_nil _ | refine Env.sub_cons rfl ?_))) (fun _ h => h)
      · refine ro_makes (by rw [ho]; rfl) rfl rfl rfl (makesX_alloc (R := fun _ => True) (w0 := w0) (gs := []) rfl rfl rfl) fun gq => ?_
        exact RA.weak (RA.toL' (r19_20_21_24_25 a b mo wh gq hc) (by decide +kernel)) (by (repeat (first | exact Env.sub_nil _ | refine Env.sub_cons rfl ?_))) (fun _ h => h)
    have r19_20_21_25 : ∀ (a b : Nat) (mo : FV) (wh : Int) (gq : Nat), Gd (mo, wh) → RA Tryz.prog 99 o (LD 30 19 [19, 20, 21, 25]) 7 [(12, .raw (.pointer (some ⟨gq, 0, none⟩))), (66, crvO a b 4), (45, .tup [crvO a b 4, .f .f32 mo, .raw (.int .i64 wh), .raw (.bool true)]), (65, .tup [crvO a b 4, .f .f32 mo, .raw (.int .i64 wh), .raw (.bool true)]), (0, slC w0 (tabC n P)), (1, .f .f32 near), (6, .raw (.slice (some ⟨go, 0, none⟩) k co)), (7, .raw (.slice (some ⟨gc, 0, none⟩) m cc)), (8, .raw (.int .i64 fr)), (9, .raw (.int .i64 to)), (10, slC w0 (tabC n' P')), (11, .raw (.int .i64 n'))] (St w0 [] (⟨gq, 35, [.raw (.slice none 0 0), .raw (.slice none 0 0)], 2⟩ :: entF b 27 4 (fun _ => one1) 4 :: entC a 4 F 4 :: HH)) Q' := fun a b mo wh gq hc => by
      refine ra_list [22, 23, 24, 26] (by rw [ho]; decide +kernel) rfl ⟨?_, ?_, ?_, ?_, trivial⟩
      · refine ro_op (by rw [ho]; rfl) rfl (zbz rfl rfl) ?_
        exact RA.weak (RA.toL' (r19_20_21_22_25 a b mo wh gq hc) (by decide +kernel)) (by (repeat (first | exact Env.sub_nil _ | refine Env.sub_cons rfl ?_))) (fun _ h => h)
      · refine ro_op (by rw [ho]; rfl) rfl (zbz rfl rfl) ?_
        exact RA.weak (RA.toL' (r19_20_21_23_25 a b mo wh gq hc) (by decide +kernel)) (by (repeat (first | exact Env.sub_nil _ | refine Env.sub_cons rfl ?_))) (fun _ h => h)
      · refine ro_op (by rw [ho]; rfl) rfl (zbz rfl rfl) ?_
        exact RA.weak (RA.toL' (r19_20_21_24_25 a b mo wh gq hc) (by decide +kernel)) (by (repeat (first | exact Env.sub_nil _ | refine Env.sub_cons rfl ?_))) (fun _ h => h)
      · refine ro_effs (by rw [ho]; rfl) rfl (effs_storeAX (R := fun _ => True) (w0 := w0) (gs := []) 0 rfl rfl rfl rfl rfl rfl rfl rfl rfl) ?_
        exact RA.weak (RA.toL' (r19_20_21_25_26 a b mo wh gq hc) (by decide +kernel)) (by (repeat (first | exact Env.sub_nil _ | refine Env.sub_cons rfl ?_))) (fun _ h => h)
    have r19_20_22_23 : ∀ (a b : Nat) (mo : FV) (wh : Int) , Gd (mo, wh) → RA Tryz.prog 99 o (LD 30 19 [19, 20, 22, 23]) 7 [(68, .raw (.int .i64 wh)), (67, .f .f32 mo), (45, .tup [crvO a b 4, .f .f32 mo, .raw (.int .i64 wh), .raw (.bool true)]), (65, .tup [crvO a b 4, .f .f32 mo, .raw (.int .i64 wh), .raw (.bool true)]), (0, slC w0 (tabC n P)), (1, .f .f32 near), (6, .raw (.slice (some ⟨go, 0, none⟩) k co)), (7, .raw (.slice (some ⟨gc, 0, none⟩) m cc)), (8, .raw (.int .i64 fr)), (9, .raw (.int .i64 to)), (10, slC w0 (tabC n' P')), (11, .raw (.int .i64 n'))] (St w0 [] (entF b 27 4 (fun _ => one1) 4 :: entC a 4 F 4 :: HH)) Q' := fun a b mo wh hc => by
      refine ra_list [21, 24, 25] (by rw [ho]; decide +kernel) rfl ⟨?_, ?_, ?_, trivial⟩
      · refine ro_op (by rw [ho]; rfl) rfl (zbz rfl rfl) ?_
        exact RA.weak (RA.toL' (r19_20_21_22_23 a b mo wh hc) (by decide +kernel)) (by (repeat (first | exact Env.sub_nil _ | refine Env.sub_cons rfl ?_))) (fun _ h => h)
      · refine ro_op (by rw [ho]; rfl) rfl (zbz rfl rfl) ?_
        exact RA.weak (RA.toL' (r19_20_22_23_24 a b mo wh hc) (by decide +kernel)) (by (repeat (first | exact Env.sub_nil _ | refine Env.sub_cons rfl ?_))) (fun _ h => h)
      · refine ro_makes (by rw [ho]; rfl) rfl rfl rfl (makesX_alloc (R := fun _ => True) (w0 := w0) (gs := []) rfl rfl rfl) fun gq => ?_
        exact RA.weak (RA.toL' (r19_20_22_23_25 a b mo wh gq hc) (by decide +kernel)) (by (repeat (first | exact Env.sub_nil _ | refine Env.sub_cons rfl ?_))) (fun _ h => h)
    have r19_20_22_24 : ∀ (a b : Nat) (mo : FV) (wh : Int) , Gd (mo, wh) → RA Tryz.prog 99 o (LD 30 19 [19, 20, 22, 24]) 7 [(69, .raw (.bool true)), (67, .f .f32 mo), (45, .tup [crvO a b 4, .f .f32 mo, .raw (.int .i64 wh), .raw (.bool true)]), (65, .tup [crvO a b 4, .f .f32 mo, .raw (.int .i64 wh), .raw (.bool true)]), (0, slC w0 (tabC n P)), (1, .f .f32 near), (6, .raw (.slice (some ⟨go, 0, none⟩) k co)), (7, .raw (.slice (some ⟨gc, 0, none⟩) m cc)), (8, .raw (.int .i64 fr)), (9, .raw (.int .i64 to)), (10, slC w0 (tabC n' P')), (11, .raw (.int .i64 n'))] (St w0 [] (entF b 27 4 (fun _ => one1) 4 :: entC a 4 F 4 :: HH)) Q' := fun a b mo wh hc => by
      refine ra_list [21, 23, 25] (by rw [ho]; decide +kernel) rfl ⟨?_, ?_, ?_, trivial⟩
      · refine ro_op (by rw [ho]; rfl) rfl (zbz rfl rfl) ?_
        exact RA.weak (RA.toL' (r19_20_21_22_24 a b mo wh hc) (by decide +kernel)) (by (repeat (first | exact Env.sub_nil _ | refine Env.sub_cons rfl ?_))) (fun _ h => h)
      · refine ro_op (by rw [ho]; rfl) rfl (zbz rfl rfl) ?_
        exact RA.weak (RA.toL' (r19_20_22_23_24 a b mo wh hc) (by decide +kernel)) (by (repeat (first | exact Env.sub_nil _ | refine Env.sub_cons rfl ?_))) (fun _ h => h)
      · refine ro_makes (by rw [ho]; rfl) rfl rfl rfl (makesX_alloc (R := fun _ => True) (w0 := w0) (gs := []) rfl rfl rfl) fun gq => ?_
        exact RA.weak (RA.toL' (r19_20_22_24_25 a b mo wh gq hc) (by decide +kernel)) (by (repeat (first | exact Env.sub_nil _ | refine Env.sub_cons rfl ?_))) (fun _ h => h)
    have r19_20_22_25 : ∀ (a b : Nat) (mo : FV) (wh : Int) (gq : Nat), Gd (mo, wh) → RA Tryz.prog 99 o (LD 30 19 [19, 20, 22, 25]) 7 [(12, .raw (.pointer (some ⟨gq, 0, none⟩))), (67, .f .f32 mo), (45, .tup [crvO a b 4, .f .f32 mo, .raw (.int .i64 wh), .raw (.bool true)]), (65, .tup [crvO a b 4, .f .f32 mo, .raw (.int .i64 wh), .raw (.bool true)]), (0, slC w0 (tabC n P)), (1, .f .f32 near), (6, .raw (.slice (some ⟨go, 0, none⟩) k co)), (7, .raw (.slice (some ⟨gc, 0, none⟩) m cc)), (8, .raw (.int .i64 fr)), (9, .raw (.int .i64 to)), (10, slC w0 (tabC n' P')), (11, .raw (.int .i64 n'))] (St w0 [] (⟨gq, 35, [.raw (.slice none 0 0), .raw (.slice none 0 0)], 2⟩ :: entF b 27 4 (fun _ => one1) 4 :: entC a 4 F 4 :: HH)) Q' := fun a b mo wh gq hc => by
      refine ra_list [21, 23, 24] (by rw [ho]; decide +kernel) rfl ⟨?_, ?_, ?_, trivial⟩
      · refine ro_op (by rw [ho]; rfl) rfl (zbz rfl rfl) ?_
        exact RA.weak (RA.toL' (r19_20_21_22_25 a b mo wh gq hc) (by decide +kernel)) (by (repeat (first | exact Env.sub_nil _ | refine Env.sub_cons rfl ?_))) (fun _ h => h)
      · refine ro_op (by rw [ho]; rfl) rfl (zbz rfl rfl) ?_
        exact RA.weak (RA.toL' (r19_20_22_23_25 a b mo wh gq hc) (by decide +kernel)) (by (repeat (first | exact Env.sub_nil _ | refine Env.sub_cons rfl ?_))) (fun _ h => h)
      · refine ro_op (by rw [ho]; rfl) rfl (zbz rfl rfl) ?_
        exact RA.weak (RA.toL' (r19_20_22_24_25 a b mo wh gq hc) (by decide +kernel)) (by (repeat (first | exact Env.sub_nil _ | refine Env.sub_cons rfl ?_))) (fun _ h => h)
    have r19_20_23_24 : ∀ (a b : Nat) (mo : FV) (wh : Int) , Gd (mo, wh) → RA Tryz.prog 99 o (LD 30 19 [19, 20, 23, 24]) 7 [(69, .raw (.bool true)), (68, .raw (.int .i64 wh)), (45, .tup [crvO a b 4, .f .f32 mo, .raw (.int .i64 wh), .raw (.bool true)]), (65, .tup [crvO a b 4, .f .f32 mo, .raw (.int .i64 wh), .raw (.bool true)]), (0, slC w0 (tabC n P)), (1, .f .f32 near), (6, .raw (.slice (some ⟨go, 0, none⟩) k co)), (7, .raw (.slice (some ⟨gc, 0, none⟩) m cc)), (8, .raw (.int .i64 fr)), (9, .raw (.int .i64 to)), (10, slC w0 (tabC n' P')), (11, .raw (.int .i64 n'))] (St w0 [] (entF b 27 4 (fun _ => one1) 4 :: entC a 4 F 4 :: HH)) Q' := fun a b mo wh hc => by
      refine ra_list [21, 22, 25] (by rw [ho]; decide +kernel) rfl ⟨?_, ?_, ?_, trivial⟩
      · refine ro_op (by rw [ho]; rfl) rfl (zbz rfl rfl) ?_
        exact RA.weak (RA.toL' (r19_20_21_23_24 a b mo wh hc) (by decide +kernel)) (by (repeat (first | exact Env.sub_nil _ | refine Env.sub_cons rfl ?_))) (fun _ h => h)
      · refine ro_op (by rw [ho]; rfl) rfl (zbz rfl rfl) ?_
        exact RA.weak (RA.toL' (r19_20_22_23_24 a b mo wh hc) (by decide +kernel)) (by (repeat (first | exact Env.sub_nil _ | refine Env.sub_cons rfl ?_))) (fun _ h => h)
      · refine ro_makes (by rw [ho]; rfl) rfl rfl rfl (makesX_alloc (R := fun _ => True) (w0 := w0) (gs := []) rfl rfl rfl) fun gq => ?_
        exact RA.weak (RA.toL' (r19_20_23_24_25 a b mo wh gq hc) (by decide +kernel)) (by (repeat (first | exact Env.sub_nil _ | refine Env.sub_cons rfl ?_))) (fun _ h => h)
    have r19_20_23_25 : ∀ (a b : Nat) (mo : FV) (wh : Int) (gq : Nat), Gd (mo, wh) → RA Tryz.prog 99 o (LD 30 19 [19, 20, 23, 25]) 7 [(12, .raw (.pointer (some ⟨gq, 0, none⟩))), (68, .raw (.int .i64 wh)), (45, .tup [crvO a b 4, .f .f32 mo, .raw (.int .i64 wh), .raw (.bool true)]), (65, .tup [crvO a b 4, .f .f32 mo, .raw (.int .i64 wh), .raw (.bool true)]), (0, slC w0 (tabC n P)), (1, .f .f32 near), (6, .raw (.slice (some ⟨go, 0, none⟩) k co)), (7, .raw (.slice (some ⟨gc, 0, none⟩) m cc)), (8, .raw (.int .i64 fr)), (9, .raw (.int .i64 to)), (10, slC w0 (tabC n' P')), (11, .raw (.int .i64 n'))] (St w0 [] (⟨gq, 35, [.raw (.slice none 0 0), .raw (.slice none 0 0)], 2⟩ :: entF b 27 4 (fun _ => one1) 4 :: entC a 4 F 4 :: HH)) Q' := fun a b mo wh gq hc => by
      refine ra_list [21, 22, 24] (by rw [ho]; decide +kernel) rfl ⟨?_, ?_, ?_, trivial⟩
      · refine ro_op (by rw [ho]; rfl) rfl (zbz rfl rfl) ?_
        exact RA.weak (RA.toL' (r19_20_21_23_25 a b mo wh gq hc) (by decide +kernel)) (by (repeat (first | exact Env.sub_nil _ | refine Env.sub_cons rfl ?_))) (fun _ h => h)
      · refine ro_op (by rw [ho]; rfl) rfl (zbz rfl rfl) ?_
        exact RA.weak (RA.toL' (r19_20_22_23_25 a b mo wh gq hc) (by decide +kernel)) (by (repeat (first | exact Env.sub_nil _ | refine Env.sub_cons rfl ?_))) (fun _ h => h)
      · refine ro_op (by rw [ho]; rfl) rfl (zbz rfl rfl) ?_
        exact RA.weak (RA.toL' (r19_20_23_24_25 a b mo wh gq hc) (by decide +kernel)) (by (repeat (first | exact Env.sub_nil _ | refine Env.sub_cons rfl ?_))) (fun _ h => h)
    have r19_20_24_25 : ∀ (a b : Nat) (mo : FV) (wh : Int) (gq : Nat), Gd (mo, wh) → RA Tryz.prog 99 o (LD 30 19 [19, 20, 24, 25]) 7 [(12, .raw (.pointer (some ⟨gq, 0, none⟩))), (69, .raw (.bool true)), (45, .tup [crvO a b 4, .f .f32 mo, .raw (.int .i64 wh), .raw (.bool true)]), (65, .tup [crvO a b 4, .f .f32 mo, .raw (.int .i64 wh), .raw (.bool true)]), (0, slC w0 (tabC n P)), (1, .f .f32 near), (6, .raw (.slice (some ⟨go, 0, none⟩) k co)), (7, .raw (.slice (some ⟨gc, 0, none⟩) m cc)), (8, .raw (.int .i64 fr)), (9, .raw (.int .i64 to)), (10, slC w0 (tabC n' P')), (11, .raw (.int .i64 n'))] (St w0 [] (⟨gq, 35, [.raw (.slice none 0 0), .raw (.slice none 0 0)], 2⟩ :: entF b 27 4 (fun _ => one1) 4 :: entC a 4 F 4 :: HH)) Q' := fun a b mo wh gq hc => by
      refine ra_list [21, 22, 23] (by rw [ho]; decide +kernel) rfl ⟨?_, ?_, ?_, trivial⟩
      · refine ro_op (by rw [ho]; rfl) rfl (zbz rfl rfl) ?_
        exact RA.weak (RA.toL' (r19_20_21_24_25 a b mo wh gq hc) (by decide +kernel)) (by (repeat (first | exact Env.sub_nil _ | refine Env.sub_cons rfl ?_))) (fun _ h => h)
      · refine ro_op (by rw [ho]; rfl) rfl (zbz rfl rfl) ?_
        exact RA.weak (RA.toL' (r19_20_22_24_25 a b mo wh gq hc) (by decide +kernel)) (by (repeat (first | exact Env.sub_nil _ | refine Env.sub_cons rfl ?_))) (fun _ h => h)
      · refine ro_op (by rw [ho]; rfl) rfl (zbz rfl rfl) ?_
        exact RA.weak (RA.toL' (r19_20_23_24_25 a b mo wh gq hc) (by decide +kernel)) (by (repeat (first | exact Env.sub_nil _ | refine Env.sub_cons rfl ?_))) (fun _ h => h)
    have r19_20_21 : ∀ (a b : Nat) (mo : FV) (wh : Int) , Gd (mo, wh) → RA Tryz.prog 99 o (LD 30 19 [19, 20, 21]) 8 [(66, crvO a b 4), (45, .tup [crvO a b 4, .f .f32 mo, .raw (.int .i64 wh), .raw (.bool true)]), (65, .tup [crvO a b 4, .f .f32 mo, .raw (.int .i64 wh), .raw (.bool true)]), (0, slC w0 (tabC n P)), (1, .f .f32 near), (6, .raw (.slice (some ⟨go, 0, none⟩) k co)), (7, .raw (.slice (some ⟨gc, 0, none⟩) m cc)), (8, .raw (.int .i64 fr)), (9, .raw (.int .i64 to)), (10, slC w0 (tabC n' P')), (11, .raw (.int .i64 n'))] (St w0 [] (entF b 27 4 (fun _ => one1) 4 :: entC a 4 F 4 :: HH)) Q' := fun a b mo wh hc => by
      refine ra_list [22, 23, 24, 25] (by rw [ho]; decide +kernel) rfl ⟨?_, ?_, ?_, ?_, trivial⟩
      · refine ro_op (by rw [ho]; rfl) rfl (zbz rfl rfl) ?_
        exact RA.weak (RA.toL' (r19_20_21_22 a b mo wh hc) (by decide +kernel)) (by (repeat (first | exact Env.sub_nil _ | refine Env.sub_cons rfl ?_))) (fun _ h => h)
      · refine ro_op (by rw [ho]; rfl) rfl (zbz rfl rfl) ?_
        exact RA.weak (RA.toL' (r19_20_21_23 a b mo wh hc) (by decide +kernel)) (by (repeat (first | exact Env.sub_nil _ | refine Env.sub_cons rfl ?_))) (fun _ h => h)
      · refine ro_op (by rw [ho]; rfl) rfl (zbz rfl rfl) ?_
        exact RA.weak (RA.toL' (r19_20_21_24 a b mo wh hc) (by decide +kernel)) (by (repeat (first | exact Env.sub_nil _ | refine Env.sub_cons rfl ?_))) (fun _ h => h)
      · refine ro_makes (by rw [ho]; rfl) rfl rfl rfl (makesX_alloc (R := fun _ => True) (w0 := w0) (gs := []) rfl rfl rfl) fun gq => ?_
        exact RA.weak (RA.toL' (r19_20_21_25 a b mo wh gq hc) (by decide +kernel)) (by (repeat (first | exact Env.sub_nil _ | refine Env.sub_cons rfl ?_))) (fun _ h => h)
    have r19_20_22 : ∀ (a b : Nat) (mo : FV) (wh : Int) , Gd (mo, wh) → RA Tryz.prog 99 o (LD 30 19 [19, 20, 22]) 8 [(67, .f .f32 mo), (45, .tup [crvO a b 4, .f .f32 mo, .raw (.int .i64 wh), .raw (.bool true)]), (65, .tup [crvO a b 4, .f .f32 mo, .raw (.int .i64 wh), .raw (.bool true)]), (0, slC w0 (tabC n P)), (1, .f .f32 near), (6, .raw (.slice (some ⟨go, 0, none⟩) k co)), (7, .raw (.slice (some ⟨gc, 0, none⟩) m cc)), (8, .raw (.int .i64 fr)), (9, .raw (.int .i64 to)), (10, slC w0 (tabC n' P')), (11, .raw (.int .i64 n'))] (St w0 [] (entF b 27 4 (fun _ => one1) 4 :: entC a 4 F 4 :: HH)) Q' := fun a b mo wh hc => by
      refine ra_list [21, 23, 24, 25] (by rw [ho]; decide +kernel) rfl ⟨?_, ?_, ?_, ?_, trivial⟩
      · refine ro_op (by rw [ho]; rfl) rfl (zbz rfl rfl) ?_
        exact RA.weak (RA.toL' (r19_20_21_22 a b mo wh hc) (by decide +kernel)) (by (repeat (first | exact Env.sub_nil _ | refine Env.sub_cons rfl ?_))) (fun _ h => h)
      · refine ro_op (by rw [ho]; rfl) rfl (zbz rfl rfl) ?_
        exact RA.weak (RA.toL' (r19_20_22_23 a b mo wh hc) (by decide +kernel)) (by (repeat (first | exact Env.sub_nil _ | refine Env.sub_cons rfl ?_))) (fun _ h => h)
      · refine ro_op (by rw [ho]; rfl) rfl (zbz rfl rfl) ?_
        exact RA.weak (RA.toL' (r19_20_22_24 a b mo wh hc) (by decide +kernel)) (by (repeat (first | exact Env.sub_nil _ | refine Env.sub_cons rfl ?_))) (fun _ h => h)
      · refine ro_makes (by rw [ho]; rfl) rfl rfl rfl (makesX_alloc (R := fun _ => True) (w0 := w0) (gs := []) rfl rfl rfl) fun gq => ?_
        exact RA.weak (RA.toL' (r19_20_22_25 a b mo wh gq hc) (by decide +kernel)) (by (repeat (first | exact Env.sub_nil _ | refine Env.sub_cons rfl ?_))) (fun _ h => h)
    have r19_20_23 : ∀ (a b : Nat) (mo : FV) (wh : Int) , Gd (mo, wh) → RA Tryz.prog 99 o (LD 30 19 [19, 20, 23]) 8 [(68, .raw (.int .i64 wh)), (45, .tup [crvO a b 4, .f .f32 mo, .raw (.int .i64 wh), .raw (.bool true)]), (65, .tup [crvO a b 4, .f .f32 mo, .raw (.int .i64 wh), .raw (.bool true)]), (0, slC w0 (tabC n P)), (1, .f .f32 near), (6, .raw (.slice (some ⟨go, 0, none⟩) k co)), (7, .raw (.slice (some ⟨gc, 0, none⟩) m cc)), (8, .raw (.int .i64 fr)), (9, .raw (.int .i64 to)), (10, slC w0 (tabC n' P')), (11, .raw (.int .i64 n'))] (St w0 [] (entF b 27 4 (fun _ => one1) 4 :: entC a 4 F 4 :: HH)) Q' := fun a b mo wh hc => by
      refine ra_list [21, 22, 24, 25] (by rw [ho]; decide +kernel) rfl ⟨?_, ?_, ?_, ?_, trivial⟩
      · refine ro_op (by rw [ho]; rfl) rfl (zbz rfl rfl) ?_
        exact RA.weak (RA.toL' (r19_20_21_23 a b mo wh hc) (by decide +kernel)) (by (repeat (first | exact Env.sub_nil _ | refine Env.sub_cons rfl ?_))) (fun _ h => h)
      · refine ro_op (by rw [ho]; rfl) rfl (zbz rfl rfl) ?_
        exact RA.weak (RA.toL' (r19_20_22_23 a b mo wh hc) (by decide +kernel)) (by (repeat (first | exact Env.sub_nil _ | refine Env.sub_cons rfl ?_))) (fun _ h => h)
      · refine ro_op (by rw [ho]; rfl) rfl (zbz rfl rfl) ?_
        exact RA.weak (RA.toL' (r19_20_23_24 a b mo wh hc) (by decide +kernel)) (by (repeat (first | exact Env.sub_nil _ | refine Env.sub_cons rfl ?_))) (fun _ h => h)
      · refine ro_makes (by rw [ho]; rfl) rfl rfl rfl (makesX_alloc (R := fun _ => True) (w0 := w0) (gs := []) rfl rfl rfl) fun gq => ?_
        exact RA.weak (RA.toL' (r19_20_23_25 a b mo wh gq hc) (by decide +kernel)) (by (repeat (first | exact Env.sub_nil _ | refine Env.sub_cons rfl ?_))) (fun _ h => h)
    have r19_20_24 : ∀ (a b : Nat) (mo : FV) (wh : Int) , Gd (mo, wh) → RA Tryz.prog 99 o (LD 30 19 [19, 20, 24]) 8 [(69, .raw (.bool true)), (45, .tup [crvO a b 4, .f .f32 mo, .raw (.int .i64 wh), .raw (.bool true)]), (65, .tup [crvO a b 4, .f .f32 mo, .raw (.int .i64 wh), .raw (.bool true)]), (0, slC w0 (tabC n P)), (1, .f .f32 near), (6, .raw (.slice (some ⟨go, 0, none⟩) k co)), (7, .raw (.slice (some ⟨gc, 0, none⟩) m cc)), (8, .raw (.int .i64 fr)), (9, .raw (.int .i64 to)), (10, slC w0 (tabC n' P')), (11, .raw (.int .i64 n'))] (St w0 [] (entF b 27 4 (fun _ => one1) 4 :: entC a 4 F 4 :: HH)) Q' := fun a b mo wh hc => by
      refine ra_list [21, 22, 23, 25] (by rw [ho]; decide +kernel) rfl ⟨?_, ?_, ?_, ?_, trivial⟩
      · refine ro_op (by rw [ho]; rfl) rfl (zbz rfl rfl) ?_
        exact RA.weak (RA.toL' (r19_20_21_24 a b mo wh hc) (by decide +kernel)) (by (repeat (first | exact Env.sub_nil _ | refine Env.sub_cons rfl ?_))) (fun _ h => h)
      · refine ro_op (by rw [ho]; rfl) rfl (zbz rfl rfl) ?_
        exact RA.weak (RA.toL' (r19_20_22_24 a b mo wh hc) (by decide +kernel)) (by (repeat (first | exact Env.sub_nil _ | refine Env.sub_cons rfl ?_))) (fun _ h => h)
      · refine ro_op (by rw [ho]; rfl) rfl (zbz rfl rfl) ?_
        exact RA.weak (RA.toL' (r19_20_23_24 a b mo wh hc) (by decide +kernel)) (by (repeat (first | exact Env.sub_nil _ | refine Env.sub_cons rfl ?_))) (fun _ h => h)
      · refine ro_makes (by rw [ho]; rfl) rfl rfl rfl (makesX_alloc (R := fun _ => True) (w0 := w0) (gs := []) rfl rfl rfl) fun gq => ?_
        exact RA.weak (RA.toL' (r19_20_24_25 a b mo wh gq hc) (by decide +kernel)) (by (repeat (first | exact Env.sub_nil _ | refine Env.sub_cons rfl ?_))) (fun _ h => h)
    have r19_20_25 : ∀ (a b : Nat) (mo : FV) (wh : Int) (gq : Nat), Gd (mo, wh) → RA Tryz.prog 99 o (LD 30 19 [19, 20, 25]) 8 [(12, .raw (.pointer (some ⟨gq, 0, none⟩))), (45, .tup [crvO a b 4, .f .f32 mo, .raw (.int .i64 wh), .raw (.bool true)]), (65, .tup [crvO a b 4, .f .f32 mo, .raw (.int .i64 wh), .raw (.bool true)]), (0, slC w0 (tabC n P)), (1, .f .f32 near), (6, .raw (.slice (some ⟨go, 0, none⟩) k co)), (7, .raw (.slice (some ⟨gc, 0, none⟩) m cc)), (8, .raw (.int .i64 fr)), (9, .raw (.int .i64 to)), (10, slC w0 (tabC n' P')), (11, .raw (.int .i64 n'))] (St w0 [] (⟨gq, 35, [.raw (.slice none 0 0), .raw (.slice none 0 0)], 2⟩ :: entF b 27 4 (fun _ => one1) 4 :: entC a 4 F 4 :: HH)) Q' := fun a b mo wh gq hc => by
      refine ra_list [21, 22, 23, 24] (by rw [ho]; decide +kernel) rfl ⟨?_, ?_, ?_, ?_, trivial⟩
      · refine ro_op (by rw [ho]; rfl) rfl (zbz rfl rfl) ?_
        exact RA.weak (RA.toL' (r19_20_21_25 a b mo wh gq hc) (by decide +kernel)) (by (repeat (first | exact Env.sub_nil _ | refine Env.sub_cons rfl ?_))) (fun _ h => h)
      · refine ro_op (by rw [ho]; rfl) rfl (zbz rfl rfl) ?_
        exact RA.weak (RA.toL' (r19_20_22_25 a b mo wh gq hc) (by decide +kernel)) (by (repeat (first | exact Env.sub_nil _ | refine Env.sub_cons rfl ?_))) (fun _ h => h)
      · refine ro_op (by rw [ho]; rfl) rfl (zbz rfl rfl) ?_
        exact RA.weak (RA.toL' (r19_20_23_25 a b mo wh gq hc) (by decide +kernel)) (by (repeat (first | exact Env.sub_nil _ | refine Env.sub_cons rfl ?_))) (fun _ h => h)
      · refine ro_op (by rw [ho]; rfl) rfl (zbz rfl rfl) ?_
        exact RA.weak (RA.toL' (r19_20_24_25 a b mo wh gq hc) (by decide +kernel)) (by (repeat (first | exact Env.sub_nil _ | refine Env.sub_cons rfl ?_))) (fun _ h => h)
    have r19_20 : ∀ (a b : Nat) (mo : FV) (wh : Int) , Gd (mo, wh) → RA Tryz.prog 99 o (LD 30 19 [19, 20]) 9 [(45, .tup [crvO a b 4, .f .f32 mo, .raw (.int .i64 wh), .raw (.bool true)]), (65, .tup [crvO a b 4, .f .f32 mo, .raw (.int .i64 wh), .raw (.bool true)]), (0, slC w0 (tabC n P)), (1, .f .f32 near), (6, .raw (.slice (some ⟨go, 0, none⟩) k co)), (7, .raw (.slice (some ⟨gc, 0, none⟩) m cc)), (8, .raw (.int .i64 fr)), (9, .raw (.int .i64 to)), (10, slC w0 (tabC n' P')), (11, .raw (.int .i64 n'))] (St w0 [] (entF b 27 4 (fun _ => one1) 4 :: entC a 4 F 4 :: HH)) Q' := fun a b mo wh hc => by
      refine ra_list [21, 22, 23, 24, 25] (by rw [ho]; decide +kernel) rfl ⟨?_, ?_, ?_, ?_, ?_, trivial⟩
      · refine ro_op (by rw [ho]; rfl) rfl (zbz rfl rfl) ?_
        exact RA.weak (RA.toL' (r19_20_21 a b mo wh hc) (by decide +kernel)) (by (repeat (first | exact Env.sub_nil _ | refine Env.sub_cons rfl ?_))) (fun _ h => h)
      · refine ro_op (by rw [ho]; rfl) rfl (zbz rfl rfl) ?_
        exact RA.weak (RA.toL' (r19_20_22 a b mo wh hc) (by decide +kernel)) (by (repeat (first | exact Env.sub_nil _ | refine Env.sub_cons rfl ?_))) (fun _ h => h)
      · refine ro_op (by rw [ho]; rfl) rfl (zbz rfl rfl) ?_
        exact RA.weak (RA.toL' (r19_20_23 a b mo wh hc) (by decide +kernel)) (by (repeat (first | exact Env.sub_nil _ | refine Env.sub_cons rfl ?_))) (fun _ h => h)
      · refine ro_op (by rw [ho]; rfl) rfl (zbz rfl rfl) ?_
        exact RA.weak (RA.toL' (r19_20_24 a b mo wh hc) (by decide +kernel)) (by (repeat (first | exact Env.sub_nil _ | refine Env.sub_cons rfl ?_))) (fun _ h => h)
      · refine ro_makes (by rw [ho]; rfl) rfl rfl rfl (makesX_alloc (R := fun _ => True) (w0 := w0) (gs := []) rfl rfl rfl) fun gq => ?_
        exact RA.weak (RA.toL' (r19_20_25 a b mo wh gq hc) (by decide +kernel)) (by (repeat (first | exact Env.sub_nil _ | refine Env.sub_cons rfl ?_))) (fun _ h => h)
    have r19_25 : ∀ (a b : Nat) (mo : FV) (wh : Int) (gq : Nat), Gd (mo, wh) → RA Tryz.prog 99 o (LD 30 19 [19, 25]) 9 [(12, .raw (.pointer (some ⟨gq, 0, none⟩))), (65, .tup [crvO a b 4, .f .f32 mo, .raw (.int .i64 wh), .raw (.bool true)]), (0, slC w0 (tabC n P)), (1, .f .f32 near), (6, .raw (.slice (some ⟨go, 0, none⟩) k co)), (7, .raw (.slice (some ⟨gc, 0, none⟩) m cc)), (8, .raw (.int .i64 fr)), (9, .raw (.int .i64 to)), (10, slC w0 (tabC n' P')), (11, .raw (.int .i64 n'))] (St w0 [] (⟨gq, 35, [.raw (.slice none 0 0), .raw (.slice none 0 0)], 2⟩ :: entF b 27 4 (fun _ => one1) 4 :: entC a 4 F 4 :: HH)) Q' := fun a b mo wh gq hc => by
      refine ra_list [20] (by rw [ho]; decide +kernel) rfl ⟨?_, trivial⟩
      · refine ro_op (by rw [ho]; rfl) rfl (zay rfl) ?_
        exact RA.weak (RA.toL' (r19_20_25 a b mo wh gq hc) (by decide +kernel)) (by (repeat (first | exact Env.sub_nil _ | refine Env.sub_cons rfl ?_))) (fun _ h => h)
    have r19 : ∀ (a b : Nat) (mo : FV) (wh : Int) , Gd (mo, wh) → RA Tryz.prog 99 o (LD 30 19 [19]) 10 [(65, .tup [crvO a b 4, .f .f32 mo, .raw (.int .i64 wh), .raw (.bool true)]), (0, slC w0 (tabC n P)), (1, .f .f32 near), (6, .raw (.slice (some ⟨go, 0, none⟩) k co)), (7, .raw (.slice (some ⟨gc, 0, none⟩) m cc)), (8, .raw (.int .i64 fr)), (9, .raw (.int .i64 to)), (10, slC w0 (tabC n' P')), (11, .raw (.int .i64 n'))] (St w0 [] (entF b 27 4 (fun _ => one1) 4 :: entC a 4 F 4 :: HH)) Q' := fun a b mo wh hc => by
      refine ra_list [20, 25] (by rw [ho]; decide +kernel) rfl ⟨?_, ?_, trivial⟩
      · refine ro_op (by rw [ho]; rfl) rfl (zay rfl) ?_
        exact RA.weak (RA.toL' (r19_20 a b mo wh hc) (by decide +kernel)) (by (repeat (first | exact Env.sub_nil _ | refine Env.sub_cons rfl ?_))) (fun _ h => h)
      · refine ro_makes (by rw [ho]; rfl) rfl rfl rfl (makesX_alloc (R := fun _ => True) (w0 := w0) (gs := []) rfl rfl rfl) fun gq => ?_
        exact RA.weak (RA.toL' (r19_25 a b mo wh gq hc) (by decide +kernel)) (by (repeat (first | exact Env.sub_nil _ | refine Env.sub_cons rfl ?_))) (fun _ h => h)
    have r25 : ∀ (gq : Nat), RA Tryz.prog 99 o (LD 30 19 [25]) 10 [(12, .raw (.pointer (some ⟨gq, 0, none⟩))), (46, slC w0 (tabC n' P')), (53, cA (subC2 (P' 1) (P' 0))), (64, cA (subC2 (P' (n' - 1)) (P' (n' - 2)))), (0, slC w0 (tabC n P)), (1, .f .f32 near), (6, .raw (.slice (some ⟨go, 0, none⟩) k co)), (7, .raw (.slice (some ⟨gc, 0, none⟩) m cc)), (8, .raw (.int .i64 fr)), (9, .raw (.int .i64 to)), (10, slC w0 (tabC n' P')), (11, .raw (.int .i64 n'))] (St w0 [] (⟨gq, 35, [.raw (.slice none 0 0), .raw (.slice none 0 0)], 2⟩ :: HH)) Q' := fun gq => by
      refine ra_list [19] (by rw [ho]; decide +kernel) rfl ⟨?_, trivial⟩
      · refine ro_callM (by rw [ho]; rfl) hfit rfl rfl (Takes.sl (Takes.same (Takes.same Takes.nil))) rfl ?_
        rintro ⟨⟨a, b⟩, mo, wh⟩ hc
        dsimp only at hc ⊢
        exact RA.weak (RA.toL' (r19_25 a b mo wh gq hc) (by decide +kernel)) (by (repeat (first | exact Env.sub_nil _ | refine Env.sub_cons rfl ?_))) (fun _ h => h.perm (List.perm_middle (l₁ := [entF b 27 4 (fun _ => one1) 4, entC a 4 F 4])).symm)
    have r : RA Tryz.prog 99 o (LD 30 19 []) 11 [(46, slC w0 (tabC n' P')), (53, cA (subC2 (P' 1) (P' 0))), (64, cA (subC2 (P' (n' - 1)) (P' (n' - 2)))), (0, slC w0 (tabC n P)), (1, .f .f32 near), (6, .raw (.slice (some ⟨go, 0, none⟩) k co)), (7, .raw (.slice (some ⟨gc, 0, none⟩) m cc)), (8, .raw (.int .i64 fr)), (9, .raw (.int .i64 to)), (10, slC w0 (tabC n' P')), (11, .raw (.int .i64 n'))] (St w0 [] (HH)) Q' := by
      refine ra_list [19, 25] (by rw [ho]; decide +kernel) rfl ⟨?_, ?_, trivial⟩
      · refine ro_callM (by rw [ho]; rfl) hfit rfl rfl (Takes.sl (Takes.same (Takes.same Takes.nil))) rfl ?_
        rintro ⟨⟨a, b⟩, mo, wh⟩ hc
        dsimp only at hc ⊢
        exact RA.weak (RA.toL' (r19 a b mo wh hc) (by decide +kernel)) (by (repeat (first | exact Env.sub_nil _ | refine Env.sub_cons rfl ?_))) (fun _ h => h)
      · refine ro_makes (by rw [ho]; rfl) rfl rfl rfl (makesX_alloc (R := fun _ => True) (w0 := w0) (gs := []) rfl rfl rfl) fun gq => ?_
        exact RA.weak (RA.toL' (r25 gq) (by decide +kernel)) (by (repeat (first | exact Env.sub_nil _ | refine Env.sub_cons rfl ?_))) (fun _ h => h)
    refine ⟨ra_fuel (RA.weak (RA.toL' r (by rw [ho]; decide +kernel)) (by (repeat (first | exact Env.sub_nil _ | refine Env.sub_cons rfl ?_))) (fun _ h => h)) (by rw [ho]; rfl), fun g => ra_fuel (RA.weak (RA.toL' (r25 g) (by rw [ho]; decide +kernel)) (by (repeat (first | exact Env.sub_nil _ | refine Env.sub_cons rfl ?_))) (fun _ h => h)) (by rw [ho]; rfl)⟩
  obtain ⟨⟨⟨a', b'⟩, mo, wh⟩, gq⟩ := y
  rw [hGd] at hy
  obtain ⟨_, ⟨hw1, hw2⟩, hw3⟩ := hy
  simp only at hw1 hw2 hw3 ⊢
  subst hHH
  refine zcs ?_
  refine zdc ?_
  refine zdc ?_
  refine zdd ?_
  repeat first | refine zaa rfl (zay rfl) ?_ | refine zaa rfl (zcc rfl) ?_ | refine zah ?_
  refine zcs ?_
  refine zdj rfl ?_
  refine zdf ?_
  refine zcs ?_
  refine zdc ?_
  obtain ⟨acc, hacc⟩ : ∃ b, b = (cmpB .leq (fcmp .f32 mo near) || decide ((n' : Int) = 2)) := ⟨_, rfl⟩
  refine ws_thenJ (ι := Unit) (fun _ => [(78, .raw (.bool acc)), (14, .raw (.int .i64 wh)), (12, .raw (.pointer (some ⟨gq, 0, none⟩))), (0, slC w0 (tabC n P)), (1, .f .f32 near), (6, .raw (.slice (some ⟨go, 0, none⟩) k co)), (7, .raw (.slice (some ⟨gc, 0, none⟩) m cc)), (8, .raw (.int .i64 fr)), (9, .raw (.int .i64 to))])
    (fun _ => St w0 [] (⟨gq, 35, [.raw (.slice (some ⟨a', 0, none⟩) 4 4), .raw (.slice (some ⟨b', 0, none⟩) 4 4)], 2⟩ :: entF b' 27 4 (fun _ => one1) 4 :: entC a' 4 F 4 :: entV go A B k co :: entJ gc m c cc :: rowsV A B Q k)) (fun _ => True) ?_ (fun _ _ => ?_)
  · cases hle : cmpB .leq (fcmp .f32 mo near) with
    | true =>
      rw [hle, Bool.true_or] at hacc
      subst hacc
      repeat first | refine zaa rfl (zay rfl) ?_ | (refine zac ?_; refine zaa rfl (zbd rfl rfl rfl) ?_) | (refine zdb ?_; refine zdd ?_)
      rw [hle]
      repeat first | refine zaj rfl rfl rfl rfl ?_ | refine zaa rfl (zca rfl rfl) ?_ | refine zah ?_
      exact done_join () trivial (by (repeat (first | exact Env.sub_nil _ | refine Env.sub_cons rfl ?_))) (fun _ h => h)
    | false =>
      rw [hle, Bool.false_or] at hacc
      subst hacc
      repeat first | refine zaa rfl (zay rfl) ?_ | (refine zac ?_; refine zaa rfl (zbd rfl rfl rfl) ?_) | (refine zdb ?_; refine zdd ?_)
      rw [hle]
      repeat first | refine zai rfl rfl ?_ | refine zaa rfl (zay rfl) ?_ | (refine zac ?_; refine zaa rfl (zbi rfl rfl) ?_) | refine zaa rfl (zcb rfl rfl) ?_ | refine zah ?_
      exact done_join () trivial (by (repeat (first | exact Env.sub_nil _ | refine Env.sub_cons rfl ?_))) (fun _ h => h)
  cases acc with
  | true =>
    clear hacc
    repeat first | refine zaa rfl (zay rfl) ?_ | (refine zae ?_; refine zaa rfl (zcg rfl rfl (by (repeat (first | exact mh | refine mt ?_)); done) rfl rfl) ?_) | (refine zdb ?_; first | refine zdc ?_ | refine zdd ?_ | refine zdi rfl ?_) | refine zaa rfl (opj_litV rfl) ?_
    refine rs_appendN 3 (sz := 2) (m := 1) (xs := crvCells A B k) rfl (by omega) rfl ⟨_, rfl, fun w v _ h => h.inv_p.2⟩ rfl ⟨crvCells_length A B k, hco1, by simp only [maxLen]; omega⟩ rfl (by omega) rfl (by simp only [maxLen]; omega) (by omega) rfl fun g' cap' h1 h2 => ?_
    rw [crvCells_snoc]
    repeat first | refine zaa rfl (zay rfl) ?_ | refine zaa rfl (zaz rfl) ?_ | (refine zac ?_; refine zaa rfl (zbc rfl rfl (by omega)) ?_) | (refine zad ?_; refine zaa rfl (zbn rfl) ?_) | refine zah ?_ | (refine zcr ?_; first | refine zcs ?_ | refine zcv ?_) | (refine zdb ?_; first | refine zdc ?_ | refine zdd ?_) | refine zaa rfl (opj_cut_h rfl rfl (by omega) (by omega)) ?_
    rw [em1]
    refine done_round ⟨to, k + 1, g', cap', putN k a' A, putN k b' B, putC k F Q, gc, cc, m - 1, c⟩ ⟨?_, ⟨h1, h2⟩, fun i hi => ?_, ?_, ?_, fun i j h3 h4 => ?_, fun i hi => ?_⟩ ?_ ?_ (fun w h => ?_)
    · simp only; omega
    · simp only at hi ⊢
      by_cases hik : i = k
      · subst hik; rw [putC_at]; exact hF
      · rw [putC_ne F Q hik]; exact hq i (by omega)
    · simp only [maxLen]; omega
    · simp only; omega
    · exact hd0 i j h3 (by simp only at h4; omega)
    · simp only at hi ⊢
      have h5 := hd0 i (m - 1) (by omega) (by omega)
      have h6 := (ht0 i (by omega)).2
      rw [← hto] at h5
      omega
    · simp only; omega
    · simp only
      (repeat (first | exact Env.sub_nil _ | refine Env.sub_cons rfl ?_))
    · simp only
      rw [← rowsV_put]
      exact ((h.weak (.cons _ (List.Sublist.refl _))).perm (List.perm_append_comm (l₁ := entV g' (putN k a' A) (putN k b' B) (k + 1) cap' :: entJ gc m c cc :: rowsV A B Q k) (l₂ := [entF b' 27 4 (fun _ => one1) 4, entC a' 4 F 4]))).takeJ 1 rfl (by omega)
  | false =>
    have hne : ¬ (n' : Int) = 2 := fun h => by rw [decide_eq_true h, Bool.or_true] at hacc; cases hacc
    have hw4 := hw3 (by omega)
    obtain ⟨wn, hwn⟩ : ∃ wn : Nat, (wn : Int) = wh := ⟨wh.toNat, by omega⟩
    subst hwn
    clear hacc
    repeat first | refine zaa rfl (zay rfl) ?_ | (refine zac ?_; refine zaa rfl (zbb rfl rfl (by omega)) ?_) | (refine zdb ?_; first | refine zdd ?_ | refine zdj rfl ?_) | (refine rs_litP rfl rfl rfl rfl rfl rfl ?_; intro gl)
    refine rs_append 5 (xs := cellsJ m c) (ys := [.raw (.int .i64 ((fr : Int) + (wn : Nat)))]) rfl rfl ⟨_, rfl, fun w v hS hr => rd_ownN hS hr mh rfl ⟨Nat.le_refl _, by simp only [maxLen]; decide⟩⟩ rfl ⟨cellsJ_length m c, hcc1, by simp only [maxLen]; omega⟩ (Nat.le_refl _) rfl (by simp only [maxLen, List.length_singleton]; omega) (by simp only [List.length_singleton]; omega) rfl fun g' cap' h1 h2 => ?_
    rw [show ((fr : Int) + (wn : Nat)) = ((fr + wn : Nat) : Int) by omega, cellsJ_snoc]
    repeat first | refine zaa rfl (zaz rfl) ?_ | refine zah ?_ | (refine zcr ?_; refine zcv ?_)
    refine done_round ⟨fr, k, go, co, A, B, Q, g', cap', m + 1, putN m (fr + wn) c⟩ ⟨hk, ⟨hco1, by simp only [maxLen]; omega⟩, hq, ⟨h1, h2⟩, hf, fun i j h3 h4 => ?_, fun i hi => ?_⟩ ?_ ?_ (fun w h => ?_)
    · simp only [putN] at h4 ⊢
      by_cases hjm : j = m
      · subst hjm
        rw [if_pos rfl]
        by_cases him : i = j
        · rw [if_pos him]; omega
        · rw [if_neg him]
          have h5 := hd0 i (j - 1) (by omega) (by omega)
          rw [← hto] at h5
          omega
      · rw [if_neg hjm, if_neg (by omega)]
        exact hd0 i j h3 (by omega)
    · simp only [putN] at hi ⊢
      by_cases him : i = m
      · rw [if_pos him]; omega
      · rw [if_neg him]; exact ht0 i (by omega)
    · simp only; omega
    · simp only
      (repeat (first | exact Env.sub_nil _ | refine Env.sub_cons rfl ?_))
    · simp only
      exact h.weak (.cons _ (.cons _ (.cons _ (.cons _ (List.Sublist.refl _)))))
end Go.Ab
