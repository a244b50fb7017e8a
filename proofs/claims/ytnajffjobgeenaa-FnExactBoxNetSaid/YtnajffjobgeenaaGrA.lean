/- Nets that a call owns: appending to nothing, facets, what such a net reads as. No conditions. -/
import Derived.Test.YtnajffjobgeenaaVnH
import Derived.Test.YtnajffjobgeenaaSq
import Derived.KernelRfl
namespace Go.Ab
open Go.Proofs
variable {R : World → Prop} [RStab R]

section
variable {P : Program} {t el : TypeId} {S : World → Prop} {N : Nat} {e : Env} {Q : Exit → Env → World → Prop} {ops : Array Oper} {l : List Oper} {dst : Option Tmp} {ty : TypeId} {pos : String} {after : Array Edge} {guard : Option (Nat × Bool)}
variable {w0 : World} {gs : List Nat} {H : List Ent}
/-- 'append' to nothing. -/
theorem rs_appendNil {sz m : Nat} {d : Tmp} {A B : Operand} {ys : List AV} {z : Value} {b : Nat} [hu : TyU P t (.slice el)] [hi : TyI P el z sz b] (hd : Nat.blt d N = true) (hsz : 0 < sz)
    (hA : e.ev A = some (.raw (.slice none 0 0))) (hB : ∃ y, e.ev B = some y ∧ ∀ w v, StR R w0 gs H w → Rel w y v → Rd w sz v ys)
    (hy : ys.length = m * sz) (h0 : 1 ≤ m) (h1 : ys.all isOne = true) (hm : m ≤ maxLen) (hby : m * b ≤ 140737488355328) (hzc : z.cells.size = sz)
    (hk : ∀ g' cap', m ≤ cap' → cap' ≤ maxLen → RS P N ops l ((d, .raw (.slice (some ⟨g', 0, none⟩) m cap')) :: e) (StR R w0 gs (⟨g', el, ys, cap' * sz⟩ :: H)) Q) :
    RS P N ops (⟨some d, .call { callee := .builtin .append, args := #[A, B], argTypes := #[t, t] }, ty, pos, after, none⟩ :: l) e (StR R w0 gs H) Q := by
  intro a w hS hF
  refine wpList_plain rfl fun K hK => ?_
  have hA' := (hF.eval hA).inv_raw
  obtain ⟨y, hy', hrd⟩ := hB
  obtain ⟨ad, m', c, hB', hl, _, _, hcells⟩ := hrd w _ hS (hF.eval hy')
  obtain rfl : m' = m := Nat.eq_of_mul_eq_mul_right hsz (by rw [← hl, hy])
  have hpos : 0 < ys.length := by rw [hy]; exact Nat.mul_pos h0 hsz
  obtain ⟨bb, had, hsp, _⟩ := hcells 0 _ (List.getElem?_eq_getElem hpos)
  subst had
  obtain ⟨i, hi1, hz1, hs1, hb1⟩ := hi.h
  have hnews : ∃ news : List Value, news.length = ys.length ∧ ∀ (j : Nat) (u : Value), news[j]? = some u → w.cell? (bb.add j) = some u ∧ ∃ y, ys[j]? = some y ∧ isOne y = true ∧ Ev y u := by
    have hex : ∀ k, k ≤ ys.length → ∃ news : List Value, news.length = k ∧ ∀ (j : Nat) (u : Value), news[j]? = some u → w.cell? (bb.add j) = some u ∧ ∃ y, ys[j]? = some y ∧ isOne y = true ∧ Ev y u := by
      intro k
      induction k with
      | zero => intro _; exact ⟨[], rfl, fun j u h => by simp at h⟩
      | succ k ih =>
        intro hk
        obtain ⟨news, hln, hall⟩ := ih (by omega)
        have hy'' : ys[k]? = some (ys[k]'(by omega)) := List.getElem?_eq_getElem (by omega)
        obtain ⟨b', hb', hsp', u, hu', hev⟩ := hcells k _ hy''
        cases hb'
        refine ⟨news ++ [u], by simp [hln], fun j v hj => ?_⟩
        rcases Nat.lt_or_ge j k with h | h
        · rw [List.getElem?_append_left (by omega)] at hj; exact hall j v hj
        · have hjk : j = k := by
            have := (List.getElem?_eq_some_iff.1 hj).1
            simp only [List.length_append, hln, List.length_cons, List.length_nil] at this
            omega
          subst hjk
          rw [List.getElem?_append_right (by omega), hln, Nat.sub_self] at hj
          cases hj
          exact ⟨by rw [addr_add bb hsp]; exact hu', _, hy'', List.all_eq_true.1 h1 _ (List.getElem_mem _), hev⟩
    exact hex _ (Nat.le_refl _)
  obtain ⟨news, hln, hnw⟩ := hnews
  have hone : ∀ u ∈ news, u.oneCell' = true := fun u hu => by
    obtain ⟨j, hj⟩ := List.mem_iff_getElem?.1 hu
    obtain ⟨_, y, _, hy1, hev⟩ := hnw j u hj
    exact (oneAV_spec hy1 (hev w)).2.1
  obtain ⟨g', cap', w', hr, hown', hgrow, hat, hlt⟩ := run_append_lies (P := P) w t ty 0 el i z sz b hu.h hi1 hz1 hs1 hb1 hzc hsz (.slice none 0 0) 0 [] ⟨by simp, .inl ⟨rfl, rfl⟩⟩
    bb m' c news (by rw [hln, hy]) (fun j u hj => (hnw j u hj).1) hone (by omega) (by omega) (by rw [Nat.zero_add]; exact hby) (Nat.zero_le _) _ rfl
  rw [Nat.zero_add, List.nil_append] at hown'
  rw [Nat.zero_add] at hr
  obtain ⟨hlx, hown'⟩ := hown'
  obtain ⟨g2, cap2, cur2, he2, _, hh2, hnc2, hcm2, hcs2, htk⟩ : ∃ g cap, ∃ X : Array Value, Value.slice (some ⟨g', 0, none⟩) m' cap' = .slice (some ⟨g, 0, none⟩) m' cap ∧ 0 ≤ g ∧ w'.heap[g]? = some (.cells X el (0, 0)) ∧ m' ≤ cap ∧ cap ≤ maxLen ∧ X.size = cap * sz ∧ X.toList.take (m' * sz) = news := by
    rcases hown' with ⟨h, _⟩ | ⟨g, cap, cur, h1, h2, h3, h4, h5, h6, h7⟩
    · cases h
    · exact ⟨g, cap, cur, h1, h2, h3, h4, h5, h6, h7⟩
  cases he2
  have hmod : Mod w w' [] := ⟨hgrow.os, hgrow.tape, hgrow.output, hgrow.size, fun k hk _ => hgrow.block k hk (by simp [Value.ownBlock])⟩
  have ho' : OwnE w' ⟨g', el, ys, cap' * sz⟩ := by
    refine ⟨cur2, hh2, hcs2, fun j x hj => ?_⟩
    have htj : ∀ v, news[j]? = some v → cur2[j]? = some v := fun v hv => by
      rw [← htk, List.getElem?_take] at hv
      split at hv
      · simpa using hv
      · cases hv
    have hj' : j < news.length := by rw [hln]; exact (List.getElem?_eq_some_iff.1 hj).1
    obtain ⟨_, y, hy', _, hev⟩ := hnw j _ (List.getElem?_eq_getElem hj')
    rw [hj] at hy'
    cases hy'
    exact ⟨_, htj _ (List.getElem?_eq_getElem hj'), hev⟩
  unfold Oper.wp
  have hrun : (execOp a.eval ⟨some d, .call { callee := .builtin .append, args := #[A, B], argTypes := #[t, t] }, ty, pos, after, none⟩).run P w = .ok (.value (.slice (some ⟨g', 0, none⟩) m' cap')) w' := by
    simp only [execOp, resolve, invoke, builtin, Sem.run_bind, Sem.run_pure, Result.andThen_ok, List.map_toArray, List.map_cons, List.map_nil, hA', hB', hr]
  rw [hrun]
  have hg : w.heap.size ≤ g' := by
    rcases hat with h | h
    · cases h
    · omega
  exact hK _ _ (hk g' cap' hnc2 hcm2 _ w' (hS.new hmod.to_ext hg ho') (Fr.put (some d) (hF.ext hmod.to_ext) (fun _ h => by cases h; exact Nat.le_of_ble_eq_true hd) .raw))
theorem run_slice_lh {w : World} (t : TypeId) (a : Option Addr) (len cap : Nat) (ht : P.underlying t = some (.slice (P.elem t))) (k k' : IntKind) (l h : Int) (h0 : 0 ≤ l) (h1 : l ≤ h) (h2 : h ≤ cap) :
    (Instr.slice t (.slice a len cap) (some (.int k l)) (some (.int k' h)) none).run P w = ((sizeOf (P.elem t)).run P w).andThen fun s w => .ok (sliced a l.toNat h.toNat cap s) w := by
  have eh : (h.toNat : Int) = h := Int.toNat_of_nonneg (by omega)
  simp [Instr.slice, run_underlying ht, Instr.sliceBounds, run_sliceBound, sliced, *, eh, (by omega : 0 ≤ h)]
theorem rd_part {w : World} {v : Value} {xs : List AV} (h : Rd w 1 v xs) {l m : Nat} (hlm : l ≤ m) (hm' : m ≤ xs.length) : ∃ a len cap, v = .slice a len cap ∧ len = xs.length ∧ len ≤ cap ∧ Rd w 1 (sliced a l m cap 1) ((xs.drop l).take (m - l)) := by
  obtain ⟨a, len, cap, rfl, hlen, hc, hm, hx⟩ := h
  refine ⟨a, len, cap, rfl, by omega, hc, ?_⟩
  unfold sliced
  refine ⟨_, _, _, rfl, by simp; omega, by omega, by omega, fun i x hi => ?_⟩
  rw [List.getElem?_take] at hi
  split at hi
  · rename_i hil
    rw [List.getElem?_drop] at hi
    obtain ⟨b, rfl, hs, u, hu, hev⟩ := hx _ _ hi
    have hlt := (List.getElem?_eq_some_iff.1 hi).1
    rw [if_neg (by omega)]
    refine ⟨b.add (l * 1), rfl, ?_, u, ?_, hev⟩
    · unfold Addr.add; split <;> simp_all
    · have : (b.add (l * 1)).block = b.block ∧ (b.add (l * 1)).off = b.off + l := by
        rw [addr_add b hs]; simp
      rw [this.1, this.2, Nat.add_assoc]
      exact hu
  · cases hi
theorem opj_slice_lh {z : Value} {b : Nat} {X Y Z : Operand} {xs : List AV} {k k' : IntKind} {l h : Int} [hu : TyU P t (.slice el)] [hi : TyI P el z 1 b]
    (hx : e.ev X = some (AV.sl w0 1 xs)) (hy : e.ev Y = some (.raw (.int k l))) (hz : e.ev Z = some (.raw (.int k' h))) (h0 : 0 ≤ l) (h1 : l ≤ h) (h2 : h ≤ xs.length) :
    OpJ P S e ⟨dst, .slice t X (some Y) (some Z) none, ty, pos, after, guard⟩ (AV.sl w0 1 ((xs.drop l.toNat).take (h.toNat - l.toNat))) :=
  opj_value fun a w _ ho => by
    have e1 := (ho X (by simp [Op.operands]) _ hx).inv_q
    have e2 := (ho Y (by simp [Op.operands]) _ hy).inv_raw
    have e3 := (ho Z (by simp [Op.operands]) _ hz).inv_raw
    obtain ⟨c, len, cap, hv, hlen, hc, hrd⟩ := rd_part e1 (l := l.toNat) (m := h.toNat) (by omega) (by omega)
    have hel : P.elem t = el := by simp [Program.elem, hu.h]
    have ht : P.underlying t = some (.slice (P.elem t)) := by rw [hel]; exact hu.h
    have hr := run_slice_lh (P := P) (w := w) t c len cap ht k k' l h h0 h1 (by omega)
    rw [hel, run_size hi] at hr
    refine ⟨_, w, ?_, Ext.refl _, .q hrd⟩
    have hs := run_sliceAt_slice (P := P) w t (.slice c len cap) (some (.int k l)) (some (.int k' h)) none ht
    simp [execOp, e2, e3, hv, hs, hr]
end
/-! Facets. -/
class FacT (P : Program) (t : TypeId) : Prop where
  b1 : ∀ (w : World) (a : Option Addr) (n c : Nat), (Instr.build t #[(0, .slice a n c)]).run P w = .ok (.agg #[.slice a n c]) w
class FacL (P : Program) (t : TypeId) (el : outParam TypeId) : Prop where
  l1 : ∀ (w : World) (a : Option Addr) (n c : Nat), (Instr.buildSlice t 1 #[(0, .agg #[.slice a n c])]).run P w = .ok (.slice (some ⟨w.heap.size, 0, none⟩) 1 1) (w.alloc (.cells #[.slice a n c] el))
instance facTi : FacT Try.prog 95 := ⟨fun w a n c => by kernel_rfl⟩
instance facLi : FacL Try.prog 45 95 := ⟨fun w a n c => by kernel_rfl⟩
class NetT (P : Program) (t : TypeId) : Prop where
  b0 : ∀ (w : World), (Instr.build t #[]).run P w = .ok (.agg #[.slice none 0 0, .slice none 0 0]) w
instance netTi : NetT Try.prog 47 := ⟨fun w => by kernel_rfl⟩
abbrev nilA : AV := .raw (.slice none 0 0)
section
variable {P : Program} {t el : TypeId} {S : World → Prop} {e : Env} {dst : Option Tmp} {ty : TypeId} {pos : String} {after : Array Edge} {guard : Option (Nat × Bool)}
theorem opj_buildF [hb : FacT P t] {X : Operand} {a : Option Addr} {n c : Nat} (hx : e.ev X = some (.raw (.slice a n c))) : OpJ P S e ⟨dst, .build t #[(0, X)], ty, pos, after, guard⟩ (.agg [.raw (.slice a n c)]) :=
  opj_value fun ac w _ h => by
    have h1 := (h X (by simp [Op.operands]) _ hx).inv_raw
    refine ⟨_, w, ?_, Ext.refl _, .agg (vs := [.slice a n c]) (.cons .raw .nil)⟩
    simp only [execOp, List.map_toArray, List.map_cons, List.map_nil, h1, Sem.run_bind, hb.b1, Result.andThen_ok]
    rfl
theorem opj_buildN [hb : NetT P t] : OpJ P S e ⟨dst, .build t #[], ty, pos, after, guard⟩ (.agg [nilA, nilA]) :=
  opj_value fun ac w _ h => by
    refine ⟨_, w, ?_, Ext.refl _, .agg (vs := [.slice none 0 0, .slice none 0 0]) (.cons .raw (.cons .raw .nil))⟩
    simp only [execOp, List.map_toArray, List.map_nil, Sem.run_bind, hb.b0, Result.andThen_ok]
    rfl
theorem opj_litF [hb : FacL P t el] {X : Operand} {a : Option Addr} {n c : Nat} (hx : e.ev X = some (.agg [.raw (.slice a n c)])) : OpJ P S e ⟨dst, .buildSlice t 1 #[(0, X)], ty, pos, after, guard⟩ (AV.lit [.raw (.slice a n c)]) :=
  opj_value fun ac w _ h => by
    obtain ⟨vs, h1, hr⟩ := (h X (by simp [Op.operands]) _ hx).inv_agg
    obtain ⟨u1, r1, rfl, hu1, hr⟩ := hr.inv_cons
    obtain rfl := hr.inv_nil
    obtain rfl := hu1.inv_raw
    refine ⟨.slice (some ⟨w.heap.size, 0, none⟩) 1 1, w.alloc (.cells #[.slice a n c] el), ?_, Ext.alloc w _, .p (mono_lit _) ?_⟩
    · simp only [execOp, List.map_toArray, List.map_cons, List.map_nil, h1, Sem.run_bind, hb.l1, Result.andThen_ok]
      rfl
    · refine ⟨_, 1, 1, rfl, rfl, Nat.le_refl _, by simp [maxLen], fun i x hi => ⟨_, rfl, rfl, ?_⟩⟩
      match i, hi with
      | 0, hi =>
        cases hi
        refine ⟨.slice a n c, ?_, ev_raw _⟩
        simp only [World.cell?, heap_alloc_new]
        rfl
end
/-! A net that a call owns. -/
def flatT (L : List T3) : List FV := L.flatMap fun p => [p.1, p.2.1, p.2.2]
theorem flatT_length (L : List T3) : (flatT L).length = 3 * L.length := by
  induction L with
  | nil => rfl
  | cons p L ih => unfold flatT at *; rw [List.flatMap_cons, List.length_append, ih]; simp; omega
theorem cellsT_flat (L : List T3) : cellsT L = (flatT L).map (AV.f .f32) := by
  induction L with
  | nil => rfl
  | cons p L ih => unfold cellsT flatT at *; rw [List.flatMap_cons, List.flatMap_cons, List.map_append, ih]; rfl
def sOf (L : List T3) : Int → FV := at_ (flatT L)
theorem cellsT_tab (L : List T3) : cellsT L = (tab (3 * L.length) (sOf L)).map (AV.f .f32) := by
  rw [cellsT_flat, ← flatT_length]
  unfold sOf
  rw [← tab_at]
structure NB where
  a : Nat
  ac : Nat
  b : Nat
  bc : Nat
  G : Nat → Nat × Nat
abbrev entG (g m : Nat) (x : Nat → AV) (c : Nat) : Ent := ⟨g, 95, tabA m x, c⟩
def facW (F : List (List Int)) (G : Nat → Nat × Nat) (i : Nat) : AV := .raw (.slice (some ⟨(G i).1, 0, none⟩) (F.getD i []).length (G i).2)
def cornW (F : List (List Int)) (G : Nat → Nat × Nat) (i : Nat) : Ent := ⟨(G i).1, 2, (F.getD i []).map intA, (G i).2⟩
def cornsW (F : List (List Int)) (G : Nat → Nat × Nat) (k : Nat) : List Ent := (List.range k).map (cornW F G)
abbrev netW (y : NB) (n : Nat) (F : List (List Int)) : AV := .agg [.raw (.slice (some ⟨y.a, 0, none⟩) n y.ac), .raw (.slice (some ⟨y.b, 0, none⟩) F.length y.bc)]
def netE (y : NB) (n : Nat) (s : Int → FV) (F : List (List Int)) : List Ent := entF y.a 65 (3 * n) s (y.ac * 3) :: entG y.b F.length (facW F y.G) y.bc :: cornsW F y.G F.length
structure OkN (y : NB) (n : Nat) (F : List (List Int)) : Prop where
  sp : n ≤ y.ac ∧ y.ac ≤ maxLen
  fc : F.length ≤ y.bc ∧ y.bc ≤ maxLen
  co : ∀ i, i < F.length → (F.getD i []).length ≤ (y.G i).2 ∧ (y.G i).2 ≤ maxLen
theorem rd_ownC {w : World} {g c n cap sz : Nat} {T : TypeId} {xs : List AV} (ho : OwnE w ⟨g, T, xs, c⟩) (hl : xs.length = n * sz) (hc : n ≤ cap) (hm : cap ≤ maxLen) : Rd w sz (.slice (some ⟨g, 0, none⟩) n cap) xs :=
  ⟨_, n, cap, rfl, hl, hc, hm, fun i x hi => ⟨_, rfl, rfl, by
    obtain ⟨u, hu, hev⟩ := ho.cell hi
    exact ⟨u, by simpa using hu, hev⟩⟩⟩
theorem rdF_ownW {w : World} {y : NB} {n : Nat} {F : List (List Int)} (hy : OkN y n F) (ho : OwnE w (entG y.b F.length (facW F y.G) y.bc)) (hc : ∀ i, i < F.length → OwnE w (cornW F y.G i)) :
    Rd w 1 (.slice (some ⟨y.b, 0, none⟩) F.length y.bc) (F.map (facA w)) := by
  refine ⟨_, F.length, y.bc, rfl, by simp, hy.fc.1, hy.fc.2, fun i x hi => ⟨_, rfl, rfl, ?_⟩⟩
  rw [List.getElem?_map] at hi
  obtain ⟨M, hM, rfl⟩ := Option.map_eq_some_iff.1 hi
  have hlt : i < F.length := (List.getElem?_eq_some_iff.1 hM).1
  obtain ⟨u, hu, hev⟩ := ho.cell (i := i) (x := facW F y.G i) (tabA_get _ hlt)
  refine ⟨u, by simpa using hu, fun w' => ?_⟩
  have hu' : u = .slice (some ⟨(y.G i).1, 0, none⟩) (F.getD i []).length (y.G i).2 := (hev w).inv_raw
  have hd : F.getD i [] = M := by simp [List.getD, hM]
  subst hu'
  refine .q ?_
  have hco := hc i hlt
  have hok := hy.co i hlt
  unfold cornW at hco
  rw [hd] at hco hok ⊢
  exact rd_ownC hco (by simp) hok.1 hok.2
theorem netE_sp {y : NB} {n : Nat} {s : Int → FV} {F : List (List Int)} : entF y.a 65 (3 * n) s (y.ac * 3) ∈ netE y n s F := List.Mem.head _
theorem netE_fc {y : NB} {n : Nat} {s : Int → FV} {F : List (List Int)} : entG y.b F.length (facW F y.G) y.bc ∈ netE y n s F := List.Mem.tail _ (List.Mem.head _)
theorem netE_co {y : NB} {n : Nat} {s : Int → FV} {F : List (List Int)} {i : Nat} (h : i < F.length) : cornW F y.G i ∈ netE y n s F := List.Mem.tail _ (List.Mem.tail _ (List.mem_map.2 ⟨i, by simpa using h, rfl⟩))
theorem rel_netW {w : World} {y : NB} {n : Nat} {s : Int → FV} {F : List (List Int)} {v : Value} (hy : OkN y n F) (ho : ∀ e ∈ netE y n s F, OwnE w e) (hv : Rel w (netW y n F) v) : Rel w (netA w n s F) v := by
  obtain ⟨us, rfl, hu⟩ := hv.inv_agg
  obtain ⟨x1, r1, rfl, hx, hu⟩ := hu.inv_cons
  obtain ⟨x2, r2, rfl, hx2, hu⟩ := hu.inv_cons
  obtain rfl := hu.inv_nil
  rw [hx.inv_raw, hx2.inv_raw]
  refine .agg (.cons (.q ?_) (.cons (.q (rdF_ownW hy (ho _ netE_fc) fun i hi => ho _ (netE_co hi))) .nil))
  exact rd_ownC (n := n) (cap := y.ac) (sz := 3) (ho _ netE_sp) (by rw [List.length_map, tab_length]; omega) hy.sp.1 hy.sp.2
theorem Takes.netW {R0 : World → Prop} {w0 : World} {gs : List Nat} {H : List Ent} {y : NB} {n : Nat} {s : Int → FV} {F : List (List Int)} {args : List AV} {A : World → List AV} (hH : ∀ e ∈ netE y n s F, e ∈ H) (hy : OkN y n F) (h : Takes (StR R0 w0 gs H) args A) :
    Takes (StR R0 w0 gs H) (Go.Ab.netW y n F :: args) (fun w => netA w n s F :: A w) := fun w vs hS hr => by
  obtain ⟨v, r, rfl, hv, hrr⟩ := hr.inv_cons
  exact .cons (rel_netW hy (fun e he => (hS.own _ (hH e he)).2) hv) (h w r hS hrr)
theorem Takes.netWPt {R0 : World → Prop} {w0 : World} {gs : List Nat} {H : List Ent} {g c : Nat} {T : TypeId} {y : NB} {n : Nat} {s : Int → FV} {F : List (List Int)} {args : List AV} {A : World → List AV} (hm : (⟨g, T, [.raw (.slice (some ⟨y.a, 0, none⟩) n y.ac), .raw (.slice (some ⟨y.b, 0, none⟩) F.length y.bc)], c⟩ : Ent) ∈ H) (hH : ∀ e ∈ netE y n s F, e ∈ H) (hy : OkN y n F) (h : Takes (StR R0 w0 gs H) args A) :
    Takes (StR R0 w0 gs H) (.raw (.pointer (some ⟨g, 0, none⟩)) :: args) (fun w => Go.Ab.netPt w n s F :: A w) := fun w vs hS hr => by
  obtain ⟨v, r, rfl, hv, hrr⟩ := hr.inv_cons
  rw [hv.inv_raw]
  have hn := rel_netW (w := w) hy (fun e he => (hS.own _ (hH e he)).2) (.agg (.cons .raw (.cons .raw .nil)))
  obtain ⟨us, hus, hu⟩ := hn.inv_agg
  obtain ⟨x1, r1, rfl, hx1, hu⟩ := hu.inv_cons
  obtain ⟨x2, r2, rfl, hx2, hu⟩ := hu.inv_cons
  obtain rfl := hu.inv_nil
  simp only [Value.agg.injEq] at hus
  have hl := congrArg Array.toList hus
  simp only [List.cons.injEq, and_true] at hl
  obtain ⟨rfl, rfl⟩ := hl
  refine .cons (.q ⟨⟨g, 0, none⟩, rfl, rfl, fun i x hi => ?_⟩) (h w r hS hrr)
  have ho := (hS.own _ hm).2
  match i, hi with
  | 0, hi =>
    cases hi
    obtain ⟨u, hu, hev⟩ := ho.cell (i := 0) rfl
    obtain rfl := (hev w).inv_raw
    exact ⟨_, hu, hx1.ev rfl⟩
  | 1, hi =>
    cases hi
    obtain ⟨u, hu, hev⟩ := ho.cell (i := 1) rfl
    obtain rfl := (hev w).inv_raw
    exact ⟨_, hu, hx2.ev rfl⟩
end Go.Ab
