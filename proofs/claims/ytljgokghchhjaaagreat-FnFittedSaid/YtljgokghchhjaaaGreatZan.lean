/- Points of curves by cutting, the reference's, walked. No conditions. -/
import Derived.Test.YtljgokghchhjaaaGreatZam
namespace Go.Ab
open Go.Proofs
variable {R : World → Prop} [RStab R]
section
variable {P : Program} {t el : TypeId} {S : World → Prop} {N : Nat} {e : Env} {Q : Exit → Env → World → Prop} {ops : Array Oper} {l : List Oper} {dst : Option Tmp} {ty : TypeId} {pos : String} {after : Array Edge} {guard : Option (Nat × Bool)}
variable {w0 : World} {gs : List Nat} {H : List Ent}
/-- 'append' to nothing. -/
theorem rs_appendNil2 {sz m : Nat} {d : Tmp} {A B : Operand} {ys : List AV} {z : Value} {b : Nat} [hu : TyU P t (.slice el)] [hi : TyI P el z sz b] (hd : Nat.blt d N = true) (hsz : 0 < sz)
    (hA : e.ev A = some (.raw (.slice none 0 0))) (hB : ∃ y, e.ev B = some y ∧ ∀ w v, StR R w0 gs H w → Rel w y v → Rd w sz v ys)
    (hy : ys.length = m * sz) (h0 : 1 ≤ m) (h1 : ys.all isOne = true) (hm : m ≤ maxLen) (hby : m * b ≤ 140737488355328) (hzc : z.cells.size = sz)
    (hk : ∀ g' cap', m ≤ cap' → cap' ≤ maxLen → RS P N ops l ((d, .raw (.slice (some ⟨g', 0, none⟩) m cap')) :: e) (StR R w0 gs (⟨g', el, ys, cap' * sz⟩ :: H)) Q) :
    RS P N ops (⟨some d, .call { callee := .builtin .append, args := #[A, B], argTypes := #[t, t] }, ty, pos, after, none⟩ :: l) e (StR R w0 gs H) Q := by
  intro a w hS hF
  refine wpList_plain rfl fun K hK => ?_
  have hA' := (hF.eval hA).inv_raw
  obtain ⟨y, hy', hrd⟩ := hB
  obtain ⟨ad, m', c, hB', hl, _, _, hcells⟩ := hrd w _ hS (hF.eval hy')
  obtain rfl : m' = m := Nat.eq_of_mul_eq_mul_right hsz (by rw [← hl, hy])
  have hpos : 0 < ys.length := by rw [hy]; exact Nat.mul_pos h0 hsz
  obtain ⟨bb, had, hsp, _⟩ := hcells 0 _ (List.getElem?_eq_getElem hpos)
  subst had
  obtain ⟨i, hi1, hz1, hs1, hb1⟩ := hi.h
  have hnews : ∃ news : List Value, news.length = ys.length ∧ ∀ (j : Nat) (u : Value), news[j]? = some u → w.cell? (bb.add j) = some u ∧ ∃ y, ys[j]? = some y ∧ isOne y = true ∧ Ev y u := by
    have hex : ∀ k, k ≤ ys.length → ∃ news : List Value, news.length = k ∧ ∀ (j : Nat) (u : Value), news[j]? = some u → w.cell? (bb.add j) = some u ∧ ∃ y, ys[j]? = some y ∧ isOne y = true ∧ Ev y u := by
      intro k
      induction k with
      | zero => intro _; exact ⟨[], rfl, fun j u h => by simp at h⟩
      | succ k ih =>
        intro hk
        obtain ⟨news, hln, hall⟩ := ih (by omega)
        have hy'' : ys[k]? = some (ys[k]'(by omega)) := List.getElem?_eq_getElem (by omega)
        obtain ⟨b', hb', hsp', u, hu', hev⟩ := hcells k _ hy''
        cases hb'
        refine ⟨news ++ [u], by simp [hln], fun j v hj => ?_⟩
        rcases Nat.lt_or_ge j k with h | h
        · rw [List.getElem?_append_left (by omega)] at hj; exact hall j v hj
        · have hjk : j = k := by
            have := (List.getElem?_eq_some_iff.1 hj).1
            simp only [List.length_append, hln, List.length_cons, List.length_nil] at this
            omega
          subst hjk
          rw [List.getElem?_append_right (by omega), hln, Nat.sub_self] at hj
          cases hj
          exact ⟨by rw [addr_add bb hsp]; exact hu', _, hy'', List.all_eq_true.1 h1 _ (List.getElem_mem _), hev⟩
    exact hex _ (Nat.le_refl _)
  obtain ⟨news, hln, hnw⟩ := hnews
  have hone : ∀ u ∈ news, u.oneCell' = true := fun u hu => by
    obtain ⟨j, hj⟩ := List.mem_iff_getElem?.1 hu
    obtain ⟨_, y, _, hy1, hev⟩ := hnw j u hj
    exact (oneAV_spec hy1 (hev w)).2.1
  obtain ⟨g', cap', w', hr, hown', hgrow, hat, hlt⟩ := run_append_lies (P := P) w t ty 0 el i z sz b hu.h hi1 hz1 hs1 hb1 hzc hsz (.slice none 0 0) 0 [] ⟨by simp, .inl ⟨rfl, rfl⟩⟩
    bb m' c news (by rw [hln, hy]) (fun j u hj => (hnw j u hj).1) hone (by omega) (by omega) (by rw [Nat.zero_add]; exact hby) (Nat.zero_le _) _ rfl
  rw [Nat.zero_add, List.nil_append] at hown'
  rw [Nat.zero_add] at hr
  obtain ⟨hlx, hown'⟩ := hown'
  obtain ⟨g2, cap2, cur2, he2, _, hh2, hnc2, hcm2, hcs2, htk⟩ : ∃ g cap, ∃ X : Array Value, Value.slice (some ⟨g', 0, none⟩) m' cap' = .slice (some ⟨g, 0, none⟩) m' cap ∧ 0 ≤ g ∧ w'.heap[g]? = some (.cells X el (0, 0)) ∧ m' ≤ cap ∧ cap ≤ maxLen ∧ X.size = cap * sz ∧ X.toList.take (m' * sz) = news := by
    rcases hown' with ⟨h, _⟩ | ⟨g, cap, cur, h1, h2, h3, h4, h5, h6, h7⟩
    · cases h
    · exact ⟨g, cap, cur, h1, h2, h3, h4, h5, h6, h7⟩
  cases he2
  have hmod : Mod w w' [] := ⟨hgrow.os, hgrow.tape, hgrow.output, hgrow.size, fun k hk _ => hgrow.block k hk (by simp [Value.ownBlock])⟩
  have ho' : OwnE w' ⟨g', el, ys, cap' * sz⟩ := by
    refine ⟨cur2, hh2, hcs2, fun j x hj => ?_⟩
    have htj : ∀ v, news[j]? = some v → cur2[j]? = some v := fun v hv => by
      rw [← htk, List.getElem?_take] at hv
      split at hv
      · simpa using hv
      · cases hv
    have hj' : j < news.length := by rw [hln]; exact (List.getElem?_eq_some_iff.1 hj).1
    obtain ⟨_, y, hy', _, hev⟩ := hnw j _ (List.getElem?_eq_getElem hj')
    rw [hj] at hy'
    cases hy'
    exact ⟨_, htj _ (List.getElem?_eq_getElem hj'), hev⟩
  unfold Oper.wp
  have hrun : (execOp a.eval ⟨some d, .call { callee := .builtin .append, args := #[A, B], argTypes := #[t, t] }, ty, pos, after, none⟩).run P w = .ok (.value (.slice (some ⟨g', 0, none⟩) m' cap')) w' := by
    simp only [execOp, resolve, invoke, builtin, Sem.run_bind, Sem.run_pure, Result.andThen_ok, List.map_toArray, List.map_cons, List.map_nil, hA', hB', hr]
  rw [hrun]
  have hg : w.heap.size ≤ g' := by
    rcases hat with h | h
    · cases h
    · omega
  exact hK _ _ (hk g' cap' hnc2 hcm2 _ w' (hS.new hmod.to_ext hg ho') (Fr.put (some d) (hF.ext hmod.to_ext) (fun _ h => by cases h; exact Nat.le_of_ble_eq_true hd) .raw))

/-- A curve of the call's own whose lists have room. -/
abbrev crvOc (a b n ca cb : Nat) : AV := .agg [.raw (.slice (some ⟨a, 0, none⟩) n ca), .raw (.slice (some ⟨b, 0, none⟩) n cb)]
theorem Takes.crvPOc {args : List AV} {A' : World → List AV} {R0 : World → Prop} {n g c a b ca cb : Nat} {T : TypeId} {F : Nat → CV} {f : Int → FV} (hm : (⟨g, T, [.raw (.slice (some ⟨a, 0, none⟩) n ca), .raw (.slice (some ⟨b, 0, none⟩) n cb)], c⟩ : Ent) ∈ H) {T' : TypeId} (ha : entC a n F ca ∈ H) (hb : entF b T' n f cb ∈ H) (h1 : n ≤ ca ∧ ca ≤ maxLen) (h2 : n ≤ cb ∧ cb ≤ maxLen) (h : Takes (StR R0 w0 gs H) args A') :
    Takes (StR R0 w0 gs H) (.raw (.pointer (some ⟨g, 0, none⟩)) :: args) (fun w => crvP w n F f :: A' w) := fun w vs hS hr => by
  obtain ⟨v, r, rfl, hv, hrr⟩ := hr.inv_cons
  rw [hv.inv_raw]
  refine .cons (.p (mono_ptrTo _) ⟨_, rfl, rfl, fun i x hx => ?_⟩) (h w r hS hrr)
  match i, hx with
  | 0, hx =>
    cases hx
    obtain ⟨u, hu, hev⟩ := (hS.own _ hm).2.cell (i := 0) rfl
    exact ⟨u, by simpa using hu, fun w' => .q (rd_ownC hS (hev w) ha (Nat.le_refl _) h1)⟩
  | 1, hx =>
    cases hx
    obtain ⟨u, hu, hev⟩ := (hS.own _ hm).2.cell (i := 1) rfl
    exact ⟨u, by simpa using hu, fun w' => .q (rd_own hS (hev w) hb (Nat.le_refl _) h2)⟩
theorem oneL_sl2 {w : World} {sz sz' : Nat} {xs ys : List AV} : OneL [AV.sl w sz xs, AV.sl w sz' ys] := fun y hy w' v hr => by
  simp only [List.mem_cons, List.not_mem_nil, or_false] at hy
  rcases hy with rfl | rfl <;>
  · obtain ⟨a, n, c, rfl, _⟩ := hr.inv_q
    rfl
theorem rs_storeA2 (k : Nat) {g i c sl sl' : Nat} {w1 : World} {us us' : List AV} {T : TypeId} {xs zs : List AV} {t : TypeId} {z : Value} {b : Nat} [hi : TyI P t z 2 b] {A X : Operand} (hA : e.ev A = some (.raw (.pointer (some ⟨g, i, none⟩)))) (hx : e.ev X = some (.agg [AV.sl w1 sl us, AV.sl w1 sl' us']))
    (hH : H[k]? = some ⟨g, T, xs, c⟩) (hi' : Nat.ble (i + 2) xs.length = true) (hc : xs.length = c) (hz : splice i [AV.sl w1 sl us, AV.sl w1 sl' us'] xs = zs)
    (hk : RS P N ops l e.keep (StR R w0 gs (H.set k ⟨g, T, zs, c⟩)) Q) :
    RS P N ops (⟨none, .store t A X, ty, pos, after, none⟩ :: l) e (StR R w0 gs H) Q := by
  subst hz
  exact rs_storeAG k (en := ⟨g, T, xs, c⟩) hA hx oneL_sl2 rfl hH rfl (Nat.le_of_ble_eq_true hi') hc hk
end
def AV.ptrQ (w : World) (xs : List AV) : AV := .q fun v => PtrTo xs w v
abbrev crvQ (w : World) (n : Nat) (P : Nat → CV) (f : Int → FV) : AV := AV.ptrQ w [slC w (tabC n P), AV.sl w 1 ((tab n f).map (AV.f .f32))]
section
variable {P : Program} {S : World → Prop} {e : Env} {dst : Option Tmp} {ty : TypeId} {pos : String} {after : Array Edge} {guard : Option (Nat × Bool)} {t : TypeId} {w0 : World} {gs : List Nat} {H : List Ent}
theorem opj_nilZ {X : Operand} {w1 : World} {xs : List AV} (hx : e.ev X = some (AV.ptrQ w1 xs)) : OpJ P S e ⟨dst, .nilCheck X, ty, pos, after, guard⟩ (AV.ptrQ w1 xs) :=
  opj_value fun a w _ h => by
    obtain ⟨bb, hv, hsp, hr⟩ := (h X (by simp [Op.operands]) _ hx).inv_q
    exact ⟨a.eval X, w, by simp [execOp, hv], Ext.refl _, .q ⟨bb, hv, hsp, hr⟩⟩
theorem opj_fieldZ {t : TypeId} {X : Operand} {k off : Nat} {w1 : World} {xs : List AV} [hf : TyF P t k off] (hx : e.ev X = some (AV.ptrQ w1 xs)) :
    OpJ P S e ⟨dst, .fieldAddr t X k, ty, pos, after, guard⟩ (AV.ptrQ w1 (xs.drop off)) :=
  opj_value fun a w _ h => by
    obtain ⟨bb, hv, hsp, hr⟩ := (h X (by simp [Op.operands]) _ hx).inv_q
    have hrun := run_fieldAt (P := P) (t := t) (k := k) w bb
    rw [addr_add _ hsp] at hrun
    refine ⟨.pointer (some ⟨bb.block, bb.off + off, none⟩), w, by simp [execOp, hv, hrun], Ext.refl _, .q ⟨⟨bb.block, bb.off + off, none⟩, rfl, rfl, fun j x hj => ?_⟩⟩
    rw [List.getElem?_drop] at hj
    obtain ⟨u, hu, hev⟩ := hr (off + j) x hj
    exact ⟨u, by simpa [Nat.add_assoc] using hu, hev⟩
theorem opj_loadZ {R0 : World → Prop} {X : Operand} {x : AV} {xs : List AV} {t : TypeId} {d : TypeDesc} [hd : TyU P t d] (ha : aggD d = false) (hx : e.ev X = some (AV.ptrQ w0 xs)) (h0 : xs[0]? = some x) :
    OpJ P (StR R0 w0 [] H) e ⟨dst, .load t X, ty, pos, after, guard⟩ x :=
  opj_value fun a w hS h => by
    obtain ⟨bb, hv, hsp, hr⟩ := mono_ptrTo xs _ _ _ hS.ext0 (h X (by simp [Op.operands]) _ hx).inv_q
    obtain ⟨u, hu, hev⟩ := hr 0 x h0
    have hbb : (⟨bb.block, bb.off + 0, none⟩ : Addr) = bb := by cases bb; simp_all
    rw [hbb] at hu
    exact ⟨u, w, by simp [execOp, hv, Instr.loadAt, Instr.sureAddr, run_loadVar_cell hd.h ha hu], Ext.refl _, hev w⟩
theorem opj_loadAZ {R0 : World → Prop} {t : TypeId} {d : TypeDesc} {z : Value} {sz b : Nat} {X : Operand} {xs : List AV} [hd : TyU P t d] [hi : TyI P t z sz b] (ha : aggD d = true) (hx : e.ev X = some (AV.ptrQ w0 xs)) (hl : Nat.beq xs.length sz = true) :
    OpJ P (StR R0 w0 [] H) e ⟨dst, .load t X, ty, pos, after, guard⟩ (.agg xs) :=
  opj_value fun a w hS h => by
    obtain ⟨bb, hv, hsp, hr⟩ := mono_ptrTo xs _ _ _ hS.ext0 (h X (by simp [Op.operands]) _ hx).inv_q
    obtain ⟨cs, hrun, hrel⟩ := run_loadA (P := P) (t := t) (w := w) ha (bb := bb) hsp (xs := xs) (Nat.eq_of_beq_eq_true hl) (fun j x hj => hr j x hj)
    exact ⟨_, w, by simp [execOp, hv, Instr.loadAt, Instr.sureAddr, hrun], Ext.refl _, .agg hrel⟩
end
section
variable {args : List AV} {A' : World → List AV} {w0 : World} {gs : List Nat} {H : List Ent}
/-- A place of the call's own, a curve that came in lies in it. -/
theorem Takes.crvZi {R0 : World → Prop} {n g c : Nat} {T : TypeId} {P : Nat → CV} {f : Int → FV} (hm : (⟨g, T, [slC w0 (tabC n P), AV.sl w0 1 ((tab n f).map (AV.f .f32))], c⟩ : Ent) ∈ H) (h : Takes (StR R0 w0 [] H) args A') :
    Takes (StR R0 w0 [] H) (.raw (.pointer (some ⟨g, 0, none⟩)) :: args) (fun w => crvQ w n P f :: A' w) := fun w vs hS hr => by
  have := Takes.crvPt hm h w vs hS hr
  obtain ⟨v, r, rfl, hv, hrr⟩ := this.inv_cons
  exact .cons (.q hv.inv_p.2) hrr
theorem Takes.crvZo {R0 : World → Prop} {n g c a b ca cb : Nat} {T : TypeId} {F : Nat → CV} {f : Int → FV} (hm : (⟨g, T, [.raw (.slice (some ⟨a, 0, none⟩) n ca), .raw (.slice (some ⟨b, 0, none⟩) n cb)], c⟩ : Ent) ∈ H) {T' : TypeId} (ha : entC a n F ca ∈ H) (hb : entF b T' n f cb ∈ H) (h1 : n ≤ ca ∧ ca ≤ maxLen) (h2 : n ≤ cb ∧ cb ≤ maxLen) (h : Takes (StR R0 w0 gs H) args A') :
    Takes (StR R0 w0 gs H) (.raw (.pointer (some ⟨g, 0, none⟩)) :: args) (fun w => crvQ w n F f :: A' w) := fun w vs hS hr => by
  have := Takes.crvPOc hm ha hb h1 h2 h w vs hS hr
  obtain ⟨v, r, rfl, hv, hrr⟩ := this.inv_cons
  exact .cons (.q hv.inv_p.2) hrr
end
class CrvZ (P : Program) (t : TypeId) : Prop where
  b0 : ∀ (w : World), (Instr.build t #[]).run P w = .ok (.agg #[.slice none 0 0, .slice none 0 0]) w
instance crvZi : CrvZ Tryz.prog 35 := ⟨fun w => by kernel_rfl⟩
section
variable {P : Program} {S : World → Prop} {e : Env} {dst : Option Tmp} {ty : TypeId} {pos : String} {after : Array Edge} {guard : Option (Nat × Bool)} {t : TypeId}
theorem opj_buildZ [hb : CrvZ P t] : OpJ P S e ⟨dst, .build t #[], ty, pos, after, guard⟩ (.agg [.raw (.slice none 0 0), .raw (.slice none 0 0)]) :=
  opj_value fun ac w _ h => by
    refine ⟨_, w, ?_, Ext.refl _, .agg (vs := [.slice none 0 0, .slice none 0 0]) (.cons .raw (.cons .raw .nil))⟩
    simp only [execOp, List.map_toArray, List.map_nil, Sem.run_bind, hb.b0, Result.andThen_ok]
    rfl
end
def blW (u v t : FV) : FV := fbin .add .f32 (fbin .mul .f32 u (fbin .sub .f32 one1 t)) (fbin .mul .f32 v t)
def blC (a b : CV) (u v t : FV) : CV := scaleC (addC2 (scaleC a (fbin .mul .f32 u (fbin .sub .f32 one1 t))) (scaleC b (fbin .mul .f32 v t))) (fbin .quo .f32 one1 (blW u v t))
def rowP (P : Nat → CV) (f : Int → FV) (t : FV) (i : Nat) : CV := blC (P i) (P (i + 1)) (f i) (f ((i : Int) + 1)) t
def rowW (f : Int → FV) (t : FV) (i : Int) : FV := blW (f i) (f (i + 1)) t
def rowsP (P : Nat → CV) (f : Int → FV) (t : FV) : Nat → (Nat → CV) × (Int → FV)
  | 0 => (P, f)
  | k + 1 => (rowP (rowsP P f t k).1 (rowsP P f t k).2 t, rowW (rowsP P f t k).2 t)
theorem entC_one (g c : Nat) (F : Nat → CV) : (⟨g, 36, [cA (F 0)], c * 1⟩ : Ent) = entC g 1 F c := by
  unfold entC tabC
  rw [Nat.mul_one]
  rfl
theorem entF_one (g c : Nat) (T : TypeId) (f : Int → FV) : (⟨g, T, [.f .f32 (f 0)], c * 1⟩ : Ent) = entF g T 1 f c := by
  unfold entF tab
  rw [Nat.mul_one]
  rfl
attribute [local irreducible] WS RS Done OpJ Then InBlock Round Ret Env.sub FnH
attribute [local irreducible] tab tabC
theorem l02Times_fn (p : CV) (h : FV) : Fn Tryz.prog 95 (fun _ => [cA p, .f .f32 h]) (cA (scaleC p h)) := by
  refine fn_intro Tryz.func95 rfl Tryz.ntmps95 (fun _ => Nat.le_of_ble_eq_true rfl) fun w0 => ?_
  unfold cA
  repeat first | refine zaa rfl (zay rfl) ?_ | refine zaa rfl (zaz rfl) ?_ | (refine zac ?_; refine zaa rfl (zba rfl rfl rfl) ?_) | (refine zad ?_; first | refine zaa rfl (zbp rfl) ?_ | refine zaa rfl (zbq rfl) ?_ | refine zaa rfl (zbr rfl rfl) ?_) | refine zah ?_ | (refine zcr ?_; refine zcs ?_) | (refine zdb ?_; first | refine zdc ?_ | refine zdd ?_ | refine zdg ?_)
  exact done_ret1 rfl () rfl trivial (List.nil_sublist _)
theorem l02Blend_fn (a b : CV) (u v t : FV) : Fn Tryz.prog 87 (fun _ => [cA a, cA b, .f .f32 u, .f .f32 v, .f .f32 t]) (.tup [cA (blC a b u v t), .f .f32 (blW u v t)]) := by
  have h1 := l02Times_fn a (fbin .mul .f32 u (fbin .sub .f32 one1 t))
  have h2 := l02Times_fn b (fbin .mul .f32 v t)
  have h3 := l02Times_fn (addC2 (scaleC a (fbin .mul .f32 u (fbin .sub .f32 one1 t))) (scaleC b (fbin .mul .f32 v t))) (fbin .quo .f32 one1 (blW u v t))
  refine fn_intro Tryz.func87 rfl Tryz.ntmps87 (fun _ => Nat.le_of_ble_eq_true rfl) fun w0 => ?_
  repeat first | refine zaa rfl (zay rfl) ?_ | refine zaa rfl (zaz rfl) ?_ | (refine zac ?_; first | refine zaa rfl (zba rfl rfl rfl) ?_ | refine zaa rfl (opj_cadd rfl rfl) ?_) | (refine zad ?_; first | (refine zaa rfl (zci rfl rfl (h1) ?_) ?_; (focus ((repeat (first | exact Takes.nil | refine Takes.sl ?_ | refine Takes.lit ?_ | refine Takes.fa ?_ | refine Takes.fc ?_ | refine Takes.net ?_ | (refine Takes.ownE ?_ ?_ ?_ ?_ ?_; (focus (exact ⟨_, _, (by (repeat (first | exact mh | refine mt ?_)); done)⟩)); (focus (simp; done)); (focus omega); (focus (simp only [maxLen]; omega))) | refine Takes.same ?_)); done))) | (refine zaa rfl (zci rfl rfl (h2) ?_) ?_; (focus ((repeat (first | exact Takes.nil | refine Takes.sl ?_ | refine Takes.lit ?_ | refine Takes.fa ?_ | refine Takes.fc ?_ | refine Takes.net ?_ | (refine Takes.ownE ?_ ?_ ?_ ?_ ?_; (focus (exact ⟨_, _, (by (repeat (first | exact mh | refine mt ?_)); done)⟩)); (focus (simp; done)); (focus omega); (focus (simp only [maxLen]; omega))) | refine Takes.same ?_)); done))) | (refine zaa rfl (zci rfl rfl (h3) ?_) ?_; (focus ((repeat (first | exact Takes.nil | refine Takes.sl ?_ | refine Takes.lit ?_ | refine Takes.fa ?_ | refine Takes.fc ?_ | refine Takes.net ?_ | (refine Takes.ownE ?_ ?_ ?_ ?_ ?_; (focus (exact ⟨_, _, (by (repeat (first | exact mh | refine mt ?_)); done)⟩)); (focus (simp; done)); (focus omega); (focus (simp only [maxLen]; omega))) | refine Takes.same ?_)); done)))) | refine zah ?_ | (refine zcr ?_; refine zcs ?_) | (refine zdb ?_; first | refine zdc ?_ | refine zdd ?_ | refine zdg ?_)
  exact done_ret2 rfl () rfl rfl rfl trivial (List.nil_sublist _)
/-- Where a row stands: how many points it has, and its lists. -/
def rowWd (T Tc : TypeId) (w0 : World) (g4 g5 : Nat) (P' : Nat → CV) (f' : Int → FV) (y : Nat × (Nat × Nat) × Nat × Nat) : World → Prop := match y.1 with
  | 0 => St w0 [] [⟨g5, Tc, [.raw (.slice none 0 0), .raw (.slice none 0 0)], 2⟩, ⟨g4, Tc, [.raw (.slice none 0 0), .raw (.slice none 0 0)], 2⟩]
  | i + 1 => St w0 [] [⟨g5, Tc, [.raw (.slice (some ⟨y.2.1.1, 0, none⟩) (i + 1) y.2.2.1), .raw (.slice (some ⟨y.2.1.2, 0, none⟩) (i + 1) y.2.2.2)], 2⟩, ⟨g4, Tc, [.raw (.slice none 0 0), .raw (.slice none 0 0)], 2⟩, entC y.2.1.1 (i + 1) P' y.2.2.1, entF y.2.1.2 T (i + 1) f' y.2.2.2]
theorem l02Row_fn {n : Nat} {P : Nat → CV} {f : Int → FV} {t : FV} (hn : 2 ≤ n ∧ n ≤ 1000) :
    FnH (X := (Nat × Nat) × Nat × Nat) Tryz.prog 66 (fun w => [crvQ w n P f, .f .f32 t]) []
      (fun y => crvOc y.1.1 y.1.2 (n - 1) y.2.1 y.2.2) (fun y => [entC y.1.1 (n - 1) (rowP P f t) y.2.1, entF y.1.2 27 (n - 1) (rowW f t) y.2.2]) (fun y => (n - 1 ≤ y.2.1 ∧ y.2.1 ≤ maxLen) ∧ n - 1 ≤ y.2.2 ∧ y.2.2 ≤ maxLen) := by
  have hB : ∀ i : Nat, Fn Tryz.prog 87 (fun _ => [cA (P i), cA (P (i + 1)), .f .f32 (f i), .f .f32 (f ((i : Int) + 1)), .f .f32 t]) (.tup [cA (rowP P f t i), .f .f32 (rowW f t i)]) := fun i => l02Blend_fn _ _ _ _ _
  obtain ⟨P', hP'⟩ : ∃ P', P' = rowP P f t := ⟨_, rfl⟩
  obtain ⟨f', hf'⟩ : ∃ f', f' = rowW f t := ⟨_, rfl⟩
  rw [← hP', ← hf'] at hB ⊢
  have e1 : ∀ i : Nat, ((i : Int) + 1).toNat = i + 1 := fun i => by omega
  have e0 : ∀ i : Nat, (i : Int).toNat = i := fun i => rfl
  refine fn_intro Tryz.func66 rfl Tryz.ntmps66 (fun _ => Nat.le_of_ble_eq_true rfl) fun w0 => ?_
  repeat first | refine zaa rfl (zaz rfl) ?_ | refine zah ?_ | (refine zcr ?_; refine zcs ?_) | (refine zdb ?_; first | refine zdc ?_ | refine zdd ?_ | refine zde ?_) | (refine zal rfl rfl ?_; intro g) | (refine zag ?_; refine zan 0 rfl rfl rfl rfl rfl rfl rfl rfl rfl ?_) | refine zaa rfl opj_buildZ ?_
  rename_i g4
  obtain ⟨g5, hg5⟩ : ∃ x, x = g := ⟨g, rfl⟩
  subst hg5
  refine ws_loop (ι := Nat × (Nat × Nat) × Nat × Nat) (fun y => [(0, crvQ w0 n P f), (1, .f .f32 t), (4, .raw (.pointer (some ⟨g4, 0, none⟩))), (5, .raw (.pointer (some ⟨g5, 0, none⟩))), (6, .raw (.int .i64 (y.1 : Nat)))])
    (rowWd 27 35 w0 g4 g5 P' f') (fun y => y.1 + 1 ≤ n ∧ (y.1 ≤ y.2.2.1 ∧ y.2.2.1 ≤ maxLen) ∧ y.1 ≤ y.2.2.2 ∧ y.2.2.2 ≤ maxLen) (fun y => n - y.1) (0, (0, 0), 0, 0) ⟨by simp only; omega, by simp only; omega, by simp only; omega⟩ ?_ (fun _ h => h) (fun y hy => ?_)
  · (repeat (first | exact Env.sub_nil _ | refine Env.sub_cons rfl ?_))
  obtain ⟨i, ⟨a, b⟩, ca, cb⟩ := y
  simp only at hy ⊢
  obtain ⟨hi, ⟨hca1, hca2⟩, hcb1, hcb2⟩ := hy
  simp only [maxLen] at hca1 hca2 hcb1 hcb2
  have hBi : Fn Tryz.prog 87 (fun _ => [cA (P (i : Int).toNat), cA (P ((i : Int) + 1).toNat), .f .f32 (f i), .f .f32 (f ((i : Int) + 1)), .f .f32 t]) (.tup [cA (P' i), .f .f32 (f' i)]) := by
    rw [e1, e0]
    exact hB i
  cases i with
  | zero =>
    unfold rowWd
    dsimp only
    repeat first | refine zaa rfl (zay rfl) ?_ | (refine zac ?_; first | refine zaa rfl (zbb rfl rfl (by omega)) ?_ | refine zaa rfl (zbe rfl rfl) ?_) | (refine zad ?_; refine zaa rfl (opj_lenC rfl) ?_) | refine zah ?_ | (refine zcr ?_; refine zcs ?_) | (refine zdb ?_; first | refine zdc ?_ | refine zdd ?_) | refine zaa rfl (opj_nilZ rfl) ?_ | refine zaa rfl (opj_fieldZ rfl) ?_ | refine zaa rfl (opj_loadZ rfl rfl rfl) ?_
    refine ws_cond rfl (fun hd => ?_) (fun hd => ?_)
    case' refine_2 =>
      exfalso
      have := of_decide_eq_false hd
      omega
    clear hd
    repeat first | (refine zcr ?_; refine zcs ?_) | (refine zdb ?_; first | refine zdc ?_ | refine zde ?_ | refine zdf ?_)
    refine ws_draw (n := 37) mixed (by decide +kernel) ?_
    repeat first | refine zap rfl (zay rfl) ?_ | refine zap rfl (zaz rfl) ?_ | (refine zar ?_; refine zap rfl (zbb rfl rfl (by omega)) ?_) | (refine zas ?_; (refine zap rfl (zci rfl rfl (hBi) ?_) ?_; (focus ((repeat (first | exact Takes.nil | refine Takes.sl ?_ | refine Takes.lit ?_ | refine Takes.fa ?_ | refine Takes.fc ?_ | refine Takes.net ?_ | (refine Takes.ownE ?_ ?_ ?_ ?_ ?_; (focus (exact ⟨_, _, (by (repeat (first | exact mh | refine mt ?_)); done)⟩)); (focus (simp; done)); (focus omega); (focus (simp only [maxLen]; omega))) | refine Takes.same ?_)); done)))) | (refine zat ?_; refine zap rfl (zbu rfl rfl) ?_) | (refine zau ?_; first | refine zap rfl (opj_indexC rfl rfl (by omega) (by omega)) ?_ | refine zap rfl (zbs rfl rfl (by omega) (by omega)) ?_) | refine zap rfl (zbz rfl rfl) ?_ | refine zav ?_ | refine zap rfl (opj_nilZ rfl) ?_ | refine zap rfl (opj_fieldZ rfl) ?_ | refine zap rfl (opj_loadZ rfl rfl rfl) ?_
    repeat first | refine zaa rfl (zay rfl) ?_ | (refine zae ?_; refine zaa rfl (zcf rfl rfl (by (repeat (first | exact mh | refine mt ?_)); done) rfl) ?_) | refine zaa rfl (zcd rfl) ?_ | refine zah ?_ | (refine zcr ?_; refine zcs ?_) | (refine zdb ?_; first | refine zdc ?_ | refine zdd ?_) | refine zaa rfl (zco rfl rfl rfl rfl rfl rfl) ?_
    refine rs_appendNil2 (sz := 1) (m := 1) (ys := [cA (P' 0)]) rfl (by omega) rfl ⟨_, rfl, fun w v _ h => h.inv_p.2⟩ rfl (by omega) rfl (by simp only [maxLen]; omega) (by omega) rfl fun a' ca' h1 h2 => ?_
    rw [entC_one]
    repeat first | refine zaa rfl (zay rfl) ?_ | (refine zae ?_; refine zaa rfl (zcf rfl rfl (by (repeat (first | exact mh | refine mt ?_)); done) rfl) ?_) | refine zaa rfl (zcd rfl) ?_ | refine zah ?_ | (refine zcr ?_; refine zcs ?_) | (refine zdb ?_; refine zdd ?_) | (refine zag ?_; refine zam 1 rfl rfl rfl rfl rfl rfl ?_) | refine zaa rfl (zco rfl rfl rfl rfl rfl rfl) ?_
    refine rs_appendNil2 (sz := 1) (m := 1) (ys := [.f .f32 (f' 0)]) rfl (by omega) rfl ⟨_, rfl, fun w v _ h => h.inv_p.2⟩ rfl (by omega) rfl (by simp only [maxLen]; omega) (by omega) rfl fun b' cb' h3 h4 => ?_
    rw [entF_one]
    repeat first | refine zaa rfl (zay rfl) ?_ | refine zaa rfl (zaz rfl) ?_ | (refine zac ?_; refine zaa rfl (zbb rfl rfl (by omega)) ?_) | refine zaa rfl (zcd rfl) ?_ | refine zah ?_ | (refine zcr ?_; first | refine zcs ?_ | refine zcv ?_) | (refine zdb ?_; refine zdd ?_) | (refine zag ?_; refine zam 2 rfl rfl rfl rfl rfl rfl ?_)
    refine done_round (1, (a', b'), ca', cb') ⟨by simp only; omega, ⟨h1, h2⟩, h3, h4⟩ (by simp only; omega) ?_ (fun w h => ?_)
    · simp only
      (repeat (first | exact Env.sub_nil _ | refine Env.sub_cons rfl ?_))
    · exact h.swap.rot4.rot4
  | succ j =>
    unfold rowWd
    dsimp only
    repeat first | refine zaa rfl (zay rfl) ?_ | (refine zac ?_; first | refine zaa rfl (zbb rfl rfl (by omega)) ?_ | refine zaa rfl (zbe rfl rfl) ?_) | (refine zad ?_; refine zaa rfl (opj_lenC rfl) ?_) | refine zah ?_ | (refine zcr ?_; refine zcs ?_) | (refine zdb ?_; first | refine zdc ?_ | refine zdd ?_) | refine zaa rfl (opj_nilZ rfl) ?_ | refine zaa rfl (opj_fieldZ rfl) ?_ | refine zaa rfl (opj_loadZ rfl rfl rfl) ?_
    refine ws_cond rfl (fun hd => ?_) (fun hd => ?_)
    case' refine_2 =>
      have hjn : n - 1 = j + 1 := by have := of_decide_eq_false hd; omega
      rw [hjn]
      repeat first | (refine zae ?_; refine zaa rfl (zcg rfl rfl (by (repeat (first | exact mh | refine mt ?_)); done) rfl rfl) ?_) | refine zah ?_ | (refine zcr ?_; first | refine zcs ?_ | refine zcu ?_ | refine zcx ?_ | refine zda ?_) | (refine zdb ?_; first | refine zdc ?_ | refine zdd ?_ | refine zdg ?_ | refine zdh ?_) | (refine zag ?_; refine zan 1 rfl rfl rfl rfl rfl rfl rfl rfl rfl ?_)
      exact done_retX rfl rfl ((a, b), ca, cb) rfl (mt mh) rfl rfl rfl ⟨⟨hca1, by simp only [maxLen]; omega⟩, hcb1, by simp only [maxLen]; omega⟩ (.cons _ (.cons _ (List.Sublist.refl _)))
    have hlt : ((j + 1 : Nat) : Int) + 1 < n := of_decide_eq_true hd
    clear hd
    repeat first | (refine zcr ?_; refine zcs ?_) | (refine zdb ?_; first | refine zdc ?_ | refine zde ?_ | refine zdf ?_)
    refine ws_draw (n := 37) mixed (by decide +kernel) ?_
    repeat first | refine zap rfl (zay rfl) ?_ | refine zap rfl (zaz rfl) ?_ | (refine zar ?_; refine zap rfl (zbb rfl rfl (by omega)) ?_) | (refine zas ?_; (refine zap rfl (zci rfl rfl (hBi) ?_) ?_; (focus ((repeat (first | exact Takes.nil | refine Takes.sl ?_ | refine Takes.lit ?_ | refine Takes.fa ?_ | refine Takes.fc ?_ | refine Takes.net ?_ | (refine Takes.ownE ?_ ?_ ?_ ?_ ?_; (focus (exact ⟨_, _, (by (repeat (first | exact mh | refine mt ?_)); done)⟩)); (focus (simp; done)); (focus omega); (focus (simp only [maxLen]; omega))) | refine Takes.same ?_)); done)))) | (refine zat ?_; refine zap rfl (zbu rfl rfl) ?_) | (refine zau ?_; first | refine zap rfl (opj_indexC rfl rfl (by omega) (by omega)) ?_ | refine zap rfl (zbs rfl rfl (by omega) (by omega)) ?_) | refine zap rfl (zbz rfl rfl) ?_ | refine zav ?_ | refine zap rfl (opj_nilZ rfl) ?_ | refine zap rfl (opj_fieldZ rfl) ?_ | refine zap rfl (opj_loadZ rfl rfl rfl) ?_
    repeat first | refine zaa rfl (zay rfl) ?_ | (refine zae ?_; refine zaa rfl (zcf rfl rfl (by (repeat (first | exact mh | refine mt ?_)); done) rfl) ?_) | refine zaa rfl (zcd rfl) ?_ | refine zah ?_ | (refine zcr ?_; refine zcs ?_) | (refine zdb ?_; first | refine zdc ?_ | refine zdd ?_) | refine zaa rfl (zco rfl rfl rfl rfl rfl rfl) ?_
    refine rs_appendC 2 P' rfl rfl rfl rfl ⟨hca1, by simp only [maxLen]; omega⟩ (by omega) rfl rfl rfl (fun s _ => rfl) fun a' ca' h1 h2 => ?_
    repeat first | refine zaa rfl (zay rfl) ?_ | (refine zae ?_; refine zaa rfl (zcf rfl rfl (by (repeat (first | exact mh | refine mt ?_)); done) rfl) ?_) | refine zaa rfl (zcd rfl) ?_ | refine zah ?_ | (refine zcr ?_; refine zcs ?_) | (refine zdb ?_; refine zdd ?_) | (refine zag ?_; refine zam 0 rfl rfl rfl rfl rfl rfl ?_) | refine zaa rfl (zco rfl rfl rfl rfl rfl rfl) ?_
    refine rs_appendT 3 f' rfl rfl rfl rfl ⟨hcb1, by simp only [maxLen]; omega⟩ (by omega) rfl rfl rfl (fun s _ _ => rfl) fun b' cb' h3 h4 => ?_
    repeat first | refine zaa rfl (zay rfl) ?_ | refine zaa rfl (zaz rfl) ?_ | (refine zac ?_; refine zaa rfl (zbb rfl rfl (by omega)) ?_) | refine zaa rfl (zcd rfl) ?_ | refine zah ?_ | (refine zcr ?_; first | refine zcs ?_ | refine zcv ?_) | (refine zdb ?_; refine zdd ?_) | (refine zag ?_; refine zam 0 rfl rfl rfl rfl rfl rfl ?_)
    refine done_round (j + 1 + 1, (a', b'), ca', cb') ⟨by simp only; omega, ⟨h1, h2⟩, h3, h4⟩ (by simp only; omega) ?_ (fun w h => ?_)
    · simp only
      rw [show ((j + 1 + 1 : Nat) : Int) = ((j + 1 : Nat) : Int) + 1 by omega]
      (repeat (first | exact Env.sub_nil _ | refine Env.sub_cons rfl ?_))
    · exact h
/-- Where a search for a point stands. -/
def atWd (T Tc : TypeId) (w0 : World) (g5 n : Nat) (P : Nat → CV) (f : Int → FV) (t : FV) (y : Nat × (Nat × Nat) × Nat × Nat) : World → Prop := match y.1 with
  | 0 => St w0 [] [⟨g5, Tc, [slC w0 (tabC n P), AV.sl w0 1 ((tab n f).map (AV.f .f32))], 2⟩]
  | j + 1 => St w0 [] [⟨g5, Tc, [.raw (.slice (some ⟨y.2.1.1, 0, none⟩) (n - (j + 1)) y.2.2.1), .raw (.slice (some ⟨y.2.1.2, 0, none⟩) (n - (j + 1)) y.2.2.2)], 2⟩, entC y.2.1.1 (n - (j + 1)) (rowsP P f t (j + 1)).1 y.2.2.1, entF y.2.1.2 T (n - (j + 1)) (rowsP P f t (j + 1)).2 y.2.2.2]
theorem l02At_fn {n : Nat} {P : Nat → CV} {f : Int → FV} {t : FV} (hn : 2 ≤ n ∧ n ≤ 1000) :
    Fn Tryz.prog 31 (fun w => [crvQ w n P f, .f .f32 t]) (cA ((rowsP P f t (n - 1)).1 0)) := by
  have hR : ∀ j, j + 2 ≤ n → FnH (X := (Nat × Nat) × Nat × Nat) Tryz.prog 66 (fun w => [crvQ w (n - j) (rowsP P f t j).1 (rowsP P f t j).2, .f .f32 t]) []
      (fun y => crvOc y.1.1 y.1.2 (n - (j + 1)) y.2.1 y.2.2) (fun y => [entC y.1.1 (n - (j + 1)) (rowsP P f t (j + 1)).1 y.2.1, entF y.1.2 27 (n - (j + 1)) (rowsP P f t (j + 1)).2 y.2.2]) (fun y => (n - (j + 1) ≤ y.2.1 ∧ y.2.1 ≤ maxLen) ∧ n - (j + 1) ≤ y.2.2 ∧ y.2.2 ≤ maxLen) := fun j hj => by
    have := l02Row_fn (n := n - j) (P := (rowsP P f t j).1) (f := (rowsP P f t j).2) (t := t) (by omega)
    rw [show n - j - 1 = n - (j + 1) by omega] at this
    exact this
  refine fn_intro Tryz.func31 rfl Tryz.ntmps31 (fun _ => Nat.le_of_ble_eq_true rfl) fun w0 => ?_
  repeat first | refine zaa rfl (zay rfl) ?_ | refine zaa rfl (zaz rfl) ?_ | refine zah ?_ | (refine zcr ?_; refine zcs ?_) | (refine zdb ?_; first | refine zdc ?_ | refine zdd ?_ | refine zde ?_) | (refine zal rfl rfl ?_; intro g) | refine zaa rfl (opj_nilZ rfl) ?_ | refine zaa rfl (opj_loadAZ rfl rfl rfl) ?_ | refine rs_storeA2 0 rfl rfl rfl rfl rfl rfl ?_
  obtain ⟨g5, hg5⟩ : ∃ x, x = g := ⟨g, rfl⟩
  subst hg5
  refine ws_loop (ι := Nat × (Nat × Nat) × Nat × Nat) (fun y => [(1, .f .f32 t), (5, .raw (.pointer (some ⟨g5, 0, none⟩)))])
    (atWd 27 35 w0 g5 n P f t) (fun y => y.1 + 1 ≤ n ∧ (n - y.1 ≤ y.2.2.1 ∧ y.2.2.1 ≤ maxLen) ∧ n - y.1 ≤ y.2.2.2 ∧ y.2.2.2 ≤ maxLen) (fun y => n - y.1) (0, (0, 0), n, n) ⟨by simp only; omega, by simp only [maxLen]; omega, by simp only [maxLen]; omega⟩ ?_ (fun _ h => h) (fun y hy => ?_)
  · (repeat (first | exact Env.sub_nil _ | refine Env.sub_cons rfl ?_))
  obtain ⟨j, ⟨a, b⟩, ca, cb⟩ := y
  simp only at hy ⊢
  obtain ⟨hj, ⟨hca1, hca2⟩, hcb1, hcb2⟩ := hy
  cases j with
  | zero =>
    have hR0 := hR 0 (by omega)
    unfold atWd
    dsimp only
    repeat first | (refine zac ?_; refine zaa rfl (zbg rfl rfl) ?_) | (refine zad ?_; refine zaa rfl (opj_lenC rfl) ?_) | (refine zae ?_; refine zaa rfl (zcf rfl rfl (by (repeat (first | exact mh | refine mt ?_)); done) rfl) ?_) | refine zaa rfl (zcd rfl) ?_ | refine zah ?_ | (refine zcr ?_; refine zcs ?_) | (refine zdb ?_; first | refine zdc ?_ | refine zdd ?_)
    refine ws_cond rfl (fun hd => ?_) (fun hd => ?_)
    case' refine_2 =>
      exfalso
      have := of_decide_eq_false hd
      omega
    clear hd
    repeat first | refine zaa rfl (zay rfl) ?_ | (refine zcr ?_; refine zcs ?_) | (refine zdb ?_; first | refine zdd ?_ | refine zde ?_ | refine zdf ?_)
    refine rs_callM2 hR0 rfl rfl (Takes.crvZi mh (Takes.same Takes.nil)) rfl ?_
    rintro ⟨⟨a', b'⟩, ca', cb'⟩ ⟨⟨h1, h2⟩, h3, h4⟩
    dsimp only at h1 h2 h3 h4 ⊢
    repeat first | refine zah ?_ | (refine zcr ?_; refine zcv ?_) | (refine zag ?_; refine zan 2 rfl rfl rfl rfl rfl rfl rfl rfl rfl ?_)
    refine done_round (0 + 1, (a', b'), ca', cb') ⟨by simp only; omega, ⟨h1, h2⟩, h3, h4⟩ (by simp only; omega) ?_ (fun w h => ?_)
    · (repeat (first | exact Env.sub_nil _ | refine Env.sub_cons rfl ?_))
    · exact h.rot3
  | succ j =>
    unfold atWd
    dsimp only
    repeat first | (refine zac ?_; refine zaa rfl (zbg rfl rfl) ?_) | (refine zad ?_; refine zaa rfl (zbn rfl) ?_) | (refine zae ?_; refine zaa rfl (zcf rfl rfl (by (repeat (first | exact mh | refine mt ?_)); done) rfl) ?_) | refine zaa rfl (zcd rfl) ?_ | refine zah ?_ | (refine zcr ?_; refine zcs ?_) | (refine zdb ?_; first | refine zdc ?_ | refine zdd ?_)
    refine ws_cond rfl (fun hd => ?_) (fun hd => ?_)
    case' refine_2 =>
      have hjn : n - (j + 1) = 1 := by have := of_decide_eq_false hd; omega
      have hjn' : n - 1 = j + 1 := by omega
      rw [hjn, hjn']
      repeat first | refine zaa rfl (zaz rfl) ?_ | (refine zae ?_; first | refine zaa rfl (opj_loadC rfl rfl (by (repeat (first | exact mh | refine mt ?_)); done) (by omega)) ?_ | refine zaa rfl (zcf rfl rfl (by (repeat (first | exact mh | refine mt ?_)); done) rfl) ?_) | (refine zaf ?_; refine zaa rfl (zbw rfl rfl (by omega) (by omega)) ?_) | refine zaa rfl (zcd rfl) ?_ | refine zah ?_ | (refine zcr ?_; first | refine zcs ?_ | refine zcu ?_ | refine zcx ?_ | refine zda ?_) | (refine zdb ?_; first | refine zdc ?_ | refine zdd ?_ | refine zdg ?_ | refine zdh ?_)
      exact done_ret1 rfl () rfl trivial (List.nil_sublist _)
    have hlt : (1 : Int) < ((n - (j + 1) : Nat) : Int) := of_decide_eq_true hd
    clear hd
    have hR0 := hR (j + 1) (by omega)
    repeat first | refine zaa rfl (zay rfl) ?_ | (refine zcr ?_; refine zcs ?_) | (refine zdb ?_; first | refine zdd ?_ | refine zde ?_ | refine zdf ?_)
    refine rs_callM2 hR0 rfl rfl (Takes.crvZo mh (mt mh) (mt (mt mh)) ⟨hca1, hca2⟩ ⟨hcb1, hcb2⟩ (Takes.same Takes.nil)) rfl ?_
    rintro ⟨⟨a', b'⟩, ca', cb'⟩ ⟨⟨h1, h2⟩, h3, h4⟩
    dsimp only at h1 h2 h3 h4 ⊢
    repeat first | refine zah ?_ | (refine zcr ?_; refine zcv ?_) | (refine zag ?_; refine zan 2 rfl rfl rfl rfl rfl rfl rfl rfl rfl ?_)
    refine done_round (j + 1 + 1, (a', b'), ca', cb') ⟨by simp only; omega, ⟨h1, h2⟩, h3, h4⟩ (by simp only; omega) ?_ (fun w h => ?_)
    · (repeat (first | exact Env.sub_nil _ | refine Env.sub_cons rfl ?_))
    · exact (h.rot3.weak (.cons_cons _ (.cons_cons _ (.cons_cons _ (List.nil_sublist _)))))
theorem l02Complex_yes (p : CV) (hp : finC p = true) : Fn Tryz.prog 30 (fun _ => [cA p]) (.tup [cA p, .raw (.bool true)]) := by
  have hF := l01CFinite_fn p
  rw [hp] at hF
  refine fn_intro Tryz.func30 rfl Tryz.ntmps30 (fun _ => Nat.le_of_ble_eq_true rfl) fun w0 => ?_
  repeat first | refine zaa rfl (zay rfl) ?_ | refine zaa rfl (zaz rfl) ?_ | (refine zad ?_; (refine zaa rfl (zci rfl rfl (hF) ?_) ?_; (focus ((repeat (first | exact Takes.nil | refine Takes.sl ?_ | refine Takes.lit ?_ | refine Takes.fa ?_ | refine Takes.fc ?_ | refine Takes.net ?_ | (refine Takes.ownE ?_ ?_ ?_ ?_ ?_; (focus (exact ⟨_, _, (by (repeat (first | exact mh | refine mt ?_)); done)⟩)); (focus (simp; done)); (focus omega); (focus (simp only [maxLen]; omega))) | refine Takes.same ?_)); done)))) | refine zaa rfl (zcc rfl) ?_ | refine zah ?_ | (refine zcr ?_; refine zcs ?_) | (refine zdb ?_; first | refine zdc ?_ | refine zdd ?_ | refine zdf ?_ | refine zdg ?_ | refine zdj rfl ?_)
  exact done_ret2 rfl () rfl rfl rfl trivial (List.nil_sublist _)
theorem specCurveAt_fn {n : Nat} {P : Nat → CV} {f : Int → FV} {t : FV} (hn : 2 ≤ n ∧ n ≤ 8) (hP : (tabC n P).all finC = true) (hf : (tab n f).all aboveB = true) (ht : Fn Tryz.prog 29 (fun _ => [.f .f32 t]) (.raw (.bool true)))
    (hq : finC ((rowsP P f t (n - 1)).1 0) = true) : Fn Tryz.prog 11 (fun w => [crvA w n P f, .f .f32 t]) (.tup [cA ((rowsP P f t (n - 1)).1 0), .raw (.bool true)]) := by
  have hL := l02Is_yes hn hP hf
  have hA := l02At_fn (n := n) (P := P) (f := f) (t := t) (by omega)
  have hC := l02Complex_yes _ hq
  refine fn_intro Tryz.func11 rfl Tryz.ntmps11 (fun _ => Nat.le_of_ble_eq_true rfl) fun w0 => ?_
  repeat first | refine zai rfl rfl ?_ | refine zaa rfl (zay rfl) ?_ | refine zaa rfl (zaz rfl) ?_ | (refine zad ?_; first | (refine zaa rfl (zci rfl rfl (ht) ?_) ?_; (focus ((repeat (first | exact Takes.nil | refine Takes.sl ?_ | refine Takes.lit ?_ | refine Takes.fa ?_ | refine Takes.fc ?_ | refine Takes.net ?_ | (refine Takes.ownE ?_ ?_ ?_ ?_ ?_; (focus (exact ⟨_, _, (by (repeat (first | exact mh | refine mt ?_)); done)⟩)); (focus (simp; done)); (focus omega); (focus (simp only [maxLen]; omega))) | refine Takes.same ?_)); done))) | (refine zaa rfl (zci rfl rfl (hC) ?_) ?_; (focus ((repeat (first | exact Takes.nil | refine Takes.sl ?_ | refine Takes.lit ?_ | refine Takes.fa ?_ | refine Takes.fc ?_ | refine Takes.net ?_ | (refine Takes.ownE ?_ ?_ ?_ ?_ ?_; (focus (exact ⟨_, _, (by (repeat (first | exact mh | refine mt ?_)); done)⟩)); (focus (simp; done)); (focus omega); (focus (simp only [maxLen]; omega))) | refine Takes.same ?_)); done)))) | refine zaa rfl (zbz rfl rfl) ?_ | refine zaa rfl (zcb rfl rfl) ?_ | refine zaa rfl (zcc rfl) ?_ | refine zah ?_ | (refine zcr ?_; refine zcs ?_) | (refine zdb ?_; first | refine zdc ?_ | refine zdd ?_ | refine zdf ?_ | refine zdg ?_ | refine zdj rfl ?_) | (refine zak rfl rfl rfl ?_; intro g) | refine zaa rfl (zci rfl rfl hL (Takes.crvPt mh Takes.nil)) ?_ | refine zaa rfl (zci rfl rfl hA (Takes.crvZi mh (Takes.same Takes.nil))) ?_
  exact done_ret2 rfl () rfl rfl rfl trivial (List.nil_sublist _)
end Go.Ab
