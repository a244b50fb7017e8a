/- Part 6 of the texts on which the law leans, joined: Points of curves by cutting, the program's, walked. No conditions. -/
import Derived.Test.YtapclajklcflbaaZae
namespace Go.Ab
open Go.Proofs
variable {R : World → Prop} [RStab R]
section
variable {P : Program} {t el : TypeId} {S : World → Prop} {N : Nat} {e : Env} {Q : Exit → Env → World → Prop} {ops : Array Oper} {l : List Oper} {dst : Option Tmp} {ty : TypeId} {pos : String} {after : Array Edge} {guard : Option (Nat × Bool)}
variable {w0 : World} {gs : List Nat} {H : List Ent}
/-- 'append' to nothing. -/
theorem rs_appendNil2 {sz m : Nat} {d : Tmp} {A B : Operand} {ys : List AV} {z : Value} {b : Nat} [hu : TyU P t (.slice el)] [hi : TyI P el z sz b] (hd : Nat.blt d N = true) (hsz : 0 < sz)
    (hA : e.ev A = some (.raw (.slice none 0 0))) (hB : ∃ y, e.ev B = some y ∧ ∀ w v, StR R w0 gs H w → Rel w y v → Rd w sz v ys)
    (hy : ys.length = m * sz) (h0 : 1 ≤ m) (h1 : ys.all isOne = true) (hm : m ≤ maxLen) (hby : m * b ≤ 140737488355328) (hzc : z.cells.size = sz)
    (hk : ∀ g' cap', m ≤ cap' → cap' ≤ maxLen → RS P N ops l ((d, .raw (.slice (some ⟨g', 0, none⟩) m cap')) :: e) (StR R w0 gs (⟨g', el, ys, cap' * sz⟩ :: H)) Q) :
    RS P N ops (⟨some d, .call { callee := .builtin .append, args := #[A, B], argTypes := #[t, t] }, ty, pos, after, none⟩ :: l) e (StR R w0 gs H) Q := by
  intro a w hS hF
  refine wpList_plain rfl fun K hK => ?_
  have hA' := (hF.eval hA).inv_raw
  obtain ⟨y, hy', hrd⟩ := hB
  obtain ⟨ad, m', c, hB', hl, _, _, hcells⟩ := hrd w _ hS (hF.eval hy')
  obtain rfl : m' = m := Nat.eq_of_mul_eq_mul_right hsz (by rw [← hl, hy])
  have hpos : 0 < ys.length := by rw [hy]; exact Nat.mul_pos h0 hsz
  obtain ⟨bb, had, hsp, _⟩ := hcells 0 _ (List.getElem?_eq_getElem hpos)
  subst had
  obtain ⟨i, hi1, hz1, hs1, hb1⟩ := hi.h
  have hnews : ∃ news : List Value, news.length = ys.length ∧ ∀ (j : Nat) (u : Value), news[j]? = some u → w.cell? (bb.add j) = some u ∧ ∃ y, ys[j]? = some y ∧ isOne y = true ∧ Ev y u := by
    have hex : ∀ k, k ≤ ys.length → ∃ news : List Value, news.length = k ∧ ∀ (j : Nat) (u : Value), news[j]? = some u → w.cell? (bb.add j) = some u ∧ ∃ y, ys[j]? = some y ∧ isOne y = true ∧ Ev y u := by
      intro k
      induction k with
      | zero => intro _; exact ⟨[], rfl, fun j u h => by simp at h⟩
      | succ k ih =>
        intro hk
        obtain ⟨news, hln, hall⟩ := ih (by omega)
        have hy'' : ys[k]? = some (ys[k]'(by omega)) := List.getElem?_eq_getElem (by omega)
        obtain ⟨b', hb', hsp', u, hu', hev⟩ := hcells k _ hy''
        cases hb'
        refine ⟨news ++ [u], by simp [hln], fun j v hj => ?_⟩
        rcases Nat.lt_or_ge j k with h | h
        · rw [List.getElem?_append_left (by omega)] at hj; exact hall j v hj
        · have hjk : j = k := by
            have := (List.getElem?_eq_some_iff.1 hj).1
            simp only [List.length_append, hln, List.length_cons, List.length_nil] at this
            omega
          subst hjk
          rw [List.getElem?_append_right (by omega), hln, Nat.sub_self] at hj
          cases hj
          exact ⟨by rw [addr_add bb hsp]; exact hu', _, hy'', List.all_eq_true.1 h1 _ (List.getElem_mem _), hev⟩
    exact hex _ (Nat.le_refl _)
  obtain ⟨news, hln, hnw⟩ := hnews
  have hone : ∀ u ∈ news, u.oneCell' = true := fun u hu => by
    obtain ⟨j, hj⟩ := List.mem_iff_getElem?.1 hu
    obtain ⟨_, y, _, hy1, hev⟩ := hnw j u hj
    exact (oneAV_spec hy1 (hev w)).2.1
  obtain ⟨g', cap', w', hr, hown', hgrow, hat, hlt⟩ := run_append_lies (P := P) w t ty 0 el i z sz b hu.h hi1 hz1 hs1 hb1 hzc hsz (.slice none 0 0) 0 [] ⟨by simp, .inl ⟨rfl, rfl⟩⟩
    bb m' c news (by rw [hln, hy]) (fun j u hj => (hnw j u hj).1) hone (by omega) (by omega) (by rw [Nat.zero_add]; exact hby) (Nat.zero_le _) _ rfl
  rw [Nat.zero_add, List.nil_append] at hown'
  rw [Nat.zero_add] at hr
  obtain ⟨hlx, hown'⟩ := hown'
  obtain ⟨g2, cap2, cur2, he2, _, hh2, hnc2, hcm2, hcs2, htk⟩ : ∃ g cap, ∃ X : Array Value, Value.slice (some ⟨g', 0, none⟩) m' cap' = .slice (some ⟨g, 0, none⟩) m' cap ∧ 0 ≤ g ∧ w'.heap[g]? = some (.cells X el (0, 0)) ∧ m' ≤ cap ∧ cap ≤ maxLen ∧ X.size = cap * sz ∧ X.toList.take (m' * sz) = news := by
    rcases hown' with ⟨h, _⟩ | ⟨g, cap, cur, h1, h2, h3, h4, h5, h6, h7⟩
    · cases h
    · exact ⟨g, cap, cur, h1, h2, h3, h4, h5, h6, h7⟩
  cases he2
  have hmod : Mod w w' [] := ⟨hgrow.os, hgrow.tape, hgrow.output, hgrow.size, fun k hk _ => hgrow.block k hk (by simp [Value.ownBlock])⟩
  have ho' : OwnE w' ⟨g', el, ys, cap' * sz⟩ := by
    refine ⟨cur2, hh2, hcs2, fun j x hj => ?_⟩
    have htj : ∀ v, news[j]? = some v → cur2[j]? = some v := fun v hv => by
      rw [← htk, List.getElem?_take] at hv
      split at hv
      · simpa using hv
      · cases hv
    have hj' : j < news.length := by rw [hln]; exact (List.getElem?_eq_some_iff.1 hj).1
    obtain ⟨_, y, hy', _, hev⟩ := hnw j _ (List.getElem?_eq_getElem hj')
    rw [hj] at hy'
    cases hy'
    exact ⟨_, htj _ (List.getElem?_eq_getElem hj'), hev⟩
  unfold Oper.wp
  have hrun : (execOp a.eval ⟨some d, .call { callee := .builtin .append, args := #[A, B], argTypes := #[t, t] }, ty, pos, after, none⟩).run P w = .ok (.value (.slice (some ⟨g', 0, none⟩) m' cap')) w' := by
    simp only [execOp, resolve, invoke, builtin, Sem.run_bind, Sem.run_pure, Result.andThen_ok, List.map_toArray, List.map_cons, List.map_nil, hA', hB', hr]
  rw [hrun]
  have hg : w.heap.size ≤ g' := by
    rcases hat with h | h
    · cases h
    · omega
  exact hK _ _ (hk g' cap' hnc2 hcm2 _ w' (hS.new hmod.to_ext hg ho') (Fr.put (some d) (hF.ext hmod.to_ext) (fun _ h => by cases h; exact Nat.le_of_ble_eq_true hd) .raw))

theorem rs_callM3 {X : Type} {A : World → List AV} {mk : X → AV} {post : X → List Ent} {good : X → Prop} {c : FuncId} {xs : List Operand} {F : Operand} {args : List AV} {d : Tmp} {ts : Array TypeId} [hb : HasBody P c]
    (hc : FnH P c A [] mk post good) (hF : e.ev F = some (.raw (.func (.func c) #[] #[]))) (hx : evL e xs = some args) (ht : Takes (StR R w0 gs H) args A) (hd : Nat.blt d N = true)
    (h : ∀ y, good y → RS P N ops l ((d, mk y) :: e.keep) (StR R w0 gs (post y ++ H)) Q) :
    RS P N ops (⟨some d, .call { callee := .value F, args := xs.toArray, argTypes := ts }, ty, pos, after, none⟩ :: l) e (StR R w0 gs H) Q := rs_call (pre := []) (H := H) hc hF hx ht hd h
omit [RStab R] in
theorem rd_ownM {w : World} {g n cap sz c : Nat} {T : TypeId} {xs : List AV} {v : Value} (hS : StR R w0 gs H w) (hr : Rel w (.raw (.slice (some ⟨g, 0, none⟩) n cap)) v) (hm : (⟨g, T, xs, c⟩ : Ent) ∈ H) (hn : xs.length = n * sz) (hc : n ≤ cap ∧ cap ≤ maxLen) : Rd w sz v xs := by
  have hv' := hr.inv_raw
  subst hv'
  refine ⟨_, n, cap, rfl, hn, hc.1, hc.2, fun i x hi => ⟨_, rfl, rfl, ?_⟩⟩
  obtain ⟨u, hu, hev⟩ := (hS.own _ hm).2.cell hi
  exact ⟨u, by simpa using hu, hev⟩
/-- A store into a cell of a block of the call's own. -/
theorem effj_storeX (k : Nat) {g i c : Nat} {T : TypeId} {xs ys : List AV} {t : TypeId} {z : Value} {b : Nat} [hi : TyI P t z 1 b] {A X : Operand} {x : AV} (hA : e.ev A = some (.raw (.pointer (some ⟨g, i, none⟩)))) (hx : e.ev X = some x) (h1 : oneAV x = true) (hH : H[k]? = some ⟨g, T, xs, c⟩) (hi' : Nat.blt i c = true) (hy : xs.set i x = ys) :
    EffJ P (StR R w0 gs H) (StR R w0 gs (H.set k ⟨g, T, ys, c⟩)) e ⟨none, .store t A X, ty, pos, after, none⟩ := by
  subst hy
  intro a w K Q hS ho hK
  have h2 := (ho A (by simp [Op.operands]) _ hA).inv_raw
  have hr := ho X (by simp [Op.operands]) _ hx
  obtain ⟨hc, ho1, hst⟩ := oneAV_spec h1 hr
  have hi'' : i < c := Nat.le_of_ble_eq_true hi'
  have hmem : (⟨g, T, xs, c⟩ : Ent) ∈ H := List.mem_of_getElem? hH
  obtain ⟨cur, hb, hcs, _⟩ := (hS.own _ hmem).2
  have hic : i < cur.size := by rw [hcs]; exact hi''
  have hcell : w.cell? ⟨g, i, none⟩ = some cur[i] := by simp [World.cell?, hb, hic]
  have hfr : w.frozen? ⟨g, i, none⟩ = false := OwnE.frozen (hS.own _ hmem).2 i
  have hrun : (execOp a.eval ⟨none, .store t A X, ty, pos, after, none⟩).run P w = .ok .skip (w.setCell ⟨g, i, none⟩ (a.eval X)) := by
    have hst : (store ⟨g, i, none⟩ (a.eval X)).run P w = .ok () (w.setCell ⟨g, i, none⟩ (a.eval X)) := by
      rw [run_store P w _ _ _ ho1, hcell]; simp [hfr]
    have hadd : (⟨g, i, none⟩ : Addr).add 0 = ⟨g, i, none⟩ := rfl
    simp [execOp, h2, Instr.storeAt, Instr.sureAddr, storeVar, run_size hi, hc, storeCells, hadd, hst]
  unfold Oper.wp
  rw [hrun]
  exact hK _ (hS.updAt hH (mod_setCell w g i _) (.inl rfl) (own_setCell (e := ⟨g, T, xs, c⟩) (hS.own _ hmem).2 hi'' (hr.ev hst)))
/-- A curve of the call's own whose lists have room. -/
abbrev crvOc (a b n ca cb : Nat) : AV := .agg [.raw (.slice (some ⟨a, 0, none⟩) n ca), .raw (.slice (some ⟨b, 0, none⟩) n cb)]
end
def AV.ptrQ (w : World) (xs : List AV) : AV := .q fun v => PtrTo xs w v
section
variable {P : Program} {S : World → Prop} {e : Env} {dst : Option Tmp} {ty : TypeId} {pos : String} {after : Array Edge} {guard : Option (Nat × Bool)} {t : TypeId} {w0 : World} {gs : List Nat} {H : List Ent}
theorem opj_loadZ {R0 : World → Prop} {X : Operand} {x : AV} {xs : List AV} {t : TypeId} {d : TypeDesc} [hd : TyU P t d] (ha : aggD d = false) (hx : e.ev X = some (AV.ptrQ w0 xs)) (h0 : xs[0]? = some x) :
    OpJ P (StR R0 w0 [] H) e ⟨dst, .load t X, ty, pos, after, guard⟩ x :=
  opj_value fun a w hS h => by
    obtain ⟨bb, hv, hsp, hr⟩ := mono_ptrTo xs _ _ _ hS.ext0 (h X (by simp [Op.operands]) _ hx).inv_q
    obtain ⟨u, hu, hev⟩ := hr 0 x h0
    have hbb : (⟨bb.block, bb.off + 0, none⟩ : Addr) = bb := by cases bb; simp_all
    rw [hbb] at hu
    exact ⟨u, w, by simp [execOp, hv, Instr.loadAt, Instr.sureAddr, run_loadVar_cell hd.h ha hu], Ext.refl _, hev w⟩
end
class CrvZ (P : Program) (t : TypeId) : Prop where
  b0 : ∀ (w : World), (Instr.build t #[]).run P w = .ok (.agg #[.slice none 0 0, .slice none 0 0]) w
instance crvZi : CrvZ Try.prog 27 := ⟨fun w => by kernel_rfl⟩
section
variable {P : Program} {S : World → Prop} {e : Env} {dst : Option Tmp} {ty : TypeId} {pos : String} {after : Array Edge} {guard : Option (Nat × Bool)} {t : TypeId}
theorem opj_buildZ [hb : CrvZ P t] : OpJ P S e ⟨dst, .build t #[], ty, pos, after, guard⟩ (.agg [.raw (.slice none 0 0), .raw (.slice none 0 0)]) :=
  opj_value fun ac w _ h => by
    refine ⟨_, w, ?_, Ext.refl _, .agg (vs := [.slice none 0 0, .slice none 0 0]) (.cons .raw (.cons .raw .nil))⟩
    simp only [execOp, List.map_toArray, List.map_nil, Sem.run_bind, hb.b0, Result.andThen_ok]
    rfl
end
def blW (u v t : FV) : FV := fbin .add .f32 (fbin .mul .f32 u (fbin .sub .f32 one1 t)) (fbin .mul .f32 v t)
def blC (a b : CV) (u v t : FV) : CV := scaleC (addC2 (scaleC a (fbin .mul .f32 u (fbin .sub .f32 one1 t))) (scaleC b (fbin .mul .f32 v t))) (fbin .quo .f32 one1 (blW u v t))
def rowP (P : Nat → CV) (f : Int → FV) (t : FV) (i : Nat) : CV := blC (P i) (P (i + 1)) (f i) (f ((i : Int) + 1)) t
def rowW (f : Int → FV) (t : FV) (i : Int) : FV := blW (f i) (f (i + 1)) t
def rowsP (P : Nat → CV) (f : Int → FV) (t : FV) : Nat → (Nat → CV) × (Int → FV)
  | 0 => (P, f)
  | k + 1 => (rowP (rowsP P f t k).1 (rowsP P f t k).2 t, rowW (rowsP P f t k).2 t)
theorem entC_one (g c : Nat) (F : Nat → CV) : (⟨g, 31, [cA (F 0)], c * 1⟩ : Ent) = entC g 1 F c := by
  unfold entC tabC
  rw [Nat.mul_one]
  rfl
theorem entF_one (g c : Nat) (T : TypeId) (f : Int → FV) : (⟨g, T, [.f .f32 (f 0)], c * 1⟩ : Ent) = entF g T 1 f c := by
  unfold entF tab
  rw [Nat.mul_one]
  rfl
end Go.Ab
namespace Go.Ab
open Go.Proofs
variable {R : World → Prop} [RStab R]
theorem ws_K2 {P : Program} {N : Nat} {e : Env} {S : World → Prop} {Q : Exit → Env → World → Prop} {Y : Type} {E : Y → Env} {SS : Y → World → Prop} {ok : Y → Prop} {c : Code} (h : (∀ y, ok y → Done .normal (E y) (SS y) Q) → WS P N c e S Q) (hD : ∀ y, ok y → Done .normal (E y) (SS y) Q) : WS P N c e S Q := h hD
theorem entF_one0 (g c : Nat) (T : TypeId) (f : Int → FV) : (⟨g, T, [.f .f32 (f ((0 : Nat) : Int))], c * 1⟩ : Ent) = entF g T 1 f c := entF_one g c T f
theorem entC_snoc (g c k : Nat) (F : Nat → CV) : (⟨g, 31, (tabC k F).map cA ++ [cA (F k)], c * 1⟩ : Ent) = entC g (k + 1) F c := by
  unfold entC
  rw [Nat.mul_one, ← tabC_snoc k F, List.map_append]
  rfl
theorem entF_snoc (g c k : Nat) (T : TypeId) (f : Int → FV) : (⟨g, T, (tab k f).map (AV.f .f32) ++ [.f .f32 (f k)], c * 1⟩ : Ent) = entF g T (k + 1) f c := by
  unfold entF
  rw [Nat.mul_one, ← tab_snoc (n := k) (f := f) (g := f) (x := f k) rfl (fun _ _ _ => rfl), List.map_append]
  rfl
theorem one_cA (n : Nat) (F : Nat → CV) : ((tabC n F).map cA).all isOne = true := by
  rw [List.all_eq_true]
  intro x hx
  obtain ⟨a, _, rfl⟩ := List.mem_map.1 hx
  rfl
attribute [local irreducible] WS RS Done OpJ Then InBlock Round Ret Env.sub FnH
attribute [local irreducible] tab tabC
theorem scaled_fn (p : CV) (h : FV) : Fn Try.prog 44 (fun _ => [cA p, .f .f32 h]) (cA (scaleC p h)) := by
  refine fn_intro Try.func44 rfl Try.ntmps44 (fun _ => Nat.le_of_ble_eq_true rfl) fun w0 => ?_
  unfold cA
  repeat first | refine zaa rfl (zay rfl) ?_ | refine zaa rfl (zaz rfl) ?_ | (refine zac ?_; refine zaa rfl (zba rfl rfl rfl) ?_) | (refine zad ?_; first | refine zaa rfl (zbp rfl) ?_ | refine zaa rfl (zbq rfl) ?_ | refine zaa rfl (zbr rfl rfl) ?_) | refine zah ?_ | (refine zcr ?_; refine zcs ?_) | (refine zdb ?_; first | refine zdc ?_ | refine zdd ?_ | refine zdg ?_)
  exact done_ret1 rfl () rfl trivial (List.nil_sublist _)
theorem blend_fn (a b : CV) (u v t : FV) : Fn Try.prog 74 (fun _ => [cA a, .f .f32 u, cA b, .f .f32 v, .f .f32 t]) (.tup [cA (blC a b u v t), .f .f32 (blW u v t)]) := by
  have h1 := scaled_fn a (fbin .mul .f32 u (fbin .sub .f32 one1 t))
  have h2 := scaled_fn b (fbin .mul .f32 v t)
  have hp := plus_fn (scaleC a (fbin .mul .f32 u (fbin .sub .f32 one1 t))) (scaleC b (fbin .mul .f32 v t))
  have h3 := scaled_fn (addC2 (scaleC a (fbin .mul .f32 u (fbin .sub .f32 one1 t))) (scaleC b (fbin .mul .f32 v t))) (fbin .quo .f32 one1 (blW u v t))
  refine fn_intro Try.func74 rfl Try.ntmps74 (fun _ => Nat.le_of_ble_eq_true rfl) fun w0 => ?_
  repeat first | refine zaa rfl (zay rfl) ?_ | refine zaa rfl (zaz rfl) ?_ | (refine zac ?_; refine zaa rfl (zba rfl rfl rfl) ?_) | (refine zad ?_; first | (refine zaa rfl (zci rfl rfl (h1) ?_) ?_; (focus ((repeat (first | exact Takes.nil | refine Takes.sl ?_ | refine Takes.lit ?_ | refine Takes.fa ?_ | refine Takes.fc ?_ | refine Takes.net ?_ | (refine Takes.ownE ?_ ?_ ?_ ?_ ?_; (focus (exact ⟨_, _, (by (repeat (first | exact mh | refine mt ?_)); done)⟩)); (focus (simp; done)); (focus omega); (focus (simp only [maxLen]; omega))) | refine Takes.same ?_)); done))) | (refine zaa rfl (zci rfl rfl (h2) ?_) ?_; (focus ((repeat (first | exact Takes.nil | refine Takes.sl ?_ | refine Takes.lit ?_ | refine Takes.fa ?_ | refine Takes.fc ?_ | refine Takes.net ?_ | (refine Takes.ownE ?_ ?_ ?_ ?_ ?_; (focus (exact ⟨_, _, (by (repeat (first | exact mh | refine mt ?_)); done)⟩)); (focus (simp; done)); (focus omega); (focus (simp only [maxLen]; omega))) | refine Takes.same ?_)); done))) | (refine zaa rfl (zci rfl rfl (h3) ?_) ?_; (focus ((repeat (first | exact Takes.nil | refine Takes.sl ?_ | refine Takes.lit ?_ | refine Takes.fa ?_ | refine Takes.fc ?_ | refine Takes.net ?_ | (refine Takes.ownE ?_ ?_ ?_ ?_ ?_; (focus (exact ⟨_, _, (by (repeat (first | exact mh | refine mt ?_)); done)⟩)); (focus (simp; done)); (focus omega); (focus (simp only [maxLen]; omega))) | refine Takes.same ?_)); done))) | (refine zaa rfl (zci rfl rfl (hp) ?_) ?_; (focus ((repeat (first | exact Takes.nil | refine Takes.sl ?_ | refine Takes.lit ?_ | refine Takes.fa ?_ | refine Takes.fc ?_ | refine Takes.net ?_ | (refine Takes.ownE ?_ ?_ ?_ ?_ ?_; (focus (exact ⟨_, _, (by (repeat (first | exact mh | refine mt ?_)); done)⟩)); (focus (simp; done)); (focus omega); (focus (simp only [maxLen]; omega))) | refine Takes.same ?_)); done)))) | refine zah ?_ | (refine zcr ?_; refine zcs ?_) | (refine zdb ?_; first | refine zdc ?_ | refine zdd ?_ | refine zdg ?_)
  exact done_ret2 rfl () rfl rfl rfl trivial (List.nil_sublist _)
/-- Where a row stands. -/
def nextWd (T Tc : TypeId) (w0 : World) (g2 g4 g5 n : Nat) (P : Nat → CV) (f : Int → FV) (P' : Nat → CV) (f' : Int → FV) (y : Nat × (Nat × Nat) × Nat × Nat) : World → Prop := match y.1 with
  | 0 => St w0 [] [⟨g5, Tc, [.raw (.slice none 0 0), .raw (.slice none 0 0)], 2⟩, ⟨g4, Tc, [.raw (.slice none 0 0), .raw (.slice none 0 0)], 2⟩, ⟨g2, Tc, [slC w0 (tabC n P), AV.sl w0 1 ((tab n f).map (AV.f .f32))], 2⟩]
  | i + 1 => St w0 [] [⟨g5, Tc, [.raw (.slice (some ⟨y.2.1.1, 0, none⟩) (i + 1) y.2.2.1), .raw (.slice (some ⟨y.2.1.2, 0, none⟩) (i + 1) y.2.2.2)], 2⟩, ⟨g4, Tc, [.raw (.slice none 0 0), .raw (.slice none 0 0)], 2⟩, ⟨g2, Tc, [slC w0 (tabC n P), AV.sl w0 1 ((tab n f).map (AV.f .f32))], 2⟩, entC y.2.1.1 (i + 1) P' y.2.2.1, entF y.2.1.2 T (i + 1) f' y.2.2.2]
set_option maxRecDepth 100000 in
set_option maxHeartbeats 40000000 in
theorem next_fn' {n : Nat} {P : Nat → CV} {f : Int → FV} {t : FV} (hn : 2 ≤ n ∧ n ≤ 1000) :
    FnH (X := (Nat × Nat) × Nat × Nat) Try.prog 54 (fun w => [crvA w n P f, .f .f32 t]) []
      (fun y => crvOc y.1.1 y.1.2 (n - 1) y.2.1 y.2.2) (fun y => [entC y.1.1 (n - 1) (rowP P f t) y.2.1, entF y.1.2 29 (n - 1) (rowW f t) y.2.2]) (fun y => (n - 1 ≤ y.2.1 ∧ y.2.1 ≤ maxLen) ∧ n - 1 ≤ y.2.2 ∧ y.2.2 ≤ maxLen) := by
  have hB : ∀ i : Nat, Fn Try.prog 74 (fun _ => [cA (P i), .f .f32 (f i), cA (P (i + 1)), .f .f32 (f ((i : Int) + 1)), .f .f32 t]) (.tup [cA (rowP P f t i), .f .f32 (rowW f t i)]) := fun i => blend_fn _ _ _ _ _
  have hD := degree_fn n P f (by omega)
  obtain ⟨P', hP'⟩ : ∃ P', P' = rowP P f t := ⟨_, rfl⟩
  obtain ⟨f', hf'⟩ : ∃ f', f' = rowW f t := ⟨_, rfl⟩
  rw [← hP', ← hf'] at hB ⊢
  have e1 : ∀ i : Nat, ((i : Int) + 1).toNat = i + 1 := fun i => by omega
  have e0 : ∀ i : Nat, (i : Int).toNat = i := fun i => rfl
  refine fn_intro Try.func54 rfl Try.ntmps54 (fun _ => Nat.le_of_ble_eq_true rfl) fun w0 => ?_
  repeat first | refine zaa rfl (zay rfl) ?_ | (refine zae ?_; refine zaa rfl (zcg rfl rfl (by (repeat (first | exact mh | refine mt ?_)); done) rfl rfl) ?_) | refine zah ?_ | (refine zcr ?_; refine zcs ?_) | (refine zdb ?_; first | refine zdc ?_ | refine zdd ?_ | refine zde ?_) | (refine zak rfl rfl rfl ?_; intro g) | (refine zal rfl rfl ?_; intro g) | (refine zag ?_; refine zan 0 rfl rfl rfl rfl rfl rfl rfl rfl rfl ?_) | refine zaa rfl opj_buildZ ?_ | refine zaa rfl (zci rfl rfl hD (Takes.crv Takes.nil)) ?_
  rename_i g2 g4
  obtain ⟨g5, hg5⟩ : ∃ x, x = g := ⟨g, rfl⟩
  subst hg5
  refine ws_loop (ι := Nat × (Nat × Nat) × Nat × Nat) (fun y => [(1, .f .f32 t), (2, .raw (.pointer (some ⟨g2, 0, none⟩))), (4, .raw (.pointer (some ⟨g4, 0, none⟩))), (5, .raw (.pointer (some ⟨g5, 0, none⟩))), (11, .raw (.int .i64 ((n : Int) - 1))), (12, .raw (.int .i64 (y.1 : Nat)))])
    (nextWd 29 27 w0 g2 g4 g5 n P f P' f') (fun y => y.1 + 1 ≤ n ∧ (y.1 ≤ y.2.2.1 ∧ y.2.2.1 ≤ maxLen) ∧ y.1 ≤ y.2.2.2 ∧ y.2.2.2 ≤ maxLen) (fun y => n - y.1) (0, (0, 0), 0, 0) ⟨by simp only; omega, by simp only; omega, by simp only; omega⟩ ?_ (fun _ h => h) (fun y hy => ?_)
  · (repeat (first | exact Env.sub_nil _ | refine Env.sub_cons rfl ?_))
  obtain ⟨i, ⟨a, b⟩, ca, cb⟩ := y
  simp only at hy ⊢
  obtain ⟨hi, hc1, hc2⟩ := hy
  have hBi : Fn Try.prog 74 (fun _ => [cA (P (i : Int).toNat), .f .f32 (f i), cA (P ((i : Int) + 1).toNat), .f .f32 (f ((i : Int) + 1)), .f .f32 t]) (.tup [cA (P' i), .f .f32 (f' i)]) := by
    rw [e1, e0]
    exact hB i
  cases i with
  | zero =>
    unfold nextWd
    dsimp only
    repeat first | (refine zac ?_; refine zaa rfl (zbe rfl rfl) ?_) | refine zah ?_ | (refine zcr ?_; refine zcs ?_) | (refine zdb ?_; first | refine zdc ?_ | refine zdd ?_)
    refine ws_cond rfl (fun hd => ?_) (fun hd => ?_)
    case' refine_2 =>
      exfalso
      have := of_decide_eq_false hd
      omega
    clear hd
    repeat first | refine zaa rfl (zay rfl) ?_ | refine zaa rfl (zaz rfl) ?_ | refine zah ?_ | (refine zcr ?_; refine zcs ?_) | (refine zdb ?_; first | refine zdc ?_ | refine zdd ?_ | refine zde ?_ | refine zdf ?_)
    refine ws_draw (n := 29) mixed (by decide +kernel) ?_
    repeat first | refine zap rfl (zay rfl) ?_ | refine zap rfl (zaz rfl) ?_ | (refine zar ?_; refine zap rfl (zbb rfl rfl (by omega)) ?_) | (refine zas ?_; (refine zap rfl (zci rfl rfl (hBi) ?_) ?_; (focus ((repeat (first | exact Takes.nil | refine Takes.sl ?_ | refine Takes.lit ?_ | refine Takes.fa ?_ | refine Takes.fc ?_ | refine Takes.net ?_ | (refine Takes.ownE ?_ ?_ ?_ ?_ ?_; (focus (exact ⟨_, _, (by (repeat (first | exact mh | refine mt ?_)); done)⟩)); (focus (simp; done)); (focus omega); (focus (simp only [maxLen]; omega))) | refine Takes.same ?_)); done)))) | (refine zat ?_; first | refine zap rfl (zcf rfl rfl (by (repeat (first | exact mh | refine mt ?_)); done) rfl) ?_ | refine zap rfl (zbu rfl rfl) ?_) | (refine zau ?_; first | refine zap rfl (opj_indexC rfl rfl (by omega) (by omega)) ?_ | refine zap rfl (zbs rfl rfl (by omega) (by omega)) ?_) | refine zap rfl (zcd rfl) ?_ | refine zap rfl (zbz rfl rfl) ?_ | refine zav ?_
    repeat first | refine zah ?_ | (refine zcr ?_; refine zcs ?_)
    refine ws_K2 (Y := ((Nat × Nat) × Nat × Nat) × Nat × Nat) (E := fun ⟨⟨⟨a', b'⟩, ca', cb'⟩, _, _⟩ => [(53, .raw (.pointer (some ⟨g5, 0 + 1, none⟩))), (51, .raw (.slice (some ⟨b', 0, none⟩) (0 + 1) cb')), (46, .raw (.slice (some ⟨a', 0, none⟩) (0 + 1) ca')), (52, .raw (.pointer (some ⟨g5, 0 + 0, none⟩))), (49, .f .f32 (f' ((0 : Nat) : Int))), (48, .raw (.slice none 0 0)), (47, .raw (.pointer (some ⟨g5, 0 + 1, none⟩))), (44, cA (P' 0)), (43, .raw (.slice none 0 0)), (42, .raw (.pointer (some ⟨g5, 0 + 0, none⟩))), (7, cA (P' 0)), (8, .f .f32 (f' ((0 : Nat) : Int))), (1, .f .f32 t), (2, .raw (.pointer (some ⟨g2, 0, none⟩))), (4, .raw (.pointer (some ⟨g4, 0, none⟩))), (5, .raw (.pointer (some ⟨g5, 0, none⟩))), (11, .raw (.int .i64 ((n : Int) - 1))), (12, .raw (.int .i64 ((0 : Nat) : Int)))])
      (SS := fun ⟨⟨⟨a', b'⟩, ca', cb'⟩, u1, u2⟩ => St w0 [] [entF b' 29 (0 + 1) f' cb', entC a' (0 + 1) P' ca', ⟨u1, 31, [cA (P' 0)], 1⟩, ⟨u2, 29, [.f .f32 (f' ((0 : Nat) : Int))], 1⟩, ⟨g5, 27, [.raw (.slice (some ⟨a', 0, none⟩) (0 + 1) ca'), .raw (.slice (some ⟨b', 0, none⟩) (0 + 1) cb')], 2⟩, ⟨g4, 27, [.raw (.slice none 0 0), .raw (.slice none 0 0)], 2⟩, ⟨g2, 27, [slC w0 (tabC n P), AV.sl w0 1 ((tab n f).map (AV.f .f32))], 2⟩]) (ok := fun y => (0 + 1 ≤ y.1.2.1 ∧ y.1.2.1 ≤ maxLen) ∧ 0 + 1 ≤ y.1.2.2 ∧ y.1.2.2 ≤ maxLen) (fun hD0 => ?_) (fun y hy => ?_)
    · have hD := fun a' ca' b' cb' u1 u2 h1 h2 => hD0 (((a', b'), ca', cb'), u1, u2) ⟨h1, h2⟩
      refine ws_drawP (ix := [0, 1, 2, 5, 6, 7, 10]) (W := St w0 [] [⟨g5, 27, [.raw (.slice none 0 0), .raw (.slice none 0 0)], 2⟩]) mixed (by decide +kernel) (fun _ h => h.weak (.cons_cons _ (List.nil_sublist _))) ?_
      repeat first | refine zap rfl (zay rfl) ?_ | (refine zat ?_; refine zap rfl (zcf rfl rfl (by (repeat (first | exact mh | refine mt ?_)); done) rfl) ?_) | refine zap rfl (zcd rfl) ?_ | refine zav ?_
      refine ⟨rfl, ?_⟩
      refine gp_name fun o ho Q' hQ => ?_
      have hso : slotsOf o [0, 1, 2, 5, 6, 7, 10] = [42, 5, 43, 42, 44, 7, 47, 5, 48, 47, 49, 8, 52, 5] := by rw [ho]; decide +kernel
      have q3 := op_at (i := 3) ho rfl
      have q4 := op_at (i := 4) ho rfl
      have q8 := op_at (i := 8) ho rfl
      have q9 := op_at (i := 9) ho rfl
      have q11 := op_at (i := 11) ho rfl
      have q12 := op_at (i := 12) ho rfl
      have q13 := op_at (i := 13) ho rfl
      have sj : ∀ (u1 u2 a' ca' b' cb' : Nat), 0 + 1 ≤ ca' ∧ ca' ≤ maxLen → 0 + 1 ≤ cb' ∧ cb' ≤ maxLen → GP Try.prog 56 o [] (fun _ => True) [13, 12, 11, 0, 1, 2, 5, 6, 7, 10, 9, 8, 4, 3] [(53, .raw (.pointer (some ⟨g5, 0 + 1, none⟩))), (51, .raw (.slice (some ⟨b', 0, none⟩) (0 + 1) cb')), (46, .raw (.slice (some ⟨a', 0, none⟩) (0 + 1) ca')), (52, .raw (.pointer (some ⟨g5, 0 + 0, none⟩))), (49, .f .f32 (f' ((0 : Nat) : Int))), (48, .raw (.slice none 0 0)), (47, .raw (.pointer (some ⟨g5, 0 + 1, none⟩))), (44, cA (P' 0)), (43, .raw (.slice none 0 0)), (42, .raw (.pointer (some ⟨g5, 0 + 0, none⟩))), (7, cA (P' 0)), (8, .f .f32 (f' ((0 : Nat) : Int))), (1, .f .f32 t), (2, .raw (.pointer (some ⟨g2, 0, none⟩))), (4, .raw (.pointer (some ⟨g4, 0, none⟩))), (5, .raw (.pointer (some ⟨g5, 0, none⟩))), (11, .raw (.int .i64 ((n : Int) - 1))), (12, .raw (.int .i64 ((0 : Nat) : Int)))] (St w0 [] [entF b' 29 (0 + 1) f' cb', entC a' (0 + 1) P' ca', ⟨u1, 31, [cA (P' 0)], 1⟩, ⟨u2, 29, [.f .f32 (f' ((0 : Nat) : Int))], 1⟩, ⟨g5, 27, [.raw (.slice (some ⟨a', 0, none⟩) (0 + 1) ca'), .raw (.slice (some ⟨b', 0, none⟩) (0 + 1) cb')], 2⟩, ⟨g4, 27, [.raw (.slice none 0 0), .raw (.slice none 0 0)], 2⟩, ⟨g2, 27, [slC w0 (tabC n P), AV.sl w0 1 ((tab n f).map (AV.f .f32))], 2⟩]) Q' := fun u1 u2 a' ca' b' cb' h1 h2 => gp_end (by rw [ho]; decide +kernel) (by rw [hQ]; exact hD a' ca' b' cb' u1 u2 h1 h2)
      have si : ∀ (u1 u2 a' ca' b' cb' : Nat), 0 + 1 ≤ ca' ∧ ca' ≤ maxLen → 0 + 1 ≤ cb' ∧ cb' ≤ maxLen → GP Try.prog 56 o [] (fun _ => True) [12, 11, 0, 1, 2, 5, 6, 7, 10, 9, 8, 4, 3] [(53, .raw (.pointer (some ⟨g5, 0 + 1, none⟩))), (51, .raw (.slice (some ⟨b', 0, none⟩) (0 + 1) cb')), (46, .raw (.slice (some ⟨a', 0, none⟩) (0 + 1) ca')), (52, .raw (.pointer (some ⟨g5, 0 + 0, none⟩))), (49, .f .f32 (f' ((0 : Nat) : Int))), (48, .raw (.slice none 0 0)), (47, .raw (.pointer (some ⟨g5, 0 + 1, none⟩))), (44, cA (P' 0)), (43, .raw (.slice none 0 0)), (42, .raw (.pointer (some ⟨g5, 0 + 0, none⟩))), (7, cA (P' 0)), (8, .f .f32 (f' ((0 : Nat) : Int))), (1, .f .f32 t), (2, .raw (.pointer (some ⟨g2, 0, none⟩))), (4, .raw (.pointer (some ⟨g4, 0, none⟩))), (5, .raw (.pointer (some ⟨g5, 0, none⟩))), (11, .raw (.int .i64 ((n : Int) - 1))), (12, .raw (.int .i64 ((0 : Nat) : Int)))] (St w0 [] [entF b' 29 (0 + 1) f' cb', entC a' (0 + 1) P' ca', ⟨u1, 31, [cA (P' 0)], 1⟩, ⟨u2, 29, [.f .f32 (f' ((0 : Nat) : Int))], 1⟩, ⟨g5, 27, [.raw (.slice (some ⟨a', 0, none⟩) (0 + 1) ca'), .raw (.slice none 0 0)], 2⟩, ⟨g4, 27, [.raw (.slice none 0 0), .raw (.slice none 0 0)], 2⟩, ⟨g2, 27, [slC w0 (tabC n P), AV.sl w0 1 ((tab n f).map (AV.f .f32))], 2⟩]) Q' := fun u1 u2 a' ca' b' cb' h1 h2 => by
        refine gp_step [13] (by rw [ho]; decide +kernel) fun f hf => ?_
        obtain rfl : f = 13 := by simpa using hf
        refine sp_eff q13 (by rw [ho]; decide +kernel) (effj_storeX 4 rfl rfl rfl rfl rfl rfl) (cont_set rfl rfl ?_)
        exact sj u1 u2 a' ca' b' cb' h1 h2
      have sh : ∀ (u1 u2 a' ca' b' cb' : Nat), 0 + 1 ≤ ca' ∧ ca' ≤ maxLen → 0 + 1 ≤ cb' ∧ cb' ≤ maxLen → GP Try.prog 56 o [] (fun _ => True) [11, 0, 1, 2, 5, 6, 7, 10, 9, 8, 4, 3] [(51, .raw (.slice (some ⟨b', 0, none⟩) (0 + 1) cb')), (46, .raw (.slice (some ⟨a', 0, none⟩) (0 + 1) ca')), (52, .raw (.pointer (some ⟨g5, 0 + 0, none⟩))), (49, .f .f32 (f' ((0 : Nat) : Int))), (48, .raw (.slice none 0 0)), (47, .raw (.pointer (some ⟨g5, 0 + 1, none⟩))), (44, cA (P' 0)), (43, .raw (.slice none 0 0)), (42, .raw (.pointer (some ⟨g5, 0 + 0, none⟩))), (7, cA (P' 0)), (8, .f .f32 (f' ((0 : Nat) : Int))), (1, .f .f32 t), (2, .raw (.pointer (some ⟨g2, 0, none⟩))), (4, .raw (.pointer (some ⟨g4, 0, none⟩))), (5, .raw (.pointer (some ⟨g5, 0, none⟩))), (11, .raw (.int .i64 ((n : Int) - 1))), (12, .raw (.int .i64 ((0 : Nat) : Int)))] (St w0 [] [entF b' 29 (0 + 1) f' cb', entC a' (0 + 1) P' ca', ⟨u1, 31, [cA (P' 0)], 1⟩, ⟨u2, 29, [.f .f32 (f' ((0 : Nat) : Int))], 1⟩, ⟨g5, 27, [.raw (.slice (some ⟨a', 0, none⟩) (0 + 1) ca'), .raw (.slice none 0 0)], 2⟩, ⟨g4, 27, [.raw (.slice none 0 0), .raw (.slice none 0 0)], 2⟩, ⟨g2, 27, [slC w0 (tabC n P), AV.sl w0 1 ((tab n f).map (AV.f .f32))], 2⟩]) Q' := fun u1 u2 a' ca' b' cb' h1 h2 => by
        refine gp_step [12] (by rw [ho]; decide +kernel) fun f hf => ?_
        obtain rfl : f = 12 := by simpa using hf
        refine sp_op q12 (by rw [ho]; decide +kernel) rfl (zcd rfl) rfl (cont_set rfl rfl ?_)
        exact si u1 u2 a' ca' b' cb' h1 h2
      have sg : ∀ (u1 u2 a' ca' b' cb' : Nat), 0 + 1 ≤ ca' ∧ ca' ≤ maxLen → 0 + 1 ≤ cb' ∧ cb' ≤ maxLen → GP Try.prog 56 o [0, 1, 2, 5, 6, 7, 10] (St w0 [] [⟨g5, 27, [.raw (.slice none 0 0), .raw (.slice none 0 0)], 2⟩]) [9, 8, 4, 3] [(51, .raw (.slice (some ⟨b', 0, none⟩) (0 + 1) cb')), (46, .raw (.slice (some ⟨a', 0, none⟩) (0 + 1) ca')), (52, .raw (.pointer (some ⟨g5, 0 + 0, none⟩))), (49, .f .f32 (f' ((0 : Nat) : Int))), (48, .raw (.slice none 0 0)), (47, .raw (.pointer (some ⟨g5, 0 + 1, none⟩))), (44, cA (P' 0)), (43, .raw (.slice none 0 0)), (42, .raw (.pointer (some ⟨g5, 0 + 0, none⟩))), (7, cA (P' 0)), (8, .f .f32 (f' ((0 : Nat) : Int))), (1, .f .f32 t), (2, .raw (.pointer (some ⟨g2, 0, none⟩))), (4, .raw (.pointer (some ⟨g4, 0, none⟩))), (5, .raw (.pointer (some ⟨g5, 0, none⟩))), (11, .raw (.int .i64 ((n : Int) - 1))), (12, .raw (.int .i64 ((0 : Nat) : Int)))] (St w0 [] [entF b' 29 (0 + 1) f' cb', entC a' (0 + 1) P' ca', ⟨u1, 31, [cA (P' 0)], 1⟩, ⟨u2, 29, [.f .f32 (f' ((0 : Nat) : Int))], 1⟩, ⟨g5, 27, [.raw (.slice none 0 0), .raw (.slice none 0 0)], 2⟩, ⟨g4, 27, [.raw (.slice none 0 0), .raw (.slice none 0 0)], 2⟩, ⟨g2, 27, [slC w0 (tabC n P), AV.sl w0 1 ((tab n f).map (AV.f .f32))], 2⟩]) Q' := fun u1 u2 a' ca' b' cb' h1 h2 => by
        refine gp_step [11] (by rw [ho]; decide +kernel) fun f hf => ?_
        obtain rfl : f = 11 := by simpa using hf
        refine sp_eff q11 (by rw [ho]; decide +kernel) (effj_storeX 4 rfl rfl rfl rfl rfl rfl) (cont_set (by rw [ho]; decide +kernel) rfl ?_)
        exact sh u1 u2 a' ca' b' cb' h1 h2
      have sf : ∀ (u1 u2 a' ca' : Nat), 0 + 1 ≤ ca' ∧ ca' ≤ maxLen → GP Try.prog 56 o [0, 1, 2, 5, 6, 7, 10] (St w0 [] [⟨g5, 27, [.raw (.slice none 0 0), .raw (.slice none 0 0)], 2⟩]) [8, 4, 3] [(50, .raw (.slice (some ⟨u2, 0, none⟩) (1) 1)), (46, .raw (.slice (some ⟨a', 0, none⟩) (0 + 1) ca')), (45, .raw (.slice (some ⟨u1, 0, none⟩) (1) 1)), (52, .raw (.pointer (some ⟨g5, 0 + 0, none⟩))), (49, .f .f32 (f' ((0 : Nat) : Int))), (48, .raw (.slice none 0 0)), (47, .raw (.pointer (some ⟨g5, 0 + 1, none⟩))), (44, cA (P' 0)), (43, .raw (.slice none 0 0)), (42, .raw (.pointer (some ⟨g5, 0 + 0, none⟩))), (7, cA (P' 0)), (8, .f .f32 (f' ((0 : Nat) : Int))), (1, .f .f32 t), (2, .raw (.pointer (some ⟨g2, 0, none⟩))), (4, .raw (.pointer (some ⟨g4, 0, none⟩))), (5, .raw (.pointer (some ⟨g5, 0, none⟩))), (11, .raw (.int .i64 ((n : Int) - 1))), (12, .raw (.int .i64 ((0 : Nat) : Int)))] (St w0 [] [entC a' (0 + 1) P' ca', ⟨u1, 31, [cA (P' 0)], 1⟩, ⟨u2, 29, [.f .f32 (f' ((0 : Nat) : Int))], 1⟩, ⟨g5, 27, [.raw (.slice none 0 0), .raw (.slice none 0 0)], 2⟩, ⟨g4, 27, [.raw (.slice none 0 0), .raw (.slice none 0 0)], 2⟩, ⟨g2, 27, [slC w0 (tabC n P), AV.sl w0 1 ((tab n f).map (AV.f .f32))], 2⟩]) Q' := fun u1 u2 a' ca' h1 => by
        refine gp_step [9] (by rw [ho]; decide +kernel) fun f hf => ?_
        obtain rfl : f = 9 := by simpa using hf
        refine sp_appendNil (sz := 1) (m := 1) (ys := [.f .f32 (f' ((0 : Nat) : Int))]) q9 (by rw [ho]; decide +kernel) rfl (by omega) rfl ⟨_, rfl, fun w v hS hr => rd_ownM hS hr (mt (mt (mh))) rfl ⟨Nat.le_refl _, by simp only [maxLen]; decide⟩⟩ rfl (by omega) rfl (by simp only [maxLen]; decide) (by decide) rfl fun gn cn k1 k2 => ?_
        rw [entF_one0]
        exact cont_go (fun _ h => h.weak (.cons _ (.cons _ (.cons _ (.cons _ (.cons_cons _ (List.nil_sublist _))))))) (gp_to (sg u1 u2 a' ca' gn cn h1 ⟨k1, k2⟩) rfl (by (repeat (first | exact Env.sub_nil _ | refine Env.sub_cons rfl ?_))) (by rw [hso]; exact ⟨rfl, rfl, rfl, rfl, rfl, rfl, rfl, rfl, rfl, rfl, rfl, rfl, rfl, rfl, trivial⟩) rfl (fun _ h => h) (fun _ h => h.weak (.cons _ (.cons _ (.cons _ (.cons _ (.cons_cons _ (List.nil_sublist _))))))))
      have se : ∀ (u1 a' ca' : Nat), 0 + 1 ≤ ca' ∧ ca' ≤ maxLen → GP Try.prog 56 o [0, 1, 2, 5, 6, 7, 10] (St w0 [] [⟨g5, 27, [.raw (.slice none 0 0), .raw (.slice none 0 0)], 2⟩]) [4, 3] [(46, .raw (.slice (some ⟨a', 0, none⟩) (0 + 1) ca')), (45, .raw (.slice (some ⟨u1, 0, none⟩) (1) 1)), (52, .raw (.pointer (some ⟨g5, 0 + 0, none⟩))), (49, .f .f32 (f' ((0 : Nat) : Int))), (48, .raw (.slice none 0 0)), (47, .raw (.pointer (some ⟨g5, 0 + 1, none⟩))), (44, cA (P' 0)), (43, .raw (.slice none 0 0)), (42, .raw (.pointer (some ⟨g5, 0 + 0, none⟩))), (7, cA (P' 0)), (8, .f .f32 (f' ((0 : Nat) : Int))), (1, .f .f32 t), (2, .raw (.pointer (some ⟨g2, 0, none⟩))), (4, .raw (.pointer (some ⟨g4, 0, none⟩))), (5, .raw (.pointer (some ⟨g5, 0, none⟩))), (11, .raw (.int .i64 ((n : Int) - 1))), (12, .raw (.int .i64 ((0 : Nat) : Int)))] (St w0 [] [entC a' (0 + 1) P' ca', ⟨u1, 31, [cA (P' 0)], 1⟩, ⟨g5, 27, [.raw (.slice none 0 0), .raw (.slice none 0 0)], 2⟩, ⟨g4, 27, [.raw (.slice none 0 0), .raw (.slice none 0 0)], 2⟩, ⟨g2, 27, [slC w0 (tabC n P), AV.sl w0 1 ((tab n f).map (AV.f .f32))], 2⟩]) Q' := fun u1 a' ca' h1 => by
        refine gp_step [8] (by rw [ho]; decide +kernel) fun f hf => ?_
        obtain rfl : f = 8 := by simpa using hf
        refine sp_lit q8 (by rw [ho]; decide +kernel) rfl rfl rfl rfl rfl rfl fun u2 => ?_
        exact cont_go (fun _ h => h.weak (.cons _ (.cons _ (.cons _ (.cons_cons _ (List.nil_sublist _)))))) (gp_to (sf u1 u2 a' ca' h1) rfl (by (repeat (first | exact Env.sub_nil _ | refine Env.sub_cons rfl ?_))) (by rw [hso]; exact ⟨rfl, rfl, rfl, rfl, rfl, rfl, rfl, rfl, rfl, rfl, rfl, rfl, rfl, rfl, trivial⟩) rfl (fun _ h => h.rot3.rot3) (fun _ h => h.weak (.cons _ (.cons _ (.cons _ (.cons_cons _ (List.nil_sublist _)))))))
      have sd : ∀ (u1 u2 : Nat), GP Try.prog 56 o [0, 1, 2, 5, 6, 7, 10] (St w0 [] [⟨g5, 27, [.raw (.slice none 0 0), .raw (.slice none 0 0)], 2⟩]) [8, 3] [(50, .raw (.slice (some ⟨u2, 0, none⟩) (1) 1)), (45, .raw (.slice (some ⟨u1, 0, none⟩) (1) 1)), (52, .raw (.pointer (some ⟨g5, 0 + 0, none⟩))), (49, .f .f32 (f' ((0 : Nat) : Int))), (48, .raw (.slice none 0 0)), (47, .raw (.pointer (some ⟨g5, 0 + 1, none⟩))), (44, cA (P' 0)), (43, .raw (.slice none 0 0)), (42, .raw (.pointer (some ⟨g5, 0 + 0, none⟩))), (7, cA (P' 0)), (8, .f .f32 (f' ((0 : Nat) : Int))), (1, .f .f32 t), (2, .raw (.pointer (some ⟨g2, 0, none⟩))), (4, .raw (.pointer (some ⟨g4, 0, none⟩))), (5, .raw (.pointer (some ⟨g5, 0, none⟩))), (11, .raw (.int .i64 ((n : Int) - 1))), (12, .raw (.int .i64 ((0 : Nat) : Int)))] (St w0 [] [⟨u1, 31, [cA (P' 0)], 1⟩, ⟨u2, 29, [.f .f32 (f' ((0 : Nat) : Int))], 1⟩, ⟨g5, 27, [.raw (.slice none 0 0), .raw (.slice none 0 0)], 2⟩, ⟨g4, 27, [.raw (.slice none 0 0), .raw (.slice none 0 0)], 2⟩, ⟨g2, 27, [slC w0 (tabC n P), AV.sl w0 1 ((tab n f).map (AV.f .f32))], 2⟩]) Q' := fun u1 u2 => by
        refine gp_step [4] (by rw [ho]; decide +kernel) fun f hf => ?_
        obtain rfl : f = 4 := by simpa using hf
        refine sp_appendNil (sz := 1) (m := 1) (ys := [cA (P' 0)]) q4 (by rw [ho]; decide +kernel) rfl (by omega) rfl ⟨_, rfl, fun w v hS hr => rd_ownM hS hr (mh) rfl ⟨Nat.le_refl _, by simp only [maxLen]; decide⟩⟩ rfl (by omega) rfl (by simp only [maxLen]; decide) (by decide) rfl fun gn cn k1 k2 => ?_
        rw [entC_one]
        exact cont_go (fun _ h => h.weak (.cons _ (.cons _ (.cons _ (.cons_cons _ (List.nil_sublist _)))))) (gp_to (sf u1 u2 gn cn ⟨k1, k2⟩) rfl (by (repeat (first | exact Env.sub_nil _ | refine Env.sub_cons rfl ?_))) (by rw [hso]; exact ⟨rfl, rfl, rfl, rfl, rfl, rfl, rfl, rfl, rfl, rfl, rfl, rfl, rfl, rfl, trivial⟩) rfl (fun _ h => h) (fun _ h => h.weak (.cons _ (.cons _ (.cons _ (.cons_cons _ (List.nil_sublist _)))))))
      have sc : ∀ (u2 : Nat), GP Try.prog 56 o [0, 1, 2, 5, 6, 7, 10] (St w0 [] [⟨g5, 27, [.raw (.slice none 0 0), .raw (.slice none 0 0)], 2⟩]) [8] [(50, .raw (.slice (some ⟨u2, 0, none⟩) (1) 1)), (52, .raw (.pointer (some ⟨g5, 0 + 0, none⟩))), (49, .f .f32 (f' ((0 : Nat) : Int))), (48, .raw (.slice none 0 0)), (47, .raw (.pointer (some ⟨g5, 0 + 1, none⟩))), (44, cA (P' 0)), (43, .raw (.slice none 0 0)), (42, .raw (.pointer (some ⟨g5, 0 + 0, none⟩))), (7, cA (P' 0)), (8, .f .f32 (f' ((0 : Nat) : Int))), (1, .f .f32 t), (2, .raw (.pointer (some ⟨g2, 0, none⟩))), (4, .raw (.pointer (some ⟨g4, 0, none⟩))), (5, .raw (.pointer (some ⟨g5, 0, none⟩))), (11, .raw (.int .i64 ((n : Int) - 1))), (12, .raw (.int .i64 ((0 : Nat) : Int)))] (St w0 [] [⟨u2, 29, [.f .f32 (f' ((0 : Nat) : Int))], 1⟩, ⟨g5, 27, [.raw (.slice none 0 0), .raw (.slice none 0 0)], 2⟩, ⟨g4, 27, [.raw (.slice none 0 0), .raw (.slice none 0 0)], 2⟩, ⟨g2, 27, [slC w0 (tabC n P), AV.sl w0 1 ((tab n f).map (AV.f .f32))], 2⟩]) Q' := fun u2 => by
        refine gp_step [3] (by rw [ho]; decide +kernel) fun f hf => ?_
        obtain rfl : f = 3 := by simpa using hf
        refine sp_lit q3 (by rw [ho]; decide +kernel) rfl rfl rfl rfl rfl rfl fun u1 => ?_
        exact cont_go (fun _ h => h.weak (.cons _ (.cons _ (.cons_cons _ (List.nil_sublist _))))) (gp_to (sd u1 u2) rfl (by (repeat (first | exact Env.sub_nil _ | refine Env.sub_cons rfl ?_))) (by rw [hso]; exact ⟨rfl, rfl, rfl, rfl, rfl, rfl, rfl, rfl, rfl, rfl, rfl, rfl, rfl, rfl, trivial⟩) rfl (fun _ h => h) (fun _ h => h.weak (.cons _ (.cons _ (.cons_cons _ (List.nil_sublist _))))))
      have sb : ∀ (u1 : Nat), GP Try.prog 56 o [0, 1, 2, 5, 6, 7, 10] (St w0 [] [⟨g5, 27, [.raw (.slice none 0 0), .raw (.slice none 0 0)], 2⟩]) [3] [(45, .raw (.slice (some ⟨u1, 0, none⟩) (1) 1)), (52, .raw (.pointer (some ⟨g5, 0 + 0, none⟩))), (49, .f .f32 (f' ((0 : Nat) : Int))), (48, .raw (.slice none 0 0)), (47, .raw (.pointer (some ⟨g5, 0 + 1, none⟩))), (44, cA (P' 0)), (43, .raw (.slice none 0 0)), (42, .raw (.pointer (some ⟨g5, 0 + 0, none⟩))), (7, cA (P' 0)), (8, .f .f32 (f' ((0 : Nat) : Int))), (1, .f .f32 t), (2, .raw (.pointer (some ⟨g2, 0, none⟩))), (4, .raw (.pointer (some ⟨g4, 0, none⟩))), (5, .raw (.pointer (some ⟨g5, 0, none⟩))), (11, .raw (.int .i64 ((n : Int) - 1))), (12, .raw (.int .i64 ((0 : Nat) : Int)))] (St w0 [] [⟨u1, 31, [cA (P' 0)], 1⟩, ⟨g5, 27, [.raw (.slice none 0 0), .raw (.slice none 0 0)], 2⟩, ⟨g4, 27, [.raw (.slice none 0 0), .raw (.slice none 0 0)], 2⟩, ⟨g2, 27, [slC w0 (tabC n P), AV.sl w0 1 ((tab n f).map (AV.f .f32))], 2⟩]) Q' := fun u1 => by
        refine gp_step [4, 8] (by rw [ho]; decide +kernel) fun f hf => ?_
        have hf : f = 4 ∨ f = 8 := by simpa using hf
        rcases hf with rfl | rfl
        · refine sp_appendNil (sz := 1) (m := 1) (ys := [cA (P' 0)]) q4 (by rw [ho]; decide +kernel) rfl (by omega) rfl ⟨_, rfl, fun w v hS hr => rd_ownM hS hr (mh) rfl ⟨Nat.le_refl _, by simp only [maxLen]; decide⟩⟩ rfl (by omega) rfl (by simp only [maxLen]; decide) (by decide) rfl fun gn cn k1 k2 => ?_
          rw [entC_one]
          exact cont_go (fun _ h => h.weak (.cons _ (.cons _ (.cons_cons _ (List.nil_sublist _))))) (gp_to (se u1 gn cn ⟨k1, k2⟩) rfl (by (repeat (first | exact Env.sub_nil _ | refine Env.sub_cons rfl ?_))) (by rw [hso]; exact ⟨rfl, rfl, rfl, rfl, rfl, rfl, rfl, rfl, rfl, rfl, rfl, rfl, rfl, rfl, trivial⟩) rfl (fun _ h => h) (fun _ h => h.weak (.cons _ (.cons _ (.cons_cons _ (List.nil_sublist _))))))
        · refine sp_lit q8 (by rw [ho]; decide +kernel) rfl rfl rfl rfl rfl rfl fun u2 => ?_
          exact cont_go (fun _ h => h.weak (.cons _ (.cons _ (.cons_cons _ (List.nil_sublist _))))) (gp_to (sd u1 u2) rfl (by (repeat (first | exact Env.sub_nil _ | refine Env.sub_cons rfl ?_))) (by rw [hso]; exact ⟨rfl, rfl, rfl, rfl, rfl, rfl, rfl, rfl, rfl, rfl, rfl, rfl, rfl, rfl, trivial⟩) rfl (fun _ h => h.swap) (fun _ h => h.weak (.cons _ (.cons _ (.cons_cons _ (List.nil_sublist _))))))
      have sa : GP Try.prog 56 o [0, 1, 2, 5, 6, 7, 10] (St w0 [] [⟨g5, 27, [.raw (.slice none 0 0), .raw (.slice none 0 0)], 2⟩]) [] [(52, .raw (.pointer (some ⟨g5, 0 + 0, none⟩))), (49, .f .f32 (f' ((0 : Nat) : Int))), (48, .raw (.slice none 0 0)), (47, .raw (.pointer (some ⟨g5, 0 + 1, none⟩))), (44, cA (P' 0)), (43, .raw (.slice none 0 0)), (42, .raw (.pointer (some ⟨g5, 0 + 0, none⟩))), (7, cA (P' 0)), (8, .f .f32 (f' ((0 : Nat) : Int))), (1, .f .f32 t), (2, .raw (.pointer (some ⟨g2, 0, none⟩))), (4, .raw (.pointer (some ⟨g4, 0, none⟩))), (5, .raw (.pointer (some ⟨g5, 0, none⟩))), (11, .raw (.int .i64 ((n : Int) - 1))), (12, .raw (.int .i64 ((0 : Nat) : Int)))] (St w0 [] [⟨g5, 27, [.raw (.slice none 0 0), .raw (.slice none 0 0)], 2⟩, ⟨g4, 27, [.raw (.slice none 0 0), .raw (.slice none 0 0)], 2⟩, ⟨g2, 27, [slC w0 (tabC n P), AV.sl w0 1 ((tab n f).map (AV.f .f32))], 2⟩]) Q' := by
        refine gp_step [3, 8] (by rw [ho]; decide +kernel) fun f hf => ?_
        have hf : f = 3 ∨ f = 8 := by simpa using hf
        rcases hf with rfl | rfl
        · refine sp_lit q3 (by rw [ho]; decide +kernel) rfl rfl rfl rfl rfl rfl fun u1 => ?_
          exact cont_go (fun _ h => h.weak (.cons _ (.cons_cons _ (List.nil_sublist _)))) (gp_to (sb u1) rfl (by (repeat (first | exact Env.sub_nil _ | refine Env.sub_cons rfl ?_))) (by rw [hso]; exact ⟨rfl, rfl, rfl, rfl, rfl, rfl, rfl, rfl, rfl, rfl, rfl, rfl, rfl, rfl, trivial⟩) rfl (fun _ h => h) (fun _ h => h.weak (.cons _ (.cons_cons _ (List.nil_sublist _)))))
        · refine sp_lit q8 (by rw [ho]; decide +kernel) rfl rfl rfl rfl rfl rfl fun u2 => ?_
          exact cont_go (fun _ h => h.weak (.cons _ (.cons_cons _ (List.nil_sublist _)))) (gp_to (sc u2) rfl (by (repeat (first | exact Env.sub_nil _ | refine Env.sub_cons rfl ?_))) (by rw [hso]; exact ⟨rfl, rfl, rfl, rfl, rfl, rfl, rfl, rfl, rfl, rfl, rfl, rfl, rfl, rfl, trivial⟩) rfl (fun _ h => h) (fun _ h => h.weak (.cons _ (.cons_cons _ (List.nil_sublist _)))))
      exact gp_to sa rfl (by (repeat (first | exact Env.sub_nil _ | refine Env.sub_cons rfl ?_))) (by rw [hso]; exact ⟨rfl, rfl, rfl, rfl, rfl, rfl, rfl, rfl, rfl, rfl, rfl, rfl, rfl, rfl, trivial⟩) rfl (fun _ h => h) (fun _ h => h.weak (.cons_cons _ (List.nil_sublist _)))
    obtain ⟨⟨⟨a', b'⟩, ca', cb'⟩, u1, u2⟩ := y
    obtain ⟨h1, h2⟩ := hy
    dsimp only at h1 h2 ⊢
    repeat first | refine zaa rfl (zay rfl) ?_ | (refine zac ?_; refine zaa rfl (zbb rfl rfl (by omega)) ?_) | refine zah ?_ | (refine zcr ?_; first | refine zcs ?_ | refine zcv ?_) | (refine zdb ?_; refine zdd ?_)
    refine done_round (0 + 1, (a', b'), ca', cb') ⟨by simp only; omega, h1, h2⟩ (by simp only; omega) ?_ (fun w h => ?_)
    · simp only
      (repeat (first | exact Env.sub_nil _ | refine Env.sub_cons rfl ?_))
    · exact ((h.weak (.cons_cons _ (.cons_cons _ (.cons _ (.cons _ (List.Sublist.refl _)))))).swap).perm (List.perm_append_comm (l₁ := [_, _, _]) (l₂ := [_, _]))
  | succ j =>
    unfold nextWd
    dsimp only
    repeat first | (refine zac ?_; refine zaa rfl (zbe rfl rfl) ?_) | refine zah ?_ | (refine zcr ?_; refine zcs ?_) | (refine zdb ?_; first | refine zdc ?_ | refine zdd ?_)
    refine ws_cond rfl (fun hd => ?_) (fun hd => ?_)
    case' refine_2 =>
      have hjn : n - 1 = j + 1 := by have := of_decide_eq_false hd; omega
      rw [hjn]
      repeat first | (refine zae ?_; refine zaa rfl (zcg rfl rfl (by (repeat (first | exact mh | refine mt ?_)); done) rfl rfl) ?_) | refine zah ?_ | (refine zcr ?_; first | refine zcs ?_ | refine zcu ?_ | refine zcx ?_ | refine zda ?_) | (refine zdb ?_; first | refine zdc ?_ | refine zdd ?_ | refine zdg ?_ | refine zdh ?_) | (refine zag ?_; refine zan 1 rfl rfl rfl rfl rfl rfl rfl rfl rfl ?_)
      exact done_retX rfl rfl ((a, b), ca, cb) rfl (mt mh) rfl rfl rfl ⟨hc1, hc2⟩ (.cons _ (.cons _ (.cons _ (List.Sublist.refl _))))
    have hlt : ((j + 1 : Nat) : Int) < (n : Int) - 1 := of_decide_eq_true hd
    clear hd
    repeat first | refine zaa rfl (zay rfl) ?_ | refine zaa rfl (zaz rfl) ?_ | refine zah ?_ | (refine zcr ?_; refine zcs ?_) | (refine zdb ?_; first | refine zdc ?_ | refine zdd ?_ | refine zde ?_ | refine zdf ?_)
    refine ws_draw (n := 29) mixed (by decide +kernel) ?_
    repeat first | refine zap rfl (zay rfl) ?_ | refine zap rfl (zaz rfl) ?_ | (refine zar ?_; refine zap rfl (zbb rfl rfl (by omega)) ?_) | (refine zas ?_; (refine zap rfl (zci rfl rfl (hBi) ?_) ?_; (focus ((repeat (first | exact Takes.nil | refine Takes.sl ?_ | refine Takes.lit ?_ | refine Takes.fa ?_ | refine Takes.fc ?_ | refine Takes.net ?_ | (refine Takes.ownE ?_ ?_ ?_ ?_ ?_; (focus (exact ⟨_, _, (by (repeat (first | exact mh | refine mt ?_)); done)⟩)); (focus (simp; done)); (focus omega); (focus (simp only [maxLen]; omega))) | refine Takes.same ?_)); done)))) | (refine zat ?_; first | refine zap rfl (zcf rfl rfl (by (repeat (first | exact mh | refine mt ?_)); done) rfl) ?_ | refine zap rfl (zbu rfl rfl) ?_) | (refine zau ?_; first | refine zap rfl (opj_indexC rfl rfl (by omega) (by omega)) ?_ | refine zap rfl (zbs rfl rfl (by omega) (by omega)) ?_) | refine zap rfl (zcd rfl) ?_ | refine zap rfl (zbz rfl rfl) ?_ | refine zav ?_
    repeat first | refine zah ?_ | (refine zcr ?_; refine zcs ?_)
    refine ws_K2 (Y := ((Nat × Nat) × Nat × Nat) × Nat × Nat) (E := fun ⟨⟨⟨a', b'⟩, ca', cb'⟩, _, _⟩ => [(53, .raw (.pointer (some ⟨g5, 0 + 1, none⟩))), (51, .raw (.slice (some ⟨b', 0, none⟩) (j + 1 + 1) cb')), (46, .raw (.slice (some ⟨a', 0, none⟩) (j + 1 + 1) ca')), (52, .raw (.pointer (some ⟨g5, 0 + 0, none⟩))), (49, .f .f32 (f' ((j + 1 : Nat) : Int))), (48, .raw (.slice (some ⟨b, 0, none⟩) (j + 1) cb)), (47, .raw (.pointer (some ⟨g5, 0 + 1, none⟩))), (44, cA (P' (j + 1))), (43, .raw (.slice (some ⟨a, 0, none⟩) (j + 1) ca)), (42, .raw (.pointer (some ⟨g5, 0 + 0, none⟩))), (7, cA (P' (j + 1))), (8, .f .f32 (f' ((j + 1 : Nat) : Int))), (1, .f .f32 t), (2, .raw (.pointer (some ⟨g2, 0, none⟩))), (4, .raw (.pointer (some ⟨g4, 0, none⟩))), (5, .raw (.pointer (some ⟨g5, 0, none⟩))), (11, .raw (.int .i64 ((n : Int) - 1))), (12, .raw (.int .i64 ((j + 1 : Nat) : Int)))])
      (SS := fun ⟨⟨⟨a', b'⟩, ca', cb'⟩, u1, u2⟩ => St w0 [] [⟨u1, 31, [cA (P' (j + 1))], 1⟩, ⟨u2, 29, [.f .f32 (f' ((j + 1 : Nat) : Int))], 1⟩, ⟨g5, 27, [.raw (.slice (some ⟨a', 0, none⟩) (j + 1 + 1) ca'), .raw (.slice (some ⟨b', 0, none⟩) (j + 1 + 1) cb')], 2⟩, ⟨g4, 27, [.raw (.slice none 0 0), .raw (.slice none 0 0)], 2⟩, ⟨g2, 27, [slC w0 (tabC n P), AV.sl w0 1 ((tab n f).map (AV.f .f32))], 2⟩, entC a' (j + 1 + 1) P' ca', entF b' 29 (j + 1 + 1) f' cb']) (ok := fun y => (j + 1 + 1 ≤ y.1.2.1 ∧ y.1.2.1 ≤ maxLen) ∧ j + 1 + 1 ≤ y.1.2.2 ∧ y.1.2.2 ≤ maxLen) (fun hD0 => ?_) (fun y hy => ?_)
    · have hD := fun a' ca' b' cb' u1 u2 h1 h2 => hD0 (((a', b'), ca', cb'), u1, u2) ⟨h1, h2⟩
      refine ws_drawP (ix := [0, 1, 2, 5, 6, 7, 10]) (W := St w0 [] [⟨g5, 27, [.raw (.slice (some ⟨a, 0, none⟩) (j + 1) ca), .raw (.slice (some ⟨b, 0, none⟩) (j + 1) cb)], 2⟩]) mixed (by decide +kernel) (fun _ h => h.weak (.cons_cons _ (List.nil_sublist _))) ?_
      repeat first | refine zap rfl (zay rfl) ?_ | (refine zat ?_; refine zap rfl (zcf rfl rfl (by (repeat (first | exact mh | refine mt ?_)); done) rfl) ?_) | refine zap rfl (zcd rfl) ?_ | refine zav ?_
      refine ⟨rfl, ?_⟩
      refine gp_name fun o ho Q' hQ => ?_
      have hso : slotsOf o [0, 1, 2, 5, 6, 7, 10] = [42, 5, 43, 42, 44, 7, 47, 5, 48, 47, 49, 8, 52, 5] := by rw [ho]; decide +kernel
      have q3 := op_at (i := 3) ho rfl
      have q4 := op_at (i := 4) ho rfl
      have q8 := op_at (i := 8) ho rfl
      have q9 := op_at (i := 9) ho rfl
      have q11 := op_at (i := 11) ho rfl
      have q12 := op_at (i := 12) ho rfl
      have q13 := op_at (i := 13) ho rfl
      have sj : ∀ (u1 u2 a' ca' b' cb' : Nat), j + 1 + 1 ≤ ca' ∧ ca' ≤ maxLen → j + 1 + 1 ≤ cb' ∧ cb' ≤ maxLen → GP Try.prog 56 o [] (fun _ => True) [13, 12, 11, 0, 1, 2, 5, 6, 7, 10, 9, 8, 4, 3] [(53, .raw (.pointer (some ⟨g5, 0 + 1, none⟩))), (51, .raw (.slice (some ⟨b', 0, none⟩) (j + 1 + 1) cb')), (46, .raw (.slice (some ⟨a', 0, none⟩) (j + 1 + 1) ca')), (52, .raw (.pointer (some ⟨g5, 0 + 0, none⟩))), (49, .f .f32 (f' ((j + 1 : Nat) : Int))), (48, .raw (.slice (some ⟨b, 0, none⟩) (j + 1) cb)), (47, .raw (.pointer (some ⟨g5, 0 + 1, none⟩))), (44, cA (P' (j + 1))), (43, .raw (.slice (some ⟨a, 0, none⟩) (j + 1) ca)), (42, .raw (.pointer (some ⟨g5, 0 + 0, none⟩))), (7, cA (P' (j + 1))), (8, .f .f32 (f' ((j + 1 : Nat) : Int))), (1, .f .f32 t), (2, .raw (.pointer (some ⟨g2, 0, none⟩))), (4, .raw (.pointer (some ⟨g4, 0, none⟩))), (5, .raw (.pointer (some ⟨g5, 0, none⟩))), (11, .raw (.int .i64 ((n : Int) - 1))), (12, .raw (.int .i64 ((j + 1 : Nat) : Int)))] (St w0 [] [⟨u1, 31, [cA (P' (j + 1))], 1⟩, ⟨u2, 29, [.f .f32 (f' ((j + 1 : Nat) : Int))], 1⟩, ⟨g5, 27, [.raw (.slice (some ⟨a', 0, none⟩) (j + 1 + 1) ca'), .raw (.slice (some ⟨b', 0, none⟩) (j + 1 + 1) cb')], 2⟩, ⟨g4, 27, [.raw (.slice none 0 0), .raw (.slice none 0 0)], 2⟩, ⟨g2, 27, [slC w0 (tabC n P), AV.sl w0 1 ((tab n f).map (AV.f .f32))], 2⟩, entC a' (j + 1 + 1) P' ca', entF b' 29 (j + 1 + 1) f' cb']) Q' := fun u1 u2 a' ca' b' cb' h1 h2 => gp_end (by rw [ho]; decide +kernel) (by rw [hQ]; exact hD a' ca' b' cb' u1 u2 h1 h2)
      have si : ∀ (u1 u2 a' ca' b' cb' : Nat), j + 1 + 1 ≤ ca' ∧ ca' ≤ maxLen → j + 1 + 1 ≤ cb' ∧ cb' ≤ maxLen → GP Try.prog 56 o [] (fun _ => True) [12, 11, 0, 1, 2, 5, 6, 7, 10, 9, 8, 4, 3] [(53, .raw (.pointer (some ⟨g5, 0 + 1, none⟩))), (51, .raw (.slice (some ⟨b', 0, none⟩) (j + 1 + 1) cb')), (46, .raw (.slice (some ⟨a', 0, none⟩) (j + 1 + 1) ca')), (52, .raw (.pointer (some ⟨g5, 0 + 0, none⟩))), (49, .f .f32 (f' ((j + 1 : Nat) : Int))), (48, .raw (.slice (some ⟨b, 0, none⟩) (j + 1) cb)), (47, .raw (.pointer (some ⟨g5, 0 + 1, none⟩))), (44, cA (P' (j + 1))), (43, .raw (.slice (some ⟨a, 0, none⟩) (j + 1) ca)), (42, .raw (.pointer (some ⟨g5, 0 + 0, none⟩))), (7, cA (P' (j + 1))), (8, .f .f32 (f' ((j + 1 : Nat) : Int))), (1, .f .f32 t), (2, .raw (.pointer (some ⟨g2, 0, none⟩))), (4, .raw (.pointer (some ⟨g4, 0, none⟩))), (5, .raw (.pointer (some ⟨g5, 0, none⟩))), (11, .raw (.int .i64 ((n : Int) - 1))), (12, .raw (.int .i64 ((j + 1 : Nat) : Int)))] (St w0 [] [⟨u1, 31, [cA (P' (j + 1))], 1⟩, ⟨u2, 29, [.f .f32 (f' ((j + 1 : Nat) : Int))], 1⟩, ⟨g5, 27, [.raw (.slice (some ⟨a', 0, none⟩) (j + 1 + 1) ca'), .raw (.slice (some ⟨b, 0, none⟩) (j + 1) cb)], 2⟩, ⟨g4, 27, [.raw (.slice none 0 0), .raw (.slice none 0 0)], 2⟩, ⟨g2, 27, [slC w0 (tabC n P), AV.sl w0 1 ((tab n f).map (AV.f .f32))], 2⟩, entC a' (j + 1 + 1) P' ca', entF b' 29 (j + 1 + 1) f' cb']) Q' := fun u1 u2 a' ca' b' cb' h1 h2 => by
        refine gp_step [13] (by rw [ho]; decide +kernel) fun f hf => ?_
        obtain rfl : f = 13 := by simpa using hf
        refine sp_eff q13 (by rw [ho]; decide +kernel) (effj_storeX 2 rfl rfl rfl rfl rfl rfl) (cont_set rfl rfl ?_)
        exact sj u1 u2 a' ca' b' cb' h1 h2
      have sh : ∀ (u1 u2 a' ca' b' cb' : Nat), j + 1 + 1 ≤ ca' ∧ ca' ≤ maxLen → j + 1 + 1 ≤ cb' ∧ cb' ≤ maxLen → GP Try.prog 56 o [] (fun _ => True) [11, 0, 1, 2, 5, 6, 7, 10, 9, 8, 4, 3] [(51, .raw (.slice (some ⟨b', 0, none⟩) (j + 1 + 1) cb')), (46, .raw (.slice (some ⟨a', 0, none⟩) (j + 1 + 1) ca')), (52, .raw (.pointer (some ⟨g5, 0 + 0, none⟩))), (49, .f .f32 (f' ((j + 1 : Nat) : Int))), (48, .raw (.slice (some ⟨b, 0, none⟩) (j + 1) cb)), (47, .raw (.pointer (some ⟨g5, 0 + 1, none⟩))), (44, cA (P' (j + 1))), (43, .raw (.slice (some ⟨a, 0, none⟩) (j + 1) ca)), (42, .raw (.pointer (some ⟨g5, 0 + 0, none⟩))), (7, cA (P' (j + 1))), (8, .f .f32 (f' ((j + 1 : Nat) : Int))), (1, .f .f32 t), (2, .raw (.pointer (some ⟨g2, 0, none⟩))), (4, .raw (.pointer (some ⟨g4, 0, none⟩))), (5, .raw (.pointer (some ⟨g5, 0, none⟩))), (11, .raw (.int .i64 ((n : Int) - 1))), (12, .raw (.int .i64 ((j + 1 : Nat) : Int)))] (St w0 [] [⟨u1, 31, [cA (P' (j + 1))], 1⟩, ⟨u2, 29, [.f .f32 (f' ((j + 1 : Nat) : Int))], 1⟩, ⟨g5, 27, [.raw (.slice (some ⟨a', 0, none⟩) (j + 1 + 1) ca'), .raw (.slice (some ⟨b, 0, none⟩) (j + 1) cb)], 2⟩, ⟨g4, 27, [.raw (.slice none 0 0), .raw (.slice none 0 0)], 2⟩, ⟨g2, 27, [slC w0 (tabC n P), AV.sl w0 1 ((tab n f).map (AV.f .f32))], 2⟩, entC a' (j + 1 + 1) P' ca', entF b' 29 (j + 1 + 1) f' cb']) Q' := fun u1 u2 a' ca' b' cb' h1 h2 => by
        refine gp_step [12] (by rw [ho]; decide +kernel) fun f hf => ?_
        obtain rfl : f = 12 := by simpa using hf
        refine sp_op q12 (by rw [ho]; decide +kernel) rfl (zcd rfl) rfl (cont_set rfl rfl ?_)
        exact si u1 u2 a' ca' b' cb' h1 h2
      have sg : ∀ (u1 u2 a' ca' b' cb' : Nat), j + 1 + 1 ≤ ca' ∧ ca' ≤ maxLen → j + 1 + 1 ≤ cb' ∧ cb' ≤ maxLen → GP Try.prog 56 o [0, 1, 2, 5, 6, 7, 10] (St w0 [] [⟨g5, 27, [.raw (.slice (some ⟨a, 0, none⟩) (j + 1) ca), .raw (.slice (some ⟨b, 0, none⟩) (j + 1) cb)], 2⟩]) [9, 8, 4, 3] [(51, .raw (.slice (some ⟨b', 0, none⟩) (j + 1 + 1) cb')), (46, .raw (.slice (some ⟨a', 0, none⟩) (j + 1 + 1) ca')), (52, .raw (.pointer (some ⟨g5, 0 + 0, none⟩))), (49, .f .f32 (f' ((j + 1 : Nat) : Int))), (48, .raw (.slice (some ⟨b, 0, none⟩) (j + 1) cb)), (47, .raw (.pointer (some ⟨g5, 0 + 1, none⟩))), (44, cA (P' (j + 1))), (43, .raw (.slice (some ⟨a, 0, none⟩) (j + 1) ca)), (42, .raw (.pointer (some ⟨g5, 0 + 0, none⟩))), (7, cA (P' (j + 1))), (8, .f .f32 (f' ((j + 1 : Nat) : Int))), (1, .f .f32 t), (2, .raw (.pointer (some ⟨g2, 0, none⟩))), (4, .raw (.pointer (some ⟨g4, 0, none⟩))), (5, .raw (.pointer (some ⟨g5, 0, none⟩))), (11, .raw (.int .i64 ((n : Int) - 1))), (12, .raw (.int .i64 ((j + 1 : Nat) : Int)))] (St w0 [] [⟨u1, 31, [cA (P' (j + 1))], 1⟩, ⟨u2, 29, [.f .f32 (f' ((j + 1 : Nat) : Int))], 1⟩, ⟨g5, 27, [.raw (.slice (some ⟨a, 0, none⟩) (j + 1) ca), .raw (.slice (some ⟨b, 0, none⟩) (j + 1) cb)], 2⟩, ⟨g4, 27, [.raw (.slice none 0 0), .raw (.slice none 0 0)], 2⟩, ⟨g2, 27, [slC w0 (tabC n P), AV.sl w0 1 ((tab n f).map (AV.f .f32))], 2⟩, entC a' (j + 1 + 1) P' ca', entF b' 29 (j + 1 + 1) f' cb']) Q' := fun u1 u2 a' ca' b' cb' h1 h2 => by
        refine gp_step [11] (by rw [ho]; decide +kernel) fun f hf => ?_
        obtain rfl : f = 11 := by simpa using hf
        refine sp_eff q11 (by rw [ho]; decide +kernel) (effj_storeX 2 rfl rfl rfl rfl rfl rfl) (cont_set (by rw [ho]; decide +kernel) rfl ?_)
        exact sh u1 u2 a' ca' b' cb' h1 h2
      have sf : ∀ (u1 u2 a' ca' : Nat), j + 1 + 1 ≤ ca' ∧ ca' ≤ maxLen → GP Try.prog 56 o [0, 1, 2, 5, 6, 7, 10] (St w0 [] [⟨g5, 27, [.raw (.slice (some ⟨a, 0, none⟩) (j + 1) ca), .raw (.slice (some ⟨b, 0, none⟩) (j + 1) cb)], 2⟩]) [8, 4, 3] [(50, .raw (.slice (some ⟨u2, 0, none⟩) (1) 1)), (46, .raw (.slice (some ⟨a', 0, none⟩) (j + 1 + 1) ca')), (45, .raw (.slice (some ⟨u1, 0, none⟩) (1) 1)), (52, .raw (.pointer (some ⟨g5, 0 + 0, none⟩))), (49, .f .f32 (f' ((j + 1 : Nat) : Int))), (48, .raw (.slice (some ⟨b, 0, none⟩) (j + 1) cb)), (47, .raw (.pointer (some ⟨g5, 0 + 1, none⟩))), (44, cA (P' (j + 1))), (43, .raw (.slice (some ⟨a, 0, none⟩) (j + 1) ca)), (42, .raw (.pointer (some ⟨g5, 0 + 0, none⟩))), (7, cA (P' (j + 1))), (8, .f .f32 (f' ((j + 1 : Nat) : Int))), (1, .f .f32 t), (2, .raw (.pointer (some ⟨g2, 0, none⟩))), (4, .raw (.pointer (some ⟨g4, 0, none⟩))), (5, .raw (.pointer (some ⟨g5, 0, none⟩))), (11, .raw (.int .i64 ((n : Int) - 1))), (12, .raw (.int .i64 ((j + 1 : Nat) : Int)))] (St w0 [] [⟨u1, 31, [cA (P' (j + 1))], 1⟩, ⟨u2, 29, [.f .f32 (f' ((j + 1 : Nat) : Int))], 1⟩, ⟨g5, 27, [.raw (.slice (some ⟨a, 0, none⟩) (j + 1) ca), .raw (.slice (some ⟨b, 0, none⟩) (j + 1) cb)], 2⟩, ⟨g4, 27, [.raw (.slice none 0 0), .raw (.slice none 0 0)], 2⟩, ⟨g2, 27, [slC w0 (tabC n P), AV.sl w0 1 ((tab n f).map (AV.f .f32))], 2⟩, entC a' (j + 1 + 1) P' ca', entF b 29 (j + 1) f' cb]) Q' := fun u1 u2 a' ca' h1 => by
        refine gp_step [9] (by rw [ho]; decide +kernel) fun f hf => ?_
        obtain rfl : f = 9 := by simpa using hf
        refine sp_append 6 (sz := 1) (m := 1) (n := (j + 1)) (xs := (tab (j + 1) f').map (AV.f .f32)) (ys := [.f .f32 (f' ((j + 1 : Nat) : Int))]) q9 (by rw [ho]; decide +kernel) rfl (by omega) rfl ⟨_, rfl, fun w v hS hr => rd_ownM hS hr (mt (mh)) rfl ⟨Nat.le_refl _, by simp only [maxLen]; decide⟩⟩ (by rw [Nat.mul_one]; rfl) ⟨by simp, hc2.1, hc2.2⟩ rfl (by omega) rfl (by simp only [maxLen] at hc1 hc2 ⊢; omega) (by omega) rfl fun gn cn k1 k2 => ?_
        rw [entF_snoc]
        exact cont_go (fun _ h => h.weak (.cons _ (.cons _ (.cons_cons _ (List.nil_sublist _))))) (gp_to (sg u1 u2 a' ca' gn cn h1 ⟨k1, k2⟩) rfl (by (repeat (first | exact Env.sub_nil _ | refine Env.sub_cons rfl ?_))) (by rw [hso]; exact ⟨rfl, rfl, rfl, rfl, rfl, rfl, rfl, rfl, rfl, rfl, rfl, rfl, rfl, rfl, trivial⟩) rfl (fun _ h => h) (fun _ h => h.weak (.cons _ (.cons _ (.cons_cons _ (List.nil_sublist _))))))
      have se : ∀ (u1 a' ca' : Nat), j + 1 + 1 ≤ ca' ∧ ca' ≤ maxLen → GP Try.prog 56 o [0, 1, 2, 5, 6, 7, 10] (St w0 [] [⟨g5, 27, [.raw (.slice (some ⟨a, 0, none⟩) (j + 1) ca), .raw (.slice (some ⟨b, 0, none⟩) (j + 1) cb)], 2⟩]) [4, 3] [(46, .raw (.slice (some ⟨a', 0, none⟩) (j + 1 + 1) ca')), (45, .raw (.slice (some ⟨u1, 0, none⟩) (1) 1)), (52, .raw (.pointer (some ⟨g5, 0 + 0, none⟩))), (49, .f .f32 (f' ((j + 1 : Nat) : Int))), (48, .raw (.slice (some ⟨b, 0, none⟩) (j + 1) cb)), (47, .raw (.pointer (some ⟨g5, 0 + 1, none⟩))), (44, cA (P' (j + 1))), (43, .raw (.slice (some ⟨a, 0, none⟩) (j + 1) ca)), (42, .raw (.pointer (some ⟨g5, 0 + 0, none⟩))), (7, cA (P' (j + 1))), (8, .f .f32 (f' ((j + 1 : Nat) : Int))), (1, .f .f32 t), (2, .raw (.pointer (some ⟨g2, 0, none⟩))), (4, .raw (.pointer (some ⟨g4, 0, none⟩))), (5, .raw (.pointer (some ⟨g5, 0, none⟩))), (11, .raw (.int .i64 ((n : Int) - 1))), (12, .raw (.int .i64 ((j + 1 : Nat) : Int)))] (St w0 [] [⟨u1, 31, [cA (P' (j + 1))], 1⟩, ⟨g5, 27, [.raw (.slice (some ⟨a, 0, none⟩) (j + 1) ca), .raw (.slice (some ⟨b, 0, none⟩) (j + 1) cb)], 2⟩, ⟨g4, 27, [.raw (.slice none 0 0), .raw (.slice none 0 0)], 2⟩, ⟨g2, 27, [slC w0 (tabC n P), AV.sl w0 1 ((tab n f).map (AV.f .f32))], 2⟩, entC a' (j + 1 + 1) P' ca', entF b 29 (j + 1) f' cb]) Q' := fun u1 a' ca' h1 => by
        refine gp_step [8] (by rw [ho]; decide +kernel) fun f hf => ?_
        obtain rfl : f = 8 := by simpa using hf
        refine sp_lit q8 (by rw [ho]; decide +kernel) rfl rfl rfl rfl rfl rfl fun u2 => ?_
        exact cont_go (fun _ h => h.weak (.cons _ (.cons _ (.cons_cons _ (List.nil_sublist _))))) (gp_to (sf u1 u2 a' ca' h1) rfl (by (repeat (first | exact Env.sub_nil _ | refine Env.sub_cons rfl ?_))) (by rw [hso]; exact ⟨rfl, rfl, rfl, rfl, rfl, rfl, rfl, rfl, rfl, rfl, rfl, rfl, rfl, rfl, trivial⟩) rfl (fun _ h => h.swap) (fun _ h => h.weak (.cons _ (.cons _ (.cons_cons _ (List.nil_sublist _))))))
      have sd : ∀ (u1 u2 : Nat), GP Try.prog 56 o [0, 1, 2, 5, 6, 7, 10] (St w0 [] [⟨g5, 27, [.raw (.slice (some ⟨a, 0, none⟩) (j + 1) ca), .raw (.slice (some ⟨b, 0, none⟩) (j + 1) cb)], 2⟩]) [8, 3] [(50, .raw (.slice (some ⟨u2, 0, none⟩) (1) 1)), (45, .raw (.slice (some ⟨u1, 0, none⟩) (1) 1)), (52, .raw (.pointer (some ⟨g5, 0 + 0, none⟩))), (49, .f .f32 (f' ((j + 1 : Nat) : Int))), (48, .raw (.slice (some ⟨b, 0, none⟩) (j + 1) cb)), (47, .raw (.pointer (some ⟨g5, 0 + 1, none⟩))), (44, cA (P' (j + 1))), (43, .raw (.slice (some ⟨a, 0, none⟩) (j + 1) ca)), (42, .raw (.pointer (some ⟨g5, 0 + 0, none⟩))), (7, cA (P' (j + 1))), (8, .f .f32 (f' ((j + 1 : Nat) : Int))), (1, .f .f32 t), (2, .raw (.pointer (some ⟨g2, 0, none⟩))), (4, .raw (.pointer (some ⟨g4, 0, none⟩))), (5, .raw (.pointer (some ⟨g5, 0, none⟩))), (11, .raw (.int .i64 ((n : Int) - 1))), (12, .raw (.int .i64 ((j + 1 : Nat) : Int)))] (St w0 [] [⟨u1, 31, [cA (P' (j + 1))], 1⟩, ⟨u2, 29, [.f .f32 (f' ((j + 1 : Nat) : Int))], 1⟩, ⟨g5, 27, [.raw (.slice (some ⟨a, 0, none⟩) (j + 1) ca), .raw (.slice (some ⟨b, 0, none⟩) (j + 1) cb)], 2⟩, ⟨g4, 27, [.raw (.slice none 0 0), .raw (.slice none 0 0)], 2⟩, ⟨g2, 27, [slC w0 (tabC n P), AV.sl w0 1 ((tab n f).map (AV.f .f32))], 2⟩, entC a (j + 1) P' ca, entF b 29 (j + 1) f' cb]) Q' := fun u1 u2 => by
        refine gp_step [4] (by rw [ho]; decide +kernel) fun f hf => ?_
        obtain rfl : f = 4 := by simpa using hf
        refine sp_append 5 (sz := 1) (m := 1) (n := (j + 1)) (xs := (tabC (j + 1) P').map cA) (ys := [cA (P' (j + 1))]) q4 (by rw [ho]; decide +kernel) rfl (by omega) rfl ⟨_, rfl, fun w v hS hr => rd_ownM hS hr (mh) rfl ⟨Nat.le_refl _, by simp only [maxLen]; decide⟩⟩ (by rw [Nat.mul_one]; rfl) ⟨by simp, hc1.1, hc1.2⟩ rfl (by omega) rfl (by simp only [maxLen] at hc1 hc2 ⊢; omega) (by omega) rfl fun gn cn k1 k2 => ?_
        rw [entC_snoc]
        exact cont_go (fun _ h => h.weak (.cons _ (.cons _ (.cons_cons _ (List.nil_sublist _))))) (gp_to (sf u1 u2 gn cn ⟨k1, k2⟩) rfl (by (repeat (first | exact Env.sub_nil _ | refine Env.sub_cons rfl ?_))) (by rw [hso]; exact ⟨rfl, rfl, rfl, rfl, rfl, rfl, rfl, rfl, rfl, rfl, rfl, rfl, rfl, rfl, trivial⟩) rfl (fun _ h => h) (fun _ h => h.weak (.cons _ (.cons _ (.cons_cons _ (List.nil_sublist _))))))
      have sc : ∀ (u2 : Nat), GP Try.prog 56 o [0, 1, 2, 5, 6, 7, 10] (St w0 [] [⟨g5, 27, [.raw (.slice (some ⟨a, 0, none⟩) (j + 1) ca), .raw (.slice (some ⟨b, 0, none⟩) (j + 1) cb)], 2⟩]) [8] [(50, .raw (.slice (some ⟨u2, 0, none⟩) (1) 1)), (52, .raw (.pointer (some ⟨g5, 0 + 0, none⟩))), (49, .f .f32 (f' ((j + 1 : Nat) : Int))), (48, .raw (.slice (some ⟨b, 0, none⟩) (j + 1) cb)), (47, .raw (.pointer (some ⟨g5, 0 + 1, none⟩))), (44, cA (P' (j + 1))), (43, .raw (.slice (some ⟨a, 0, none⟩) (j + 1) ca)), (42, .raw (.pointer (some ⟨g5, 0 + 0, none⟩))), (7, cA (P' (j + 1))), (8, .f .f32 (f' ((j + 1 : Nat) : Int))), (1, .f .f32 t), (2, .raw (.pointer (some ⟨g2, 0, none⟩))), (4, .raw (.pointer (some ⟨g4, 0, none⟩))), (5, .raw (.pointer (some ⟨g5, 0, none⟩))), (11, .raw (.int .i64 ((n : Int) - 1))), (12, .raw (.int .i64 ((j + 1 : Nat) : Int)))] (St w0 [] [⟨u2, 29, [.f .f32 (f' ((j + 1 : Nat) : Int))], 1⟩, ⟨g5, 27, [.raw (.slice (some ⟨a, 0, none⟩) (j + 1) ca), .raw (.slice (some ⟨b, 0, none⟩) (j + 1) cb)], 2⟩, ⟨g4, 27, [.raw (.slice none 0 0), .raw (.slice none 0 0)], 2⟩, ⟨g2, 27, [slC w0 (tabC n P), AV.sl w0 1 ((tab n f).map (AV.f .f32))], 2⟩, entC a (j + 1) P' ca, entF b 29 (j + 1) f' cb]) Q' := fun u2 => by
        refine gp_step [3] (by rw [ho]; decide +kernel) fun f hf => ?_
        obtain rfl : f = 3 := by simpa using hf
        refine sp_lit q3 (by rw [ho]; decide +kernel) rfl rfl rfl rfl rfl rfl fun u1 => ?_
        exact cont_go (fun _ h => h.weak (.cons _ (.cons _ (.cons_cons _ (List.nil_sublist _))))) (gp_to (sd u1 u2) rfl (by (repeat (first | exact Env.sub_nil _ | refine Env.sub_cons rfl ?_))) (by rw [hso]; exact ⟨rfl, rfl, rfl, rfl, rfl, rfl, rfl, rfl, rfl, rfl, rfl, rfl, rfl, rfl, trivial⟩) rfl (fun _ h => h) (fun _ h => h.weak (.cons _ (.cons _ (.cons_cons _ (List.nil_sublist _))))))
      have sb : ∀ (u1 : Nat), GP Try.prog 56 o [0, 1, 2, 5, 6, 7, 10] (St w0 [] [⟨g5, 27, [.raw (.slice (some ⟨a, 0, none⟩) (j + 1) ca), .raw (.slice (some ⟨b, 0, none⟩) (j + 1) cb)], 2⟩]) [3] [(45, .raw (.slice (some ⟨u1, 0, none⟩) (1) 1)), (52, .raw (.pointer (some ⟨g5, 0 + 0, none⟩))), (49, .f .f32 (f' ((j + 1 : Nat) : Int))), (48, .raw (.slice (some ⟨b, 0, none⟩) (j + 1) cb)), (47, .raw (.pointer (some ⟨g5, 0 + 1, none⟩))), (44, cA (P' (j + 1))), (43, .raw (.slice (some ⟨a, 0, none⟩) (j + 1) ca)), (42, .raw (.pointer (some ⟨g5, 0 + 0, none⟩))), (7, cA (P' (j + 1))), (8, .f .f32 (f' ((j + 1 : Nat) : Int))), (1, .f .f32 t), (2, .raw (.pointer (some ⟨g2, 0, none⟩))), (4, .raw (.pointer (some ⟨g4, 0, none⟩))), (5, .raw (.pointer (some ⟨g5, 0, none⟩))), (11, .raw (.int .i64 ((n : Int) - 1))), (12, .raw (.int .i64 ((j + 1 : Nat) : Int)))] (St w0 [] [⟨u1, 31, [cA (P' (j + 1))], 1⟩, ⟨g5, 27, [.raw (.slice (some ⟨a, 0, none⟩) (j + 1) ca), .raw (.slice (some ⟨b, 0, none⟩) (j + 1) cb)], 2⟩, ⟨g4, 27, [.raw (.slice none 0 0), .raw (.slice none 0 0)], 2⟩, ⟨g2, 27, [slC w0 (tabC n P), AV.sl w0 1 ((tab n f).map (AV.f .f32))], 2⟩, entC a (j + 1) P' ca, entF b 29 (j + 1) f' cb]) Q' := fun u1 => by
        refine gp_step [4, 8] (by rw [ho]; decide +kernel) fun f hf => ?_
        have hf : f = 4 ∨ f = 8 := by simpa using hf
        rcases hf with rfl | rfl
        · refine sp_append 4 (sz := 1) (m := 1) (n := (j + 1)) (xs := (tabC (j + 1) P').map cA) (ys := [cA (P' (j + 1))]) q4 (by rw [ho]; decide +kernel) rfl (by omega) rfl ⟨_, rfl, fun w v hS hr => rd_ownM hS hr (mh) rfl ⟨Nat.le_refl _, by simp only [maxLen]; decide⟩⟩ (by rw [Nat.mul_one]; rfl) ⟨by simp, hc1.1, hc1.2⟩ rfl (by omega) rfl (by simp only [maxLen] at hc1 hc2 ⊢; omega) (by omega) rfl fun gn cn k1 k2 => ?_
          rw [entC_snoc]
          exact cont_go (fun _ h => h.weak (.cons _ (.cons_cons _ (List.nil_sublist _)))) (gp_to (se u1 gn cn ⟨k1, k2⟩) rfl (by (repeat (first | exact Env.sub_nil _ | refine Env.sub_cons rfl ?_))) (by rw [hso]; exact ⟨rfl, rfl, rfl, rfl, rfl, rfl, rfl, rfl, rfl, rfl, rfl, rfl, rfl, rfl, trivial⟩) rfl (fun _ h => h) (fun _ h => h.weak (.cons _ (.cons_cons _ (List.nil_sublist _)))))
        · refine sp_lit q8 (by rw [ho]; decide +kernel) rfl rfl rfl rfl rfl rfl fun u2 => ?_
          exact cont_go (fun _ h => h.weak (.cons _ (.cons _ (.cons_cons _ (List.nil_sublist _))))) (gp_to (sd u1 u2) rfl (by (repeat (first | exact Env.sub_nil _ | refine Env.sub_cons rfl ?_))) (by rw [hso]; exact ⟨rfl, rfl, rfl, rfl, rfl, rfl, rfl, rfl, rfl, rfl, rfl, rfl, rfl, rfl, trivial⟩) rfl (fun _ h => h.swap) (fun _ h => h.weak (.cons _ (.cons _ (.cons_cons _ (List.nil_sublist _))))))
      have sa : GP Try.prog 56 o [0, 1, 2, 5, 6, 7, 10] (St w0 [] [⟨g5, 27, [.raw (.slice (some ⟨a, 0, none⟩) (j + 1) ca), .raw (.slice (some ⟨b, 0, none⟩) (j + 1) cb)], 2⟩]) [] [(52, .raw (.pointer (some ⟨g5, 0 + 0, none⟩))), (49, .f .f32 (f' ((j + 1 : Nat) : Int))), (48, .raw (.slice (some ⟨b, 0, none⟩) (j + 1) cb)), (47, .raw (.pointer (some ⟨g5, 0 + 1, none⟩))), (44, cA (P' (j + 1))), (43, .raw (.slice (some ⟨a, 0, none⟩) (j + 1) ca)), (42, .raw (.pointer (some ⟨g5, 0 + 0, none⟩))), (7, cA (P' (j + 1))), (8, .f .f32 (f' ((j + 1 : Nat) : Int))), (1, .f .f32 t), (2, .raw (.pointer (some ⟨g2, 0, none⟩))), (4, .raw (.pointer (some ⟨g4, 0, none⟩))), (5, .raw (.pointer (some ⟨g5, 0, none⟩))), (11, .raw (.int .i64 ((n : Int) - 1))), (12, .raw (.int .i64 ((j + 1 : Nat) : Int)))] (St w0 [] [⟨g5, 27, [.raw (.slice (some ⟨a, 0, none⟩) (j + 1) ca), .raw (.slice (some ⟨b, 0, none⟩) (j + 1) cb)], 2⟩, ⟨g4, 27, [.raw (.slice none 0 0), .raw (.slice none 0 0)], 2⟩, ⟨g2, 27, [slC w0 (tabC n P), AV.sl w0 1 ((tab n f).map (AV.f .f32))], 2⟩, entC a (j + 1) P' ca, entF b 29 (j + 1) f' cb]) Q' := by
        refine gp_step [3, 8] (by rw [ho]; decide +kernel) fun f hf => ?_
        have hf : f = 3 ∨ f = 8 := by simpa using hf
        rcases hf with rfl | rfl
        · refine sp_lit q3 (by rw [ho]; decide +kernel) rfl rfl rfl rfl rfl rfl fun u1 => ?_
          exact cont_go (fun _ h => h.weak (.cons _ (.cons_cons _ (List.nil_sublist _)))) (gp_to (sb u1) rfl (by (repeat (first | exact Env.sub_nil _ | refine Env.sub_cons rfl ?_))) (by rw [hso]; exact ⟨rfl, rfl, rfl, rfl, rfl, rfl, rfl, rfl, rfl, rfl, rfl, rfl, rfl, rfl, trivial⟩) rfl (fun _ h => h) (fun _ h => h.weak (.cons _ (.cons_cons _ (List.nil_sublist _)))))
        · refine sp_lit q8 (by rw [ho]; decide +kernel) rfl rfl rfl rfl rfl rfl fun u2 => ?_
          exact cont_go (fun _ h => h.weak (.cons _ (.cons_cons _ (List.nil_sublist _)))) (gp_to (sc u2) rfl (by (repeat (first | exact Env.sub_nil _ | refine Env.sub_cons rfl ?_))) (by rw [hso]; exact ⟨rfl, rfl, rfl, rfl, rfl, rfl, rfl, rfl, rfl, rfl, rfl, rfl, rfl, rfl, trivial⟩) rfl (fun _ h => h) (fun _ h => h.weak (.cons _ (.cons_cons _ (List.nil_sublist _)))))
      exact gp_to sa rfl (by (repeat (first | exact Env.sub_nil _ | refine Env.sub_cons rfl ?_))) (by rw [hso]; exact ⟨rfl, rfl, rfl, rfl, rfl, rfl, rfl, rfl, rfl, rfl, rfl, rfl, rfl, rfl, trivial⟩) rfl (fun _ h => h) (fun _ h => h.weak (.cons_cons _ (List.nil_sublist _)))
    obtain ⟨⟨⟨a', b'⟩, ca', cb'⟩, u1, u2⟩ := y
    obtain ⟨h1, h2⟩ := hy
    dsimp only at h1 h2 ⊢
    repeat first | refine zaa rfl (zay rfl) ?_ | (refine zac ?_; refine zaa rfl (zbb rfl rfl (by omega)) ?_) | refine zah ?_ | (refine zcr ?_; first | refine zcs ?_ | refine zcv ?_) | (refine zdb ?_; refine zdd ?_)
    refine done_round (j + 1 + 1, (a', b'), ca', cb') ⟨by simp only; omega, h1, h2⟩ (by simp only; omega) ?_ (fun w h => ?_)
    · simp only
      rw [show ((j + 1 + 1 : Nat) : Int) = ((j + 1 : Nat) : Int) + 1 by omega]
      (repeat (first | exact Env.sub_nil _ | refine Env.sub_cons rfl ?_))
    · exact h.weak (.cons _ (.cons _ (List.Sublist.refl _)))
end Go.Ab
