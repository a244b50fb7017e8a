/- Nets: the program's edges, as many as sides are first of theirs. No conditions. -/
import Derived.Test.YtnajffjobgeenaaEuB
import Derived.Test.YtnajffjobgeenaaTu
namespace Go.Ab
open Go.Proofs
variable {R : World → Prop} [RStab R]

class EdgeT (P : Program) (t : TypeId) : Prop where
  b4 : ∀ (w : World) (a b c d : Int), (Instr.build t #[(0, .int .i64 a), (1, .int .i64 b), (2, .int .i64 c), (3, .int .i64 d)]).run P w = .ok (.agg #[.int .i64 a, .int .i64 b, .int .i64 c, .int .i64 d]) w
class EdgeL (P : Program) (t : TypeId) (el : outParam TypeId) : Prop where
  l1 : ∀ (w : World) (a b c d : Int), (Instr.buildSlice t 1 #[(0, .agg #[.int .i64 a, .int .i64 b, .int .i64 c, .int .i64 d])]).run P w = .ok (.slice (some ⟨w.heap.size, 0, none⟩) 1 1) (w.alloc (.cells #[.int .i64 a, .int .i64 b, .int .i64 c, .int .i64 d] el))
instance edgeT : EdgeT Try.prog 166 := ⟨fun w a b c d => by kernel_rfl⟩
instance edgeL : EdgeL Try.prog 126 166 := ⟨fun w a b c d => by kernel_rfl⟩
abbrev cell4 (a b c d : Int) : List AV := [intA a, intA b, intA c, intA d]
section
variable {P : Program} {t el : TypeId} {S : World → Prop} {N : Nat} {e : Env} {Q : Exit → Env → World → Prop} {ops : Array Oper} {l : List Oper} {dst : Option Tmp} {ty : TypeId} {pos : String} {after : Array Edge} {guard : Option (Nat × Bool)}
variable {w0 : World} {gs : List Nat} {H : List Ent}
theorem opj_build4 [hb : EdgeT P t] {X Y Z W : Operand} {a b c d : Int} (hx : e.ev X = some (intA a)) (hy : e.ev Y = some (intA b)) (hz : e.ev Z = some (intA c)) (hw : e.ev W = some (intA d)) :
    OpJ P S e ⟨dst, .build t #[(0, X), (1, Y), (2, Z), (3, W)], ty, pos, after, guard⟩ (.agg (cell4 a b c d)) :=
  opj_value fun ac w _ h => by
    have h1 := (h X (by simp [Op.operands]) _ hx).inv_raw
    have h2 := (h Y (by simp [Op.operands]) _ hy).inv_raw
    have h3 := (h Z (by simp [Op.operands]) _ hz).inv_raw
    have h4 := (h W (by simp [Op.operands]) _ hw).inv_raw
    refine ⟨_, w, ?_, Ext.refl _, .agg (vs := [.int .i64 a, .int .i64 b, .int .i64 c, .int .i64 d]) (.cons .raw (.cons .raw (.cons .raw (.cons .raw .nil))))⟩
    simp only [execOp, List.map_toArray, List.map_cons, List.map_nil, h1, h2, h3, h4, Sem.run_bind, hb.b4, Result.andThen_ok]
    rfl
theorem opj_lit4 [hb : EdgeL P t el] {X : Operand} {a b c d : Int} (hx : e.ev X = some (.agg (cell4 a b c d))) : OpJ P S e ⟨dst, .buildSlice t 1 #[(0, X)], ty, pos, after, guard⟩ (AV.litN 4 (cell4 a b c d)) :=
  opj_value fun ac w _ h => by
    obtain ⟨vs, h1, hr⟩ := (h X (by simp [Op.operands]) _ hx).inv_agg
    obtain ⟨u1, r1, rfl, hu1, hr⟩ := hr.inv_cons
    obtain ⟨u2, r2, rfl, hu2, hr⟩ := hr.inv_cons
    obtain ⟨u3, r3, rfl, hu3, hr⟩ := hr.inv_cons
    obtain ⟨u4, r4, rfl, hu4, hr⟩ := hr.inv_cons
    obtain rfl := hr.inv_nil
    obtain rfl := hu1.inv_raw
    obtain rfl := hu2.inv_raw
    obtain rfl := hu3.inv_raw
    obtain rfl := hu4.inv_raw
    refine ⟨.slice (some ⟨w.heap.size, 0, none⟩) 1 1, w.alloc (.cells #[.int .i64 a, .int .i64 b, .int .i64 c, .int .i64 d] el), ?_, Ext.alloc w _, Rel.p (φ := fun w v => Rd w 4 v (cell4 a b c d)) (fun _ _ _ hw h => Rd.ext h hw) ?_⟩
    · simp only [execOp, List.map_toArray, List.map_cons, List.map_nil, h1, Sem.run_bind, hb.l1, Result.andThen_ok]
      rfl
    · refine ⟨_, 1, 1, rfl, rfl, Nat.le_refl _, by simp [maxLen], fun i x hi => ⟨_, rfl, rfl, ?_⟩⟩
      have hcell : ∀ j u, #[Value.int .i64 a, Value.int .i64 b, Value.int .i64 c, Value.int .i64 d][j]? = some u → (w.alloc (.cells #[.int .i64 a, .int .i64 b, .int .i64 c, .int .i64 d] el)).cell? ⟨w.heap.size, 0 + j, none⟩ = some u := fun j u hu => by
        simp only [World.cell?, heap_alloc_new, Nat.zero_add]
        simpa using hu
      match i, hi with
      | 0, hi => cases hi; exact ⟨_, hcell 0 _ rfl, ev_raw _⟩
      | 1, hi => cases hi; exact ⟨_, hcell 1 _ rfl, ev_raw _⟩
      | 2, hi => cases hi; exact ⟨_, hcell 2 _ rfl, ev_raw _⟩
      | 3, hi => cases hi; exact ⟨_, hcell 3 _ rfl, ev_raw _⟩
theorem opj_lookupOkV {g : Nat} {f : Int → Int → Option Value} {k : TypeId} [hm : MapT P t k el] {z v : Value} {c : Bool} {sz b0 : Nat} [hi : TyI P el z sz b0] {X K : Operand} {a b : Int} (hv : (f a b).getD z = v) (hc : (f a b).isSome = c) (hx : e.ev X = some (.raw (.map (some g)))) (hk : e.ev K = some (.agg [.raw (.int .i64 a), .raw (.int .i64 b)])) (ha : In64 a) (hb : In64 b) :
    OpJ P (StR (MapAt g f) w0 gs H) e ⟨dst, .lookup t X K true, ty, pos, after, guard⟩ (.tup [.raw v, .raw (.bool c)]) := by
  subst hv; subst hc; exact opj_lookupOk hx hk ha hb
theorem set_self {α : Type} {H : List α} {k : Nat} {x y : α} (h : H[k]? = some x) : (H.set k y).set k x = H := by
  apply List.ext_getElem?
  intro j
  rw [List.set_set, List.getElem?_set]
  split
  · rename_i hkj
    subst hkj
    split
    · exact h.symm
    · rename_i hlt
      rw [List.getElem?_eq_none (by omega)] at h; cases h
  · rfl
/-- A store into cells of which nothing is kept in mind. -/
theorem rs_storeU (k : Nat) {g n i c : Nat} {T : TypeId} {z : Value} {b : Nat} [hi : TyI P t z 1 b] {A X : Operand} {x : AV} (hA : e.ev A = some (.raw (.pointer (some ⟨g, i, none⟩)))) (hx : e.ev X = some x) (h1 : oneAV x = true) (hH : H[k]? = some ⟨g, T, unks n, c⟩) (hi' : i < c)
    (hk : RS P N ops l e.keep (StR R w0 gs H) Q) : RS P N ops (⟨none, .store t A X, ty, pos, after, none⟩ :: l) e (StR R w0 gs H) Q := by
  refine rs_storeAt k (en := ⟨g, T, unks n, c⟩) hA hx h1 hH hi' (hk.st fun w h => ?_)
  have hlt : k < H.length := (List.getElem?_eq_some_iff.1 hH).1
  have h2 := h.wkAt (k := k) (g := g) (T := T) (c := c) (xs := (unks n).set i x) (ys := unks n) (by simp [hlt]) (unks_wk (by simp [unks]))
  rw [set_self hH] at h2
  exact h2
/-- One struct of four cells behind such cells. -/
theorem rs_appendU (k : Nat) {d : Tmp} {A B : Operand} {g n cap : Nat} {p q r s : Int} {z : Value} {b : Nat} [hu : TyU P t (.slice el)] [hi : TyI P el z 4 b] (hd : Nat.blt d N = true)
    (hA : e.ev A = some (.raw (.slice (some ⟨g, 0, none⟩) n cap))) (hB : e.ev B = some (AV.litN 4 (cell4 p q r s))) (hH : H[k]? = some ⟨g, el, unks (n * 4), cap * 4⟩) (hn : n ≤ cap ∧ cap ≤ maxLen) (hm : n < 2 ^ 40) (hby : Nat.ble b 64 = true) (hzc : z.cells.size = 4)
    (hk : ∀ g' cap', n + 1 ≤ cap' → cap' ≤ maxLen → RS P N ops l ((d, .raw (.slice (some ⟨g', 0, none⟩) (n + 1) cap')) :: e.keep) (StR R w0 gs (H.set k ⟨g', el, unks ((n + 1) * 4), cap' * 4⟩)) Q) :
    RS P N ops (⟨some d, .call { callee := .builtin .append, args := #[A, B], argTypes := #[t, t] }, ty, pos, after, none⟩ :: l) e (StR R w0 gs H) Q := by
  have hb := Nat.le_of_ble_eq_true hby
  refine rs_appendN k (m := 1) hd (by decide) hA ⟨_, hB, fun w v _ h => h.inv_p.2⟩ hH ⟨by simp [unks], hn.1, hn.2⟩ rfl (Nat.le_refl _) rfl (by simp only [maxLen]; omega)
    (Nat.le_trans (Nat.mul_le_mul (show n + 1 ≤ 2 ^ 40 from by omega) hb) (by decide)) hzc fun g' cap' h1 h2 => ?_
  refine (hk g' cap' h1 h2).st fun w h => ?_
  have hlt : k < H.length := (List.getElem?_eq_some_iff.1 hH).1
  have h3 := h.wkAt (k := k) (g := g') (T := el) (c := cap' * 4) (xs := unks (n * 4) ++ cell4 p q r s) (ys := unks ((n + 1) * 4)) (by simp [hlt]) (unks_wk (by simp [unks]; omega))
  rw [List.set_set] at h3
  exact h3
end
def mapE (l : List Sd) (a b : Int) : Option Value := ((stE l).1 a b).map fun v => Value.int .i64 v
theorem mapE_nil : mapE [] = fun _ _ => none := rfl
theorem mapE_no {l : List Sd} {x : Sd} (h : (stE l).1 x.2.2 x.2.1 = none) : mapE (l ++ [x]) = updK (mapE l) x.2.1 x.2.2 (.int .i64 (stE l).2) := by
  funext a b
  unfold mapE updK
  rw [stE_snoc]
  unfold stepE
  rw [h, if_neg (by simp)]
  simp only
  by_cases hab : a = x.2.1 ∧ b = x.2.2
  · rw [if_pos hab, if_pos hab]; rfl
  · rw [if_neg hab, if_neg hab]
theorem stE_no {l : List Sd} {x : Sd} (h : (stE l).1 x.2.2 x.2.1 = none) : (stE (l ++ [x])).2 = (stE l).2 + 1 := by
  rw [stE_snoc]; unfold stepE; rw [h, if_neg (by simp)]
theorem stE_yes {l : List Sd} {x : Sd} {v : Nat} (h : (stE l).1 x.2.2 x.2.1 = some v) : stE (l ++ [x]) = stE l := by
  rw [stE_snoc]; unfold stepE; rw [h]; exact if_pos rfl
abbrev slc2 (y : Nat × Nat) (n : Nat) : AV := .raw (.slice (some ⟨y.1, 0, none⟩) n y.2)
abbrev entsE (gP gO gm : Nat) (n : Nat) (y : Nat × Nat) : List Ent := [⟨gP, 164, [.raw (.map (some gm))], 1⟩, ⟨gO, 126, [slc2 y n], 1⟩, ⟨y.1, 166, unks (n * 4), y.2 * 4⟩]
attribute [local irreducible] WS RS Done OpJ Then InBlock Round Ret Env.sub FnH
attribute [local irreducible] tab tabA corners unks

set_option maxHeartbeats 4000000 in
theorem edgeSide_fn (w0 : World) (gm gO gP : Nat) (hg : w0.heap.size ≤ gm) (l : List Sd) (x : Sd) (K : List Ent) (y : Nat × Nat) (ha : In64 x.2.1) (hb : In64 x.2.2) (hl : l.length < 2 ^ 40) (hy : (stE l).2 ≤ y.2 ∧ y.2 ≤ maxLen) :
    FnW Try.prog 168 ([intA x.1, intA x.2.1, intA x.2.2] ++ [Value.pointer (some ⟨gP, 0, none⟩), Value.pointer (some ⟨gO, 0, none⟩)].map .raw)
      (StR (MapAt gm (mapE l)) w0 [] (entsE gP gO gm (stE l).2 y ++ K)) (fun w => ∃ y' : Nat × Nat, ((stE (l ++ [x])).2 ≤ y'.2 ∧ y'.2 ≤ maxLen) ∧ StR (MapAt gm (mapE (l ++ [x]))) w0 [] (entsE gP gO gm (stE (l ++ [x])).2 y' ++ K) w) (.tup []) := by
  have hle := stE_le l
  obtain ⟨fc, a, b⟩ := x
  simp only at ha hb
  cases ho : (stE l).1 b a with
  | some v =>
    have hlt := stE_lt l b a v ho
    have he : stE (l ++ [(fc, a, b)]) = stE l := stE_yes ho
    have hv : (mapE l b a).getD (.int .i64 0) = .int .i64 v := by unfold mapE; rw [ho]; rfl
    have hc : (mapE l b a).isSome = true := by unfold mapE; rw [ho]; rfl
    have hm : mapE (l ++ [(fc, a, b)]) = mapE l := by funext p q; unfold mapE; rw [he]
    rw [he, hm]
    generalize (stE l).2 = n at *
    generalize mapE l = f at *
    refine fnw_intro Try.func168 rfl Try.ntmps168 (Nat.le_of_ble_eq_true rfl) ?_
    repeat first | refine zaa rfl (zay rfl) ?_ | refine zaa rfl (zaz rfl) ?_ | (refine zac ?_; first | refine zaa rfl (zba rfl rfl rfl) ?_ | refine zaa rfl (zbb rfl rfl (by omega)) ?_ | refine zaa rfl (zbc rfl rfl (by omega)) ?_ | refine zaa rfl (zbd rfl rfl rfl) ?_ | refine zaa rfl (zbe rfl rfl) ?_ | refine zaa rfl (zbf rfl rfl) ?_ | refine zaa rfl (zbg rfl rfl) ?_ | refine zaa rfl (zbh rfl rfl) ?_ | refine zaa rfl (zbi rfl rfl) ?_ | refine zaa rfl (zbj rfl rfl) ?_ | refine zaa rfl (zbk rfl rfl) ?_ | refine zaa rfl (zbl rfl rfl) ?_) | (refine zad ?_; first | refine zaa rfl (zbm rfl) ?_ | refine zaa rfl (zbn rfl) ?_ | refine zaa rfl (zbp rfl) ?_ | refine zaa rfl (zbq rfl) ?_ | refine zaa rfl (zbr rfl rfl) ?_) | (refine zae ?_; first | refine zaa rfl (zcf rfl rfl (by (repeat (first | exact mh | refine mt ?_)); done) rfl) ?_ | refine zaa rfl (zcg rfl rfl (by (repeat (first | exact mh | refine mt ?_)); done) rfl rfl) ?_ | refine zaa rfl (zch rfl rfl rfl rfl) ?_ | refine zaa rfl (zbu rfl rfl) ?_) | (refine zaf ?_; first | refine zaa rfl (zbv rfl rfl (by omega) (by omega)) ?_ | refine zaa rfl (zbw rfl rfl (by omega) (by omega)) ?_) | refine zaa rfl (zcd rfl) ?_ | refine zaa rfl (zce rfl) ?_ | refine zaa rfl (zbx rfl) ?_ | refine zaa rfl (zby rfl) ?_ | refine zaa rfl (zbz rfl rfl) ?_ | refine zaa rfl (zca rfl rfl) ?_ | refine zaa rfl (zcb rfl rfl) ?_ | refine zaa rfl (zcc rfl) ?_ | refine zah ?_ | (refine zcr ?_; first | refine zcs ?_ | refine zct ?_ | refine zcu ?_ | refine zcv ?_ | refine zcw ?_ | refine zcx ?_ | refine zcy rfl ?_ | refine zcz ?_ | refine zda ?_) | (refine zdb ?_; first | refine zdc ?_ | refine zdd ?_ | refine zde ?_ | refine zdf ?_ | refine zdg ?_ | refine zdh ?_ | refine zdi rfl ?_ | refine zdj rfl ?_) | refine zai rfl rfl ?_ | refine zaj rfl rfl rfl rfl ?_ | (refine zak rfl rfl rfl ?_; intro g) | (refine zal rfl rfl ?_; intro g) | (refine zag ?_; first | refine zam 0 rfl rfl rfl rfl rfl rfl ?_ | refine zam 1 rfl rfl rfl rfl rfl rfl ?_ | refine zam 2 rfl rfl rfl rfl rfl rfl ?_ | refine zam 3 rfl rfl rfl rfl rfl rfl ?_ | refine zam 4 rfl rfl rfl rfl rfl rfl ?_ | refine zam 5 rfl rfl rfl rfl rfl rfl ?_ | refine zan 0 rfl rfl rfl rfl rfl rfl rfl rfl rfl ?_ | refine zan 1 rfl rfl rfl rfl rfl rfl rfl rfl rfl ?_ | refine zan 2 rfl rfl rfl rfl rfl rfl rfl rfl rfl ?_ | refine zan 3 rfl rfl rfl rfl rfl rfl rfl rfl rfl ?_ | refine zan 4 rfl rfl rfl rfl rfl rfl rfl rfl rfl ?_ | refine zan 5 rfl rfl rfl rfl rfl rfl rfl rfl rfl ?_ | refine zao 0 rfl rfl rfl rfl rfl rfl ?_ | refine zao 1 rfl rfl rfl rfl rfl rfl ?_ | refine zao 2 rfl rfl rfl rfl rfl rfl ?_ | refine zao 3 rfl rfl rfl rfl rfl rfl ?_) | refine zaa rfl (opj_build2 rfl rfl) ?_ | refine zaa rfl (opj_lookupOkV hv hc rfl rfl hb ha) ?_ | refine rs_storeU 2 rfl rfl rfl rfl (by omega) ?_
    exact done_w0 (.inl rfl) rfl (fun _ h => ⟨y, hy, h⟩)
  | none =>
    have he : (stE (l ++ [(fc, a, b)])).2 = (stE l).2 + 1 := stE_no ho
    have hm : mapE (l ++ [(fc, a, b)]) = updK (mapE l) a b (.int .i64 (stE l).2) := mapE_no ho
    have hv : (mapE l b a).getD (.int .i64 0) = .int .i64 0 := by unfold mapE; rw [ho]; rfl
    have hc : (mapE l b a).isSome = false := by unfold mapE; rw [ho]; rfl
    rw [he, hm]
    generalize (stE l).2 = n at *
    generalize mapE l = f at *
    refine fnw_intro Try.func168 rfl Try.ntmps168 (Nat.le_of_ble_eq_true rfl) ?_
    repeat first | refine zaa rfl (zay rfl) ?_ | refine zaa rfl (zaz rfl) ?_ | (refine zac ?_; first | refine zaa rfl (zba rfl rfl rfl) ?_ | refine zaa rfl (zbb rfl rfl (by omega)) ?_ | refine zaa rfl (zbc rfl rfl (by omega)) ?_ | refine zaa rfl (zbd rfl rfl rfl) ?_ | refine zaa rfl (zbe rfl rfl) ?_ | refine zaa rfl (zbf rfl rfl) ?_ | refine zaa rfl (zbg rfl rfl) ?_ | refine zaa rfl (zbh rfl rfl) ?_ | refine zaa rfl (zbi rfl rfl) ?_ | refine zaa rfl (zbj rfl rfl) ?_ | refine zaa rfl (zbk rfl rfl) ?_ | refine zaa rfl (zbl rfl rfl) ?_) | (refine zad ?_; first | refine zaa rfl (zbm rfl) ?_ | refine zaa rfl (zbn rfl) ?_ | refine zaa rfl (zbp rfl) ?_ | refine zaa rfl (zbq rfl) ?_ | refine zaa rfl (zbr rfl rfl) ?_) | (refine zae ?_; first | refine zaa rfl (zcf rfl rfl (by (repeat (first | exact mh | refine mt ?_)); done) rfl) ?_ | refine zaa rfl (zcg rfl rfl (by (repeat (first | exact mh | refine mt ?_)); done) rfl rfl) ?_ | refine zaa rfl (zch rfl rfl rfl rfl) ?_ | refine zaa rfl (zbu rfl rfl) ?_) | (refine zaf ?_; first | refine zaa rfl (zbv rfl rfl (by omega) (by omega)) ?_ | refine zaa rfl (zbw rfl rfl (by omega) (by omega)) ?_) | refine zaa rfl (zcd rfl) ?_ | refine zaa rfl (zce rfl) ?_ | refine zaa rfl (zbx rfl) ?_ | refine zaa rfl (zby rfl) ?_ | refine zaa rfl (zbz rfl rfl) ?_ | refine zaa rfl (zca rfl rfl) ?_ | refine zaa rfl (zcb rfl rfl) ?_ | refine zaa rfl (zcc rfl) ?_ | refine zah ?_ | (refine zcr ?_; first | refine zcs ?_ | refine zct ?_ | refine zcu ?_ | refine zcv ?_ | refine zcw ?_ | refine zcx ?_ | refine zcy rfl ?_ | refine zcz ?_ | refine zda ?_) | (refine zdb ?_; first | refine zdc ?_ | refine zdd ?_ | refine zde ?_ | refine zdf ?_ | refine zdg ?_ | refine zdh ?_ | refine zdi rfl ?_ | refine zdj rfl ?_) | refine zai rfl rfl ?_ | refine zaj rfl rfl rfl rfl ?_ | (refine zak rfl rfl rfl ?_; intro g) | (refine zal rfl rfl ?_; intro g) | (refine zag ?_; first | refine zam 0 rfl rfl rfl rfl rfl rfl ?_ | refine zam 1 rfl rfl rfl rfl rfl rfl ?_ | refine zam 2 rfl rfl rfl rfl rfl rfl ?_ | refine zam 3 rfl rfl rfl rfl rfl rfl ?_ | refine zam 4 rfl rfl rfl rfl rfl rfl ?_ | refine zam 5 rfl rfl rfl rfl rfl rfl ?_ | refine zan 0 rfl rfl rfl rfl rfl rfl rfl rfl rfl ?_ | refine zan 1 rfl rfl rfl rfl rfl rfl rfl rfl rfl ?_ | refine zan 2 rfl rfl rfl rfl rfl rfl rfl rfl rfl ?_ | refine zan 3 rfl rfl rfl rfl rfl rfl rfl rfl rfl ?_ | refine zan 4 rfl rfl rfl rfl rfl rfl rfl rfl rfl ?_ | refine zan 5 rfl rfl rfl rfl rfl rfl rfl rfl rfl ?_ | refine zao 0 rfl rfl rfl rfl rfl rfl ?_ | refine zao 1 rfl rfl rfl rfl rfl rfl ?_ | refine zao 2 rfl rfl rfl rfl rfl rfl ?_ | refine zao 3 rfl rfl rfl rfl rfl rfl ?_) | refine zaa rfl (opj_build2 rfl rfl) ?_ | refine zaa rfl (opj_lookupOkV hv hc rfl rfl hb ha) ?_ | refine rs_mapUpdate hg rfl rfl rfl ha hb ?_ | refine zaa rfl (opj_build4 rfl rfl rfl rfl) ?_ | refine zaa rfl (opj_lit4 rfl) ?_ | (refine rs_appendU 2 rfl rfl rfl rfl hy (by omega) rfl rfl ?_; intro g2 c2 h2 h2')
    exact done_w0 (.inr rfl) rfl (fun _ h => ⟨(g2, c2), ⟨h2, h2'⟩, h⟩)
end Go.Ab
