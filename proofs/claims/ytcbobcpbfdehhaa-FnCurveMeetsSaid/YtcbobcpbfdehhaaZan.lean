/- Lists of meets: tables of two numbers each; literals, append, search; the program's test whether a meet lies near another; walked. No conditions. -/
import Derived.Test.YtcbobcpbfdehhaaZam
namespace Go.Ab
open Go.Proofs
variable {R : World → Prop} [RStab R]
/-- Meets as cells. -/
def flatM (τ : Nat → FV) : List (Nat × Nat) → List AV
  | [] => []
  | i :: L => .f .f32 (τ i.1) :: .f .f32 (τ i.2) :: flatM τ L
theorem flatM_len (τ : Nat → FV) : ∀ L, (flatM τ L).length = L.length * 2
  | [] => rfl
  | i :: L => by
    simp only [flatM, List.length_cons, flatM_len τ L]
    omega
theorem flatM_snoc (τ : Nat → FV) (i : Nat × Nat) : ∀ L, flatM τ L ++ [.f .f32 (τ i.1), .f .f32 (τ i.2)] = flatM τ (L ++ [i])
  | [] => rfl
  | k :: L => by
    show _ :: _ :: (flatM τ L ++ _) = _ :: _ :: flatM τ (L ++ [i])
    rw [flatM_snoc τ i L]
theorem flatM_get (τ : Nat → FV) : ∀ (L : List (Nat × Nat)) (k : Nat), k < L.length → (flatM τ L)[k * 2]? = some (.f .f32 (τ (L.getD k default).1)) ∧ (flatM τ L)[k * 2 + 1]? = some (.f .f32 (τ (L.getD k default).2))
  | [], k, h => by simp at h
  | i :: L, 0, _ => ⟨rfl, rfl⟩
  | i :: L, k + 1, h => by
    have := flatM_get τ L k (by simpa using h)
    rw [show (k + 1) * 2 = k * 2 + 1 + 1 by omega]
    simpa [flatM] using this
abbrev entM (g : Nat) (τ : Nat → FV) (L : List (Nat × Nat)) (c : Nat) : Ent := ⟨g, 43, flatM τ L, c * 2⟩
abbrev slM (w : World) (τ : Nat → FV) (L : List (Nat × Nat)) : AV := AV.sl w 2 (flatM τ L)
/-- A slice whose block is new, 'sz' cells an element. -/
def AV.litM (xs : List AV) : AV := .p fun w v => Rd w 2 v xs
class MtL (P : Program) (t : TypeId) (el : outParam TypeId) : Prop where
  l1 : ∀ (w : World) (x y : Nat), (Instr.buildSlice t 1 #[(0, .agg #[.float .f32 x, .float .f32 y])]).run P w = .ok (.slice (some ⟨w.heap.size, 0, none⟩) 1 1) (w.alloc (.cells #[.float .f32 x, .float .f32 y] el))
instance mtL : MtL Try.prog 39 43 := ⟨fun w x y => by kernel_rfl⟩
class MtB (P : Program) (t : TypeId) : Prop where
  b2 : ∀ (w : World) (x y : Nat), (Instr.build t #[(0, .float .f32 x), (1, .float .f32 y)]).run P w = .ok (.agg #[.float .f32 x, .float .f32 y]) w
instance mtB : MtB Try.prog 43 := ⟨fun w x y => by kernel_rfl⟩
section
variable {P : Program} {t el : TypeId} {S : World → Prop} {N : Nat} {e : Env} {Q : Exit → Env → World → Prop} {ops : Array Oper} {l : List Oper} {dst : Option Tmp} {ty : TypeId} {pos : String} {after : Array Edge} {guard : Option (Nat × Bool)}
variable {w0 : World} {gs : List Nat} {H : List Ent}
theorem opj_buildM [hf : MtB P t] {X Y : Operand} {x y : FV} (hx : e.ev X = some (.f .f32 x)) (hy : e.ev Y = some (.f .f32 y)) :
    OpJ P S e ⟨dst, .build t #[(0, X), (1, Y)], ty, pos, after, guard⟩ (.agg [.f .f32 x, .f .f32 y]) :=
  opj_value fun ac w _ h => by
    have hy' := h Y (by simp [Op.operands]) _ hy
    have hx' := h X (by simp [Op.operands]) _ hx
    obtain ⟨p, h2, e2, l2⟩ := hx'.inv_f
    obtain ⟨q, h3, e3, l3⟩ := hy'.inv_f
    refine ⟨.agg #[.float .f32 p, .float .f32 q], w, ?_, Ext.refl _, .agg (vs := [_, _]) (.cons ?_ (.cons ?_ .nil))⟩
    · simp only [execOp, List.map_toArray, List.map_cons, List.map_nil, h2, h3, Sem.run_bind, hf.b2, Result.andThen_ok]
      rfl
    · rw [← h2]; exact hx'.any rfl
    · rw [← h3]; exact hy'.any rfl
theorem opj_litM [hb : MtL P t el] {X : Operand} {x y : FV} (hx : e.ev X = some (.agg [.f .f32 x, .f .f32 y])) : OpJ P S e ⟨dst, .buildSlice t 1 #[(0, X)], ty, pos, after, guard⟩ (AV.litM [.f .f32 x, .f .f32 y]) :=
  opj_value fun ac w _ h => by
    obtain ⟨vs, h1, hr⟩ := (h X (by simp [Op.operands]) _ hx).inv_agg
    obtain ⟨u1, r1, rfl, hu1, hr⟩ := hr.inv_cons
    obtain ⟨u2, r2, rfl, hu2, hr⟩ := hr.inv_cons
    obtain rfl := hr.inv_nil
    have f1 := hu1
    have f2 := hu2
    obtain ⟨p, rfl, _, _⟩ := hu1.inv_f
    obtain ⟨q, rfl, _, _⟩ := hu2.inv_f
    refine ⟨.slice (some ⟨w.heap.size, 0, none⟩) 1 1, w.alloc (.cells #[.float .f32 p, .float .f32 q] el), ?_, Ext.alloc w _, Rel.p (φ := fun w v => Rd w 2 v [.f .f32 x, .f .f32 y]) (fun _ _ _ hw h => Rd.ext h hw) ?_⟩
    · simp only [execOp, List.map_toArray, List.map_cons, List.map_nil, h1, Sem.run_bind, hb.l1, Result.andThen_ok]
      rfl
    · refine ⟨_, 1, 1, rfl, rfl, Nat.le_refl _, by simp [maxLen], fun i x hi => ⟨_, rfl, rfl, ?_⟩⟩
      have hcell : ∀ j u, #[Value.float .f32 p, Value.float .f32 q][j]? = some u → (w.alloc (.cells #[.float .f32 p, .float .f32 q] el)).cell? ⟨w.heap.size, 0 + j, none⟩ = some u := fun j u hu => by
        simp only [World.cell?, heap_alloc_new, Nat.zero_add]
        simpa using hu
      match i, hi with
      | 0, hi => cases hi; exact ⟨_, hcell 0 _ rfl, fun w => f1.any rfl⟩
      | 1, hi => cases hi; exact ⟨_, hcell 1 _ rfl, fun w => f2.any rfl⟩
theorem rs_appendM (k : Nat) (L : List (Nat × Nat)) (i : Nat × Nat) (τ : Nat → FV) {d : Tmp} {A B : Operand} {g cap : Nat} {z : Value} {b : Nat} [hu : TyU P t (.slice el)] [hi : TyI P el z 2 b] (hd : Nat.blt d N = true)
    (hA : e.ev A = some (.raw (.slice (some ⟨g, 0, none⟩) L.length cap))) (hB : e.ev B = some (AV.litM [.f .f32 (τ i.1), .f .f32 (τ i.2)])) (hH : H[k]? = some ⟨g, el, flatM τ L, cap * 2⟩) (hn : L.length ≤ cap ∧ cap ≤ maxLen)
    (hm : L.length < 2 ^ 40) (hby : Nat.ble b 64 = true) (hzc : z.cells.size = 2)
    (hk : ∀ g' cap', (L ++ [i]).length ≤ cap' → cap' ≤ maxLen → RS P N ops l ((d, .raw (.slice (some ⟨g', 0, none⟩) (L ++ [i]).length cap')) :: e.keep) (StR R w0 gs (H.set k ⟨g', el, flatM τ (L ++ [i]), cap' * 2⟩)) Q) :
    RS P N ops (⟨some d, .call { callee := .builtin .append, args := #[A, B], argTypes := #[t, t] }, ty, pos, after, none⟩ :: l) e (StR R w0 gs H) Q := by
  have hb := Nat.le_of_ble_eq_true hby
  have hll : (L ++ [i]).length = L.length + 1 := by simp
  rw [hll] at hk
  intro a w hS hF
  refine wpList_plain rfl fun K hK => ?_
  have hA' := (hF.eval hA).inv_raw
  obtain ⟨g', cap', w', h2, h3, hr, hS'⟩ := append_run (P := P) (t := t) (el := el) (d := d) (ty := ty) (pos := pos) (after := after) (m := 1) k hS (by decide) hA' (hF.eval hB).inv_p.2 hH ⟨flatM_len τ L, hn.1, hn.2⟩ rfl (Nat.le_refl _) rfl (by simp only [maxLen]; omega)
    (Nat.le_trans (Nat.mul_le_mul (show L.length + 1 ≤ 2 ^ 40 from by omega) hb) (by decide)) hzc
  unfold Oper.wp
  rw [hr]
  rw [flatM_snoc] at hS'
  exact hK _ _ (hk g' cap' h2 h3 _ w' hS' (Fr.put (some d) hF.keep (fun _ h => by cases h; exact Nat.le_of_ble_eq_true hd) .raw))
theorem opj_lenM {R0 : World → Prop} {τ : Nat → FV} {L : List (Nat × Nat)} {X : Operand} {t2 : TypeId} {b : Nat} {z : Value} [hu : TyU P t (.slice el)] [hi : TyI P el z 2 b] (hx : e.ev X = some (slM w0 τ L)) :
    OpJ P (StR R0 w0 [] H) e ⟨dst, .call { callee := .builtin .len, args := #[X], argTypes := #[t] }, t2, pos, after, guard⟩ (.raw (.int .i64 (L.length : Int))) := by
  have h := opj_len_sl (P := P) (R0 := R0) (H := H) (dst := dst) (pos := pos) (after := after) (guard := guard) (t2 := t2) (hu := hu) (hi := hi) (by decide) hx
  have e1 : (flatM τ L).length / 2 = L.length := by rw [flatM_len]; omega
  simpa [e1] using h
/-- A meet of a list that came in. -/
theorem opj_indexM {R0 : World → Prop} {τ : Nat → FV} {L : List (Nat × Nat)} {X I : Operand} {i : Int} {b : Nat} {z : Value} [hu : TyU P t (.slice el)] [hi : TyI P el z 2 b]
    (hx : e.ev X = some (slM w0 τ L)) (hI : e.ev I = some (.raw (.int .i64 i))) (h0 : 0 ≤ i) (hlt : i < (L.length : Int)) :
    OpJ P (StR R0 w0 [] H) e ⟨dst, .indexAddr t X I, ty, pos, after, guard⟩ (AV.ptrQ w0 [.f .f32 (τ (L.getD i.toNat default).1), .f .f32 (τ (L.getD i.toNat default).2)]) :=
  opj_value fun a w hS h => by
    have h1 := (h X (by simp [Op.operands]) _ hx).inv_q
    have h2 := (h I (by simp [Op.operands]) _ hI).inv_raw
    obtain ⟨ad, len, cap, hv, hl, hc, hm, hr⟩ := h1
    rw [flatM_len] at hl
    have hlen : len = L.length := by omega
    obtain ⟨g1, g2⟩ := flatM_get τ L i.toNat (by omega)
    obtain ⟨bb, hbb, hsp, u1, hu1, hev1⟩ := hr _ _ g1
    obtain ⟨bb', hbb', _, u2, hu2, hev2⟩ := hr _ _ g2
    subst hbb
    cases hbb'
    have hil' : i < (len : Int) := by omega
    have hP : PtrTo [.f .f32 (τ (L.getD i.toNat default).1), .f .f32 (τ (L.getD i.toNat default).2)] w0 (.pointer (some (bb.add (i.toNat * 2)))) := by
      rw [addr_add bb hsp]
      refine ⟨_, rfl, rfl, fun j y hj => ?_⟩
      match j, hj with
      | 0, hj =>
        cases hj
        exact ⟨u1, by simpa using hu1, hev1⟩
      | 1, hj =>
        cases hj
        exact ⟨u2, by simpa [Nat.add_assoc] using hu2, hev2⟩
    refine ⟨_, w, ?_, Ext.refl _, .q hP⟩
    simp [execOp, h2, hv, Instr.indexAt, asIntOf, run_underlying hu.h, run_size hi, h0, hil']
end
/-- A closure over two variables. -/
def clo2 (w : World) (c : FuncId) (xs ys : List AV) : AV := .q fun v => ∃ g h, v = .func (.func c) #[] [.pointer (some ⟨g, 0, none⟩), .pointer (some ⟨h, 0, none⟩)].toArray ∧ PtrTo xs w (.pointer (some ⟨g, 0, none⟩)) ∧ PtrTo ys w (.pointer (some ⟨h, 0, none⟩))
section
variable {w0 : World} {gs : List Nat} {H : List Ent} {args : List AV} {A' : World → List AV}
theorem own_ptrTo {R0 : World → Prop} {g k : Nat} {T : TypeId} {xs : List AV} {w : World} (hS : StR R0 w0 gs H w) (hm : (⟨g, T, xs, k⟩ : Ent) ∈ H) : PtrTo xs w (.pointer (some ⟨g, 0, none⟩)) := by
  refine ⟨_, rfl, rfl, fun i y hy => ?_⟩
  obtain ⟨u, hu, hev⟩ := (hS.own _ hm).2.cell hy
  exact ⟨u, by rw [Nat.zero_add]; exact hu, hev⟩
theorem Takes.clo2 {R0 : World → Prop} {c : FuncId} {g h k k' : Nat} {T T' : TypeId} {xs ys : List AV} (hm : (⟨g, T, xs, k⟩ : Ent) ∈ H) (hm' : (⟨h, T', ys, k'⟩ : Ent) ∈ H) (ht : Takes (StR R0 w0 gs H) args A') :
    Takes (StR R0 w0 gs H) (.raw (.func (.func c) #[] [.pointer (some ⟨g, 0, none⟩), .pointer (some ⟨h, 0, none⟩)].toArray) :: args) (fun w => Go.Ab.clo2 w c xs ys :: A' w) := fun w vs hS hr => by
  obtain ⟨v, r, rfl, hv, hrr⟩ := hr.inv_cons
  rw [hv.inv_raw]
  exact .cons (.q ⟨g, h, rfl, own_ptrTo hS hm, own_ptrTo hS hm'⟩) (ht w r hS hrr)
theorem mono_clo2 (c : FuncId) (xs ys : List AV) {w w' : World} {v : Value} (h : Ext w w') (hv : ∃ g h, v = .func (.func c) #[] [.pointer (some ⟨g, 0, none⟩), .pointer (some ⟨h, 0, none⟩)].toArray ∧ PtrTo xs w (.pointer (some ⟨g, 0, none⟩)) ∧ PtrTo ys w (.pointer (some ⟨h, 0, none⟩))) :
    ∃ g h, v = .func (.func c) #[] [.pointer (some ⟨g, 0, none⟩), .pointer (some ⟨h, 0, none⟩)].toArray ∧ PtrTo xs w' (.pointer (some ⟨g, 0, none⟩)) ∧ PtrTo ys w' (.pointer (some ⟨h, 0, none⟩)) := by
  obtain ⟨g, k, hv, h1, h2⟩ := hv
  exact ⟨g, k, hv, mono_ptrTo xs _ _ _ h h1, mono_ptrTo ys _ _ _ h h2⟩
theorem Takes.cloQ {R0 : World → Prop} {c : FuncId} {xs ys : List AV} (ht : Takes (StR R0 w0 [] H) args A') : Takes (StR R0 w0 [] H) (Go.Ab.clo2 w0 c xs ys :: args) (fun w => Go.Ab.clo2 w c xs ys :: A' w) := fun w vs hS hr => by
  obtain ⟨v, r, rfl, hv, hrr⟩ := hr.inv_cons
  exact .cons (.q (mono_clo2 c xs ys hS.ext0 hv.inv_q)) (ht w r hS hrr)
theorem Takes.slM {R0 : World → Prop} {τ : Nat → FV} {L : List (Nat × Nat)} (ht : Takes (StR R0 w0 [] H) args A') : Takes (StR R0 w0 [] H) (Go.Ab.slM w0 τ L :: args) (fun w => Go.Ab.slM w τ L :: A' w) := fun w vs hS hr => by
  obtain ⟨v, r, rfl, hv, hrr⟩ := hr.inv_cons
  exact .cons (.q (hS.rd hv.inv_q)) (ht w r hS hrr)
theorem Takes.meets {R0 : World → Prop} {g c : Nat} {τ : Nat → FV} {L : List (Nat × Nat)} (hm : entM g τ L c ∈ H) (hc : L.length ≤ c ∧ c ≤ maxLen) (ht : Takes (StR R0 w0 gs H) args A') :
    Takes (StR R0 w0 gs H) (.raw (.slice (some ⟨g, 0, none⟩) L.length c) :: args) (fun w => Go.Ab.slM w τ L :: A' w) := fun w vs hS hr => by
  obtain ⟨v, r, rfl, hv, hrr⟩ := hr.inv_cons
  exact .cons (.q (rd_ownM hS hv hm (flatM_len τ L) hc)) (ht w r hS hrr)
end
attribute [local irreducible] WS RS Done OpJ Then InBlock Round Ret Env.sub FnH
attribute [local irreducible] tab tabC
theorem nearM_fn {J : Nat} {i k : Nat × Nat} {N : FV} (hJ : J < 9) (hi : i.1 < 2 ^ J ∧ i.2 < 2 ^ J) (hk : k.1 < 2 ^ J ∧ k.2 < 2 ^ J) (hN : Vl .f32 (fbin .mul .f32 (fv .f32 1082130432) N) (((4 : Nat) : Rat) / ((2 ^ J : Nat) : Rat))) :
    Fn Try.prog 45 (fun w => [.agg [.f .f32 (tmM J k.1), .f .f32 (tmM J k.2)], AV.ptrQ w [.f .f32 (tmM J i.1), .f .f32 (tmM J i.2)], AV.ptrQ w [.f .f32 N]]) (.raw (.bool (nearB i k))) := by
  have hA1 := absolute_fn (tm_sub hJ hi.1 hk.1)
  have hA2 := absolute_fn (tm_sub hJ hi.2 hk.2)
  have hT1 := tm_abs hJ hi.1 hk.1 hN
  have hT2 := tm_abs hJ hi.2 hk.2 hN
  obtain ⟨b1, hb1⟩ : ∃ b, b = (decide (i.1 ≤ k.1 + 4) && decide (k.1 ≤ i.1 + 4)) := ⟨_, rfl⟩
  obtain ⟨b2, hb2⟩ : ∃ b, b = (decide (i.2 ≤ k.2 + 4) && decide (k.2 ≤ i.2 + 4)) := ⟨_, rfl⟩
  have hnB : nearB i k = (b1 && b2) := by unfold nearB; rw [hb1, hb2, Bool.and_assoc]
  rw [hnB]
  rw [← hb1] at hT1
  rw [← hb2] at hT2
  clear hb1 hb2 hnB
  refine fn_intro Try.func45 rfl Try.ntmps45 (fun _ => Nat.le_of_ble_eq_true rfl) fun w0 => ?_
  repeat first | refine zaa rfl (zaz rfl) ?_ | refine zah ?_ | (refine zcr ?_; refine zcs ?_) | (refine zdb ?_; first | refine zdc ?_ | refine zdd ?_) | (refine zak rfl rfl rfl ?_; intro g)
  refine ws_draw (n := 21) mixed (by decide +kernel) ?_
  repeat first | refine zap rfl (zay rfl) ?_ | (refine zar ?_; first | refine zap rfl (zba rfl rfl rfl) ?_ | refine zap rfl (zbd rfl rfl rfl) ?_) | (refine zas ?_; (refine zap rfl (zci rfl rfl (hA1) ?_) ?_; (focus ((repeat (first | exact Takes.nil | refine Takes.sl ?_ | refine Takes.lit ?_ | refine Takes.fa ?_ | refine Takes.fc ?_ | refine Takes.net ?_ | (refine Takes.ownE ?_ ?_ ?_ ?_ ?_; (focus (exact ⟨_, _, (by (repeat (first | exact mh | refine mt ?_)); done)⟩)); (focus (simp; done)); (focus omega); (focus (simp only [maxLen]; omega))) | refine Takes.same ?_)); done)))) | (refine zat ?_; refine zap rfl (zcf rfl rfl (by (repeat (first | exact mh | refine mt ?_)); done) rfl) ?_) | refine zap rfl (zcd rfl) ?_ | refine zap rfl (opj_fieldZ rfl) ?_ | refine zap rfl (opj_loadZ rfl rfl rfl) ?_
  rw [hT1]
  cases b1
  · repeat first | refine zax rfl rfl rfl rfl ?_ | refine zap rfl (zaz rfl) ?_ | refine zap rfl (zcb rfl rfl) ?_ | refine zav ?_
    repeat first | refine zah ?_ | (refine zcr ?_; refine zcs ?_) | (refine zdb ?_; refine zdg ?_)
    exact done_ret1 rfl () rfl trivial (List.nil_sublist _)
  · repeat first | refine zaw rfl rfl ?_ | refine zap rfl (zaz rfl) ?_ | (refine zar ?_; first | refine zap rfl (zba rfl rfl rfl) ?_ | refine zap rfl (zbd rfl rfl rfl) ?_) | (refine zas ?_; (refine zap rfl (zci rfl rfl (hA2) ?_) ?_; (focus ((repeat (first | exact Takes.nil | refine Takes.sl ?_ | refine Takes.lit ?_ | refine Takes.fa ?_ | refine Takes.fc ?_ | refine Takes.net ?_ | (refine Takes.ownE ?_ ?_ ?_ ?_ ?_; (focus (exact ⟨_, _, (by (repeat (first | exact mh | refine mt ?_)); done)⟩)); (focus (simp; done)); (focus omega); (focus (simp only [maxLen]; omega))) | refine Takes.same ?_)); done)))) | (refine zat ?_; refine zap rfl (zcf rfl rfl (by (repeat (first | exact mh | refine mt ?_)); done) rfl) ?_) | refine zap rfl (zcd rfl) ?_ | refine zap rfl (zca rfl rfl) ?_ | refine zav ?_ | refine zap rfl (opj_fieldZ rfl) ?_ | refine zap rfl (opj_loadZ rfl rfl rfl) ?_
    rw [hT2]
    cases b2
    all_goals
      repeat first | refine zah ?_ | (refine zcr ?_; refine zcs ?_) | (refine zdb ?_; refine zdg ?_)
      exact done_ret1 rfl () rfl trivial (List.nil_sublist _)
theorem indexFuncM_fn {τ : Nat → FV} {xs ys : List AV} (L : List (Nat × Nat)) (hL : L.length < 2 ^ 62) (c : FuncId) [HasBody Try.prog c] (p : Nat × Nat → Bool) (hp : ∀ x ∈ L, Fn Try.prog c (fun w => [.agg [.f .f32 (τ x.1), .f .f32 (τ x.2)], AV.ptrQ w xs, AV.ptrQ w ys]) (.raw (.bool (p x)))) :
    Fn Try.prog 69 (fun w => [slM w τ L, clo2 w c xs ys]) (.raw (.int .i64 (idxOf p L))) := by
  refine fn_intro Try.func69 rfl Try.ntmps69 (fun _ => Nat.le_of_ble_eq_true rfl) fun w0 => ?_
  refine ws_q (t := 1) rfl fun v hv => ?_
  obtain ⟨gg, gh, rfl, hp1, hp2⟩ := hv
  repeat first | refine zaa rfl (zay rfl) ?_ | refine zaa rfl (zaz rfl) ?_ | refine zah ?_ | (refine zcr ?_; refine zcs ?_) | (refine zdb ?_; first | refine zdc ?_ | refine zdd ?_ | refine zde ?_) | refine zaa rfl (opj_lenM rfl) ?_
  refine ws_loop (ι := Nat) (fun k => [(0, slM w0 τ L), (1, .raw (.func (.func c) #[] [.pointer (some ⟨gg, 0, none⟩), .pointer (some ⟨gh, 0, none⟩)].toArray)), (7, .raw (.int .i64 L.length)), (8, .raw (.int .i64 k))]) (fun _ => St w0 [] []) (fun k => k ≤ L.length ∧ ∀ i, i < k → p (L.getD i default) = false) (fun k => L.length - k) 0 ⟨Nat.zero_le _, fun i hi => by omega⟩ ?_ (fun _ h => h) (fun k hk => ?_)
  · (repeat (first | exact Env.sub_nil _ | refine Env.sub_cons rfl ?_))
  · obtain ⟨hk, hall⟩ := hk
    repeat first | (refine zac ?_; refine zaa rfl (zbe rfl rfl) ?_) | refine zah ?_ | (refine zcr ?_; refine zcs ?_) | (refine zdb ?_; first | refine zdc ?_ | refine zdd ?_)
    refine ws_cond rfl (fun hd => ?_) (fun hd => ?_)
    · have hlt : (k : Int) < L.length := of_decide_eq_true hd
      have hpk := hp (L.getD (k : Int).toNat default) (by rw [show (k : Int).toNat = k by omega, List.getD_eq_getElem?_getD, List.getElem?_eq_getElem (by omega)]; exact List.getElem_mem _)
      repeat first | refine zaa rfl (zay rfl) ?_ | refine zaa rfl (zaz rfl) ?_ | refine zah ?_ | (refine zcr ?_; refine zcs ?_) | (refine zdb ?_; first | refine zdc ?_ | refine zdd ?_ | refine zde ?_ | refine zdf ?_) | refine zaa rfl (opj_indexM rfl rfl (by omega) hlt) ?_ | refine zaa rfl (opj_loadAZ rfl rfl rfl) ?_ | refine zaa rfl (opj_callC (cap := [.pointer (some ⟨gg, 0, none⟩), .pointer (some ⟨gh, 0, none⟩)]) rfl rfl hpk (Takes.same (Takes.ptrW hp1 (Takes.ptrW hp2 Takes.nil)))) ?_
      refine ws_cond rfl (fun hd => ?_) (fun hd => ?_)
      · repeat first | refine zaa rfl (zay rfl) ?_ | refine zaa rfl (zaz rfl) ?_ | refine zah ?_ | (refine zcr ?_; first | refine zcs ?_ | refine zct ?_ | refine zcw ?_ | refine zcz ?_) | (refine zdb ?_; first | refine zdc ?_ | refine zdd ?_ | refine zdg ?_)
        exact done_ret1 rfl () (by rw [idxOf_found (by omega) hall hd]; rfl) trivial (List.nil_sublist _)
      · repeat first | refine zaa rfl (zay rfl) ?_ | (refine zac ?_; refine zaa rfl (zbb rfl rfl (by omega)) ?_) | refine zah ?_ | (refine zcr ?_; first | refine zcs ?_ | refine zcv ?_) | (refine zdb ?_; first | refine zdd ?_ | refine zdf ?_)
        refine done_round (k + 1) ⟨by omega, fun i hi => ?_⟩ (by omega) ?_ (fun _ h => h)
        · rcases Nat.lt_or_ge i k with h | h
          · exact hall i h
          · obtain rfl : i = k := by omega
            exact hd
        · (repeat (first | exact Env.sub_nil _ | refine Env.sub_cons rfl ?_))
    · have hge : ¬ (k : Int) < L.length := of_decide_eq_false hd
      repeat first | refine zaa rfl (zaz rfl) ?_ | refine zah ?_ | (refine zcr ?_; first | refine zcs ?_ | refine zcu ?_ | refine zcx ?_ | refine zda ?_) | (refine zdb ?_; first | refine zdc ?_ | refine zdd ?_ | refine zdg ?_ | refine zdh ?_)
      exact done_ret1 rfl () (by rw [idxOf_none (fun i hi => hall i (by omega))]; rfl) trivial (List.nil_sublist _)
theorem containsFuncM_fn {τ : Nat → FV} {xs ys : List AV} (L : List (Nat × Nat)) (hL : L.length < 2 ^ 62) (c : FuncId) [HasBody Try.prog c] (p : Nat × Nat → Bool) (hp : ∀ x ∈ L, Fn Try.prog c (fun w => [.agg [.f .f32 (τ x.1), .f .f32 (τ x.2)], AV.ptrQ w xs, AV.ptrQ w ys]) (.raw (.bool (p x)))) :
    Fn Try.prog 44 (fun w => [slM w τ L, clo2 w c xs ys]) (.raw (.bool (L.any p))) := by
  have hI := indexFuncM_fn (τ := τ) (xs := xs) (ys := ys) L hL c p hp
  refine fn_intro Try.func44 rfl Try.ntmps44 (fun _ => Nat.le_of_ble_eq_true rfl) fun w0 => ?_
  repeat first | refine zaa rfl (zay rfl) ?_ | refine zaa rfl (zaz rfl) ?_ | (refine zac ?_; refine zaa rfl (zbh rfl rfl) ?_) | refine zah ?_ | (refine zcr ?_; refine zcs ?_) | (refine zdb ?_; first | refine zdc ?_ | refine zdd ?_ | refine zdg ?_) | refine zaa rfl (zci rfl rfl hI (Takes.slM (Takes.cloQ Takes.nil))) ?_
  exact done_ret1 rfl () (by rw [← idxOf_nonneg]; rfl) trivial (List.nil_sublist _)
end Go.Ab
