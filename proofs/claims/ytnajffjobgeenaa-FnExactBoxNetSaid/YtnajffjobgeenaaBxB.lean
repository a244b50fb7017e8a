/- Regions in all their orders, up to where they meet; the arrays of a box. No conditions. -/
import Derived.Test.YtnajffjobgeenaaBxA
import Derived.Test.YtnajffjobgeenaaDrw
namespace Go.Ab
open Go.Proofs
variable {R : World → Prop} [RStab R]
section
variable {P : Program} {t el : TypeId} {S : World → Prop} {N : Nat} {e : Env} {Q : Exit → Env → World → Prop} {ops : Array Oper} {l : List Oper} {dst : Option Tmp} {ty : TypeId} {pos : String} {after : Array Edge} {guard : Option (Nat × Bool)}
variable {w0 : World} {gs : List Nat} {H : List Ent}
theorem RS.and {p : Prop} (h : p → RS P N ops l e S Q) : RS P N ops l e (fun w => p ∧ S w) Q := fun a w ⟨hp, hw⟩ hF => h hp a w hw hF
/-- The first n are listed, no others. -/
def firstB (L : Array Bool) (n : Nat) : Bool := decide (n ≤ L.size) && (List.range L.size).all fun i => L.getD i false == decide (i < n)
theorem firstB_spec {L : Array Bool} {n : Nat} (h : firstB L n = true) (i : Nat) : Listed L i ↔ i < n := by
  unfold firstB at h
  simp only [Bool.and_eq_true, decide_eq_true_eq, List.all_eq_true, List.mem_range] at h
  obtain ⟨h1, h2⟩ := h
  unfold Listed
  rcases Nat.lt_or_ge i L.size with hi | hi
  · have := h2 i hi
    rw [beq_iff_eq] at this
    rw [this, decide_eq_true_iff]
  · constructor
    · intro hh
      rw [Array.getD_eq_getD_getElem?, Array.getElem?_eq_none hi] at hh
      cases hh
    · intro hh; omega
theorem ra_tail {n fuel : Nat} {L : Array Bool} (hchk : drawOk ops n = true) (hL : firstB L n = true) (hsz : Nat.beq L.size ops.size = true) (hf : Nat.ble ops.size (n + fuel) = true) (h : RS P N ops (ops.toList.drop n) e S Q) : RA P N ops L fuel e S Q := by
  obtain ⟨hn, _, hmust, hback⟩ := drawOk_spec hchk
  exact fun a w hS hF => wpAny_tail (P := P) hmust hback fuel n L a w (Nat.le_refl _) hn (Nat.eq_of_beq_eq_true hsz) (firstB_spec hL) (Nat.le_of_ble_eq_true hf) (h a w hS hF)
theorem ws_cut {n fuel id : Nat} (L6 : Array Bool) (E : Nat → Nat → Env) (SF : Nat → Nat → World → Prop) [Cl S] (hm : P.follows .mixedOrders = true) (hchk : drawOk ops n = true) (hL : firstB L6 n = true) (hsz : Nat.beq L6.size ops.size = true) (hf : Nat.ble ops.size (n + fuel) = true)
    (htail : ∀ m r, RS P N ops (ops.toList.drop n) (E m r) (SF m r) Q) (h : (∀ m r, RA P N ops L6 fuel (E m r) (SF m r) Q) → RA P N ops (Array.replicate ops.size false) ops.size e S Q) : WS P N (.region id ops true) e S Q :=
  ws_enum hm (h fun m r => ra_tail hchk hL hsz hf (htail m r))
theorem RA.toL {x n fuel : Nat} {L L6 : Array Bool} {E : Nat → Nat → Env} {SF : Nat → Nat → World → Prop} (hcut : ∀ m r, RA P N ops L6 fuel (E m r) (SF m r) Q) (m r : Nat) (_ : e.look x = some (.raw (.slice (some ⟨m, 0, none⟩) n r))) (hL : L = L6) (hs : Env.sub (E m r) e) (hw : ∀ w, S w → SF m r w) :
    RA P N ops L fuel e S Q := by
  subst hL
  exact fun a w hS hF => hcut m r a w (hw w hS) (hF.sub hs)
theorem ro_callN {X : Type} {A : World → List AV} {mk : X → AV} {post : X → List Ent} {good : X → Prop} {c : FuncId} {xs : List Operand} {F : Operand} {args : List AV} {d : Tmp} {ts : Array TypeId} {i fuel : Nat} {L : Array Bool} [hb : HasBody P c]
    (ho : ops[i]? = some ⟨some d, .call { callee := .value F, args := xs.toArray, argTypes := ts }, ty, pos, after, none⟩)
    (hc : FnH P c A [] mk post good) (hF' : e.ev F = some (.raw (.func (.func c) #[] #[]))) (hx : evL e xs = some args) (ht : Takes (StR R w0 gs H) args A) (hd : Nat.blt d N = true)
    (h : ∀ y, good y → RA P N ops (L.setIfInBounds i true) fuel ((d, mk y) :: e) (StR R w0 gs (post y ++ H)) Q) : RO P N ops i L fuel e (StR R w0 gs H) Q := by
  intro a w hS hF
  unfold wpOp
  simp only [ho]
  rw [if_pos (by simp [Region.wanted])]
  obtain ⟨fnc, hf, hbd, hn⟩ := hb.h
  have h1 := (hF.eval hF').inv_raw
  have hrl : RelL w (A w) (xs.map a.eval) := ht w _ hS (evL_rel hx fun x _ y hy => hF.eval hy)
  have hcall := hc w _ hrl (fun _ h => by cases h) List.Pairwise.nil
  left
  unfold Oper.wp
  have hrun : (execOp a.eval ⟨some d, .call { callee := .value F, args := xs.toArray, argTypes := ts }, ty, pos, after, none⟩).run P w = .ok (.enter c (xs.map a.eval).toArray) w := by
    simp [execOp, resolve, h1, Deferred.ofValue, invoke, run_callFn hf hbd hn]
  rw [hrun]
  refine Calls.mono hcall fun x w' ⟨v, y, hx', hy, hrv, hm, hp, hpn⟩ => ?_
  subst hx'
  exact h y hy _ w' (StR.call (A := []) (H := H) hS hm hp hpn) (Fr.put (some d) (hF.ext hm.to_ext) (fun _ h => by cases h; exact Nat.le_of_ble_eq_true hd) hrv)
end
theorem entT_B (g : Nat) (T : TypeId) (L : List T3) (c : Nat) : entT g T L c = entF g T (3 * L.length) (sOf L) (c * 3) := by unfold entT entF; rw [cellsT_tab]
/-! The corners of a box. -/
def boxC : List (List Int) := [[0, 2, 3, 1], [4, 5, 7, 6], [0, 1, 5, 4], [2, 6, 7, 3], [0, 4, 6, 2], [1, 3, 7, 5]]
def boxL : List Int := [0, 2, 3, 1, 4, 5, 7, 6, 0, 1, 5, 4, 2, 6, 7, 3, 0, 4, 6, 2, 1, 3, 7, 5]
theorem chunks_box : chunks boxL 6 = boxC := by decide
def bq (k j : Nat) : Int := (boxC.getD k []).getD j 0
theorem bq_row {k : Nat} (h : k < 6) : boxC.getD k [] = [bq k 0, bq k 1, bq k 2, bq k 3] := by
  have : k = 0 ∨ k = 1 ∨ k = 2 ∨ k = 3 ∨ k = 4 ∨ k = 5 := by omega
  rcases this with rfl | rfl | rfl | rfl | rfl | rfl <;> rfl
abbrev quadA (a b c d : Int) : List AV := [intA a, intA b, intA c, intA d]
class QuadT (P : Program) (tq : TypeId) : Prop where
  b4 : ∀ (w : World) (a b c d : Int), (Instr.build tq #[(0, .int .i64 a), (1, .int .i64 b), (2, .int .i64 c), (3, .int .i64 d)]).run P w = .ok (.agg #[.int .i64 a, .int .i64 b, .int .i64 c, .int .i64 d]) w
class BoxT (P : Program) (tb : TypeId) : Prop where
  b6 : ∀ (w : World), (Instr.build tb #[(0, .agg #[.int .i64 0, .int .i64 2, .int .i64 3, .int .i64 1]), (1, .agg #[.int .i64 4, .int .i64 5, .int .i64 7, .int .i64 6]), (2, .agg #[.int .i64 0, .int .i64 1, .int .i64 5, .int .i64 4]), (3, .agg #[.int .i64 2, .int .i64 6, .int .i64 7, .int .i64 3]), (4, .agg #[.int .i64 0, .int .i64 4, .int .i64 6, .int .i64 2]), (5, .agg #[.int .i64 1, .int .i64 3, .int .i64 7, .int .i64 5])]).run P w = .ok (.agg (boxL.map fun x => Value.int .i64 x).toArray) w
  ix : ∀ (w : World) (k : Nat), k < 6 → (Instr.index tb (.agg (boxL.map fun x => Value.int .i64 x).toArray) (.int .i64 (k : Int))).run P w = .ok (.agg #[.int .i64 (bq k 0), .int .i64 (bq k 1), .int .i64 (bq k 2), .int .i64 (bq k 3)]) w
instance quadTi : QuadT Try.prog 133 := ⟨fun w a b c d => by kernel_rfl⟩
instance boxTi : BoxT Try.prog 134 := ⟨fun w => by kernel_rfl, fun w k h => match k, h with
  | 0, _ => by kernel_rfl
  | 1, _ => by kernel_rfl
  | 2, _ => by kernel_rfl
  | 3, _ => by kernel_rfl
  | 4, _ => by kernel_rfl
  | 5, _ => by kernel_rfl⟩
theorem rell_ints {w : World} : ∀ {L : List Int} {vs : List Value}, RelL w (L.map intA) vs → vs = L.map fun x => Value.int .i64 x
  | [], _, h => h.inv_nil
  | _ :: _, _, h => by
    obtain ⟨v, r, rfl, hv, hr⟩ := h.inv_cons
    rw [hv.inv_raw, rell_ints hr]
    rfl
theorem rel_agg4 {w : World} {a b c d : Int} {v : Value} (h : Rel w (.agg (quadA a b c d)) v) : v = .agg #[.int .i64 a, .int .i64 b, .int .i64 c, .int .i64 d] := by
  obtain ⟨vs, rfl, hr⟩ := h.inv_agg
  rw [rell_ints (L := [a, b, c, d]) hr]
  rfl
section
variable {P : Program} {tq tb : TypeId} {S : World → Prop} {e : Env} {dst : Option Tmp} {ty : TypeId} {pos : String} {after : Array Edge} {guard : Option (Nat × Bool)}
theorem opj_buildQ [hb : QuadT P tq] {X Y Z W : Operand} {a b c d : Int} (hx : e.ev X = some (intA a)) (hy : e.ev Y = some (intA b)) (hz : e.ev Z = some (intA c)) (hw : e.ev W = some (intA d)) :
    OpJ P S e ⟨dst, .build tq #[(0, X), (1, Y), (2, Z), (3, W)], ty, pos, after, guard⟩ (.agg (quadA a b c d)) :=
  opj_value fun ac w _ h => by
    have h1 := (h X (by simp [Op.operands]) _ hx).inv_raw
    have h2 := (h Y (by simp [Op.operands]) _ hy).inv_raw
    have h3 := (h Z (by simp [Op.operands]) _ hz).inv_raw
    have h4 := (h W (by simp [Op.operands]) _ hw).inv_raw
    refine ⟨_, w, ?_, Ext.refl _, .agg (vs := [.int .i64 a, .int .i64 b, .int .i64 c, .int .i64 d]) (.cons .raw (.cons .raw (.cons .raw (.cons .raw .nil))))⟩
    simp only [execOp, List.map_toArray, List.map_cons, List.map_nil, h1, h2, h3, h4, Sem.run_bind, hb.b4, Result.andThen_ok]
    rfl
theorem opj_buildB [hb : BoxT P tb] {A B C D E F : Operand} (hA : e.ev A = some (.agg (quadA 0 2 3 1))) (hB : e.ev B = some (.agg (quadA 4 5 7 6))) (hC : e.ev C = some (.agg (quadA 0 1 5 4))) (hD : e.ev D = some (.agg (quadA 2 6 7 3))) (hE : e.ev E = some (.agg (quadA 0 4 6 2))) (hF : e.ev F = some (.agg (quadA 1 3 7 5))) :
    OpJ P S e ⟨dst, .build tb #[(0, A), (1, B), (2, C), (3, D), (4, E), (5, F)], ty, pos, after, guard⟩ (.agg (boxL.map intA)) :=
  opj_value fun ac w _ h => by
    have h1 := rel_agg4 (h A (by simp [Op.operands]) _ hA)
    have h2 := rel_agg4 (h B (by simp [Op.operands]) _ hB)
    have h3 := rel_agg4 (h C (by simp [Op.operands]) _ hC)
    have h4 := rel_agg4 (h D (by simp [Op.operands]) _ hD)
    have h5 := rel_agg4 (h E (by simp [Op.operands]) _ hE)
    have h6 := rel_agg4 (h F (by simp [Op.operands]) _ hF)
    have hrel : RelL w (boxL.map intA) (boxL.map fun x => Value.int .i64 x) := by
      have := rell_raw w (boxL.map fun x => Value.int .i64 x)
      rw [List.map_map] at this
      exact this
    refine ⟨_, w, ?_, Ext.refl _, .agg hrel⟩
    simp only [execOp, List.map_toArray, List.map_cons, List.map_nil, h1, h2, h3, h4, h5, h6, Sem.run_bind, hb.b6, Result.andThen_ok]
    rfl
theorem opj_indexB [hb : BoxT P tb] {X I : Operand} {k : Nat} (hx : e.ev X = some (.agg (boxL.map intA))) (hI : e.ev I = some (.raw (.int .i64 (k : Int)))) (hk : k < 6) :
    OpJ P S e ⟨dst, .index tb X I, ty, pos, after, guard⟩ (.agg (quadA (bq k 0) (bq k 1) (bq k 2) (bq k 3))) :=
  opj_value fun ac w _ h => by
    obtain ⟨vs, h1, hr⟩ := (h X (by simp [Op.operands]) _ hx).inv_agg
    have h2 := (h I (by simp [Op.operands]) _ hI).inv_raw
    rw [rell_ints hr] at h1
    refine ⟨_, w, ?_, Ext.refl _, .agg (vs := [.int .i64 (bq k 0), .int .i64 (bq k 1), .int .i64 (bq k 2), .int .i64 (bq k 3)]) (.cons .raw (.cons .raw (.cons .raw (.cons .raw .nil))))⟩
    simp only [execOp, h1, h2, Sem.run_bind, hb.ix w k hk, Result.andThen_ok]
    rfl
end
end Go.Ab
