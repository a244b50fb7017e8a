/- What the reference's QuietList makes of a list. No conditions. -/
import Derived.Test.YtlnfbadoglllbaaQlA
namespace Go.Ab
open Go.Proofs
variable {R : World → Prop} [RStab R]
def diagK (i : Int) (r c : Int) : FV := if c = r ∧ r < i then q1 else q0
theorem diagK_succ (i : Int) : diagK (i + 1) = upd2 i i q1 (diagK i) := by
  funext r c
  show (if c = r ∧ r < i + 1 then q1 else q0) = (if r = i ∧ c = i then q1 else if c = r ∧ r < i then q1 else q0)
  by_cases h : r = i ∧ c = i
  · rw [if_pos h, if_pos (by omega)]
  · rw [if_neg h]
    by_cases h2 : c = r ∧ r < i
    · rw [if_pos h2, if_pos (by omega)]
    · rw [if_neg h2, if_neg (by omega)]
theorem lit3dd : ([cv (.float .f32 1065353216), cv (.float .f32 3221225472), cv (.float .f32 1065353216)] : List AV) = (tab 3 dd).map (AV.f .f32) := rfl
theorem bkK_low (M : Mx) (n : Nat) (b : Int → FV) {t : Int} : ∀ m : Nat, t ≤ (n : Int) - 1 - m → bkK M n b m t = b t
  | 0, _ => rfl
  | m + 1, h => by
    rw [bkK, bkS, put1_ne _ _ _ (by omega), bkJ_ne _ _ _ (by omega)]
    exact bkK_low M n b m (by omega)
/-- What the new list holds once m numbers are told. -/
def xT (M : Mx) (n : Nat) (b : Int → FV) (m : Nat) (t : Int) : FV := if (n : Int) - 1 - m < t then bkK M n b m t else q0
theorem mulB {a n : Int} (ha : 0 ≤ a ∧ a < 48) (hn : 0 ≤ n ∧ n ≤ 48) : 0 ≤ a * n ∧ a * n ≤ 2304 :=
  ⟨Int.mul_nonneg ha.1 hn.1, Int.le_trans (Int.mul_le_mul (show a ≤ 48 by omega) hn.2 hn.1 (by omega)) (by omega)⟩
section
variable {P : Program} {t el : TypeId} {S : World → Prop} {N : Nat} {e : Env} {Q : Exit → Env → World → Prop} {ops : Array Oper} {l : List Oper} {dst : Option Tmp} {ty : TypeId} {pos : String} {after : Array Edge} {guard : Option (Nat × Bool)}
variable {w0 : World} {gs : List Nat} {H : List Ent}
theorem opj_loadFl {R0 : World → Prop} {X : Operand} {g n c : Nat} {M : Mx} {i j : Int} {T : TypeId} {d : TypeDesc} [hd : TyU P t d] (ha : aggD d = false)
    (hx : e.ev X = some (.raw (.pointer (some ⟨g, (i * n + j).toNat * 1, none⟩)))) (hm : entF g T (n * n) (flat n M) c ∈ H) (hi : 0 ≤ i ∧ i < n) (hj : 0 ≤ j ∧ j < n) :
    OpJ P (StR R0 w0 gs H) e ⟨dst, .load t X, ty, pos, after, guard⟩ (.f .f32 (M i j)) := by
  have h := zbt (P := P) (R0 := R0) (w0 := w0) (gs := gs) (e := e) (dst := dst) (ty := ty) (pos := pos) (after := after) (guard := guard) (t := t) (hd := hd) (i := i * n + j) ha hx hm (flat_bound hi hj)
  rw [flat_at M hj] at h
  exact h
theorem rs_storeFl (k : Nat) {g n c : Nat} {M : Mx} {i j : Int} {T : TypeId} {x : FV} {z : Value} {b : Nat} [hi : TyI P t z 1 b] {A V : Operand}
    (hA : e.ev A = some (.raw (.pointer (some ⟨g, (i * n + j).toNat * 1, none⟩)))) (hx : e.ev V = some (.f .f32 x)) (hH : H[k]? = some (entF g T (n * n) (flat n M) c)) (hr : 0 ≤ i ∧ i < n) (hj : 0 ≤ j ∧ j < n) (hc : n * n ≤ c)
    (hk : RS P N ops l e.keep (StR R w0 gs (H.set k (entF g T (n * n) (flat n (upd2 i j x M)) c))) Q) :
    RS P N ops (⟨none, .store t A V, ty, pos, after, none⟩ :: l) e (StR R w0 gs H) Q := by
  have hb := flat_bound hr hj
  refine rs_storeT k (flat n (upd2 i j x M)) hA hx hH ⟨hb.1, hb.2, hc⟩ ?_ (fun s _ _ hs => flat_put M x hs) hk
  rw [flat_at _ hj]
  exact upd2_at i j x M
end
attribute [local irreducible] WS RS Done OpJ Then InBlock Round Ret Env.sub FnH
attribute [local irreducible] tab tabA rowsK flat

end Go.Ab
