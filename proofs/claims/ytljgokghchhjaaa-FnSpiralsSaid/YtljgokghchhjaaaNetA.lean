/- Nets: how they are read, and the law's own functions that copy and compare their parts. No conditions. -/
import Derived.Test.YtljgokghchhjaaaStr
import Derived.Test.YtljgokghchhjaaaB
import Derived.Test.YtljgokghchhjaaaTz
namespace Go.Ab
open Go.Proofs
variable {R : World → Prop} [RStab R]

def intA (k : Int) : AV := .raw (.int .i64 k)
/-- A list of whole numbers as it came in. -/
abbrev slI (w : World) (L : List Int) : AV := AV.sl w 1 (L.map intA)
/-- Spots, three numbers each. -/
abbrev slS (w : World) (n : Nat) (s : Int → FV) : AV := AV.sl w 3 ((tab (3 * n) s).map (AV.f .f32))
def facA (w : World) (L : List Int) : AV := slI w L
abbrev slFc (w : World) (F : List (List Int)) : AV := AV.sl w 1 (F.map (facA w))
abbrev netA (w : World) (n : Nat) (s : Int → FV) (F : List (List Int)) : AV := .agg [slS w n s, slFc w F]
abbrev spA (s : Int → FV) (i : Int) : AV := .agg [.f .f32 (s (3 * i)), .f .f32 (s (3 * i + 1)), .f .f32 (s (3 * i + 2))]
abbrev slv (g n : Nat) : AV := .raw (.slice (some ⟨g, 0, none⟩) n n)
abbrev entI (g : Nat) (L : List Int) : Ent := ⟨g, 2, L.map intA, L.length⟩
theorem facA_ext {w w' : World} (h : Ext w w') {L : List Int} {u : Value} (he : Ev (facA w L) u) : Ev (facA w' L) u := fun v => .q ((he v).inv_q.ext h)
theorem rdF_ext {w w' : World} (h : Ext w w') {F : List (List Int)} {v : Value} (hr : Rd w 1 v (F.map (facA w))) : Rd w' 1 v (F.map (facA w')) := by
  obtain ⟨a, len, cap, hv, hl, hc, hm, hx⟩ := hr
  refine ⟨a, len, cap, hv, by simpa using hl, hc, hm, fun i x hi => ?_⟩
  rw [List.getElem?_map] at hi
  obtain ⟨L, hL, rfl⟩ := Option.map_eq_some_iff.1 hi
  obtain ⟨b, hb, hs, u, hu, hev⟩ := hx i (facA w L) (by rw [List.getElem?_map, hL]; rfl)
  exact ⟨b, hb, hs, u, h.cell hu, facA_ext h hev⟩
theorem Takes.fc {R0 : World → Prop} {w0 : World} {H : List Ent} {F : List (List Int)} {args : List AV} {A : World → List AV} (h : Takes (StR R0 w0 [] H) args A) : Takes (StR R0 w0 [] H) (slFc w0 F :: args) (fun w => slFc w F :: A w) := fun w vs hS hr => by
  obtain ⟨v, r, rfl, hv, hr⟩ := hr.inv_cons
  exact .cons (.q (rdF_ext hS.ext0 hv.inv_q)) (h w r hS hr)
theorem Takes.fa {R0 : World → Prop} {w0 : World} {H : List Ent} {L : List Int} {args : List AV} {A : World → List AV} (h : Takes (StR R0 w0 [] H) args A) : Takes (StR R0 w0 [] H) (.agg [facA w0 L] :: args) (fun w => .agg [facA w L] :: A w) := fun w vs hS hr => by
  obtain ⟨v, r, rfl, hv, hrr⟩ := hr.inv_cons
  obtain ⟨us, rfl, hu⟩ := hv.inv_agg
  obtain ⟨a, r1, rfl, ha, hu⟩ := hu.inv_cons
  obtain rfl := hu.inv_nil
  exact .cons (.agg (.cons (.q (hS.rd ha.inv_q)) .nil)) (h w r hS hrr)
theorem Takes.net {R0 : World → Prop} {w0 : World} {H : List Ent} {n : Nat} {s : Int → FV} {F : List (List Int)} {args : List AV} {A : World → List AV} (h : Takes (StR R0 w0 [] H) args A) : Takes (StR R0 w0 [] H) (netA w0 n s F :: args) (fun w => netA w n s F :: A w) := fun w vs hS hr => by
  obtain ⟨v, r, rfl, hv, hrr⟩ := hr.inv_cons
  obtain ⟨us, rfl, hu⟩ := hv.inv_agg
  obtain ⟨a, r1, rfl, ha, hu⟩ := hu.inv_cons
  obtain ⟨b, r2, rfl, hb, hu⟩ := hu.inv_cons
  obtain rfl := hu.inv_nil
  exact .cons (.agg (.cons (.q (hS.rd ha.inv_q)) (.cons (.q (rdF_ext hS.ext0 hb.inv_q)) .nil))) (h w r hS hrr)

section
variable {P : Program} {N : Nat} {S : World → Prop} {e : Env} {Q : Exit → Env → World → Prop} {ops : Array Oper} {l : List Oper} {o : Oper}
variable {w0 : World} {gs : List Nat} {H : List Ent} {dst : Option Tmp} {ty : TypeId} {pos : String} {after : Array Edge} {guard : Option (Nat × Bool)}
theorem zcm {R0 : World → Prop} {n : Nat} {s : Int → FV} {X : Operand} {t t2 : TypeId} {b : Nat} {z : Value} {el : TypeId} [hu : TyU P t (.slice el)] [hi : TyI P el z 3 b] (hx : e.ev X = some (slS w0 n s)) :
    OpJ P (StR R0 w0 [] H) e ⟨dst, .call { callee := .builtin .len, args := #[X], argTypes := #[t] }, t2, pos, after, guard⟩ (.raw (.int .i64 (n : Int))) := by
  have h := opj_len_sl (P := P) (R0 := R0) (H := H) (dst := dst) (pos := pos) (after := after) (guard := guard) (t2 := t2) (hu := hu) (hi := hi) (by decide) hx
  have e1 : ((tab (3 * n) s).map (AV.f .f32)).length / 3 = n := by simp
  rw [e1] at h
  exact h
theorem zcn {R0 : World → Prop} {n : Nat} {s : Int → FV} {X I : Operand} {i : Int} {t : TypeId} {b : Nat} {z : Value} {el : TypeId} [hu : TyU P t (.slice el)] [hi : TyI P el z 3 b]
    (hx : e.ev X = some (slS w0 n s)) (hI : e.ev I = some (.raw (.int .i64 i))) (h0 : 0 ≤ i) (hlt : i < (n : Int)) :
    OpJ P (StR R0 w0 [] H) e ⟨dst, .indexAddr t X I, ty, pos, after, guard⟩ (AV.ptr [.f .f32 (s (3 * i)), .f .f32 (s (3 * i + 1)), .f .f32 (s (3 * i + 2))]) := by
  have h := opj_index_sl (P := P) (R0 := R0) (H := H) (dst := dst) (ty := ty) (pos := pos) (after := after) (guard := guard) (hu := hu) (hi := hi) hx hI h0 (by simp; omega) (by decide)
  intro a w K Q hS ho hK
  refine h a w K Q hS ho fun u w' hw hr => hK u w' hw ?_
  obtain ⟨_, bb, hv, hsp, hr⟩ := hr.inv_p
  refine .p (mono_ptrTo _) ⟨bb, hv, hsp, fun j x hj => ?_⟩
  have key : ∀ c : Nat, c < 3 → (((tab (3 * n) s).map (AV.f .f32)).drop (i.toNat * 3))[c]? = some (AV.f .f32 (s (3 * i + (c : Int)))) := fun c hc => by
    have e1 : ((i.toNat * 3 + c : Nat) : Int) = 3 * i + c := by omega
    have hlt' : i.toNat * 3 + c < 3 * n := by omega
    rw [List.getElem?_drop, List.getElem?_map, tab_get s hlt', e1]
    rfl
  match j, hj with
  | 0, hj => cases hj; exact hr 0 _ (by have := key 0 (by omega); rw [show ((0 : Nat) : Int) = 0 from rfl, Int.add_zero] at this; exact this)
  | 1, hj => cases hj; exact hr 1 _ (key 1 (by omega))
  | 2, hj => cases hj; exact hr 2 _ (key 2 (by omega))
end
attribute [local irreducible] WS RS Done OpJ Then InBlock Round Ret Env.sub FnH
attribute [local irreducible] tab
end Go.Ab
