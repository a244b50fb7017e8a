/- Nets: how they are read, and the law's own functions that copy and compare their parts. No conditions. -/
import Derived.Test.YtnajffjobgeenaaStr
import Derived.Test.YtnajffjobgeenaaB
import Derived.Test.YtnajffjobgeenaaTz
namespace Go.Ab
open Go.Proofs
variable {R : World → Prop} [RStab R]

def intA (k : Int) : AV := .raw (.int .i64 k)
/-- A list of whole numbers as it came in. -/
abbrev slI (w : World) (L : List Int) : AV := AV.sl w 1 (L.map intA)
/-- Spots, three numbers each. -/
abbrev slS (w : World) (n : Nat) (s : Int → FV) : AV := AV.sl w 3 ((tab (3 * n) s).map (AV.f .f32))
def facA (w : World) (L : List Int) : AV := slI w L
abbrev slFc (w : World) (F : List (List Int)) : AV := AV.sl w 1 (F.map (facA w))
abbrev netA (w : World) (n : Nat) (s : Int → FV) (F : List (List Int)) : AV := .agg [slS w n s, slFc w F]
abbrev spA (s : Int → FV) (i : Int) : AV := .agg [.f .f32 (s (3 * i)), .f .f32 (s (3 * i + 1)), .f .f32 (s (3 * i + 2))]
abbrev slv (g n : Nat) : AV := .raw (.slice (some ⟨g, 0, none⟩) n n)
abbrev entI (g : Nat) (L : List Int) : Ent := ⟨g, 2, L.map intA, L.length⟩
abbrev entS (g n : Nat) (s : Int → FV) : Ent := ⟨g, 65, (tab (3 * n) s).map (AV.f .f32), 3 * n⟩

theorem facA_ext {w w' : World} (h : Ext w w') {L : List Int} {u : Value} (he : Ev (facA w L) u) : Ev (facA w' L) u := fun v => .q ((he v).inv_q.ext h)
theorem rdF_ext {w w' : World} (h : Ext w w') {F : List (List Int)} {v : Value} (hr : Rd w 1 v (F.map (facA w))) : Rd w' 1 v (F.map (facA w')) := by
  obtain ⟨a, len, cap, hv, hl, hc, hm, hx⟩ := hr
  refine ⟨a, len, cap, hv, by simpa using hl, hc, hm, fun i x hi => ?_⟩
  rw [List.getElem?_map] at hi
  obtain ⟨L, hL, rfl⟩ := Option.map_eq_some_iff.1 hi
  obtain ⟨b, hb, hs, u, hu, hev⟩ := hx i (facA w L) (by rw [List.getElem?_map, hL]; rfl)
  exact ⟨b, hb, hs, u, h.cell hu, facA_ext h hev⟩
theorem Takes.fc {R0 : World → Prop} {w0 : World} {H : List Ent} {F : List (List Int)} {args : List AV} {A : World → List AV} (h : Takes (StR R0 w0 [] H) args A) : Takes (StR R0 w0 [] H) (slFc w0 F :: args) (fun w => slFc w F :: A w) := fun w vs hS hr => by
  obtain ⟨v, r, rfl, hv, hr⟩ := hr.inv_cons
  exact .cons (.q (rdF_ext hS.ext0 hv.inv_q)) (h w r hS hr)
theorem Takes.fa {R0 : World → Prop} {w0 : World} {H : List Ent} {L : List Int} {args : List AV} {A : World → List AV} (h : Takes (StR R0 w0 [] H) args A) : Takes (StR R0 w0 [] H) (.agg [facA w0 L] :: args) (fun w => .agg [facA w L] :: A w) := fun w vs hS hr => by
  obtain ⟨v, r, rfl, hv, hrr⟩ := hr.inv_cons
  obtain ⟨us, rfl, hu⟩ := hv.inv_agg
  obtain ⟨a, r1, rfl, ha, hu⟩ := hu.inv_cons
  obtain rfl := hu.inv_nil
  exact .cons (.agg (.cons (.q (hS.rd ha.inv_q)) .nil)) (h w r hS hrr)
theorem Takes.net {R0 : World → Prop} {w0 : World} {H : List Ent} {n : Nat} {s : Int → FV} {F : List (List Int)} {args : List AV} {A : World → List AV} (h : Takes (StR R0 w0 [] H) args A) : Takes (StR R0 w0 [] H) (netA w0 n s F :: args) (fun w => netA w n s F :: A w) := fun w vs hS hr => by
  obtain ⟨v, r, rfl, hv, hrr⟩ := hr.inv_cons
  obtain ⟨us, rfl, hu⟩ := hv.inv_agg
  obtain ⟨a, r1, rfl, ha, hu⟩ := hu.inv_cons
  obtain ⟨b, r2, rfl, hb, hu⟩ := hu.inv_cons
  obtain rfl := hu.inv_nil
  exact .cons (.agg (.cons (.q (hS.rd ha.inv_q)) (.cons (.q (rdF_ext hS.ext0 hb.inv_q)) .nil))) (h w r hS hrr)

section
variable {P : Program} {N : Nat} {S : World → Prop} {e : Env} {Q : Exit → Env → World → Prop} {ops : Array Oper} {l : List Oper} {o : Oper}
variable {w0 : World} {gs : List Nat} {H : List Ent} {dst : Option Tmp} {ty : TypeId} {pos : String} {after : Array Edge} {guard : Option (Nat × Bool)}
theorem zcm {R0 : World → Prop} {n : Nat} {s : Int → FV} {X : Operand} {t t2 : TypeId} {b : Nat} {z : Value} {el : TypeId} [hu : TyU P t (.slice el)] [hi : TyI P el z 3 b] (hx : e.ev X = some (slS w0 n s)) :
    OpJ P (StR R0 w0 [] H) e ⟨dst, .call { callee := .builtin .len, args := #[X], argTypes := #[t] }, t2, pos, after, guard⟩ (.raw (.int .i64 (n : Int))) := by
  have h := opj_len_sl (P := P) (R0 := R0) (H := H) (dst := dst) (pos := pos) (after := after) (guard := guard) (t2 := t2) (hu := hu) (hi := hi) (by decide) hx
  have e1 : ((tab (3 * n) s).map (AV.f .f32)).length / 3 = n := by simp
  rw [e1] at h
  exact h
theorem zcn {R0 : World → Prop} {n : Nat} {s : Int → FV} {X I : Operand} {i : Int} {t : TypeId} {b : Nat} {z : Value} {el : TypeId} [hu : TyU P t (.slice el)] [hi : TyI P el z 3 b]
    (hx : e.ev X = some (slS w0 n s)) (hI : e.ev I = some (.raw (.int .i64 i))) (h0 : 0 ≤ i) (hlt : i < (n : Int)) :
    OpJ P (StR R0 w0 [] H) e ⟨dst, .indexAddr t X I, ty, pos, after, guard⟩ (AV.ptr [.f .f32 (s (3 * i)), .f .f32 (s (3 * i + 1)), .f .f32 (s (3 * i + 2))]) := by
  have h := opj_index_sl (P := P) (R0 := R0) (H := H) (dst := dst) (ty := ty) (pos := pos) (after := after) (guard := guard) (hu := hu) (hi := hi) hx hI h0 (by simp; omega) (by decide)
  intro a w K Q hS ho hK
  refine h a w K Q hS ho fun u w' hw hr => hK u w' hw ?_
  obtain ⟨_, bb, hv, hsp, hr⟩ := hr.inv_p
  refine .p (mono_ptrTo _) ⟨bb, hv, hsp, fun j x hj => ?_⟩
  have key : ∀ c : Nat, c < 3 → (((tab (3 * n) s).map (AV.f .f32)).drop (i.toNat * 3))[c]? = some (AV.f .f32 (s (3 * i + (c : Int)))) := fun c hc => by
    have e1 : ((i.toNat * 3 + c : Nat) : Int) = 3 * i + c := by omega
    have hlt' : i.toNat * 3 + c < 3 * n := by omega
    rw [List.getElem?_drop, List.getElem?_map, tab_get s hlt', e1]
    rfl
  match j, hj with
  | 0, hj => cases hj; exact hr 0 _ (by have := key 0 (by omega); rw [show ((0 : Nat) : Int) = 0 from rfl, Int.add_zero] at this; exact this)
  | 1, hj => cases hj; exact hr 1 _ (key 1 (by omega))
  | 2, hj => cases hj; exact hr 2 _ (key 2 (by omega))
/-- 'make' of spots. -/
theorem rs_makeS {d : Tmp} {A B : Operand} {n : Nat} {t : TypeId} {b : Nat} [hu : TyU P t (.slice 65)] [hi : TyI P 65 (.agg #[.float .f32 0, .float .f32 0, .float .f32 0]) 3 b]
    (hA : e.ev A = some (.raw (.int .i64 (n : Int)))) (hB : e.ev B = some (.raw (.int .i64 (n : Int)))) (hd : Nat.blt d N = true) (hb : b * n ≤ 281474976710656) (hm : n ≤ maxLen)
    (hk : ∀ g, RS P N ops l ((d, slv g n) :: e) (StR R w0 gs (entS g n (fun _ => fv .f32 0) :: H)) Q) :
    RS P N ops (⟨some d, .makeSlice t A B, ty, pos, after, none⟩ :: l) e (StR R w0 gs H) Q := by
  refine rs_fresh (val := fun g => slv g n) (en := fun g => entS g n (fun _ => fv .f32 0)) hd (fun _ => rfl) (fun a w hS hF => ?_) hk
  have h1 := (hF.eval hA).inv_raw
  have h2 := (hF.eval hB).inv_raw
  obtain ⟨i, hi1, hz1, hs1, hb1⟩ := hi.h
  have hm' : (n : Int) ≤ 9223372036854775807 := by simp only [maxLen] at hm; omega
  have hr := run_make (P := P) w t 65 i _ hu.h hi1 hz1 .i64 .i64 n n (by omega) (Int.le_refl _) (by rw [hb1]; have h : ((b * n : Nat) : Int) ≤ 281474976710656 := (by omega); rwa [Int.natCast_mul] at h) hm'
  simp only [Int.toNat_natCast] at hr
  refine ⟨w.heap.size, .slice (some ⟨w.heap.size, 0, none⟩) n n, _, by simp only [execOp, h1, h2, Sem.run_bind, hr, Result.andThen_ok]; rfl, ev_raw _, Ext.alloc _ _, Nat.le_refl _, ?_⟩
  have hsz : (madeCells (Value.agg #[.float .f32 0, .float .f32 0, .float .f32 0]).cells (n * i.size)).size = 3 * n := by rw [size_madeCells, hs1, Nat.mul_comm]
  have ho := ext_alloc_own (w := w) (T := 65) (xs := (tab (3 * n) fun _ => fv .f32 0).map (AV.f .f32)) (cs := madeCells (Value.agg #[.float .f32 0, .float .f32 0, .float .f32 0]).cells (n * i.size)) (fun j x hj => by
    have hjn : j < 3 * n := by have := (List.getElem?_eq_some_iff.1 hj).1; simpa using this
    rw [List.getElem?_map, tab_get _ hjn] at hj
    cases hj
    refine ⟨.float .f32 0, ?_, ev_f (by decide)⟩
    have hj3 : j % 3 < 3 := Nat.mod_lt _ (by decide)
    have hc : (Value.agg #[.float .f32 0, .float .f32 0, .float .f32 0]).cells = #[.float .f32 0, .float .f32 0, .float .f32 0] := rfl
    simp only [madeCells, hs1, hc]
    have hjr : j < n * 3 := by omega
    simp only [Array.getElem?_map, Array.getElem?_range, if_pos hjr, Option.map_some]
    have : ∀ k, k < 3 → (#[Value.float .f32 0, Value.float .f32 0, Value.float .f32 0] : Array Value)[k]! = Value.float .f32 0 := fun k hk => match k, hk with
      | 0, _ => rfl
      | 1, _ => rfl
      | 2, _ => rfl
    simp [hjr, this _ hj3])
  rw [hsz] at ho
  exact ho
/-- A spot into a list of spots. -/
theorem rs_storeS (k : Nat) (s' : Int → FV) {g n : Nat} {i : Int} {s : Int → FV} {x y z' : FV} {t : TypeId} {z : Value} {b : Nat} [hi : TyI P t z 3 b] {A X : Operand}
    (hA : e.ev A = some (.raw (.pointer (some ⟨g, i.toNat * 3, none⟩)))) (hx : e.ev X = some (.agg [.f .f32 x, .f .f32 y, .f .f32 z'])) (hH : H[k]? = some (entS g n s)) (h0 : 0 ≤ i ∧ i < n)
    (h1 : s' (3 * i) = x) (h2 : s' (3 * i + 1) = y) (h3 : s' (3 * i + 2) = z') (hs : ∀ t : Int, 0 ≤ t → t < 3 * n → (t < 3 * i ∨ 3 * i + 3 ≤ t) → s' t = s t)
    (hk : RS P N ops l e.keep (StR R w0 gs (H.set k (entS g n s'))) Q) :
    RS P N ops (⟨none, .store t A X, ty, pos, after, none⟩ :: l) e (StR R w0 gs H) Q := by
  refine rs_storeA k (en := entS g n s) hA hx rfl rfl hH rfl (by simp; omega) (by simp) ?_
  have : splice (i.toNat * 3) [.f .f32 x, .f .f32 y, .f .f32 z'] (entS g n s).xs = (tab (3 * n) s').map (AV.f .f32) := by
    have e0 : ([.f .f32 x, .f .f32 y, .f .f32 z'] : List AV) = [x, y, z'].map (AV.f .f32) := rfl
    simp only [splice, entS]
    rw [e0, ← List.map_take, ← List.map_drop, ← List.map_append, ← List.map_append]
    congr 1
    refine tab_ext (by simp; omega) fun j hj => ?_
    have hl1 : ((tab (3 * n) s).take (i.toNat * 3)).length = i.toNat * 3 := by simp; omega
    rcases Nat.lt_or_ge j (i.toNat * 3) with h | h
    · rw [List.append_assoc, List.getElem?_append_left (by omega), List.getElem?_take, if_pos h, tab_get s hj, hs j (by omega) (by omega) (.inl (by omega))]
    · rcases Nat.lt_or_ge j (i.toNat * 3 + 3) with h' | h'
      · rw [List.append_assoc, List.getElem?_append_right (by omega), hl1, List.getElem?_append_left (by simp; omega)]
        have : j - i.toNat * 3 = 0 ∨ j - i.toNat * 3 = 1 ∨ j - i.toNat * 3 = 2 := by omega
        rcases this with h | h | h <;> rw [h]
        · rw [show ((j : Nat) : Int) = 3 * i from by omega, h1]; rfl
        · rw [show ((j : Nat) : Int) = 3 * i + 1 from by omega, h2]; rfl
        · rw [show ((j : Nat) : Int) = 3 * i + 2 from by omega, h3]; rfl
      · rw [List.getElem?_append_right (by simp; omega), List.getElem?_drop]
        have e2 : i.toNat * 3 + ([x, y, z'].map (AV.f .f32)).length + (j - ((tab (3 * n) s).take (i.toNat * 3) ++ [x, y, z']).length) = j := by simp; omega
        rw [e2, tab_get s hj, hs j (by omega) (by omega) (.inr (by omega))]
  rw [this]
  exact hk
end
attribute [local irreducible] WS RS Done OpJ Then InBlock Round Ret Env.sub FnH
attribute [local irreducible] tab
end Go.Ab
