/- Nets: copies of lists of spots and facets, and of nets. No conditions. -/
import Derived.Test.YtlnfbadoglllbaaNetB
namespace Go.Ab
open Go.Proofs
variable {R : World → Prop} [RStab R]

/-- Cells by their places. -/
def tabA (m : Nat) (a : Nat → AV) : List AV := (List.range m).map a
@[simp] theorem tabA_length (m : Nat) (a : Nat → AV) : (tabA m a).length = m := by simp [tabA]
theorem tabA_get {m : Nat} (a : Nat → AV) {i : Nat} (h : i < m) : (tabA m a)[i]? = some (a i) := by simp [tabA, h]
theorem tabA_ext {L : List AV} {m : Nat} {a : Nat → AV} (hl : L.length = m) (h : ∀ i : Nat, i < m → L[i]? = some (a i)) : L = tabA m a := by
  apply List.ext_getElem?
  intro i
  rcases Nat.lt_or_ge i m with hi | hi
  · rw [h i hi, tabA_get a hi]
  · rw [List.getElem?_eq_none (by omega), List.getElem?_eq_none (by rw [tabA_length]; exact hi)]
theorem tabA_congr {m : Nat} {a b : Nat → AV} (h : ∀ i, i < m → a i = b i) : tabA m a = tabA m b := tabA_ext (tabA_length m a) fun i hi => by rw [tabA_get a hi, h i hi]
abbrev entA (g : Nat) (T : TypeId) (m : Nat) (a : Nat → AV) : Ent := ⟨g, T, tabA m a, m⟩
def corner (F : List (List Int)) (G : Nat → Nat) (i : Nat) : Ent := entI (G i) (F.getD i [])
def corners (F : List (List Int)) (G : Nat → Nat) (k : Nat) : List Ent := (List.range k).map (corner F G)
def facV (F : List (List Int)) (G : Nat → Nat) (i : Nat) : AV := slv (G i) (F.getD i []).length
def putN (k g : Nat) (G : Nat → Nat) (i : Nat) : Nat := if i = k then g else G i
theorem corners_succ (F : List (List Int)) (G : Nat → Nat) (k g : Nat) : corners F (putN k g G) (k + 1) = corners F G k ++ [entI g (F.getD k [])] := by
  unfold corners
  rw [List.range_succ, List.map_append]
  congr 1
  · refine List.map_congr_left fun i hi => ?_
    have : i < k := by simpa using hi
    unfold corner putN; rw [if_neg (by omega)]
  · simp [corner, putN]
theorem facV_put (F : List (List Int)) (G : Nat → Nat) (k g i : Nat) : facV F (putN k g G) i = if i = k then slv g (F.getD i []).length else facV F G i := by
  unfold facV putN
  split <;> rfl

section
variable {P : Program} {N : Nat} {S : World → Prop} {e : Env} {Q : Exit → Env → World → Prop} {ops : Array Oper} {l : List Oper} {o : Oper}
variable {w0 : World} {gs : List Nat} {H : List Ent} {dst : Option Tmp} {ty : TypeId} {pos : String} {after : Array Edge} {guard : Option (Nat × Bool)}
/-- 'make' of facets. -/
theorem rs_makeFc {d : Tmp} {A B : Operand} {n : Nat} {t el : TypeId} {b : Nat} [hu : TyU P t (.slice el)] [hi : TyI P el (.agg #[.slice none 0 0]) 1 b]
    (hA : e.ev A = some (.raw (.int .i64 (n : Int)))) (hB : e.ev B = some (.raw (.int .i64 (n : Int)))) (hd : Nat.blt d N = true) (hb : b * n ≤ 281474976710656) (hm : n ≤ maxLen)
    (hk : ∀ g, RS P N ops l ((d, slv g n) :: e) (StR R w0 gs (entA g el n (fun _ => .raw (.slice none 0 0)) :: H)) Q) :
    RS P N ops (⟨some d, .makeSlice t A B, ty, pos, after, none⟩ :: l) e (StR R w0 gs H) Q := by
  refine rs_fresh (val := fun g => slv g n) (en := fun g => entA g el n (fun _ => .raw (.slice none 0 0))) hd (fun _ => rfl) (fun a w hS hF => ?_) hk
  have h1 := (hF.eval hA).inv_raw
  have h2 := (hF.eval hB).inv_raw
  obtain ⟨i, hi1, hz1, hs1, hb1⟩ := hi.h
  have hm' : (n : Int) ≤ 9223372036854775807 := by simp only [maxLen] at hm; omega
  have hr := run_make (P := P) w t el i _ hu.h hi1 hz1 .i64 .i64 n n (by omega) (Int.le_refl _) (by rw [hb1]; have h : ((b * n : Nat) : Int) ≤ 281474976710656 := (by omega); rwa [Int.natCast_mul] at h) hm'
  simp only [Int.toNat_natCast] at hr
  refine ⟨w.heap.size, .slice (some ⟨w.heap.size, 0, none⟩) n n, _, by simp only [execOp, h1, h2, Sem.run_bind, hr, Result.andThen_ok]; rfl, ev_raw _, Ext.alloc _ _, Nat.le_refl _, ?_⟩
  have hsz : (madeCells (Value.agg #[.slice none 0 0]).cells (n * i.size)).size = n := by rw [size_madeCells, hs1, Nat.mul_one]
  have ho := ext_alloc_own (w := w) (T := el) (xs := tabA n fun _ => .raw (.slice none 0 0)) (cs := madeCells (Value.agg #[.slice none 0 0]).cells (n * i.size)) (fun j x hj => by
    have hjn : j < n := by have := (List.getElem?_eq_some_iff.1 hj).1; simpa using this
    rw [tabA_get _ hjn] at hj
    cases hj
    refine ⟨.slice none 0 0, ?_, ev_raw _⟩
    have hc : (Value.agg #[.slice none 0 0]).cells = #[.slice none 0 0] := rfl
    simp [madeCells, hs1, hc, hjn, Nat.mod_one])
  rw [hsz] at ho
  exact ho
/-- One cell, as a struct of one cell, into such a list. -/
theorem rs_storeTA (k : Nat) (a' : Nat → AV) {g m : Nat} {T : TypeId} {i : Int} {a : Nat → AV} {x : AV} {t : TypeId} {z : Value} {b : Nat} [hi : TyI P t z 1 b] {A X : Operand}
    (hA : e.ev A = some (.raw (.pointer (some ⟨g, i.toNat * 1, none⟩)))) (hx : e.ev X = some (.agg [x])) (h1 : x.one = true) (h1s : x.still = true) (hH : H[k]? = some (entA g T m a)) (h0 : 0 ≤ i ∧ i < m)
    (hf : a' i.toNat = x) (hf' : ∀ s, s < m → s ≠ i.toNat → a' s = a s)
    (hk : RS P N ops l e.keep (StR R w0 gs (H.set k (entA g T m a'))) Q) :
    RS P N ops (⟨none, .store t A X, ty, pos, after, none⟩ :: l) e (StR R w0 gs H) Q := by
  refine rs_storeA k (en := entA g T m a) hA hx (by simp [h1]) (by simp [AV.stillL, h1s]) hH rfl (by simp; omega) (by simp) ?_
  have : splice (i.toNat * 1) [x] (entA g T m a).xs = tabA m a' := by
    rw [Nat.mul_one]
    refine tabA_ext (by simp [splice]; omega) fun j hj => ?_
    simp only [splice]
    have hl1 : ((tabA m a).take i.toNat).length = i.toNat := by simp; omega
    rcases Nat.lt_or_ge j i.toNat with h | h
    · rw [List.append_assoc, List.getElem?_append_left (by omega), List.getElem?_take, if_pos h, tabA_get a hj, hf' j hj (by omega)]
    · rcases Nat.eq_or_lt_of_le h with h' | h'
      · subst h'
        rw [List.append_assoc, List.getElem?_append_right (by omega), hl1, Nat.sub_self, hf]; rfl
      · rw [List.getElem?_append_right (by simp; omega), List.getElem?_drop]
        have e2 : i.toNat + [x].length + (j - ((tabA m a).take i.toNat ++ [x]).length) = j := by simp; omega
        rw [e2, tabA_get a hj, hf' j hj (by omega)]
  rw [this]
  exact hk
end
theorem entA_congr {g m : Nat} {T : TypeId} {a b : Nat → AV} (h : ∀ i, i < m → a i = b i) : entA g T m a = entA g T m b := by unfold entA; rw [tabA_congr h]
attribute [local irreducible] WS RS Done OpJ Then InBlock Round Ret Env.sub FnH
attribute [local irreducible] tab tabA corners

def sTo (k : Int) (s : Int → FV) (t : Int) : FV := if t < 3 * k then s t else fv .f32 0
def fTo (k : Nat) (F : List (List Int)) (G : Nat → Nat) (i : Nat) : AV := if i < k then facV F G i else .raw (.slice none 0 0)
end Go.Ab
