/- Nets: how many edges the sides of a net have, and what the reference finds. No conditions. -/
import Derived.Test.YtnajffjobgeenaaVnH
import Derived.Test.YtnajffjobgeenaaSq
namespace Go.Ab
open Go.Proofs
variable {R : World → Prop} [RStab R]

/-! Plain. -/
theorem snoc_ind {α : Type} {motive : List α → Prop} (h0 : motive []) (h1 : ∀ l x, motive l → motive (l ++ [x])) (l : List α) : motive l := by
  have : ∀ r : List α, motive r.reverse := fun r => by
    induction r with
    | nil => exact h0
    | cons x t ih => rw [List.reverse_cons]; exact h1 _ _ ih
  rw [← List.reverse_reverse l]; exact this _
def revS (x : Sd) : Int × Int := (x.2.2, x.2.1)
/-- The side is the first of its edge. -/
def newE (l : List Sd) (i : Nat) : Bool := !(decide (revS (l.getD i default) ∈ (l.take i).map abS))
/-- The first sides of edges among the first k. -/
def edgeIx (l : List Sd) : Nat → List Int
  | 0 => []
  | k + 1 => if newE l k = true then edgeIx l k ++ [(k : Int)] else edgeIx l k
theorem edgeIx_yes {l : List Sd} {k : Nat} (h : newE l k = true) : edgeIx l (k + 1) = edgeIx l k ++ [(k : Int)] := if_pos h
theorem edgeIx_no {l : List Sd} {k : Nat} (h : newE l k = false) : edgeIx l (k + 1) = edgeIx l k := if_neg (by rw [h]; simp)
theorem edgeIx_len (l : List Sd) : ∀ k, (edgeIx l k).length ≤ k
  | 0 => Nat.le_refl _
  | k + 1 => by
    have := edgeIx_len l k
    cases h : newE l k
    · rw [edgeIx_no h]; omega
    · rw [edgeIx_yes h, List.length_append]; simp; omega
theorem edgeIx_mem (l : List Sd) : ∀ k, ∀ i ∈ edgeIx l k, 0 ≤ i ∧ i < (k : Int)
  | 0, i, h => by cases h
  | k + 1, i, h => by
    cases hn : newE l k
    · rw [edgeIx_no hn] at h
      have := edgeIx_mem l k i h
      omega
    · rw [edgeIx_yes hn, List.mem_append, List.mem_singleton] at h
      rcases h with h | h
      · have := edgeIx_mem l k i h; omega
      · omega
def edgeN (l : List Sd) : Nat := (edgeIx l l.length).length
/-- What the reference asks at a side. -/
theorem newE_iff {l : List Sd} {i : Nat} (hi : i < l.length) (hab : (l.getD i default).2.1 ≠ (l.getD i default).2.2) :
    (decide (idxOf (sideP (l.getD i default).2.2 (l.getD i default).2.1) l < 0) || decide ((i : Int) < idxOf (sideP (l.getD i default).2.2 (l.getD i default).2.1) l)) = newE l i := by
  unfold newE
  generalize hp : sideP (l.getD i default).2.2 (l.getD i default).2.1 = p
  have hpx : ∀ x : Sd, p x = true ↔ abS x = revS (l.getD i default) := fun x => by
    rw [← hp]; unfold sideP revS abS
    simp
  by_cases hm : revS (l.getD i default) ∈ (l.take i).map abS
  · rw [decide_eq_true hm]
    obtain ⟨x, hx, hxe⟩ := List.mem_map.1 hm
    obtain ⟨j, hj, he⟩ := List.mem_take_iff_getElem.1 hx
    have hpj : p (l.getD j default) = true := by
      rw [getD_eq (show j < l.length by omega), he]; exact (hpx x).2 hxe
    have h1 := idxOf_le (p := p) (show j < l.length by omega) hpj
    have h2 : 0 ≤ idxOf p l := by
      have := idxOf_nonneg p l
      rw [List.any_eq_true.2 ⟨x, List.mem_of_mem_take hx, (hpx x).2 hxe⟩] at this
      exact of_decide_eq_true this
    rw [decide_eq_false (by omega), decide_eq_false (by omega)]; rfl
  · rw [decide_eq_false hm]
    have hno : ∀ j, j ≤ i → p (l.getD j default) = false := fun j hj => by
      cases hb : p (l.getD j default) with
      | false => rfl
      | true =>
        exfalso
        have he := (hpx _).1 hb
        rcases Nat.lt_or_ge j i with h | h
        · apply hm
          rw [← he]
          exact List.mem_map_of_mem (List.mem_take_iff_getElem.2 ⟨j, by omega, by rw [getD_eq (show j < l.length by omega)]⟩)
        · obtain rfl : j = i := by omega
          unfold abS revS at he
          simp only [Prod.mk.injEq] at he
          exact hab he.1
    by_cases h0 : idxOf p l < 0
    · rw [decide_eq_true h0]; rfl
    · rw [decide_eq_false h0]
      have : (i : Int) < idxOf p l := by
        false_or_by_contra
        rename_i hle
        have hk : ∃ k : Nat, idxOf p l = k ∧ k ≤ i := ⟨(idxOf p l).toNat, by omega, by omega⟩
        obtain ⟨k, hk, hki⟩ := hk
        unfold idxOf at hk
        cases hf : l.findIdx? p with
        | none => rw [hf] at hk; simp only at hk; omega
        | some j =>
          rw [hf] at hk
          simp only at hk
          rw [List.findIdx?_eq_some_iff_getElem] at hf
          obtain ⟨hj, hpj, _⟩ := hf
          have := hno j (by omega)
          rw [getD_eq hj] at this
          rw [this] at hpj; cases hpj
      rw [decide_eq_true this]; rfl
/-! What the program keeps: by pairs, the place of the edge; and how many there are. -/
abbrev StE := (Int → Int → Option Nat) × Nat
def stepE (y : StE) (x : Sd) : StE := if (y.1 x.2.2 x.2.1).isSome = true then y else (fun a b => if a = x.2.1 ∧ b = x.2.2 then some y.2 else y.1 a b, y.2 + 1)
def stE (l : List Sd) : StE := l.foldl stepE (fun _ _ => none, 0)
theorem stE_nil : stE [] = (fun _ _ => none, 0) := rfl
theorem stE_snoc (l : List Sd) (x : Sd) : stE (l ++ [x]) = stepE (stE l) x := by unfold stE; rw [List.foldl_append]; rfl
theorem stE_lt (l : List Sd) : ∀ a b v, (stE l).1 a b = some v → v < (stE l).2 := by
  induction l using snoc_ind with
  | h0 => intro a b v h; cases h
  | h1 l x ih =>
  intro a b v h
  rw [stE_snoc] at h ⊢
  unfold stepE at h ⊢
  split at h
  · rename_i hs; rw [if_pos hs]; exact ih a b v h
  · rename_i hs
    rw [if_neg hs]
    simp only at h ⊢
    split at h
    · cases h; omega
    · have := ih a b v h; omega
theorem stE_le (l : List Sd) : (stE l).2 ≤ l.length := by
  induction l using snoc_ind with
  | h0 => exact Nat.le_refl _
  | h1 l x ih =>
  rw [stE_snoc, List.length_append]
  unfold stepE
  split
  · simp only [List.length_cons, List.length_nil]; omega
  · simp only [List.length_cons, List.length_nil]; omega
theorem stE_in (l : List Sd) : ∀ a b, ((stE l).1 a b).isSome = true → (a, b) ∈ l.map abS := by
  induction l using snoc_ind with
  | h0 => intro a b h; cases h
  | h1 l x ih =>
  intro a b h
  rw [stE_snoc] at h
  rw [List.map_append]
  unfold stepE at h
  split at h
  · exact List.mem_append_left _ (ih a b h)
  · simp only at h
    split at h
    · rename_i hab
      exact List.mem_append_right _ (by simp [abS, hab.1, hab.2])
    · exact List.mem_append_left _ (ih a b h)
theorem stE_has (l : List Sd) : ∀ x ∈ l, ((stE l).1 x.2.1 x.2.2).isSome = true ∨ ((stE l).1 x.2.2 x.2.1).isSome = true := by
  induction l using snoc_ind with
  | h0 => intro x h; cases h
  | h1 l y ih =>
  intro x hx
  rw [stE_snoc]
  unfold stepE
  rw [List.mem_append, List.mem_singleton] at hx
  split
  · rename_i hs
    rcases hx with hx | rfl
    · exact ih x hx
    · exact .inr hs
  · simp only
    rcases hx with hx | rfl
    · rcases ih x hx with h | h
      · left; split; rfl; exact h
      · right; split; rfl; exact h
    · left; rw [if_pos ⟨rfl, rfl⟩]; rfl
theorem stE_rev {l : List Sd} {x : Sd} (hnd : ((l ++ [x]).map abS).Nodup) : ((stE l).1 x.2.2 x.2.1).isSome = decide (revS x ∈ l.map abS) := by
  rw [Bool.eq_iff_iff, decide_eq_true_iff]
  constructor
  · exact stE_in l _ _
  · intro h
    obtain ⟨y, hy, hye⟩ := List.mem_map.1 h
    unfold abS revS at hye
    simp only [Prod.mk.injEq] at hye
    rcases stE_has l y hy with h1 | h1
    · rw [hye.1, hye.2] at h1; exact h1
    · rw [hye.1, hye.2] at h1
      have h2 := stE_in l _ _ h1
      rw [List.map_append, List.nodup_append] at hnd
      exact absurd rfl (hnd.2.2 _ h2 (abS x) (by simp))
theorem stE_count {l : List Sd} (hnd : (l.map abS).Nodup) : ∀ k, k ≤ l.length → (stE (l.take k)).2 = (edgeIx l k).length
  | 0, _ => rfl
  | k + 1, hk => by
    have ih := stE_count hnd k (by omega)
    have hlt : k < l.length := by omega
    have ht : l.take (k + 1) = l.take k ++ [l.getD k default] := by rw [List.take_succ_eq_append_getElem hlt, getD_eq hlt]
    have hnd' : ((l.take k ++ [l.getD k default]).map abS).Nodup := by
      rw [← ht, List.map_take]; exact hnd.sublist (List.take_sublist _ _)
    have hr := stE_rev hnd'
    rw [ht, stE_snoc]
    unfold stepE
    rw [hr]
    cases hn : newE l k
    · rw [edgeIx_no hn]
      unfold newE at hn
      rw [if_pos (by simpa using hn)]
      exact ih
    · rw [edgeIx_yes hn, List.length_append]
      unfold newE at hn
      rw [if_neg (by simpa using hn)]
      simp only [List.length_cons, List.length_nil]
      omega
theorem stE_edgeN {l : List Sd} (hnd : (l.map abS).Nodup) : (stE l).2 = edgeN l := by
  have := stE_count hnd l.length (Nat.le_refl _)
  rw [List.take_length] at this
  exact this
end Go.Ab
