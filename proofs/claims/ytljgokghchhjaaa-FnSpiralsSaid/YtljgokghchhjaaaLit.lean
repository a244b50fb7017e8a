/- A slice's literal of one-cell elements, in a frame that is known: what it reads as. No conditions. -/
import Derived.Test.YtljgokghchhjaaaDraw
import Derived.Test.YtljgokghchhjaaaMem
import Derived.Great.BuildSlice
namespace Go.Ab
section
variable {P : Program} {S : World → Prop} {e : Env}

/-- A slice whose block is new. -/
def AV.lit (xs : List AV) : AV := .p fun w v => Rd w 1 v xs
theorem mono_lit (xs : List AV) : Mono fun w v => Rd w 1 v xs := fun _ _ _ hw h => h.ext hw
theorem Takes.lit {xs : List AV} {args : List AV} {A : World → List AV} (h : Takes S args A) : Takes S (AV.lit xs :: args) (fun w => AV.sl w 1 xs :: A w) := fun w vs hS hr => by
  obtain ⟨v, r, rfl, hv, hr⟩ := hr.inv_cons
  exact .cons (.q hv.inv_p.2) (h w r hS hr)

theorem fill_row : ∀ (vs : List Value) (k : Nat) (cs : Array Value), (∀ v ∈ vs, v.cells = #[v]) → k + vs.length ≤ cs.size →
    Instr.fill (fun i => some (i * 1, 1)) cs ((List.range' k vs.length).zip vs) = some (cs.toList.take k ++ vs ++ cs.toList.drop (k + vs.length)).toArray
  | [], k, cs, _, _ => by simp [Instr.fill]
  | v :: vs, k, cs, h, hk => by
    have h1 := h v (by simp)
    simp only [List.length_cons] at hk
    have hlt : k < cs.size := by omega
    rw [List.length_cons, List.range'_succ, List.zip_cons_cons]
    unfold Instr.fill
    simp only [h1, Nat.mul_one]
    have hc : (#[v] : Array Value).size ≠ 1 ∨ k + (#[v] : Array Value).size > cs.size ↔ False := by simp; omega
    rw [if_neg (by simp; omega)]
    have hz : (#[v] : Array Value).zipIdx.foldl (fun cs' (x : Value × Nat) => cs'.setIfInBounds (k + x.2) x.1) cs = cs.setIfInBounds k v := by simp
    have ih := fill_row vs (k + 1) (cs.setIfInBounds k v) (fun u hu => h u (by simp [hu])) (by simp; omega)
    simp only [Nat.mul_one] at ih
    show Instr.fill _ ((#[v] : Array Value).zipIdx.foldl (fun cs' (x : Value × Nat) => cs'.setIfInBounds (k + x.2) x.1) cs) _ = _
    rw [hz, ih]
    congr 1
    apply Array.toList_inj.1
    simp only [Array.toList_setIfInBounds]
    have hl : k < cs.toList.length := by simpa using hlt
    have a1 : (cs.toList.set k v).take (k + 1) = cs.toList.take k ++ [v] := by
      rw [List.set_eq_take_append_cons_drop, if_pos hl]
      have : (cs.toList.take k).length = k := by simp; omega
      rw [List.take_append, this]
      simp [List.take_of_length_le, this]
    have a2 : (cs.toList.set k v).drop (k + 1 + vs.length) = cs.toList.drop (k + (vs.length + 1)) := by
      rw [List.drop_set_of_lt (by omega)]
      congr 1; omega
    rw [a1, a2]
    simp
/-- It lies in one cell. -/
def isOne (x : AV) : Bool := oneAV x
theorem isOne_cells {w : World} {x : AV} {v : Value} (h : isOne x = true) (hr : Rel w x v) : v.cells = #[v] := (oneAV_spec h hr).1
theorem isOne_ev {w : World} {x : AV} {v : Value} (h : isOne x = true) (hr : Rel w x v) : Ev x v := hr.ev (oneAV_spec h hr).2.2
theorem opj_lit {t el : TypeId} {z : Value} {b n : Nat} {parts : Array (Nat × Operand)} {Xs : List Operand} {xs : List AV} {dst : Option Tmp} {ty : TypeId} {pos : String} {after : Array Edge} {guard : Option (Nat × Bool)} [hu : TyU P t (.slice el)] [hi : TyI P el z 1 b]
    (hp : parts.toList = (List.range' 0 Xs.length).zip Xs) (hn : n = Xs.length) (hx : evL e Xs = some xs) (h1 : xs.all isOne = true) (h0 : Nat.blt 0 n = true) (hb : Nat.ble n 1000 = true) :
    OpJ P S e ⟨dst, .buildSlice t n parts, ty, pos, after, guard⟩ (AV.lit xs) :=
  opj_value fun a w _ ho => by
    subst hn
    have h0' := Nat.le_of_ble_eq_true h0
    have hb' := Nat.le_of_ble_eq_true hb
    obtain ⟨i, hi1, hz1, hs1, hb1⟩ := hi.h
    have hops : ∀ X ∈ Xs, X ∈ (Op.operands (.buildSlice t Xs.length parts)).toList := fun X hX => by
      simp only [Op.operands, List.mem_map]
      rw [hp]
      obtain ⟨k, hk, rfl⟩ := List.mem_iff_getElem.1 hX
      refine ⟨(k, Xs[k]), ?_, rfl⟩
      rw [List.mem_iff_getElem]
      exact ⟨k, by simp; omega, by simp⟩
    have hrl : RelL w xs (Xs.map a.eval) := evL_rel hx fun X hX => ho X (hops X hX)
    have hlen : (Xs.map a.eval).length = xs.length := hrl.length
    have hlx : xs.length = Xs.length := by simpa using hlen.symm
    have hcells : ∀ v ∈ Xs.map a.eval, v.cells = #[v] := fun v hv => by
      obtain ⟨k, hk, rfl⟩ := List.mem_iff_getElem.1 hv
      obtain ⟨u, hu', hr⟩ := hrl.get (i := k) (a := xs[k]'(by omega)) (by simp)
      rw [List.getElem?_eq_getElem hk] at hu'
      cases hu'
      exact isOne_cells (List.all_eq_true.1 h1 _ (List.getElem_mem _)) hr
    have hrun := run_buildSlice (P := P) w t el Xs.length (parts.map fun (i, x) => (i, a.eval x)) (Xs.map a.eval).toArray i z hu.h hi1 hz1 (by rw [hs1]; omega) (by rw [hs1]; omega) (by
      rw [hs1, Array.toList_map, hp]
      have hf := fill_row (Xs.map a.eval) 0 ((Array.range (Xs.length * 1)).map (z.cells[· % z.cells.size]!)) hcells (by simp)
      have e1 : ((List.range' 0 Xs.length).zip Xs).map (fun (x : Nat × Operand) => (x.1, a.eval x.2)) = (List.range' 0 (Xs.map a.eval).length).zip (Xs.map a.eval) := by
        rw [List.length_map, List.zip_map_right]
        rfl
      rw [show (fun (x : Nat × Operand) => match x with | (i, x) => (i, a.eval x)) = fun (x : Nat × Operand) => (x.1, a.eval x.2) from rfl, e1, hf]
      simp)
    refine ⟨.slice (some ⟨w.heap.size, 0, none⟩) Xs.length Xs.length, w.alloc (.cells (Xs.map a.eval).toArray el), by simp [execOp, hrun], Ext.alloc _ _, .p (mono_lit xs) ?_⟩
    refine ⟨some ⟨w.heap.size, 0, none⟩, _, _, rfl, by omega, Nat.le_refl _, by simp only [maxLen]; omega, fun k x hk => ⟨_, rfl, rfl, ?_⟩⟩
    obtain ⟨u, hu', hr⟩ := hrl.get hk
    refine ⟨u, ?_, isOne_ev (List.all_eq_true.1 h1 _ (List.mem_of_getElem? hk)) hr⟩
    have hb := heap_alloc_new w (.cells (Xs.map a.eval).toArray el)
    unfold World.cell?
    simp only [hb, Nat.zero_add]
    rw [← hu']
    simp
end
end Go.Ab
