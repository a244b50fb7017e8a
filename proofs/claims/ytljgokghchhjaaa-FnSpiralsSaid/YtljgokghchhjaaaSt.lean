/- Memory that a call owns, memory that came in, and what an operation does to them. No conditions. -/
import Derived.Test.YtljgokghchhjaaaAb
namespace Go.Ab

/-- The value is as said in whatever world. -/
def Ev (x : AV) (u : Value) : Prop := ∀ w, Rel w x u
theorem Rel.ev {w : World} {x : AV} {u : Value} (h : Rel w x u) (hs : x.still = true) : Ev x u := fun _ => h.any hs
theorem ev_f {k : FloatKind} {b : Nat} (h : b < 2 ^ k.format.width) : Ev (.f k (fv k b)) (.float k b) := fun _ => .f h
theorem ev_raw (v : Value) : Ev (.raw v) v := fun _ => .raw

/-- A block of cells of which the first are known. -/
structure Ent where
  g : Nat
  T : TypeId
  xs : List AV
  csz : Nat
def OwnE (w : World) (e : Ent) : Prop :=
  ∃ cur : Array Value, w.heap[e.g]? = some (.cells cur e.T (0, 0)) ∧ cur.size = e.csz ∧ ∀ (i : Nat) (x : AV), e.xs[i]? = some x → ∃ u, cur[i]? = some u ∧ Ev x u
theorem OwnE.lt {w : World} {e : Ent} (h : OwnE w e) : e.g < w.heap.size := by
  obtain ⟨cur, hb, _⟩ := h
  exact (Array.getElem?_eq_some_iff.1 hb).1
theorem OwnE.ext {w w' : World} {e : Ent} (h : OwnE w e) (hw : Ext w w') : OwnE w' e := by
  obtain ⟨cur, hb, r⟩ := h
  exact ⟨cur, hw.block hb, r⟩
theorem OwnE.of_heap {w w' : World} {e : Ent} (h : OwnE w e) (hw : w'.heap[e.g]? = w.heap[e.g]?) : OwnE w' e := by
  obtain ⟨cur, hb, r⟩ := h
  exact ⟨cur, by rw [hw]; exact hb, r⟩
theorem OwnE.cell {w : World} {e : Ent} (h : OwnE w e) {i : Nat} {x : AV} (hx : e.xs[i]? = some x) : ∃ u, w.cell? ⟨e.g, i, none⟩ = some u ∧ Ev x u := by
  obtain ⟨cur, hb, _, hc⟩ := h
  obtain ⟨u, hu, hev⟩ := hc i x hx
  exact ⟨u, by simp [World.cell?, hb, hu], hev⟩
theorem OwnE.frozen {w : World} {e : Ent} (h : OwnE w e) (i : Nat) : w.frozen? ⟨e.g, i, none⟩ = false := by
  obtain ⟨cur, hb, _⟩ := h
  simp [World.frozen?, hb]

/-- A readable slice: its cells, one behind the other ('sz' cells an element). -/
def Rd (w : World) (sz : Nat) (v : Value) (xs : List AV) : Prop :=
  ∃ a len cap, v = .slice a len cap ∧ xs.length = len * sz ∧ len ≤ cap ∧ cap ≤ maxLen ∧
    ∀ (i : Nat) (x : AV), xs[i]? = some x → ∃ b : Addr, a = some b ∧ b.spot = none ∧ ∃ u, w.cell? ⟨b.block, b.off + i, none⟩ = some u ∧ Ev x u
theorem Rd.ext {w w' : World} {sz : Nat} {v : Value} {xs : List AV} (h : Rd w sz v xs) (hw : Ext w w') : Rd w' sz v xs := by
  obtain ⟨a, len, cap, hv, hl, hc, hm, h⟩ := h
  refine ⟨a, len, cap, hv, hl, hc, hm, fun i x hx => ?_⟩
  obtain ⟨b, ha, hs, u, hu, hev⟩ := h i x hx
  exact ⟨b, ha, hs, u, hw.cell hu, hev⟩
/-- A slice that came in, readable when the call began. -/
def AV.sl (w : World) (sz : Nat) (xs : List AV) : AV := .q fun v => Rd w sz v xs

/-- A readable place: its cells. -/
def PtrTo (xs : List AV) (w : World) (v : Value) : Prop :=
  ∃ b : Addr, v = .pointer (some b) ∧ b.spot = none ∧ ∀ (i : Nat) (x : AV), xs[i]? = some x → ∃ u, w.cell? ⟨b.block, b.off + i, none⟩ = some u ∧ Ev x u
theorem mono_ptrTo (xs : List AV) : Mono (PtrTo xs) := by
  intro w w' v hw ⟨b, hv, hs, h⟩
  refine ⟨b, hv, hs, fun i x hx => ?_⟩
  obtain ⟨u, hu, hev⟩ := h i x hx
  exact ⟨u, hw.cell hu, hev⟩
def AV.ptr (xs : List AV) : AV := .p (PtrTo xs)

/-- Nothing that was there has turned but the blocks of a list. -/
structure Mod (w w' : World) (gs : List Nat) : Prop where
  os : w'.os = w.os
  tape : w'.tape = w.tape
  output : w'.output = w.output
  size : w.heap.size ≤ w'.heap.size
  block : ∀ k, k < w.heap.size → k ∉ gs → w'.heap[k]? = w.heap[k]?
theorem Mod.refl (w : World) (gs : List Nat) : Mod w w gs := ⟨rfl, rfl, rfl, Nat.le_refl _, fun _ _ _ => rfl⟩
theorem Mod.ext {a b c : World} {gs : List Nat} (h : Mod a b gs) (k : Ext b c) : Mod a c gs :=
  ⟨k.os.trans h.os, k.tape.trans h.tape, k.output.trans h.output, Nat.le_trans h.size k.size, fun i hi hn => (RowKit.Below.block k i (Nat.lt_of_lt_of_le hi h.size)).trans (h.block i hi hn)⟩
theorem Mod.trans {a b c : World} {gs ks : List Nat} (h : Mod a b gs) (k : Mod b c ks) (hk : ∀ i ∈ ks, i ∈ gs ∨ a.heap.size ≤ i) : Mod a c gs :=
  ⟨k.os.trans h.os, k.tape.trans h.tape, k.output.trans h.output, Nat.le_trans h.size k.size, fun i hi hn => (k.block i (Nat.lt_of_lt_of_le hi h.size) (fun hm => by rcases hk i hm with h1 | h1; exact hn h1; omega)).trans (h.block i hi hn)⟩
theorem Mod.to_ext {w w' : World} (h : Mod w w' []) : Ext w w' := ⟨h.os, h.tape, h.output, h.size, fun k hk => h.block k hk (by simp)⟩
theorem Mod.of_ext {w w' : World} (h : Ext w w') (gs : List Nat) : Mod w w' gs := (Mod.refl w gs).ext h

/-- A predicate on worlds that stands while nothing that was there turns but blocks of cells. -/
class RStab (R : World → Prop) : Prop where
  stab : ∀ {w w' : World} {gs : List Nat}, R w → Mod w w' gs → (∀ g ∈ gs, ∃ c T f, w.heap[g]? = some (.cells c T f)) → R w'
instance : RStab (fun _ => True) := ⟨fun _ _ _ => trivial⟩
variable {R : World → Prop}
/-- The state of a call that began in w0 and may write the blocks gs: what it owns, and what else holds. -/
structure StR (R : World → Prop) (w0 : World) (gs : List Nat) (H : List Ent) (w : World) : Prop where
  mod : Mod w0 w gs
  own : ∀ e ∈ H, (e.g ∈ gs ∨ w0.heap.size ≤ e.g) ∧ OwnE w e
  nodup : (H.map (·.g)).Nodup
  r : R w
abbrev St (w0 : World) (gs : List Nat) (H : List Ent) (w : World) : Prop := StR (fun _ => True) w0 gs H w
instance [RStab R] (w0 : World) (gs : List Nat) (H : List Ent) : Cl (StR R w0 gs H) where
  ext := fun h hw => ⟨h.mod.ext hw, fun e he => ⟨(h.own e he).1, (h.own e he).2.ext hw⟩, h.nodup, RStab.stab h.r (Mod.of_ext hw []) (fun _ hg => by cases hg)⟩
theorem StR.init (w0 : World) (hr : R w0) : StR R w0 [] [] w0 := ⟨Mod.refl _ _, fun _ h => (by cases h), List.Pairwise.nil, hr⟩
theorem StR.start {w0 : World} {H : List Ent} (ho : ∀ e ∈ H, OwnE w0 e) (hn : (H.map (·.g)).Nodup) (hr : R w0) : StR R w0 (H.map (·.g)) H w0 :=
  ⟨Mod.refl _ _, fun e he => ⟨.inl (List.mem_map_of_mem he), ho e he⟩, hn, hr⟩
theorem StR.ext0 {w0 w : World} {H : List Ent} (h : StR R w0 [] H w) : Ext w0 w := h.mod.to_ext
/-- Fewer blocks are kept in mind. -/
theorem StR.weak {w0 w : World} {gs : List Nat} {H H' : List Ent} (h : StR R w0 gs H w) (hs : H'.Sublist H) : StR R w0 gs H' w :=
  ⟨h.mod, fun e he => h.own e (hs.subset he), h.nodup.sublist (hs.map _), h.r⟩
theorem StR.perm {w0 w : World} {gs : List Nat} {H H' : List Ent} (h : StR R w0 gs H w) (hp : H'.Perm H) : StR R w0 gs H' w :=
  ⟨h.mod, fun e he => h.own e (hp.subset he), ((hp.map _).nodup_iff).2 h.nodup, h.r⟩
theorem StR.rd {w0 w : World} {H : List Ent} {sz : Nat} {v : Value} {xs : List AV} (h : StR R w0 [] H w) (hr : Rd w0 sz v xs) : Rd w sz v xs := hr.ext h.ext0
variable [RStab R]
/-- A new block. -/
theorem StR.new {w0 w w' : World} {gs : List Nat} {H : List Ent} {e : Ent} (h : StR R w0 gs H w) (hw : Ext w w') (hg : w.heap.size ≤ e.g) (ho : OwnE w' e) : StR R w0 gs (e :: H) w' := by
  refine ⟨h.mod.ext hw, fun x hx => ?_, ?_, RStab.stab h.r (Mod.of_ext hw []) (fun _ hg => by cases hg)⟩
  · rcases List.mem_cons.1 hx with rfl | hx
    · exact ⟨.inr (Nat.le_trans h.mod.size hg), ho⟩
    · exact ⟨(h.own x hx).1, (h.own x hx).2.ext hw⟩
  · refine List.nodup_cons.2 ⟨fun hm => ?_, h.nodup⟩
    obtain ⟨x, hx, hxg⟩ := List.mem_map.1 hm
    have h1 := (h.own x hx).2.lt
    have h2 : x.g = e.g := hxg
    omega
/-- The block at the head has turned, no other. -/
theorem StR.upd {w0 w w' : World} {gs : List Nat} {H : List Ent} {e e' : Ent} (h : StR R w0 gs (e :: H) w) (hw : Mod w w' [e.g]) (hg : e'.g = e.g) (ho : OwnE w' e') : StR R w0 gs (e' :: H) w' := by
  have hn := List.nodup_cons.1 h.nodup
  have he := h.own e (by simp)
  refine ⟨h.mod.trans hw (fun i hi => ?_), fun x hx => ?_, ?_, RStab.stab h.r hw (fun g hg => ?_)⟩
  · simp at hi; subst hi; exact he.1
  · rcases List.mem_cons.1 hx with rfl | hx
    · exact ⟨by rw [hg]; exact he.1, ho⟩
    · have hx' := h.own x (by simp [hx])
      refine ⟨hx'.1, hx'.2.of_heap (hw.block _ hx'.2.lt (fun hm => ?_))⟩
      simp at hm
      exact hn.1 (by simp only [List.mem_map]; exact ⟨x, hx, hm⟩)
  · simp only [List.map_cons, hg]; exact h.nodup
  · simp at hg; subst hg
    obtain ⟨cur, hb, _⟩ := he.2
    exact ⟨_, _, _, hb⟩
theorem StR.swap {R0 : World → Prop} {w0 w : World} {gs : List Nat} {H : List Ent} {a b : Ent} (h : StR R0 w0 gs (a :: b :: H) w) : StR R0 w0 gs (b :: a :: H) w := h.perm (List.Perm.swap _ _ _)
theorem StR.rot3 {R0 : World → Prop} {w0 w : World} {gs : List Nat} {H : List Ent} {a b c : Ent} (h : StR R0 w0 gs (a :: b :: c :: H) w) : StR R0 w0 gs (c :: a :: b :: H) w :=
  h.perm ((List.Perm.swap _ _ _).trans (List.Perm.cons _ (List.Perm.swap _ _ _)))
theorem StR.rot4 {R0 : World → Prop} {w0 w : World} {gs : List Nat} {H : List Ent} {a b c d : Ent} (h : StR R0 w0 gs (a :: b :: c :: d :: H) w) : StR R0 w0 gs (d :: a :: b :: c :: H) w := by
  refine h.perm ?_
  exact (List.Perm.swap _ _ _).trans (List.Perm.cons _ ((List.Perm.swap _ _ _).trans (List.Perm.cons _ (List.Perm.swap _ _ _))))
/-- What a call that writes some of the owned blocks leaves. -/
theorem StR.call {w0 w w' : World} {gs : List Nat} {A B H : List Ent} (h : StR R w0 gs (A ++ H) w) (hw : Mod w w' (A.map (·.g)))
    (hb : ∀ e ∈ B, OwnE w' e ∧ (e.g ∈ A.map (·.g) ∨ w.heap.size ≤ e.g)) (hn : (B.map (·.g)).Nodup) : StR R w0 gs (B ++ H) w' := by
  have hnd := h.nodup
  rw [List.map_append, List.nodup_append] at hnd
  have hA : ∀ g ∈ A.map (·.g), g ∈ gs ∨ w0.heap.size ≤ g := fun g hg => by
    obtain ⟨e, he, rfl⟩ := List.mem_map.1 hg
    exact (h.own e (by simp [he])).1
  refine ⟨h.mod.trans hw hA, fun x hx => ?_, ?_, RStab.stab h.r hw (fun g hg => ?_)⟩
  · rcases List.mem_append.1 hx with hx | hx
    · have := hb x hx
      exact ⟨this.2.elim (hA _) (fun hg => .inr (Nat.le_trans h.mod.size hg)), this.1⟩
    · have hx' := h.own x (by simp [hx])
      exact ⟨hx'.1, hx'.2.of_heap (hw.block _ hx'.2.lt (fun hm => hnd.2.2 _ hm _ (List.mem_map_of_mem hx) rfl))⟩
  · rw [List.map_append, List.nodup_append]
    refine ⟨hn, hnd.2.1, fun a ha b hb' hab => ?_⟩
    subst hab
    obtain ⟨e, he, rfl⟩ := List.mem_map.1 ha
    rcases (hb e he).2 with h1 | h1
    · exact hnd.2.2 _ h1 _ hb' rfl
    · obtain ⟨x, hx, hxe⟩ := List.mem_map.1 hb'
      have := (h.own x (by simp [hx])).2.lt
      omega
  · obtain ⟨e, he, rfl⟩ := List.mem_map.1 hg
    obtain ⟨cur, hb, _⟩ := (h.own e (by simp [he])).2
    exact ⟨_, _, _, hb⟩

theorem mod_setCell (w : World) (g i : Nat) (u : Value) : Mod w (w.setCell ⟨g, i, none⟩ u) [g] := by
  refine ⟨rfl, rfl, rfl, by simp [World.setCell], fun k hk hn => ?_⟩
  simp at hn
  simp only [World.setCell, Array.getElem?_modify]
  rw [if_neg (fun e => hn e.symm)]
theorem own_setCell {w : World} {e : Ent} (h : OwnE w e) {i : Nat} {x : AV} {u : Value} (hi : i < e.csz) (hu : Ev x u) : OwnE (w.setCell ⟨e.g, i, none⟩ u) { e with xs := e.xs.set i x } := by
  obtain ⟨cur, hb, hs, hc⟩ := h
  refine ⟨cur.setIfInBounds i u, ?_, by simp [hs], fun j y hj => ?_⟩
  · simp only [World.setCell, Array.getElem?_modify, hb]
    simp
  · simp only [List.getElem?_set] at hj
    split at hj
    · rename_i he
      subst he
      split at hj
      · cases hj; exact ⟨u, by simp [hs, hi], hu⟩
      · cases hj
    · rename_i hne
      obtain ⟨y', hy', hev⟩ := hc j y hj
      exact ⟨y', by rw [Array.getElem?_setIfInBounds_ne hne]; exact hy', hev⟩
end Go.Ab
