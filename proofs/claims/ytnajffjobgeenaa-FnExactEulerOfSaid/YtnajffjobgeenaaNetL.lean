/- A net that came in is as its reading says. No conditions. -/
import Derived.Test.YtnajffjobgeenaaLift
import Derived.Test.YtnajffjobgeenaaNetE
import Derived.KernelRfl
namespace Go.Ab
open Go.ChangeShapes Go.WideShapes Go.ChangeAt Go.RowKit Go.Proofs

section
variable {H : Type} {enc : TypeId × Value → H} {P : Program}
theorem rd_of_trod {α : Type} {m : α → AV} {W : World} {t e : TypeId} {v : Value} {fuel base : Nat} {sp : Nat → Bool} {hd : Bool} {y : DataW H × List MemPlace} (ht : P.underlying t = some (.slice e)) (hc : P.cellsOf e = 1)
    (helem : ∀ (n : Nat) (u : Value) (y : DataW H × List MemPlace), DataW.trod enc P W base sp hd n e [u] = some y → ∃ x : α, Ev (m x) u)
    (h : DataW.trod enc P W base sp hd fuel t [v] = some y) : ∃ L : List α, Rd W 1 v (L.map m) ∧ ∀ x ∈ L, ∃ (n : Nat) (u : Value) (y : DataW H × List MemPlace), DataW.trod enc P W base sp hd n e [u] = some y ∧ Ev (m x) u := by
  rcases Deep.open_slice1 ht hc h with ⟨hcs, _⟩ | ⟨a, len, cap, mm, n, V, D, Pl, hcs, _, hl, hm, hmm, _, hx⟩
  · obtain rfl : v = .slice none 0 0 := by simpa using hcs
    exact ⟨[], ⟨none, 0, 0, rfl, rfl, Nat.le_refl _, by simp [maxLen], fun i x hi => by simp at hi⟩, fun x hx => by cases hx⟩
  · obtain rfl : v = .slice (some a) len cap := by simpa using hcs
    have hle : len ≤ mm := by rw [hmm]; split <;> omega
    have hex : ∀ k, k ≤ len → ∃ L : List α, L.length = k ∧ (∀ i x, L[i]? = some x → Ev (m x) (V i)) := by
      intro k
      induction k with
      | zero => intro _; exact ⟨[], rfl, fun i x hi => by simp at hi⟩
      | succ k ih =>
        intro hk
        obtain ⟨L, hL, hall⟩ := ih (by omega)
        obtain ⟨x, hxk⟩ := helem _ _ _ (hx k (by omega)).2
        refine ⟨L ++ [x], by simp [hL], fun i y hi => ?_⟩
        rcases Nat.lt_or_ge i k with hik | hik
        · rw [List.getElem?_append_left (by omega)] at hi; exact hall i y hi
        · rw [List.getElem?_append_right (by omega)] at hi
          have : i - L.length = 0 := by
            false_or_by_contra
            rename_i hne
            rw [List.getElem?_eq_none (by simp; omega)] at hi
            cases hi
          have hik' : i = k := by omega
          subst hik'
          rw [this] at hi
          simp at hi
          subst hi
          exact hxk
    obtain ⟨L, hL, hall⟩ := hex len (Nat.le_refl _)
    refine ⟨L, ⟨some a, len, cap, rfl, by simp [hL], hl, hm, fun i x hi => ?_⟩, fun x hx' => ?_⟩
    · rw [List.getElem?_map] at hi
      obtain ⟨y, hy, rfl⟩ := Option.map_eq_some_iff.1 hi
      have hin : i < len := by rw [← hL]; exact (List.getElem?_eq_some_iff.1 hy).1
      have h0 := (hx 0 (by omega)).1
      have hsp : a.spot = none := by
        have := spot_of_cell h0
        simpa [Addr.add] using this
      refine ⟨a, rfl, hsp, V i, ?_, hall i y hy⟩
      have := (hx i (by omega)).1
      rw [addr_add a hsp] at this
      exact this
    · obtain ⟨i, hi, rfl⟩ := List.mem_iff_getElem.1 hx'
      exact ⟨n, V i, _, (hx i (by omega)).2, hall i _ (by simp [hi])⟩
theorem rd_len {W : World} {v : Value} {xs : List AV} (h : Rd W 1 v xs) : xs.length ≤ maxLen := by
  obtain ⟨a, len, cap, _, hl, hc, hm, _⟩ := h
  omega
/-- A field of a struct, read. -/
theorem trod_field {W : World} {t : TypeId} {fs : Array Field} {fuel base : Nat} {sp : Nat → Bool} {hd : Bool} {cs : List Value} {x : DataW H × List MemPlace} (ht : P.underlying t = some (.struct fs)) (h : DataW.trod enc P W base sp hd fuel t cs = some x)
    {i off : Nat} {T : TypeId} {u : Value} (hf : ∃ f, fs[i]? = some f ∧ f.type = T ∧ f.offset = off) (hc : P.cellsOf T = 1) (hu : cs[off]? = some u) : ∃ n y, DataW.trod enc P W base sp hd n T [u] = some y := by
  obtain ⟨xs, n, _, _, _, hl, hall⟩ := DataW.trod_struct ht h
  obtain ⟨f, hf, rfl, rfl⟩ := hf
  have := hall i f hf
  rw [hc] at this
  have hi : i < xs.length := by rw [hl]; exact (Array.getElem?_eq_some_iff.1 hf).1
  rw [List.getElem?_eq_getElem hi] at this
  refine ⟨n, xs[i], ?_⟩
  have e : (cs.drop f.offset).take 1 = [u] := by
    have hlt : f.offset < cs.length := (List.getElem?_eq_some_iff.1 hu).1
    rw [List.drop_eq_getElem_cons hlt]
    have := List.getElem?_eq_getElem hlt
    rw [hu] at this
    cases this
    rfl
  rw [e] at this
  exact this
end
/-- What a cell holds, as a float. -/
def cellF (W : World) (b o : Nat) : FV := match W.cell? ⟨b, o, none⟩ with
  | some (.float .f32 x) => fv .f32 (x % 2 ^ 32)
  | _ => fv .f32 0
theorem cellF_ok (W : World) (b o : Nat) : Ok32 (cellF W b o) := by
  unfold cellF
  split
  · exact ⟨_, Nat.mod_lt _ (by decide), rfl⟩
  · exact ⟨0, by decide, rfl⟩
set_option maxRecDepth 100000 in
theorem open_net {H : Type} {enc : TypeId × Value → H} {W : World} {v : Value} {d : DataW H} {p : List MemPlace} {base b2 : Nat} {sp : Nat → Bool} {hd : Bool} (hval : Value.okWide Try.prog W .any b2 41 v) (h : DataW.Trod enc Try.prog W base sp hd 41 v d p) :
    ∃ (n : Nat) (s : Int → FV) (F : List (List Int)), Rel W (netA W n s F) v ∧ (∀ t, Ok32 (s t)) ∧ n ≤ maxLen ∧ F.length ≤ maxLen ∧ ∀ L ∈ F, L.length ≤ maxLen := by
  obtain ⟨fuel, h⟩ := h
  have hu : Try.prog.underlying 41 = some (.struct (Try.prog.fieldsOf 41)) := by kernel_rfl
  obtain ⟨cs, rfl, hsz⟩ := okWide_struct hu hval
  have hsz2 : Try.prog.cellsOf 41 = 2 := by kernel_rfl
  rw [hsz2] at hsz
  obtain ⟨c0, c1, rfl⟩ : ∃ c0 c1, cs = #[c0, c1] := by
    obtain ⟨l⟩ := cs
    match l, hsz with
    | [a, b], _ => exact ⟨a, b, rfl⟩
  have hcl : (Value.agg #[c0, c1]).cells.toList = [c0, c1] := rfl
  rw [hcl] at h
  obtain ⟨n0, y0, h0⟩ := trod_field (i := 0) (off := 0) (T := 38) (u := c0) hu h ⟨((Try.prog.fieldsOf 41)[0]?).getD default, by kernel_rfl, by kernel_rfl, by kernel_rfl⟩ (by kernel_rfl) rfl
  obtain ⟨n1, y1, h1⟩ := trod_field (i := 1) (off := 1) (T := 39) (u := c1) hu h ⟨((Try.prog.fieldsOf 41)[1]?).getD default, by kernel_rfl, by kernel_rfl, by kernel_rfl⟩ (by kernel_rfl) rfl
  have huS : Try.prog.underlying 141 = some (.struct (Try.prog.fieldsOf 141)) := by kernel_rfl
  have huF : Try.prog.underlying 139 = some (.struct (Try.prog.fieldsOf 139)) := by kernel_rfl
  obtain ⟨F, hF, hFe⟩ := rd_of_trod (m := facA W) (P := Try.prog) (t := 39) (e := 139) (by kernel_rfl) (by kernel_rfl) (fun n u y hy => by
    obtain ⟨n', y', hy'⟩ := trod_field (i := 0) (off := 0) (T := 93) (u := u) huF hy ⟨((Try.prog.fieldsOf 139)[0]?).getD default, by kernel_rfl, by kernel_rfl, by kernel_rfl⟩ (by kernel_rfl) rfl
    obtain ⟨L, hL, _⟩ := rd_of_trod (m := intA) (P := Try.prog) (t := 93) (e := 2) (by kernel_rfl) (by kernel_rfl) (fun n u y hy => by
      obtain ⟨k, hk, _⟩ := trod_int1 (k := .i64) (by kernel_rfl) hy
      cases hk
      exact ⟨k, ev_raw _⟩) hy'
    exact ⟨L, fun _ => .q hL⟩) h1
  have hlenF : F.length ≤ maxLen := by have := rd_len hF; simpa using this
  have hlenL : ∀ L ∈ F, L.length ≤ maxLen := fun L hL => by
    obtain ⟨_, u, _, _, he⟩ := hFe L hL
    have := rd_len (he W).inv_q
    simpa using this
  rcases Deep.open_slice (P := Try.prog) (t := 38) (e := 141) (by kernel_rfl) h0 with ⟨hcs, _⟩ | ⟨a, len, cap, mm, n, D, Pl, hcs, _, hl, hm, hmm, _, hx⟩
  · obtain rfl : c0 = .slice none 0 0 := by simpa using hcs
    refine ⟨0, fun _ => fv .f32 0, F, .agg (vs := [_, _]) (.cons (.q ?_) (.cons (.q hF) .nil)), fun _ => ⟨0, by decide, rfl⟩, by simp [maxLen], hlenF, hlenL⟩
    exact ⟨none, 0, 0, rfl, by simp, Nat.le_refl _, by simp [maxLen], fun i x hi => by simp [tab] at hi⟩
  · obtain rfl : c0 = .slice (some a) len cap := by simpa using hcs
    have hle : len ≤ mm := by rw [hmm]; split <;> omega
    have h3 : Try.prog.cellsOf 141 = 3 := by kernel_rfl
    rw [h3] at hx
    have hcell : ∀ i j, i < len → j < 3 → a.spot = none ∧ ∃ b, W.cell? ⟨a.block, a.off + (i * 3 + j), none⟩ = some (.float .f32 b) ∧ b < 2 ^ 32 := fun i j hi hj => by
      obtain ⟨cs', hcs', htr⟩ := hx i (by omega)
      obtain ⟨_, hlen, hce⟩ := World.cells?_some hcs'
      have hj' : j < cs'.length := by omega
      have hcj := hce j hj
      rw [List.getElem?_eq_getElem hj'] at hcj
      have hsp : a.spot = none := by
        obtain ⟨cs2, hcs2, _⟩ := hx 0 (by omega)
        obtain ⟨_, hlen2, hce2⟩ := World.cells?_some hcs2
        have h0 := hce2 0 (by decide)
        rw [List.getElem?_eq_getElem (by omega)] at h0
        have := spot_of_cell h0
        simpa [Addr.add] using this
      obtain ⟨n', y', hy'⟩ := trod_field (i := j) (off := j) (T := 26) (u := cs'[j]) huS htr (by
        match j, hj with
        | 0, _ => exact ⟨((Try.prog.fieldsOf 141)[0]?).getD default, by kernel_rfl, by kernel_rfl, by kernel_rfl⟩
        | 1, _ => exact ⟨((Try.prog.fieldsOf 141)[1]?).getD default, by kernel_rfl, by kernel_rfl, by kernel_rfl⟩
        | 2, _ => exact ⟨((Try.prog.fieldsOf 141)[2]?).getD default, by kernel_rfl, by kernel_rfl, by kernel_rfl⟩) (by kernel_rfl) (List.getElem?_eq_getElem hj')
      obtain ⟨b, hb, hlt⟩ := trod_float1 (k := .f32) (by kernel_rfl) hy'
      have hb' : cs'[j] = .float .f32 b := by simpa using hb
      rw [hb', addr_add a hsp, addr_add _ rfl, Nat.add_assoc] at hcj
      exact ⟨hsp, b, hcj, hlt⟩
    refine ⟨len, fun t => cellF W a.block (a.off + t.toNat), F, .agg (vs := [_, _]) (.cons (.q ?_) (.cons (.q hF) .nil)), fun t => cellF_ok _ _ _, by omega, hlenF, hlenL⟩
    refine ⟨some a, len, cap, rfl, by simp; omega, hl, hm, fun i x hi => ?_⟩
    have hlt : i < 3 * len := by have := (List.getElem?_eq_some_iff.1 hi).1; simpa using this
    obtain ⟨hsp, b, hb, hblt⟩ := hcell (i / 3) (i % 3) (by omega) (Nat.mod_lt _ (by decide))
    have e1 : i / 3 * 3 + i % 3 = i := by omega
    rw [e1] at hb
    refine ⟨a, rfl, hsp, _, hb, ?_⟩
    rw [List.getElem?_map, tab_get _ hlt] at hi
    cases hi
    have : cellF W a.block (a.off + ((i : Nat) : Int).toNat) = fv .f32 b := by
      unfold cellF
      rw [Int.toNat_natCast, hb]
      simp only
      rw [Nat.mod_eq_of_lt hblt]
    rw [this]
    exact ev_f hblt
end Go.Ab
