/- From a walk of a law to its row: what was read is read again, the answer is true. No conditions. -/
import Derived.Test.YtljgokghchhjaaaMem
import Derived.ProofKit
import Derived.OpenShut
import Derived.Deep.Slices
namespace Go.Ab
open Go.ChangeShapes Go.WideShapes Go.ChangeAt Go.RowKit

section
variable {H : Type} {enc : TypeId × Value → H} {P : Program}

theorem stays_all (hl : laidOutB P = true) {W W' : World} (hw : Ext W W') : ∀ {ts : List TypeId} {vs : List Value} {ds : List (DataW H)} {ps : List MemPlace}, (∀ t ∈ ts, P.readableRec t = true ∧ t < P.types.size) →
    DataW.TrodAll enc P W 0 (fun _ => true) true ts vs ds ps → (∀ p ∈ ps, p.block < W.heap.size) → ∀ sp : Nat → Bool, (∀ p ∈ ps, sp p.block = true) → DataW.TrodAll enc P W' 0 sp true ts vs ds ps
  | [], vs, ds, ps, _, h, _, sp, _ => by
    obtain ⟨rfl, rfl, rfl⟩ := trodAll_nil h
    exact rfl
  | t :: ts, vs, ds, ps, ht, h, hlt, sp, hsp => by
    obtain ⟨v, vs', d, ds', p, q, rfl, rfl, rfl, h1, h2⟩ := trodAll_cons h
    refine ⟨p, q, ?_, stays_all hl hw (fun t' h' => ht t' (by simp [h'])) h2 (fun x hx => hlt x (by simp [hx])) sp (fun x hx => hsp x (by simp [hx])), rfl⟩
    exact WideElems.Trod_stays hl (ht t (by simp)).1 (ht t (by simp)).2 h1 (fun x hx => RowKit.Below.same hw (hlt x (by simp [hx]))) (fun x hx => hsp x (by simp [hx]))

/-- The row's step of a law that only reads. -/
theorem law_lift {C : Checked} {os : Os} {f : FuncId} {fn : Func} {s : ChangeSpec} {T : TypeId}
    (own : ownKnob C.prog.godebug = none) (started : os.Started) (noInit : C.prog.inits.idxOf? f = none) (hfn : C.prog.funcs[f]? = some fn)
    (witness : ∃ (w : World) (tape : Tape) (i : Input), w.os = os ∧ (w.forCall tape i).Shaped C.prog ∧ i.vars = [] ∧ Input.okWide C.prog (w.forCall tape i) .any w.heap.size f i ∧
      s.pre6 enc C.prog fn [] false (w.forCall tape i).memory i.args ∧ ({} : Assume).holds C.prog (lone (Frame.enter C.prog f i.args .normal) [] (w.forCall tape i)))
    (hvars : s.vars = []) (hspec : ∀ ds : List (DataW H), ds.length = fn.params.size → (s.fn H ds).results = [.lit (.bool true)] ∧ (s.fn H ds).args = ds ∧ (s.fn H ds).vars = [])
    (hres : fn.resultTypes = #[T]) (hT : C.prog.underlying T = some .bool) (hl : laidOutB C.prog = true) (hts : ∀ t ∈ fn.params.toList, C.prog.readableRec t = true ∧ t < C.prog.types.size)
    (h : ∀ (W : World) (base : Nat) (args : Array Value) (ds : List (DataW H)) (ps : List MemPlace), (∀ (j : Nat) t v, fn.params[j]? = some t → args[j]? = some v → Value.okWide C.prog W .any base t v) →
      DataW.TrodAll enc C.prog W 0 (fun _ => true) true fn.params.toList args.toList ds ps → Calls C.prog f args W fun e W' => e = .returned (.bool true) ∧ Ext W W') :
    ReturnsInHanded {} C os f .any (s.pre6 enc C.prog fn [] false) (s.post enc C.prog fn false true false false) := by
  refine returnsInHanded_of_change own started noInit hfn witness ?_
  intro W base args ds gs before hval hW _ _
  obtain ⟨p, q, hA, hV, hps, hnf, hnd⟩ := hW
  have hW : DataW.Whole enc C.prog fn.params.toList s.vars false W args.toList ds gs before := ⟨p, q, hA, hV, hps, hnf, hnd⟩
  have hlen : ds.length = fn.params.size := by
    have : ∀ (ts : List TypeId) (vs : List Value) (ds : List (DataW H)) (ps : List MemPlace), DataW.TrodAll enc C.prog W 0 (fun _ => true) true ts vs ds ps → ds.length = ts.length := by
      intro ts
      induction ts with
      | nil => intro vs ds ps h; obtain ⟨_, rfl, _⟩ := trodAll_nil h; rfl
      | cons t ts ih => intro vs ds ps h; obtain ⟨v, vs', d, ds', p, q, rfl, rfl, rfl, _, h2⟩ := trodAll_cons h; simp [ih _ _ _ h2]
    simpa using this _ _ _ _ hA
  rw [hvars] at hV
  have hgs : gs = [] ∧ q = [] := by
    cases gs with
    | nil => exact ⟨rfl, hV⟩
    | cons g gs => cases hV
  obtain ⟨rfl, rfl⟩ := hgs
  refine (h W base args ds p hval hA).mono fun e W' ⟨he, hext⟩ => ⟨.bool true, he, ?_⟩
  obtain ⟨hr1, hr2, hr3⟩ := hspec (ds ++ []) (by simpa using hlen)
  have hlt : ∀ x ∈ before, x.block < W.heap.size := fun x hx => hW.lt x hx
  have hbp : before = p := by simpa using hps
  subst hbp
  have hargs : ∀ sp : Nat → Bool, (∀ x ∈ before, sp x.block = true) → DataW.TrodAll enc C.prog W' 0 sp true fn.params.toList args.toList (s.fn H (ds ++ [])).args before := fun sp hsp => by
    rw [hr2, List.append_nil]
    exact stays_all hl hext hts hA hlt sp hsp
  have hresu : ∀ (b : Nat) (sp : Nat → Bool) (hd : Bool), DataW.TrodAll enc C.prog W' b sp hd fn.resultTypes.toList ((Value.bool true).resultList fn.resultTypes.size) (s.fn H (ds ++ [])).results [] := fun b sp hd => by
    rw [hr1, hres]
    exact trodAll_mk1 (shut_bool hT true)
  have hvs : ∀ sp : Nat → Bool, DataW.TrodVars enc C.prog W' sp s.vars (s.fn H (ds ++ [])).vars [] := fun sp => by
    rw [hvars, hr3]; exact rfl
  have hok : ∀ (j : Nat) (t : TypeId) (r : Value), fn.resultTypes[j]? = some t → ((Value.bool true).resultList fn.resultTypes.size)[j]? = some r → Value.okWide C.prog W' .any 0 t r := by
    rw [hres]
    intro j t r h1 h2
    have e : (Value.bool true).resultList (#[T] : Array TypeId).size = [.bool true] := rfl
    rw [e] at h2
    cases j with
    | zero =>
      simp at h1 h2
      subst h1; subst h2
      exact okWide_bool_mk hT true
    | succ j => simp at h1
  have hold : ∀ x ∈ before, (fun b => decide (b < W.heap.size)) x.block = true := fun x hx => by simpa using hlt x hx
  refine ⟨ds, [], before, [], before, [], hW, hresu _ _ _, hargs _ hold, hvs _, World.keptBut_mono (fun x hx => ⟨hx, .inr (by simpa using hx)⟩) (RowKit.Below.frame hext (· ∈ before)), fun h => by cases h⟩

theorem trod_float1 {W : World} {t : TypeId} {k : FloatKind} {sp : Nat → Bool} {hd : Bool} {fuel base : Nat} {cs : List Value} {x : DataW H × List MemPlace} (ht : P.underlying t = some (.float k)) (h : DataW.trod enc P W base sp hd fuel t cs = some x) :
    ∃ b, cs = [.float k b] ∧ b < 2 ^ k.format.width := by
  cases fuel with
  | zero => simp [DataW.trod] at h
  | succ fuel =>
    unfold DataW.trod at h
    rw [ht] at h
    split at h <;> simp_all
    rename_i k' b hk
    obtain ⟨⟨rfl, hw⟩, _⟩ := h
    cases k' <;> (simp [Lit.wf] at hw; exact hw)
theorem trod_int1 {W : World} {t : TypeId} {k : IntKind} {sp : Nat → Bool} {hd : Bool} {fuel base : Nat} {cs : List Value} {x : DataW H × List MemPlace} (ht : P.underlying t = some (.int k)) (h : DataW.trod enc P W base sp hd fuel t cs = some x) :
    ∃ n, cs = [.int k n] ∧ k.min ≤ n ∧ n ≤ k.max := by
  cases fuel with
  | zero => simp [DataW.trod] at h
  | succ fuel =>
    unfold DataW.trod at h
    rw [ht] at h
    split at h <;> simp_all
    rename_i k' b hk
    obtain ⟨⟨rfl, hw⟩, _⟩ := h
    simpa [Lit.wf] using hw

/-- A float that came in. -/
theorem open_f {W : World} {t : TypeId} {k : FloatKind} {v : Value} {d : DataW H} {p : List MemPlace} {base b2 : Nat} {sp : Nat → Bool} {hd : Bool} [ht : TyU P t (.float k)] (hval : Value.okWide P W .any b2 t v) (h : DataW.Trod enc P W base sp hd t v d p) :
    ∃ x : FV, Rel W (.f k x) v := by
  obtain ⟨fuel, h⟩ := h
  obtain ⟨b, hb, hlt⟩ := trod_float1 ht.h h
  have hv : v = .float k b := by
    simp only [Value.okWide, ht.h, Cell.okWide] at hval
    cases v <;> simp_all [Cell.ok, Value.cells]
  subst hv
  exact ⟨fv k b, .f hlt⟩
/-- A whole number that came in. -/
theorem open_i {W : World} {t : TypeId} {k : IntKind} {v : Value} {d : DataW H} {p : List MemPlace} {base b2 : Nat} {sp : Nat → Bool} {hd : Bool} [ht : TyU P t (.int k)] (hval : Value.okWide P W .any b2 t v) (h : DataW.Trod enc P W base sp hd t v d p) :
    ∃ n : Int, Rel W (.raw (.int k n)) v ∧ k.min ≤ n ∧ n ≤ k.max := by
  obtain ⟨fuel, h⟩ := h
  obtain ⟨b, hb, hlt⟩ := trod_int1 ht.h h
  have hv : v = .int k b := by
    simp only [Value.okWide, ht.h, Cell.okWide] at hval
    cases v <;> simp_all [Cell.ok, Value.cells]
  subst hv
  exact ⟨b, .raw, hlt⟩
theorem spot_of_cell {W : World} {a : Addr} {u : Value} (h : W.cell? a = some u) : a.spot = none := by
  unfold World.cell? at h
  split at h
  · cases hs : a.spot with
    | none => rfl
    | some s => simp [hs] at h
  · cases h
/-- A slice of one-cell elements that came in: each element is as its reading says. -/
theorem open_sl {α : Type} {m : α → AV} {W : World} {t e : TypeId} {v : Value} {d : DataW H} {p : List MemPlace} {base b2 : Nat} {sp : Nat → Bool} {hd : Bool} [ht : TyU P t (.slice e)] (hc : P.cellsOf e = 1)
    (helem : ∀ (n : Nat) (u : Value) (y : DataW H × List MemPlace), DataW.trod enc P W base sp hd n e [u] = some y → ∃ x : α, Ev (m x) u)
    (hval : Value.okWide P W .any b2 t v) (h : DataW.Trod enc P W base sp hd t v d p) : ∃ L : List α, Rd W 1 v (L.map m) := by
  obtain ⟨a0, n0, c0, rfl⟩ := okWide_slice ht.h hval
  obtain ⟨fuel, h⟩ := h
  rcases Deep.open_slice1 ht.h hc h with ⟨hcs, _⟩ | ⟨a, len, cap, mm, n, V, D, Pl, hcs, _, hl, hm, hmm, _, hx⟩
  · simp [Value.cells] at hcs
    obtain ⟨rfl, rfl, rfl⟩ := hcs
    exact ⟨[], none, 0, 0, rfl, rfl, Nat.le_refl _, by simp [maxLen], fun i x hi => by simp at hi⟩
  · simp [Value.cells] at hcs
    obtain ⟨rfl, rfl, rfl⟩ := hcs
    have hle : n0 ≤ mm := by rw [hmm]; split <;> omega
    have hex : ∀ k, k ≤ n0 → ∃ L : List α, L.length = k ∧ ∀ i x, L[i]? = some x → Ev (m x) (V i) := by
      intro k
      induction k with
      | zero => intro _; exact ⟨[], rfl, fun i x hi => by simp at hi⟩
      | succ k ih =>
        intro hk
        obtain ⟨L, hL, hall⟩ := ih (by omega)
        obtain ⟨x, hxk⟩ := helem _ _ _ (hx k (by omega)).2
        refine ⟨L ++ [x], by simp [hL], fun i y hi => ?_⟩
        rcases Nat.lt_or_ge i k with hik | hik
        · rw [List.getElem?_append_left (by omega)] at hi; exact hall i y hi
        · rw [List.getElem?_append_right (by omega)] at hi
          have : i - L.length = 0 := by
            false_or_by_contra
            rename_i hne
            rw [List.getElem?_eq_none (by simp; omega)] at hi
            cases hi
          have hik' : i = k := by omega
          subst hik'
          rw [this] at hi
          simp at hi
          subst hi
          exact hxk
    obtain ⟨L, hL, hall⟩ := hex n0 (Nat.le_refl _)
    refine ⟨L, some a, n0, c0, rfl, by simp [hL], hl, hm, fun i x hi => ?_⟩
    rw [List.getElem?_map] at hi
    obtain ⟨y, hy, rfl⟩ := Option.map_eq_some_iff.1 hi
    have hin : i < n0 := by rw [← hL]; exact (List.getElem?_eq_some_iff.1 hy).1
    have h0 := (hx 0 (by omega)).1
    have hsp : a.spot = none := by
      have := spot_of_cell h0
      simpa [Addr.add] using this
    refine ⟨a, rfl, hsp, V i, ?_, hall i y hy⟩
    have := (hx i (by omega)).1
    rw [addr_add a hsp] at this
    exact this
theorem open_slF {W : World} {t e : TypeId} {v : Value} {d : DataW H} {p : List MemPlace} {base b2 : Nat} {sp : Nat → Bool} {hd : Bool} {k : FloatKind} [ht : TyU P t (.slice e)] [he : TyU P e (.float k)] (hc : P.cellsOf e = 1)
    (hval : Value.okWide P W .any b2 t v) (h : DataW.Trod enc P W base sp hd t v d p) : ∃ L : List FV, Rel W (AV.sl W 1 (L.map (AV.f k))) v := by
  obtain ⟨L, hL⟩ := open_sl (m := AV.f k) hc (fun n u y hy => by
    obtain ⟨b, hb, hlt⟩ := trod_float1 he.h hy
    cases hb
    exact ⟨fv k b, ev_f hlt⟩) hval h
  exact ⟨L, .q hL⟩
end
end Go.Ab
