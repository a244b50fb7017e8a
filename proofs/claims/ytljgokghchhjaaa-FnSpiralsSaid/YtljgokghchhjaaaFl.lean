/- Floats of the model as values without the bits of a not-a-number: what an operation gives is a function of such values. No conditions. -/
import Derived.Laws.FloatArith
import Derived.Laws.ComplexArith
import Derived.Below
namespace Go.Ab
/-! Whether something is in a list that is known. -/
theorem mh {α : Type} {a : α} {l : List α} : a ∈ a :: l := List.Mem.head _
theorem mt {α : Type} {a b : α} {l : List α} (h : a ∈ l) : a ∈ b :: l := List.Mem.tail _ h

/-- A float's bits, or 'none' for a not-a-number of whatever bits. -/
abbrev FV := Option Nat
def fv (k : FloatKind) (b : Nat) : FV := if (k.decode b).isNaN then none else some b
def fbin (op : BinOp) (k : FloatKind) (x y : FV) : FV := x.bind fun a => y.bind fun b => floatBits op k a b
def fcmp (k : FloatKind) (x y : FV) : Option Ordering := x.bind fun a => y.bind fun b => k.format.order a b
def fconv (s d : FloatKind) (x : FV) : FV := x.bind fun b => floatToFloatBits s b d
/-- What '-x' gives. -/
def flipSign (k : FloatKind) (b : Nat) : Nat := match k with
  | .f32 => if b / 2 ^ 31 % 2 = 1 then b - 2 ^ 31 else b + 2 ^ 31
  | .f64 => if b / 2 ^ 63 % 2 = 1 then b - 2 ^ 63 else b + 2 ^ 63

theorem word_mod (f : Ieee.Format) (neg : Bool) {rung : Nat} (h : rung < f.signWeight) : f.word neg rung % f.signWeight = rung := by
  unfold Ieee.Format.word
  split
  · rw [Nat.add_mod_left, Nat.mod_eq_of_lt h]
  · exact Nat.mod_eq_of_lt h

theorem read_word_not_nan (f : Ieee.Format) (neg : Bool) {rung : Nat} (h : rung ≤ f.infRung) : (f.read (f.word neg rung)).isNaN = false := by
  have hlt := f.infRung_lt
  unfold Ieee.Format.read
  simp only [word_mod f neg (Nat.lt_of_le_of_lt h hlt)]
  split
  · rfl
  · split
    · rfl
    · split
      · rfl
      · omega

theorem nearest_not_nan (f : Ieee.Format) (neg : Bool) (m : Nat) (e : Int) : (f.read (f.nearest neg m e)).isNaN = false := by
  unfold Ieee.Format.nearest
  dsimp only
  split
  · exact read_word_not_nan f neg (Nat.zero_le _)
  · exact read_word_not_nan f neg (Nat.min_le_right _ _)

theorem write_not_nan (f : Ieee.Format) (d : Ieee.Datum) (h : d.isNaN = false) : (f.read (f.write d)).isNaN = false := by
  cases d with
  | number s m e => exact nearest_not_nan f s m e
  | infinity s => exact read_word_not_nan f s (Nat.le_refl _)
  | nan s t => cases h

theorem sum_not_nan {x y d : Ieee.Datum} (h : x.sum y = some d) : d.isNaN = false := by
  cases x <;> cases y <;> simp only [Ieee.Datum.sum] at h <;> (try split at h) <;> (try cases h) <;> rfl
theorem product_not_nan {x y d : Ieee.Datum} (h : x.product y = some d) : d.isNaN = false := by
  cases x <;> cases y <;> simp only [Ieee.Datum.product] at h <;> (try split at h) <;> (try cases h) <;> rfl
theorem quotient_not_nan {n : Nat} {x y d : Ieee.Datum} (h : x.quotient n y = some d) : d.isNaN = false := by
  cases x <;> cases y <;> simp only [Ieee.Datum.quotient] at h <;> (try split at h) <;> (try split at h) <;> (try cases h) <;> rfl

theorem floatBits_not_nan {op : BinOp} {k : FloatKind} {a b r : Nat} (h : floatBits op k a b = some r) : (k.decode r).isNaN = false := by
  unfold floatBits at h
  split at h
  · unfold Ieee.Format.add at h
    cases hd : ((k.format.read a).sum (k.format.read b)) with
    | none => simp [hd] at h
    | some d => simp [hd] at h; subst h; exact write_not_nan _ d (sum_not_nan hd)
  · unfold Ieee.Format.sub at h
    cases hd : ((k.format.read a).sum (k.format.read b).opposite) with
    | none => simp [hd] at h
    | some d => simp [hd] at h; subst h; exact write_not_nan _ d (sum_not_nan hd)
  · unfold Ieee.Format.mul at h
    cases hd : ((k.format.read a).product (k.format.read b)) with
    | none => simp [hd] at h
    | some d => simp [hd] at h; subst h; exact write_not_nan _ d (product_not_nan hd)
  · unfold Ieee.Format.div at h
    cases hd : ((k.format.read a).quotient (k.format.fractionBits + 2) (k.format.read b)) with
    | none => simp [hd] at h
    | some d => simp [hd] at h; subst h; exact write_not_nan _ d (quotient_not_nan hd)
  · cases h

theorem isNaN_cases {d : Ieee.Datum} (h : d.isNaN = true) : ∃ s t, d = .nan s t := by
  cases d with
  | nan s t => exact ⟨s, t, rfl⟩
  | number s m e => cases h
  | infinity s => cases h

theorem floatBits_nan_left {op : BinOp} {k : FloatKind} {a b : Nat} (h : (k.decode a).isNaN = true) : floatBits op k a b = none := by
  obtain ⟨s, t, e⟩ := isNaN_cases h
  have e' : k.format.read a = .nan s t := e
  unfold floatBits
  split <;> simp [Ieee.Format.add, Ieee.Format.sub, Ieee.Format.mul, Ieee.Format.div, e', Ieee.Datum.sum, Ieee.Datum.product, Ieee.Datum.quotient]
theorem floatBits_nan_right {op : BinOp} {k : FloatKind} {a b : Nat} (h : (k.decode b).isNaN = true) : floatBits op k a b = none := by
  obtain ⟨s, t, e⟩ := isNaN_cases h
  have e' : k.format.read b = .nan s t := e
  unfold floatBits
  split <;> cases hx : k.format.read a <;> simp [Ieee.Format.add, Ieee.Format.sub, Ieee.Format.mul, Ieee.Format.div, e', hx, Ieee.Datum.sum, Ieee.Datum.product, Ieee.Datum.quotient, Ieee.Datum.opposite]

theorem fv_nan {k : FloatKind} {b : Nat} (h : (k.decode b).isNaN = true) : fv k b = none := by simp [fv, h]
theorem fv_some {k : FloatKind} {b : Nat} (h : (k.decode b).isNaN = false) : fv k b = some b := by simp [fv, h]

theorem fbin_fv (op : BinOp) (k : FloatKind) (a b : Nat) : fbin op k (fv k a) (fv k b) = floatBits op k a b := by
  cases ha : (k.decode a).isNaN with
  | true => rw [fv_nan ha, floatBits_nan_left ha]; rfl
  | false =>
    cases hb : (k.decode b).isNaN with
    | true => rw [fv_some ha, fv_nan hb, floatBits_nan_right hb]; rfl
    | false => rw [fv_some ha, fv_some hb]; rfl

theorem fcmp_fv (k : FloatKind) (a b : Nat) : fcmp k (fv k a) (fv k b) = k.format.order a b := by
  cases ha : (k.decode a).isNaN with
  | true =>
    obtain ⟨s, t, e⟩ := isNaN_cases ha
    have e' : k.format.read a = .nan s t := e
    rw [fv_nan ha]; simp [fcmp, Ieee.Format.order, e', Ieee.Datum.order]
  | false =>
    cases hb : (k.decode b).isNaN with
    | true =>
      obtain ⟨s, t, e⟩ := isNaN_cases hb
      have e' : k.format.read b = .nan s t := e
      rw [fv_some ha, fv_nan hb]
      cases hx : k.format.read a <;> simp [fcmp, Ieee.Format.order, e', hx, Ieee.Datum.order]
    | false => rw [fv_some ha, fv_some hb]; rfl

/-- A draw, or none: nothing else has turned. -/
def Quiet (w w' : World) : Prop := w' = w ∨ w' = { w with drawn := w.drawn + 1 }

theorem nan32 (t : Nat) : (FloatKind.f32.decode ((t % 2) * 2 ^ 31 + 0x7f800000 + 1 + (t / 2) % (2 ^ 23 - 1))).isNaN = true ∧ (t % 2) * 2 ^ 31 + 0x7f800000 + 1 + (t / 2) % (2 ^ 23 - 1) < 2 ^ 32 := by
  have h1 : t % 2 < 2 := Nat.mod_lt _ (by decide)
  have h2 : (t / 2) % (2 ^ 23 - 1) < 2 ^ 23 - 1 := Nat.mod_lt _ (by decide)
  generalize t % 2 = p at *
  generalize (t / 2) % (2 ^ 23 - 1) = q at *
  refine ⟨?_, by omega⟩
  have hm : (p * 2 ^ 31 + 0x7f800000 + 1 + q) % FloatKind.f32.format.signWeight = 0x7f800000 + 1 + q := by
    show _ % 2 ^ 31 = _
    omega
  unfold FloatKind.decode Ieee.Format.read
  simp only [hm]
  have hb : FloatKind.f32.format.binade = 2 ^ 23 := rfl
  have hi : FloatKind.f32.format.infRung = 0x7f800000 := rfl
  rw [hb, hi, if_neg (by omega), if_neg (by omega), if_neg (by omega)]
  rfl
theorem nan64 (t : Nat) : (FloatKind.f64.decode ((t % 2) * 2 ^ 63 + 0x7ff0000000000000 + 1 + (t / 2) % (2 ^ 52 - 1))).isNaN = true ∧ (t % 2) * 2 ^ 63 + 0x7ff0000000000000 + 1 + (t / 2) % (2 ^ 52 - 1) < 2 ^ 64 := by
  have h1 : t % 2 < 2 := Nat.mod_lt _ (by decide)
  have h2 : (t / 2) % (2 ^ 52 - 1) < 2 ^ 52 - 1 := Nat.mod_lt _ (by decide)
  generalize t % 2 = p at *
  generalize (t / 2) % (2 ^ 52 - 1) = q at *
  refine ⟨?_, by omega⟩
  have hm : (p * 2 ^ 63 + 0x7ff0000000000000 + 1 + q) % FloatKind.f64.format.signWeight = 0x7ff0000000000000 + 1 + q := by
    show _ % 2 ^ 63 = _
    omega
  unfold FloatKind.decode Ieee.Format.read
  simp only [hm]
  have hb : FloatKind.f64.format.binade = 2 ^ 52 := rfl
  have hi : FloatKind.f64.format.infRung = 0x7ff0000000000000 := rfl
  rw [hb, hi, if_neg (by omega), if_neg (by omega), if_neg (by omega)]
  rfl

theorem nanBits_cut (k : FloatKind) (x y t : Nat) : fv k ((Question.nanBits k x y).cut t) = none ∧ (Question.nanBits k x y).cut t < 2 ^ k.format.width := by
  cases k
  · exact ⟨fv_nan (nan32 t).1, (nan32 t).2⟩
  · exact ⟨fv_nan (nan64 t).1, (nan64 t).2⟩
theorem nanConv_cut (k : FloatKind) (x t : Nat) : fv k ((Question.nanConv k x).cut t) = none ∧ (Question.nanConv k x).cut t < 2 ^ k.format.width := by
  cases k
  · exact ⟨fv_nan (nan32 t).1, (nan32 t).2⟩
  · exact ⟨fv_nan (nan64 t).1, (nan64 t).2⟩

theorem floatBits_lt {op : BinOp} {k : FloatKind} {a b r : Nat} (h : floatBits op k a b = some r) : r < 2 ^ k.format.width := by
  unfold floatBits at h
  split at h
  · exact k.format.add_lt h
  · exact k.format.sub_lt h
  · exact k.format.mul_lt h
  · exact k.format.div_lt h
  · cases h

def isArith : BinOp → Bool
  | .add | .sub | .mul | .quo => true
  | _ => false

theorem run_farith (P : Program) (w : World) (op : BinOp) (hop : isArith op = true) (k : FloatKind) (a b : Nat) :
    ∃ r w', (Op.floatArith op k a b).run P w = .ok (.float k r) w' ∧ Quiet w w' ∧ fv k r = fbin op k (fv k a) (fv k b) ∧ r < 2 ^ k.format.width := by
  rw [fbin_fv]
  cases h : floatBits op k a b with
  | some r => exact ⟨r, w, run_floatArith w h, .inl rfl, fv_some (floatBits_not_nan h), floatBits_lt h⟩
  | none =>
    have hc := nanBits_cut k a b (w.tape w.drawn (.nanBits k a b))
    refine ⟨(Question.nanBits k a b).cut (w.tape w.drawn (.nanBits k a b)), { w with drawn := w.drawn + 1 }, ?_, .inr rfl, hc.1, hc.2⟩
    unfold floatBits at h
    cases op <;> first | (cases hop; done) | skip
    all_goals (simp only at h; simp [Op.floatArith, h, choose, Sem.run, Question.forced])

theorem run_fbinop (P : Program) (w : World) (op : BinOp) (hop : isArith op = true) (t : TypeId) (k : FloatKind) (a b : Nat) :
    ∃ r w', (binOp op t (.float k a) (.float k b)).run P w = .ok (.float k r) w' ∧ Quiet w w' ∧ fv k r = fbin op k (fv k a) (fv k b) ∧ r < 2 ^ k.format.width := by
  obtain ⟨r, w', h, q, e, l⟩ := run_farith P w op hop k a b
  refine ⟨r, w', ?_, q, e, l⟩
  rw [← h]
  cases op <;> first | (cases hop; done) | simp [binOp]

/-- What a comparison of two floats gives. -/
def cmpB (op : BinOp) (c : Option Ordering) : Bool := match op with
  | .eql => c == some .eq
  | .neq => c != some .eq
  | .lss => c == some .lt
  | .leq => c == some .lt || c == some .eq
  | .gtr => c == some .gt
  | .geq => c == some .gt || c == some .eq
  | _ => false
def isCmp : BinOp → Bool
  | .eql | .neq | .lss | .leq | .gtr | .geq => true
  | _ => false
theorem run_fcmp (P : Program) (w : World) (op : BinOp) (hop : isCmp op = true) (t : TypeId) (k : FloatKind) (a b : Nat) :
    (binOp op t (.float k a) (.float k b)).run P w = .ok (.bool (cmpB op (fcmp k (fv k a) (fv k b)))) w := by
  rw [fcmp_fv]
  cases op <;> first | (cases hop; done) | simp [binOp, Op.floatCmp, cmpB]

theorem run_choose_any {P : Program} {w : World} {q : Question} (hq : q.forced = false) : ∃ n w', (choose q).run P w = .ok n w' ∧ Quiet w w' ∧ n = q.cut (w.tape w.drawn q) :=
  ⟨_, _, by simp [choose, Sem.run, hq], .inr rfl, rfl⟩

theorem floatToFloatBits_not_nan {s d : FloatKind} {b r : Nat} (hb : (s.decode b).isNaN = false) (h : floatToFloatBits s b d = some r) : (d.decode r).isNaN = false := by
  unfold floatToFloatBits at h
  split at h
  · rename_i e; cases h; subst e; exact hb
  · split at h
    · cases h
    · cases h; exact write_not_nan _ _ rfl
    · split at h
      · cases h
      · cases h; exact write_not_nan _ _ rfl
theorem floatToFloatBits_lt {s d : FloatKind} {b r : Nat} (hb : b < 2 ^ s.format.width) (h : floatToFloatBits s b d = some r) : r < 2 ^ d.format.width := by
  unfold floatToFloatBits at h
  split at h
  · rename_i e; cases h; subst e; exact hb
  · split at h
    · cases h
    · cases h; exact d.format.write_lt _
    · split at h
      · cases h
      · cases h; exact d.format.write_lt _

/-- A conversion whose answer the language fixes: a not-a-number, or a number that does not overflow. -/
def ConvOk (s d : FloatKind) (x : FV) : Prop := x = none ∨ fconv s d x ≠ none
theorem run_fconv (P : Program) (w : World) (s d : FloatKind) (b : Nat) (hb : b < 2 ^ s.format.width) (hok : ConvOk s d (fv s b)) :
    ∃ r w', (Conv.floatToFloat s b d).run P w = .ok (.float d r) w' ∧ Quiet w w' ∧ fv d r = fconv s d (fv s b) ∧ r < 2 ^ d.format.width := by
  cases hn : (s.decode b).isNaN with
  | true =>
    obtain ⟨sg, t, e⟩ := isNaN_cases hn
    by_cases hsd : s = d
    · subst hsd
      exact ⟨b, w, by simp [Conv.floatToFloat], .inl rfl, by rw [fv_nan hn]; rfl, hb⟩
    · have hc := nanConv_cut d b (w.tape w.drawn (.nanConv d b))
      refine ⟨_, { w with drawn := w.drawn + 1 }, ?_, .inr rfl, ?_, hc.2⟩
      · simp [Conv.floatToFloat, hsd, e, choose, Sem.run, Question.forced]
      · rw [hc.1, fv_nan hn]; rfl
  | false =>
    rw [fv_some hn] at hok ⊢
    rcases hok with hok | hok
    · cases hok
    · simp only [fconv, Option.bind_some] at hok ⊢
      cases hr : floatToFloatBits s b d with
      | none => exact absurd hr hok
      | some r => exact ⟨r, w, run_floatToFloat w hr, .inl rfl, fv_some (floatToFloatBits_not_nan hn hr), floatToFloatBits_lt hb hr⟩
end Go.Ab
