/- Part 1 of the texts on which the law leans, joined: Statements, loops and calls in the calculus. No conditions. -/
import Derived.Laws.FloatArith
import Derived.Laws.ComplexArith
import Derived.Below
import Derived.WalkKit
import Derived.Orders
import Derived.ChangeKeysEq
import Derived.IntWalk
namespace Go.Ab
theorem mh {α : Type} {a : α} {l : List α} : a ∈ a :: l := List.Mem.head _
theorem mt {α : Type} {a b : α} {l : List α} (h : a ∈ l) : a ∈ b :: l := List.Mem.tail _ h

/-- A float's bits, or 'none' for a not-a-number of whatever bits. -/
abbrev FV := Option Nat
def fv (k : FloatKind) (b : Nat) : FV := if (k.decode b).isNaN then none else some b
def fbin (op : BinOp) (k : FloatKind) (x y : FV) : FV := x.bind fun a => y.bind fun b => floatBits op k a b
def fcmp (k : FloatKind) (x y : FV) : Option Ordering := x.bind fun a => y.bind fun b => k.format.order a b
def fconv (s d : FloatKind) (x : FV) : FV := x.bind fun b => floatToFloatBits s b d
theorem word_mod (f : Ieee.Format) (neg : Bool) {rung : Nat} (h : rung < f.signWeight) : f.word neg rung % f.signWeight = rung := by
  unfold Ieee.Format.word
  split
  · rw [Nat.add_mod_left, Nat.mod_eq_of_lt h]
  · exact Nat.mod_eq_of_lt h

theorem read_word_not_nan (f : Ieee.Format) (neg : Bool) {rung : Nat} (h : rung ≤ f.infRung) : (f.read (f.word neg rung)).isNaN = false := by
  have hlt := f.infRung_lt
  unfold Ieee.Format.read
  simp only [word_mod f neg (Nat.lt_of_le_of_lt h hlt)]
  split
  · rfl
  · split
    · rfl
    · split
      · rfl
      · omega

theorem nearest_not_nan (f : Ieee.Format) (neg : Bool) (m : Nat) (e : Int) : (f.read (f.nearest neg m e)).isNaN = false := by
  unfold Ieee.Format.nearest
  dsimp only
  split
  · exact read_word_not_nan f neg (Nat.zero_le _)
  · exact read_word_not_nan f neg (Nat.min_le_right _ _)

theorem write_not_nan (f : Ieee.Format) (d : Ieee.Datum) (h : d.isNaN = false) : (f.read (f.write d)).isNaN = false := by
  cases d with
  | number s m e => exact nearest_not_nan f s m e
  | infinity s => exact read_word_not_nan f s (Nat.le_refl _)
  | nan s t => cases h

theorem sum_not_nan {x y d : Ieee.Datum} (h : x.sum y = some d) : d.isNaN = false := by
  cases x <;> cases y <;> simp only [Ieee.Datum.sum] at h <;> (try split at h) <;> (try cases h) <;> rfl
theorem product_not_nan {x y d : Ieee.Datum} (h : x.product y = some d) : d.isNaN = false := by
  cases x <;> cases y <;> simp only [Ieee.Datum.product] at h <;> (try split at h) <;> (try cases h) <;> rfl
theorem quotient_not_nan {n : Nat} {x y d : Ieee.Datum} (h : x.quotient n y = some d) : d.isNaN = false := by
  cases x <;> cases y <;> simp only [Ieee.Datum.quotient] at h <;> (try split at h) <;> (try split at h) <;> (try cases h) <;> rfl

theorem floatBits_not_nan {op : BinOp} {k : FloatKind} {a b r : Nat} (h : floatBits op k a b = some r) : (k.decode r).isNaN = false := by
  unfold floatBits at h
  split at h
  · unfold Ieee.Format.add at h
    cases hd : ((k.format.read a).sum (k.format.read b)) with
    | none => simp [hd] at h
    | some d => simp [hd] at h; subst h; exact write_not_nan _ d (sum_not_nan hd)
  · unfold Ieee.Format.sub at h
    cases hd : ((k.format.read a).sum (k.format.read b).opposite) with
    | none => simp [hd] at h
    | some d => simp [hd] at h; subst h; exact write_not_nan _ d (sum_not_nan hd)
  · unfold Ieee.Format.mul at h
    cases hd : ((k.format.read a).product (k.format.read b)) with
    | none => simp [hd] at h
    | some d => simp [hd] at h; subst h; exact write_not_nan _ d (product_not_nan hd)
  · unfold Ieee.Format.div at h
    cases hd : ((k.format.read a).quotient (k.format.fractionBits + 2) (k.format.read b)) with
    | none => simp [hd] at h
    | some d => simp [hd] at h; subst h; exact write_not_nan _ d (quotient_not_nan hd)
  · cases h

theorem isNaN_cases {d : Ieee.Datum} (h : d.isNaN = true) : ∃ s t, d = .nan s t := by
  cases d with
  | nan s t => exact ⟨s, t, rfl⟩
  | number s m e => cases h
  | infinity s => cases h

theorem floatBits_nan_left {op : BinOp} {k : FloatKind} {a b : Nat} (h : (k.decode a).isNaN = true) : floatBits op k a b = none := by
  obtain ⟨s, t, e⟩ := isNaN_cases h
  have e' : k.format.read a = .nan s t := e
  unfold floatBits
  split <;> simp [Ieee.Format.add, Ieee.Format.sub, Ieee.Format.mul, Ieee.Format.div, e', Ieee.Datum.sum, Ieee.Datum.product, Ieee.Datum.quotient]
theorem floatBits_nan_right {op : BinOp} {k : FloatKind} {a b : Nat} (h : (k.decode b).isNaN = true) : floatBits op k a b = none := by
  obtain ⟨s, t, e⟩ := isNaN_cases h
  have e' : k.format.read b = .nan s t := e
  unfold floatBits
  split <;> cases hx : k.format.read a <;> simp [Ieee.Format.add, Ieee.Format.sub, Ieee.Format.mul, Ieee.Format.div, e', hx, Ieee.Datum.sum, Ieee.Datum.product, Ieee.Datum.quotient, Ieee.Datum.opposite]

theorem fv_nan {k : FloatKind} {b : Nat} (h : (k.decode b).isNaN = true) : fv k b = none := by simp [fv, h]
theorem fv_some {k : FloatKind} {b : Nat} (h : (k.decode b).isNaN = false) : fv k b = some b := by simp [fv, h]

theorem fbin_fv (op : BinOp) (k : FloatKind) (a b : Nat) : fbin op k (fv k a) (fv k b) = floatBits op k a b := by
  cases ha : (k.decode a).isNaN with
  | true => rw [fv_nan ha, floatBits_nan_left ha]; rfl
  | false =>
    cases hb : (k.decode b).isNaN with
    | true => rw [fv_some ha, fv_nan hb, floatBits_nan_right hb]; rfl
    | false => rw [fv_some ha, fv_some hb]; rfl

theorem fcmp_fv (k : FloatKind) (a b : Nat) : fcmp k (fv k a) (fv k b) = k.format.order a b := by
  cases ha : (k.decode a).isNaN with
  | true =>
    obtain ⟨s, t, e⟩ := isNaN_cases ha
    have e' : k.format.read a = .nan s t := e
    rw [fv_nan ha]; simp [fcmp, Ieee.Format.order, e', Ieee.Datum.order]
  | false =>
    cases hb : (k.decode b).isNaN with
    | true =>
      obtain ⟨s, t, e⟩ := isNaN_cases hb
      have e' : k.format.read b = .nan s t := e
      rw [fv_some ha, fv_nan hb]
      cases hx : k.format.read a <;> simp [fcmp, Ieee.Format.order, e', hx, Ieee.Datum.order]
    | false => rw [fv_some ha, fv_some hb]; rfl

/-- A draw, or none: nothing else has turned. -/
def Quiet (w w' : World) : Prop := w' = w ∨ w' = { w with drawn := w.drawn + 1 }

theorem nan32 (t : Nat) : (FloatKind.f32.decode ((t % 2) * 2 ^ 31 + 0x7f800000 + 1 + (t / 2) % (2 ^ 23 - 1))).isNaN = true ∧ (t % 2) * 2 ^ 31 + 0x7f800000 + 1 + (t / 2) % (2 ^ 23 - 1) < 2 ^ 32 := by
  have h1 : t % 2 < 2 := Nat.mod_lt _ (by decide)
  have h2 : (t / 2) % (2 ^ 23 - 1) < 2 ^ 23 - 1 := Nat.mod_lt _ (by decide)
  generalize t % 2 = p at *
  generalize (t / 2) % (2 ^ 23 - 1) = q at *
  refine ⟨?_, by omega⟩
  have hm : (p * 2 ^ 31 + 0x7f800000 + 1 + q) % FloatKind.f32.format.signWeight = 0x7f800000 + 1 + q := by
    show _ % 2 ^ 31 = _
    omega
  unfold FloatKind.decode Ieee.Format.read
  simp only [hm]
  have hb : FloatKind.f32.format.binade = 2 ^ 23 := rfl
  have hi : FloatKind.f32.format.infRung = 0x7f800000 := rfl
  rw [hb, hi, if_neg (by omega), if_neg (by omega), if_neg (by omega)]
  rfl
theorem nan64 (t : Nat) : (FloatKind.f64.decode ((t % 2) * 2 ^ 63 + 0x7ff0000000000000 + 1 + (t / 2) % (2 ^ 52 - 1))).isNaN = true ∧ (t % 2) * 2 ^ 63 + 0x7ff0000000000000 + 1 + (t / 2) % (2 ^ 52 - 1) < 2 ^ 64 := by
  have h1 : t % 2 < 2 := Nat.mod_lt _ (by decide)
  have h2 : (t / 2) % (2 ^ 52 - 1) < 2 ^ 52 - 1 := Nat.mod_lt _ (by decide)
  generalize t % 2 = p at *
  generalize (t / 2) % (2 ^ 52 - 1) = q at *
  refine ⟨?_, by omega⟩
  have hm : (p * 2 ^ 63 + 0x7ff0000000000000 + 1 + q) % FloatKind.f64.format.signWeight = 0x7ff0000000000000 + 1 + q := by
    show _ % 2 ^ 63 = _
    omega
  unfold FloatKind.decode Ieee.Format.read
  simp only [hm]
  have hb : FloatKind.f64.format.binade = 2 ^ 52 := rfl
  have hi : FloatKind.f64.format.infRung = 0x7ff0000000000000 := rfl
  rw [hb, hi, if_neg (by omega), if_neg (by omega), if_neg (by omega)]
  rfl

theorem nanBits_cut (k : FloatKind) (x y t : Nat) : fv k ((Question.nanBits k x y).cut t) = none ∧ (Question.nanBits k x y).cut t < 2 ^ k.format.width := by
  cases k
  · exact ⟨fv_nan (nan32 t).1, (nan32 t).2⟩
  · exact ⟨fv_nan (nan64 t).1, (nan64 t).2⟩
theorem nanConv_cut (k : FloatKind) (x t : Nat) : fv k ((Question.nanConv k x).cut t) = none ∧ (Question.nanConv k x).cut t < 2 ^ k.format.width := by
  cases k
  · exact ⟨fv_nan (nan32 t).1, (nan32 t).2⟩
  · exact ⟨fv_nan (nan64 t).1, (nan64 t).2⟩

theorem floatBits_lt {op : BinOp} {k : FloatKind} {a b r : Nat} (h : floatBits op k a b = some r) : r < 2 ^ k.format.width := by
  unfold floatBits at h
  split at h
  · exact k.format.add_lt h
  · exact k.format.sub_lt h
  · exact k.format.mul_lt h
  · exact k.format.div_lt h
  · cases h

def isArith : BinOp → Bool
  | .add | .sub | .mul | .quo => true
  | _ => false

theorem run_farith (P : Program) (w : World) (op : BinOp) (hop : isArith op = true) (k : FloatKind) (a b : Nat) :
    ∃ r w', (Op.floatArith op k a b).run P w = .ok (.float k r) w' ∧ Quiet w w' ∧ fv k r = fbin op k (fv k a) (fv k b) ∧ r < 2 ^ k.format.width := by
  rw [fbin_fv]
  cases h : floatBits op k a b with
  | some r => exact ⟨r, w, run_floatArith w h, .inl rfl, fv_some (floatBits_not_nan h), floatBits_lt h⟩
  | none =>
    have hc := nanBits_cut k a b (w.tape w.drawn (.nanBits k a b))
    refine ⟨(Question.nanBits k a b).cut (w.tape w.drawn (.nanBits k a b)), { w with drawn := w.drawn + 1 }, ?_, .inr rfl, hc.1, hc.2⟩
    unfold floatBits at h
    cases op <;> first | (cases hop; done) | skip
    all_goals (simp only at h; simp [Op.floatArith, h, choose, Sem.run, Question.forced])

theorem run_fbinop (P : Program) (w : World) (op : BinOp) (hop : isArith op = true) (t : TypeId) (k : FloatKind) (a b : Nat) :
    ∃ r w', (binOp op t (.float k a) (.float k b)).run P w = .ok (.float k r) w' ∧ Quiet w w' ∧ fv k r = fbin op k (fv k a) (fv k b) ∧ r < 2 ^ k.format.width := by
  obtain ⟨r, w', h, q, e, l⟩ := run_farith P w op hop k a b
  refine ⟨r, w', ?_, q, e, l⟩
  rw [← h]
  cases op <;> first | (cases hop; done) | simp [binOp]

/-- What a comparison of two floats gives. -/
def cmpB (op : BinOp) (c : Option Ordering) : Bool := match op with
  | .eql => c == some .eq
  | .neq => c != some .eq
  | .lss => c == some .lt
  | .leq => c == some .lt || c == some .eq
  | .gtr => c == some .gt
  | .geq => c == some .gt || c == some .eq
  | _ => false
def isCmp : BinOp → Bool
  | .eql | .neq | .lss | .leq | .gtr | .geq => true
  | _ => false
theorem run_fcmp (P : Program) (w : World) (op : BinOp) (hop : isCmp op = true) (t : TypeId) (k : FloatKind) (a b : Nat) :
    (binOp op t (.float k a) (.float k b)).run P w = .ok (.bool (cmpB op (fcmp k (fv k a) (fv k b)))) w := by
  rw [fcmp_fv]
  cases op <;> first | (cases hop; done) | simp [binOp, Op.floatCmp, cmpB]

theorem floatToFloatBits_not_nan {s d : FloatKind} {b r : Nat} (hb : (s.decode b).isNaN = false) (h : floatToFloatBits s b d = some r) : (d.decode r).isNaN = false := by
  unfold floatToFloatBits at h
  split at h
  · rename_i e; cases h; subst e; exact hb
  · split at h
    · cases h
    · cases h; exact write_not_nan _ _ rfl
    · split at h
      · cases h
      · cases h; exact write_not_nan _ _ rfl
theorem floatToFloatBits_lt {s d : FloatKind} {b r : Nat} (hb : b < 2 ^ s.format.width) (h : floatToFloatBits s b d = some r) : r < 2 ^ d.format.width := by
  unfold floatToFloatBits at h
  split at h
  · rename_i e; cases h; subst e; exact hb
  · split at h
    · cases h
    · cases h; exact d.format.write_lt _
    · split at h
      · cases h
      · cases h; exact d.format.write_lt _

/-- A conversion whose answer the language fixes: a not-a-number, or a number that does not overflow. -/
def ConvOk (s d : FloatKind) (x : FV) : Prop := x = none ∨ fconv s d x ≠ none
theorem run_fconv (P : Program) (w : World) (s d : FloatKind) (b : Nat) (hb : b < 2 ^ s.format.width) (hok : ConvOk s d (fv s b)) :
    ∃ r w', (Conv.floatToFloat s b d).run P w = .ok (.float d r) w' ∧ Quiet w w' ∧ fv d r = fconv s d (fv s b) ∧ r < 2 ^ d.format.width := by
  cases hn : (s.decode b).isNaN with
  | true =>
    obtain ⟨sg, t, e⟩ := isNaN_cases hn
    by_cases hsd : s = d
    · subst hsd
      exact ⟨b, w, by simp [Conv.floatToFloat], .inl rfl, by rw [fv_nan hn]; rfl, hb⟩
    · have hc := nanConv_cut d b (w.tape w.drawn (.nanConv d b))
      refine ⟨_, { w with drawn := w.drawn + 1 }, ?_, .inr rfl, ?_, hc.2⟩
      · simp [Conv.floatToFloat, hsd, e, choose, Sem.run, Question.forced]
      · rw [hc.1, fv_nan hn]; rfl
  | false =>
    rw [fv_some hn] at hok ⊢
    rcases hok with hok | hok
    · cases hok
    · simp only [fconv, Option.bind_some] at hok ⊢
      cases hr : floatToFloatBits s b d with
      | none => exact absurd hr hok
      | some r => exact ⟨r, w, run_floatToFloat w hr, .inl rfl, fv_some (floatToFloatBits_not_nan hn hr), floatToFloatBits_lt hb hr⟩
end Go.Ab
namespace Go.Ab
theorem cut_zero (way : Ieee.Toward) (neg : Bool) (n : Nat) : way.cut neg n 0 = n := by
  unfold Ieee.Toward.cut
  cases way <;> simp [Nat.mod_one]

theorem log2_le_of_lt {m k : Nat} (hm : m ≠ 0) (h : m < 2 ^ (k + 1)) : m.log2 ≤ k := by
  have := (Nat.log2_lt hm).2 h
  omega

theorem lin_sum (q k B : Nat) (h1 : q ≤ 1149 * B) (h2 : k < 2 * B) : q + k < 1151 * B := by omega
/-- A 32-bit number has a 64-bit one. -/
theorem wide_not_inf (s : Bool) (m : Nat) (e : Int) (hm : m < 2 ^ 24) (he1 : -149 ≤ e) (he2 : e ≤ 104) :
    (Ieee.double.read (Ieee.double.nearest s m e)).isInfinity = false := by
  unfold Ieee.Format.nearest
  dsimp only
  split
  · cases s <;> decide +kernel
  · rename_i h0
    have hl : m.log2 ≤ 23 := log2_le_of_lt h0 hm
    have hlp : Ieee.double.leastPlace = -1074 := by decide
    have hfb : Ieee.double.fractionBits = 52 := rfl
    rw [hlp, hfb]
    have hmax : max (e + (m.log2 : Int) - ((52 : Nat) : Int)) (-1074) = e + m.log2 - 52 := by omega
    rw [hmax]
    have h1 : (e - (e + (m.log2 : Int) - 52)).toNat = 52 - m.log2 := by omega
    have h2 : ((e + (m.log2 : Int) - 52) - e).toNat = 0 := by omega
    rw [h1, h2, cut_zero]
    have hlt : m <<< (52 - m.log2) < 2 ^ 53 := by
      rw [Nat.shiftLeft_eq]
      have hml : m < 2 ^ (m.log2 + 1) := Nat.lt_log2_self
      have h3 : m * 2 ^ (52 - m.log2) < 2 ^ (m.log2 + 1) * 2 ^ (52 - m.log2) := Nat.mul_lt_mul_of_pos_right hml (Nat.two_pow_pos _)
      rw [← Nat.pow_add] at h3
      have h4 : m.log2 + 1 + (52 - m.log2) = 53 := by omega
      rw [h4] at h3
      exact h3
    generalize m <<< (52 - m.log2) = kept at *
    have hr : (e + (m.log2 : Int) - 52 - -1074).toNat ≤ 1149 := by omega
    generalize (e + (m.log2 : Int) - 52 - -1074).toNat = r at *
    have hb : Ieee.double.binade = 2 ^ 52 := rfl
    have hi : Ieee.double.infRung = 2047 * 2 ^ 52 := by decide
    rw [hb, hi]
    have hq : r * 2 ^ 52 ≤ 1149 * 2 ^ 52 := Nat.mul_le_mul_right _ hr
    have hk2 : kept < 2 * 2 ^ 52 := hlt
    have hsum : r * 2 ^ 52 + kept < 1151 * 2 ^ 52 := lin_sum _ _ _ hq hk2
    have hrung : r * 2 ^ 52 + kept < 2047 * 2 ^ 52 := Nat.lt_of_lt_of_le hsum (Nat.mul_le_mul_right _ (by decide))
    rw [Nat.min_eq_left (Nat.le_of_lt hrung)]
    clear hsum hq hk2 hlt hr
    generalize r * 2 ^ 52 + kept = rung at *
    have hs : rung < Ieee.double.signWeight := Nat.lt_trans hrung (by decide)
    unfold Ieee.Format.read
    simp only [word_mod _ _ hs, hb, hi]
    split
    · rfl
    · simp [hrung, Ieee.Datum.isInfinity]

theorem single_number {b : Nat} {s : Bool} {m : Nat} {e : Int} (h : FloatKind.f32.decode b = .number s m e) : m < 2 ^ 24 ∧ -149 ≤ e ∧ e ≤ 104 := by
  unfold FloatKind.decode Ieee.Format.read at h
  have hb : FloatKind.f32.format.binade = 2 ^ 23 := rfl
  have hi : FloatKind.f32.format.infRung = 255 * 2 ^ 23 := by decide
  have hl : FloatKind.f32.format.leastPlace = -149 := by decide
  simp only [hb, hi, hl] at h
  have hmod : (b % FloatKind.f32.format.signWeight) % 2 ^ 23 < 2 ^ 23 := Nat.mod_lt _ (by decide)
  generalize b % FloatKind.f32.format.signWeight = rung at *
  split at h
  · cases h; omega
  · split at h
    · cases h
      refine ⟨by omega, by omega, ?_⟩
      have : rung / 2 ^ 23 < 255 := Nat.div_lt_of_lt_mul (by omega)
      omega
    · split at h <;> cases h

theorem wide_some (b : Nat) (hn : (FloatKind.f32.decode b).isNaN = false) : floatToFloatBits .f32 b .f64 ≠ none := by
  unfold floatToFloatBits
  rw [if_neg (by decide)]
  cases hd : FloatKind.f32.decode b with
  | nan s t => rw [hd] at hn; cases hn
  | infinity s => simp
  | number s m e =>
    obtain ⟨h1, h2, h3⟩ := single_number hd
    have := wide_not_inf s m e h1 h2 h3
    have h' : (FloatKind.f64.decode (FloatKind.f64.encode (.number s m e))).isInfinity = false := this
    simp [h']

/-- Widening is always told; of a value that is one of the kind. -/
def Is32 (x : FV) : Prop := ∀ b, x = some b → (FloatKind.f32.decode b).isNaN = false
theorem is32_fv (b : Nat) : Is32 (fv .f32 b) := by
  intro c h
  unfold fv at h
  split at h
  · cases h
  · rename_i hn; cases h; simpa using hn
theorem conv_wide {x : FV} (h : Is32 x) : ConvOk .f32 .f64 x := by
  cases x with
  | none => exact .inl rfl
  | some b => exact .inr (wide_some b (h b rfl))

end Go.Ab
namespace Go.Ab
theorem cut_le (neg : Bool) (n d b : Nat) (h : n < 2 ^ (b + 1 + d)) : Ieee.Toward.even.cut neg n d ≤ 2 ^ (b + 1) := by
  unfold Ieee.Toward.cut
  dsimp only
  have hx : ∀ x : Bool, x.toNat ≤ 1 := fun x => by cases x <;> simp
  have hp : 0 < 2 ^ (b + 1) := Nat.two_pow_pos _
  refine Nat.le_trans (Nat.add_le_add_left (hx _) _) ?_
  rw [Nat.one_shiftLeft]
  rcases Nat.le_total d (n.log2 + 2) with hm | hm
  · rw [Nat.min_eq_left hm]
    have : n / 2 ^ d < 2 ^ (b + 1) := by
      rw [Nat.div_lt_iff_lt_mul (Nat.two_pow_pos _), ← Nat.pow_add]
      exact h
    omega
  · rw [Nat.min_eq_right hm]
    have : n / 2 ^ (n.log2 + 2) = 0 := Nat.div_eq_of_lt (Nat.lt_of_lt_of_le Nat.lt_log2_self (Nat.pow_le_pow_right (by decide) (by omega)))
    omega

def fsqrt (x : FV) : FV := x.bind fun b => FloatKind.f64.format.sqrt b
end Go.Ab
namespace Go.Ab
def p2 (e : Int) : Rat := (2 : Rat) ^ e
theorem p2_pos (e : Int) : 0 < p2 e := Rat.zpow_pos (by decide)
theorem p2_add (a b : Int) : p2 (a + b) = p2 a * p2 b := Rat.zpow_add (by decide) a b
theorem p2_zero : p2 0 = 1 := rfl
theorem p2_nat (n : Nat) : p2 n = ((2 ^ n : Nat) : Rat) := by
  show (2 : Rat) ^ (n : Int) = _
  rw [Rat.zpow_natCast, Rat.natCast_pow]
  rfl
theorem p2_one : p2 1 = 2 := by
  have := p2_nat 1
  simpa using this
theorem p2_split {a b : Int} (h : a ≤ b) : p2 b = ((2 ^ (b - a).toNat : Nat) : Rat) * p2 a := by
  rw [← p2_nat, ← p2_add]
  congr 1
  omega
theorem one_le_two_pow (n : Nat) : (1 : Rat) ≤ ((2 ^ n : Nat) : Rat) := by
  have h : 1 ≤ 2 ^ n := Nat.one_le_two_pow
  exact_mod_cast (Rat.natCast_le_natCast.2 h)
theorem p2_le {a b : Int} (h : a ≤ b) : p2 a ≤ p2 b := by
  rw [p2_split h]
  have h1 := one_le_two_pow (b - a).toNat
  have h2 := Rat.mul_le_mul_of_nonneg_right h1 (Rat.le_of_lt (p2_pos a))
  rwa [Rat.one_mul] at h2
theorem p2_mul_neg (a : Int) : p2 a * p2 (-a) = 1 := by
  rw [← p2_add, Int.add_right_neg, p2_zero]
theorem mul_shl (m n : Nat) (e : Int) : ((m <<< n : Nat) : Rat) * p2 e = (m : Rat) * p2 (e + n) := by
  rw [Nat.shiftLeft_eq, Rat.natCast_mul, ← p2_nat, Rat.mul_assoc, ← p2_add]
  congr 2
  omega

def sgn (s : Bool) : Rat := if s then -1 else 1
def vl (s : Bool) (m : Nat) (e : Int) : Rat := sgn s * ((m : Rat) * p2 e)
theorem vl_neg (s : Bool) (m : Nat) (e : Int) : vl (!s) m e = - vl s m e := by
  unfold vl sgn
  cases s <;> simp <;> grind
theorem vl_signed (s : Bool) (m k : Nat) (e : Int) : ((Ieee.signed s m k : Int) : Rat) * p2 e = vl s m (e + k) := by
  unfold Ieee.signed vl sgn
  have h := mul_shl m k e
  cases s
  · simp only [Bool.false_eq_true, if_false]
    rw [Rat.one_mul, ← h]
    rfl
  · simp only [if_true]
    rw [Rat.intCast_neg, ← h]
    show -((m <<< k : Nat) : Rat) * p2 e = _
    grind
theorem vl_int (n : Int) (e : Int) : (n : Rat) * p2 e = vl (decide (n < 0)) n.natAbs e := by
  unfold vl sgn
  rcases (show n < 0 ∨ 0 ≤ n from by omega) with h | h
  · rw [decide_eq_true h, if_pos rfl]
    have : ((n.natAbs : Nat) : Rat) = -(n : Rat) := by
      rw [← Rat.intCast_natCast, ← Rat.intCast_neg]
      congr 1
      omega
    rw [this]
    grind
  · rw [decide_eq_false (by omega), if_neg (by decide)]
    have : ((n.natAbs : Nat) : Rat) = (n : Rat) := by
      rw [← Rat.intCast_natCast]
      congr 1
      omega
    rw [this, Rat.one_mul]
/-- The same value, whatever the sign of a nought. -/
theorem vl_zero (s : Bool) (e : Int) : vl s 0 e = 0 := by
  unfold vl
  rw [show ((0 : Nat) : Rat) = 0 from rfl, Rat.zero_mul, Rat.mul_zero]

theorem cut_err (neg : Bool) (n d : Nat) : 2 * n ≤ 2 * (Ieee.Toward.even.cut neg n d * 2 ^ d) + 2 ^ d ∧ 2 * (Ieee.Toward.even.cut neg n d * 2 ^ d) ≤ 2 * n + 2 ^ d := by
  unfold Ieee.Toward.cut
  dsimp only
  rw [Nat.one_shiftLeft]
  rcases Nat.le_total d (n.log2 + 2) with hm | hm
  · rw [Nat.min_eq_left hm]
    have hG : 0 < 2 ^ d := Nat.two_pow_pos _
    generalize 2 ^ d = G at *
    have h1 := Nat.div_add_mod n G
    have h2 := Nat.mod_lt n hG
    generalize n / G = q at *
    generalize n % G = r at *
    rw [Nat.mul_comm] at h1
    have hx : ∀ b : Bool, (q + b.toNat) * G = q * G + b.toNat * G := fun b => Nat.add_mul _ _ _
    rw [hx]
    generalize q * G = qg at *
    cases hb : (decide (G < 2 * r) || (G == 2 * r && q % 2 == 1)) with
    | true =>
      simp only [Bool.toNat_true, Nat.one_mul]
      have : G ≤ 2 * r := by
        rw [Bool.or_eq_true, Bool.and_eq_true] at hb
        rcases hb with hb | hb
        · have := of_decide_eq_true hb; omega
        · have := beq_iff_eq.1 hb.1; omega
      omega
    | false =>
      simp only [Bool.toNat_false, Nat.zero_mul]
      have : 2 * r ≤ G := by
        rw [Bool.or_eq_false_iff] at hb
        have := of_decide_eq_false hb.1
        omega
      omega
  · rw [Nat.min_eq_right hm]
    have h1 : n < 2 ^ (n.log2 + 1) := Nat.lt_log2_self
    have h2 : 2 ^ (n.log2 + 2) = 2 * 2 ^ (n.log2 + 1) := by rw [Nat.pow_succ]; omega
    have h3 : 2 ^ (n.log2 + 2) ≤ 2 ^ d := Nat.pow_le_pow_right (by decide) hm
    have h4 : n / 2 ^ (n.log2 + 2) = 0 := Nat.div_eq_of_lt (by omega)
    have h5 : n % 2 ^ (n.log2 + 2) = n := Nat.mod_eq_of_lt (by omega)
    rw [h4, h5]
    have h6 : (decide (2 ^ (n.log2 + 2) < 2 * n) || (2 ^ (n.log2 + 2) == 2 * n && 0 % 2 == 1)) = false := by
      rw [decide_eq_false (by omega)]
      simp
    rw [h6]
    simp only [Bool.toNat_false, Nat.add_zero, Nat.zero_mul]
    omega

/-- The place of the last digit that is kept. -/
def lastP (f : Ieee.Format) (m : Nat) (e : Int) : Int := max (e + m.log2 - f.fractionBits) f.leastPlace
theorem read_rung (f : Ieee.Format) (s : Bool) (a kept : Nat) (hk : kept ≤ 2 ^ (f.fractionBits + 1)) (ha : 0 < a → 2 ^ f.fractionBits ≤ kept) (hlt : a * f.binade + kept < f.infRung) :
    ∃ m' e', f.read (f.word s (a * f.binade + kept)) = .number s m' e' ∧ (m' : Rat) * p2 e' = (kept : Rat) * p2 (f.leastPlace + a) := by
  have hb : f.binade = 2 ^ f.fractionBits := rfl
  have hB : 0 < f.binade := Nat.two_pow_pos _
  have hsw : a * f.binade + kept < f.signWeight := Nat.lt_trans hlt f.infRung_lt
  have hsg : (f.word s (a * f.binade + kept) / f.signWeight % 2 == 1) = s := by
    unfold Ieee.Format.word
    cases s
    · simp only [Bool.false_eq_true, if_false]
      rw [Nat.div_eq_of_lt hsw]
      rfl
    · simp only [if_true]
      have hpos : 0 < f.signWeight := Nat.two_pow_pos _
      rw [Nat.add_comm, Nat.add_div_right _ hpos, Nat.div_eq_of_lt hsw]
      rfl
  unfold Ieee.Format.read
  simp only [word_mod f s hsw, hsg]
  rw [← hb] at ha
  have hk2 : kept ≤ 2 * f.binade := by rw [hb]; rw [Nat.pow_succ] at hk; omega
  clear hk
  by_cases h1 : a * f.binade + kept < f.binade
  · rw [if_pos h1]
    have h0 : a = 0 := by
      rcases Nat.eq_zero_or_pos a with h | h
      · exact h
      · have := Nat.mul_le_mul_right f.binade h
        omega
    subst h0
    refine ⟨_, _, rfl, ?_⟩
    rw [Nat.zero_mul, Nat.zero_add]
    congr 2
    omega
  · rw [if_neg h1, if_pos hlt]
    refine ⟨_, _, rfl, ?_⟩
    rcases Nat.lt_or_ge kept (2 * f.binade) with h2 | h2
    · have h3 : f.binade ≤ kept := by
        rcases Nat.eq_zero_or_pos a with h | h
        · subst h; omega
        · exact ha h
      obtain ⟨r, rfl⟩ : ∃ r, kept = f.binade + r := ⟨kept - f.binade, by omega⟩
      have e1 : a * f.binade + (f.binade + r) = r + f.binade * (a + 1) := by rw [Nat.mul_add, Nat.mul_one, Nat.mul_comm]; omega
      have hr : r < f.binade := by omega
      rw [e1, Nat.add_mul_mod_self_left, Nat.mod_eq_of_lt hr, Nat.add_mul_div_left _ _ hB, Nat.div_eq_of_lt hr]
      congr 2
      omega
    · have h3 : kept = 2 * f.binade := by omega
      subst h3
      have e1 : a * f.binade + 2 * f.binade = f.binade * (a + 2) := by rw [Nat.mul_add, Nat.mul_comm f.binade 2, Nat.mul_comm]
      rw [e1, Nat.mul_mod_right, Nat.mul_div_right _ hB]
      have e2 : ((a + 2 - 1 : Nat) : Int) = (a : Int) + 1 := by omega
      rw [e2, Nat.add_zero, Rat.natCast_mul, ← Int.add_assoc, p2_add _ 1, p2_one]
      have : ((2 : Nat) : Rat) = 2 := rfl
      rw [this]
      grind

/-- Where the nearest word lies, by the grid of its last place. -/
theorem nearest_grid (f : Ieee.Format) (s : Bool) (m : Nat) (e : Int) (hm : m ≠ 0) (hhi : lastP f m e - f.leastPlace + 2 < 2 ^ f.exponentBits - 1) :
    ∃ m' e' kept, f.read (f.nearest s m e) = .number s m' e' ∧ (m' : Rat) * p2 e' = ((kept : Nat) : Rat) * p2 (lastP f m e) ∧
      2 * ((m : Rat) * p2 e) ≤ 2 * ((kept : Rat) * p2 (lastP f m e)) + p2 (lastP f m e) ∧ 2 * ((kept : Rat) * p2 (lastP f m e)) ≤ 2 * ((m : Rat) * p2 e) + p2 (lastP f m e) := by
  unfold Ieee.Format.nearest
  rw [if_neg hm]
  dsimp only
  have hl : max (e + (m.log2 : Int) - f.fractionBits) f.leastPlace = lastP f m e := rfl
  rw [hl]
  have hlast2 : e + m.log2 - f.fractionBits ≤ lastP f m e := Int.le_max_left _ _
  have hlast3 : f.leastPlace ≤ lastP f m e := Int.le_max_right _ _
  have hlast4 : lastP f m e = f.leastPlace ∨ lastP f m e = e + m.log2 - f.fractionBits := by unfold lastP; omega
  generalize lastP f m e = last at *
  have herr := cut_err s (m <<< (e - last).toNat) (last - e).toNat
  have hcut : Ieee.Toward.even.cut s (m <<< (e - last).toNat) (last - e).toNat ≤ 2 ^ (f.fractionBits + 1) := by
    refine cut_le _ _ _ _ ?_
    rw [Nat.shiftLeft_eq]
    have h1 : m < 2 ^ (m.log2 + 1) := Nat.lt_log2_self
    have h2 : m * 2 ^ (e - last).toNat < 2 ^ (m.log2 + 1) * 2 ^ (e - last).toNat := Nat.mul_lt_mul_of_pos_right h1 (Nat.two_pow_pos _)
    rw [← Nat.pow_add] at h2
    exact Nat.lt_of_lt_of_le h2 (Nat.pow_le_pow_right (by decide) (by omega))
  have hlow : f.leastPlace < last → 2 ^ f.fractionBits ≤ Ieee.Toward.even.cut s (m <<< (e - last).toNat) (last - e).toNat := by
    intro hlt
    have hle : last = e + m.log2 - f.fractionBits := by omega
    have h1 : 2 ^ m.log2 ≤ m := Nat.log2_self_le hm
    have h2 : 2 ^ (f.fractionBits + (last - e).toNat) ≤ m <<< (e - last).toNat := by
      rw [Nat.shiftLeft_eq]
      have h3 : 2 ^ m.log2 * 2 ^ (e - last).toNat ≤ m * 2 ^ (e - last).toNat := Nat.mul_le_mul_right _ h1
      rw [← Nat.pow_add] at h3
      refine Nat.le_trans (Nat.pow_le_pow_right (by decide) ?_) h3
      omega
    rw [Nat.pow_add] at h2
    generalize m <<< (e - last).toNat = n at *
    generalize Ieee.Toward.even.cut s n (last - e).toNat = kept at *
    have hG : 0 < 2 ^ (last - e).toNat := Nat.two_pow_pos _
    generalize 2 ^ (last - e).toNat = G at *
    generalize 2 ^ f.fractionBits = B at *
    rcases Nat.lt_or_ge kept B with h | h
    · exfalso
      have h4 : (kept + 1) * G ≤ B * G := Nat.mul_le_mul_right _ h
      rw [Nat.add_mul, Nat.one_mul] at h4
      omega
    · exact h
  generalize hkept : Ieee.Toward.even.cut s (m <<< (e - last).toNat) (last - e).toNat = kept at *
  have hb : f.binade = 2 ^ f.fractionBits := rfl
  have hi : (f.infRung : Int) = (2 ^ f.exponentBits - 1) * 2 ^ f.fractionBits := by
    unfold Ieee.Format.infRung
    rw [hb]
    have : 1 ≤ 2 ^ f.exponentBits := Nat.one_le_two_pow
    push_cast [Int.natCast_sub this]
    rfl
  have hB : 0 < 2 ^ f.fractionBits := Nat.two_pow_pos _
  have hrung : (last - f.leastPlace).toNat * f.binade + kept < f.infRung := by
    have h1 : (((last - f.leastPlace).toNat * f.binade + kept : Nat) : Int) ≤ (last - f.leastPlace + 2) * 2 ^ f.fractionBits := by
      have e1 : (((last - f.leastPlace).toNat : Nat) : Int) = last - f.leastPlace := by omega
      rw [hb, Int.natCast_add, Int.natCast_mul, e1, Int.add_mul]
      have h2 : (kept : Int) ≤ 2 * 2 ^ f.fractionBits := by
        rw [Nat.pow_succ, Nat.mul_comm] at hcut
        exact_mod_cast hcut
      have h3 : (((2 ^ f.fractionBits : Nat)) : Int) = 2 ^ f.fractionBits := by push_cast; rfl
      rw [h3]
      omega
    have h2 : (last - f.leastPlace + 2) * 2 ^ f.fractionBits < (2 ^ f.exponentBits - 1) * 2 ^ f.fractionBits := Int.mul_lt_mul_of_pos_right hhi (by exact_mod_cast hB)
    have : (((last - f.leastPlace).toNat * f.binade + kept : Nat) : Int) < f.infRung := by rw [hi]; omega
    exact_mod_cast this
  rw [Nat.min_eq_left (Nat.le_of_lt hrung)]
  obtain ⟨m', e', h1, h2⟩ := read_rung f s (last - f.leastPlace).toNat kept hcut (fun h => hlow (by omega)) hrung
  have e1 : f.leastPlace + ((last - f.leastPlace).toNat : Int) = last := by omega
  rw [e1] at h2
  refine ⟨m', e', kept, h1, h2, ?_⟩
  -- the error, in units of the place
  clear h1 h2 hrung hi hB hb hcut hlow hlast4 hlast2 hhi
  rcases Int.le_total last e with hle | hle
  · have a2 : (last - e).toNat = 0 := by omega
    rw [a2, cut_zero] at hkept
    subst hkept
    rw [mul_shl]
    have : last + ((e - last).toNat : Int) = e := by omega
    rw [this]
    have := p2_pos last
    constructor <;> grind
  · have a1 : (e - last).toNat = 0 := by omega
    rw [a1, Nat.shiftLeft_zero] at herr
    have hs := p2_split hle
    generalize 2 ^ (last - e).toNat = G at *
    have hp := p2_pos e
    obtain ⟨h1, h2⟩ := herr
    have h1' : (2 * (m : Rat)) ≤ 2 * ((kept : Rat) * (G : Rat)) + G := by exact_mod_cast Rat.natCast_le_natCast.2 h1
    have h2' : 2 * ((kept : Rat) * (G : Rat)) ≤ 2 * (m : Rat) + G := by exact_mod_cast Rat.natCast_le_natCast.2 h2
    have h3 := Rat.mul_le_mul_of_nonneg_right h1' (Rat.le_of_lt hp)
    have h4 := Rat.mul_le_mul_of_nonneg_right h2' (Rat.le_of_lt hp)
    rw [hs]
    constructor <;> grind

def feps : FloatKind → Rat
  | .f32 => p2 (-23)
  | .f64 => p2 (-52)
def ftiny : FloatKind → Rat
  | .f32 => p2 (-149)
  | .f64 => p2 (-1074)
def ftop : FloatKind → Int
  | .f32 => 127
  | .f64 => 1023
/-- What can be written. -/
def RepN (k : FloatKind) (B : Rat) : Prop := ∃ (M : Nat) (E : Int), M ≤ 2 ^ (k.format.fractionBits + 1) ∧ k.format.leastPlace ≤ E ∧ B = (M : Rat) * p2 E
def Rep (k : FloatKind) (B : Rat) : Prop := RepN k B ∨ RepN k (-B)
/-- r is q rounded. -/
structure Rnd (k : FloatKind) (q r : Rat) : Prop where
  near : ∀ a, -a ≤ q → q ≤ a → q ≤ r + (a * feps k + ftiny k) ∧ r ≤ q + (a * feps k + ftiny k)
  side : ∀ B, Rep k B → (q ≤ B → r ≤ B) ∧ (B ≤ q → B ≤ r)

theorem nat_le_of_rat {a b : Nat} (h : 2 * (a : Rat) ≤ 2 * (b : Rat) + 1) : a ≤ b := by
  have h1 : ((2 * a : Nat) : Rat) ≤ ((2 * b + 1 : Nat) : Rat) := by
    rw [Rat.natCast_mul, Rat.natCast_add, Rat.natCast_mul]
    exact h
  have h2 := Rat.natCast_le_natCast.1 h1
  omega
theorem grid_le {kept N : Nat} {q P : Rat} (hP : 0 < P) (h : 2 * ((kept : Rat) * P) ≤ 2 * q + P) (hq : q ≤ (N : Rat) * P) : kept ≤ N := by
  refine nat_le_of_rat ?_
  have h1 : (2 * (kept : Rat)) * P ≤ (2 * (N : Rat) + 1) * P := by grind
  exact Rat.le_of_mul_le_mul_right h1 hP
theorem grid_ge {kept N : Nat} {q P : Rat} (hP : 0 < P) (h : 2 * q ≤ 2 * ((kept : Rat) * P) + P) (hq : (N : Rat) * P ≤ q) : N ≤ kept := by
  refine nat_le_of_rat ?_
  have h1 : (2 * (N : Rat)) * P ≤ (2 * (kept : Rat) + 1) * P := by grind
  exact Rat.le_of_mul_le_mul_right h1 hP
theorem mul_p2_le {a b : Nat} (h : a ≤ b) (e : Int) : (a : Rat) * p2 e ≤ (b : Rat) * p2 e :=
  Rat.mul_le_mul_of_nonneg_right (Rat.natCast_le_natCast.2 h) (Rat.le_of_lt (p2_pos e))
theorem p2_shl (n : Nat) (e : Int) : ((2 ^ n : Nat) : Rat) * p2 e = p2 (n + e) := by rw [← p2_nat, ← p2_add]
/-- The highest digit. -/
theorem log_le (m : Nat) (hm : m ≠ 0) (e : Int) : p2 (e + m.log2) ≤ (m : Rat) * p2 e := by
  have h := mul_p2_le (Nat.log2_self_le hm) e
  rw [p2_shl, Int.add_comm] at h
  exact h
theorem p2_lt_of_lt {a b : Int} (h : p2 a < p2 b) : a < b := by
  rcases (show a < b ∨ b ≤ a from by omega) with h1 | h1
  · exact h1
  · exact absurd (p2_le h1) (Rat.not_le.2 h)
theorem grid_side (f : Ieee.Format) (m : Nat) (e : Int) (hm : m ≠ 0) (kept : Nat) (h1 : 2 * ((m : Rat) * p2 e) ≤ 2 * ((kept : Rat) * p2 (lastP f m e)) + p2 (lastP f m e)) (h2 : 2 * ((kept : Rat) * p2 (lastP f m e)) ≤ 2 * ((m : Rat) * p2 e) + p2 (lastP f m e))
    {M : Nat} {E : Int} (hM : M ≤ 2 ^ (f.fractionBits + 1)) (hE : f.leastPlace ≤ E) :
    ((m : Rat) * p2 e ≤ (M : Rat) * p2 E → (kept : Rat) * p2 (lastP f m e) ≤ (M : Rat) * p2 E) ∧ ((M : Rat) * p2 E ≤ (m : Rat) * p2 e → (M : Rat) * p2 E ≤ (kept : Rat) * p2 (lastP f m e)) := by
  have hP := p2_pos (lastP f m e)
  rcases Int.le_total (lastP f m e) E with hle | hle
  · have hB : (M : Rat) * p2 E = ((M * 2 ^ (E - lastP f m e).toNat : Nat) : Rat) * p2 (lastP f m e) := by
      rw [p2_split hle, Rat.natCast_mul, Rat.mul_assoc]
    rw [hB]
    exact ⟨fun h => mul_p2_le (grid_le hP h2 h) _, fun h => mul_p2_le (grid_ge hP h1 h) _⟩
  · rcases (show E < lastP f m e ∨ lastP f m e ≤ E from by omega) with hlt | hge
    · have hl : lastP f m e = e + m.log2 - f.fractionBits := by
        have : lastP f m e = f.leastPlace ∨ lastP f m e = e + m.log2 - f.fractionBits := by unfold lastP; omega
        omega
      have hlow := log_le m hm e
      have e1 : e + (m.log2 : Int) = (f.fractionBits : Int) + lastP f m e := by omega
      rw [e1, ← p2_shl] at hlow
      have hMB : (M : Rat) * p2 E ≤ ((2 ^ f.fractionBits : Nat) : Rat) * p2 (lastP f m e) := by
        refine Rat.le_trans (mul_p2_le hM E) ?_
        rw [p2_shl, p2_shl]
        exact p2_le (by omega)
      refine ⟨fun h => ?_, fun h => Rat.le_trans hMB (mul_p2_le (grid_ge hP h1 hlow) _)⟩
      have heq : (M : Rat) * p2 E = ((2 ^ f.fractionBits : Nat) : Rat) * p2 (lastP f m e) := Rat.le_antisymm hMB (Rat.le_trans hlow h)
      rw [heq] at h ⊢
      exact mul_p2_le (grid_le hP h2 h) _
    · have : E = lastP f m e := by omega
      subst this
      exact ⟨fun h => mul_p2_le (grid_le hP h2 h) _, fun h => mul_p2_le (grid_ge hP h1 h) _⟩
theorem last_bound (f : Ieee.Format) (m : Nat) (e : Int) (hm : m ≠ 0) : p2 (lastP f m e) ≤ ((m : Rat) * p2 e) * p2 (-(f.fractionBits : Int)) + p2 f.leastPlace := by
  have hlow := log_le m hm e
  have h0 := p2_pos (-(f.fractionBits : Int))
  have h1 := Rat.mul_le_mul_of_nonneg_right hlow (Rat.le_of_lt h0)
  rw [← p2_add] at h1
  have hlp := p2_pos f.leastPlace
  have : lastP f m e = f.leastPlace ∨ lastP f m e = e + m.log2 + -(f.fractionBits : Int) := by unfold lastP; omega
  rcases this with h | h
  · rw [h]
    have := p2_pos (e + m.log2 + -(f.fractionBits : Int))
    grind
  · rw [h]
    grind
theorem rnd_sign {k : FloatKind} {s : Bool} {q r : Rat} (h0 : 0 ≤ q) (hr : 0 ≤ r) (hn : q ≤ r + (q * feps k + ftiny k) ∧ r ≤ q + (q * feps k + ftiny k)) (he : 0 ≤ feps k)
    (hs : ∀ B, RepN k B → (q ≤ B → r ≤ B) ∧ (B ≤ q → B ≤ r)) : Rnd k (sgn s * q) (sgn s * r) := by
  have hneg : ∀ B, RepN k B → 0 ≤ B := fun B ⟨M, E, _, _, hB⟩ => by
    rw [hB]
    exact Rat.mul_nonneg Rat.natCast_nonneg (Rat.le_of_lt (p2_pos E))
  refine ⟨fun a h1 h2 => ?_, fun B hB => ?_⟩
  · have ha : q ≤ a := by cases s <;> simp only [sgn] at h1 h2 <;> grind
    have hm := Rat.mul_le_mul_of_nonneg_right ha he
    obtain ⟨h3, h4⟩ := hn
    cases s <;> simp only [sgn] <;> constructor <;> grind
  · rcases hB with hB | hB
    · have h3 := hs B hB
      have h4 := hneg B hB
      cases s
      · simp only [sgn, Bool.false_eq_true, if_false, Rat.one_mul]
        exact h3
      · simp only [sgn, if_true]
        refine ⟨fun h => by grind, fun h => ?_⟩
        have hB0 : B = 0 := by grind
        have hq0 : q = 0 := by grind
        have := (hs 0 ⟨0, k.format.leastPlace, Nat.zero_le _, Int.le_refl _, by rw [show ((0 : Nat) : Rat) = 0 from rfl, Rat.zero_mul]⟩).1 (by grind)
        grind
    · have h3 := hs (-B) hB
      have h4 := hneg (-B) hB
      cases s
      · simp only [sgn, Bool.false_eq_true, if_false, Rat.one_mul]
        refine ⟨fun h => ?_, fun h => by grind⟩
        have := (hs 0 ⟨0, k.format.leastPlace, Nat.zero_le _, Int.le_refl _, by rw [show ((0 : Nat) : Rat) = 0 from rfl, Rat.zero_mul]⟩).1 (by grind)
        grind
      · simp only [sgn, if_true]
        refine ⟨fun h => ?_, fun h => ?_⟩
        · have := h3.2 (by grind)
          grind
        · have := h3.1 (by grind)
          grind
theorem eps_eq (k : FloatKind) : feps k = p2 (-(k.format.fractionBits : Int)) := by cases k <;> rfl
theorem tiny_eq (k : FloatKind) : ftiny k = p2 k.format.leastPlace := by cases k <;> decide +kernel
theorem eps_pos (k : FloatKind) : 0 < feps k := by rw [eps_eq]; exact p2_pos _
theorem tiny_pos (k : FloatKind) : 0 < ftiny k := by rw [tiny_eq]; exact p2_pos _
theorem top_ok {k : FloatKind} {m : Nat} {e : Int} (hm : m ≠ 0) (h : (m : Rat) * p2 e < p2 (ftop k)) : lastP k.format m e - k.format.leastPlace + 2 < 2 ^ k.format.exponentBits - 1 := by
  have h1 := p2_lt_of_lt (Std.lt_of_le_of_lt (log_le m hm e) h)
  cases k
  · have a1 : FloatKind.f32.format.leastPlace = -149 := by decide
    have a2 : FloatKind.f32.format.fractionBits = 23 := rfl
    have a3 : FloatKind.f32.format.exponentBits = 8 := rfl
    unfold lastP
    rw [a1, a2, a3]
    simp only [ftop] at h1
    omega
  · have a1 : FloatKind.f64.format.leastPlace = -1074 := by decide
    have a2 : FloatKind.f64.format.fractionBits = 52 := rfl
    have a3 : FloatKind.f64.format.exponentBits = 11 := rfl
    unfold lastP
    rw [a1, a2, a3]
    simp only [ftop] at h1
    omega
/-- What is written is what is rounded. -/
theorem nearest_rnd' (k : FloatKind) (s : Bool) (m : Nat) (e : Int) (h : (m : Rat) * p2 e < p2 (ftop k)) :
    ∃ m' e', k.decode (k.format.nearest s m e) = .number s m' e' ∧ Rnd k (vl s m e) (vl s m' e') ∧ (∀ B, RepN k B → ((m : Rat) * p2 e ≤ B → (m' : Rat) * p2 e' ≤ B) ∧ (B ≤ (m : Rat) * p2 e → B ≤ (m' : Rat) * p2 e')) ∧
      2 * ((m : Rat) * p2 e) ≤ 2 * ((m' : Rat) * p2 e') + ((m : Rat) * p2 e * feps k + ftiny k) ∧ 2 * ((m' : Rat) * p2 e') ≤ 2 * ((m : Rat) * p2 e) + ((m : Rat) * p2 e * feps k + ftiny k) := by
  by_cases hm : m = 0
  · subst hm
    have h0 : k.decode (k.format.nearest s 0 e) = .number s 0 k.format.leastPlace := by
      unfold Ieee.Format.nearest
      rw [if_pos rfl]
      have hlt : (0 : Nat) < k.format.signWeight := Nat.two_pow_pos _
      have hsg : (k.format.word s 0 / k.format.signWeight % 2 == 1) = s := by
        unfold Ieee.Format.word
        cases s
        · simp only [Bool.false_eq_true, if_false, Nat.zero_div]; rfl
        · simp only [if_true, Nat.add_zero, Nat.div_self hlt]; rfl
      unfold FloatKind.decode Ieee.Format.read
      simp only [word_mod k.format s hlt, hsg]
      rw [if_pos (show 0 < k.format.binade from Nat.two_pow_pos _)]
    refine ⟨0, k.format.leastPlace, h0, ?_, fun B _ => ?_, ?_⟩
    · rw [vl_zero, vl_zero]
      refine ⟨fun a h1 h2 => ?_, fun B _ => ⟨id, id⟩⟩
      have h3 := Rat.mul_nonneg (show 0 ≤ a from h2) (Rat.le_of_lt (eps_pos k))
      have h4 := tiny_pos k
      constructor <;> grind
    · rw [show ((0 : Nat) : Rat) = 0 from rfl, Rat.zero_mul, Rat.zero_mul]
      exact ⟨id, id⟩
    · have h4 := tiny_pos k
      rw [show ((0 : Nat) : Rat) = 0 from rfl, Rat.zero_mul, Rat.zero_mul, Rat.zero_mul]
      constructor <;> grind
  · obtain ⟨m', e', kept, h1, h2, h3, h4⟩ := nearest_grid k.format s m e hm (top_ok hm h)
    have hside : ∀ B, RepN k B → ((m : Rat) * p2 e ≤ B → (m' : Rat) * p2 e' ≤ B) ∧ (B ≤ (m : Rat) * p2 e → B ≤ (m' : Rat) * p2 e') := fun B ⟨M, E, hM, hE, hB⟩ => by
      rw [h2, hB]
      exact grid_side k.format m e hm kept h3 h4 hM hE
    have hl := last_bound k.format m e hm
    rw [← eps_eq, ← tiny_eq] at hl
    have hP := p2_pos (lastP k.format m e)
    refine ⟨m', e', h1, ?_, hside, ?_⟩
    · refine rnd_sign (Rat.mul_nonneg Rat.natCast_nonneg (Rat.le_of_lt (p2_pos e))) (Rat.mul_nonneg Rat.natCast_nonneg (Rat.le_of_lt (p2_pos e'))) ?_ (Rat.le_of_lt (eps_pos k)) hside
      rw [h2]
      constructor <;> grind
    · rw [h2]
      constructor <;> grind
theorem nearest_rnd (k : FloatKind) (s : Bool) (m : Nat) (e : Int) (h : (m : Rat) * p2 e < p2 (ftop k)) :
    ∃ m' e', k.decode (k.format.nearest s m e) = .number s m' e' ∧ Rnd k (vl s m e) (vl s m' e') ∧ ∀ B, RepN k B → ((m : Rat) * p2 e ≤ B → (m' : Rat) * p2 e' ≤ B) ∧ (B ≤ (m : Rat) * p2 e → B ≤ (m' : Rat) * p2 e') := by
  obtain ⟨m', e', h1, h2, h3, _⟩ := nearest_rnd' k s m e h
  exact ⟨m', e', h1, h2, h3⟩
end Go.Ab
namespace Go.Ab
/-- A float that is a number of some value. -/
def Vl (k : FloatKind) (x : FV) (q : Rat) : Prop := ∃ b s m e, x = some b ∧ k.decode b = .number s m e ∧ vl s m e = q
theorem Vl.of {k : FloatKind} {b : Nat} {s : Bool} {m : Nat} {e : Int} (h : k.decode b = .number s m e) : Vl k (some b) (vl s m e) := ⟨b, s, m, e, rfl, h, rfl⟩
theorem Vl.fvc {k : FloatKind} {b : Nat} {s : Bool} {m : Nat} {e : Int} {q : Rat} (h : k.decode b = .number s m e) (hq : vl s m e = q) : Vl k (fv k b) q := by
  have : fv k b = some b := fv_some (by rw [h]; rfl)
  rw [this, ← hq]
  exact .of h
/-- Whether a word is a number of some value. -/
def vlc (k : FloatKind) (b : Nat) (q : Rat) : Bool := match k.decode b with
  | .number s m e => decide (vl s m e = q)
  | _ => false
theorem Vl.cs {k : FloatKind} {b : Nat} {q : Rat} (h : vlc k b q = true) : Vl k (.some b) q := by
  unfold vlc at h
  split at h
  · rename_i s m e hd
    exact ⟨b, s, m, e, rfl, hd, of_decide_eq_true h⟩
  · cases h
theorem Vl.c {k : FloatKind} {b : Nat} {q : Rat} (h : vlc k b q = true) : Vl k (fv k b) q := by
  obtain ⟨b', s, m, e, hb, hd, hq⟩ := Vl.cs h
  cases hb
  exact Vl.fvc hd hq
theorem Vl.some {k : FloatKind} {x : FV} {q : Rat} (h : Vl k x q) : x ≠ none := by
  obtain ⟨b, _, _, _, rfl, _, _⟩ := h
  exact Option.some_ne_none b
/-- Not too great to be written. -/
def Fit (k : FloatKind) (q : Rat) : Prop := -p2 (ftop k) < q ∧ q < p2 (ftop k)
theorem Fit.mag {k : FloatKind} {s : Bool} {m : Nat} {e : Int} (h : Fit k (vl s m e)) : (m : Rat) * p2 e < p2 (ftop k) := by
  obtain ⟨h1, h2⟩ := h
  unfold vl sgn at h1 h2
  cases s <;> grind
theorem write_vl (k : FloatKind) (s : Bool) (m : Nat) (e : Int) (h : Fit k (vl s m e)) : ∃ r, Vl k (some (k.format.nearest s m e)) r ∧ Rnd k (vl s m e) r := by
  obtain ⟨m', e', h1, h2, _⟩ := nearest_rnd k s m e h.mag
  exact ⟨_, .of h1, h2⟩
/-- What has a value of its own. -/
theorem rnd_rep {k : FloatKind} {q r : Rat} (h : Rnd k q r) (hq : Rep k q) : r = q :=
  Rat.le_antisymm ((h.side q hq).1 Rat.le_refl) ((h.side q hq).2 Rat.le_refl)
theorem rep_zero (k : FloatKind) : Rep k 0 := .inl ⟨0, k.format.leastPlace, Nat.zero_le _, Int.le_refl _, by rw [show ((0 : Nat) : Rat) = 0 from rfl, Rat.zero_mul]⟩
theorem rep_int (k : FloatKind) (n : Int) (h : n.natAbs ≤ 2 ^ (k.format.fractionBits + 1)) : Rep k (n : Rat) := by
  have hlp : k.format.leastPlace ≤ 0 := by cases k <;> decide
  rcases Int.le_total 0 n with h0 | h0
  · refine .inl ⟨n.natAbs, 0, h, hlp, ?_⟩
    rw [p2_zero, Rat.mul_one, ← Rat.intCast_natCast]
    congr 1
    omega
  · refine .inr ⟨n.natAbs, 0, h, hlp, ?_⟩
    rw [p2_zero, Rat.mul_one, ← Rat.intCast_natCast, ← Rat.intCast_neg]
    congr 1
    omega

theorem sum_vl (s t : Bool) (m n : Nat) (i j : Int) : ∃ u M, Ieee.Datum.sum (.number s m i) (.number t n j) = some (.number u M (min i j)) ∧ vl u M (min i j) = vl s m i + vl t n j := by
  simp only [Ieee.Datum.sum]
  refine ⟨_, _, rfl, ?_⟩
  have e1 := vl_signed s m (i - min i j).toNat (min i j)
  have e2 := vl_signed t n (j - min i j).toNat (min i j)
  have a1 : min i j + ((i - min i j).toNat : Int) = i := by omega
  have a2 : min i j + ((j - min i j).toNat : Int) = j := by omega
  rw [a1] at e1
  rw [a2] at e2
  rw [← e1, ← e2, ← Rat.add_mul, ← Rat.intCast_add, vl_int]
  split
  · rename_i h0
    rw [h0]
    show vl _ 0 _ = vl _ 0 _
    rw [vl_zero, vl_zero]
  · rfl
theorem vl_add {k : FloatKind} {x y : FV} {p q : Rat} (hx : Vl k x p) (hy : Vl k y q) (hf : Fit k (p + q)) : ∃ r, Vl k (fbin .add k x y) r ∧ Rnd k (p + q) r := by
  obtain ⟨a, s, m, i, rfl, ha, rfl⟩ := hx
  obtain ⟨b, t, n, j, rfl, hb, rfl⟩ := hy
  obtain ⟨u, M, h1, h2⟩ := sum_vl s t m n i j
  rw [← h2] at hf ⊢
  have : fbin .add k (some a) (some b) = some (k.format.nearest u M (min i j)) := by
    have ha' : k.format.read a = .number s m i := ha
    have hb' : k.format.read b = .number t n j := hb
    simp [fbin, floatBits, Ieee.Format.add, ha', hb', h1, Ieee.Format.write]
  rw [this]
  exact write_vl k u M _ hf
theorem vl_sub {k : FloatKind} {x y : FV} {p q : Rat} (hx : Vl k x p) (hy : Vl k y q) (hf : Fit k (p - q)) : ∃ r, Vl k (fbin .sub k x y) r ∧ Rnd k (p - q) r := by
  obtain ⟨a, s, m, i, rfl, ha, rfl⟩ := hx
  obtain ⟨b, t, n, j, rfl, hb, rfl⟩ := hy
  obtain ⟨u, M, h1, h2⟩ := sum_vl s (!t) m n i j
  have h3 : vl s m i - vl t n j = vl s m i + vl (!t) n j := by rw [vl_neg, Rat.sub_eq_add_neg]
  rw [h3, ← h2] at hf ⊢
  have : fbin .sub k (some a) (some b) = some (k.format.nearest u M (min i j)) := by
    have ha' : k.format.read a = .number s m i := ha
    have hb' : k.format.read b = .number t n j := hb
    simp [fbin, floatBits, Ieee.Format.sub, ha', hb', Ieee.Datum.opposite, h1, Ieee.Format.write]
  rw [this]
  exact write_vl k u M _ hf
theorem mul_vl (s t : Bool) (m n : Nat) (i j : Int) : vl (s ^^ t) (m * n) (i + j) = vl s m i * vl t n j := by
  unfold vl
  rw [Rat.natCast_mul, p2_add]
  have : sgn (s ^^ t) = sgn s * sgn t := by cases s <;> cases t <;> decide +kernel
  rw [this]
  grind
theorem vl_mul {k : FloatKind} {x y : FV} {p q : Rat} (hx : Vl k x p) (hy : Vl k y q) (hf : Fit k (p * q)) : ∃ r, Vl k (fbin .mul k x y) r ∧ Rnd k (p * q) r := by
  obtain ⟨a, s, m, i, rfl, ha, rfl⟩ := hx
  obtain ⟨b, t, n, j, rfl, hb, rfl⟩ := hy
  rw [← mul_vl] at hf ⊢
  have : fbin .mul k (some a) (some b) = some (k.format.nearest (s ^^ t) (m * n) (i + j)) := by
    have ha' : k.format.read a = .number s m i := ha
    have hb' : k.format.read b = .number t n j := hb
    simp [fbin, floatBits, Ieee.Format.mul, ha', hb', Ieee.Datum.product, Ieee.Format.write]
  rw [this]
  exact write_vl k _ _ _ hf
/-- A quotient with its sticky digit, as it lies beside the true one. -/
theorem quo_sticky (m n fb : Nat) (i j : Int) (hm : m ≠ 0) (hn : n ≠ 0) : ∀ more, fb + 2 + n.log2 ≤ m.log2 + more → ∀ A : Rat, A * ((n : Rat) * p2 j) = (m : Rat) * p2 i →
    ∃ F st : Nat, 2 * (m <<< more / n) + (m <<< more % n != 0).toNat = 2 * F + st ∧ (st = 0 ∨ st = 1) ∧ 2 ^ (fb + 1) ≤ F ∧
      ((st = 0 ∧ A = 2 * ((F : Rat) * p2 (i - j - more - 1))) ∨ (st = 1 ∧ 2 * ((F : Rat) * p2 (i - j - more - 1)) < A ∧ A < 2 * ((F : Rat) * p2 (i - j - more - 1)) + 2 * p2 (i - j - more - 1))) := by
  intro more hmore A hA
  have hD := mul_shl m more (i - more)
  have hDn : 2 ^ (fb + 1) * n ≤ m <<< more := by
    rw [Nat.shiftLeft_eq]
    have h1 : n < 2 ^ (n.log2 + 1) := Nat.lt_log2_self
    have h2 : 2 ^ (fb + 1) * n ≤ 2 ^ (fb + 1) * 2 ^ (n.log2 + 1) := Nat.mul_le_mul_left _ (Nat.le_of_lt h1)
    rw [← Nat.pow_add] at h2
    have h3 : 2 ^ m.log2 * 2 ^ more ≤ m * 2 ^ more := Nat.mul_le_mul_right _ (Nat.log2_self_le hm)
    rw [← Nat.pow_add] at h3
    exact Nat.le_trans h2 (Nat.le_trans (Nat.pow_le_pow_right (by decide) (by omega)) h3)
  generalize m <<< more = D at *
  have hn0 : 0 < n := by omega
  have hF : 2 ^ (fb + 1) ≤ D / n := (Nat.le_div_iff_mul_le hn0).2 hDn
  have h3 := Nat.div_add_mod D n
  have h4 := Nat.mod_lt D hn0
  generalize D / n = F at *
  generalize D % n = r at *
  have e1 : i - (more : Int) + more = i := by omega
  rw [e1] at hD
  have hu : p2 (i - more) = 2 * p2 (i - j - more - 1) * p2 j := by
    rw [← p2_one, ← p2_add, ← p2_add]
    congr 1
    omega
  have hj := p2_pos j
  have hup := p2_pos (i - j - more - 1)
  generalize p2 (i - j - more - 1) = u at *
  have hN : (0 : Rat) < n := by
    rw [show (0 : Rat) = ((0 : Nat) : Rat) from rfl]
    exact Rat.natCast_lt_natCast.2 hn0
  have hDr : (D : Rat) = (n : Rat) * F + r := by rw [← h3, Rat.natCast_add, Rat.natCast_mul]
  have hnj : 0 < (n : Rat) * p2 j := Rat.mul_pos hN hj
  -- A n = D 2u
  have hAn : A * ((n : Rat) * p2 j) = ((n : Rat) * F + r) * (2 * u * p2 j) := by rw [hA, ← hD, hu, hDr]
  have hAn2 : (A * (n : Rat)) * p2 j = (((n : Rat) * F + r) * (2 * u)) * p2 j := by grind
  have hAn3 : A * (n : Rat) = ((n : Rat) * F + r) * (2 * u) := by
    apply Rat.le_antisymm
    · exact Rat.le_of_mul_le_mul_right (by rw [hAn2]; exact Rat.le_refl) hj
    · exact Rat.le_of_mul_le_mul_right (by rw [hAn2]; exact Rat.le_refl) hj
  rcases Nat.eq_zero_or_pos r with h0 | h0
  · subst h0
    refine ⟨F, 0, by simp, .inl rfl, hF, .inl ⟨rfl, ?_⟩⟩
    rw [show ((0 : Nat) : Rat) = 0 from rfl, Rat.add_zero] at hAn3
    apply Rat.le_antisymm
    · exact Rat.le_of_mul_le_mul_right (c := (n : Rat)) (by grind) hN
    · exact Rat.le_of_mul_le_mul_right (c := (n : Rat)) (by grind) hN
  · have hr0 : (0 : Rat) < r := by
      rw [show (0 : Rat) = ((0 : Nat) : Rat) from rfl]
      exact Rat.natCast_lt_natCast.2 h0
    have hrn : (r : Rat) < n := Rat.natCast_lt_natCast.2 h4
    have hne : (r != 0).toNat = 1 := by
      have : (r != 0) = true := by simp; omega
      rw [this]; rfl
    refine ⟨F, 1, by rw [hne], .inr rfl, hF, .inr ⟨rfl, ?_, ?_⟩⟩
    · refine Rat.lt_of_mul_lt_mul_right (c := (n : Rat)) ?_ (Rat.le_of_lt hN)
      rw [hAn3]
      have := Rat.mul_pos hr0 hup
      grind
    · refine Rat.lt_of_mul_lt_mul_right (c := (n : Rat)) ?_ (Rat.le_of_lt hN)
      rw [hAn3]
      have := Rat.mul_lt_mul_of_pos_right hrn hup
      grind
theorem sticky_side {k : FloatKind} {A u : Rat} {F st : Nat} {e : Int} (hu : u = p2 e) (hst : st = 0 ∨ st = 1) (hF : 2 ^ (k.format.fractionBits + 1) ≤ F)
    (hA : (st = 0 ∧ A = 2 * ((F : Rat) * u)) ∨ (st = 1 ∧ 2 * ((F : Rat) * u) < A ∧ A < 2 * ((F : Rat) * u) + 2 * u)) {B : Rat} (hB : RepN k B) :
    (A ≤ B → ((2 * F + st : Nat) : Rat) * u ≤ B) ∧ (B ≤ A → B ≤ ((2 * F + st : Nat) : Rat) * u) := by
  have hup : 0 < u := by rw [hu]; exact p2_pos e
  have hc : ((2 * F + st : Nat) : Rat) * u = 2 * ((F : Rat) * u) + (st : Rat) * u := by
    rw [Rat.natCast_add, Rat.natCast_mul]
    show (2 * (F : Rat) + st) * u = _
    grind
  rw [hc]
  rcases hA with ⟨h0, h1⟩ | ⟨h0, h1, h2⟩
  · subst h0
    rw [show ((0 : Nat) : Rat) = 0 from rfl, Rat.zero_mul, Rat.add_zero, ← h1]
    exact ⟨id, id⟩
  · subst h0
    rw [show ((1 : Nat) : Rat) = 1 from rfl, Rat.one_mul]
    obtain ⟨M, E, hM, hE, hBe⟩ := hB
    rcases (show e + 1 ≤ E ∨ E ≤ e from by omega) with hle | hle
    · have hB2 : B = 2 * (((M * 2 ^ (E - (e + 1)).toNat : Nat) : Rat) * u) := by
        rw [hBe, p2_split hle, p2_add, p2_one, Rat.natCast_mul, hu]
        grind
      generalize M * 2 ^ (E - (e + 1)).toNat = N at *
      refine ⟨fun h => ?_, fun h => ?_⟩
      · have h3 : (F : Rat) * u < (N : Rat) * u := by grind
        have h4 : F < N := Rat.natCast_lt_natCast.1 ((Rat.mul_lt_mul_right hup).1 h3)
        have h5 : ((F + 1 : Nat) : Rat) * u ≤ (N : Rat) * u := Rat.mul_le_mul_of_nonneg_right (Rat.natCast_le_natCast.2 h4) (Rat.le_of_lt hup)
        rw [Rat.natCast_add, show ((1 : Nat) : Rat) = 1 from rfl] at h5
        grind
      · have h3 : (N : Rat) * u < ((F + 1 : Nat) : Rat) * u := by
          rw [Rat.natCast_add, show ((1 : Nat) : Rat) = 1 from rfl]
          grind
        have h4 : N < F + 1 := Rat.natCast_lt_natCast.1 ((Rat.mul_lt_mul_right hup).1 h3)
        have h5 : (N : Rat) * u ≤ (F : Rat) * u := Rat.mul_le_mul_of_nonneg_right (Rat.natCast_le_natCast.2 (by omega)) (Rat.le_of_lt hup)
        grind
    · have h3 : B ≤ (F : Rat) * u := by
        rw [hBe, hu]
        refine Rat.le_trans (Rat.mul_le_mul_of_nonneg_left (p2_le hle) Rat.natCast_nonneg) (mul_p2_le (Nat.le_trans hM hF) e)
      have h4 : 0 < (F : Rat) * u := by
        refine Rat.mul_pos ?_ hup
        rw [show (0 : Rat) = ((0 : Nat) : Rat) from rfl]
        exact Rat.natCast_lt_natCast.2 (Nat.lt_of_lt_of_le (Nat.two_pow_pos _) hF)
      exact ⟨fun h => by grind, fun h => by grind⟩
theorem vl_div {k : FloatKind} {x y : FV} {p q : Rat} (hx : Vl k x p) (hy : Vl k y q) (hq : q ≠ 0) (hf : -p2 (ftop k - 1) ≤ p / q ∧ p / q ≤ p2 (ftop k - 1)) : ∃ r, Vl k (fbin .quo k x y) r ∧ Rnd k (p / q) r := by
  obtain ⟨a, s, m, i, rfl, ha, rfl⟩ := hx
  obtain ⟨b, t, n, j, rfl, hb, rfl⟩ := hy
  have hn : n ≠ 0 := fun h => by
    subst h
    exact hq (vl_zero t j)
  have hn0 : (0 : Rat) < n := by
    rw [show (0 : Rat) = ((0 : Nat) : Rat) from rfl]
    exact Rat.natCast_lt_natCast.2 (by omega)
  have hnj : 0 < (n : Rat) * p2 j := Rat.mul_pos hn0 (p2_pos j)
  have hsg : vl s m i / vl t n j = sgn (s ^^ t) * (((m : Rat) * p2 i) / ((n : Rat) * p2 j)) := by
    have h1 : vl s m i / vl t n j * vl t n j = vl s m i := Rat.div_mul_cancel hq
    have h2 : ((m : Rat) * p2 i) / ((n : Rat) * p2 j) * ((n : Rat) * p2 j) = (m : Rat) * p2 i := Rat.div_mul_cancel (Rat.ne_of_gt hnj)
    have h3 : sgn (s ^^ t) * (((m : Rat) * p2 i) / ((n : Rat) * p2 j)) * vl t n j = vl s m i := by
      have h4 : sgn (s ^^ t) * sgn t = sgn s := by cases s <;> cases t <;> decide +kernel
      have h5 : sgn (s ^^ t) * (((m : Rat) * p2 i) / ((n : Rat) * p2 j)) * vl t n j = (sgn (s ^^ t) * sgn t) * (((m : Rat) * p2 i) / ((n : Rat) * p2 j) * ((n : Rat) * p2 j)) := by
        unfold vl
        generalize ((m : Rat) * p2 i) / ((n : Rat) * p2 j) = A
        grind
      rw [h5, h4, h2]
      rfl
    generalize vl s m i / vl t n j = X at *
    generalize sgn (s ^^ t) * (((m : Rat) * p2 i) / ((n : Rat) * p2 j)) = Y at *
    have h6 : (X - Y) * vl t n j = 0 := by grind
    rcases Rat.mul_eq_zero.1 h6 with h7 | h7
    · grind
    · exact absurd h7 hq
  rw [hsg] at hf ⊢
  have hA : ((m : Rat) * p2 i) / ((n : Rat) * p2 j) * ((n : Rat) * p2 j) = (m : Rat) * p2 i := Rat.div_mul_cancel (Rat.ne_of_gt hnj)
  generalize ((m : Rat) * p2 i) / ((n : Rat) * p2 j) = A at *
  have hA0 : 0 ≤ A := by
    rcases Rat.le_total (a := 0) (b := A) with h | h
    · exact h
    · have h1 := Rat.mul_nonneg (Rat.natCast_nonneg (a := m)) (Rat.le_of_lt (p2_pos i))
      rw [← hA] at h1
      have h2 := Rat.mul_nonneg (show 0 ≤ -A by grind) (Rat.le_of_lt hnj)
      have h3 : A * ((n : Rat) * p2 j) = 0 := by grind
      rcases Rat.mul_eq_zero.1 h3 with h4 | h4
      · grind
      · grind
  have hAf : A ≤ p2 (ftop k - 1) := by
    obtain ⟨h1, h2⟩ := hf
    cases hst : (s ^^ t) <;> rw [hst] at h1 h2 <;> simp only [sgn] at h1 h2 <;> grind
  have hfb : fbin .quo k (some a) (some b) = some (k.format.nearest (s ^^ t) (2 * (m <<< (k.format.fractionBits + 2 + n.log2 - m.log2) / n) + (m <<< (k.format.fractionBits + 2 + n.log2 - m.log2) % n != 0).toNat) (i - j - (k.format.fractionBits + 2 + n.log2 - m.log2 : Nat) - 1)) := by
    have ha' : k.format.read a = .number s m i := ha
    have hb' : k.format.read b = .number t n j := hb
    simp [fbin, floatBits, Ieee.Format.div, ha', hb', Ieee.Datum.quotient, hn, Ieee.Format.write]
  rw [hfb]
  have htop : p2 (ftop k - 1) < p2 (ftop k) := by cases k <;> decide +kernel
  by_cases hm : m = 0
  · subst hm
    have hA1 : A = 0 := by
      rw [show ((0 : Nat) : Rat) = 0 from rfl, Rat.zero_mul] at hA
      rcases Rat.mul_eq_zero.1 hA with h4 | h4
      · exact h4
      · exact absurd h4 (Rat.ne_of_gt hnj)
    subst hA1
    have e0 : 2 * (0 <<< (k.format.fractionBits + 2 + n.log2 - Nat.log2 0) / n) + (0 <<< (k.format.fractionBits + 2 + n.log2 - Nat.log2 0) % n != 0).toNat = 0 := by
      rw [Nat.zero_shiftLeft, Nat.zero_div, Nat.zero_mod]; rfl
    rw [e0]
    generalize i - j - (k.format.fractionBits + 2 + n.log2 - Nat.log2 0 : Nat) - 1 = e
    have h1 := write_vl k (s ^^ t) 0 e (by rw [vl_zero]; cases k <;> exact ⟨by decide +kernel, by decide +kernel⟩)
    rw [vl_zero] at h1
    rw [Rat.mul_zero]
    exact h1
  · obtain ⟨F, st, h1, h2, h3, h4⟩ := quo_sticky m n k.format.fractionBits i j hm hn (k.format.fractionBits + 2 + n.log2 - m.log2) (by omega) A hA
    rw [h1]
    generalize i - j - (k.format.fractionBits + 2 + n.log2 - m.log2 : Nat) - 1 = e at *
    have hsd := fun {B} (hB : RepN k B) => sticky_side (k := k) rfl h2 h3 h4 (B := B) hB
    have hrt : RepN k (p2 (ftop k - 1)) := ⟨1, ftop k - 1, Nat.one_le_two_pow, by cases k <;> decide, by rw [show ((1 : Nat) : Rat) = 1 from rfl, Rat.one_mul]⟩
    have hA' := (hsd hrt).1 hAf
    obtain ⟨m', e', g1, g2, g3, g4, g5⟩ := nearest_rnd' k (s ^^ t) (2 * F + st) e (Std.lt_of_le_of_lt hA' htop)
    refine ⟨_, .of g1, ?_⟩
    have hup := p2_pos e
    have hFu : feps k * ((F : Rat) * p2 e) ≥ 2 * p2 e := by
      have h5 := mul_p2_le h3 e
      rw [p2_shl] at h5
      have h6 := Rat.mul_le_mul_of_nonneg_left h5 (Rat.le_of_lt (eps_pos k))
      rw [eps_eq, ← p2_add] at h6
      have h7 : -(k.format.fractionBits : Int) + (((k.format.fractionBits + 1 : Nat) : Int) + e) = 1 + e := by omega
      rw [h7, p2_add, p2_one] at h6
      rw [eps_eq]
      exact h6
    have hc : ((2 * F + st : Nat) : Rat) * p2 e = 2 * ((F : Rat) * p2 e) + (st : Rat) * p2 e := by
      rw [Rat.natCast_add, Rat.natCast_mul]
      show (2 * (F : Rat) + st) * p2 e = _
      grind
    have he1 : feps k ≤ 1 / 4 := by cases k <;> decide +kernel
    have he0 := eps_pos k
    have ht := tiny_pos k
    refine rnd_sign hA0 (Rat.mul_nonneg Rat.natCast_nonneg (Rat.le_of_lt (p2_pos e'))) ?_ (Rat.le_of_lt he0) (fun B hB => ⟨fun h => (g3 B hB).1 ((hsd hB).1 h), fun h => (g3 B hB).2 ((hsd hB).2 h)⟩)
    generalize (m' : Rat) * p2 e' = R at *
    generalize ((2 * F + st : Nat) : Rat) * p2 e = A' at *
    generalize (F : Rat) * p2 e = FU at *
    generalize p2 e = u at *
    generalize ftiny k = T at *
    generalize feps k = E at *
    rcases h4 with ⟨h0, h5⟩ | ⟨h0, h5, h6⟩
    · subst h0
      rw [show ((0 : Nat) : Rat) = 0 from rfl, Rat.zero_mul, Rat.add_zero, ← h5] at hc
      subst hc
      have := Rat.mul_nonneg hA0 (Rat.le_of_lt he0)
      constructor <;> grind
    · subst h0
      rw [show ((1 : Nat) : Rat) = 1 from rfl, Rat.one_mul] at hc
      -- u ≤ E * FU / 2 ≤ E * A / 4
      have a1 : E * (2 * FU) ≤ E * A := Rat.mul_le_mul_of_nonneg_left (Rat.le_of_lt h5) (Rat.le_of_lt he0)
      have a2 : A' * E ≤ (A + u) * E := Rat.mul_le_mul_of_nonneg_right (by grind) (Rat.le_of_lt he0)
      have a3 : u * E ≤ u * (1 / 4) := Rat.mul_le_mul_of_nonneg_left he1 (Rat.le_of_lt hup)
      constructor <;> grind
theorem int_mul_lt {a b : Int} (e : Int) : (a : Rat) * p2 e < (b : Rat) * p2 e ↔ a < b := by
  rw [Rat.mul_lt_mul_right (p2_pos e)]
  exact Rat.intCast_lt_intCast
theorem vl_cmp {k : FloatKind} {x y : FV} {p q : Rat} (hx : Vl k x p) (hy : Vl k y q) : ∃ a b : Int, fcmp k x y = some (compare a b) ∧ (p < q ↔ a < b) ∧ (q < p ↔ b < a) := by
  obtain ⟨a, s, m, i, rfl, ha, rfl⟩ := hx
  obtain ⟨b, t, n, j, rfl, hb, rfl⟩ := hy
  have ha' : k.format.read a = .number s m i := ha
  have hb' : k.format.read b = .number t n j := hb
  refine ⟨_, _, by simp [fcmp, Ieee.Format.order, ha', hb', Ieee.Datum.order]; rfl, ?_, ?_⟩
  all_goals
    have e1 := vl_signed s m (i - min i j).toNat (min i j)
    have e2 := vl_signed t n (j - min i j).toNat (min i j)
    have a1 : min i j + ((i - min i j).toNat : Int) = i := by omega
    have a2 : min i j + ((j - min i j).toNat : Int) = j := by omega
    rw [a1] at e1
    rw [a2] at e2
    rw [← e1, ← e2, int_mul_lt]
theorem vl_lss {k : FloatKind} {x y : FV} {p q : Rat} (hx : Vl k x p) (hy : Vl k y q) : cmpB .lss (fcmp k x y) = decide (p < q) := by
  obtain ⟨a, b, h, h1, h2⟩ := vl_cmp hx hy
  rw [h]
  have hh : (p < q) = (a < b) := propext h1
  simp only [hh]
  rcases Int.lt_trichotomy a b with h3 | h3 | h3
  · simp [cmpB, h3, Int.compare_eq_lt.2 h3]
  · subst h3; simp [cmpB]
  · have : ¬ a < b := by omega
    simp [cmpB, this, Int.compare_eq_gt.2 h3]
theorem vl_gtr {k : FloatKind} {x y : FV} {p q : Rat} (hx : Vl k x p) (hy : Vl k y q) : cmpB .gtr (fcmp k x y) = decide (q < p) := by
  obtain ⟨a, b, h, h1, h2⟩ := vl_cmp hx hy
  rw [h]
  have hh : (q < p) = (b < a) := propext h2
  simp only [hh]
  rcases Int.lt_trichotomy a b with h3 | h3 | h3
  · have : ¬ b < a := by omega
    simp [cmpB, this, Int.compare_eq_lt.2 h3]
  · subst h3; simp [cmpB]
  · simp [cmpB, h3, Int.compare_eq_gt.2 h3]
theorem vl_leq {k : FloatKind} {x y : FV} {p q : Rat} (hx : Vl k x p) (hy : Vl k y q) : cmpB .leq (fcmp k x y) = decide (p ≤ q) := by
  obtain ⟨a, b, h, h1, h2⟩ := vl_cmp hx hy
  rw [h]
  have hh : (p ≤ q) = ¬ (b < a) := propext (by rw [← h2]; exact Rat.not_lt.symm)
  simp only [hh]
  rcases Int.lt_trichotomy a b with h3 | h3 | h3
  · have : ¬ b < a := by omega
    simp [cmpB, this, Int.compare_eq_lt.2 h3]
  · subst h3; simp [cmpB]
  · simp [cmpB, h3, Int.compare_eq_gt.2 h3]
theorem vl_geq {k : FloatKind} {x y : FV} {p q : Rat} (hx : Vl k x p) (hy : Vl k y q) : cmpB .geq (fcmp k x y) = decide (q ≤ p) := by
  obtain ⟨a, b, h, h1, h2⟩ := vl_cmp hx hy
  rw [h]
  have hh : (q ≤ p) = ¬ (a < b) := propext (by rw [← h1]; exact Rat.not_lt.symm)
  simp only [hh]
  rcases Int.lt_trichotomy a b with h3 | h3 | h3
  · simp [cmpB, h3, Int.compare_eq_lt.2 h3]
  · subst h3; simp [cmpB]
  · have : ¬ a < b := by omega
    simp [cmpB, this, Int.compare_eq_gt.2 h3]
theorem vl_eql {k : FloatKind} {x y : FV} {p q : Rat} (hx : Vl k x p) (hy : Vl k y q) : cmpB .eql (fcmp k x y) = decide (p = q) := by
  obtain ⟨a, b, h, h1, h2⟩ := vl_cmp hx hy
  rw [h]
  rcases Int.lt_trichotomy a b with h3 | h3 | h3
  · have : ¬ p = q := Rat.ne_of_lt (h1.2 h3)
    simp [cmpB, this, Int.compare_eq_lt.2 h3]
  · have : p = q := Rat.le_antisymm (Rat.not_lt.1 fun h4 => by have := h2.1 h4; omega) (Rat.not_lt.1 fun h4 => by have := h1.1 h4; omega)
    subst h3; simp [cmpB, this]
  · have : ¬ p = q := fun e => Rat.ne_of_lt (h2.2 h3) e.symm
    simp [cmpB, this, Int.compare_eq_gt.2 h3]
theorem vl_neq {k : FloatKind} {x y : FV} {p q : Rat} (hx : Vl k x p) (hy : Vl k y q) : cmpB .neq (fcmp k x y) = decide (p ≠ q) := by
  have h := vl_eql hx hy
  have : cmpB .neq (fcmp k x y) = !cmpB .eql (fcmp k x y) := rfl
  rw [this, h]
  by_cases h : p = q <;> simp [h]
theorem single_fit {b : Nat} {s : Bool} {m : Nat} {e : Int} (h : FloatKind.f32.decode b = .number s m e) : (m : Rat) * p2 e < p2 128 := by
  obtain ⟨h1, h2, h3⟩ := single_number h
  have h4 : (m : Rat) < ((2 ^ 24 : Nat) : Rat) := Rat.natCast_lt_natCast.2 h1
  have h5 := Rat.mul_lt_mul_of_pos_right h4 (p2_pos e)
  rw [p2_shl] at h5
  exact Std.lt_of_lt_of_le h5 (p2_le (by omega))
theorem vl_wide {x : FV} {p : Rat} (hx : Vl .f32 x p) : Vl .f64 (fconv .f32 .f64 x) p := by
  obtain ⟨b, s, m, e, rfl, hd, rfl⟩ := hx
  obtain ⟨h1, h2, h3⟩ := single_number hd
  have h4 := single_fit hd
  obtain ⟨m', e', h5, h6, h7⟩ := nearest_rnd .f64 s m e (Std.lt_of_lt_of_le h4 (p2_le (by decide)))
  have hrep : RepN .f64 ((m : Rat) * p2 e) := ⟨m, e, Nat.le_trans (Nat.le_of_lt h1) (by decide), Int.le_trans (by decide) h2, rfl⟩
  have heq : (m' : Rat) * p2 e' = (m : Rat) * p2 e := Rat.le_antisymm ((h7 _ hrep).1 Rat.le_refl) ((h7 _ hrep).2 Rat.le_refl)
  have hc : fconv .f32 .f64 (some b) = some (FloatKind.f64.format.nearest s m e) := by
    have h8 : FloatKind.f64.encode (.number s m e) = FloatKind.f64.format.nearest s m e := rfl
    simp only [fconv, Option.bind_some, floatToFloatBits, if_neg (by decide : ¬ FloatKind.f32 = FloatKind.f64), hd, h8]
    rw [if_neg]
    rw [h5]
    simp [Ieee.Datum.isInfinity]
  rw [hc]
  refine ⟨_, s, m', e', rfl, h5, ?_⟩
  unfold vl
  rw [heq]
theorem vl_narrow {x : FV} {p : Rat} (hx : Vl .f64 x p) (hf : Fit .f32 p) : ∃ r, Vl .f32 (fconv .f64 .f32 x) r ∧ Rnd .f32 p r := by
  obtain ⟨b, s, m, e, rfl, hd, rfl⟩ := hx
  obtain ⟨m', e', h5, h6, h7⟩ := nearest_rnd .f32 s m e hf.mag
  have hc : fconv .f64 .f32 (some b) = some (FloatKind.f32.format.nearest s m e) := by
    have h8 : FloatKind.f32.encode (.number s m e) = FloatKind.f32.format.nearest s m e := rfl
    simp only [fconv, Option.bind_some, floatToFloatBits, if_neg (by decide : ¬ FloatKind.f64 = FloatKind.f32), hd, h8]
    rw [if_neg]
    rw [h5]
    simp [Ieee.Datum.isInfinity]
  rw [hc]
  exact ⟨_, .of h5, h6⟩
theorem vl_narrow_ok {x : FV} {p : Rat} (hx : Vl .f64 x p) (hf : Fit .f32 p) : ConvOk .f64 .f32 x := by
  obtain ⟨r, h, _⟩ := vl_narrow hx hf
  exact .inr h.some
theorem vl_ofInt (k : FloatKind) (n : Int) (h : n.natAbs ≤ 2 ^ (k.format.fractionBits + 1)) : Vl k (some (k.nearest n)) (n : Rat) := by
  have hv := vl_int n 0
  rw [p2_zero, Rat.mul_one] at hv
  have hrep := rep_int k n h
  have hb : (((2 ^ (k.format.fractionBits + 1) : Nat)) : Rat) < p2 (ftop k) := by cases k <;> decide +kernel
  have hfit : (n.natAbs : Rat) * p2 0 < p2 (ftop k) := by
    rw [p2_zero, Rat.mul_one]
    exact Std.lt_of_le_of_lt (Rat.natCast_le_natCast.2 h) hb
  obtain ⟨m', e', h5, h6, _⟩ := nearest_rnd k (decide (n < 0)) n.natAbs 0 hfit
  rw [← hv] at h6
  have := rnd_rep h6 hrep
  exact ⟨_, _, m', e', rfl, h5, this⟩
theorem vl_fin {x : FV} {p : Rat} (hx : Vl .f32 x p) : cmpB .eql (fcmp .f32 (fbin .sub .f32 x x) (fv .f32 0)) = true := by
  have hz : p - p = 0 := Rat.sub_self
  obtain ⟨r, h1, h2⟩ := vl_sub hx hx (by rw [hz]; exact ⟨by decide +kernel, by decide +kernel⟩)
  rw [hz] at h2
  have hr := rnd_rep h2 (rep_zero _)
  subst hr
  rw [vl_eql h1 (Vl.c (b := 0) (q := 0) (by decide +kernel))]
  rfl
end Go.Ab
namespace Go.Ab
theorem swap_id (a b c e x y p0 p1 p2 : Rat) (h1 : c - a ≠ 0) (h2 : e - b ≠ 0) (h3 : c - b ≠ 0) :
    (1 - (y - b) / (c - b)) * ((1 - (x - a) / (c - a)) * p0 + (x - a) / (c - a) * p1) + (y - b) / (c - b) * ((1 - (x - b) / (e - b)) * p1 + (x - b) / (e - b) * p2) =
    (1 - (x - b) / (c - b)) * ((1 - (y - a) / (c - a)) * p0 + (y - a) / (c - a) * p1) + (x - b) / (c - b) * ((1 - (y - b) / (e - b)) * p1 + (y - b) / (e - b) * p2) := by
  simp only [Rat.div_def]
  have k1 := Rat.mul_inv_cancel _ h1
  have k2 := Rat.mul_inv_cancel _ h2
  have k3 := Rat.mul_inv_cancel _ h3
  generalize (c - a)⁻¹ = A at *
  generalize (e - b)⁻¹ = B at *
  generalize (c - b)⁻¹ = C at *
  grind
theorem low_id (k u e t p0 p1 : Rat) (h1 : u - k ≠ 0) (h2 : e - k ≠ 0) :
    (1 - (t - k) / (u - k)) * p0 + (t - k) / (u - k) * ((1 - (u - k) / (e - k)) * p0 + (u - k) / (e - k) * p1) = (1 - (t - k) / (e - k)) * p0 + (t - k) / (e - k) * p1 := by
  simp only [Rat.div_def]
  have k1 := Rat.mul_inv_cancel _ h1
  have k2 := Rat.mul_inv_cancel _ h2
  generalize (u - k)⁻¹ = A at *
  generalize (e - k)⁻¹ = B at *
  grind
theorem high_id (k u e t p0 p1 : Rat) (h1 : e - u ≠ 0) (h2 : e - k ≠ 0) :
    (1 - (t - u) / (e - u)) * ((1 - (u - k) / (e - k)) * p0 + (u - k) / (e - k) * p1) + (t - u) / (e - u) * p1 = (1 - (t - k) / (e - k)) * p0 + (t - k) / (e - k) * p1 := by
  simp only [Rat.div_def]
  have k1 := Rat.mul_inv_cancel _ h1
  have k2 := Rat.mul_inv_cancel _ h2
  generalize (e - u)⁻¹ = A at *
  generalize (e - k)⁻¹ = B at *
  grind
/-- The share at an index, for a degree. -/
def uuR (K : Int → Rat) (m : Int) (x : Rat) (j : Int) : Rat := (x - K j) / (K (j + m) - K j)
/-- Corners, cut once. -/
def dBR (K : Int → Rat) (m : Int) (x : Rat) (p : Int → Rat) (j : Int) : Rat := (1 - uuR K m x j) * p (j - 1) + uuR K m x j * p j
/-- Corners, cut for a degree and all below. -/
def deBR (K : Int → Rat) (t : Rat) : Nat → (Int → Rat) → Int → Rat
  | 0, p => p
  | m + 1, p => deBR K t m (dBR K ((m : Int) + 1) t p)
def MonoK (K : Int → Rat) : Prop := ∀ i j, i ≤ j → K i ≤ K j
theorem sub_nz {a b : Rat} (h : a < b) : b - a ≠ 0 := fun e => by grind
section
variable {K : Int → Rat} {t u : Rat} {p : Int → Rat}
theorem deBR_congr : ∀ (m : Nat) {p q : Int → Rat} {k : Int}, (∀ i, k - m ≤ i → i ≤ k → p i = q i) → deBR K t m p k = deBR K t m q k
  | 0, p, q, k, h => h k (by omega) (by omega)
  | m + 1, p, q, k, h => by
    refine deBR_congr m fun i h1 h2 => ?_
    unfold dBR
    rw [h (i - 1) (by omega) (by omega), h i (by omega) (by omega)]
theorem dBR_swap {m j : Int} (x y : Rat) (h1 : K (j - 1) < K (j + m - 1)) (h2 : K j < K (j + m)) (h3 : K j < K (j + m - 1)) : dBR K (m - 1) y (dBR K m x p) j = dBR K (m - 1) x (dBR K m y p) j := by
  unfold dBR uuR
  rw [show j + (m - 1) = j + m - 1 by omega, show j - 1 + m = j + m - 1 by omega]
  exact swap_id _ _ _ _ x y _ _ _ (sub_nz h1) (sub_nz h2) (sub_nz h3)
/-- A list of knots with one more. -/
def insK (K : Int → Rat) (k0 : Int) (u : Rat) (i : Int) : Rat := if i ≤ k0 then K i else if i = k0 + 1 then u else K (i - 1)
/-- The points that go with it. -/
def insP (K : Int → Rat) (k0 : Int) (u : Rat) (m : Int) (p : Int → Rat) (j : Int) : Rat := if j ≤ k0 - m then p j else if j ≤ k0 then dBR K m u p j else p (j - 1)
theorem insK_lo {k0 i : Int} (h : i ≤ k0) : insK K k0 u i = K i := if_pos h
theorem insK_at {k0 i : Int} (h : i = k0 + 1) : insK K k0 u i = u := by
  unfold insK
  rw [if_neg (by omega), if_pos h]
theorem insK_hi {k0 i : Int} (h : k0 + 2 ≤ i) : insK K k0 u i = K (i - 1) := by
  unfold insK
  rw [if_neg (by omega), if_neg (by omega)]
theorem insP_lo {k0 m j : Int} (h : j ≤ k0 - m) : insP K k0 u m p j = p j := if_pos h
theorem insP_mid {k0 m j : Int} (h : ¬ j ≤ k0 - m) (h2 : j ≤ k0) : insP K k0 u m p j = dBR K m u p j := by
  unfold insP
  rw [if_neg h, if_pos h2]
theorem insP_hi {k0 m j : Int} (hm : 0 ≤ m) (h : k0 + 1 ≤ j) : insP K k0 u m p j = p (j - 1) := by
  unfold insP
  rw [if_neg (by omega), if_neg (by omega)]
theorem insK_mono {k0 : Int} (hK : MonoK K) (h1 : K k0 ≤ u) (h2 : u ≤ K (k0 + 1)) : MonoK (insK K k0 u) := fun i j hij => by
  by_cases a : i ≤ k0
  · rw [insK_lo a]
    by_cases b : j ≤ k0
    · rw [insK_lo b]; exact hK i j hij
    · by_cases c : j = k0 + 1
      · rw [insK_at c]; exact Rat.le_trans (hK i k0 a) h1
      · rw [insK_hi (by omega)]; exact hK i (j - 1) (by omega)
  · by_cases b : i = k0 + 1
    · rw [insK_at b]
      by_cases c : j = k0 + 1
      · rw [insK_at c]; exact Rat.le_refl
      · rw [insK_hi (by omega)]; exact Rat.le_trans h2 (hK (k0 + 1) (j - 1) (by omega))
    · rw [insK_hi (by omega), insK_hi (by omega)]
      exact hK (i - 1) (j - 1) (by omega)
/-- One cut behind a knot put in. -/
theorem ins_level {k0 m j : Int} (hm : 1 ≤ m) (hK : MonoK K) (h1 : K k0 ≤ u) (h2 : u < K (k0 + 1)) (hn : insK K k0 u j < insK K k0 u (j + m)) :
    dBR (insK K k0 u) m t (insP K k0 u m p) j = insP K k0 u (m - 1) (dBR K m t p) j := by
  by_cases a : j ≤ k0 - m
  · rw [insP_lo (by omega : j ≤ k0 - (m - 1))]
    unfold dBR uuR
    rw [insK_lo (by omega), insK_lo (by omega), insP_lo (by omega), insP_lo (by omega)]
  by_cases b : j = k0 - m + 1
  · rw [insP_lo (by omega : j ≤ k0 - (m - 1))]
    rw [insK_lo (by omega), insK_at (by omega)] at hn
    unfold dBR uuR
    rw [insK_lo (by omega : j ≤ k0), insK_at (by omega : j + m = k0 + 1), insP_lo (by omega : j - 1 ≤ k0 - m), insP_mid (by omega) (by omega)]
    unfold dBR uuR
    have hlt : K j < K (j + m) := by
      rw [show j + m = k0 + 1 by omega]
      exact Std.lt_trans hn h2
    exact low_id (K j) u (K (j + m)) t _ _ (sub_nz hn) (sub_nz hlt)
  by_cases c : j ≤ k0
  · rw [insP_mid (by omega) c]
    rw [insK_lo c, insK_hi (by omega)] at hn
    have e : dBR (insK K k0 u) m t (insP K k0 u m p) j = dBR K (m - 1) t (dBR K m u p) j := by
      show (1 - uuR (insK K k0 u) m t j) * insP K k0 u m p (j - 1) + uuR (insK K k0 u) m t j * insP K k0 u m p j = (1 - uuR K (m - 1) t j) * dBR K m u p (j - 1) + uuR K (m - 1) t j * dBR K m u p j
      rw [insP_mid (by omega) (by omega), insP_mid (by omega) (by omega)]
      unfold uuR
      rw [insK_lo c, insK_hi (by omega), show j + (m - 1) = j + m - 1 by omega]
    rw [e]
    exact dBR_swap u t (Std.lt_of_le_of_lt (hK (j - 1) j (by omega)) hn) (Std.lt_of_lt_of_le hn (hK (j + m - 1) (j + m) (by omega))) hn
  by_cases d : j = k0 + 1
  · subst d
    rw [insP_hi (by omega) (by omega)]
    rw [insK_at rfl, insK_hi (by omega)] at hn
    unfold dBR uuR
    rw [insK_at rfl, insK_hi (by omega), show k0 + 1 - 1 = k0 by omega, insP_mid (by omega) (by omega), insP_hi (by omega) (by omega), show k0 + 1 - 1 = k0 by omega]
    unfold dBR uuR
    rw [show k0 + 1 + m - 1 = k0 + m by omega] at hn ⊢
    exact high_id (K k0) u (K (k0 + m)) t _ _ (sub_nz hn) (sub_nz (Std.lt_of_le_of_lt h1 hn))
  · rw [insP_hi (by omega) (by omega)]
    unfold dBR uuR
    rw [insK_hi (by omega), insK_hi (by omega), insP_hi (by omega) (by omega), insP_hi (by omega) (by omega), show j - 1 + m = j + m - 1 by omega]
theorem ins_deB {k0 k : Int} (hK : MonoK K) (h1 : K k0 ≤ u) (h2 : u < K (k0 + 1)) (hn : insK K k0 u k < insK K k0 u (k + 1)) :
    ∀ (m : Nat) (p : Int → Rat), deBR (insK K k0 u) t m (insP K k0 u m p) k = insP K k0 u 0 (deBR K t m p) k
  | 0, p => rfl
  | m + 1, p => by
    have hM := insK_mono hK h1 (Rat.le_of_lt h2)
    have e : deBR (insK K k0 u) t (m + 1) (insP K k0 u ((m + 1 : Nat) : Int) p) k = deBR (insK K k0 u) t m (insP K k0 u (m : Int) (dBR K ((m : Int) + 1) t p)) k := by
      show deBR (insK K k0 u) t m (dBR (insK K k0 u) ((m : Int) + 1) t (insP K k0 u ((m : Int) + 1) p)) k = _
      refine deBR_congr m fun i a b => ?_
      have := ins_level (p := p) (t := t) (m := (m : Int) + 1) (j := i) (by omega) hK h1 h2 (Std.lt_of_le_of_lt (hM i k b) (Std.lt_of_lt_of_le hn (hM (k + 1) (i + ((m : Int) + 1)) (by omega))))
      rw [this, show (m : Int) + 1 - 1 = m by omega]
    rw [e]
    exact ins_deB hK h1 h2 hn m (dBR K ((m : Int) + 1) t p)
/-- A point at a time is the same behind a knot put in. -/
theorem ins_low {k0 k : Int} (hK : MonoK K) (h1 : K k0 ≤ u) (h2 : u < K (k0 + 1)) (hn : insK K k0 u k < insK K k0 u (k + 1)) (m : Nat) (hk : k ≤ k0) : deBR (insK K k0 u) t m (insP K k0 u m p) k = deBR K t m p k := by
  rw [ins_deB hK h1 h2 hn m p, insP_lo (by omega)]
theorem ins_high {k0 k : Int} (hK : MonoK K) (h1 : K k0 ≤ u) (h2 : u < K (k0 + 1)) (hn : insK K k0 u k < insK K k0 u (k + 1)) (m : Nat) (hk : k0 + 1 ≤ k) : deBR (insK K k0 u) t m (insP K k0 u m p) k = deBR K t m p (k - 1) := by
  rw [ins_deB hK h1 h2 hn m p, insP_hi (by omega) hk]
end
def sumQ (s : Nat → Rat) : Nat → Rat
  | 0 => 0
  | i + 1 => sumQ s i + s i
/-- The shares for a degree. -/
def shB (K : Int → Rat) (k : Int) (t : Rat) : Nat → Nat → Rat
  | 0, i => if i = 0 then 1 else 0
  | r + 1, i => (if i < r + 1 then shB K k t r i * (1 - uuR K ((r : Int) + 1) t (k - r + i)) else 0) + (if 0 < i then shB K k t r (i - 1) * uuR K ((r : Int) + 1) t (k - r + (i - 1 : Nat)) else 0)
theorem sh_step {K : Int → Rat} {k : Int} {t : Rat} (p : Int → Rat) (r : Nat) : sumQ (fun i => shB K k t (r + 1) i * p (k - (r + 1 : Nat) + i)) (r + 2) = sumQ (fun i => shB K k t r i * dBR K ((r : Int) + 1) t p (k - r + i)) (r + 1) := by
  have key : ∀ q : Nat, q ≤ r → sumQ (fun i => shB K k t (r + 1) i * p (k - (r + 1 : Nat) + i)) (q + 1) + shB K k t r q * uuR K ((r : Int) + 1) t (k - r + q) * p (k - r + q) = sumQ (fun i => shB K k t r i * dBR K ((r : Int) + 1) t p (k - r + i)) (q + 1) := by
    intro q
    induction q with
    | zero =>
      intro _
      have e1 : k - (r : Int) + (0 : Nat) - 1 = k - (r + 1 : Nat) + (0 : Nat) := by omega
      have e2 : shB K k t (r + 1) 0 = shB K k t r 0 * (1 - uuR K ((r : Int) + 1) t (k - r + (0 : Nat))) := by
        show (if 0 < r + 1 then shB K k t r 0 * (1 - uuR K ((r : Int) + 1) t (k - r + (0 : Nat))) else 0) + (if 0 < 0 then _ else 0) = _
        rw [if_pos (by omega), if_neg (by omega), Rat.add_zero]
      simp only [sumQ, dBR]
      rw [e1, e2]
      grind
    | succ q ih =>
      intro hq
      have hi := ih (by omega)
      have e1 : k - (r : Int) + ((q + 1 : Nat) : Int) - 1 = k - (r + 1 : Nat) + ((q + 1 : Nat) : Int) := by omega
      have e3 : k - (r + 1 : Nat) + ((q + 1 : Nat) : Int) = k - (r : Int) + (q : Nat) := by omega
      have e2 : shB K k t (r + 1) (q + 1) = shB K k t r (q + 1) * (1 - uuR K ((r : Int) + 1) t (k - r + ((q + 1 : Nat) : Int))) + shB K k t r q * uuR K ((r : Int) + 1) t (k - r + (q : Nat)) := by
        show (if q + 1 < r + 1 then shB K k t r (q + 1) * (1 - uuR K ((r : Int) + 1) t (k - r + ((q + 1 : Nat) : Int))) else 0) + (if 0 < q + 1 then shB K k t r (q + 1 - 1) * uuR K ((r : Int) + 1) t (k - r + (q + 1 - 1 : Nat)) else 0) = _
        rw [if_pos (by omega), if_pos (by omega), show q + 1 - 1 = q by omega]
      rw [show sumQ (fun i => shB K k t (r + 1) i * p (k - (r + 1 : Nat) + i)) (q + 1 + 1) = sumQ (fun i => shB K k t (r + 1) i * p (k - (r + 1 : Nat) + i)) (q + 1) + shB K k t (r + 1) (q + 1) * p (k - (r + 1 : Nat) + ((q + 1 : Nat) : Int)) from rfl,
        show sumQ (fun i => shB K k t r i * dBR K ((r : Int) + 1) t p (k - r + i)) (q + 1 + 1) = sumQ (fun i => shB K k t r i * dBR K ((r : Int) + 1) t p (k - r + i)) (q + 1) + shB K k t r (q + 1) * dBR K ((r : Int) + 1) t p (k - r + ((q + 1 : Nat) : Int)) from rfl, ← hi, e2]
      unfold dBR
      rw [e1, e3]
      grind
  have h := key r (Nat.le_refl r)
  rw [← h]
  have e2 : shB K k t (r + 1) (r + 1) = shB K k t r r * uuR K ((r : Int) + 1) t (k - r + (r : Nat)) := by
    show (if r + 1 < r + 1 then _ else 0) + (if 0 < r + 1 then shB K k t r (r + 1 - 1) * uuR K ((r : Int) + 1) t (k - r + (r + 1 - 1 : Nat)) else 0) = _
    rw [if_neg (by omega), if_pos (by omega), show r + 1 - 1 = r by omega, Rat.zero_add]
  rw [show sumQ (fun i => shB K k t (r + 1) i * p (k - (r + 1 : Nat) + i)) (r + 2) = sumQ (fun i => shB K k t (r + 1) i * p (k - (r + 1 : Nat) + i)) (r + 1) + shB K k t (r + 1) (r + 1) * p (k - (r + 1 : Nat) + ((r + 1 : Nat) : Int)) from rfl, e2, show k - (r + 1 : Nat) + ((r + 1 : Nat) : Int) = k - (r : Int) + (r : Nat) by omega]
/-- The shares, times the points, are the point. -/
theorem sh_deB {K : Int → Rat} {k : Int} {t : Rat} : ∀ (d : Nat) (p : Int → Rat), sumQ (fun i => shB K k t d i * p (k - d + i)) (d + 1) = deBR K t d p k
  | 0, p => by
    show 0 + (if (0 : Nat) = 0 then (1 : Rat) else 0) * p (k - ((0 : Nat) : Int) + ((0 : Nat) : Int)) = p k
    rw [if_pos rfl, show k - ((0 : Nat) : Int) + ((0 : Nat) : Int) = k by omega]
    grind
  | d + 1, p => by
    rw [sh_step p d]
    exact sh_deB d (dBR K ((d : Int) + 1) t p)
theorem dBR_one {K : Int → Rat} {m : Int} {x : Rat} (c : Rat) : dBR K m x (fun _ => c) = fun _ => c := funext fun j => by
  unfold dBR
  grind
theorem deBR_one {K : Int → Rat} {t : Rat} (c : Rat) : ∀ m, deBR K t m (fun _ => c) = fun _ => c
  | 0 => rfl
  | m + 1 => by
    show deBR K t m (dBR K ((m : Int) + 1) t fun _ => c) = _
    rw [dBR_one]
    exact deBR_one c m
theorem sh_one {K : Int → Rat} {k : Int} {t : Rat} (d : Nat) : sumQ (fun i => shB K k t d i) (d + 1) = 1 := by
  have h := sh_deB (K := K) (k := k) (t := t) d (fun _ => 1)
  rw [deBR_one] at h
  simpa using h
theorem uuR_unit {K : Int → Rat} {x : Rat} {n j : Int} (h0 : K j ≤ x) (h1 : x ≤ K (j + n)) (hlt : K j < K (j + n)) : 0 ≤ uuR K n x j ∧ uuR K n x j ≤ 1 := by
  have hd : 0 < K (j + n) - K j := by grind
  have hi := Rat.le_of_lt (Rat.inv_pos.2 hd)
  have a := Rat.mul_nonneg (show (0 : Rat) ≤ x - K j by grind) hi
  have b := Rat.mul_nonneg (show (0 : Rat) ≤ K (j + n) - x by grind) hi
  have c := Rat.mul_inv_cancel _ (sub_nz hlt)
  unfold uuR
  rw [Rat.div_def]
  generalize (K (j + n) - K j)⁻¹ = D at *
  constructor <;> grind
end Go.Ab
namespace Go.Ab
/-- What is known of a value. -/
inductive AV where
  | f (k : FloatKind) (x : FV)
  | c (k : FloatKind) (x y : FV)
  | raw (v : Value)
  | agg (l : List AV)
  | tup (l : List AV)
  /-- a predicate of the value alone -/
  | q (φ : Value → Prop)
  /-- a predicate that stands while nothing that was there is written -/
  | p (φ : World → Value → Prop)
  deriving Inhabited

/-- What was there stands; blocks may have been added, answers drawn. -/
def Ext (w w' : World) : Prop := RowKit.Below w.heap.size w w'
theorem Ext.refl (w : World) : Ext w w := RowKit.Below.refl _ _
theorem Ext.trans {a b c : World} (h : Ext a b) (k : Ext b c) : Ext a c := RowKit.Below.trans h (RowKit.Below.mono k h.size)
theorem Ext.of_quiet {w w' : World} (h : Quiet w w') : Ext w w' := by
  rcases h with rfl | rfl
  · exact Ext.refl _
  · exact ⟨rfl, rfl, rfl, Nat.le_refl _, fun _ _ => rfl⟩
theorem Ext.alloc (w : World) (o : Obj) : Ext w (w.alloc o) := RowKit.Below.alloc (RowKit.Below.refl _ _) (Nat.le_refl _) o
theorem Ext.cell {w w' : World} (h : Ext w w') {a : Addr} {v : Value} (hc : w.cell? a = some v) : w'.cell? a = some v := by
  have hlt : a.block < w.heap.size := by
    unfold World.cell? at hc
    split at hc
    · rename_i hb; exact (Array.getElem?_eq_some_iff.1 hb).1
    · cases hc
  rw [RowKit.Below.cell h hlt]; exact hc
theorem Ext.block {w w' : World} (h : Ext w w') {b : Nat} {o : Obj} (hb : w.heap[b]? = some o) : w'.heap[b]? = some o := by
  have hlt : b < w.heap.size := (Array.getElem?_eq_some_iff.1 hb).1
  rw [RowKit.Below.block h b hlt]; exact hb

def Mono (φ : World → Value → Prop) : Prop := ∀ w w' v, Ext w w' → φ w v → φ w' v

mutual
inductive Rel (w : World) : AV → Value → Prop
  | f {k : FloatKind} {b : Nat} : b < 2 ^ k.format.width → Rel w (.f k (fv k b)) (.float k b)
  | c {k : FloatKind} {a b : Nat} : a < 2 ^ k.format.width → b < 2 ^ k.format.width → Rel w (.c k (fv k a) (fv k b)) (.complex k a b)
  | raw {v : Value} : Rel w (.raw v) v
  | agg {l : List AV} {vs : List Value} : RelL w l vs → Rel w (.agg l) (.agg vs.toArray)
  | tup {l : List AV} {vs : List Value} : RelL w l vs → Rel w (.tup l) (.tuple vs.toArray)
  | q {φ : Value → Prop} {v : Value} : φ v → Rel w (.q φ) v
  | p {φ : World → Value → Prop} {v : Value} : Mono φ → φ w v → Rel w (.p φ) v
inductive RelL (w : World) : List AV → List Value → Prop
  | nil : RelL w [] []
  | cons {a : AV} {v : Value} {l : List AV} {vs : List Value} : Rel w a v → RelL w l vs → RelL w (a :: l) (v :: vs)
end
theorem Rel.f' {w : World} {k : FloatKind} {b : Nat} {x : FV} (hb : b < 2 ^ k.format.width) (h : fv k b = x) : Rel w (.f k x) (.float k b) := by
  subst h; exact .f hb
theorem Rel.c' {w : World} {k : FloatKind} {a b : Nat} {x y : FV} (ha : a < 2 ^ k.format.width) (hb : b < 2 ^ k.format.width) (h : fv k a = x) (h' : fv k b = y) : Rel w (.c k x y) (.complex k a b) := by
  subst h; subst h'; exact .c ha hb
theorem Rel.inv_f {w : World} {k : FloatKind} {x : FV} {v : Value} (h : Rel w (.f k x) v) : ∃ b, v = .float k b ∧ fv k b = x ∧ b < 2 ^ k.format.width := by
  cases h; exact ⟨_, rfl, rfl, by assumption⟩
theorem Rel.inv_c {w : World} {k : FloatKind} {x y : FV} {v : Value} (h : Rel w (.c k x y) v) : ∃ a b, v = .complex k a b ∧ fv k a = x ∧ fv k b = y ∧ a < 2 ^ k.format.width ∧ b < 2 ^ k.format.width := by
  cases h; exact ⟨_, _, rfl, rfl, rfl, by assumption, by assumption⟩
theorem Rel.inv_raw {w : World} {u v : Value} (h : Rel w (.raw u) v) : v = u := by cases h; rfl
theorem Rel.inv_agg {w : World} {l : List AV} {v : Value} (h : Rel w (.agg l) v) : ∃ vs, v = .agg vs.toArray ∧ RelL w l vs := by
  cases h; exact ⟨_, rfl, by assumption⟩
theorem Rel.inv_tup {w : World} {l : List AV} {v : Value} (h : Rel w (.tup l) v) : ∃ vs, v = .tuple vs.toArray ∧ RelL w l vs := by
  cases h; exact ⟨_, rfl, by assumption⟩
theorem Rel.inv_q {w : World} {φ : Value → Prop} {v : Value} (h : Rel w (.q φ) v) : φ v := by cases h; assumption
theorem Rel.inv_p {w : World} {φ : World → Value → Prop} {v : Value} (h : Rel w (.p φ) v) : Mono φ ∧ φ w v := by cases h; exact ⟨by assumption, by assumption⟩
theorem RelL.inv_nil {w : World} {vs : List Value} (h : RelL w [] vs) : vs = [] := by cases h; rfl
theorem RelL.inv_cons {w : World} {a : AV} {l : List AV} {vs : List Value} (h : RelL w (a :: l) vs) : ∃ v r, vs = v :: r ∧ Rel w a v ∧ RelL w l r := by
  cases h; exact ⟨_, _, rfl, by assumption, by assumption⟩
theorem RelL.length {w : World} : ∀ {l : List AV} {vs : List Value}, RelL w l vs → vs.length = l.length
  | [], _, h => by rw [h.inv_nil]; rfl
  | _ :: _, _, h => by obtain ⟨v, r, rfl, _, hr⟩ := h.inv_cons; simp [hr.length]
theorem RelL.get {w : World} : ∀ {l : List AV} {vs : List Value}, RelL w l vs → ∀ {i : Nat} {a : AV}, l[i]? = some a → ∃ v, vs[i]? = some v ∧ Rel w a v
  | [], _, _, i, a, hi => by simp at hi
  | x :: l, _, h, i, a, hi => by
    obtain ⟨v, r, rfl, hv, hr⟩ := h.inv_cons
    cases i with
    | zero => simp at hi; subst hi; exact ⟨v, rfl, hv⟩
    | succ i => simp at hi; obtain ⟨u, hu, hru⟩ := hr.get hi; exact ⟨u, by simpa using hu, hru⟩
theorem RelL.of_get {w : World} : ∀ {l : List AV} {vs : List Value}, vs.length = l.length → (∀ (i : Nat) (a : AV) (v : Value), l[i]? = some a → vs[i]? = some v → Rel w a v) → RelL w l vs
  | [], [], _, _ => .nil
  | [], _ :: _, h, _ => by simp at h
  | _ :: _, [], h, _ => by simp at h
  | a :: l, v :: vs, h, hg => .cons (hg 0 a v rfl rfl) (RelL.of_get (by simpa using h) fun i a v h1 h2 => hg (i + 1) a v (by simpa using h1) (by simpa using h2))
mutual
theorem Rel.ext {w w' : World} (hw : Ext w w') : ∀ {a : AV} {v : Value}, Rel w a v → Rel w' a v
  | _, _, .f h => .f h
  | _, _, .c h k => .c h k
  | _, _, .raw => .raw
  | _, _, .agg h => .agg (RelL.ext hw h)
  | _, _, .tup h => .tup (RelL.ext hw h)
  | _, _, .q h => .q h
  | _, _, .p m h => .p m (m _ _ _ hw h)
theorem RelL.ext {w w' : World} (hw : Ext w w') : ∀ {l : List AV} {vs : List Value}, RelL w l vs → RelL w' l vs
  | _, _, .nil => .nil
  | _, _, .cons h k => .cons (Rel.ext hw h) (RelL.ext hw k)
end
-- No part of it speaks of a world.
mutual
def AV.still : AV → Bool
  | .f .. | .c .. | .raw _ | .q _ => true
  | .agg l => AV.stillL l
  | .tup l => AV.stillL l
  | .p _ => false
def AV.stillL : List AV → Bool
  | [] => true
  | a :: l => a.still && AV.stillL l
end
mutual
theorem Rel.any {w w' : World} : ∀ {a : AV} {v : Value}, a.still = true → Rel w a v → Rel w' a v
  | _, _, _, .f h => .f h
  | _, _, _, .c h k => .c h k
  | _, _, _, .raw => .raw
  | _, _, hs, .agg h => .agg (RelL.any (by simpa only [AV.still] using hs) h)
  | _, _, hs, .tup h => .tup (RelL.any (by simpa only [AV.still] using hs) h)
  | _, _, _, .q h => .q h
  | _, _, hs, .p m h => by simp [AV.still] at hs
theorem RelL.any {w w' : World} : ∀ {l : List AV} {vs : List Value}, AV.stillL l = true → RelL w l vs → RelL w' l vs
  | _, _, _, .nil => .nil
  | _, _, hs, .cons h k => .cons (Rel.any (by simp only [AV.stillL, Bool.and_eq_true] at hs; exact hs.1) h) (RelL.any (by simp only [AV.stillL, Bool.and_eq_true] at hs; exact hs.2) k)
end
/-- A constant of the program's text. -/
def cv1 : Value → AV
  | .float k b => .f k (fv k b)
  | .complex k a b => .c k (fv k a) (fv k b)
  | v => .raw v
def cv : Value → AV
  | .float k b => .f k (fv k b)
  | .complex k a b => .c k (fv k a) (fv k b)
  | .agg cs => .agg (cs.toList.map cv1)
  | v => .raw v
/-- Its floats fit their kinds. -/
def okv1 : Value → Bool
  | .float k b => b < 2 ^ k.format.width
  | .complex k a b => a < 2 ^ k.format.width && b < 2 ^ k.format.width
  | _ => true
def okv : Value → Bool
  | .agg cs => cs.toList.all okv1
  | v => okv1 v
theorem rel_cv1 (w : World) (v : Value) (h : okv1 v = true) : Rel w (cv1 v) v := by
  cases v <;> first | exact .raw | (simp [okv1] at h; exact .f h) | (simp [okv1] at h; exact .c h.1 h.2)
theorem rell_cv1 (w : World) : ∀ (l : List Value), (∀ x ∈ l, okv1 x = true) → RelL w (l.map cv1) l
  | [], _ => .nil
  | v :: l, h => .cons (rel_cv1 w v (h v (by simp))) (rell_cv1 w l fun x hx => h x (by simp [hx]))
theorem rel_cv (w : World) (v : Value) (h : okv v = true) : Rel w (cv v) v := by
  cases v <;> first | exact .raw | (simp [okv, okv1] at h; exact .f h) | (simp [okv, okv1] at h; exact .c h.1 h.2) | skip
  rename_i cs
  have : Rel w (.agg (cs.toList.map cv1)) (.agg cs.toList.toArray) := .agg (rell_cv1 w cs.toList (List.all_eq_true.1 h))
  simpa [cv] using this

/-- The slots that are known. -/
abbrev Env := List (Nat × AV)
def Env.look : Env → Nat → Option AV
  | [], _ => none
  | (d, v) :: r, t => match Nat.beq d t with
    | true => some v
    | false => Env.look r t
def Env.put (e : Env) (dst : Option Tmp) (v : AV) : Env := match dst with
  | some d => (d, v) :: e
  | none => e
def Env.ev (e : Env) : Operand → Option AV
  | .tmp t => e.look t
  | .const v => if okv v then some (cv v) else none
  | .global g => some (.raw (.pointer (some ⟨g, 0, none⟩)))
  | .func f => some (.raw (.func (.func f) #[] #[]))
/-- A frame of N slots in which the known slots are as known. -/
structure Fr (N : Nat) (e : Env) (a : Act) (w : World) : Prop where
  defers : a.defers = []
  size : a.tmps.size = N
  rel : ∀ t v, e.look t = some v → ∃ u, a.tmps[t]? = some u ∧ Rel w v u
theorem Fr.ext {N : Nat} {e : Env} {a : Act} {w w' : World} (h : Fr N e a w) (hw : Ext w w') : Fr N e a w' :=
  ⟨h.defers, h.size, fun t v ht => let ⟨u, hu, hr⟩ := h.rel t v ht; ⟨u, hu, hr.ext hw⟩⟩
theorem Fr.put {N : Nat} {e : Env} {a : Act} {w : World} {v : AV} {u : Value} (dst : Option Tmp) (h : Fr N e a w) (hd : ∀ d, dst = some d → d < N) (hr : Rel w v u) : Fr N (e.put dst v) (a.put dst u) w := by
  cases dst with
  | none => exact h
  | some d =>
    refine ⟨h.defers, by simp [Act.put, h.size], fun t x ht => ?_⟩
    simp only [Env.put, Env.look] at ht
    cases hb : Nat.beq d t with
    | true =>
      have : d = t := Nat.eq_of_beq_eq_true hb
      subst this
      simp only [hb, Option.some.injEq] at ht
      subst ht
      exact ⟨u, by simp [Act.put, h.size, hd d rfl], hr⟩
    | false =>
      have hne : d ≠ t := fun e => by subst e; simp at hb
      simp only [hb] at ht
      obtain ⟨y, hy, hry⟩ := h.rel t x ht
      exact ⟨y, by simp [Act.put, Array.getElem?_setIfInBounds_ne hne, hy], hry⟩
theorem Fr.eval {N : Nat} {e : Env} {a : Act} {w : World} (h : Fr N e a w) {x : Operand} {v : AV} (hx : e.ev x = some v) : Rel w v (a.eval x) := by
  cases x with
  | tmp t =>
    obtain ⟨u, hu, hr⟩ := h.rel t v hx
    have : a.eval (.tmp t) = u := by simp [Act.eval, hu]
    rw [this]; exact hr
  | const c =>
    simp only [Env.ev] at hx
    split at hx
    · rename_i ho; cases hx; exact rel_cv w c ho
    · cases hx
  | global g => cases hx; exact .raw
  | func f => cases hx; exact .raw
/-- What is known is forgotten. -/
def Env.sub (e' e : Env) : Prop := ∀ t v, e'.look t = some v → e.look t = some v
theorem Fr.sub {N : Nat} {e e' : Env} {a : Act} {w : World} (h : Fr N e a w) (hs : Env.sub e' e) : Fr N e' a w :=
  ⟨h.defers, h.size, fun t v ht => h.rel t v (hs t v ht)⟩
theorem Env.sub_nil (e : Env) : Env.sub [] e := fun _ _ h => by cases h
theorem Env.sub_cons {e e' : Env} {d : Nat} {v : AV} (h : e.look d = some v) (hs : Env.sub e' e) : Env.sub ((d, v) :: e') e := fun t x ht => by
  simp only [Env.look] at ht
  cases hb : Nat.beq d t with
  | true => simp only [hb, Option.some.injEq] at ht; rw [← Nat.eq_of_beq_eq_true hb, h, ht]
  | false => simp only [hb] at ht; exact hs t x ht
/-- A predicate of worlds that stands while nothing that was there is written. -/
class Cl (S : World → Prop) : Prop where
  ext : ∀ {w w'}, S w → Ext w w' → S w'

section
variable {P : Program} {N : Nat} {S : World → Prop}
/-- One operation gives what is said, wherever S holds and the operands are as known; nothing that was there is written. -/
def OpJ (P : Program) (S : World → Prop) (e : Env) (o : Oper) (v : AV) : Prop :=
  ∀ (a : Act) (w : World) (K : Act → World → Prop) (Q : Exit → Act → World → Prop), S w →
    (∀ x ∈ o.op.operands.toList, ∀ y, e.ev x = some y → Rel w y (a.eval x)) →
    (∀ u w', Ext w w' → Rel w' v u → K (a.put o.dst u) w') → o.wp P a w K Q

theorem opj_value {e : Env} {o : Oper} {v : AV}
    (h : ∀ (a : Act) (w : World), S w → (∀ x ∈ o.op.operands.toList, ∀ y, e.ev x = some y → Rel w y (a.eval x)) →
      ∃ u w', (execOp a.eval o).run P w = .ok (.value u) w' ∧ Ext w w' ∧ Rel w' v u) : OpJ P S e o v := by
  intro a w K Q hS hx hK
  obtain ⟨u, w', hr, hw, hu⟩ := h a w hS hx
  unfold Oper.wp
  rw [hr]
  exact hK u w' hw hu
end
end Go.Ab
namespace Go.Ab
/-- The value is as said in whatever world. -/
def Ev (x : AV) (u : Value) : Prop := ∀ w, Rel w x u
theorem Rel.ev {w : World} {x : AV} {u : Value} (h : Rel w x u) (hs : x.still = true) : Ev x u := fun _ => h.any hs
theorem ev_raw (v : Value) : Ev (.raw v) v := fun _ => .raw

/-- A block of cells of which the first are known. -/
structure Ent where
  g : Nat
  T : TypeId
  xs : List AV
  csz : Nat
def OwnE (w : World) (e : Ent) : Prop :=
  ∃ cur : Array Value, w.heap[e.g]? = some (.cells cur e.T (0, 0)) ∧ cur.size = e.csz ∧ ∀ (i : Nat) (x : AV), e.xs[i]? = some x → ∃ u, cur[i]? = some u ∧ Ev x u
theorem OwnE.lt {w : World} {e : Ent} (h : OwnE w e) : e.g < w.heap.size := by
  obtain ⟨cur, hb, _⟩ := h
  exact (Array.getElem?_eq_some_iff.1 hb).1
theorem OwnE.ext {w w' : World} {e : Ent} (h : OwnE w e) (hw : Ext w w') : OwnE w' e := by
  obtain ⟨cur, hb, r⟩ := h
  exact ⟨cur, hw.block hb, r⟩
theorem OwnE.of_heap {w w' : World} {e : Ent} (h : OwnE w e) (hw : w'.heap[e.g]? = w.heap[e.g]?) : OwnE w' e := by
  obtain ⟨cur, hb, r⟩ := h
  exact ⟨cur, by rw [hw]; exact hb, r⟩
theorem OwnE.cell {w : World} {e : Ent} (h : OwnE w e) {i : Nat} {x : AV} (hx : e.xs[i]? = some x) : ∃ u, w.cell? ⟨e.g, i, none⟩ = some u ∧ Ev x u := by
  obtain ⟨cur, hb, _, hc⟩ := h
  obtain ⟨u, hu, hev⟩ := hc i x hx
  exact ⟨u, by simp [World.cell?, hb, hu], hev⟩
theorem OwnE.frozen {w : World} {e : Ent} (h : OwnE w e) (i : Nat) : w.frozen? ⟨e.g, i, none⟩ = false := by
  obtain ⟨cur, hb, _⟩ := h
  simp [World.frozen?, hb]

/-- A readable slice: its cells, one behind the other ('sz' cells an element). -/
def Rd (w : World) (sz : Nat) (v : Value) (xs : List AV) : Prop :=
  ∃ a len cap, v = .slice a len cap ∧ xs.length = len * sz ∧ len ≤ cap ∧ cap ≤ maxLen ∧
    ∀ (i : Nat) (x : AV), xs[i]? = some x → ∃ b : Addr, a = some b ∧ b.spot = none ∧ ∃ u, w.cell? ⟨b.block, b.off + i, none⟩ = some u ∧ Ev x u
theorem Rd.ext {w w' : World} {sz : Nat} {v : Value} {xs : List AV} (h : Rd w sz v xs) (hw : Ext w w') : Rd w' sz v xs := by
  obtain ⟨a, len, cap, hv, hl, hc, hm, h⟩ := h
  refine ⟨a, len, cap, hv, hl, hc, hm, fun i x hx => ?_⟩
  obtain ⟨b, ha, hs, u, hu, hev⟩ := h i x hx
  exact ⟨b, ha, hs, u, hw.cell hu, hev⟩
/-- A slice that came in, readable when the call began. -/
def AV.sl (w : World) (sz : Nat) (xs : List AV) : AV := .q fun v => Rd w sz v xs

/-- A readable place: its cells. -/
def PtrTo (xs : List AV) (w : World) (v : Value) : Prop :=
  ∃ b : Addr, v = .pointer (some b) ∧ b.spot = none ∧ ∀ (i : Nat) (x : AV), xs[i]? = some x → ∃ u, w.cell? ⟨b.block, b.off + i, none⟩ = some u ∧ Ev x u
theorem mono_ptrTo (xs : List AV) : Mono (PtrTo xs) := by
  intro w w' v hw ⟨b, hv, hs, h⟩
  refine ⟨b, hv, hs, fun i x hx => ?_⟩
  obtain ⟨u, hu, hev⟩ := h i x hx
  exact ⟨u, hw.cell hu, hev⟩
def AV.ptr (xs : List AV) : AV := .p (PtrTo xs)

/-- Nothing that was there has turned but the blocks of a list. -/
structure Mod (w w' : World) (gs : List Nat) : Prop where
  os : w'.os = w.os
  tape : w'.tape = w.tape
  output : w'.output = w.output
  size : w.heap.size ≤ w'.heap.size
  block : ∀ k, k < w.heap.size → k ∉ gs → w'.heap[k]? = w.heap[k]?
theorem Mod.refl (w : World) (gs : List Nat) : Mod w w gs := ⟨rfl, rfl, rfl, Nat.le_refl _, fun _ _ _ => rfl⟩
theorem Mod.ext {a b c : World} {gs : List Nat} (h : Mod a b gs) (k : Ext b c) : Mod a c gs :=
  ⟨k.os.trans h.os, k.tape.trans h.tape, k.output.trans h.output, Nat.le_trans h.size k.size, fun i hi hn => (RowKit.Below.block k i (Nat.lt_of_lt_of_le hi h.size)).trans (h.block i hi hn)⟩
theorem Mod.trans {a b c : World} {gs ks : List Nat} (h : Mod a b gs) (k : Mod b c ks) (hk : ∀ i ∈ ks, i ∈ gs ∨ a.heap.size ≤ i) : Mod a c gs :=
  ⟨k.os.trans h.os, k.tape.trans h.tape, k.output.trans h.output, Nat.le_trans h.size k.size, fun i hi hn => (k.block i (Nat.lt_of_lt_of_le hi h.size) (fun hm => by rcases hk i hm with h1 | h1; exact hn h1; omega)).trans (h.block i hi hn)⟩
theorem Mod.to_ext {w w' : World} (h : Mod w w' []) : Ext w w' := ⟨h.os, h.tape, h.output, h.size, fun k hk => h.block k hk (by simp)⟩
theorem Mod.of_ext {w w' : World} (h : Ext w w') (gs : List Nat) : Mod w w' gs := (Mod.refl w gs).ext h

/-- A predicate on worlds that stands while nothing that was there turns but blocks of cells. -/
class RStab (R : World → Prop) : Prop where
  stab : ∀ {w w' : World} {gs : List Nat}, R w → Mod w w' gs → (∀ g ∈ gs, ∃ c T f, w.heap[g]? = some (.cells c T f)) → R w'
instance : RStab (fun _ => True) := ⟨fun _ _ _ => trivial⟩
variable {R : World → Prop}
/-- The state of a call that began in w0 and may write the blocks gs: what it owns, and what else holds. -/
structure StR (R : World → Prop) (w0 : World) (gs : List Nat) (H : List Ent) (w : World) : Prop where
  mod : Mod w0 w gs
  own : ∀ e ∈ H, (e.g ∈ gs ∨ w0.heap.size ≤ e.g) ∧ OwnE w e
  nodup : (H.map (·.g)).Nodup
  r : R w
abbrev St (w0 : World) (gs : List Nat) (H : List Ent) (w : World) : Prop := StR (fun _ => True) w0 gs H w
instance [RStab R] (w0 : World) (gs : List Nat) (H : List Ent) : Cl (StR R w0 gs H) where
  ext := fun h hw => ⟨h.mod.ext hw, fun e he => ⟨(h.own e he).1, (h.own e he).2.ext hw⟩, h.nodup, RStab.stab h.r (Mod.of_ext hw []) (fun _ hg => by cases hg)⟩
theorem StR.start {w0 : World} {H : List Ent} (ho : ∀ e ∈ H, OwnE w0 e) (hn : (H.map (·.g)).Nodup) (hr : R w0) : StR R w0 (H.map (·.g)) H w0 :=
  ⟨Mod.refl _ _, fun e he => ⟨.inl (List.mem_map_of_mem he), ho e he⟩, hn, hr⟩
theorem StR.ext0 {w0 w : World} {H : List Ent} (h : StR R w0 [] H w) : Ext w0 w := h.mod.to_ext
/-- Fewer blocks are kept in mind. -/
theorem StR.weak {w0 w : World} {gs : List Nat} {H H' : List Ent} (h : StR R w0 gs H w) (hs : H'.Sublist H) : StR R w0 gs H' w :=
  ⟨h.mod, fun e he => h.own e (hs.subset he), h.nodup.sublist (hs.map _), h.r⟩
theorem StR.perm {w0 w : World} {gs : List Nat} {H H' : List Ent} (h : StR R w0 gs H w) (hp : H'.Perm H) : StR R w0 gs H' w :=
  ⟨h.mod, fun e he => h.own e (hp.subset he), ((hp.map _).nodup_iff).2 h.nodup, h.r⟩
theorem StR.rd {w0 w : World} {H : List Ent} {sz : Nat} {v : Value} {xs : List AV} (h : StR R w0 [] H w) (hr : Rd w0 sz v xs) : Rd w sz v xs := hr.ext h.ext0
variable [RStab R]
/-- A new block. -/
theorem StR.new {w0 w w' : World} {gs : List Nat} {H : List Ent} {e : Ent} (h : StR R w0 gs H w) (hw : Ext w w') (hg : w.heap.size ≤ e.g) (ho : OwnE w' e) : StR R w0 gs (e :: H) w' := by
  refine ⟨h.mod.ext hw, fun x hx => ?_, ?_, RStab.stab h.r (Mod.of_ext hw []) (fun _ hg => by cases hg)⟩
  · rcases List.mem_cons.1 hx with rfl | hx
    · exact ⟨.inr (Nat.le_trans h.mod.size hg), ho⟩
    · exact ⟨(h.own x hx).1, (h.own x hx).2.ext hw⟩
  · refine List.nodup_cons.2 ⟨fun hm => ?_, h.nodup⟩
    obtain ⟨x, hx, hxg⟩ := List.mem_map.1 hm
    have h1 := (h.own x hx).2.lt
    have h2 : x.g = e.g := hxg
    omega
theorem StR.swap {R0 : World → Prop} {w0 w : World} {gs : List Nat} {H : List Ent} {a b : Ent} (h : StR R0 w0 gs (a :: b :: H) w) : StR R0 w0 gs (b :: a :: H) w := h.perm (List.Perm.swap _ _ _)
theorem StR.rot3 {R0 : World → Prop} {w0 w : World} {gs : List Nat} {H : List Ent} {a b c : Ent} (h : StR R0 w0 gs (a :: b :: c :: H) w) : StR R0 w0 gs (c :: a :: b :: H) w :=
  h.perm ((List.Perm.swap _ _ _).trans (List.Perm.cons _ (List.Perm.swap _ _ _)))
/-- What a call that writes some of the owned blocks leaves. -/
theorem StR.call {w0 w w' : World} {gs : List Nat} {A B H : List Ent} (h : StR R w0 gs (A ++ H) w) (hw : Mod w w' (A.map (·.g)))
    (hb : ∀ e ∈ B, OwnE w' e ∧ (e.g ∈ A.map (·.g) ∨ w.heap.size ≤ e.g)) (hn : (B.map (·.g)).Nodup) : StR R w0 gs (B ++ H) w' := by
  have hnd := h.nodup
  rw [List.map_append, List.nodup_append] at hnd
  have hA : ∀ g ∈ A.map (·.g), g ∈ gs ∨ w0.heap.size ≤ g := fun g hg => by
    obtain ⟨e, he, rfl⟩ := List.mem_map.1 hg
    exact (h.own e (by simp [he])).1
  refine ⟨h.mod.trans hw hA, fun x hx => ?_, ?_, RStab.stab h.r hw (fun g hg => ?_)⟩
  · rcases List.mem_append.1 hx with hx | hx
    · have := hb x hx
      exact ⟨this.2.elim (hA _) (fun hg => .inr (Nat.le_trans h.mod.size hg)), this.1⟩
    · have hx' := h.own x (by simp [hx])
      exact ⟨hx'.1, hx'.2.of_heap (hw.block _ hx'.2.lt (fun hm => hnd.2.2 _ hm _ (List.mem_map_of_mem hx) rfl))⟩
  · rw [List.map_append, List.nodup_append]
    refine ⟨hn, hnd.2.1, fun a ha b hb' hab => ?_⟩
    subst hab
    obtain ⟨e, he, rfl⟩ := List.mem_map.1 ha
    rcases (hb e he).2 with h1 | h1
    · exact hnd.2.2 _ h1 _ hb' rfl
    · obtain ⟨x, hx, hxe⟩ := List.mem_map.1 hb'
      have := (h.own x (by simp [hx])).2.lt
      omega
  · obtain ⟨e, he, rfl⟩ := List.mem_map.1 hg
    obtain ⟨cur, hb, _⟩ := (h.own e (by simp [he])).2
    exact ⟨_, _, _, hb⟩

theorem mod_setCell (w : World) (g i : Nat) (u : Value) : Mod w (w.setCell ⟨g, i, none⟩ u) [g] := by
  refine ⟨rfl, rfl, rfl, by simp [World.setCell], fun k hk hn => ?_⟩
  simp at hn
  simp only [World.setCell, Array.getElem?_modify]
  rw [if_neg (fun e => hn e.symm)]
theorem own_setCell {w : World} {e : Ent} (h : OwnE w e) {i : Nat} {x : AV} {u : Value} (hi : i < e.csz) (hu : Ev x u) : OwnE (w.setCell ⟨e.g, i, none⟩ u) { e with xs := e.xs.set i x } := by
  obtain ⟨cur, hb, hs, hc⟩ := h
  refine ⟨cur.setIfInBounds i u, ?_, by simp [hs], fun j y hj => ?_⟩
  · simp only [World.setCell, Array.getElem?_modify, hb]
    simp
  · simp only [List.getElem?_set] at hj
    split at hj
    · rename_i he
      subst he
      split at hj
      · cases hj; exact ⟨u, by simp [hs, hi], hu⟩
      · cases hj
    · rename_i hne
      obtain ⟨y', hy', hev⟩ := hc j y hj
      exact ⟨y', by rw [Array.getElem?_setIfInBounds_ne hne]; exact hy', hev⟩
end Go.Ab
namespace Go.Ab
variable {R : World → Prop} [RStab R]
class TyU (P : Program) (t : TypeId) (d : outParam TypeDesc) : Prop where
  h : P.underlying t = some d
class TyI (P : Program) (t : TypeId) (z : outParam Value) (sz bytes : outParam Nat) : Prop where
  h : ∃ i, P.info? t = some i ∧ i.zero = some z ∧ i.size = sz ∧ i.bytes = bytes
def aggD : TypeDesc → Bool
  | .struct _ | .array _ _ => true
  | _ => false
theorem run_isAgg {P : Program} {t : TypeId} {d : TypeDesc} (h : P.underlying t = some d) (w : World) : (isAgg t).run P w = .ok (aggD d) w := by
  cases d <;> simp [isAgg, run_underlying h, aggD]
theorem run_size {P : Program} {t : TypeId} {z : Value} {sz b : Nat} (h : TyI P t z sz b) (w : World) : (sizeOf t).run P w = .ok sz w := by
  obtain ⟨i, hi, _, hs, _⟩ := h.h
  simp [sizeOf, typeInfo, hi, hs]
theorem run_zero {P : Program} {t : TypeId} {z : Value} {sz b : Nat} (h : TyI P t z sz b) (w : World) : (zeroValue t).run P w = .ok z w := by
  obtain ⟨i, hi, hz, _⟩ := h.h
  simp [zeroValue, typeInfo, hi, hz]

section
variable {P : Program} {S : World → Prop} {e : Env} {dst : Option Tmp} {ty : TypeId} {pos : String} {after : Array Edge} {guard : Option (Nat × Bool)}
theorem zay {x : Operand} {v : AV} (hx : e.ev x = some v) : OpJ P S e ⟨dst, .move x, ty, pos, after, guard⟩ v :=
  opj_value fun a w _ h => ⟨a.eval x, w, by simp [execOp], Ext.refl _, h x (by simp [Op.operands]) v hx⟩
theorem zaz {x : Operand} {v : AV} (hx : e.ev x = some v) : OpJ P S e ⟨dst, .assign x, ty, pos, after, guard⟩ v :=
  opj_value fun a w _ h => ⟨a.eval x, w, by simp [execOp], Ext.refl _, h x (by simp [Op.operands]) v hx⟩
theorem zca {c x y : Operand} {v : AV} (hc : e.ev c = some (.raw (.bool true))) (hx : e.ev x = some v) : OpJ P S e ⟨dst, .pick c x y, ty, pos, after, guard⟩ v :=
  opj_value fun a w _ h => by
    have h1 := (h c (by simp [Op.operands]) _ hc).inv_raw
    exact ⟨a.eval x, w, by simp [execOp, h1, asBool], Ext.refl _, h x (by simp [Op.operands]) v hx⟩
theorem zcb {c x y : Operand} {v : AV} (hc : e.ev c = some (.raw (.bool false))) (hy : e.ev y = some v) : OpJ P S e ⟨dst, .pick c x y, ty, pos, after, guard⟩ v :=
  opj_value fun a w _ h => by
    have h1 := (h c (by simp [Op.operands]) _ hc).inv_raw
    exact ⟨a.eval y, w, by simp [execOp, h1, asBool], Ext.refl _, h y (by simp [Op.operands]) v hy⟩
/-- '+', '-', '*' on whole numbers, in range. -/
def arithI (op : BinOp) (x y : Int) : Int := match op with
  | .add => x + y
  | .sub => x - y
  | .mul => x * y
  | _ => 0
def isArithI : BinOp → Bool
  | .add | .sub | .mul => true
  | _ => false
theorem opj_int {op : BinOp} {t t' : TypeId} {X Y : Operand} {x y : Int} (hop : isArithI op = true) (hx : e.ev X = some (.raw (.int .i64 x))) (hy : e.ev Y = some (.raw (.int .i64 y)))
    (hr : -9223372036854775808 ≤ arithI op x y ∧ arithI op x y ≤ 9223372036854775807) : OpJ P S e ⟨dst, .binOp op t X Y t', ty, pos, after, guard⟩ (.raw (.int .i64 (arithI op x y))) :=
  opj_value fun a w _ h => by
    have h1 := (h X (by simp [Op.operands]) _ hx).inv_raw
    have h2 := (h Y (by simp [Op.operands]) _ hy).inv_raw
    refine ⟨_, w, ?_, Ext.refl _, .raw⟩
    have hw : IntKind.i64.wrap (arithI op x y) = arithI op x y := IntWalk.i64_in _ hr
    cases op <;> first | (cases hop; done) | (simp only [arithI] at hw; simp [execOp, h1, h2, eqGuard, binOp, Op.intArith, hw, arithI])
/-- Comparisons of whole numbers. -/
def cmpI (op : BinOp) (x y : Int) : Bool := match op with
  | .eql => x == y
  | .neq => x != y
  | .lss => decide (x < y)
  | .leq => decide (x ≤ y)
  | .gtr => decide (x > y)
  | .geq => decide (x ≥ y)
  | _ => false
theorem opj_icmp {op : BinOp} {t t' : TypeId} {X Y : Operand} {k : IntKind} {x y : Int} (hop : isCmp op = true) (hx : e.ev X = some (.raw (.int k x))) (hy : e.ev Y = some (.raw (.int k y))) :
    OpJ P S e ⟨dst, .binOp op t X Y t', ty, pos, after, guard⟩ (.raw (.bool (cmpI op x y))) :=
  opj_value fun a w _ h => by
    have h1 := (h X (by simp [Op.operands]) _ hx).inv_raw
    have h2 := (h Y (by simp [Op.operands]) _ hy).inv_raw
    refine ⟨_, w, ?_, Ext.refl _, .raw⟩
    cases op <;> first | (cases hop; done) | simp [execOp, h1, h2, eqGuard, binOp, Op.intCmp, cmpI]
theorem opj_quo {t t' : TypeId} {X Y : Operand} {x y : Int} (hx : e.ev X = some (.raw (.int .i64 x))) (hy : e.ev Y = some (.raw (.int .i64 y)))
    (h0 : 0 ≤ x) (h1 : 1 ≤ y) (hb : x ≤ 9223372036854775807) : OpJ P S e ⟨dst, .binOp .quo t X Y t', ty, pos, after, guard⟩ (.raw (.int .i64 (x / y))) :=
  opj_value fun a w _ h => by
    have hX := (h X (by simp [Op.operands]) _ hx).inv_raw
    have hY := (h Y (by simp [Op.operands]) _ hy).inv_raw
    refine ⟨_, w, ?_, Ext.refl _, .raw⟩
    have hd : x.tdiv y = x / y := Int.tdiv_eq_ediv_of_nonneg h0
    have hle : x / y ≤ x := Int.ediv_le_self _ h0
    have hge : 0 ≤ x / y := Int.ediv_nonneg h0 (by omega)
    have hw : IntKind.i64.wrap (x / y) = x / y := IntWalk.i64_in _ ⟨by omega, by omega⟩
    have hne : ¬ (y = 0) := by omega
    simp [execOp, hX, hY, eqGuard, binOp, Op.intDiv, hne, hd, hw]
theorem zcq {t t' : TypeId} {X Y : Operand} {x y : Int} (hx : e.ev X = some (.raw (.int .i64 x))) (hy : e.ev Y = some (.raw (.int .i64 y)))
    (h0 : 0 ≤ x) (h1 : 1 ≤ y) : OpJ P S e ⟨dst, .binOp .rem t X Y t', ty, pos, after, guard⟩ (.raw (.int .i64 (x % y))) :=
  opj_value fun a w _ h => by
    have hX := (h X (by simp [Op.operands]) _ hx).inv_raw
    have hY := (h Y (by simp [Op.operands]) _ hy).inv_raw
    refine ⟨_, w, ?_, Ext.refl _, .raw⟩
    have hd : x.tmod y = x % y := Int.tmod_eq_emod_of_nonneg h0
    have hne : ¬ (y = 0) := by omega
    simp [execOp, hX, hY, eqGuard, binOp, Op.intDiv, hne, hd]
theorem zcc {t : TypeId} {X : Operand} {x : Bool} (hx : e.ev X = some (.raw (.bool x))) : OpJ P S e ⟨dst, .unOp .not t X, ty, pos, after, guard⟩ (.raw (.bool (!x))) :=
  opj_value fun a w _ h => by
    have h1 := (h X (by simp [Op.operands]) _ hx).inv_raw
    exact ⟨_, w, by simp [execOp, h1, Op.unary], Ext.refl _, .raw⟩
theorem zba {op : BinOp} {t t' : TypeId} {X Y : Operand} {k : FloatKind} {x y : FV} (hop : isArith op = true) (hx : e.ev X = some (.f k x)) (hy : e.ev Y = some (.f k y)) :
    OpJ P S e ⟨dst, .binOp op t X Y t', ty, pos, after, guard⟩ (.f k (fbin op k x y)) :=
  opj_value fun a w _ h => by
    obtain ⟨p, h1, e1, _⟩ := (h X (by simp [Op.operands]) _ hx).inv_f
    obtain ⟨q, h2, e2, _⟩ := (h Y (by simp [Op.operands]) _ hy).inv_f
    obtain ⟨r, w', hr, hq, hv, hl⟩ := run_fbinop P w op hop t k p q
    refine ⟨.float k r, w', ?_, Ext.of_quiet hq, Rel.f' hl (by rw [hv, e1, e2])⟩
    cases op <;> first | (cases hop; done) | simp [execOp, h1, h2, eqGuard, hr]
theorem zbd {op : BinOp} {t t' : TypeId} {X Y : Operand} {k : FloatKind} {x y : FV} (hop : isCmp op = true) (hx : e.ev X = some (.f k x)) (hy : e.ev Y = some (.f k y)) :
    OpJ P S e ⟨dst, .binOp op t X Y t', ty, pos, after, guard⟩ (.raw (.bool (cmpB op (fcmp k x y)))) :=
  opj_value fun a w _ h => by
    obtain ⟨p, h1, e1, _⟩ := (h X (by simp [Op.operands]) _ hx).inv_f
    obtain ⟨q, h2, e2, _⟩ := (h Y (by simp [Op.operands]) _ hy).inv_f
    refine ⟨_, w, ?_, Ext.refl _, .raw⟩
    rw [← e1, ← e2]
    have hr := run_fcmp P w op hop t k p q
    cases op <;> first | (cases hop; done) | simp [execOp, h1, h2, eqGuard, hr]
theorem opj_fconv {src dt : TypeId} {X : Operand} {s d : FloatKind} {x : FV} [hs : TyU P src (.float s)] [hd : TyU P dt (.float d)] (hx : e.ev X = some (.f s x)) (hok : ConvOk s d x) :
    OpJ P S e ⟨dst, .convert src dt X, ty, pos, after, guard⟩ (.f d (fconv s d x)) :=
  opj_value fun a w _ h => by
    obtain ⟨p, h1, e1, hb⟩ := (h X (by simp [Op.operands]) _ hx).inv_f
    obtain ⟨r, w', hr, hq, hv, hl⟩ := run_fconv P w s d p hb (by rw [e1]; exact hok)
    refine ⟨.float d r, w', ?_, Ext.of_quiet hq, Rel.f' hl (by rw [hv, e1])⟩
    simp [execOp, h1, convert, run_underlying hs.h, run_underlying hd.h, hr]
theorem nearest_f_ok (d : FloatKind) (n : Int) : (d.decode (d.nearest n)).isNaN = false := write_not_nan d.format (.number (n < 0) n.natAbs 0) rfl
theorem zby {src dt : TypeId} {X : Operand} {k k' : IntKind} {d : FloatKind} {x : Int} [hs : TyU P src (.int k)] [hd : TyU P dt (.float d)] (hx : e.ev X = some (.raw (.int k' x))) :
    OpJ P S e ⟨dst, .convert src dt X, ty, pos, after, guard⟩ (.f d (some (d.nearest x))) :=
  opj_value fun a w _ h => by
    have h1 := (h X (by simp [Op.operands]) _ hx).inv_raw
    refine ⟨.float d (d.nearest x), w, ?_, Ext.refl _, Rel.f' (d.format.write_lt (.number (x < 0) x.natAbs 0)) (fv_some (nearest_f_ok d x))⟩
    simp [execOp, h1, convert, run_underlying hs.h, run_underlying hd.h, Conv.intToFloat]
theorem opj_len_sl {R0 : World → Prop} {X : Operand} {w0 : World} {H : List Ent} {sz : Nat} {xs : List AV} {t t2 : TypeId} {b : Nat} {z : Value} {el : TypeId} [hu : TyU P t (.slice el)] [hi : TyI P el z sz b] (h0 : 0 < sz) (hx : e.ev X = some (AV.sl w0 sz xs)) :
    OpJ P (StR R0 w0 [] H) e ⟨dst, .call { callee := .builtin .len, args := #[X], argTypes := #[t] }, t2, pos, after, guard⟩ (.raw (.int .i64 ((xs.length / sz : Nat) : Int))) :=
  opj_value fun a w _ h => by
    have h1 := (h X (by simp [Op.operands, Call.operands]) _ hx).inv_q
    obtain ⟨ad, len, cap, hv, hl, _, _, _⟩ := h1
    refine ⟨_, w, ?_, Ext.refl _, .raw⟩
    have : xs.length / sz = len := by rw [hl]; exact Nat.mul_div_cancel _ h0
    rw [this]
    simp [execOp, resolve, invoke, builtin, Builtin.len_, run_underlying hu.h, hv, goInt]
theorem zbn {X : Operand} {ad : Option Addr} {n cap : Nat} {t t2 : TypeId} {el : TypeId} [hu : TyU P t (.slice el)] (hx : e.ev X = some (.raw (.slice ad n cap))) :
    OpJ P S e ⟨dst, .call { callee := .builtin .len, args := #[X], argTypes := #[t] }, t2, pos, after, guard⟩ (.raw (.int .i64 (n : Int))) :=
  opj_value fun a w _ h => by
    have h1 := (h X (by simp [Op.operands, Call.operands]) _ hx).inv_raw
    exact ⟨_, w, by simp [execOp, resolve, invoke, builtin, Builtin.len_, run_underlying hu.h, h1, goInt], Ext.refl _, .raw⟩
theorem addr_add (b : Addr) (hb : b.spot = none) (n : Nat) : b.add n = ⟨b.block, b.off + n, none⟩ := by
  unfold Addr.add
  split
  · subst_vars; cases b; simp_all
  · cases b; simp_all
/-- An element of a slice that came in: its place. -/
theorem opj_index_sl {R0 : World → Prop} {X I : Operand} {w0 : World} {H : List Ent} {sz : Nat} {xs : List AV} {i : Int} {t : TypeId} {b : Nat} {z : Value} {el : TypeId} [hu : TyU P t (.slice el)] [hi : TyI P el z sz b]
    (hx : e.ev X = some (AV.sl w0 sz xs)) (hI : e.ev I = some (.raw (.int .i64 i))) (h0 : 0 ≤ i) (hlt : (i.toNat + 1) * sz ≤ xs.length) (hsz : 0 < sz) :
    OpJ P (StR R0 w0 [] H) e ⟨dst, .indexAddr t X I, ty, pos, after, guard⟩ (AV.ptr (xs.drop (i.toNat * sz))) :=
  opj_value fun a w hS h => by
    have h1 := hS.rd (h X (by simp [Op.operands]) _ hx).inv_q
    have h2 := (h I (by simp [Op.operands]) _ hI).inv_raw
    obtain ⟨ad, len, cap, hv, hl, hc, hm, hr⟩ := h1
    have hne : xs[i.toNat * sz]? = some (xs[i.toNat * sz]'(by rw [Nat.add_mul] at hlt; omega)) := by simp
    obtain ⟨bb, hbb, hsp, _⟩ := hr _ _ hne
    subst hbb
    have hil : i.toNat < len := by
      rw [hl] at hlt
      exact Nat.lt_of_succ_le (Nat.le_of_mul_le_mul_right hlt hsz)
    have hil' : i < (len : Int) := by omega
    have hP : PtrTo (xs.drop (i.toNat * sz)) w (.pointer (some (bb.add (i.toNat * sz)))) := by
      rw [addr_add bb hsp]
      refine ⟨_, rfl, rfl, fun j x hj => ?_⟩
      rw [List.getElem?_drop] at hj
      obtain ⟨b', hb', _, u, hu', hev⟩ := hr _ _ hj
      cases hb'
      exact ⟨u, by rw [Nat.add_assoc]; exact hu', hev⟩
    refine ⟨_, w, ?_, Ext.refl _, .p (mono_ptrTo _) hP⟩
    simp [execOp, h2, hv, Instr.indexAt, asIntOf, run_underlying hu.h, run_size hi, h0, hil']
/-- An element of a slice that the call owns: its place. -/
theorem zbw {X I : Operand} {g n cap : Nat} {i : Int} {t : TypeId} {sz b : Nat} {z : Value} {el : TypeId} [hu : TyU P t (.slice el)] [hi : TyI P el z sz b]
    (hx : e.ev X = some (.raw (.slice (some ⟨g, 0, none⟩) n cap))) (hI : e.ev I = some (.raw (.int .i64 i))) (h0 : 0 ≤ i) (hlt : i < n) :
    OpJ P S e ⟨dst, .indexAddr t X I, ty, pos, after, guard⟩ (.raw (.pointer (some ⟨g, i.toNat * sz, none⟩))) :=
  opj_value fun a w hS h => by
    have h1 := (h X (by simp [Op.operands]) _ hx).inv_raw
    have h2 := (h I (by simp [Op.operands]) _ hI).inv_raw
    refine ⟨_, w, ?_, Ext.refl _, .raw⟩
    have := addr_add ⟨g, 0, none⟩ rfl (i.toNat * sz)
    simp only [Nat.zero_add] at this
    simp [execOp, h1, h2, Instr.indexAt, asIntOf, run_underlying hu.h, run_size hi, h0, hlt, this]
theorem run_loadVar_cell {t : TypeId} {d : TypeDesc} (hd : P.underlying t = some d) (ha : aggD d = false) {w : World} {ad : Addr} {u : Value} (hc : w.cell? ad = some u) : (loadVar t ad).run P w = .ok u w := by
  simp [loadVar, run_isAgg hd, ha, hc]
theorem opj_load_ptr {X : Operand} {x : AV} {xs : List AV} {t : TypeId} {d : TypeDesc} [hd : TyU P t d] (ha : aggD d = false) (hx : e.ev X = some (AV.ptr xs)) (h0 : xs[0]? = some x) :
    OpJ P S e ⟨dst, .load t X, ty, pos, after, guard⟩ x :=
  opj_value fun a w hS h => by
    obtain ⟨_, bb, hv, hsp, hr⟩ := (h X (by simp [Op.operands]) _ hx).inv_p
    obtain ⟨u, hu, hev⟩ := hr 0 x h0
    have hbb : (⟨bb.block, bb.off + 0, none⟩ : Addr) = bb := by cases bb; simp_all
    rw [hbb] at hu
    exact ⟨u, w, by simp [execOp, hv, Instr.loadAt, Instr.sureAddr, run_loadVar_cell hd.h ha hu], Ext.refl _, hev w⟩
/-- A cell of a block that the call owns. -/
theorem opj_load_own {R0 : World → Prop} {X : Operand} {x : AV} {w0 : World} {gs : List Nat} {H : List Ent} {en : Ent} {i : Nat} {t : TypeId} {d : TypeDesc} [hd : TyU P t d] (ha : aggD d = false)
    (hx : e.ev X = some (.raw (.pointer (some ⟨en.g, i, none⟩)))) (hm : en ∈ H) (h0 : en.xs[i]? = some x) : OpJ P (StR R0 w0 gs H) e ⟨dst, .load t X, ty, pos, after, guard⟩ x :=
  opj_value fun a w hS h => by
    have h1 := (h X (by simp [Op.operands]) _ hx).inv_raw
    obtain ⟨u, hu, hev⟩ := (hS.own en hm).2.cell h0
    exact ⟨u, w, by simp [execOp, h1, Instr.loadAt, Instr.sureAddr, run_loadVar_cell hd.h ha hu], Ext.refl _, hev w⟩
theorem zbp {X : Operand} {k : FloatKind} {x y : FV} {ts : Array TypeId} (hx : e.ev X = some (.c k x y)) : OpJ P S e ⟨dst, .call { callee := .builtin .real, args := #[X], argTypes := ts }, ty, pos, after, guard⟩ (.f k x) :=
  opj_value fun a w _ h => by
    obtain ⟨p, q, h1, e1, _, hp, _⟩ := (h X (by simp [Op.operands, Call.operands]) _ hx).inv_c
    exact ⟨.float k p, w, by simp [execOp, resolve, invoke, builtin, run_real, h1], Ext.refl _, Rel.f' hp e1⟩
theorem zbq {X : Operand} {k : FloatKind} {x y : FV} {ts : Array TypeId} (hx : e.ev X = some (.c k x y)) : OpJ P S e ⟨dst, .call { callee := .builtin .imag, args := #[X], argTypes := ts }, ty, pos, after, guard⟩ (.f k y) :=
  opj_value fun a w _ h => by
    obtain ⟨p, q, h1, _, e2, _, hq⟩ := (h X (by simp [Op.operands, Call.operands]) _ hx).inv_c
    exact ⟨.float k q, w, by simp [execOp, resolve, invoke, builtin, run_imag, h1], Ext.refl _, Rel.f' hq e2⟩
theorem zbr {X Y : Operand} {k : FloatKind} {x y : FV} {ts : Array TypeId} (hx : e.ev X = some (.f k x)) (hy : e.ev Y = some (.f k y)) : OpJ P S e ⟨dst, .call { callee := .builtin .complex, args := #[X, Y], argTypes := ts }, ty, pos, after, guard⟩ (.c k x y) :=
  opj_value fun a w _ h => by
    obtain ⟨p, h1, e1, hp⟩ := (h X (by simp [Op.operands, Call.operands]) _ hx).inv_f
    obtain ⟨q, h2, e2, hq⟩ := (h Y (by simp [Op.operands, Call.operands]) _ hy).inv_f
    exact ⟨.complex k p q, w, by simp [execOp, resolve, invoke, builtin, run_complex, h1, h2], Ext.refl _, Rel.c' hp hq e1 e2⟩
theorem zbz {X : Operand} {l : List AV} {i : Nat} {x : AV} (hx : e.ev X = some (.tup l)) (hi : l[i]? = some x) : OpJ P S e ⟨dst, .extract X i, ty, pos, after, guard⟩ x :=
  opj_value fun a w _ h => by
    obtain ⟨vs, h1, hr⟩ := (h X (by simp [Op.operands]) _ hx).inv_tup
    obtain ⟨v, hv, hrv⟩ := hr.get hi
    exact ⟨v, w, by simp [execOp, h1, Instr.extract, hv], Ext.refl _, hrv⟩
theorem opj_nilCheck {X : Operand} {ad : Addr} (hx : e.ev X = some (.raw (.pointer (some ad)))) : OpJ P S e ⟨dst, .nilCheck X, ty, pos, after, guard⟩ (.raw (.pointer (some ad))) :=
  opj_value fun a w _ h => by
    have h1 := (h X (by simp [Op.operands]) _ hx).inv_raw
    exact ⟨_, w, by simp [execOp, h1], Ext.refl _, .raw⟩
end
end Go.Ab
namespace Go.Ab
section
variable {P : Program} {N : Nat} {S : World → Prop} {e : Env} {Q : Exit → Env → World → Prop} {ops : Array Oper} {l : List Oper} {o : Oper}
/-- The code, from a frame that is known as e in a world of S, comes to Q. -/
def WS (P : Program) (N : Nat) (c : Code) (e : Env) (S : World → Prop) (Q : Exit → Env → World → Prop) : Prop :=
  ∀ a w, S w → Fr N e a w → c.wp P (fun x a' w' => ∃ e', Fr N e' a' w' ∧ Q x e' w') a w
/-- What is left of a region whose order is that of the text. -/
def RS (P : Program) (N : Nat) (ops : Array Oper) (l : List Oper) (e : Env) (S : World → Prop) (Q : Exit → Env → World → Prop) : Prop :=
  ∀ a w, S w → Fr N e a w → wpList P ops (fun x a' w' => ∃ e', Fr N e' a' w' ∧ Q x e' w') l a w
/-- Control has come to x. -/
def Done (x : Exit) (e : Env) (S : World → Prop) (Q : Exit → Env → World → Prop) : Prop := ∀ w, S w → Q x e w
/-- What is to come behind a statement. -/
def Then (P : Program) (N : Nat) (c : Code) (Q : Exit → Env → World → Prop) : Exit → Env → World → Prop
  | .normal, e, w => WS P N c e (fun x => x = w) Q
  | x, e, w => Q x e w
def InBlock (id : Nat) (Q : Exit → Env → World → Prop) : Exit → Env → World → Prop
  | .exit j, e, w => if j = id then Q .normal e w else Q (.exit j) e w
  | x, e, w => Q x e w

theorem WS.mono {c : Code} {Q' : Exit → Env → World → Prop} (h : WS P N c e S Q) (hq : ∀ x e w, Q x e w → Q' x e w) : WS P N c e S Q' :=
  fun a w hS hF => Code.wp_mono (fun _ _ _ ⟨e', hF', hq'⟩ => ⟨e', hF', hq _ _ _ hq'⟩) (h a w hS hF)
theorem WS.weak {c : Code} {S' : World → Prop} {e' : Env} (h : WS P N c e' S' Q) (he : Env.sub e' e) (hS : ∀ w, S w → S' w) : WS P N c e S Q :=
  fun a w hw hF => h a w (hS w hw) (hF.sub he)
theorem WS.st {c : Code} {S' : World → Prop} (h : WS P N c e S' Q) (hS : ∀ w, S w → S' w) : WS P N c e S Q := fun a w hw hF => h a w (hS w hw) hF
theorem RS.st {S' : World → Prop} (h : RS P N ops l e S' Q) (hS : ∀ w, S w → S' w) : RS P N ops l e S Q := fun a w hw hF => h a w (hS w hw) hF
theorem Done.st {x : Exit} {S' : World → Prop} (h : Done x e S' Q) (hS : ∀ w, S w → S' w) : Done x e S Q := fun w hw => h w (hS w hw)

theorem zdc {c d : Code} (h : WS P N c e S (Then P N d Q)) : WS P N (.seq c d) e S Q := by
  intro a w hS hF
  refine wp_seq (Code.wp_mono (fun x a' w' ⟨e', hF', hq⟩ => ?_) (h a w hS hF))
  cases x <;> first | exact hq a' w' rfl hF' | exact ⟨e', hF', hq⟩
theorem zdd {id : Nat} (h : RS P N ops ops.toList e S Q) : WS P N (.region id ops false) e S Q :=
  fun a w hS hF => wp_region_list (h a w hS hF)
theorem zdf (h : Done .normal e S Q) : WS P N .skip e S Q := fun _ w hS hF => wp_skip ⟨e, hF, h w hS⟩
theorem zdg (h : Done .ret e S Q) : WS P N .ret e S Q := fun _ w hS hF => wp_ret ⟨e, hF, h w hS⟩
theorem zdh {id : Nat} (h : Done (.exit id) e S Q) : WS P N (.exit id) e S Q := fun _ w hS hF => wp_exit ⟨e, hF, h w hS⟩
theorem zde {id : Nat} {c : Code} (h : WS P N c e S (InBlock id Q)) : WS P N (.block id c) e S Q := by
  intro a w hS hF
  refine wp_block (Code.wp_mono (fun x a' w' ⟨e', hF', hq⟩ => ?_) (h a w hS hF))
  cases x <;> first | exact ⟨e', hF', hq⟩ | skip
  rename_i j
  simp only [InBlock] at hq
  simp only [Exit.inBlock]
  split
  · rename_i hj; rw [if_pos hj] at hq; exact ⟨e', hF', hq⟩
  · rename_i hj; rw [if_neg hj] at hq; exact ⟨e', hF', hq⟩
theorem ws_cond {c : Operand} {x y : Code} {b : Bool} (hc : e.ev c = some (.raw (.bool b))) (ht : b = true → WS P N x e S Q) (hf : b = false → WS P N y e S Q) : WS P N (.cond c x y) e S Q :=
  fun a w hS hF => wp_cond_split (hF.eval hc).inv_raw (fun h => ht h a w hS hF) (fun h => hf h a w hS hF)
theorem zdi {c : Operand} {x y : Code} (hc : e.ev c = some (.raw (.bool true))) (h : WS P N x e S Q) : WS P N (.cond c x y) e S Q := ws_cond hc (fun _ => h) (fun h => by cases h)
theorem zdj {c : Operand} {x y : Code} (hc : e.ev c = some (.raw (.bool false))) (h : WS P N y e S Q) : WS P N (.cond c x y) e S Q := ws_cond hc (fun h => by cases h) (fun _ => h)

/-- The end of a loop's round. -/
def Round {ι : Type} (E : ι → Env) (SI : ι → World → Prop) (ok : ι → Prop) (μ : ι → Nat) (i : ι) (Q : Exit → Env → World → Prop) : Exit → Env → World → Prop
  | .normal, e, w => ∃ j, ok j ∧ μ j < μ i ∧ Env.sub (E j) e ∧ SI j w
  | x, e, w => Q x e w
theorem ws_loop {ι : Type} (E : ι → Env) (SI : ι → World → Prop) (ok : ι → Prop) (μ : ι → Nat) (i0 : ι) {c : Code} (h0 : ok i0) (he : Env.sub (E i0) e) (hS : ∀ w, S w → SI i0 w)
    (hr : ∀ i, ok i → WS P N c (E i) (SI i) (Round E SI ok μ i Q)) : WS P N (.loop c) e S Q := by
  intro a w hw hF b k cs
  have key : ∀ n i, μ i ≤ n → ok i → ∀ a w, SI i w → Fr N (E i) a w →
      ∃ x a' w', (∃ e', Fr N e' a' w' ∧ Q x e' w') ∧ Arrives P (lone (b.at a (.code c :: .inLoop c :: k)) cs w) b k cs x a' w' := by
    intro n
    induction n using Nat.strongRecOn with
    | _ n ih =>
      intro i hi hok a w hs hf
      obtain ⟨x, a1, w1, ⟨e1, hF1, hq⟩, harr⟩ := hr i hok a w hs hf b (.inLoop c :: k) cs
      cases x with
      | normal =>
        obtain ⟨j, hj, hlt, hsub, hsj⟩ := hq
        obtain ⟨x2, a2, w2, hq2, harr2⟩ := ih (μ j) (by omega) j (Nat.le_refl _) hj a1 w1 hsj (hF1.sub hsub)
        exact ⟨x2, a2, w2, hq2, .of_steps (Steps.trans harr (.one step_inLoop)) harr2⟩
      | exit id => exact ⟨_, a1, w1, ⟨e1, hF1, hq⟩, .pass (x := .inLoop c) rfl (fun _ _ => .inl (by simp)) harr⟩
      | goto id => exact ⟨_, a1, w1, ⟨e1, hF1, hq⟩, .pass (x := .inLoop c) rfl (fun _ _ => .inl (by simp)) harr⟩
      | ret => exact ⟨_, a1, w1, ⟨e1, hF1, hq⟩, .pass (x := .inLoop c) rfl (fun _ _ => .inl (by simp)) harr⟩
      | panic ch => exact ⟨_, a1, w1, ⟨e1, hF1, hq⟩, .pass (x := .inLoop c) rfl (fun _ _ => .inl (by simp)) harr⟩
      | outgrown => exact ⟨_, a1, w1, ⟨e1, hF1, hq⟩, .pass (x := .inLoop c) rfl (fun _ _ => .inl (by simp)) harr⟩
  obtain ⟨x, a', w', hq, harr⟩ := key (μ i0) i0 (Nat.le_refl _) h0 a w (hS w hw) (hF.sub he)
  exact ⟨x, a', w', hq, .of_steps (.one step_loop) harr⟩

theorem zcs {d : Code} (h : WS P N d e S Q) : Done .normal e S (Then P N d Q) := fun _ hw => h.st fun _ hx => hx ▸ hw
theorem zct {d : Code} (h : Done .ret e S Q) : Done .ret e S (Then P N d Q) := fun w hw => h w hw
theorem zcu {d : Code} {id : Nat} (h : Done (.exit id) e S Q) : Done (.exit id) e S (Then P N d Q) := fun w hw => h w hw
theorem zcv {id : Nat} (h : Done .normal e S Q) : Done .normal e S (InBlock id Q) := fun w hw => h w hw
theorem zcw {id : Nat} (h : Done .ret e S Q) : Done .ret e S (InBlock id Q) := fun w hw => h w hw
theorem zcx {id : Nat} (h : Done .normal e S Q) : Done (.exit id) e S (InBlock id Q) := fun w hw => by
  show if id = id then _ else _
  rw [if_pos rfl]; exact h w hw
theorem zcz {ι : Type} {E : ι → Env} {SI : ι → World → Prop} {ok : ι → Prop} {μ : ι → Nat} {i : ι} (h : Done .ret e S Q) : Done .ret e S (Round E SI ok μ i Q) := fun w hw => h w hw
theorem zda {ι : Type} {E : ι → Env} {SI : ι → World → Prop} {ok : ι → Prop} {μ : ι → Nat} {i : ι} {id : Nat} (h : Done (.exit id) e S Q) : Done (.exit id) e S (Round E SI ok μ i Q) := fun w hw => h w hw
theorem done_round {ι : Type} {E : ι → Env} {SI : ι → World → Prop} {ok : ι → Prop} {μ : ι → Nat} {i : ι} (j : ι) (hj : ok j) (hlt : μ j < μ i) (hs : Env.sub (E j) e) (hS : ∀ w, S w → SI j w) :
    Done .normal e S (Round E SI ok μ i Q) := fun w hw => ⟨j, hj, hlt, hs, hS w hw⟩

theorem zah (h : Done .normal e S Q) : RS P N ops [] e S Q := fun _ w hS hF => ⟨e, hF, h w hS⟩
theorem Fr.operands {N : Nat} {e : Env} {a : Act} {w : World} (h : Fr N e a w) (o : Oper) : ∀ x ∈ o.op.operands.toList, ∀ y, e.ev x = some y → Rel w y (a.eval x) := fun _ _ _ hy => h.eval hy
theorem zaa {d : Tmp} {op : Op} {ty : TypeId} {pos : String} {after : Array Edge} {v : AV} [Cl S] (hd : Nat.blt d N = true) (hj : OpJ P S e ⟨some d, op, ty, pos, after, none⟩ v) (h : RS P N ops l ((d, v) :: e) S Q) :
    RS P N ops (⟨some d, op, ty, pos, after, none⟩ :: l) e S Q := by
  intro a w hS hF
  refine wpList_plain rfl fun K hK => ?_
  refine hj a w K _ hS (hF.operands _) fun u w' hw hr => hK _ _ ?_
  exact h _ w' (Cl.ext hS hw) (Fr.put (some d) (hF.ext hw) (fun _ h => by cases h; exact Nat.le_of_ble_eq_true hd) hr)
/-- The slot that a guard looks at. -/
def gslot (ops : Array Oper) (j : Nat) : Option Tmp := (ops[j]?).bind (·.dst)
theorem yielded_of {N : Nat} {e : Env} {a : Act} {w : World} (hF : Fr N e a w) {j d : Nat} {b : Bool} (hy : gslot ops j = some d) (he : e.look d = some (.raw (.bool b))) : yielded ops a.tmps j = some b := by
  obtain ⟨u, hu, hr⟩ := hF.rel d _ he
  have := hr.inv_raw
  subst this
  unfold yielded
  rw [show ((ops[j]?).bind (·.dst)) = some d from hy]
  simp [hu]
theorem zaj {d : Tmp} {op : Op} {ty : TypeId} {pos : String} {after : Array Edge} {j y : Nat} {b c : Bool} (hd : Nat.blt d N = true) (hy : gslot ops j = some y) (he : e.look y = some (.raw (.bool c))) (hbc : (c == b) = false)
    (h : RS P N ops l ((d, .raw undef) :: e) S Q) : RS P N ops (⟨some d, op, ty, pos, after, some (j, b)⟩ :: l) e S Q := by
  intro a w hS hF
  refine wpList_step fun K hK => ?_
  rw [if_neg (by simpa [Region.wanted, yielded_of hF hy he] using hbc)]
  exact hK _ _ (h _ w hS (Fr.put (some d) hF (fun _ h => by cases h; exact Nat.le_of_ble_eq_true hd) .raw))
end
end Go.Ab
