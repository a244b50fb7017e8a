/- Part 1 of the texts on which the law leans, joined: Lists of 32-bit floats: the functions that only look at them. No conditions. -/
import Derived.Laws.FloatArith
import Derived.Laws.ComplexArith
import Derived.Below
import Derived.WalkKit
import Derived.Orders
import Derived.ChangeKeysEq
import Derived.IntWalk
import Derived.ArgAppend
import Derived.Test.YtdgehhmeheagmaaGreatDoorProg
import Derived.KernelRfl
namespace Go.Ab
theorem mh {α : Type} {a : α} {l : List α} : a ∈ a :: l := List.Mem.head _
theorem mt {α : Type} {a b : α} {l : List α} (h : a ∈ l) : a ∈ b :: l := List.Mem.tail _ h

/-- A float's bits, or 'none' for a not-a-number of whatever bits. -/
abbrev FV := Option Nat
def fv (k : FloatKind) (b : Nat) : FV := if (k.decode b).isNaN then none else some b
def fbin (op : BinOp) (k : FloatKind) (x y : FV) : FV := x.bind fun a => y.bind fun b => floatBits op k a b
def fcmp (k : FloatKind) (x y : FV) : Option Ordering := x.bind fun a => y.bind fun b => k.format.order a b
def fconv (s d : FloatKind) (x : FV) : FV := x.bind fun b => floatToFloatBits s b d
theorem word_mod (f : Ieee.Format) (neg : Bool) {rung : Nat} (h : rung < f.signWeight) : f.word neg rung % f.signWeight = rung := by
  unfold Ieee.Format.word
  split
  · rw [Nat.add_mod_left, Nat.mod_eq_of_lt h]
  · exact Nat.mod_eq_of_lt h

theorem read_word_not_nan (f : Ieee.Format) (neg : Bool) {rung : Nat} (h : rung ≤ f.infRung) : (f.read (f.word neg rung)).isNaN = false := by
  have hlt := f.infRung_lt
  unfold Ieee.Format.read
  simp only [word_mod f neg (Nat.lt_of_le_of_lt h hlt)]
  split
  · rfl
  · split
    · rfl
    · split
      · rfl
      · omega

theorem nearest_not_nan (f : Ieee.Format) (neg : Bool) (m : Nat) (e : Int) : (f.read (f.nearest neg m e)).isNaN = false := by
  unfold Ieee.Format.nearest
  dsimp only
  split
  · exact read_word_not_nan f neg (Nat.zero_le _)
  · exact read_word_not_nan f neg (Nat.min_le_right _ _)

theorem write_not_nan (f : Ieee.Format) (d : Ieee.Datum) (h : d.isNaN = false) : (f.read (f.write d)).isNaN = false := by
  cases d with
  | number s m e => exact nearest_not_nan f s m e
  | infinity s => exact read_word_not_nan f s (Nat.le_refl _)
  | nan s t => cases h

theorem sum_not_nan {x y d : Ieee.Datum} (h : x.sum y = some d) : d.isNaN = false := by
  cases x <;> cases y <;> simp only [Ieee.Datum.sum] at h <;> (try split at h) <;> (try cases h) <;> rfl
theorem product_not_nan {x y d : Ieee.Datum} (h : x.product y = some d) : d.isNaN = false := by
  cases x <;> cases y <;> simp only [Ieee.Datum.product] at h <;> (try split at h) <;> (try cases h) <;> rfl
theorem quotient_not_nan {n : Nat} {x y d : Ieee.Datum} (h : x.quotient n y = some d) : d.isNaN = false := by
  cases x <;> cases y <;> simp only [Ieee.Datum.quotient] at h <;> (try split at h) <;> (try split at h) <;> (try cases h) <;> rfl

theorem floatBits_not_nan {op : BinOp} {k : FloatKind} {a b r : Nat} (h : floatBits op k a b = some r) : (k.decode r).isNaN = false := by
  unfold floatBits at h
  split at h
  · unfold Ieee.Format.add at h
    cases hd : ((k.format.read a).sum (k.format.read b)) with
    | none => simp [hd] at h
    | some d => simp [hd] at h; subst h; exact write_not_nan _ d (sum_not_nan hd)
  · unfold Ieee.Format.sub at h
    cases hd : ((k.format.read a).sum (k.format.read b).opposite) with
    | none => simp [hd] at h
    | some d => simp [hd] at h; subst h; exact write_not_nan _ d (sum_not_nan hd)
  · unfold Ieee.Format.mul at h
    cases hd : ((k.format.read a).product (k.format.read b)) with
    | none => simp [hd] at h
    | some d => simp [hd] at h; subst h; exact write_not_nan _ d (product_not_nan hd)
  · unfold Ieee.Format.div at h
    cases hd : ((k.format.read a).quotient (k.format.fractionBits + 2) (k.format.read b)) with
    | none => simp [hd] at h
    | some d => simp [hd] at h; subst h; exact write_not_nan _ d (quotient_not_nan hd)
  · cases h

theorem isNaN_cases {d : Ieee.Datum} (h : d.isNaN = true) : ∃ s t, d = .nan s t := by
  cases d with
  | nan s t => exact ⟨s, t, rfl⟩
  | number s m e => cases h
  | infinity s => cases h

theorem floatBits_nan_left {op : BinOp} {k : FloatKind} {a b : Nat} (h : (k.decode a).isNaN = true) : floatBits op k a b = none := by
  obtain ⟨s, t, e⟩ := isNaN_cases h
  have e' : k.format.read a = .nan s t := e
  unfold floatBits
  split <;> simp [Ieee.Format.add, Ieee.Format.sub, Ieee.Format.mul, Ieee.Format.div, e', Ieee.Datum.sum, Ieee.Datum.product, Ieee.Datum.quotient]
theorem floatBits_nan_right {op : BinOp} {k : FloatKind} {a b : Nat} (h : (k.decode b).isNaN = true) : floatBits op k a b = none := by
  obtain ⟨s, t, e⟩ := isNaN_cases h
  have e' : k.format.read b = .nan s t := e
  unfold floatBits
  split <;> cases hx : k.format.read a <;> simp [Ieee.Format.add, Ieee.Format.sub, Ieee.Format.mul, Ieee.Format.div, e', hx, Ieee.Datum.sum, Ieee.Datum.product, Ieee.Datum.quotient, Ieee.Datum.opposite]

theorem fv_nan {k : FloatKind} {b : Nat} (h : (k.decode b).isNaN = true) : fv k b = none := by simp [fv, h]
theorem fv_some {k : FloatKind} {b : Nat} (h : (k.decode b).isNaN = false) : fv k b = some b := by simp [fv, h]

theorem fbin_fv (op : BinOp) (k : FloatKind) (a b : Nat) : fbin op k (fv k a) (fv k b) = floatBits op k a b := by
  cases ha : (k.decode a).isNaN with
  | true => rw [fv_nan ha, floatBits_nan_left ha]; rfl
  | false =>
    cases hb : (k.decode b).isNaN with
    | true => rw [fv_some ha, fv_nan hb, floatBits_nan_right hb]; rfl
    | false => rw [fv_some ha, fv_some hb]; rfl

theorem fcmp_fv (k : FloatKind) (a b : Nat) : fcmp k (fv k a) (fv k b) = k.format.order a b := by
  cases ha : (k.decode a).isNaN with
  | true =>
    obtain ⟨s, t, e⟩ := isNaN_cases ha
    have e' : k.format.read a = .nan s t := e
    rw [fv_nan ha]; simp [fcmp, Ieee.Format.order, e', Ieee.Datum.order]
  | false =>
    cases hb : (k.decode b).isNaN with
    | true =>
      obtain ⟨s, t, e⟩ := isNaN_cases hb
      have e' : k.format.read b = .nan s t := e
      rw [fv_some ha, fv_nan hb]
      cases hx : k.format.read a <;> simp [fcmp, Ieee.Format.order, e', hx, Ieee.Datum.order]
    | false => rw [fv_some ha, fv_some hb]; rfl

/-- A draw, or none: nothing else has turned. -/
def Quiet (w w' : World) : Prop := w' = w ∨ w' = { w with drawn := w.drawn + 1 }

theorem nan32 (t : Nat) : (FloatKind.f32.decode ((t % 2) * 2 ^ 31 + 0x7f800000 + 1 + (t / 2) % (2 ^ 23 - 1))).isNaN = true ∧ (t % 2) * 2 ^ 31 + 0x7f800000 + 1 + (t / 2) % (2 ^ 23 - 1) < 2 ^ 32 := by
  have h1 : t % 2 < 2 := Nat.mod_lt _ (by decide)
  have h2 : (t / 2) % (2 ^ 23 - 1) < 2 ^ 23 - 1 := Nat.mod_lt _ (by decide)
  generalize t % 2 = p at *
  generalize (t / 2) % (2 ^ 23 - 1) = q at *
  refine ⟨?_, by omega⟩
  have hm : (p * 2 ^ 31 + 0x7f800000 + 1 + q) % FloatKind.f32.format.signWeight = 0x7f800000 + 1 + q := by
    show _ % 2 ^ 31 = _
    omega
  unfold FloatKind.decode Ieee.Format.read
  simp only [hm]
  have hb : FloatKind.f32.format.binade = 2 ^ 23 := rfl
  have hi : FloatKind.f32.format.infRung = 0x7f800000 := rfl
  rw [hb, hi, if_neg (by omega), if_neg (by omega), if_neg (by omega)]
  rfl
theorem nan64 (t : Nat) : (FloatKind.f64.decode ((t % 2) * 2 ^ 63 + 0x7ff0000000000000 + 1 + (t / 2) % (2 ^ 52 - 1))).isNaN = true ∧ (t % 2) * 2 ^ 63 + 0x7ff0000000000000 + 1 + (t / 2) % (2 ^ 52 - 1) < 2 ^ 64 := by
  have h1 : t % 2 < 2 := Nat.mod_lt _ (by decide)
  have h2 : (t / 2) % (2 ^ 52 - 1) < 2 ^ 52 - 1 := Nat.mod_lt _ (by decide)
  generalize t % 2 = p at *
  generalize (t / 2) % (2 ^ 52 - 1) = q at *
  refine ⟨?_, by omega⟩
  have hm : (p * 2 ^ 63 + 0x7ff0000000000000 + 1 + q) % FloatKind.f64.format.signWeight = 0x7ff0000000000000 + 1 + q := by
    show _ % 2 ^ 63 = _
    omega
  unfold FloatKind.decode Ieee.Format.read
  simp only [hm]
  have hb : FloatKind.f64.format.binade = 2 ^ 52 := rfl
  have hi : FloatKind.f64.format.infRung = 0x7ff0000000000000 := rfl
  rw [hb, hi, if_neg (by omega), if_neg (by omega), if_neg (by omega)]
  rfl

theorem nanBits_cut (k : FloatKind) (x y t : Nat) : fv k ((Question.nanBits k x y).cut t) = none ∧ (Question.nanBits k x y).cut t < 2 ^ k.format.width := by
  cases k
  · exact ⟨fv_nan (nan32 t).1, (nan32 t).2⟩
  · exact ⟨fv_nan (nan64 t).1, (nan64 t).2⟩
theorem nanConv_cut (k : FloatKind) (x t : Nat) : fv k ((Question.nanConv k x).cut t) = none ∧ (Question.nanConv k x).cut t < 2 ^ k.format.width := by
  cases k
  · exact ⟨fv_nan (nan32 t).1, (nan32 t).2⟩
  · exact ⟨fv_nan (nan64 t).1, (nan64 t).2⟩

theorem floatBits_lt {op : BinOp} {k : FloatKind} {a b r : Nat} (h : floatBits op k a b = some r) : r < 2 ^ k.format.width := by
  unfold floatBits at h
  split at h
  · exact k.format.add_lt h
  · exact k.format.sub_lt h
  · exact k.format.mul_lt h
  · exact k.format.div_lt h
  · cases h

def isArith : BinOp → Bool
  | .add | .sub | .mul | .quo => true
  | _ => false

theorem run_farith (P : Program) (w : World) (op : BinOp) (hop : isArith op = true) (k : FloatKind) (a b : Nat) :
    ∃ r w', (Op.floatArith op k a b).run P w = .ok (.float k r) w' ∧ Quiet w w' ∧ fv k r = fbin op k (fv k a) (fv k b) ∧ r < 2 ^ k.format.width := by
  rw [fbin_fv]
  cases h : floatBits op k a b with
  | some r => exact ⟨r, w, run_floatArith w h, .inl rfl, fv_some (floatBits_not_nan h), floatBits_lt h⟩
  | none =>
    have hc := nanBits_cut k a b (w.tape w.drawn (.nanBits k a b))
    refine ⟨(Question.nanBits k a b).cut (w.tape w.drawn (.nanBits k a b)), { w with drawn := w.drawn + 1 }, ?_, .inr rfl, hc.1, hc.2⟩
    unfold floatBits at h
    cases op <;> first | (cases hop; done) | skip
    all_goals (simp only at h; simp [Op.floatArith, h, choose, Sem.run, Question.forced])

theorem run_fbinop (P : Program) (w : World) (op : BinOp) (hop : isArith op = true) (t : TypeId) (k : FloatKind) (a b : Nat) :
    ∃ r w', (binOp op t (.float k a) (.float k b)).run P w = .ok (.float k r) w' ∧ Quiet w w' ∧ fv k r = fbin op k (fv k a) (fv k b) ∧ r < 2 ^ k.format.width := by
  obtain ⟨r, w', h, q, e, l⟩ := run_farith P w op hop k a b
  refine ⟨r, w', ?_, q, e, l⟩
  rw [← h]
  cases op <;> first | (cases hop; done) | simp [binOp]

/-- What a comparison of two floats gives. -/
def cmpB (op : BinOp) (c : Option Ordering) : Bool := match op with
  | .eql => c == some .eq
  | .neq => c != some .eq
  | .lss => c == some .lt
  | .leq => c == some .lt || c == some .eq
  | .gtr => c == some .gt
  | .geq => c == some .gt || c == some .eq
  | _ => false
def isCmp : BinOp → Bool
  | .eql | .neq | .lss | .leq | .gtr | .geq => true
  | _ => false
theorem run_fcmp (P : Program) (w : World) (op : BinOp) (hop : isCmp op = true) (t : TypeId) (k : FloatKind) (a b : Nat) :
    (binOp op t (.float k a) (.float k b)).run P w = .ok (.bool (cmpB op (fcmp k (fv k a) (fv k b)))) w := by
  rw [fcmp_fv]
  cases op <;> first | (cases hop; done) | simp [binOp, Op.floatCmp, cmpB]

theorem floatToFloatBits_not_nan {s d : FloatKind} {b r : Nat} (hb : (s.decode b).isNaN = false) (h : floatToFloatBits s b d = some r) : (d.decode r).isNaN = false := by
  unfold floatToFloatBits at h
  split at h
  · rename_i e; cases h; subst e; exact hb
  · split at h
    · cases h
    · cases h; exact write_not_nan _ _ rfl
    · split at h
      · cases h
      · cases h; exact write_not_nan _ _ rfl
theorem floatToFloatBits_lt {s d : FloatKind} {b r : Nat} (hb : b < 2 ^ s.format.width) (h : floatToFloatBits s b d = some r) : r < 2 ^ d.format.width := by
  unfold floatToFloatBits at h
  split at h
  · rename_i e; cases h; subst e; exact hb
  · split at h
    · cases h
    · cases h; exact d.format.write_lt _
    · split at h
      · cases h
      · cases h; exact d.format.write_lt _

/-- A conversion whose answer the language fixes: a not-a-number, or a number that does not overflow. -/
def ConvOk (s d : FloatKind) (x : FV) : Prop := x = none ∨ fconv s d x ≠ none
theorem run_fconv (P : Program) (w : World) (s d : FloatKind) (b : Nat) (hb : b < 2 ^ s.format.width) (hok : ConvOk s d (fv s b)) :
    ∃ r w', (Conv.floatToFloat s b d).run P w = .ok (.float d r) w' ∧ Quiet w w' ∧ fv d r = fconv s d (fv s b) ∧ r < 2 ^ d.format.width := by
  cases hn : (s.decode b).isNaN with
  | true =>
    obtain ⟨sg, t, e⟩ := isNaN_cases hn
    by_cases hsd : s = d
    · subst hsd
      exact ⟨b, w, by simp [Conv.floatToFloat], .inl rfl, by rw [fv_nan hn]; rfl, hb⟩
    · have hc := nanConv_cut d b (w.tape w.drawn (.nanConv d b))
      refine ⟨_, { w with drawn := w.drawn + 1 }, ?_, .inr rfl, ?_, hc.2⟩
      · simp [Conv.floatToFloat, hsd, e, choose, Sem.run, Question.forced]
      · rw [hc.1, fv_nan hn]; rfl
  | false =>
    rw [fv_some hn] at hok ⊢
    rcases hok with hok | hok
    · cases hok
    · simp only [fconv, Option.bind_some] at hok ⊢
      cases hr : floatToFloatBits s b d with
      | none => exact absurd hr hok
      | some r => exact ⟨r, w, run_floatToFloat w hr, .inl rfl, fv_some (floatToFloatBits_not_nan hn hr), floatToFloatBits_lt hb hr⟩
end Go.Ab
namespace Go.Ab
/-- What is known of a value. -/
inductive AV where
  | f (k : FloatKind) (x : FV)
  | c (k : FloatKind) (x y : FV)
  | raw (v : Value)
  | agg (l : List AV)
  | tup (l : List AV)
  /-- a predicate of the value alone -/
  | q (φ : Value → Prop)
  /-- a predicate that stands while nothing that was there is written -/
  | p (φ : World → Value → Prop)
  deriving Inhabited

/-- What was there stands; blocks may have been added, answers drawn. -/
def Ext (w w' : World) : Prop := RowKit.Below w.heap.size w w'
theorem Ext.refl (w : World) : Ext w w := RowKit.Below.refl _ _
theorem Ext.trans {a b c : World} (h : Ext a b) (k : Ext b c) : Ext a c := RowKit.Below.trans h (RowKit.Below.mono k h.size)
theorem Ext.of_quiet {w w' : World} (h : Quiet w w') : Ext w w' := by
  rcases h with rfl | rfl
  · exact Ext.refl _
  · exact ⟨rfl, rfl, rfl, Nat.le_refl _, fun _ _ => rfl⟩
theorem Ext.alloc (w : World) (o : Obj) : Ext w (w.alloc o) := RowKit.Below.alloc (RowKit.Below.refl _ _) (Nat.le_refl _) o
theorem Ext.cell {w w' : World} (h : Ext w w') {a : Addr} {v : Value} (hc : w.cell? a = some v) : w'.cell? a = some v := by
  have hlt : a.block < w.heap.size := by
    unfold World.cell? at hc
    split at hc
    · rename_i hb; exact (Array.getElem?_eq_some_iff.1 hb).1
    · cases hc
  rw [RowKit.Below.cell h hlt]; exact hc
theorem Ext.block {w w' : World} (h : Ext w w') {b : Nat} {o : Obj} (hb : w.heap[b]? = some o) : w'.heap[b]? = some o := by
  have hlt : b < w.heap.size := (Array.getElem?_eq_some_iff.1 hb).1
  rw [RowKit.Below.block h b hlt]; exact hb

def Mono (φ : World → Value → Prop) : Prop := ∀ w w' v, Ext w w' → φ w v → φ w' v

mutual
inductive Rel (w : World) : AV → Value → Prop
  | f {k : FloatKind} {b : Nat} : b < 2 ^ k.format.width → Rel w (.f k (fv k b)) (.float k b)
  | c {k : FloatKind} {a b : Nat} : a < 2 ^ k.format.width → b < 2 ^ k.format.width → Rel w (.c k (fv k a) (fv k b)) (.complex k a b)
  | raw {v : Value} : Rel w (.raw v) v
  | agg {l : List AV} {vs : List Value} : RelL w l vs → Rel w (.agg l) (.agg vs.toArray)
  | tup {l : List AV} {vs : List Value} : RelL w l vs → Rel w (.tup l) (.tuple vs.toArray)
  | q {φ : Value → Prop} {v : Value} : φ v → Rel w (.q φ) v
  | p {φ : World → Value → Prop} {v : Value} : Mono φ → φ w v → Rel w (.p φ) v
inductive RelL (w : World) : List AV → List Value → Prop
  | nil : RelL w [] []
  | cons {a : AV} {v : Value} {l : List AV} {vs : List Value} : Rel w a v → RelL w l vs → RelL w (a :: l) (v :: vs)
end
theorem Rel.f' {w : World} {k : FloatKind} {b : Nat} {x : FV} (hb : b < 2 ^ k.format.width) (h : fv k b = x) : Rel w (.f k x) (.float k b) := by
  subst h; exact .f hb
theorem Rel.c' {w : World} {k : FloatKind} {a b : Nat} {x y : FV} (ha : a < 2 ^ k.format.width) (hb : b < 2 ^ k.format.width) (h : fv k a = x) (h' : fv k b = y) : Rel w (.c k x y) (.complex k a b) := by
  subst h; subst h'; exact .c ha hb
theorem Rel.inv_f {w : World} {k : FloatKind} {x : FV} {v : Value} (h : Rel w (.f k x) v) : ∃ b, v = .float k b ∧ fv k b = x ∧ b < 2 ^ k.format.width := by
  cases h; exact ⟨_, rfl, rfl, by assumption⟩
theorem Rel.inv_c {w : World} {k : FloatKind} {x y : FV} {v : Value} (h : Rel w (.c k x y) v) : ∃ a b, v = .complex k a b ∧ fv k a = x ∧ fv k b = y ∧ a < 2 ^ k.format.width ∧ b < 2 ^ k.format.width := by
  cases h; exact ⟨_, _, rfl, rfl, rfl, by assumption, by assumption⟩
theorem Rel.inv_raw {w : World} {u v : Value} (h : Rel w (.raw u) v) : v = u := by cases h; rfl
theorem Rel.inv_agg {w : World} {l : List AV} {v : Value} (h : Rel w (.agg l) v) : ∃ vs, v = .agg vs.toArray ∧ RelL w l vs := by
  cases h; exact ⟨_, rfl, by assumption⟩
theorem Rel.inv_tup {w : World} {l : List AV} {v : Value} (h : Rel w (.tup l) v) : ∃ vs, v = .tuple vs.toArray ∧ RelL w l vs := by
  cases h; exact ⟨_, rfl, by assumption⟩
theorem Rel.inv_q {w : World} {φ : Value → Prop} {v : Value} (h : Rel w (.q φ) v) : φ v := by cases h; assumption
theorem Rel.inv_p {w : World} {φ : World → Value → Prop} {v : Value} (h : Rel w (.p φ) v) : Mono φ ∧ φ w v := by cases h; exact ⟨by assumption, by assumption⟩
theorem RelL.inv_nil {w : World} {vs : List Value} (h : RelL w [] vs) : vs = [] := by cases h; rfl
theorem RelL.inv_cons {w : World} {a : AV} {l : List AV} {vs : List Value} (h : RelL w (a :: l) vs) : ∃ v r, vs = v :: r ∧ Rel w a v ∧ RelL w l r := by
  cases h; exact ⟨_, _, rfl, by assumption, by assumption⟩
theorem RelL.length {w : World} : ∀ {l : List AV} {vs : List Value}, RelL w l vs → vs.length = l.length
  | [], _, h => by rw [h.inv_nil]; rfl
  | _ :: _, _, h => by obtain ⟨v, r, rfl, _, hr⟩ := h.inv_cons; simp [hr.length]
theorem RelL.get {w : World} : ∀ {l : List AV} {vs : List Value}, RelL w l vs → ∀ {i : Nat} {a : AV}, l[i]? = some a → ∃ v, vs[i]? = some v ∧ Rel w a v
  | [], _, _, i, a, hi => by simp at hi
  | x :: l, _, h, i, a, hi => by
    obtain ⟨v, r, rfl, hv, hr⟩ := h.inv_cons
    cases i with
    | zero => simp at hi; subst hi; exact ⟨v, rfl, hv⟩
    | succ i => simp at hi; obtain ⟨u, hu, hru⟩ := hr.get hi; exact ⟨u, by simpa using hu, hru⟩
mutual
theorem Rel.ext {w w' : World} (hw : Ext w w') : ∀ {a : AV} {v : Value}, Rel w a v → Rel w' a v
  | _, _, .f h => .f h
  | _, _, .c h k => .c h k
  | _, _, .raw => .raw
  | _, _, .agg h => .agg (RelL.ext hw h)
  | _, _, .tup h => .tup (RelL.ext hw h)
  | _, _, .q h => .q h
  | _, _, .p m h => .p m (m _ _ _ hw h)
theorem RelL.ext {w w' : World} (hw : Ext w w') : ∀ {l : List AV} {vs : List Value}, RelL w l vs → RelL w' l vs
  | _, _, .nil => .nil
  | _, _, .cons h k => .cons (Rel.ext hw h) (RelL.ext hw k)
end
-- No part of it speaks of a world.
mutual
def AV.still : AV → Bool
  | .f .. | .c .. | .raw _ | .q _ => true
  | .agg l => AV.stillL l
  | .tup l => AV.stillL l
  | .p _ => false
def AV.stillL : List AV → Bool
  | [] => true
  | a :: l => a.still && AV.stillL l
end
mutual
theorem Rel.any {w w' : World} : ∀ {a : AV} {v : Value}, a.still = true → Rel w a v → Rel w' a v
  | _, _, _, .f h => .f h
  | _, _, _, .c h k => .c h k
  | _, _, _, .raw => .raw
  | _, _, hs, .agg h => .agg (RelL.any (by simpa only [AV.still] using hs) h)
  | _, _, hs, .tup h => .tup (RelL.any (by simpa only [AV.still] using hs) h)
  | _, _, _, .q h => .q h
  | _, _, hs, .p m h => by simp [AV.still] at hs
theorem RelL.any {w w' : World} : ∀ {l : List AV} {vs : List Value}, AV.stillL l = true → RelL w l vs → RelL w' l vs
  | _, _, _, .nil => .nil
  | _, _, hs, .cons h k => .cons (Rel.any (by simp only [AV.stillL, Bool.and_eq_true] at hs; exact hs.1) h) (RelL.any (by simp only [AV.stillL, Bool.and_eq_true] at hs; exact hs.2) k)
end
/-- A constant of the program's text. -/
def cv1 : Value → AV
  | .float k b => .f k (fv k b)
  | .complex k a b => .c k (fv k a) (fv k b)
  | v => .raw v
def cv : Value → AV
  | .float k b => .f k (fv k b)
  | .complex k a b => .c k (fv k a) (fv k b)
  | .agg cs => .agg (cs.toList.map cv1)
  | v => .raw v
/-- Its floats fit their kinds. -/
def okv1 : Value → Bool
  | .float k b => b < 2 ^ k.format.width
  | .complex k a b => a < 2 ^ k.format.width && b < 2 ^ k.format.width
  | _ => true
def okv : Value → Bool
  | .agg cs => cs.toList.all okv1
  | v => okv1 v
theorem rel_cv1 (w : World) (v : Value) (h : okv1 v = true) : Rel w (cv1 v) v := by
  cases v <;> first | exact .raw | (simp [okv1] at h; exact .f h) | (simp [okv1] at h; exact .c h.1 h.2)
theorem rell_cv1 (w : World) : ∀ (l : List Value), (∀ x ∈ l, okv1 x = true) → RelL w (l.map cv1) l
  | [], _ => .nil
  | v :: l, h => .cons (rel_cv1 w v (h v (by simp))) (rell_cv1 w l fun x hx => h x (by simp [hx]))
theorem rel_cv (w : World) (v : Value) (h : okv v = true) : Rel w (cv v) v := by
  cases v <;> first | exact .raw | (simp [okv, okv1] at h; exact .f h) | (simp [okv, okv1] at h; exact .c h.1 h.2) | skip
  rename_i cs
  have : Rel w (.agg (cs.toList.map cv1)) (.agg cs.toList.toArray) := .agg (rell_cv1 w cs.toList (List.all_eq_true.1 h))
  simpa [cv] using this

/-- The slots that are known. -/
abbrev Env := List (Nat × AV)
def Env.look : Env → Nat → Option AV
  | [], _ => none
  | (d, v) :: r, t => match Nat.beq d t with
    | true => some v
    | false => Env.look r t
def Env.put (e : Env) (dst : Option Tmp) (v : AV) : Env := match dst with
  | some d => (d, v) :: e
  | none => e
def Env.ev (e : Env) : Operand → Option AV
  | .tmp t => e.look t
  | .const v => if okv v then some (cv v) else none
  | .global g => some (.raw (.pointer (some ⟨g, 0, none⟩)))
  | .func f => some (.raw (.func (.func f) #[] #[]))
/-- A frame of N slots in which the known slots are as known. -/
structure Fr (N : Nat) (e : Env) (a : Act) (w : World) : Prop where
  defers : a.defers = []
  size : a.tmps.size = N
  rel : ∀ t v, e.look t = some v → ∃ u, a.tmps[t]? = some u ∧ Rel w v u
theorem Fr.ext {N : Nat} {e : Env} {a : Act} {w w' : World} (h : Fr N e a w) (hw : Ext w w') : Fr N e a w' :=
  ⟨h.defers, h.size, fun t v ht => let ⟨u, hu, hr⟩ := h.rel t v ht; ⟨u, hu, hr.ext hw⟩⟩
theorem Fr.put {N : Nat} {e : Env} {a : Act} {w : World} {v : AV} {u : Value} (dst : Option Tmp) (h : Fr N e a w) (hd : ∀ d, dst = some d → d < N) (hr : Rel w v u) : Fr N (e.put dst v) (a.put dst u) w := by
  cases dst with
  | none => exact h
  | some d =>
    refine ⟨h.defers, by simp [Act.put, h.size], fun t x ht => ?_⟩
    simp only [Env.put, Env.look] at ht
    cases hb : Nat.beq d t with
    | true =>
      have : d = t := Nat.eq_of_beq_eq_true hb
      subst this
      simp only [hb, Option.some.injEq] at ht
      subst ht
      exact ⟨u, by simp [Act.put, h.size, hd d rfl], hr⟩
    | false =>
      have hne : d ≠ t := fun e => by subst e; simp at hb
      simp only [hb] at ht
      obtain ⟨y, hy, hry⟩ := h.rel t x ht
      exact ⟨y, by simp [Act.put, Array.getElem?_setIfInBounds_ne hne, hy], hry⟩
theorem Fr.eval {N : Nat} {e : Env} {a : Act} {w : World} (h : Fr N e a w) {x : Operand} {v : AV} (hx : e.ev x = some v) : Rel w v (a.eval x) := by
  cases x with
  | tmp t =>
    obtain ⟨u, hu, hr⟩ := h.rel t v hx
    have : a.eval (.tmp t) = u := by simp [Act.eval, hu]
    rw [this]; exact hr
  | const c =>
    simp only [Env.ev] at hx
    split at hx
    · rename_i ho; cases hx; exact rel_cv w c ho
    · cases hx
  | global g => cases hx; exact .raw
  | func f => cases hx; exact .raw
/-- What is known is forgotten. -/
def Env.sub (e' e : Env) : Prop := ∀ t v, e'.look t = some v → e.look t = some v
theorem Fr.sub {N : Nat} {e e' : Env} {a : Act} {w : World} (h : Fr N e a w) (hs : Env.sub e' e) : Fr N e' a w :=
  ⟨h.defers, h.size, fun t v ht => h.rel t v (hs t v ht)⟩
theorem Env.sub_nil (e : Env) : Env.sub [] e := fun _ _ h => by cases h
theorem Env.sub_cons {e e' : Env} {d : Nat} {v : AV} (h : e.look d = some v) (hs : Env.sub e' e) : Env.sub ((d, v) :: e') e := fun t x ht => by
  simp only [Env.look] at ht
  cases hb : Nat.beq d t with
  | true => simp only [hb, Option.some.injEq] at ht; rw [← Nat.eq_of_beq_eq_true hb, h, ht]
  | false => simp only [hb] at ht; exact hs t x ht
/-- A predicate of worlds that stands while nothing that was there is written. -/
class Cl (S : World → Prop) : Prop where
  ext : ∀ {w w'}, S w → Ext w w' → S w'

section
variable {P : Program} {N : Nat} {S : World → Prop}
/-- One operation gives what is said, wherever S holds and the operands are as known; nothing that was there is written. -/
def OpJ (P : Program) (S : World → Prop) (e : Env) (o : Oper) (v : AV) : Prop :=
  ∀ (a : Act) (w : World) (K : Act → World → Prop) (Q : Exit → Act → World → Prop), S w →
    (∀ x ∈ o.op.operands.toList, ∀ y, e.ev x = some y → Rel w y (a.eval x)) →
    (∀ u w', Ext w w' → Rel w' v u → K (a.put o.dst u) w') → o.wp P a w K Q

theorem opj_value {e : Env} {o : Oper} {v : AV}
    (h : ∀ (a : Act) (w : World), S w → (∀ x ∈ o.op.operands.toList, ∀ y, e.ev x = some y → Rel w y (a.eval x)) →
      ∃ u w', (execOp a.eval o).run P w = .ok (.value u) w' ∧ Ext w w' ∧ Rel w' v u) : OpJ P S e o v := by
  intro a w K Q hS hx hK
  obtain ⟨u, w', hr, hw, hu⟩ := h a w hS hx
  unfold Oper.wp
  rw [hr]
  exact hK u w' hw hu
end
end Go.Ab
namespace Go.Ab
/-- The value is as said in whatever world. -/
def Ev (x : AV) (u : Value) : Prop := ∀ w, Rel w x u
theorem Rel.ev {w : World} {x : AV} {u : Value} (h : Rel w x u) (hs : x.still = true) : Ev x u := fun _ => h.any hs
theorem ev_raw (v : Value) : Ev (.raw v) v := fun _ => .raw

/-- A block of cells of which the first are known. -/
structure Ent where
  g : Nat
  T : TypeId
  xs : List AV
  csz : Nat
def OwnE (w : World) (e : Ent) : Prop :=
  ∃ cur : Array Value, w.heap[e.g]? = some (.cells cur e.T (0, 0)) ∧ cur.size = e.csz ∧ ∀ (i : Nat) (x : AV), e.xs[i]? = some x → ∃ u, cur[i]? = some u ∧ Ev x u
theorem OwnE.lt {w : World} {e : Ent} (h : OwnE w e) : e.g < w.heap.size := by
  obtain ⟨cur, hb, _⟩ := h
  exact (Array.getElem?_eq_some_iff.1 hb).1
theorem OwnE.ext {w w' : World} {e : Ent} (h : OwnE w e) (hw : Ext w w') : OwnE w' e := by
  obtain ⟨cur, hb, r⟩ := h
  exact ⟨cur, hw.block hb, r⟩
theorem OwnE.of_heap {w w' : World} {e : Ent} (h : OwnE w e) (hw : w'.heap[e.g]? = w.heap[e.g]?) : OwnE w' e := by
  obtain ⟨cur, hb, r⟩ := h
  exact ⟨cur, by rw [hw]; exact hb, r⟩
theorem OwnE.cell {w : World} {e : Ent} (h : OwnE w e) {i : Nat} {x : AV} (hx : e.xs[i]? = some x) : ∃ u, w.cell? ⟨e.g, i, none⟩ = some u ∧ Ev x u := by
  obtain ⟨cur, hb, _, hc⟩ := h
  obtain ⟨u, hu, hev⟩ := hc i x hx
  exact ⟨u, by simp [World.cell?, hb, hu], hev⟩
theorem OwnE.frozen {w : World} {e : Ent} (h : OwnE w e) (i : Nat) : w.frozen? ⟨e.g, i, none⟩ = false := by
  obtain ⟨cur, hb, _⟩ := h
  simp [World.frozen?, hb]

/-- A readable slice: its cells, one behind the other ('sz' cells an element). -/
def Rd (w : World) (sz : Nat) (v : Value) (xs : List AV) : Prop :=
  ∃ a len cap, v = .slice a len cap ∧ xs.length = len * sz ∧ len ≤ cap ∧ cap ≤ maxLen ∧
    ∀ (i : Nat) (x : AV), xs[i]? = some x → ∃ b : Addr, a = some b ∧ b.spot = none ∧ ∃ u, w.cell? ⟨b.block, b.off + i, none⟩ = some u ∧ Ev x u
theorem Rd.ext {w w' : World} {sz : Nat} {v : Value} {xs : List AV} (h : Rd w sz v xs) (hw : Ext w w') : Rd w' sz v xs := by
  obtain ⟨a, len, cap, hv, hl, hc, hm, h⟩ := h
  refine ⟨a, len, cap, hv, hl, hc, hm, fun i x hx => ?_⟩
  obtain ⟨b, ha, hs, u, hu, hev⟩ := h i x hx
  exact ⟨b, ha, hs, u, hw.cell hu, hev⟩
/-- A slice that came in, readable when the call began. -/
def AV.sl (w : World) (sz : Nat) (xs : List AV) : AV := .q fun v => Rd w sz v xs

/-- A readable place: its cells. -/
def PtrTo (xs : List AV) (w : World) (v : Value) : Prop :=
  ∃ b : Addr, v = .pointer (some b) ∧ b.spot = none ∧ ∀ (i : Nat) (x : AV), xs[i]? = some x → ∃ u, w.cell? ⟨b.block, b.off + i, none⟩ = some u ∧ Ev x u
theorem mono_ptrTo (xs : List AV) : Mono (PtrTo xs) := by
  intro w w' v hw ⟨b, hv, hs, h⟩
  refine ⟨b, hv, hs, fun i x hx => ?_⟩
  obtain ⟨u, hu, hev⟩ := h i x hx
  exact ⟨u, hw.cell hu, hev⟩
def AV.ptr (xs : List AV) : AV := .p (PtrTo xs)

/-- Nothing that was there has turned but the blocks of a list. -/
structure Mod (w w' : World) (gs : List Nat) : Prop where
  os : w'.os = w.os
  tape : w'.tape = w.tape
  output : w'.output = w.output
  size : w.heap.size ≤ w'.heap.size
  block : ∀ k, k < w.heap.size → k ∉ gs → w'.heap[k]? = w.heap[k]?
theorem Mod.refl (w : World) (gs : List Nat) : Mod w w gs := ⟨rfl, rfl, rfl, Nat.le_refl _, fun _ _ _ => rfl⟩
theorem Mod.ext {a b c : World} {gs : List Nat} (h : Mod a b gs) (k : Ext b c) : Mod a c gs :=
  ⟨k.os.trans h.os, k.tape.trans h.tape, k.output.trans h.output, Nat.le_trans h.size k.size, fun i hi hn => (RowKit.Below.block k i (Nat.lt_of_lt_of_le hi h.size)).trans (h.block i hi hn)⟩
theorem Mod.trans {a b c : World} {gs ks : List Nat} (h : Mod a b gs) (k : Mod b c ks) (hk : ∀ i ∈ ks, i ∈ gs ∨ a.heap.size ≤ i) : Mod a c gs :=
  ⟨k.os.trans h.os, k.tape.trans h.tape, k.output.trans h.output, Nat.le_trans h.size k.size, fun i hi hn => (k.block i (Nat.lt_of_lt_of_le hi h.size) (fun hm => by rcases hk i hm with h1 | h1; exact hn h1; omega)).trans (h.block i hi hn)⟩
theorem Mod.to_ext {w w' : World} (h : Mod w w' []) : Ext w w' := ⟨h.os, h.tape, h.output, h.size, fun k hk => h.block k hk (by simp)⟩
theorem Mod.of_ext {w w' : World} (h : Ext w w') (gs : List Nat) : Mod w w' gs := (Mod.refl w gs).ext h

/-- A predicate on worlds that stands while nothing that was there turns but blocks of cells. -/
class RStab (R : World → Prop) : Prop where
  stab : ∀ {w w' : World} {gs : List Nat}, R w → Mod w w' gs → (∀ g ∈ gs, ∃ c T f, w.heap[g]? = some (.cells c T f)) → R w'
instance : RStab (fun _ => True) := ⟨fun _ _ _ => trivial⟩
variable {R : World → Prop}
/-- The state of a call that began in w0 and may write the blocks gs: what it owns, and what else holds. -/
structure StR (R : World → Prop) (w0 : World) (gs : List Nat) (H : List Ent) (w : World) : Prop where
  mod : Mod w0 w gs
  own : ∀ e ∈ H, (e.g ∈ gs ∨ w0.heap.size ≤ e.g) ∧ OwnE w e
  nodup : (H.map (·.g)).Nodup
  r : R w
abbrev St (w0 : World) (gs : List Nat) (H : List Ent) (w : World) : Prop := StR (fun _ => True) w0 gs H w
instance [RStab R] (w0 : World) (gs : List Nat) (H : List Ent) : Cl (StR R w0 gs H) where
  ext := fun h hw => ⟨h.mod.ext hw, fun e he => ⟨(h.own e he).1, (h.own e he).2.ext hw⟩, h.nodup, RStab.stab h.r (Mod.of_ext hw []) (fun _ hg => by cases hg)⟩
theorem StR.start {w0 : World} {H : List Ent} (ho : ∀ e ∈ H, OwnE w0 e) (hn : (H.map (·.g)).Nodup) (hr : R w0) : StR R w0 (H.map (·.g)) H w0 :=
  ⟨Mod.refl _ _, fun e he => ⟨.inl (List.mem_map_of_mem he), ho e he⟩, hn, hr⟩
theorem StR.ext0 {w0 w : World} {H : List Ent} (h : StR R w0 [] H w) : Ext w0 w := h.mod.to_ext
/-- Fewer blocks are kept in mind. -/
theorem StR.weak {w0 w : World} {gs : List Nat} {H H' : List Ent} (h : StR R w0 gs H w) (hs : H'.Sublist H) : StR R w0 gs H' w :=
  ⟨h.mod, fun e he => h.own e (hs.subset he), h.nodup.sublist (hs.map _), h.r⟩
theorem StR.perm {w0 w : World} {gs : List Nat} {H H' : List Ent} (h : StR R w0 gs H w) (hp : H'.Perm H) : StR R w0 gs H' w :=
  ⟨h.mod, fun e he => h.own e (hp.subset he), ((hp.map _).nodup_iff).2 h.nodup, h.r⟩
theorem StR.rd {w0 w : World} {H : List Ent} {sz : Nat} {v : Value} {xs : List AV} (h : StR R w0 [] H w) (hr : Rd w0 sz v xs) : Rd w sz v xs := hr.ext h.ext0
variable [RStab R]
/-- A new block. -/
theorem StR.new {w0 w w' : World} {gs : List Nat} {H : List Ent} {e : Ent} (h : StR R w0 gs H w) (hw : Ext w w') (hg : w.heap.size ≤ e.g) (ho : OwnE w' e) : StR R w0 gs (e :: H) w' := by
  refine ⟨h.mod.ext hw, fun x hx => ?_, ?_, RStab.stab h.r (Mod.of_ext hw []) (fun _ hg => by cases hg)⟩
  · rcases List.mem_cons.1 hx with rfl | hx
    · exact ⟨.inr (Nat.le_trans h.mod.size hg), ho⟩
    · exact ⟨(h.own x hx).1, (h.own x hx).2.ext hw⟩
  · refine List.nodup_cons.2 ⟨fun hm => ?_, h.nodup⟩
    obtain ⟨x, hx, hxg⟩ := List.mem_map.1 hm
    have h1 := (h.own x hx).2.lt
    have h2 : x.g = e.g := hxg
    omega
/-- What a call that writes some of the owned blocks leaves. -/
theorem StR.call {w0 w w' : World} {gs : List Nat} {A B H : List Ent} (h : StR R w0 gs (A ++ H) w) (hw : Mod w w' (A.map (·.g)))
    (hb : ∀ e ∈ B, OwnE w' e ∧ (e.g ∈ A.map (·.g) ∨ w.heap.size ≤ e.g)) (hn : (B.map (·.g)).Nodup) : StR R w0 gs (B ++ H) w' := by
  have hnd := h.nodup
  rw [List.map_append, List.nodup_append] at hnd
  have hA : ∀ g ∈ A.map (·.g), g ∈ gs ∨ w0.heap.size ≤ g := fun g hg => by
    obtain ⟨e, he, rfl⟩ := List.mem_map.1 hg
    exact (h.own e (by simp [he])).1
  refine ⟨h.mod.trans hw hA, fun x hx => ?_, ?_, RStab.stab h.r hw (fun g hg => ?_)⟩
  · rcases List.mem_append.1 hx with hx | hx
    · have := hb x hx
      exact ⟨this.2.elim (hA _) (fun hg => .inr (Nat.le_trans h.mod.size hg)), this.1⟩
    · have hx' := h.own x (by simp [hx])
      exact ⟨hx'.1, hx'.2.of_heap (hw.block _ hx'.2.lt (fun hm => hnd.2.2 _ hm _ (List.mem_map_of_mem hx) rfl))⟩
  · rw [List.map_append, List.nodup_append]
    refine ⟨hn, hnd.2.1, fun a ha b hb' hab => ?_⟩
    subst hab
    obtain ⟨e, he, rfl⟩ := List.mem_map.1 ha
    rcases (hb e he).2 with h1 | h1
    · exact hnd.2.2 _ h1 _ hb' rfl
    · obtain ⟨x, hx, hxe⟩ := List.mem_map.1 hb'
      have := (h.own x (by simp [hx])).2.lt
      omega
  · obtain ⟨e, he, rfl⟩ := List.mem_map.1 hg
    obtain ⟨cur, hb, _⟩ := (h.own e (by simp [he])).2
    exact ⟨_, _, _, hb⟩

theorem mod_setCell (w : World) (g i : Nat) (u : Value) : Mod w (w.setCell ⟨g, i, none⟩ u) [g] := by
  refine ⟨rfl, rfl, rfl, by simp [World.setCell], fun k hk hn => ?_⟩
  simp at hn
  simp only [World.setCell, Array.getElem?_modify]
  rw [if_neg (fun e => hn e.symm)]
theorem own_setCell {w : World} {e : Ent} (h : OwnE w e) {i : Nat} {x : AV} {u : Value} (hi : i < e.csz) (hu : Ev x u) : OwnE (w.setCell ⟨e.g, i, none⟩ u) { e with xs := e.xs.set i x } := by
  obtain ⟨cur, hb, hs, hc⟩ := h
  refine ⟨cur.setIfInBounds i u, ?_, by simp [hs], fun j y hj => ?_⟩
  · simp only [World.setCell, Array.getElem?_modify, hb]
    simp
  · simp only [List.getElem?_set] at hj
    split at hj
    · rename_i he
      subst he
      split at hj
      · cases hj; exact ⟨u, by simp [hs, hi], hu⟩
      · cases hj
    · rename_i hne
      obtain ⟨y', hy', hev⟩ := hc j y hj
      exact ⟨y', by rw [Array.getElem?_setIfInBounds_ne hne]; exact hy', hev⟩
end Go.Ab
namespace Go.Ab
variable {R : World → Prop} [RStab R]
class TyU (P : Program) (t : TypeId) (d : outParam TypeDesc) : Prop where
  h : P.underlying t = some d
class TyI (P : Program) (t : TypeId) (z : outParam Value) (sz bytes : outParam Nat) : Prop where
  h : ∃ i, P.info? t = some i ∧ i.zero = some z ∧ i.size = sz ∧ i.bytes = bytes
def aggD : TypeDesc → Bool
  | .struct _ | .array _ _ => true
  | _ => false
theorem run_isAgg {P : Program} {t : TypeId} {d : TypeDesc} (h : P.underlying t = some d) (w : World) : (isAgg t).run P w = .ok (aggD d) w := by
  cases d <;> simp [isAgg, run_underlying h, aggD]
theorem run_size {P : Program} {t : TypeId} {z : Value} {sz b : Nat} (h : TyI P t z sz b) (w : World) : (sizeOf t).run P w = .ok sz w := by
  obtain ⟨i, hi, _, hs, _⟩ := h.h
  simp [sizeOf, typeInfo, hi, hs]
theorem run_zero {P : Program} {t : TypeId} {z : Value} {sz b : Nat} (h : TyI P t z sz b) (w : World) : (zeroValue t).run P w = .ok z w := by
  obtain ⟨i, hi, hz, _⟩ := h.h
  simp [zeroValue, typeInfo, hi, hz]

section
variable {P : Program} {S : World → Prop} {e : Env} {dst : Option Tmp} {ty : TypeId} {pos : String} {after : Array Edge} {guard : Option (Nat × Bool)}
theorem zay {x : Operand} {v : AV} (hx : e.ev x = some v) : OpJ P S e ⟨dst, .move x, ty, pos, after, guard⟩ v :=
  opj_value fun a w _ h => ⟨a.eval x, w, by simp [execOp], Ext.refl _, h x (by simp [Op.operands]) v hx⟩
theorem zaz {x : Operand} {v : AV} (hx : e.ev x = some v) : OpJ P S e ⟨dst, .assign x, ty, pos, after, guard⟩ v :=
  opj_value fun a w _ h => ⟨a.eval x, w, by simp [execOp], Ext.refl _, h x (by simp [Op.operands]) v hx⟩
theorem zca {c x y : Operand} {v : AV} (hc : e.ev c = some (.raw (.bool true))) (hx : e.ev x = some v) : OpJ P S e ⟨dst, .pick c x y, ty, pos, after, guard⟩ v :=
  opj_value fun a w _ h => by
    have h1 := (h c (by simp [Op.operands]) _ hc).inv_raw
    exact ⟨a.eval x, w, by simp [execOp, h1, asBool], Ext.refl _, h x (by simp [Op.operands]) v hx⟩
theorem zcb {c x y : Operand} {v : AV} (hc : e.ev c = some (.raw (.bool false))) (hy : e.ev y = some v) : OpJ P S e ⟨dst, .pick c x y, ty, pos, after, guard⟩ v :=
  opj_value fun a w _ h => by
    have h1 := (h c (by simp [Op.operands]) _ hc).inv_raw
    exact ⟨a.eval y, w, by simp [execOp, h1, asBool], Ext.refl _, h y (by simp [Op.operands]) v hy⟩
/-- '+', '-', '*' on whole numbers, in range. -/
def arithI (op : BinOp) (x y : Int) : Int := match op with
  | .add => x + y
  | .sub => x - y
  | .mul => x * y
  | _ => 0
def isArithI : BinOp → Bool
  | .add | .sub | .mul => true
  | _ => false
theorem opj_int {op : BinOp} {t t' : TypeId} {X Y : Operand} {x y : Int} (hop : isArithI op = true) (hx : e.ev X = some (.raw (.int .i64 x))) (hy : e.ev Y = some (.raw (.int .i64 y)))
    (hr : -9223372036854775808 ≤ arithI op x y ∧ arithI op x y ≤ 9223372036854775807) : OpJ P S e ⟨dst, .binOp op t X Y t', ty, pos, after, guard⟩ (.raw (.int .i64 (arithI op x y))) :=
  opj_value fun a w _ h => by
    have h1 := (h X (by simp [Op.operands]) _ hx).inv_raw
    have h2 := (h Y (by simp [Op.operands]) _ hy).inv_raw
    refine ⟨_, w, ?_, Ext.refl _, .raw⟩
    have hw : IntKind.i64.wrap (arithI op x y) = arithI op x y := IntWalk.i64_in _ hr
    cases op <;> first | (cases hop; done) | (simp only [arithI] at hw; simp [execOp, h1, h2, eqGuard, binOp, Op.intArith, hw, arithI])
/-- Comparisons of whole numbers. -/
def cmpI (op : BinOp) (x y : Int) : Bool := match op with
  | .eql => x == y
  | .neq => x != y
  | .lss => decide (x < y)
  | .leq => decide (x ≤ y)
  | .gtr => decide (x > y)
  | .geq => decide (x ≥ y)
  | _ => false
theorem opj_icmp {op : BinOp} {t t' : TypeId} {X Y : Operand} {k : IntKind} {x y : Int} (hop : isCmp op = true) (hx : e.ev X = some (.raw (.int k x))) (hy : e.ev Y = some (.raw (.int k y))) :
    OpJ P S e ⟨dst, .binOp op t X Y t', ty, pos, after, guard⟩ (.raw (.bool (cmpI op x y))) :=
  opj_value fun a w _ h => by
    have h1 := (h X (by simp [Op.operands]) _ hx).inv_raw
    have h2 := (h Y (by simp [Op.operands]) _ hy).inv_raw
    refine ⟨_, w, ?_, Ext.refl _, .raw⟩
    cases op <;> first | (cases hop; done) | simp [execOp, h1, h2, eqGuard, binOp, Op.intCmp, cmpI]
theorem opj_quo {t t' : TypeId} {X Y : Operand} {x y : Int} (hx : e.ev X = some (.raw (.int .i64 x))) (hy : e.ev Y = some (.raw (.int .i64 y)))
    (h0 : 0 ≤ x) (h1 : 1 ≤ y) (hb : x ≤ 9223372036854775807) : OpJ P S e ⟨dst, .binOp .quo t X Y t', ty, pos, after, guard⟩ (.raw (.int .i64 (x / y))) :=
  opj_value fun a w _ h => by
    have hX := (h X (by simp [Op.operands]) _ hx).inv_raw
    have hY := (h Y (by simp [Op.operands]) _ hy).inv_raw
    refine ⟨_, w, ?_, Ext.refl _, .raw⟩
    have hd : x.tdiv y = x / y := Int.tdiv_eq_ediv_of_nonneg h0
    have hle : x / y ≤ x := Int.ediv_le_self _ h0
    have hge : 0 ≤ x / y := Int.ediv_nonneg h0 (by omega)
    have hw : IntKind.i64.wrap (x / y) = x / y := IntWalk.i64_in _ ⟨by omega, by omega⟩
    have hne : ¬ (y = 0) := by omega
    simp [execOp, hX, hY, eqGuard, binOp, Op.intDiv, hne, hd, hw]
theorem zcq {t t' : TypeId} {X Y : Operand} {x y : Int} (hx : e.ev X = some (.raw (.int .i64 x))) (hy : e.ev Y = some (.raw (.int .i64 y)))
    (h0 : 0 ≤ x) (h1 : 1 ≤ y) : OpJ P S e ⟨dst, .binOp .rem t X Y t', ty, pos, after, guard⟩ (.raw (.int .i64 (x % y))) :=
  opj_value fun a w _ h => by
    have hX := (h X (by simp [Op.operands]) _ hx).inv_raw
    have hY := (h Y (by simp [Op.operands]) _ hy).inv_raw
    refine ⟨_, w, ?_, Ext.refl _, .raw⟩
    have hd : x.tmod y = x % y := Int.tmod_eq_emod_of_nonneg h0
    have hne : ¬ (y = 0) := by omega
    simp [execOp, hX, hY, eqGuard, binOp, Op.intDiv, hne, hd]
theorem opj_bcmp {op : BinOp} {t t' : TypeId} {X Y : Operand} {x y : Bool} [hu : TyU P t .bool] (hop : op = .eql ∨ op = .neq) (hx : e.ev X = some (.raw (.bool x))) (hy : e.ev Y = some (.raw (.bool y))) :
    OpJ P S e ⟨dst, .binOp op t X Y t', ty, pos, after, guard⟩ (.raw (.bool (if op = .eql then x == y else !(x == y)))) :=
  opj_value fun a w _ h => by
    have h1 := (h X (by simp [Op.operands]) _ hx).inv_raw
    have h2 := (h Y (by simp [Op.operands]) _ hy).inv_raw
    refine ⟨_, w, ?_, Ext.refl _, .raw⟩
    rcases hop with rfl | rfl
    · simp [execOp, h1, h2, eqGuard, run_eql_bool w t x y hu.h]
    · simp [execOp, h1, h2, eqGuard, run_neq_bool w t x y hu.h]
theorem zcc {t : TypeId} {X : Operand} {x : Bool} (hx : e.ev X = some (.raw (.bool x))) : OpJ P S e ⟨dst, .unOp .not t X, ty, pos, after, guard⟩ (.raw (.bool (!x))) :=
  opj_value fun a w _ h => by
    have h1 := (h X (by simp [Op.operands]) _ hx).inv_raw
    exact ⟨_, w, by simp [execOp, h1, Op.unary], Ext.refl _, .raw⟩
theorem zba {op : BinOp} {t t' : TypeId} {X Y : Operand} {k : FloatKind} {x y : FV} (hop : isArith op = true) (hx : e.ev X = some (.f k x)) (hy : e.ev Y = some (.f k y)) :
    OpJ P S e ⟨dst, .binOp op t X Y t', ty, pos, after, guard⟩ (.f k (fbin op k x y)) :=
  opj_value fun a w _ h => by
    obtain ⟨p, h1, e1, _⟩ := (h X (by simp [Op.operands]) _ hx).inv_f
    obtain ⟨q, h2, e2, _⟩ := (h Y (by simp [Op.operands]) _ hy).inv_f
    obtain ⟨r, w', hr, hq, hv, hl⟩ := run_fbinop P w op hop t k p q
    refine ⟨.float k r, w', ?_, Ext.of_quiet hq, Rel.f' hl (by rw [hv, e1, e2])⟩
    cases op <;> first | (cases hop; done) | simp [execOp, h1, h2, eqGuard, hr]
theorem zbd {op : BinOp} {t t' : TypeId} {X Y : Operand} {k : FloatKind} {x y : FV} (hop : isCmp op = true) (hx : e.ev X = some (.f k x)) (hy : e.ev Y = some (.f k y)) :
    OpJ P S e ⟨dst, .binOp op t X Y t', ty, pos, after, guard⟩ (.raw (.bool (cmpB op (fcmp k x y)))) :=
  opj_value fun a w _ h => by
    obtain ⟨p, h1, e1, _⟩ := (h X (by simp [Op.operands]) _ hx).inv_f
    obtain ⟨q, h2, e2, _⟩ := (h Y (by simp [Op.operands]) _ hy).inv_f
    refine ⟨_, w, ?_, Ext.refl _, .raw⟩
    rw [← e1, ← e2]
    have hr := run_fcmp P w op hop t k p q
    cases op <;> first | (cases hop; done) | simp [execOp, h1, h2, eqGuard, hr]
theorem opj_fconv {src dt : TypeId} {X : Operand} {s d : FloatKind} {x : FV} [hs : TyU P src (.float s)] [hd : TyU P dt (.float d)] (hx : e.ev X = some (.f s x)) (hok : ConvOk s d x) :
    OpJ P S e ⟨dst, .convert src dt X, ty, pos, after, guard⟩ (.f d (fconv s d x)) :=
  opj_value fun a w _ h => by
    obtain ⟨p, h1, e1, hb⟩ := (h X (by simp [Op.operands]) _ hx).inv_f
    obtain ⟨r, w', hr, hq, hv, hl⟩ := run_fconv P w s d p hb (by rw [e1]; exact hok)
    refine ⟨.float d r, w', ?_, Ext.of_quiet hq, Rel.f' hl (by rw [hv, e1])⟩
    simp [execOp, h1, convert, run_underlying hs.h, run_underlying hd.h, hr]
theorem nearest_f_ok (d : FloatKind) (n : Int) : (d.decode (d.nearest n)).isNaN = false := write_not_nan d.format (.number (n < 0) n.natAbs 0) rfl
theorem zby {src dt : TypeId} {X : Operand} {k k' : IntKind} {d : FloatKind} {x : Int} [hs : TyU P src (.int k)] [hd : TyU P dt (.float d)] (hx : e.ev X = some (.raw (.int k' x))) :
    OpJ P S e ⟨dst, .convert src dt X, ty, pos, after, guard⟩ (.f d (some (d.nearest x))) :=
  opj_value fun a w _ h => by
    have h1 := (h X (by simp [Op.operands]) _ hx).inv_raw
    refine ⟨.float d (d.nearest x), w, ?_, Ext.refl _, Rel.f' (d.format.write_lt (.number (x < 0) x.natAbs 0)) (fv_some (nearest_f_ok d x))⟩
    simp [execOp, h1, convert, run_underlying hs.h, run_underlying hd.h, Conv.intToFloat]
theorem opj_len_sl {R0 : World → Prop} {X : Operand} {w0 : World} {H : List Ent} {sz : Nat} {xs : List AV} {t t2 : TypeId} {b : Nat} {z : Value} {el : TypeId} [hu : TyU P t (.slice el)] [hi : TyI P el z sz b] (h0 : 0 < sz) (hx : e.ev X = some (AV.sl w0 sz xs)) :
    OpJ P (StR R0 w0 [] H) e ⟨dst, .call { callee := .builtin .len, args := #[X], argTypes := #[t] }, t2, pos, after, guard⟩ (.raw (.int .i64 ((xs.length / sz : Nat) : Int))) :=
  opj_value fun a w _ h => by
    have h1 := (h X (by simp [Op.operands, Call.operands]) _ hx).inv_q
    obtain ⟨ad, len, cap, hv, hl, _, _, _⟩ := h1
    refine ⟨_, w, ?_, Ext.refl _, .raw⟩
    have : xs.length / sz = len := by rw [hl]; exact Nat.mul_div_cancel _ h0
    rw [this]
    simp [execOp, resolve, invoke, builtin, Builtin.len_, run_underlying hu.h, hv, goInt]
theorem zbn {X : Operand} {ad : Option Addr} {n cap : Nat} {t t2 : TypeId} {el : TypeId} [hu : TyU P t (.slice el)] (hx : e.ev X = some (.raw (.slice ad n cap))) :
    OpJ P S e ⟨dst, .call { callee := .builtin .len, args := #[X], argTypes := #[t] }, t2, pos, after, guard⟩ (.raw (.int .i64 (n : Int))) :=
  opj_value fun a w _ h => by
    have h1 := (h X (by simp [Op.operands, Call.operands]) _ hx).inv_raw
    exact ⟨_, w, by simp [execOp, resolve, invoke, builtin, Builtin.len_, run_underlying hu.h, h1, goInt], Ext.refl _, .raw⟩
theorem addr_add (b : Addr) (hb : b.spot = none) (n : Nat) : b.add n = ⟨b.block, b.off + n, none⟩ := by
  unfold Addr.add
  split
  · subst_vars; cases b; simp_all
  · cases b; simp_all
/-- An element of a slice that came in: its place. -/
theorem opj_index_sl {R0 : World → Prop} {X I : Operand} {w0 : World} {H : List Ent} {sz : Nat} {xs : List AV} {i : Int} {t : TypeId} {b : Nat} {z : Value} {el : TypeId} [hu : TyU P t (.slice el)] [hi : TyI P el z sz b]
    (hx : e.ev X = some (AV.sl w0 sz xs)) (hI : e.ev I = some (.raw (.int .i64 i))) (h0 : 0 ≤ i) (hlt : (i.toNat + 1) * sz ≤ xs.length) (hsz : 0 < sz) :
    OpJ P (StR R0 w0 [] H) e ⟨dst, .indexAddr t X I, ty, pos, after, guard⟩ (AV.ptr (xs.drop (i.toNat * sz))) :=
  opj_value fun a w hS h => by
    have h1 := hS.rd (h X (by simp [Op.operands]) _ hx).inv_q
    have h2 := (h I (by simp [Op.operands]) _ hI).inv_raw
    obtain ⟨ad, len, cap, hv, hl, hc, hm, hr⟩ := h1
    have hne : xs[i.toNat * sz]? = some (xs[i.toNat * sz]'(by rw [Nat.add_mul] at hlt; omega)) := by simp
    obtain ⟨bb, hbb, hsp, _⟩ := hr _ _ hne
    subst hbb
    have hil : i.toNat < len := by
      rw [hl] at hlt
      exact Nat.lt_of_succ_le (Nat.le_of_mul_le_mul_right hlt hsz)
    have hil' : i < (len : Int) := by omega
    have hP : PtrTo (xs.drop (i.toNat * sz)) w (.pointer (some (bb.add (i.toNat * sz)))) := by
      rw [addr_add bb hsp]
      refine ⟨_, rfl, rfl, fun j x hj => ?_⟩
      rw [List.getElem?_drop] at hj
      obtain ⟨b', hb', _, u, hu', hev⟩ := hr _ _ hj
      cases hb'
      exact ⟨u, by rw [Nat.add_assoc]; exact hu', hev⟩
    refine ⟨_, w, ?_, Ext.refl _, .p (mono_ptrTo _) hP⟩
    simp [execOp, h2, hv, Instr.indexAt, asIntOf, run_underlying hu.h, run_size hi, h0, hil']
/-- An element of a slice that the call owns: its place. -/
theorem zbw {X I : Operand} {g n cap : Nat} {i : Int} {t : TypeId} {sz b : Nat} {z : Value} {el : TypeId} [hu : TyU P t (.slice el)] [hi : TyI P el z sz b]
    (hx : e.ev X = some (.raw (.slice (some ⟨g, 0, none⟩) n cap))) (hI : e.ev I = some (.raw (.int .i64 i))) (h0 : 0 ≤ i) (hlt : i < n) :
    OpJ P S e ⟨dst, .indexAddr t X I, ty, pos, after, guard⟩ (.raw (.pointer (some ⟨g, i.toNat * sz, none⟩))) :=
  opj_value fun a w hS h => by
    have h1 := (h X (by simp [Op.operands]) _ hx).inv_raw
    have h2 := (h I (by simp [Op.operands]) _ hI).inv_raw
    refine ⟨_, w, ?_, Ext.refl _, .raw⟩
    have := addr_add ⟨g, 0, none⟩ rfl (i.toNat * sz)
    simp only [Nat.zero_add] at this
    simp [execOp, h1, h2, Instr.indexAt, asIntOf, run_underlying hu.h, run_size hi, h0, hlt, this]
theorem run_loadVar_cell {t : TypeId} {d : TypeDesc} (hd : P.underlying t = some d) (ha : aggD d = false) {w : World} {ad : Addr} {u : Value} (hc : w.cell? ad = some u) : (loadVar t ad).run P w = .ok u w := by
  simp [loadVar, run_isAgg hd, ha, hc]
theorem opj_load_ptr {X : Operand} {x : AV} {xs : List AV} {t : TypeId} {d : TypeDesc} [hd : TyU P t d] (ha : aggD d = false) (hx : e.ev X = some (AV.ptr xs)) (h0 : xs[0]? = some x) :
    OpJ P S e ⟨dst, .load t X, ty, pos, after, guard⟩ x :=
  opj_value fun a w hS h => by
    obtain ⟨_, bb, hv, hsp, hr⟩ := (h X (by simp [Op.operands]) _ hx).inv_p
    obtain ⟨u, hu, hev⟩ := hr 0 x h0
    have hbb : (⟨bb.block, bb.off + 0, none⟩ : Addr) = bb := by cases bb; simp_all
    rw [hbb] at hu
    exact ⟨u, w, by simp [execOp, hv, Instr.loadAt, Instr.sureAddr, run_loadVar_cell hd.h ha hu], Ext.refl _, hev w⟩
/-- A cell of a block that the call owns. -/
theorem opj_load_own {R0 : World → Prop} {X : Operand} {x : AV} {w0 : World} {gs : List Nat} {H : List Ent} {en : Ent} {i : Nat} {t : TypeId} {d : TypeDesc} [hd : TyU P t d] (ha : aggD d = false)
    (hx : e.ev X = some (.raw (.pointer (some ⟨en.g, i, none⟩)))) (hm : en ∈ H) (h0 : en.xs[i]? = some x) : OpJ P (StR R0 w0 gs H) e ⟨dst, .load t X, ty, pos, after, guard⟩ x :=
  opj_value fun a w hS h => by
    have h1 := (h X (by simp [Op.operands]) _ hx).inv_raw
    obtain ⟨u, hu, hev⟩ := (hS.own en hm).2.cell h0
    exact ⟨u, w, by simp [execOp, h1, Instr.loadAt, Instr.sureAddr, run_loadVar_cell hd.h ha hu], Ext.refl _, hev w⟩
theorem zbp {X : Operand} {k : FloatKind} {x y : FV} {ts : Array TypeId} (hx : e.ev X = some (.c k x y)) : OpJ P S e ⟨dst, .call { callee := .builtin .real, args := #[X], argTypes := ts }, ty, pos, after, guard⟩ (.f k x) :=
  opj_value fun a w _ h => by
    obtain ⟨p, q, h1, e1, _, hp, _⟩ := (h X (by simp [Op.operands, Call.operands]) _ hx).inv_c
    exact ⟨.float k p, w, by simp [execOp, resolve, invoke, builtin, run_real, h1], Ext.refl _, Rel.f' hp e1⟩
theorem zbq {X : Operand} {k : FloatKind} {x y : FV} {ts : Array TypeId} (hx : e.ev X = some (.c k x y)) : OpJ P S e ⟨dst, .call { callee := .builtin .imag, args := #[X], argTypes := ts }, ty, pos, after, guard⟩ (.f k y) :=
  opj_value fun a w _ h => by
    obtain ⟨p, q, h1, _, e2, _, hq⟩ := (h X (by simp [Op.operands, Call.operands]) _ hx).inv_c
    exact ⟨.float k q, w, by simp [execOp, resolve, invoke, builtin, run_imag, h1], Ext.refl _, Rel.f' hq e2⟩
theorem zbr {X Y : Operand} {k : FloatKind} {x y : FV} {ts : Array TypeId} (hx : e.ev X = some (.f k x)) (hy : e.ev Y = some (.f k y)) : OpJ P S e ⟨dst, .call { callee := .builtin .complex, args := #[X, Y], argTypes := ts }, ty, pos, after, guard⟩ (.c k x y) :=
  opj_value fun a w _ h => by
    obtain ⟨p, h1, e1, hp⟩ := (h X (by simp [Op.operands, Call.operands]) _ hx).inv_f
    obtain ⟨q, h2, e2, hq⟩ := (h Y (by simp [Op.operands, Call.operands]) _ hy).inv_f
    exact ⟨.complex k p q, w, by simp [execOp, resolve, invoke, builtin, run_complex, h1, h2], Ext.refl _, Rel.c' hp hq e1 e2⟩
theorem zbz {X : Operand} {l : List AV} {i : Nat} {x : AV} (hx : e.ev X = some (.tup l)) (hi : l[i]? = some x) : OpJ P S e ⟨dst, .extract X i, ty, pos, after, guard⟩ x :=
  opj_value fun a w _ h => by
    obtain ⟨vs, h1, hr⟩ := (h X (by simp [Op.operands]) _ hx).inv_tup
    obtain ⟨v, hv, hrv⟩ := hr.get hi
    exact ⟨v, w, by simp [execOp, h1, Instr.extract, hv], Ext.refl _, hrv⟩
theorem opj_nilCheck {X : Operand} {ad : Addr} (hx : e.ev X = some (.raw (.pointer (some ad)))) : OpJ P S e ⟨dst, .nilCheck X, ty, pos, after, guard⟩ (.raw (.pointer (some ad))) :=
  opj_value fun a w _ h => by
    have h1 := (h X (by simp [Op.operands]) _ hx).inv_raw
    exact ⟨_, w, by simp [execOp, h1], Ext.refl _, .raw⟩
end
end Go.Ab
namespace Go.Ab
section
variable {P : Program} {N : Nat} {S : World → Prop} {e : Env} {Q : Exit → Env → World → Prop} {ops : Array Oper} {l : List Oper} {o : Oper}
/-- The code, from a frame that is known as e in a world of S, comes to Q. -/
def WS (P : Program) (N : Nat) (c : Code) (e : Env) (S : World → Prop) (Q : Exit → Env → World → Prop) : Prop :=
  ∀ a w, S w → Fr N e a w → c.wp P (fun x a' w' => ∃ e', Fr N e' a' w' ∧ Q x e' w') a w
/-- What is left of a region whose order is that of the text. -/
def RS (P : Program) (N : Nat) (ops : Array Oper) (l : List Oper) (e : Env) (S : World → Prop) (Q : Exit → Env → World → Prop) : Prop :=
  ∀ a w, S w → Fr N e a w → wpList P ops (fun x a' w' => ∃ e', Fr N e' a' w' ∧ Q x e' w') l a w
/-- Control has come to x. -/
def Done (x : Exit) (e : Env) (S : World → Prop) (Q : Exit → Env → World → Prop) : Prop := ∀ w, S w → Q x e w
/-- What is to come behind a statement. -/
def Then (P : Program) (N : Nat) (c : Code) (Q : Exit → Env → World → Prop) : Exit → Env → World → Prop
  | .normal, e, w => WS P N c e (fun x => x = w) Q
  | x, e, w => Q x e w
def InBlock (id : Nat) (Q : Exit → Env → World → Prop) : Exit → Env → World → Prop
  | .exit j, e, w => if j = id then Q .normal e w else Q (.exit j) e w
  | x, e, w => Q x e w

theorem WS.mono {c : Code} {Q' : Exit → Env → World → Prop} (h : WS P N c e S Q) (hq : ∀ x e w, Q x e w → Q' x e w) : WS P N c e S Q' :=
  fun a w hS hF => Code.wp_mono (fun _ _ _ ⟨e', hF', hq'⟩ => ⟨e', hF', hq _ _ _ hq'⟩) (h a w hS hF)
theorem WS.st {c : Code} {S' : World → Prop} (h : WS P N c e S' Q) (hS : ∀ w, S w → S' w) : WS P N c e S Q := fun a w hw hF => h a w (hS w hw) hF
theorem RS.st {S' : World → Prop} (h : RS P N ops l e S' Q) (hS : ∀ w, S w → S' w) : RS P N ops l e S Q := fun a w hw hF => h a w (hS w hw) hF
theorem zdc {c d : Code} (h : WS P N c e S (Then P N d Q)) : WS P N (.seq c d) e S Q := by
  intro a w hS hF
  refine wp_seq (Code.wp_mono (fun x a' w' ⟨e', hF', hq⟩ => ?_) (h a w hS hF))
  cases x <;> first | exact hq a' w' rfl hF' | exact ⟨e', hF', hq⟩
theorem zdd {id : Nat} (h : RS P N ops ops.toList e S Q) : WS P N (.region id ops false) e S Q :=
  fun a w hS hF => wp_region_list (h a w hS hF)
theorem zdf (h : Done .normal e S Q) : WS P N .skip e S Q := fun _ w hS hF => wp_skip ⟨e, hF, h w hS⟩
theorem zdg (h : Done .ret e S Q) : WS P N .ret e S Q := fun _ w hS hF => wp_ret ⟨e, hF, h w hS⟩
theorem zdh {id : Nat} (h : Done (.exit id) e S Q) : WS P N (.exit id) e S Q := fun _ w hS hF => wp_exit ⟨e, hF, h w hS⟩
theorem zde {id : Nat} {c : Code} (h : WS P N c e S (InBlock id Q)) : WS P N (.block id c) e S Q := by
  intro a w hS hF
  refine wp_block (Code.wp_mono (fun x a' w' ⟨e', hF', hq⟩ => ?_) (h a w hS hF))
  cases x <;> first | exact ⟨e', hF', hq⟩ | skip
  rename_i j
  simp only [InBlock] at hq
  simp only [Exit.inBlock]
  split
  · rename_i hj; rw [if_pos hj] at hq; exact ⟨e', hF', hq⟩
  · rename_i hj; rw [if_neg hj] at hq; exact ⟨e', hF', hq⟩
theorem ws_cond {c : Operand} {x y : Code} {b : Bool} (hc : e.ev c = some (.raw (.bool b))) (ht : b = true → WS P N x e S Q) (hf : b = false → WS P N y e S Q) : WS P N (.cond c x y) e S Q :=
  fun a w hS hF => wp_cond_split (hF.eval hc).inv_raw (fun h => ht h a w hS hF) (fun h => hf h a w hS hF)
theorem zdi {c : Operand} {x y : Code} (hc : e.ev c = some (.raw (.bool true))) (h : WS P N x e S Q) : WS P N (.cond c x y) e S Q := ws_cond hc (fun _ => h) (fun h => by cases h)
theorem zdj {c : Operand} {x y : Code} (hc : e.ev c = some (.raw (.bool false))) (h : WS P N y e S Q) : WS P N (.cond c x y) e S Q := ws_cond hc (fun h => by cases h) (fun _ => h)

/-- The end of a loop's round. -/
def Round {ι : Type} (E : ι → Env) (SI : ι → World → Prop) (ok : ι → Prop) (μ : ι → Nat) (i : ι) (Q : Exit → Env → World → Prop) : Exit → Env → World → Prop
  | .normal, e, w => ∃ j, ok j ∧ μ j < μ i ∧ Env.sub (E j) e ∧ SI j w
  | x, e, w => Q x e w
theorem ws_loop {ι : Type} (E : ι → Env) (SI : ι → World → Prop) (ok : ι → Prop) (μ : ι → Nat) (i0 : ι) {c : Code} (h0 : ok i0) (he : Env.sub (E i0) e) (hS : ∀ w, S w → SI i0 w)
    (hr : ∀ i, ok i → WS P N c (E i) (SI i) (Round E SI ok μ i Q)) : WS P N (.loop c) e S Q := by
  intro a w hw hF b k cs
  have key : ∀ n i, μ i ≤ n → ok i → ∀ a w, SI i w → Fr N (E i) a w →
      ∃ x a' w', (∃ e', Fr N e' a' w' ∧ Q x e' w') ∧ Arrives P (lone (b.at a (.code c :: .inLoop c :: k)) cs w) b k cs x a' w' := by
    intro n
    induction n using Nat.strongRecOn with
    | _ n ih =>
      intro i hi hok a w hs hf
      obtain ⟨x, a1, w1, ⟨e1, hF1, hq⟩, harr⟩ := hr i hok a w hs hf b (.inLoop c :: k) cs
      cases x with
      | normal =>
        obtain ⟨j, hj, hlt, hsub, hsj⟩ := hq
        obtain ⟨x2, a2, w2, hq2, harr2⟩ := ih (μ j) (by omega) j (Nat.le_refl _) hj a1 w1 hsj (hF1.sub hsub)
        exact ⟨x2, a2, w2, hq2, .of_steps (Steps.trans harr (.one step_inLoop)) harr2⟩
      | exit id => exact ⟨_, a1, w1, ⟨e1, hF1, hq⟩, .pass (x := .inLoop c) rfl (fun _ _ => .inl (by simp)) harr⟩
      | goto id => exact ⟨_, a1, w1, ⟨e1, hF1, hq⟩, .pass (x := .inLoop c) rfl (fun _ _ => .inl (by simp)) harr⟩
      | ret => exact ⟨_, a1, w1, ⟨e1, hF1, hq⟩, .pass (x := .inLoop c) rfl (fun _ _ => .inl (by simp)) harr⟩
      | panic ch => exact ⟨_, a1, w1, ⟨e1, hF1, hq⟩, .pass (x := .inLoop c) rfl (fun _ _ => .inl (by simp)) harr⟩
      | outgrown => exact ⟨_, a1, w1, ⟨e1, hF1, hq⟩, .pass (x := .inLoop c) rfl (fun _ _ => .inl (by simp)) harr⟩
  obtain ⟨x, a', w', hq, harr⟩ := key (μ i0) i0 (Nat.le_refl _) h0 a w (hS w hw) (hF.sub he)
  exact ⟨x, a', w', hq, .of_steps (.one step_loop) harr⟩

theorem zcs {d : Code} (h : WS P N d e S Q) : Done .normal e S (Then P N d Q) := fun _ hw => h.st fun _ hx => hx ▸ hw
theorem zct {d : Code} (h : Done .ret e S Q) : Done .ret e S (Then P N d Q) := fun w hw => h w hw
theorem zcu {d : Code} {id : Nat} (h : Done (.exit id) e S Q) : Done (.exit id) e S (Then P N d Q) := fun w hw => h w hw
theorem zcv {id : Nat} (h : Done .normal e S Q) : Done .normal e S (InBlock id Q) := fun w hw => h w hw
theorem zcw {id : Nat} (h : Done .ret e S Q) : Done .ret e S (InBlock id Q) := fun w hw => h w hw
theorem zcx {id : Nat} (h : Done .normal e S Q) : Done (.exit id) e S (InBlock id Q) := fun w hw => by
  show if id = id then _ else _
  rw [if_pos rfl]; exact h w hw
theorem zda {ι : Type} {E : ι → Env} {SI : ι → World → Prop} {ok : ι → Prop} {μ : ι → Nat} {i : ι} {id : Nat} (h : Done (.exit id) e S Q) : Done (.exit id) e S (Round E SI ok μ i Q) := fun w hw => h w hw
theorem done_round {ι : Type} {E : ι → Env} {SI : ι → World → Prop} {ok : ι → Prop} {μ : ι → Nat} {i : ι} (j : ι) (hj : ok j) (hlt : μ j < μ i) (hs : Env.sub (E j) e) (hS : ∀ w, S w → SI j w) :
    Done .normal e S (Round E SI ok μ i Q) := fun w hw => ⟨j, hj, hlt, hs, hS w hw⟩

theorem zah (h : Done .normal e S Q) : RS P N ops [] e S Q := fun _ w hS hF => ⟨e, hF, h w hS⟩
theorem Fr.operands {N : Nat} {e : Env} {a : Act} {w : World} (h : Fr N e a w) (o : Oper) : ∀ x ∈ o.op.operands.toList, ∀ y, e.ev x = some y → Rel w y (a.eval x) := fun _ _ _ hy => h.eval hy
theorem zaa {d : Tmp} {op : Op} {ty : TypeId} {pos : String} {after : Array Edge} {v : AV} [Cl S] (hd : Nat.blt d N = true) (hj : OpJ P S e ⟨some d, op, ty, pos, after, none⟩ v) (h : RS P N ops l ((d, v) :: e) S Q) :
    RS P N ops (⟨some d, op, ty, pos, after, none⟩ :: l) e S Q := by
  intro a w hS hF
  refine wpList_plain rfl fun K hK => ?_
  refine hj a w K _ hS (hF.operands _) fun u w' hw hr => hK _ _ ?_
  exact h _ w' (Cl.ext hS hw) (Fr.put (some d) (hF.ext hw) (fun _ h => by cases h; exact Nat.le_of_ble_eq_true hd) hr)
/-- The slot that a guard looks at. -/
def gslot (ops : Array Oper) (j : Nat) : Option Tmp := (ops[j]?).bind (·.dst)
theorem yielded_of {N : Nat} {e : Env} {a : Act} {w : World} (hF : Fr N e a w) {j d : Nat} {b : Bool} (hy : gslot ops j = some d) (he : e.look d = some (.raw (.bool b))) : yielded ops a.tmps j = some b := by
  obtain ⟨u, hu, hr⟩ := hF.rel d _ he
  have := hr.inv_raw
  subst this
  unfold yielded
  rw [show ((ops[j]?).bind (·.dst)) = some d from hy]
  simp [hu]
theorem zaj {d : Tmp} {op : Op} {ty : TypeId} {pos : String} {after : Array Edge} {j y : Nat} {b c : Bool} (hd : Nat.blt d N = true) (hy : gslot ops j = some y) (he : e.look y = some (.raw (.bool c))) (hbc : (c == b) = false)
    (h : RS P N ops l ((d, .raw undef) :: e) S Q) : RS P N ops (⟨some d, op, ty, pos, after, some (j, b)⟩ :: l) e S Q := by
  intro a w hS hF
  refine wpList_step fun K hK => ?_
  rw [if_neg (by simpa [Region.wanted, yielded_of hF hy he] using hbc)]
  exact hK _ _ (h _ w hS (Fr.put (some d) hF (fun _ h => by cases h; exact Nat.le_of_ble_eq_true hd) .raw))
end
end Go.Ab
namespace Go.Ab
variable {R : World → Prop} [RStab R]
/-- Called with such arguments, owning 'pre', the function returns such a value ('mk y' for some good y), owning 'post y'; no other block that was there has turned. -/
def FnH {X : Type} (P : Program) (f : FuncId) (A : World → List AV) (pre : List Ent) (mk : X → AV) (post : X → List Ent) (good : X → Prop) : Prop :=
  ∀ w vs, RelL w (A w) vs → (∀ e ∈ pre, OwnE w e) → (pre.map (·.g)).Nodup → Calls P f vs.toArray w fun x w' =>
    ∃ v y, x = .returned v ∧ good y ∧ Rel w' (mk y) v ∧ Mod w w' (pre.map (·.g)) ∧ (∀ e ∈ post y, OwnE w' e ∧ (e.g ∈ pre.map (·.g) ∨ w.heap.size ≤ e.g)) ∧ ((post y).map (·.g)).Nodup
/-- A function that only computes. -/
def Fn (P : Program) (f : FuncId) (A : World → List AV) (r : AV) : Prop := FnH (X := Unit) P f A [] (fun _ => r) (fun _ => []) (fun _ => True)

section
variable {P : Program} {N : Nat} {S : World → Prop} {e : Env} {Q : Exit → Env → World → Prop} {ops : Array Oper} {l : List Oper} {o : Oper}
variable {X : Type} {f : FuncId} {A : World → List AV} {pre : List Ent} {mk : X → AV} {post : X → List Ent} {good : X → Prop} {fn : Func} {w0 : World} {gs : List Nat} {H : List Ent}
def envOf : Nat → List AV → Env
  | _, [] => []
  | k, a :: l => (k, a) :: envOf (k + 1) l
theorem envOf_look : ∀ (k : Nat) (l : List AV) (t : Nat) (v : AV), (envOf k l).look t = some v → k ≤ t ∧ l[t - k]? = some v
  | _, [], _, _, h => by cases h
  | k, a :: l, t, v, h => by
    simp only [envOf, Env.look] at h
    cases hb : Nat.beq k t with
    | true =>
      have := Nat.eq_of_beq_eq_true hb
      subst this
      simp only [hb, Option.some.injEq] at h
      subst h
      exact ⟨Nat.le_refl _, by simp⟩
    | false =>
      simp only [hb] at h
      have hne : k ≠ t := fun e => by subst e; simp at hb
      obtain ⟨h1, h2⟩ := envOf_look (k + 1) l t v h
      refine ⟨by omega, ?_⟩
      rw [show t - k = (t - (k + 1)) + 1 from by omega]
      simpa using h2

/-- What a body must come to. -/
def Ret (P : Program) (fn : Func) (N : Nat) (w0 : World) (gs : List Nat) (mk : X → AV) (post : X → List Ent) (good : X → Prop) (x : Exit) (e : Env) (w : World) : Prop :=
  (x = .ret ∨ x = .normal) ∧ ∃ y, good y ∧ Mod w0 w gs ∧ (∀ x ∈ post y, OwnE w x ∧ (x.g ∈ gs ∨ w0.heap.size ≤ x.g)) ∧ ((post y).map (·.g)).Nodup ∧
    ∀ a, Fr N e a w → ∃ v, (results fn a.tmps).run P w = .ok v w ∧ Rel w (mk y) v

theorem fn_intro {c : Code} (hf : P.funcs[f]? = some fn) (hb : fn.body = some c) (hN : fn.ntmps = N) (hA : ∀ w, (A w).length ≤ N)
    (h : ∀ w0, WS P N c (envOf 0 (A w0)) (St w0 (pre.map (·.g)) pre) (Ret P fn N w0 (pre.map (·.g)) mk post good)) : FnH P f A pre mk post good := by
  intro w vs hr ho hn
  refine calls_of_wp hf hb (Code.wp_mono ?_ (h w _ w (StR.start ho hn trivial) ?_))
  · intro x a' w' ⟨e', hF, hx, y, hy, hm, hp, hpn, hres⟩
    obtain ⟨v, hv, hrv⟩ := hres a' hF
    have : a'.defers = [] ∧ ∃ v, (results fn a'.tmps).run P w' = .ok v w' ∧
        (∃ v' y, Ending.returned v = .returned v' ∧ good y ∧ Rel w' (mk y) v' ∧ Mod w w' (pre.map (·.g)) ∧ (∀ e ∈ post y, OwnE w' e ∧ (e.g ∈ pre.map (·.g) ∨ w.heap.size ≤ e.g)) ∧ ((post y).map (·.g)).Nodup) :=
      ⟨hF.defers, v, hv, v, y, rfl, hy, hrv, hm, hp, hpn⟩
    rcases hx with rfl | rfl <;> exact this
  · have hlen := hr.length
    have hle := hA w
    refine ⟨rfl, ?_, fun t v ht => ?_⟩
    · simp [hN]; omega
    · obtain ⟨_, hv⟩ := envOf_look 0 (A w) t v ht
      obtain ⟨u, hu, hru⟩ := hr.get hv
      refine ⟨u, ?_, hru⟩
      have hlt : t < vs.length := (List.getElem?_eq_some_iff.1 hu).1
      simp only [Nat.sub_zero] at hu
      simp [Array.getElem?_append, hlt]
      exact (List.getElem?_eq_some_iff.1 hu).2

theorem done_ret1 {R0 : World → Prop} {t : Tmp} (hr : fn.results = #[.tmp t]) (y : X) (ht : e.look t = some (mk y)) (hy : good y) (hs : (post y).Sublist H) :
    Done .ret e (StR R0 w0 gs H) (Ret P fn N w0 gs mk post good) := fun w hw =>
  ⟨.inl rfl, y, hy, hw.mod, fun x hx => ⟨(hw.own x (hs.subset hx)).2, (hw.own x (hs.subset hx)).1⟩, (hw.weak hs).nodup, fun a hF => by
    obtain ⟨u, hu, hru⟩ := hF.rel t _ ht
    exact ⟨u, by rw [results_tmp hr]; simp [hu], hru⟩⟩
theorem done_ret2 {R0 : World → Prop} {t1 t2 : Tmp} {x1 x2 : AV} (hr : fn.results = #[.tmp t1, .tmp t2]) (y : X) (hmk : mk y = .tup [x1, x2]) (h1 : e.look t1 = some x1) (h2 : e.look t2 = some x2) (hy : good y) (hs : (post y).Sublist H) :
    Done .ret e (StR R0 w0 gs H) (Ret P fn N w0 gs mk post good) := fun w hw =>
  ⟨.inl rfl, y, hy, hw.mod, fun x hx => ⟨(hw.own x (hs.subset hx)).2, (hw.own x (hs.subset hx)).1⟩, (hw.weak hs).nodup, fun a hF => by
    obtain ⟨u1, hu1, hr1⟩ := hF.rel t1 _ h1
    obtain ⟨u2, hu2, hr2⟩ := hF.rel t2 _ h2
    refine ⟨.tuple #[u1, u2], by rw [results_tmp2 hr]; simp [hu1, hu2], ?_⟩
    rw [hmk]
    exact .tup (vs := [u1, u2]) (.cons hr1 (.cons hr2 .nil))⟩

/-- The arguments at the call are as the contract takes them. -/
def Takes (S : World → Prop) (args : List AV) (A : World → List AV) : Prop := ∀ w vs, S w → RelL w args vs → RelL w (A w) vs
theorem Takes.nil : Takes S [] (fun _ => []) := fun _ _ _ h => h
theorem Takes.same {x : AV} {args : List AV} {A : World → List AV} (h : Takes S args A) : Takes S (x :: args) (fun w => x :: A w) := fun w vs hS hr => by
  obtain ⟨v, r, rfl, hv, hr⟩ := hr.inv_cons
  exact .cons hv (h w r hS hr)
theorem Takes.sl {R0 : World → Prop} {sz : Nat} {xs : List AV} {args : List AV} {A : World → List AV} (h : Takes (StR R0 w0 [] H) args A) : Takes (StR R0 w0 [] H) (AV.sl w0 sz xs :: args) (fun w => AV.sl w sz xs :: A w) := fun w vs hS hr => by
  obtain ⟨v, r, rfl, hv, hr⟩ := hr.inv_cons
  exact .cons (.q (hS.rd hv.inv_q)) (h w r hS hr)

def evL (e : Env) : List Operand → Option (List AV)
  | [] => some []
  | x :: l => match e.ev x, evL e l with
    | some v, some r => some (v :: r)
    | _, _ => none
theorem evL_rel {w : World} {a : Act} : ∀ {xs : List Operand} {vs : List AV}, evL e xs = some vs → (∀ x ∈ xs, ∀ y, e.ev x = some y → Rel w y (a.eval x)) → RelL w vs (xs.map a.eval)
  | [], vs, h, _ => by cases h; exact .nil
  | x :: l, vs, h, hr => by
    simp only [evL] at h
    split at h
    · rename_i v r hv hrl
      cases h
      exact .cons (hr x (by simp) v hv) (evL_rel hrl fun y hy => hr y (by simp [hy]))
    · cases h

theorem run_callFn {fid : FuncId} {fnc : Func} {w : World} {args : Array Value} (hf : P.funcs[fid]? = some fnc) (hb : fnc.body.isSome = true) (hn : (fnc.name == "runtime.NumGoroutine") = false) :
    (callFunc fid args).run P w = .ok (.enter fid args) w := by
  have h1 : ¬ fnc.body = none := fun h => by rw [h] at hb; cases hb
  have h2 : ¬ fnc.name = "runtime.NumGoroutine" := by simpa using hn
  simp [callFunc, hf, h1, h2]

/-- That function number f has a body. -/
class HasBody (P : Program) (f : FuncId) : Prop where
  h : ∃ fn, P.funcs[f]? = some fn ∧ fn.body.isSome = true ∧ (fn.name == "runtime.NumGoroutine") = false

theorem zci {c : FuncId} {xs : List Operand} {F : Operand} {args : List AV} {r : AV} {dst : Option Tmp} {ts : Array TypeId} {ty : TypeId} {pos : String} {after : Array Edge} {guard : Option (Nat × Bool)} {A : World → List AV} [hb : HasBody P c]
    (hF : e.ev F = some (.raw (.func (.func c) #[] #[]))) (hx : evL e xs = some args) (hc : Fn P c A r) (ht : Takes S args A) :
    OpJ P S e ⟨dst, .call { callee := .value F, args := xs.toArray, argTypes := ts }, ty, pos, after, guard⟩ r := by
  intro a w K Q hS ho hK
  obtain ⟨fnc, hf, hbd, hn⟩ := hb.h
  have h1 := (ho F (by simp [Op.operands, Call.operands]) _ hF).inv_raw
  have hrl : RelL w (A w) (xs.map a.eval) := ht w _ hS (evL_rel hx fun x hxm => ho x (by simp [Op.operands, Call.operands, hxm]))
  have hcall := hc w _ hrl (fun _ h => by cases h) List.Pairwise.nil
  unfold Oper.wp
  have hrun : (execOp a.eval ⟨dst, .call { callee := .value F, args := xs.toArray, argTypes := ts }, ty, pos, after, guard⟩).run P w = .ok (.enter c (xs.map a.eval).toArray) w := by
    simp [execOp, resolve, h1, Deferred.ofValue, invoke, run_callFn hf hbd hn]
  rw [hrun]
  refine Calls.mono hcall fun x w' ⟨v, y, hx', _, hrv, hm, _, _⟩ => ?_
  subst hx'
  exact hK v w' hm.to_ext hrv

/-- What does not speak of a world. -/
def AV.unk : AV := .q fun _ => True
def AV.keep : AV → AV
  | .f k x => .f k x
  | .c k x y => .c k x y
  | .raw v => .raw v
  | .q φ => .q φ
  | .agg l => match AV.stillL l with
    | true => .agg l
    | false => AV.unk
  | .tup l => match AV.stillL l with
    | true => .tup l
    | false => AV.unk
  | .p _ => AV.unk
theorem AV.keep_still {v : AV} (h : v.still = true) : v.keep = v := by
  cases v <;> first | rfl | (simp [AV.still] at h; done) | (simp only [AV.still] at h; simp only [AV.keep, h])
theorem AV.keep_not {v : AV} (h : v.still = false) : v.keep = AV.unk := by
  cases v <;> first | (simp [AV.still] at h; done) | (simp only [AV.still] at h; simp only [AV.keep, h]) | rfl
def Env.keep : Env → Env
  | [] => []
  | (d, v) :: r => (d, v.keep) :: Env.keep r
theorem Env.look_keep : ∀ {e : Env} {t : Nat} {v : AV}, e.keep.look t = some v → v = AV.unk ∧ (∃ u, e.look t = some u) ∨ e.look t = some v ∧ v.still = true
  | [], _, _, h => by cases h
  | (d, u) :: r, t, v, h => by
    simp only [Env.keep, Env.look] at h ⊢
    cases hb : Nat.beq d t with
    | true =>
      simp only [hb, Option.some.injEq] at h ⊢
      cases hs : u.still with
      | true => rw [AV.keep_still hs] at h; subst h; exact .inr ⟨rfl, hs⟩
      | false => rw [AV.keep_not hs] at h; subst h; exact .inl ⟨rfl, u, rfl⟩
    | false => simp only [hb] at h ⊢; exact Env.look_keep h
theorem Fr.keep {a : Act} {w w' : World} (h : Fr N e a w) : Fr N e.keep a w' :=
  ⟨h.defers, h.size, fun t v ht => by
    rcases Env.look_keep ht with ⟨rfl, u, hu⟩ | ⟨h1, hs⟩
    · obtain ⟨x, hx, _⟩ := h.rel t u hu
      exact ⟨x, hx, .q trivial⟩
    · obtain ⟨u, hu, hr⟩ := h.rel t v h1
      exact ⟨u, hu, hr.any hs⟩⟩

/-- A call that makes or writes blocks. -/
theorem rs_call {c : FuncId} {xs : List Operand} {F : Operand} {args : List AV} {dst : Tmp} {ts : Array TypeId} {ty : TypeId} {pos : String} {after : Array Edge} [hb : HasBody P c] {A : World → List AV}
    (hc : FnH P c A pre mk post good) (hF' : e.ev F = some (.raw (.func (.func c) #[] #[]))) (hx : evL e xs = some args) (ht : Takes (StR R w0 gs (pre ++ H)) args A) (hd : Nat.blt dst N = true)
    (h : ∀ y, good y → RS P N ops l ((dst, mk y) :: e.keep) (StR R w0 gs (post y ++ H)) Q) :
    RS P N ops (⟨some dst, .call { callee := .value F, args := xs.toArray, argTypes := ts }, ty, pos, after, none⟩ :: l) e (StR R w0 gs (pre ++ H)) Q := by
  intro a w hS hF
  refine wpList_plain rfl fun K hK => ?_
  obtain ⟨fnc, hf, hbd, hn⟩ := hb.h
  have h1 := (hF.eval hF').inv_raw
  have hrl : RelL w (A w) (xs.map a.eval) := ht w _ hS (evL_rel hx fun x _ y hy => hF.eval hy)
  have hnd := hS.nodup
  rw [List.map_append, List.nodup_append] at hnd
  have hcall := hc w _ hrl (fun x hx => (hS.own x (by simp [hx])).2) hnd.1
  unfold Oper.wp
  have hrun : (execOp a.eval ⟨some dst, .call { callee := .value F, args := xs.toArray, argTypes := ts }, ty, pos, after, none⟩).run P w = .ok (.enter c (xs.map a.eval).toArray) w := by
    simp [execOp, resolve, h1, Deferred.ofValue, invoke, run_callFn hf hbd hn]
  rw [hrun]
  refine Calls.mono hcall fun x w' ⟨v, y, hx', hy, hrv, hm, hp, hpn⟩ => ?_
  subst hx'
  exact hK _ _ (h y hy _ w' (hS.call hm hp hpn) (Fr.put (some dst) hF.keep (fun _ h => by cases h; exact Nat.le_of_ble_eq_true hd) hrv))
end
end Go.Ab
namespace Go.Ab
theorem cut_zero (way : Ieee.Toward) (neg : Bool) (n : Nat) : way.cut neg n 0 = n := by
  unfold Ieee.Toward.cut
  cases way <;> simp [Nat.mod_one]

theorem log2_le_of_lt {m k : Nat} (hm : m ≠ 0) (h : m < 2 ^ (k + 1)) : m.log2 ≤ k := by
  have := (Nat.log2_lt hm).2 h
  omega

theorem lin_sum (q k B : Nat) (h1 : q ≤ 1149 * B) (h2 : k < 2 * B) : q + k < 1151 * B := by omega
/-- A 32-bit number has a 64-bit one. -/
theorem wide_not_inf (s : Bool) (m : Nat) (e : Int) (hm : m < 2 ^ 24) (he1 : -149 ≤ e) (he2 : e ≤ 104) :
    (Ieee.double.read (Ieee.double.nearest s m e)).isInfinity = false := by
  unfold Ieee.Format.nearest
  dsimp only
  split
  · cases s <;> decide +kernel
  · rename_i h0
    have hl : m.log2 ≤ 23 := log2_le_of_lt h0 hm
    have hlp : Ieee.double.leastPlace = -1074 := by decide
    have hfb : Ieee.double.fractionBits = 52 := rfl
    rw [hlp, hfb]
    have hmax : max (e + (m.log2 : Int) - ((52 : Nat) : Int)) (-1074) = e + m.log2 - 52 := by omega
    rw [hmax]
    have h1 : (e - (e + (m.log2 : Int) - 52)).toNat = 52 - m.log2 := by omega
    have h2 : ((e + (m.log2 : Int) - 52) - e).toNat = 0 := by omega
    rw [h1, h2, cut_zero]
    have hlt : m <<< (52 - m.log2) < 2 ^ 53 := by
      rw [Nat.shiftLeft_eq]
      have hml : m < 2 ^ (m.log2 + 1) := Nat.lt_log2_self
      have h3 : m * 2 ^ (52 - m.log2) < 2 ^ (m.log2 + 1) * 2 ^ (52 - m.log2) := Nat.mul_lt_mul_of_pos_right hml (Nat.two_pow_pos _)
      rw [← Nat.pow_add] at h3
      have h4 : m.log2 + 1 + (52 - m.log2) = 53 := by omega
      rw [h4] at h3
      exact h3
    generalize m <<< (52 - m.log2) = kept at *
    have hr : (e + (m.log2 : Int) - 52 - -1074).toNat ≤ 1149 := by omega
    generalize (e + (m.log2 : Int) - 52 - -1074).toNat = r at *
    have hb : Ieee.double.binade = 2 ^ 52 := rfl
    have hi : Ieee.double.infRung = 2047 * 2 ^ 52 := by decide
    rw [hb, hi]
    have hq : r * 2 ^ 52 ≤ 1149 * 2 ^ 52 := Nat.mul_le_mul_right _ hr
    have hk2 : kept < 2 * 2 ^ 52 := hlt
    have hsum : r * 2 ^ 52 + kept < 1151 * 2 ^ 52 := lin_sum _ _ _ hq hk2
    have hrung : r * 2 ^ 52 + kept < 2047 * 2 ^ 52 := Nat.lt_of_lt_of_le hsum (Nat.mul_le_mul_right _ (by decide))
    rw [Nat.min_eq_left (Nat.le_of_lt hrung)]
    clear hsum hq hk2 hlt hr
    generalize r * 2 ^ 52 + kept = rung at *
    have hs : rung < Ieee.double.signWeight := Nat.lt_trans hrung (by decide)
    unfold Ieee.Format.read
    simp only [word_mod _ _ hs, hb, hi]
    split
    · rfl
    · simp [hrung, Ieee.Datum.isInfinity]

theorem single_number {b : Nat} {s : Bool} {m : Nat} {e : Int} (h : FloatKind.f32.decode b = .number s m e) : m < 2 ^ 24 ∧ -149 ≤ e ∧ e ≤ 104 := by
  unfold FloatKind.decode Ieee.Format.read at h
  have hb : FloatKind.f32.format.binade = 2 ^ 23 := rfl
  have hi : FloatKind.f32.format.infRung = 255 * 2 ^ 23 := by decide
  have hl : FloatKind.f32.format.leastPlace = -149 := by decide
  simp only [hb, hi, hl] at h
  have hmod : (b % FloatKind.f32.format.signWeight) % 2 ^ 23 < 2 ^ 23 := Nat.mod_lt _ (by decide)
  generalize b % FloatKind.f32.format.signWeight = rung at *
  split at h
  · cases h; omega
  · split at h
    · cases h
      refine ⟨by omega, by omega, ?_⟩
      have : rung / 2 ^ 23 < 255 := Nat.div_lt_of_lt_mul (by omega)
      omega
    · split at h <;> cases h

theorem wide_some (b : Nat) (hn : (FloatKind.f32.decode b).isNaN = false) : floatToFloatBits .f32 b .f64 ≠ none := by
  unfold floatToFloatBits
  rw [if_neg (by decide)]
  cases hd : FloatKind.f32.decode b with
  | nan s t => rw [hd] at hn; cases hn
  | infinity s => simp
  | number s m e =>
    obtain ⟨h1, h2, h3⟩ := single_number hd
    have := wide_not_inf s m e h1 h2 h3
    have h' : (FloatKind.f64.decode (FloatKind.f64.encode (.number s m e))).isInfinity = false := this
    simp [h']

/-- Widening is always told; of a value that is one of the kind. -/
def Is32 (x : FV) : Prop := ∀ b, x = some b → (FloatKind.f32.decode b).isNaN = false
theorem is32_fv (b : Nat) : Is32 (fv .f32 b) := by
  intro c h
  unfold fv at h
  split at h
  · cases h
  · rename_i hn; cases h; simpa using hn
theorem conv_wide {x : FV} (h : Is32 x) : ConvOk .f32 .f64 x := by
  cases x with
  | none => exact .inl rfl
  | some b => exact .inr (wide_some b (h b rfl))

theorem order_refl {k : FloatKind} {b : Nat} (h : (k.decode b).isNaN = false) : k.format.order b b = some .eq := by
  unfold Ieee.Format.order
  cases hd : k.format.read b with
  | nan s t => have : (k.decode b) = .nan s t := hd; rw [this] at h; cases h
  | infinity s => simp [Ieee.Datum.order]
  | number s m e => simp [Ieee.Datum.order]
end Go.Ab
namespace Go.Ab
variable {R : World → Prop} [RStab R]
section
variable {P : Program} {N : Nat} {S : World → Prop} {e : Env} {Q : Exit → Env → World → Prop} {ops : Array Oper} {l : List Oper} {o : Oper}
variable {w0 : World} {gs : List Nat} {H : List Ent} {dst : Option Tmp} {ty : TypeId} {pos : String} {after : Array Edge} {guard : Option (Nat × Bool)}
theorem zbb {t t' : TypeId} {X Y : Operand} {x y : Int} (hx : e.ev X = some (.raw (.int .i64 x))) (hy : e.ev Y = some (.raw (.int .i64 y)))
    (hr : -9223372036854775808 ≤ x + y ∧ x + y ≤ 9223372036854775807) : OpJ P S e ⟨dst, .binOp .add t X Y t', ty, pos, after, guard⟩ (.raw (.int .i64 (x + y))) := opj_int (op := .add) rfl hx hy hr
theorem zbc {t t' : TypeId} {X Y : Operand} {x y : Int} (hx : e.ev X = some (.raw (.int .i64 x))) (hy : e.ev Y = some (.raw (.int .i64 y)))
    (hr : -9223372036854775808 ≤ x - y ∧ x - y ≤ 9223372036854775807) : OpJ P S e ⟨dst, .binOp .sub t X Y t', ty, pos, after, guard⟩ (.raw (.int .i64 (x - y))) := opj_int (op := .sub) rfl hx hy hr
theorem opj_mul {t t' : TypeId} {X Y : Operand} {x y : Int} (hx : e.ev X = some (.raw (.int .i64 x))) (hy : e.ev Y = some (.raw (.int .i64 y)))
    (hr : -9223372036854775808 ≤ x * y ∧ x * y ≤ 9223372036854775807) : OpJ P S e ⟨dst, .binOp .mul t X Y t', ty, pos, after, guard⟩ (.raw (.int .i64 (x * y))) := opj_int (op := .mul) rfl hx hy hr
theorem zbe {t t' : TypeId} {X Y : Operand} {k : IntKind} {x y : Int} (hx : e.ev X = some (.raw (.int k x))) (hy : e.ev Y = some (.raw (.int k y))) :
    OpJ P S e ⟨dst, .binOp .lss t X Y t', ty, pos, after, guard⟩ (.raw (.bool (decide (x < y)))) := opj_icmp (op := .lss) rfl hx hy
theorem zbf {t t' : TypeId} {X Y : Operand} {k : IntKind} {x y : Int} (hx : e.ev X = some (.raw (.int k x))) (hy : e.ev Y = some (.raw (.int k y))) :
    OpJ P S e ⟨dst, .binOp .leq t X Y t', ty, pos, after, guard⟩ (.raw (.bool (decide (x ≤ y)))) := opj_icmp (op := .leq) rfl hx hy
theorem zbg {t t' : TypeId} {X Y : Operand} {k : IntKind} {x y : Int} (hx : e.ev X = some (.raw (.int k x))) (hy : e.ev Y = some (.raw (.int k y))) :
    OpJ P S e ⟨dst, .binOp .gtr t X Y t', ty, pos, after, guard⟩ (.raw (.bool (decide (y < x)))) := opj_icmp (op := .gtr) rfl hx hy
theorem zbh {t t' : TypeId} {X Y : Operand} {k : IntKind} {x y : Int} (hx : e.ev X = some (.raw (.int k x))) (hy : e.ev Y = some (.raw (.int k y))) :
    OpJ P S e ⟨dst, .binOp .geq t X Y t', ty, pos, after, guard⟩ (.raw (.bool (decide (y ≤ x)))) := opj_icmp (op := .geq) rfl hx hy
theorem zbi {t t' : TypeId} {X Y : Operand} {k : IntKind} {x y : Int} (hx : e.ev X = some (.raw (.int k x))) (hy : e.ev Y = some (.raw (.int k y))) :
    OpJ P S e ⟨dst, .binOp .eql t X Y t', ty, pos, after, guard⟩ (.raw (.bool (decide (x = y)))) := by
  have h := opj_icmp (P := P) (S := S) (e := e) (dst := dst) (ty := ty) (pos := pos) (after := after) (guard := guard) (op := .eql) (t := t) (t' := t') rfl hx hy
  have hb : cmpI .eql x y = decide (x = y) := by simp only [cmpI]; by_cases h : x = y <;> simp [h]
  rw [hb] at h; exact h
theorem zbj {t t' : TypeId} {X Y : Operand} {k : IntKind} {x y : Int} (hx : e.ev X = some (.raw (.int k x))) (hy : e.ev Y = some (.raw (.int k y))) :
    OpJ P S e ⟨dst, .binOp .neq t X Y t', ty, pos, after, guard⟩ (.raw (.bool (decide (x ≠ y)))) := by
  have h := opj_icmp (P := P) (S := S) (e := e) (dst := dst) (ty := ty) (pos := pos) (after := after) (guard := guard) (op := .neq) (t := t) (t' := t') rfl hx hy
  have hb : cmpI .neq x y = decide (x ≠ y) := by simp only [cmpI]; by_cases h : x = y <;> simp [h]
  rw [hb] at h; exact h
theorem zbk {t t' : TypeId} {X Y : Operand} {x y : Bool} [hu : TyU P t .bool] (hx : e.ev X = some (.raw (.bool x))) (hy : e.ev Y = some (.raw (.bool y))) :
    OpJ P S e ⟨dst, .binOp .eql t X Y t', ty, pos, after, guard⟩ (.raw (.bool (x == y))) := opj_bcmp (op := .eql) (.inl rfl) hx hy
/-- 'float64(x)' of a float32. -/
theorem zbx {src dt : TypeId} {X : Operand} {x : FV} [hs : TyU P src (.float .f32)] [hd : TyU P dt (.float .f64)] (hx : e.ev X = some (.f .f32 x)) :
    OpJ P S e ⟨dst, .convert src dt X, ty, pos, after, guard⟩ (.f .f64 (fconv .f32 .f64 x)) :=
  opj_value fun a w _ h => by
    obtain ⟨p, h1, e1, hb⟩ := (h X (by simp [Op.operands]) _ hx).inv_f
    obtain ⟨r, w', hr, hq, hv, hl⟩ := run_fconv P w .f32 .f64 p hb (conv_wide (is32_fv p))
    refine ⟨.float .f64 r, w', ?_, Ext.of_quiet hq, Rel.f' hl (by rw [hv, e1])⟩
    simp [execOp, h1, convert, run_underlying hs.h, run_underlying hd.h, hr]

theorem zbm {R0 : World → Prop} {α : Type} {m : α → AV} {L : List α} {X : Operand} {t t2 : TypeId} {b : Nat} {z : Value} {el : TypeId} [hu : TyU P t (.slice el)] [hi : TyI P el z 1 b] (hx : e.ev X = some (AV.sl w0 1 (L.map m))) :
    OpJ P (StR R0 w0 [] H) e ⟨dst, .call { callee := .builtin .len, args := #[X], argTypes := #[t] }, t2, pos, after, guard⟩ (.raw (.int .i64 (L.length : Int))) := by
  have h := opj_len_sl (P := P) (R0 := R0) (H := H) (dst := dst) (pos := pos) (after := after) (guard := guard) (t2 := t2) (hu := hu) (hi := hi) (by decide) hx
  simpa using h
theorem zbv {R0 : World → Prop} {α : Type} [Inhabited α] {m : α → AV} {L : List α} {X I : Operand} {i : Int} {t : TypeId} {b : Nat} {z : Value} {el : TypeId} [hu : TyU P t (.slice el)] [hi : TyI P el z 1 b]
    (hx : e.ev X = some (AV.sl w0 1 (L.map m))) (hI : e.ev I = some (.raw (.int .i64 i))) (h0 : 0 ≤ i) (hlt : i < (L.length : Int)) :
    OpJ P (StR R0 w0 [] H) e ⟨dst, .indexAddr t X I, ty, pos, after, guard⟩ (AV.ptr [m (L.getD i.toNat default)]) := by
  have h := opj_index_sl (P := P) (R0 := R0) (H := H) (dst := dst) (ty := ty) (pos := pos) (after := after) (guard := guard) (hu := hu) (hi := hi) hx hI h0 (by simp; omega) (by decide)
  intro a w K Q hS ho hK
  refine h a w K Q hS ho fun u w' hw hr => hK u w' hw ?_
  obtain ⟨_, bb, hv, hsp, hr⟩ := hr.inv_p
  refine .p (mono_ptrTo _) ⟨bb, hv, hsp, fun j x hj => ?_⟩
  cases j with
  | succ j => simp at hj
  | zero =>
    simp only [List.getElem?_cons_zero, Option.some.injEq] at hj
    subst hj
    refine hr 0 _ ?_
    have hlt' : i.toNat < L.length := by omega
    simp [List.getElem?_drop, List.getD, hlt']
theorem zbu {X : Operand} {x : AV} {t : TypeId} {d : TypeDesc} [hd : TyU P t d] (ha : aggD d = false) (hx : e.ev X = some (AV.ptr [x])) :
    OpJ P S e ⟨dst, .load t X, ty, pos, after, guard⟩ x := opj_load_ptr ha hx rfl
/-- A cell of an owned block. -/
theorem zcp {R0 : World → Prop} {α : Type} [Inhabited α] {m : α → AV} {L : List α} {X : Operand} {g : Nat} {T : TypeId} {c n : Nat} {t : TypeId} {d : TypeDesc} [hd : TyU P t d] (ha : aggD d = false)
    (hx : e.ev X = some (.raw (.pointer (some ⟨g, n, none⟩)))) (hm : (⟨g, T, L.map m, c⟩ : Ent) ∈ H) (h0 : n < L.length) : OpJ P (StR R0 w0 gs H) e ⟨dst, .load t X, ty, pos, after, guard⟩ (m (L.getD n default)) :=
  opj_load_own (en := ⟨g, T, L.map m, c⟩) ha hx hm (by simp [List.getD, h0])

theorem rs_fresh {d : Tmp} {op : Op} {val : Nat → AV} {en : Nat → Ent} (hd : Nat.blt d N = true) (hen : ∀ g, (en g).g = g)
    (h : ∀ a w, StR R w0 gs H w → Fr N e a w → ∃ g u w', (execOp a.eval ⟨some d, op, ty, pos, after, none⟩).run P w = .ok (.value u) w' ∧ Ev (val g) u ∧ Ext w w' ∧ w.heap.size ≤ g ∧ OwnE w' (en g))
    (hk : ∀ g, RS P N ops l ((d, val g) :: e) (StR R w0 gs (en g :: H)) Q) : RS P N ops (⟨some d, op, ty, pos, after, none⟩ :: l) e (StR R w0 gs H) Q := by
  intro a w hS hF
  refine wpList_plain rfl fun K hK => ?_
  obtain ⟨g, u, w', hr, hu, hw, hlt, ho⟩ := h a w hS hF
  unfold Oper.wp
  rw [hr]
  exact hK _ _ (hk g _ w' (hS.new hw (by rw [hen]; exact hlt) ho) (Fr.put (some d) (hF.ext hw) (fun _ h => by cases h; exact Nat.le_of_ble_eq_true hd) (hu w')))
theorem ext_alloc_own {w : World} {T : TypeId} {xs : List AV} {cs : Array Value} (h : ∀ (i : Nat) (x : AV), xs[i]? = some x → ∃ u, cs[i]? = some u ∧ Ev x u) : OwnE (w.alloc (.cells cs T)) ⟨w.heap.size, T, xs, cs.size⟩ :=
  ⟨cs, heap_alloc_new w _, rfl, h⟩
theorem cv1_ev (v : Value) (h : okv1 v = true) : Ev (cv1 v) v := fun w => rel_cv1 w v h
/-- 'new(T)', a variable of its own. -/
theorem zal {d : Tmp} {el : TypeId} {z : Value} {sz b : Nat} [hi : TyI P el z sz b] (hd : Nat.blt d N = true) (hzo : z.cells.toList.all okv1 = true)
    (hk : ∀ g, RS P N ops l ((d, .raw (.pointer (some ⟨g, 0, none⟩))) :: e) (StR R w0 gs (⟨g, el, z.cells.toList.map cv1, z.cells.size⟩ :: H)) Q) :
    RS P N ops (⟨some d, .alloc el, ty, pos, after, none⟩ :: l) e (StR R w0 gs H) Q := by
  refine rs_fresh (val := fun g => .raw (.pointer (some ⟨g, 0, none⟩))) (en := fun g => ⟨g, el, z.cells.toList.map cv1, z.cells.size⟩) hd (fun _ => rfl) (fun a w hS hF => ?_) hk
  refine ⟨w.heap.size, _, w.alloc (.cells z.cells el), ?_, ev_raw _, Ext.alloc _ _, Nat.le_refl _, ext_alloc_own fun j x hj => ?_⟩
  · simp [execOp, Instr.alloc, run_zero hi, newVar, newRow]
  · simp only [List.getElem?_map, Option.map_eq_some_iff] at hj
    obtain ⟨v, hv, rfl⟩ := hj
    exact ⟨v, by simpa using hv, cv1_ev v (List.all_eq_true.1 hzo v (List.mem_of_getElem? hv))⟩
theorem zak {d : Tmp} {el : TypeId} {X : Operand} {xs : List AV} (hx : e.ev X = some (.agg xs)) (hs : AV.stillL xs = true) (hd : Nat.blt d N = true)
    (hk : ∀ g, RS P N ops l ((d, .raw (.pointer (some ⟨g, 0, none⟩))) :: e) (StR R w0 gs (⟨g, el, xs, xs.length⟩ :: H)) Q) :
    RS P N ops (⟨some d, .box el X, ty, pos, after, none⟩ :: l) e (StR R w0 gs H) Q := by
  refine rs_fresh (val := fun g => .raw (.pointer (some ⟨g, 0, none⟩))) (en := fun g => ⟨g, el, xs, xs.length⟩) hd (fun _ => rfl) (fun a w hS hF => ?_) hk
  obtain ⟨vs, hv, hr⟩ := (hF.eval hx).inv_agg
  refine ⟨w.heap.size, _, w.alloc (.cells (a.eval X).cells el), ?_, ev_raw _, Ext.alloc _ _, Nat.le_refl _, ?_⟩
  · simp [execOp, Instr.box, newVar, newRow]
  · have ho := ext_alloc_own (w := w) (T := el) (xs := xs) (cs := (a.eval X).cells) (fun j y hj => ?_)
    · have : (a.eval X).cells.size = xs.length := by rw [hv]; simp [Value.cells, hr.length]
      rw [this] at ho; exact ho
    · obtain ⟨v, hv', hrv⟩ := hr.get hj
      have hstill : y.still = true := by
        have : ∀ (l : List AV), AV.stillL l = true → ∀ x ∈ l, x.still = true := by
          intro l
          induction l with
          | nil => intro _ x hx; cases hx
          | cons a l ih => intro h x hx; simp only [AV.stillL, Bool.and_eq_true] at h; rcases List.mem_cons.1 hx with rfl | hx; exact h.1; exact ih h.2 x hx
        exact this xs hs y (List.mem_of_getElem? hj)
      exact ⟨v, by rw [hv]; simp [Value.cells, hv'], hrv.ev hstill⟩

def oneAV : AV → Bool
  | .f .. | .c .. => true
  | .raw (.agg _) | .raw (.tuple _) => false
  | .raw _ => true
  | _ => false
theorem oneAV_spec {x : AV} {w : World} {v : Value} (h : oneAV x = true) (hr : Rel w x v) : v.cells = #[v] ∧ v.oneCell' = true ∧ x.still = true := by
  cases hr <;> first | (simp [oneAV] at h; done) | exact ⟨rfl, rfl, rfl⟩ | skip
  cases v <;> first | (simp [oneAV] at h; done) | exact ⟨rfl, rfl, rfl⟩
/-- What is owned, in another order. -/
theorem RS.perm {R0 : World → Prop} {H' : List Ent} (h : RS P N ops l e (StR R0 w0 gs H') Q) (hp : H'.Perm H) : RS P N ops l e (StR R0 w0 gs H) Q := h.st fun _ hw => hw.perm hp
theorem RS.drop {R0 : World → Prop} {H' : List Ent} (h : RS P N ops l e (StR R0 w0 gs H') Q) (hp : H'.Sublist H) : RS P N ops l e (StR R0 w0 gs H) Q := h.st fun _ hw => hw.weak hp
theorem zai {d : Option Tmp} {op : Op} {j y : Nat} {b : Bool} (hy : gslot ops j = some y) (he : e.look y = some (.raw (.bool b))) (h : RS P N ops (⟨d, op, ty, pos, after, none⟩ :: l) e S Q) :
    RS P N ops (⟨d, op, ty, pos, after, some (j, b)⟩ :: l) e S Q := by
  intro a w hS hF
  have := h a w hS hF
  unfold wpList at this ⊢
  rw [if_pos (by simp [Region.wanted])] at this
  rw [if_pos (by simp [Region.wanted, yielded_of hF hy he])]
  exact this
theorem done_ret1B {R0 : World → Prop} {X : Type} {mk : X → AV} {post : X → List Ent} {good : X → Prop} {fn : Func} {t : Tmp} {b b' : Bool} (hr : fn.results = #[.tmp t]) (y : X) (ht : e.look t = some (.raw (.bool b))) (hmk : mk y = .raw (.bool b')) (hb : b = b') (hy : good y) (hs : (post y).Sublist H) :
    Done .ret e (StR R0 w0 gs H) (Ret P fn N w0 gs mk post good) := done_ret1 hr y (by rw [ht, hmk, hb]) hy hs

/-- A slice of the call's own, as an argument. -/
theorem Takes.own {R0 : World → Prop} {g n cap sz c : Nat} {T : TypeId} {xs : List AV} {args : List AV} {A : World → List AV} (hm : (⟨g, T, xs, c⟩ : Ent) ∈ H) (hn : xs.length = n * sz) (hc : n ≤ cap) (hx : cap ≤ maxLen) (h : Takes (StR R0 w0 gs H) args A) :
    Takes (StR R0 w0 gs H) (.raw (.slice (some ⟨g, 0, none⟩) n cap) :: args) (fun w => AV.sl w sz xs :: A w) := fun w vs hS hr => by
  obtain ⟨v, r, rfl, hv, hrr⟩ := hr.inv_cons
  have hv' := hv.inv_raw
  subst hv'
  refine .cons (.q ⟨_, n, cap, rfl, hn, hc, hx, fun i x hi => ⟨_, rfl, rfl, ?_⟩⟩) (h w r hS hrr)
  obtain ⟨u, hu, hev⟩ := (hS.own _ hm).2.cell hi
  exact ⟨u, by simpa using hu, hev⟩

section
variable {X : Type} {A : World → List AV} {mk : X → AV} {good : X → Prop} {c : FuncId} {xs : List Operand} {F : Operand} {args : List AV} {d : Tmp} {ts : Array TypeId} [hb : HasBody P c]
theorem rs_call1 {en : X → Ent} (hc : FnH P c A [] mk (fun y => [en y]) good) (hF : e.ev F = some (.raw (.func (.func c) #[] #[]))) (hx : evL e xs = some args) (ht : Takes (StR R w0 gs H) args A) (hd : Nat.blt d N = true)
    (h : ∀ y, good y → RS P N ops l ((d, mk y) :: e.keep) (StR R w0 gs (en y :: H)) Q) :
    RS P N ops (⟨some d, .call { callee := .value F, args := xs.toArray, argTypes := ts }, ty, pos, after, none⟩ :: l) e (StR R w0 gs H) Q := rs_call (H := H) hc hF hx ht hd h
end
theorem zdb {c : Code} (h : WS P N c e S Q) : WS P N c e S Q := h
theorem zcr {x : Exit} (h : Done x e S Q) : Done x e S Q := h
theorem zac {op : BinOp} {t t' : TypeId} {X Y : Operand} (h : RS P N ops (⟨dst, .binOp op t X Y t', ty, pos, after, guard⟩ :: l) e S Q) : RS P N ops (⟨dst, .binOp op t X Y t', ty, pos, after, guard⟩ :: l) e S Q := h
theorem zad {c : Call} (h : RS P N ops (⟨dst, .call c, ty, pos, after, guard⟩ :: l) e S Q) : RS P N ops (⟨dst, .call c, ty, pos, after, guard⟩ :: l) e S Q := h
end
end Go.Ab
namespace Go.Ab
/-- The operations that must come ahead of one, by an edge. -/
def directs (o : Oper) : List Nat := (o.after.toList.filter (Region.binds .any)).map (·.on)
/-- The slots that an operation looks at. -/
def looks (ops : Array Oper) (o : Oper) : List Nat :=
  (o.op.operands.toList.filterMap fun | .tmp t => some t | _ => none) ++ (match o.guard with | some (j, _) => (gslot ops j).toList | none => [])
inductive Must (ops : Array Oper) : Nat → Nat → Prop
  | one {i k : Nat} {o : Oper} : ops[k]? = some o → i ∈ directs o → Must ops i k
  | far {i j k : Nat} {o : Oper} : ops[k]? = some o → j ∈ directs o → Must ops i j → Must ops i k

def Listed (L : Array Bool) (i : Nat) : Prop := L.getD i false = true
/-- What is listed has all that it needs. -/
def Down (ops : Array Oper) (L : Array Bool) : Prop := ∀ k o, ops[k]? = some o → Listed L k → ∀ i ∈ directs o, Listed L i
theorem Must.listed {ops : Array Oper} {L : Array Bool} (hd : Down ops L) {i k : Nat} (h : Must ops i k) : (∀ o, ops[k]? = some o → ∀ j ∈ directs o, Listed L j) → Listed L i := by
  induction h with
  | one hk hi => intro h; exact h _ hk _ hi
  | far hk hj _ ih => intro h; exact ih fun o ho j' hj' => hd _ o ho (h _ hk _ hj) j' hj'

/-- The bits of a mask are operations that must come ahead. -/
theorem before_fold {ops : Array Oper} {k : Nat} {o : Oper} (hk : ops[k]? = some o) (acc : Array Nat) (hacc : ∀ j i, (acc.getD j 0).testBit i = true → Must ops i j) :
    ∀ (es : List Edge) (s : Nat), (∀ e ∈ es, e ∈ o.after.toList) → (∀ i, s.testBit i = true → Must ops i k) → ∀ i, (es.foldl (fun s e => if Region.binds .any e then s ||| 2 ^ e.on ||| acc.getD e.on 0 else s) s).testBit i = true → Must ops i k
  | [], _, _, hs, i, h => hs i h
  | e :: es, s, he, hs, i, h => by
    refine before_fold hk acc hacc es _ (fun x hx => he x (by simp [hx])) (fun i hi => ?_) i h
    dsimp only at hi
    split at hi
    · rename_i hb
      have hmem : e.on ∈ directs o := List.mem_map.2 ⟨e, List.mem_filter.2 ⟨he e (by simp), hb⟩, rfl⟩
      simp only [Nat.testBit_or, Bool.or_eq_true] at hi
      rcases hi with (hi | hi) | hi
      · exact hs i hi
      · have : i = e.on := by simpa [Nat.testBit_two_pow, eq_comm] using hi
        subst this; exact .one hk hmem
      · exact .far hk hmem (hacc _ _ hi)
    · exact hs i hi
theorem before_must (ops : Array Oper) : ∀ k i, ((Region.before ops).getD k 0).testBit i = true → Must ops i k := by
  have key : ∀ (l : List Oper) (acc : Array Nat), (∀ j, l[j]? = ops[acc.size + j]?) → (∀ j i, (acc.getD j 0).testBit i = true → Must ops i j) →
      ∀ j i, ((l.foldl (fun acc o => acc.push (o.after.foldl (fun s e => if Region.binds .any e then s ||| 2 ^ e.on ||| acc.getD e.on 0 else s) 0)) acc).getD j 0).testBit i = true → Must ops i j := by
    intro l
    induction l with
    | nil => intro acc _ h; exact h
    | cons o l ih =>
      intro acc hl h
      have h0 : ops[acc.size]? = some o := by simpa using (hl 0).symm
      refine ih _ (fun j => by have := hl (j + 1); simp only [List.getElem?_cons_succ] at this; rw [this]; simp [Nat.add_assoc, Nat.add_comm 1 j]) (fun j i hj => ?_)
      by_cases hje : j = acc.size
      · subst hje
        rw [Array.getD_eq_getD_getElem?, Array.getElem?_push, if_pos rfl, Option.getD_some] at hj
        rw [← Array.foldl_toList] at hj
        exact before_fold h0 acc h o.after.toList 0 (fun _ h => h) (fun i hi => by simp at hi) i hj
      · rw [Array.getD_eq_getD_getElem?, Array.getElem?_push, if_neg hje, ← Array.getD_eq_getD_getElem?] at hj
        exact h j i hj
  intro k i h
  refine key ops.toList #[] (fun j => by simp) (fun j i hj => by simp at hj) k i ?_
  unfold Region.before at h
  rw [← Array.foldl_toList] at h
  exact h

/-- The check on a region: its first n operations may come in any order, the others come behind all ahead of them. -/
def drawOk (ops : Array Oper) (n : Nat) : Bool :=
  decide (n ≤ ops.size) &&
  (List.range n).all (fun i => match ops[i]? with
    | some o => o.dst.isSome && (List.range n).all (fun j => j == i || gslot ops j != o.dst) &&
        (looks ops o).all (fun t => (List.range n).all fun j => gslot ops j != some t || (decide (j < i) && (directs o).contains j))
    | none => false) &&
  (List.range ops.size).all (fun k => decide (k < n) || (List.range k).all fun i => ((Region.before ops).getD k 0).testBit i) &&
  (List.range ops.size).all (fun k => match ops[k]? with
    | some o => (directs o).all fun j => decide (j < k)
    | none => false)

section
variable {P : Program} {N : Nat} {S : World → Prop} {e : Env} {Q : Exit → Env → World → Prop} {ops : Array Oper} {l : List Oper} {o : Oper}
/-- What one operation gives, its guard looked at. -/
def OpG (P : Program) (S : World → Prop) (ops : Array Oper) (e : Env) (o : Oper) (v : AV) : Prop :=
  match o.guard with
  | none => OpJ P S e o v
  | some (j, b) => ∃ y c, gslot ops j = some y ∧ e.look y = some (.raw (.bool c)) ∧ ((c = b ∧ OpJ P S e o v) ∨ (c ≠ b ∧ v = .raw undef))
/-- Operations whose order is drawn, in the order of the text. -/
def Run1 (P : Program) (N : Nat) (S : World → Prop) (ops : Array Oper) : List Oper → Env → (Env → Prop) → Prop
  | [], e, K => K e
  | o :: l, e, K => ∃ d v, o.dst = some d ∧ d < N ∧ OpG P S ops e o v ∧ Run1 P N S ops l ((d, v) :: e) K
theorem zav {K : Env → Prop} (h : K e) : Run1 P N S ops [] e K := h
theorem zap {K : Env → Prop} {d : Tmp} {op : Op} {ty : TypeId} {pos : String} {after : Array Edge} {v : AV} (hd : Nat.blt d N = true) (hj : OpJ P S e ⟨some d, op, ty, pos, after, none⟩ v) (h : Run1 P N S ops l ((d, v) :: e) K) :
    Run1 P N S ops (⟨some d, op, ty, pos, after, none⟩ :: l) e K := ⟨d, v, rfl, Nat.le_of_ble_eq_true hd, hj, h⟩
theorem zar {K : Env → Prop} {dst : Option Tmp} {op : BinOp} {t t' : TypeId} {X Y : Operand} {ty : TypeId} {pos : String} {after : Array Edge} {guard : Option (Nat × Bool)} (h : Run1 P N S ops (⟨dst, .binOp op t X Y t', ty, pos, after, guard⟩ :: l) e K) : Run1 P N S ops (⟨dst, .binOp op t X Y t', ty, pos, after, guard⟩ :: l) e K := h
theorem zas {K : Env → Prop} {dst : Option Tmp} {c : Call} {ty : TypeId} {pos : String} {after : Array Edge} {guard : Option (Nat × Bool)} (h : Run1 P N S ops (⟨dst, .call c, ty, pos, after, guard⟩ :: l) e K) : Run1 P N S ops (⟨dst, .call c, ty, pos, after, guard⟩ :: l) e K := h

/-- The frame behind the first operations, in the order of the text. -/
def after1 (ps : List (Nat × AV)) (e : Env) : Env := ps.reverse ++ e
theorem look_append : ∀ (a b : Env) (t : Nat), (a ++ b).look t = match a.look t with | some v => some v | none => b.look t
  | [], _, _ => rfl
  | (d, v) :: a, b, t => by
    simp only [List.cons_append, Env.look]
    cases hb : Nat.beq d t with
    | true => rfl
    | false => exact look_append a b t
theorem look_none_iff : ∀ (a : Env) (t : Nat), a.look t = none ↔ t ∉ a.map (·.1)
  | [], _ => by simp [Env.look]
  | (d, v) :: a, t => by
    simp only [Env.look, List.map_cons, List.mem_cons, not_or]
    cases hb : Nat.beq d t with
    | true => have := Nat.eq_of_beq_eq_true hb; simp [this]
    | false =>
      have hne : t ≠ d := fun e => by subst e; simp at hb
      simp [hne, look_none_iff a t]
theorem look_mem : ∀ (a : Env) (t : Nat) (v : AV), a.look t = some v → (t, v) ∈ a
  | [], _, _, h => by cases h
  | (d, u) :: a, t, v, h => by
    simp only [Env.look] at h
    cases hb : Nat.beq d t with
    | true => have := Nat.eq_of_beq_eq_true hb; simp only [hb, Option.some.injEq] at h; subst this; subst h; simp
    | false => simp only [hb] at h; exact List.mem_cons_of_mem _ (look_mem a t v h)

theorem run1_spec {K : Env → Prop} : ∀ {l : List Oper} {e : Env}, Run1 P N S ops l e K → ∃ ps : List (Nat × AV), ps.length = l.length ∧ K (after1 ps e) ∧
    ∀ i o p, l[i]? = some o → ps[i]? = some p → o.dst = some p.1 ∧ p.1 < N ∧ OpG P S ops (after1 (ps.take i) e) o p.2
  | [], e, h => ⟨[], rfl, h, fun i o p hi => by simp at hi⟩
  | o :: l, e, ⟨d, v, hd, hN, hg, hr⟩ => by
    obtain ⟨ps, hlen, hK, hall⟩ := run1_spec hr
    have haft : ∀ qs : List (Nat × AV), after1 ((d, v) :: qs) e = after1 qs ((d, v) :: e) := fun qs => by simp [after1]
    refine ⟨(d, v) :: ps, by simp [hlen], by rw [haft]; exact hK, fun i x p hi hp => ?_⟩
    cases i with
    | zero => simp at hi hp; subst hi; subst hp; exact ⟨hd, hN, by simpa [after1] using hg⟩
    | succ i =>
      simp only [List.getElem?_cons_succ] at hi hp
      rw [List.take_succ_cons, haft]
      exact hall i x p hi hp

theorem ready_iff {L : Array Bool} (hL : L.size = ops.size) (i : Nat) : i ∈ Region.ready .any ops L ↔ i < ops.size ∧ ¬ Listed L i ∧ ∀ o, ops[i]? = some o → ∀ j ∈ directs o, Listed L j := by
  unfold Region.ready Listed
  simp only [List.mem_filter, List.mem_range, Bool.and_eq_true, Bool.not_eq_true']
  constructor
  · rintro ⟨h1, h2, h3⟩
    refine ⟨h1, ?_, fun o ho j hj => ?_⟩
    · have hlt : i < L.size := by omega
      simp [Array.getD, hlt] at h2 ⊢; exact h2
    · simp only [ho, Option.map_some, Option.getD_some] at h3
      obtain ⟨e, he, rfl⟩ := List.mem_map.1 hj
      obtain ⟨he1, he2⟩ := List.mem_filter.1 he
      rw [← Array.all_toList, List.all_eq_true] at h3
      have := h3 e he1
      simpa [he2] using this
  · rintro ⟨h1, h2, h3⟩
    refine ⟨h1, ?_, ?_⟩
    · have hlt : i < L.size := by omega
      simp [Array.getD, hlt] at h2 ⊢; exact h2
    · have ho : ops[i]? = some ops[i] := by simp [h1]
      simp only [ho, Option.map_some, Option.getD_some]
      rw [← Array.all_toList, List.all_eq_true]
      intro e he
      cases hb : Region.binds .any e with
      | false => rfl
      | true =>
        have := h3 _ ho e.on (List.mem_map.2 ⟨e, List.mem_filter.2 ⟨he, hb⟩, rfl⟩)
        simpa using this

theorem listed_set {L : Array Bool} {i j : Nat} (hi : i < L.size) : Listed (L.setIfInBounds i true) j ↔ j = i ∨ Listed L j := by
  unfold Listed
  rw [Array.getD_eq_getD_getElem?, Array.getD_eq_getD_getElem?]
  by_cases h : j = i
  · subst h; simp [hi]
  · rw [Array.getElem?_setIfInBounds_ne (fun e => h e.symm)]; simp [h]

def unL (L : Array Bool) : Nat := L.toList.count false
theorem unL_set {L : Array Bool} {i : Nat} (hi : i < L.size) (hn : ¬ Listed L i) : unL (L.setIfInBounds i true) + 1 = unL L := by
  unfold unL
  have hf : L.toList[i]'(by simpa using hi) = false := by
    unfold Listed at hn
    simp [Array.getD, hi] at hn
    simpa using hn
  have hpos : 0 < L.toList.count false := List.count_pos_iff.2 (by rw [← hf]; exact List.getElem_mem _)
  rw [Array.toList_setIfInBounds, List.count_set (by simpa using hi)]
  have h1 : (L.toList[i]'(by simpa using hi) == false) = true := by rw [hf]; rfl
  rw [if_pos h1, if_neg (by simp)]
  omega
theorem unL_zero {L : Array Bool} (h : unL L = 0) {i : Nat} (hi : i < L.size) : Listed L i := by
  unfold unL at h
  unfold Listed
  cases hb : L.getD i false with
  | true => rfl
  | false =>
    have hf : L.toList[i]'(by simpa using hi) = false := by simp [Array.getD, hi] at hb; simpa using hb
    have : 0 < L.toList.count false := List.count_pos_iff.2 (by rw [← hf]; exact List.getElem_mem _)
    omega

theorem drawOk_spec {n : Nat} (h : drawOk ops n = true) : n ≤ ops.size ∧
    (∀ i o, i < n → ops[i]? = some o → (∃ d, o.dst = some d) ∧ (∀ j, j < n → j ≠ i → gslot ops j ≠ o.dst) ∧ ∀ t ∈ looks ops o, ∀ j, j < n → gslot ops j = some t → j < i ∧ j ∈ directs o) ∧
    (∀ k i, n ≤ k → k < ops.size → i < k → Must ops i k) ∧ (∀ k o, ops[k]? = some o → ∀ j ∈ directs o, j < k) := by
  unfold drawOk at h
  simp only [Bool.and_eq_true, decide_eq_true_eq, List.all_eq_true, List.mem_range] at h
  obtain ⟨⟨⟨h1, h2⟩, h3⟩, h4⟩ := h
  refine ⟨h1, fun i o hi ho => ?_, fun k i hk hks hik => ?_, fun k o ho j hj => ?_⟩
  · have := h2 i hi
    simp only [ho, Bool.and_eq_true, List.all_eq_true, List.mem_range, Bool.or_eq_true, beq_iff_eq, bne_iff_ne, decide_eq_true_eq, List.contains_iff_mem] at this
    obtain ⟨⟨ha, hb⟩, hc⟩ := this
    refine ⟨Option.isSome_iff_exists.1 ha, fun j hj hji => (hb j hj).resolve_left hji, fun t ht j hj hg => ?_⟩
    exact (hc t ht j hj).resolve_left (fun hne => hne hg)
  · have := h3 k hks
    simp only [Bool.or_eq_true, decide_eq_true_eq, List.all_eq_true, List.mem_range] at this
    exact before_must ops k i ((this.resolve_left (by omega)) i hik)
  · have hk : k < ops.size := (Array.getElem?_eq_some_iff.1 ho).1
    have := h4 k hk
    simp only [ho, List.all_eq_true, decide_eq_true_eq] at this
    exact this j hj

/-- Behind the first m operations the others come one by one. -/
theorem wpAny_tail {Q' : Exit → Act → World → Prop} {n : Nat} (hmust : ∀ k i, n ≤ k → k < ops.size → i < k → Must ops i k) (hback : ∀ k o, ops[k]? = some o → ∀ j ∈ directs o, j < k) :
    ∀ (fuel m : Nat) (L : Array Bool) (a : Act) (w : World), n ≤ m → m ≤ ops.size → L.size = ops.size → (∀ i, Listed L i ↔ i < m) → ops.size ≤ m + fuel → wpList P ops Q' (ops.toList.drop m) a w → wpAny P .any ops Q' fuel L a w := by
  intro fuel
  induction fuel with
  | zero =>
    intro m L a w hnm hms hL hlist hf hw
    have hmm : m = ops.size := by omega
    subst hmm
    refine ⟨List.eq_nil_iff_forall_not_mem.2 fun i hi => ?_, ?_⟩
    · obtain ⟨h1, h2, _⟩ := (ready_iff hL i).1 hi
      exact h2 ((hlist i).2 h1)
    · rw [List.drop_of_length_le (by simp)] at hw
      exact hw
  | succ fuel ih =>
    intro m L a w hnm hms hL hlist hf hw
    by_cases hlt : m < ops.size
    · have hom : ops[m]? = some ops[m] := by simp [hlt]
      have hdrop : ops.toList.drop m = ops[m] :: ops.toList.drop (m + 1) := by rw [List.drop_eq_getElem_cons (by simpa using hlt)]; simp
      have hready : m ∈ Region.ready .any ops L := (ready_iff hL m).2 ⟨hlt, fun h => by have := (hlist m).1 h; omega, fun o ho j hj => (hlist j).2 (hback m o ho j hj)⟩
      refine ⟨fun h => by rw [h] at hready; simp at hready, fun i hi => ?_⟩
      obtain ⟨h1, h2, h3⟩ := (ready_iff hL i).1 hi
      have him : i = m := by
        have hge : ¬ i < m := fun h => h2 ((hlist i).2 h)
        by_cases hgt : m < i
        · have hd : Down ops L := fun k o ho hk j hj => (hlist j).2 (Nat.lt_trans (hback k o ho j hj) ((hlist k).1 hk))
          have := (hmust i m (by omega) h1 hgt).listed hd h3
          have := (hlist m).1 this
          omega
        · omega
      subst him
      rw [hdrop] at hw
      unfold wpOp
      simp only [hom]
      have hset : ∀ j, Listed (L.setIfInBounds i true) j ↔ j < i + 1 := fun j => by
        rw [listed_set (by omega), hlist j]; omega
      have next : ∀ a w, wpList P ops Q' (ops.toList.drop (i + 1)) a w → wpAny P .any ops Q' fuel (L.setIfInBounds i true) a w :=
        fun a w h => ih (i + 1) _ a w (by omega) (by omega) (by simpa using hL) hset (by omega) h
      simp only [wpList] at hw
      split
      · rename_i hwt
        rw [if_pos hwt] at hw
        exact hw.imp (Oper.wp_mono next) id
      · rename_i hwt
        rw [if_neg hwt] at hw
        exact next _ _ hw
    · have hmm : m = ops.size := by omega
      subst hmm
      refine ⟨fun _ => ?_, fun i hi => ?_⟩
      · rw [List.drop_of_length_le (by simp)] at hw
        exact hw
      · obtain ⟨h1, h2, _⟩ := (ready_iff hL i).1 hi
        exact absurd ((hlist i).2 h1) h2

theorem ws_draw {n id : Nat} [Cl S] (hm : P.follows .mixedOrders = true) (hchk : drawOk ops n = true) (h : Run1 P N S ops (ops.toList.take n) e (fun e' => RS P N ops (ops.toList.drop n) e' S Q)) : WS P N (.region id ops true) e S Q := by
  obtain ⟨hn, hfirst, hmust, hback⟩ := drawOk_spec hchk
  obtain ⟨ps, hlen, hR, hall⟩ := run1_spec h
  have hlen' : ps.length = n := by rw [hlen]; simp; omega
  have hop : ∀ i, i < n → ∃ o p, ops[i]? = some o ∧ ps[i]? = some p ∧ o.dst = some p.1 ∧ p.1 < N ∧ OpG P S ops (after1 (ps.take i) e) o p.2 := fun i hi => by
    have ho : ops[i]? = some (ops[i]'(by omega)) := by simp
    have hp : ps[i]? = some (ps[i]'(by omega)) := by simp
    obtain ⟨h1, h2, h3⟩ := hall i (ops[i]'(by omega)) (ps[i]'(by omega)) (by rw [List.getElem?_take, if_pos hi]; simp) hp
    exact ⟨_, _, ho, hp, h1, h2, h3⟩
  have hslot : ∀ i p, ps[i]? = some p → gslot ops i = some p.1 := fun i p hp => by
    have hi : i < n := by rw [← hlen']; exact (List.getElem?_eq_some_iff.1 hp).1
    obtain ⟨o, p', ho, hp', hd, _⟩ := hop i hi
    rw [hp'] at hp; cases hp
    simp [gslot, ho, hd]
  intro a w hS hF
  refine wp_region_any hm ?_
  have hw0 : Ext w { w with drawn := w.drawn + 1 } := Ext.of_quiet (.inr rfl)
  have hS0 : S { w with drawn := w.drawn + 1 } := Cl.ext hS hw0
  have hF0 := hF.ext hw0
  generalize ({ w with drawn := w.drawn + 1 } : World) = w1 at hS0 hF0
  clear hS hF hw0 w
  -- what holds while the first operations come
  have key : ∀ (fuel : Nat) (L : Array Bool) (a : Act) (w : World), L.size = ops.size → Down ops L → S w → a.defers = [] → a.tmps.size = N →
      (∀ i p, ps[i]? = some p → Listed L i → ∃ u, a.tmps[p.1]? = some u ∧ Rel w p.2 u) →
      (∀ t v, t ∉ ps.map (·.1) → e.look t = some v → ∃ u, a.tmps[t]? = some u ∧ Rel w v u) →
      (∀ k, n ≤ k → ¬ Listed L k) → unL L ≤ fuel →
      wpAny P .any ops (fun x a' w' => ∃ e', Fr N e' a' w' ∧ Q x e' w') fuel L a w := by
    intro fuel
    induction fuel with
    | zero =>
      intro L a w hL hd hSw hdf hsz hps hbase hno hu
      have hnn : n = ops.size := by
        rcases Nat.lt_or_ge n ops.size with hlt | hge
        · exact absurd (unL_zero (by omega) (by omega)) (hno n (Nat.le_refl _))
        · omega
      have hFr : Fr N (after1 ps e) a w := ⟨hdf, hsz, fun t v ht => by
        unfold after1 at ht
        rw [look_append] at ht
        cases hl : Env.look ps.reverse t with
        | some x =>
          simp only [hl, Option.some.injEq] at ht; subst ht
          obtain ⟨i, hi⟩ := List.mem_iff_getElem?.1 (List.mem_reverse.1 (look_mem _ _ _ hl))
          exact hps i _ hi (unL_zero (by omega) (by have := (List.getElem?_eq_some_iff.1 hi).1; omega))
        | none =>
          simp only [hl] at ht
          exact hbase t v (by have := (look_none_iff _ _).1 hl; simpa using this) ht⟩
      exact wpAny_tail (P := P) (n := n) hmust hback 0 n L a w (Nat.le_refl _) hn hL (fun i => ⟨fun h => by
        rcases Nat.lt_or_ge i n with h' | h'
        · exact h'
        · exact absurd h (hno i h'), fun h => unL_zero (by omega) (by omega)⟩) (by omega) (hR a w hSw hFr)
    | succ fuel ih =>
      intro L a w hL hd hSw hdf hsz hps hbase hno hu
      by_cases hall' : ∀ i, i < n → Listed L i
      · have hFr : Fr N (after1 ps e) a w := ⟨hdf, hsz, fun t v ht => by
          unfold after1 at ht
          rw [look_append] at ht
          cases hl : Env.look ps.reverse t with
          | some x =>
            simp only [hl, Option.some.injEq] at ht; subst ht
            obtain ⟨i, hi⟩ := List.mem_iff_getElem?.1 (List.mem_reverse.1 (look_mem _ _ _ hl))
            exact hps i _ hi (hall' i (by have := (List.getElem?_eq_some_iff.1 hi).1; omega))
          | none =>
            simp only [hl] at ht
            exact hbase t v (by have := (look_none_iff _ _).1 hl; simpa using this) ht⟩
        have hcount : ops.size ≤ n + (fuel + 1) := by
          -- at most the operations from n on are not listed
          have : ops.size - n ≤ unL L := by
            unfold unL
            have h1 : (L.toList.drop n).count false = ops.size - n := by
              have hall2 : ∀ x ∈ L.toList.drop n, x = false := fun x hx => by
                obtain ⟨j, hj⟩ := List.mem_iff_getElem?.1 hx
                rw [List.getElem?_drop] at hj
                have hnl := hno (n + j) (by omega)
                unfold Listed at hnl
                rw [Array.getD_eq_getD_getElem?] at hnl
                have hj' : L[n + j]? = some x := by simpa using hj
                rw [hj'] at hnl
                cases x <;> simp_all
              rw [List.count_eq_length.2 (fun b hb => (hall2 b hb).symm)]
              simp [hL]
            rw [← h1]
            exact (List.drop_sublist n L.toList).count_le false
          omega
        exact wpAny_tail (P := P) (n := n) hmust hback (fuel + 1) n L a w (Nat.le_refl _) hn hL (fun i => ⟨fun h => by
          rcases Nat.lt_or_ge i n with h' | h'
          · exact h'
          · exact absurd h (hno i h'), fun h => hall' i h⟩) hcount (hR a w hSw hFr)
      · refine ⟨fun hnil => ?_, fun i hi => ?_⟩
        · exfalso
          -- the least one that is not listed is ready
          have hex : ∃ i, i < n ∧ ¬ Listed L i := by
            false_or_by_contra
            rename_i hc
            exact hall' fun i hi => by
              false_or_by_contra
              rename_i hn'
              exact hc ⟨i, hi, hn'⟩
          have hmin : ∀ m, (∃ i, i < m ∧ i < n ∧ ¬ Listed L i) → ∃ i, i < n ∧ ¬ Listed L i ∧ ∀ j, j < i → Listed L j := by
            intro m
            induction m with
            | zero => rintro ⟨i, hi, _⟩; omega
            | succ m ihm =>
              rintro ⟨i, hi, hin, hil⟩
              by_cases h' : ∃ i, i < m ∧ i < n ∧ ¬ Listed L i
              · exact ihm h'
              · refine ⟨i, hin, hil, fun j hj => ?_⟩
                false_or_by_contra
                rename_i hjl
                exact h' ⟨j, by omega, by omega, hjl⟩
          obtain ⟨i, hin, hil⟩ := hex
          obtain ⟨i, hin, hil, hjs⟩ := hmin (i + 1) ⟨i, by omega, hin, hil⟩
          have : i ∈ Region.ready .any ops L := (ready_iff hL i).2 ⟨by omega, hil, fun o ho j hj => hjs j (hback i o ho j hj)⟩
          rw [hnil] at this
          simp at this
        · obtain ⟨h1, h2, h3⟩ := (ready_iff hL i).1 hi
          have hin : i < n := by
            rcases Nat.lt_or_ge i n with h' | h'
            · exact h'
            · exact absurd (fun j hj => (hmust i j h' h1 (by omega)).listed hd h3) hall'
          obtain ⟨o, p, ho, hp, hdst, hpN, hG⟩ := hop i hin
          obtain ⟨_, huniq, hlook⟩ := hfirst i o hin ho
          -- what the operation looks at is as the text's order has it
          have hlk : ∀ t, t ∈ looks ops o → ∀ v, (after1 (ps.take i) e).look t = some v → ∃ u, a.tmps[t]? = some u ∧ Rel w v u := fun t ht v hv => by
            unfold after1 at hv
            rw [look_append] at hv
            cases hl : Env.look (ps.take i).reverse t with
            | some x =>
              simp only [hl, Option.some.injEq] at hv; subst hv
              obtain ⟨j, hj⟩ := List.mem_iff_getElem?.1 (List.mem_reverse.1 (look_mem _ _ _ hl))
              rw [List.getElem?_take] at hj
              split at hj
              · rename_i hji
                obtain ⟨_, hjd⟩ := hlook t ht j (by omega) (hslot j _ hj)
                exact hps j _ hj (h3 o ho j hjd)
              · cases hj
            | none =>
              simp only [hl] at hv
              refine hbase t v (fun hm' => ?_) hv
              obtain ⟨q, hq, hqt⟩ := List.mem_map.1 hm'
              obtain ⟨j, hj⟩ := List.mem_iff_getElem?.1 hq
              have hjn : j < n := by rw [← hlen']; exact (List.getElem?_eq_some_iff.1 hj).1
              have hjt : gslot ops j = some t := by rw [hslot j q hj, ← hqt]
              obtain ⟨hji, _⟩ := hlook t ht j hjn hjt
              have hnone := (look_none_iff _ _).1 hl
              apply hnone
              rw [List.map_reverse, List.mem_reverse]
              exact List.mem_map.2 ⟨q, List.mem_iff_getElem?.2 ⟨j, by rw [List.getElem?_take, if_pos hji]; exact hj⟩, hqt⟩
          have hoper : ∀ x ∈ o.op.operands.toList, ∀ y, (after1 (ps.take i) e).ev x = some y → Rel w y (a.eval x) := fun x hx y hy => by
            cases x with
            | tmp t =>
              obtain ⟨u, hu, hr⟩ := hlk t (List.mem_append_left _ (List.mem_filterMap.2 ⟨_, hx, rfl⟩)) y hy
              have : a.eval (.tmp t) = u := by simp [Act.eval, hu]
              rw [this]; exact hr
            | const c =>
              simp only [Env.ev] at hy
              split at hy
              · rename_i hc; cases hy; exact rel_cv w c hc
              · cases hy
            | global g => cases hy; exact .raw
            | func f => cases hy; exact .raw
          -- behind it
          have next : ∀ u w', Ext w w' → Rel w' p.2 u → wpAny P .any ops (fun x a' w' => ∃ e', Fr N e' a' w' ∧ Q x e' w') fuel (L.setIfInBounds i true) (a.put o.dst u) w' := fun u w' hw hr => by
            have hiL : i < L.size := by omega
            refine ih _ _ _ (by simpa using hL) (fun k x hx hk j hj => ?_) (Cl.ext hSw hw) (by simp [hdst, Act.put, hdf]) (by simp [hdst, Act.put, hsz]) (fun j q hq hj => ?_) (fun t v ht hv => ?_) (fun k hk hk' => ?_) (by have := unL_set hiL h2; omega)
            · rw [listed_set hiL]
              rcases (listed_set hiL).1 hk with rfl | hk
              · exact .inr (h3 x hx j hj)
              · exact .inr (hd k x hx hk j hj)
            · by_cases hji : j = i
              · subst hji
                rw [hp] at hq; cases hq
                exact ⟨u, by simp [hdst, Act.put, hsz, hpN], hr⟩
              · have hjn : j < n := by rw [← hlen']; exact (List.getElem?_eq_some_iff.1 hq).1
                have hne : p.1 ≠ q.1 := fun he => huniq j hjn hji (by rw [hslot j q hq, hdst, he])
                obtain ⟨y, hy, hry⟩ := hps j q hq (((listed_set hiL).1 hj).resolve_left hji)
                exact ⟨y, by simp [hdst, Act.put, Array.getElem?_setIfInBounds_ne hne, hy], hry.ext hw⟩
            · have hne : p.1 ≠ t := fun he => ht (List.mem_map.2 ⟨p, List.mem_of_getElem? hp, he⟩)
              obtain ⟨y, hy, hry⟩ := hbase t v ht hv
              exact ⟨y, by simp [hdst, Act.put, Array.getElem?_setIfInBounds_ne hne, hy], hry.ext hw⟩
            · rcases (listed_set hiL).1 hk' with rfl | hk'
              · omega
              · exact hno k hk hk'
          unfold wpOp
          simp only [ho]
          unfold OpG at hG
          cases hgd : o.guard with
          | none =>
            simp only [hgd] at hG
            rw [if_pos (by simp [Region.wanted, hgd])]
            exact .inl (hG a w _ _ hSw hoper next)
          | some jb =>
            obtain ⟨j, b⟩ := jb
            simp only [hgd] at hG
            obtain ⟨y, c, hy, hc, hcase⟩ := hG
            obtain ⟨u, hu, hru⟩ := hlk y (List.mem_append_right _ (by simp [hgd, hy])) _ hc
            have hub := hru.inv_raw
            subst hub
            have hyield : yielded ops a.tmps j = some c := by
              unfold yielded
              rw [show ((ops[j]?).bind (·.dst)) = some y from hy]
              simp [hu]
            rcases hcase with ⟨rfl, hJ⟩ | ⟨hne, hv⟩
            · rw [if_pos (by simp [Region.wanted, hgd, hyield])]
              exact .inl (hJ a w _ _ hSw hoper next)
            · rw [if_neg (by simpa [Region.wanted, hgd, hyield] using hne)]
              exact next undef w (Ext.refl _) (by rw [hv]; exact .raw)
  refine key ops.size _ a w1 (by simp) (fun k o _ hk => ?_) hS0 hF0.defers hF0.size (fun i p _ hi => ?_) (fun t v _ ht => hF0.rel t v ht) (fun k _ hk => ?_) ?_
  · unfold Listed at hk; rw [Array.getD_eq_getD_getElem?, Array.getElem?_replicate] at hk; split at hk <;> simp at hk
  · unfold Listed at hi; rw [Array.getD_eq_getD_getElem?, Array.getElem?_replicate] at hi; split at hi <;> simp at hi
  · unfold Listed at hk; rw [Array.getD_eq_getD_getElem?, Array.getElem?_replicate] at hk; split at hk <;> simp at hk
  · unfold unL; simp
end
end Go.Ab
namespace Go.Ab
open Go.Proofs
instance ty2 : TyU Tryz.prog 2 (.int .i64) := ⟨by kernel_rfl⟩
instance ti2 : TyI Tryz.prog 2 (.int .i64 0) 1 8 := ⟨⟨(Tryz.prog.info? 2).getD default, by kernel_rfl, by kernel_rfl, by kernel_rfl, by kernel_rfl⟩⟩
instance ty3 : TyU Tryz.prog 3 (.int .i64) := ⟨by kernel_rfl⟩
instance ti3 : TyI Tryz.prog 3 (.int .i64 0) 1 8 := ⟨⟨(Tryz.prog.info? 3).getD default, by kernel_rfl, by kernel_rfl, by kernel_rfl, by kernel_rfl⟩⟩
instance ty4 : TyU Tryz.prog 4 (.bool) := ⟨by kernel_rfl⟩
instance ty5 : TyU Tryz.prog 5 (.int .u8) := ⟨by kernel_rfl⟩
instance ti5 : TyI Tryz.prog 5 (.int .u8 0) 1 1 := ⟨⟨(Tryz.prog.info? 5).getD default, by kernel_rfl, by kernel_rfl, by kernel_rfl, by kernel_rfl⟩⟩
instance ty9 : TyU Tryz.prog 9 (.string) := ⟨by kernel_rfl⟩
instance ty22 : TyU Tryz.prog 22 (.slice 5) := ⟨by kernel_rfl⟩
instance ty24 : TyU Tryz.prog 24 (.complex .f32) := ⟨by kernel_rfl⟩
instance ti24 : TyI Tryz.prog 24 (.complex .f32 0 0) 1 8 := ⟨⟨(Tryz.prog.info? 24).getD default, by kernel_rfl, by kernel_rfl, by kernel_rfl, by kernel_rfl⟩⟩
instance ty25 : TyU Tryz.prog 25 (.slice 24) := ⟨by kernel_rfl⟩
instance ty28 : TyU Tryz.prog 28 (.float .f32) := ⟨by kernel_rfl⟩
instance ty46 : TyU Tryz.prog 46 (.float .f64) := ⟨by kernel_rfl⟩
instance ty61 : TyU Tryz.prog 61 (.slice 9) := ⟨by kernel_rfl⟩
instance ty71 : TyU Tryz.prog 71 (.int .u32) := ⟨by kernel_rfl⟩
instance ty74 : TyU Tryz.prog 74 (.int .u64) := ⟨by kernel_rfl⟩
instance ti74 : TyI Tryz.prog 74 (.int .u64 0) 1 8 := ⟨⟨(Tryz.prog.info? 74).getD default, by kernel_rfl, by kernel_rfl, by kernel_rfl, by kernel_rfl⟩⟩
instance ty88 : TyU Tryz.prog 88 (.slice 2) := ⟨by kernel_rfl⟩
instance ty90 : TyU Tryz.prog 90 (.int .u64) := ⟨by kernel_rfl⟩
instance ty127 : TyU Tryz.prog 127 (.array 65 5) := ⟨by kernel_rfl⟩
instance ti127 : TyI Tryz.prog 127 (.agg #[.int .u8 0, .int .u8 0, .int .u8 0, .int .u8 0, .int .u8 0, .int .u8 0, .int .u8 0, .int .u8 0, .int .u8 0, .int .u8 0, .int .u8 0, .int .u8 0, .int .u8 0, .int .u8 0, .int .u8 0, .int .u8 0, .int .u8 0, .int .u8 0, .int .u8 0, .int .u8 0, .int .u8 0, .int .u8 0, .int .u8 0, .int .u8 0, .int .u8 0, .int .u8 0, .int .u8 0, .int .u8 0, .int .u8 0, .int .u8 0, .int .u8 0, .int .u8 0, .int .u8 0, .int .u8 0, .int .u8 0, .int .u8 0, .int .u8 0, .int .u8 0, .int .u8 0, .int .u8 0, .int .u8 0, .int .u8 0, .int .u8 0, .int .u8 0, .int .u8 0, .int .u8 0, .int .u8 0, .int .u8 0, .int .u8 0, .int .u8 0, .int .u8 0, .int .u8 0, .int .u8 0, .int .u8 0, .int .u8 0, .int .u8 0, .int .u8 0, .int .u8 0, .int .u8 0, .int .u8 0, .int .u8 0, .int .u8 0, .int .u8 0, .int .u8 0, .int .u8 0]) 65 65 := ⟨⟨(Tryz.prog.info? 127).getD default, by kernel_rfl, by kernel_rfl, by kernel_rfl, by kernel_rfl⟩⟩
instance ty146 : TyU Tryz.prog 146 (.array 64 5) := ⟨by kernel_rfl⟩
instance hb4 : HasBody Tryz.prog 4 := ⟨⟨Tryz.f4, Tryz.func4, rfl, by kernel_rfl⟩⟩
instance hb5 : HasBody Tryz.prog 5 := ⟨⟨Tryz.f5, Tryz.func5, rfl, by kernel_rfl⟩⟩
instance hb6 : HasBody Tryz.prog 6 := ⟨⟨Tryz.f6, Tryz.func6, rfl, by kernel_rfl⟩⟩
instance hb7 : HasBody Tryz.prog 7 := ⟨⟨Tryz.f7, Tryz.func7, rfl, by kernel_rfl⟩⟩
instance hb8 : HasBody Tryz.prog 8 := ⟨⟨Tryz.f8, Tryz.func8, rfl, by kernel_rfl⟩⟩
instance hb9 : HasBody Tryz.prog 9 := ⟨⟨Tryz.f9, Tryz.func9, rfl, by kernel_rfl⟩⟩
instance hb10 : HasBody Tryz.prog 10 := ⟨⟨Tryz.f10, Tryz.func10, rfl, by kernel_rfl⟩⟩
instance hb11 : HasBody Tryz.prog 11 := ⟨⟨Tryz.f11, Tryz.func11, rfl, by kernel_rfl⟩⟩
instance hb12 : HasBody Tryz.prog 12 := ⟨⟨Tryz.f12, Tryz.func12, rfl, by kernel_rfl⟩⟩
instance hb13 : HasBody Tryz.prog 13 := ⟨⟨Tryz.f13, Tryz.func13, rfl, by kernel_rfl⟩⟩
instance hb14 : HasBody Tryz.prog 14 := ⟨⟨Tryz.f14, Tryz.func14, rfl, by kernel_rfl⟩⟩
instance hb15 : HasBody Tryz.prog 15 := ⟨⟨Tryz.f15, Tryz.func15, rfl, by kernel_rfl⟩⟩
instance hb16 : HasBody Tryz.prog 16 := ⟨⟨Tryz.f16, Tryz.func16, rfl, by kernel_rfl⟩⟩
instance hb17 : HasBody Tryz.prog 17 := ⟨⟨Tryz.f17, Tryz.func17, rfl, by kernel_rfl⟩⟩
instance hb18 : HasBody Tryz.prog 18 := ⟨⟨Tryz.f18, Tryz.func18, rfl, by kernel_rfl⟩⟩
instance hb19 : HasBody Tryz.prog 19 := ⟨⟨Tryz.f19, Tryz.func19, rfl, by kernel_rfl⟩⟩
instance hb20 : HasBody Tryz.prog 20 := ⟨⟨Tryz.f20, Tryz.func20, rfl, by kernel_rfl⟩⟩
instance hb21 : HasBody Tryz.prog 21 := ⟨⟨Tryz.f21, Tryz.func21, rfl, by kernel_rfl⟩⟩
instance hb22 : HasBody Tryz.prog 22 := ⟨⟨Tryz.f22, Tryz.func22, rfl, by kernel_rfl⟩⟩
instance hb23 : HasBody Tryz.prog 23 := ⟨⟨Tryz.f23, Tryz.func23, rfl, by kernel_rfl⟩⟩
instance hb24 : HasBody Tryz.prog 24 := ⟨⟨Tryz.f24, Tryz.func24, rfl, by kernel_rfl⟩⟩
instance hb25 : HasBody Tryz.prog 25 := ⟨⟨Tryz.f25, Tryz.func25, rfl, by kernel_rfl⟩⟩
instance hb26 : HasBody Tryz.prog 26 := ⟨⟨Tryz.f26, Tryz.func26, rfl, by kernel_rfl⟩⟩
instance hb27 : HasBody Tryz.prog 27 := ⟨⟨Tryz.f27, Tryz.func27, rfl, by kernel_rfl⟩⟩
instance hb28 : HasBody Tryz.prog 28 := ⟨⟨Tryz.f28, Tryz.func28, rfl, by kernel_rfl⟩⟩
instance hb29 : HasBody Tryz.prog 29 := ⟨⟨Tryz.f29, Tryz.func29, rfl, by kernel_rfl⟩⟩
instance hb30 : HasBody Tryz.prog 30 := ⟨⟨Tryz.f30, Tryz.func30, rfl, by kernel_rfl⟩⟩
instance hb31 : HasBody Tryz.prog 31 := ⟨⟨Tryz.f31, Tryz.func31, rfl, by kernel_rfl⟩⟩
instance hb32 : HasBody Tryz.prog 32 := ⟨⟨Tryz.f32, Tryz.func32, rfl, by kernel_rfl⟩⟩
instance hb34 : HasBody Tryz.prog 34 := ⟨⟨Tryz.f34, Tryz.func34, rfl, by kernel_rfl⟩⟩
instance hb35 : HasBody Tryz.prog 35 := ⟨⟨Tryz.f35, Tryz.func35, rfl, by kernel_rfl⟩⟩
instance hb36 : HasBody Tryz.prog 36 := ⟨⟨Tryz.f36, Tryz.func36, rfl, by kernel_rfl⟩⟩
instance hb37 : HasBody Tryz.prog 37 := ⟨⟨Tryz.f37, Tryz.func37, rfl, by kernel_rfl⟩⟩
instance hb38 : HasBody Tryz.prog 38 := ⟨⟨Tryz.f38, Tryz.func38, rfl, by kernel_rfl⟩⟩
instance hb39 : HasBody Tryz.prog 39 := ⟨⟨Tryz.f39, Tryz.func39, rfl, by kernel_rfl⟩⟩
instance hb40 : HasBody Tryz.prog 40 := ⟨⟨Tryz.f40, Tryz.func40, rfl, by kernel_rfl⟩⟩
instance hb41 : HasBody Tryz.prog 41 := ⟨⟨Tryz.f41, Tryz.func41, rfl, by kernel_rfl⟩⟩
instance hb42 : HasBody Tryz.prog 42 := ⟨⟨Tryz.f42, Tryz.func42, rfl, by kernel_rfl⟩⟩
instance hb43 : HasBody Tryz.prog 43 := ⟨⟨Tryz.f43, Tryz.func43, rfl, by kernel_rfl⟩⟩
instance hb46 : HasBody Tryz.prog 46 := ⟨⟨Tryz.f46, Tryz.func46, rfl, by kernel_rfl⟩⟩
instance hb47 : HasBody Tryz.prog 47 := ⟨⟨Tryz.f47, Tryz.func47, rfl, by kernel_rfl⟩⟩
instance hb48 : HasBody Tryz.prog 48 := ⟨⟨Tryz.f48, Tryz.func48, rfl, by kernel_rfl⟩⟩
instance hb49 : HasBody Tryz.prog 49 := ⟨⟨Tryz.f49, Tryz.func49, rfl, by kernel_rfl⟩⟩
instance hb50 : HasBody Tryz.prog 50 := ⟨⟨Tryz.f50, Tryz.func50, rfl, by kernel_rfl⟩⟩
instance hb51 : HasBody Tryz.prog 51 := ⟨⟨Tryz.f51, Tryz.func51, rfl, by kernel_rfl⟩⟩
instance hb52 : HasBody Tryz.prog 52 := ⟨⟨Tryz.f52, Tryz.func52, rfl, by kernel_rfl⟩⟩
instance hb53 : HasBody Tryz.prog 53 := ⟨⟨Tryz.f53, Tryz.func53, rfl, by kernel_rfl⟩⟩
instance hb55 : HasBody Tryz.prog 55 := ⟨⟨Tryz.f55, Tryz.func55, rfl, by kernel_rfl⟩⟩
instance hb56 : HasBody Tryz.prog 56 := ⟨⟨Tryz.f56, Tryz.func56, rfl, by kernel_rfl⟩⟩
instance hb57 : HasBody Tryz.prog 57 := ⟨⟨Tryz.f57, Tryz.func57, rfl, by kernel_rfl⟩⟩
instance hb58 : HasBody Tryz.prog 58 := ⟨⟨Tryz.f58, Tryz.func58, rfl, by kernel_rfl⟩⟩
instance hb59 : HasBody Tryz.prog 59 := ⟨⟨Tryz.f59, Tryz.func59, rfl, by kernel_rfl⟩⟩
instance hb60 : HasBody Tryz.prog 60 := ⟨⟨Tryz.f60, Tryz.func60, rfl, by kernel_rfl⟩⟩
instance hb61 : HasBody Tryz.prog 61 := ⟨⟨Tryz.f61, Tryz.func61, rfl, by kernel_rfl⟩⟩
instance hb62 : HasBody Tryz.prog 62 := ⟨⟨Tryz.f62, Tryz.func62, rfl, by kernel_rfl⟩⟩
instance hb63 : HasBody Tryz.prog 63 := ⟨⟨Tryz.f63, Tryz.func63, rfl, by kernel_rfl⟩⟩
instance hb64 : HasBody Tryz.prog 64 := ⟨⟨Tryz.f64, Tryz.func64, rfl, by kernel_rfl⟩⟩
instance hb72 : HasBody Tryz.prog 72 := ⟨⟨Tryz.f72, Tryz.func72, rfl, by kernel_rfl⟩⟩
instance hb98 : HasBody Tryz.prog 98 := ⟨⟨Tryz.f98, Tryz.func98, rfl, by kernel_rfl⟩⟩
instance hb109 : HasBody Tryz.prog 109 := ⟨⟨Tryz.f109, Tryz.func109, rfl, by kernel_rfl⟩⟩
theorem mixed : Tryz.prog.follows .mixedOrders = true := by kernel_rfl
end Go.Ab
namespace Go.Ab
open Go.Proofs
attribute [local irreducible] WS RS Done OpJ Then InBlock Round Ret Env.sub FnH
/-- Finite. -/
def finB (x : FV) : Bool := cmpB .eql (fcmp .f32 (fbin .sub .f32 x x) (fv .f32 0))

theorem isFinite_fn (x : FV) : Fn Tryz.prog 50 (fun _ => [.f .f32 x]) (.raw (.bool (finB x))) := by
  refine fn_intro Tryz.func50 rfl Tryz.ntmps50 (fun _ => Nat.le_of_ble_eq_true rfl) fun w0 => ?_
  repeat first | refine zai rfl rfl ?_ | refine zaj rfl rfl rfl rfl ?_ | refine zaa rfl (zay rfl) ?_ | refine zaa rfl (zaz rfl) ?_ | (refine zac ?_; first | refine zaa rfl (zba rfl rfl rfl) ?_ | refine zaa rfl (zbb rfl rfl (by omega)) ?_ | refine zaa rfl (zbc rfl rfl (by omega)) ?_ | refine zaa rfl (zbd rfl rfl rfl) ?_ | refine zaa rfl (zbe rfl rfl) ?_ | refine zaa rfl (zbf rfl rfl) ?_ | refine zaa rfl (zbg rfl rfl) ?_ | refine zaa rfl (zbh rfl rfl) ?_ | refine zaa rfl (zbi rfl rfl) ?_ | refine zaa rfl (zbj rfl rfl) ?_ | refine zaa rfl (zbk rfl rfl) ?_ | refine zaa rfl (zbl rfl rfl) ?_) | (refine zad ?_; first | refine zaa rfl (zbm rfl) ?_ | refine zaa rfl (zbn rfl) ?_ | refine zaa rfl (zbp rfl) ?_ | refine zaa rfl (zbq rfl) ?_ | refine zaa rfl (zbr rfl rfl) ?_) | refine zaa rfl (zbu rfl rfl) ?_ | refine zaa rfl (zbv rfl rfl (by omega) (by omega)) ?_ | refine zaa rfl (zbw rfl rfl (by omega) (by omega)) ?_ | refine zaa rfl (zbx rfl) ?_ | refine zaa rfl (zby rfl) ?_ | refine zaa rfl (zbz rfl rfl) ?_ | refine zaa rfl (zca rfl rfl) ?_ | refine zaa rfl (zcb rfl rfl) ?_ | refine zaa rfl (zcc rfl) ?_ | refine zah ?_ | (refine zcr ?_; first | refine zcs ?_ | refine zct ?_ | refine zcu ?_ | refine zcv ?_ | refine zcw ?_ | refine zcx ?_ | refine zcy rfl ?_ | refine zcz ?_ | refine zda ?_) | (refine zdb ?_; first | refine zdc ?_ | refine zdd ?_ | refine zde ?_ | refine zdf ?_ | refine zdg ?_ | refine zdh ?_ | refine zdi rfl ?_ | refine zdj rfl ?_)
  exact done_ret1 rfl () rfl trivial (List.nil_sublist _)
theorem l01Finite_fn (x : FV) : Fn Tryz.prog 51 (fun _ => [.f .f32 x]) (.raw (.bool (finB x))) := by
  refine fn_intro Tryz.func51 rfl Tryz.ntmps51 (fun _ => Nat.le_of_ble_eq_true rfl) fun w0 => ?_
  repeat first | refine zai rfl rfl ?_ | refine zaj rfl rfl rfl rfl ?_ | refine zaa rfl (zay rfl) ?_ | refine zaa rfl (zaz rfl) ?_ | (refine zac ?_; first | refine zaa rfl (zba rfl rfl rfl) ?_ | refine zaa rfl (zbb rfl rfl (by omega)) ?_ | refine zaa rfl (zbc rfl rfl (by omega)) ?_ | refine zaa rfl (zbd rfl rfl rfl) ?_ | refine zaa rfl (zbe rfl rfl) ?_ | refine zaa rfl (zbf rfl rfl) ?_ | refine zaa rfl (zbg rfl rfl) ?_ | refine zaa rfl (zbh rfl rfl) ?_ | refine zaa rfl (zbi rfl rfl) ?_ | refine zaa rfl (zbj rfl rfl) ?_ | refine zaa rfl (zbk rfl rfl) ?_ | refine zaa rfl (zbl rfl rfl) ?_) | (refine zad ?_; first | refine zaa rfl (zbm rfl) ?_ | refine zaa rfl (zbn rfl) ?_ | refine zaa rfl (zbp rfl) ?_ | refine zaa rfl (zbq rfl) ?_ | refine zaa rfl (zbr rfl rfl) ?_) | refine zaa rfl (zbu rfl rfl) ?_ | refine zaa rfl (zbv rfl rfl (by omega) (by omega)) ?_ | refine zaa rfl (zbw rfl rfl (by omega) (by omega)) ?_ | refine zaa rfl (zbx rfl) ?_ | refine zaa rfl (zby rfl) ?_ | refine zaa rfl (zbz rfl rfl) ?_ | refine zaa rfl (zca rfl rfl) ?_ | refine zaa rfl (zcb rfl rfl) ?_ | refine zaa rfl (zcc rfl) ?_ | refine zah ?_ | (refine zcr ?_; first | refine zcs ?_ | refine zct ?_ | refine zcu ?_ | refine zcv ?_ | refine zcw ?_ | refine zcx ?_ | refine zcy rfl ?_ | refine zcz ?_ | refine zda ?_) | (refine zdb ?_; first | refine zdc ?_ | refine zdd ?_ | refine zde ?_ | refine zdf ?_ | refine zdg ?_ | refine zdh ?_ | refine zdi rfl ?_ | refine zdj rfl ?_)
  exact done_ret1 rfl () rfl trivial (List.nil_sublist _)
end Go.Ab
