/- A calculus for walks: frames and memory as lists of what is known of them, floats without the bits of a not-a-number. No conditions. -/
import Derived.Test.YtljgokghchhjaaaFl
import Derived.WalkKit
import Derived.Orders
import Derived.ChangeKeysEq
namespace Go.Ab

/-- What is known of a value. -/
inductive AV where
  | f (k : FloatKind) (x : FV)
  | c (k : FloatKind) (x y : FV)
  | raw (v : Value)
  | agg (l : List AV)
  | tup (l : List AV)
  /-- a predicate of the value alone -/
  | q (φ : Value → Prop)
  /-- a predicate that stands while nothing that was there is written -/
  | p (φ : World → Value → Prop)
  deriving Inhabited

/-- What was there stands; blocks may have been added, answers drawn. -/
def Ext (w w' : World) : Prop := RowKit.Below w.heap.size w w'
theorem Ext.refl (w : World) : Ext w w := RowKit.Below.refl _ _
theorem Ext.trans {a b c : World} (h : Ext a b) (k : Ext b c) : Ext a c := RowKit.Below.trans h (RowKit.Below.mono k h.size)
theorem Ext.of_quiet {w w' : World} (h : Quiet w w') : Ext w w' := by
  rcases h with rfl | rfl
  · exact Ext.refl _
  · exact ⟨rfl, rfl, rfl, Nat.le_refl _, fun _ _ => rfl⟩
theorem Ext.alloc (w : World) (o : Obj) : Ext w (w.alloc o) := RowKit.Below.alloc (RowKit.Below.refl _ _) (Nat.le_refl _) o
theorem Ext.cell {w w' : World} (h : Ext w w') {a : Addr} {v : Value} (hc : w.cell? a = some v) : w'.cell? a = some v := by
  have hlt : a.block < w.heap.size := by
    unfold World.cell? at hc
    split at hc
    · rename_i hb; exact (Array.getElem?_eq_some_iff.1 hb).1
    · cases hc
  rw [RowKit.Below.cell h hlt]; exact hc
theorem Ext.block {w w' : World} (h : Ext w w') {b : Nat} {o : Obj} (hb : w.heap[b]? = some o) : w'.heap[b]? = some o := by
  have hlt : b < w.heap.size := (Array.getElem?_eq_some_iff.1 hb).1
  rw [RowKit.Below.block h b hlt]; exact hb

def Mono (φ : World → Value → Prop) : Prop := ∀ w w' v, Ext w w' → φ w v → φ w' v

mutual
inductive Rel (w : World) : AV → Value → Prop
  | f {k : FloatKind} {b : Nat} : b < 2 ^ k.format.width → Rel w (.f k (fv k b)) (.float k b)
  | c {k : FloatKind} {a b : Nat} : a < 2 ^ k.format.width → b < 2 ^ k.format.width → Rel w (.c k (fv k a) (fv k b)) (.complex k a b)
  | raw {v : Value} : Rel w (.raw v) v
  | agg {l : List AV} {vs : List Value} : RelL w l vs → Rel w (.agg l) (.agg vs.toArray)
  | tup {l : List AV} {vs : List Value} : RelL w l vs → Rel w (.tup l) (.tuple vs.toArray)
  | q {φ : Value → Prop} {v : Value} : φ v → Rel w (.q φ) v
  | p {φ : World → Value → Prop} {v : Value} : Mono φ → φ w v → Rel w (.p φ) v
inductive RelL (w : World) : List AV → List Value → Prop
  | nil : RelL w [] []
  | cons {a : AV} {v : Value} {l : List AV} {vs : List Value} : Rel w a v → RelL w l vs → RelL w (a :: l) (v :: vs)
end

theorem Rel.f' {w : World} {k : FloatKind} {b : Nat} {x : FV} (hb : b < 2 ^ k.format.width) (h : fv k b = x) : Rel w (.f k x) (.float k b) := by
  subst h; exact .f hb
theorem Rel.c' {w : World} {k : FloatKind} {a b : Nat} {x y : FV} (ha : a < 2 ^ k.format.width) (hb : b < 2 ^ k.format.width) (h : fv k a = x) (h' : fv k b = y) : Rel w (.c k x y) (.complex k a b) := by
  subst h; subst h'; exact .c ha hb
theorem Rel.inv_f {w : World} {k : FloatKind} {x : FV} {v : Value} (h : Rel w (.f k x) v) : ∃ b, v = .float k b ∧ fv k b = x ∧ b < 2 ^ k.format.width := by
  cases h; exact ⟨_, rfl, rfl, by assumption⟩
theorem Rel.inv_c {w : World} {k : FloatKind} {x y : FV} {v : Value} (h : Rel w (.c k x y) v) : ∃ a b, v = .complex k a b ∧ fv k a = x ∧ fv k b = y ∧ a < 2 ^ k.format.width ∧ b < 2 ^ k.format.width := by
  cases h; exact ⟨_, _, rfl, rfl, rfl, by assumption, by assumption⟩
theorem Rel.inv_raw {w : World} {u v : Value} (h : Rel w (.raw u) v) : v = u := by cases h; rfl
theorem Rel.inv_agg {w : World} {l : List AV} {v : Value} (h : Rel w (.agg l) v) : ∃ vs, v = .agg vs.toArray ∧ RelL w l vs := by
  cases h; exact ⟨_, rfl, by assumption⟩
theorem Rel.inv_tup {w : World} {l : List AV} {v : Value} (h : Rel w (.tup l) v) : ∃ vs, v = .tuple vs.toArray ∧ RelL w l vs := by
  cases h; exact ⟨_, rfl, by assumption⟩
theorem Rel.inv_q {w : World} {φ : Value → Prop} {v : Value} (h : Rel w (.q φ) v) : φ v := by cases h; assumption
theorem Rel.inv_p {w : World} {φ : World → Value → Prop} {v : Value} (h : Rel w (.p φ) v) : Mono φ ∧ φ w v := by cases h; exact ⟨by assumption, by assumption⟩
theorem RelL.inv_nil {w : World} {vs : List Value} (h : RelL w [] vs) : vs = [] := by cases h; rfl
theorem RelL.inv_cons {w : World} {a : AV} {l : List AV} {vs : List Value} (h : RelL w (a :: l) vs) : ∃ v r, vs = v :: r ∧ Rel w a v ∧ RelL w l r := by
  cases h; exact ⟨_, _, rfl, by assumption, by assumption⟩
theorem RelL.length {w : World} : ∀ {l : List AV} {vs : List Value}, RelL w l vs → vs.length = l.length
  | [], _, h => by rw [h.inv_nil]; rfl
  | _ :: _, _, h => by obtain ⟨v, r, rfl, _, hr⟩ := h.inv_cons; simp [hr.length]
theorem RelL.get {w : World} : ∀ {l : List AV} {vs : List Value}, RelL w l vs → ∀ {i : Nat} {a : AV}, l[i]? = some a → ∃ v, vs[i]? = some v ∧ Rel w a v
  | [], _, _, i, a, hi => by simp at hi
  | x :: l, _, h, i, a, hi => by
    obtain ⟨v, r, rfl, hv, hr⟩ := h.inv_cons
    cases i with
    | zero => simp at hi; subst hi; exact ⟨v, rfl, hv⟩
    | succ i => simp at hi; obtain ⟨u, hu, hru⟩ := hr.get hi; exact ⟨u, by simpa using hu, hru⟩
theorem RelL.of_get {w : World} : ∀ {l : List AV} {vs : List Value}, vs.length = l.length → (∀ (i : Nat) (a : AV) (v : Value), l[i]? = some a → vs[i]? = some v → Rel w a v) → RelL w l vs
  | [], [], _, _ => .nil
  | [], _ :: _, h, _ => by simp at h
  | _ :: _, [], h, _ => by simp at h
  | a :: l, v :: vs, h, hg => .cons (hg 0 a v rfl rfl) (RelL.of_get (by simpa using h) fun i a v h1 h2 => hg (i + 1) a v (by simpa using h1) (by simpa using h2))
theorem RelL.append {w : World} : ∀ {l : List AV} {vs : List Value} {m : List AV} {us : List Value}, RelL w l vs → RelL w m us → RelL w (l ++ m) (vs ++ us)
  | [], _, _, _, h, k => by rw [h.inv_nil]; exact k
  | _ :: _, _, _, _, h, k => by obtain ⟨v, r, rfl, hv, hr⟩ := h.inv_cons; exact .cons hv (RelL.append hr k)

mutual
theorem Rel.ext {w w' : World} (hw : Ext w w') : ∀ {a : AV} {v : Value}, Rel w a v → Rel w' a v
  | _, _, .f h => .f h
  | _, _, .c h k => .c h k
  | _, _, .raw => .raw
  | _, _, .agg h => .agg (RelL.ext hw h)
  | _, _, .tup h => .tup (RelL.ext hw h)
  | _, _, .q h => .q h
  | _, _, .p m h => .p m (m _ _ _ hw h)
theorem RelL.ext {w w' : World} (hw : Ext w w') : ∀ {l : List AV} {vs : List Value}, RelL w l vs → RelL w' l vs
  | _, _, .nil => .nil
  | _, _, .cons h k => .cons (Rel.ext hw h) (RelL.ext hw k)
end

-- No part of it speaks of a world.
mutual
def AV.still : AV → Bool
  | .f .. | .c .. | .raw _ | .q _ => true
  | .agg l => AV.stillL l
  | .tup l => AV.stillL l
  | .p _ => false
def AV.stillL : List AV → Bool
  | [] => true
  | a :: l => a.still && AV.stillL l
end
mutual
theorem Rel.any {w w' : World} : ∀ {a : AV} {v : Value}, a.still = true → Rel w a v → Rel w' a v
  | _, _, _, .f h => .f h
  | _, _, _, .c h k => .c h k
  | _, _, _, .raw => .raw
  | _, _, hs, .agg h => .agg (RelL.any (by simpa only [AV.still] using hs) h)
  | _, _, hs, .tup h => .tup (RelL.any (by simpa only [AV.still] using hs) h)
  | _, _, _, .q h => .q h
  | _, _, hs, .p m h => by simp [AV.still] at hs
theorem RelL.any {w w' : World} : ∀ {l : List AV} {vs : List Value}, AV.stillL l = true → RelL w l vs → RelL w' l vs
  | _, _, _, .nil => .nil
  | _, _, hs, .cons h k => .cons (Rel.any (by simp only [AV.stillL, Bool.and_eq_true] at hs; exact hs.1) h) (RelL.any (by simp only [AV.stillL, Bool.and_eq_true] at hs; exact hs.2) k)
end

/-- A constant of the program's text. -/
def cv1 : Value → AV
  | .float k b => .f k (fv k b)
  | .complex k a b => .c k (fv k a) (fv k b)
  | v => .raw v
def cv : Value → AV
  | .float k b => .f k (fv k b)
  | .complex k a b => .c k (fv k a) (fv k b)
  | .agg cs => .agg (cs.toList.map cv1)
  | v => .raw v
/-- Its floats fit their kinds. -/
def okv1 : Value → Bool
  | .float k b => b < 2 ^ k.format.width
  | .complex k a b => a < 2 ^ k.format.width && b < 2 ^ k.format.width
  | _ => true
def okv : Value → Bool
  | .agg cs => cs.toList.all okv1
  | v => okv1 v
theorem rel_cv1 (w : World) (v : Value) (h : okv1 v = true) : Rel w (cv1 v) v := by
  cases v <;> first | exact .raw | (simp [okv1] at h; exact .f h) | (simp [okv1] at h; exact .c h.1 h.2)
theorem rell_cv1 (w : World) : ∀ (l : List Value), (∀ x ∈ l, okv1 x = true) → RelL w (l.map cv1) l
  | [], _ => .nil
  | v :: l, h => .cons (rel_cv1 w v (h v (by simp))) (rell_cv1 w l fun x hx => h x (by simp [hx]))
theorem rel_cv (w : World) (v : Value) (h : okv v = true) : Rel w (cv v) v := by
  cases v <;> first | exact .raw | (simp [okv, okv1] at h; exact .f h) | (simp [okv, okv1] at h; exact .c h.1 h.2) | skip
  rename_i cs
  have : Rel w (.agg (cs.toList.map cv1)) (.agg cs.toList.toArray) := .agg (rell_cv1 w cs.toList (List.all_eq_true.1 h))
  simpa [cv] using this

/-- The slots that are known. -/
abbrev Env := List (Nat × AV)
def Env.look : Env → Nat → Option AV
  | [], _ => none
  | (d, v) :: r, t => match Nat.beq d t with
    | true => some v
    | false => Env.look r t
def Env.put (e : Env) (dst : Option Tmp) (v : AV) : Env := match dst with
  | some d => (d, v) :: e
  | none => e
def Env.ev (e : Env) : Operand → Option AV
  | .tmp t => e.look t
  | .const v => if okv v then some (cv v) else none
  | .global g => some (.raw (.pointer (some ⟨g, 0, none⟩)))
  | .func f => some (.raw (.func (.func f) #[] #[]))
/-- A frame of N slots in which the known slots are as known. -/
structure Fr (N : Nat) (e : Env) (a : Act) (w : World) : Prop where
  defers : a.defers = []
  size : a.tmps.size = N
  rel : ∀ t v, e.look t = some v → ∃ u, a.tmps[t]? = some u ∧ Rel w v u
theorem Fr.ext {N : Nat} {e : Env} {a : Act} {w w' : World} (h : Fr N e a w) (hw : Ext w w') : Fr N e a w' :=
  ⟨h.defers, h.size, fun t v ht => let ⟨u, hu, hr⟩ := h.rel t v ht; ⟨u, hu, hr.ext hw⟩⟩
theorem Fr.put {N : Nat} {e : Env} {a : Act} {w : World} {v : AV} {u : Value} (dst : Option Tmp) (h : Fr N e a w) (hd : ∀ d, dst = some d → d < N) (hr : Rel w v u) : Fr N (e.put dst v) (a.put dst u) w := by
  cases dst with
  | none => exact h
  | some d =>
    refine ⟨h.defers, by simp [Act.put, h.size], fun t x ht => ?_⟩
    simp only [Env.put, Env.look] at ht
    cases hb : Nat.beq d t with
    | true =>
      have : d = t := Nat.eq_of_beq_eq_true hb
      subst this
      simp only [hb, Option.some.injEq] at ht
      subst ht
      exact ⟨u, by simp [Act.put, h.size, hd d rfl], hr⟩
    | false =>
      have hne : d ≠ t := fun e => by subst e; simp at hb
      simp only [hb] at ht
      obtain ⟨y, hy, hry⟩ := h.rel t x ht
      exact ⟨y, by simp [Act.put, Array.getElem?_setIfInBounds_ne hne, hy], hry⟩
theorem Fr.eval {N : Nat} {e : Env} {a : Act} {w : World} (h : Fr N e a w) {x : Operand} {v : AV} (hx : e.ev x = some v) : Rel w v (a.eval x) := by
  cases x with
  | tmp t =>
    obtain ⟨u, hu, hr⟩ := h.rel t v hx
    have : a.eval (.tmp t) = u := by simp [Act.eval, hu]
    rw [this]; exact hr
  | const c =>
    simp only [Env.ev] at hx
    split at hx
    · rename_i ho; cases hx; exact rel_cv w c ho
    · cases hx
  | global g => cases hx; exact .raw
  | func f => cases hx; exact .raw
/-- What is known is forgotten. -/
def Env.sub (e' e : Env) : Prop := ∀ t v, e'.look t = some v → e.look t = some v
theorem Fr.sub {N : Nat} {e e' : Env} {a : Act} {w : World} (h : Fr N e a w) (hs : Env.sub e' e) : Fr N e' a w :=
  ⟨h.defers, h.size, fun t v ht => h.rel t v (hs t v ht)⟩
theorem Env.sub_nil (e : Env) : Env.sub [] e := fun _ _ h => by cases h
theorem Env.sub_cons {e e' : Env} {d : Nat} {v : AV} (h : e.look d = some v) (hs : Env.sub e' e) : Env.sub ((d, v) :: e') e := fun t x ht => by
  simp only [Env.look] at ht
  cases hb : Nat.beq d t with
  | true => simp only [hb, Option.some.injEq] at ht; rw [← Nat.eq_of_beq_eq_true hb, h, ht]
  | false => simp only [hb] at ht; exact hs t x ht
theorem Env.sub_refl (e : Env) : Env.sub e e := fun _ _ h => h

/-- A predicate of worlds that stands while nothing that was there is written. -/
class Cl (S : World → Prop) : Prop where
  ext : ∀ {w w'}, S w → Ext w w' → S w'

section
variable {P : Program} {N : Nat} {S : World → Prop}

/-- One operation gives what is said, wherever S holds and the operands are as known; nothing that was there is written. -/
def OpJ (P : Program) (S : World → Prop) (e : Env) (o : Oper) (v : AV) : Prop :=
  ∀ (a : Act) (w : World) (K : Act → World → Prop) (Q : Exit → Act → World → Prop), S w →
    (∀ x ∈ o.op.operands.toList, ∀ y, e.ev x = some y → Rel w y (a.eval x)) →
    (∀ u w', Ext w w' → Rel w' v u → K (a.put o.dst u) w') → o.wp P a w K Q

theorem opj_value {e : Env} {o : Oper} {v : AV}
    (h : ∀ (a : Act) (w : World), S w → (∀ x ∈ o.op.operands.toList, ∀ y, e.ev x = some y → Rel w y (a.eval x)) →
      ∃ u w', (execOp a.eval o).run P w = .ok (.value u) w' ∧ Ext w w' ∧ Rel w' v u) : OpJ P S e o v := by
  intro a w K Q hS hx hK
  obtain ⟨u, w', hr, hw, hu⟩ := h a w hS hx
  unfold Oper.wp
  rw [hr]
  exact hK u w' hw hu
end
end Go.Ab
