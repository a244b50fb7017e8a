/- Part 4 of the texts on which the law leans, joined: 'copy' into a list of the call's own; cuts of such a list; whole numbers of 64 bits without sign; lists of ones. No conditions. -/
import Derived.ProofKit
import Derived.OpenShut
import Derived.Deep.Slices
import Derived.KernelRfl
import Derived.Laws.CopyRow
import Derived.Test.YtijihljfpeajlaaZac
namespace Go.Ab
open Go.ChangeShapes Go.WideShapes Go.ChangeAt Go.RowKit
section
variable {H : Type} {enc : TypeId × Value → H} {P : Program}
theorem stays_all (hl : laidOutB P = true) {W W' : World} (hw : Ext W W') : ∀ {ts : List TypeId} {vs : List Value} {ds : List (DataW H)} {ps : List MemPlace}, (∀ t ∈ ts, P.readableRec t = true ∧ t < P.types.size) →
    DataW.TrodAll enc P W 0 (fun _ => true) true ts vs ds ps → (∀ p ∈ ps, p.block < W.heap.size) → ∀ sp : Nat → Bool, (∀ p ∈ ps, sp p.block = true) → DataW.TrodAll enc P W' 0 sp true ts vs ds ps
  | [], vs, ds, ps, _, h, _, sp, _ => by
    obtain ⟨rfl, rfl, rfl⟩ := trodAll_nil h
    exact rfl
  | t :: ts, vs, ds, ps, ht, h, hlt, sp, hsp => by
    obtain ⟨v, vs', d, ds', p, q, rfl, rfl, rfl, h1, h2⟩ := trodAll_cons h
    refine ⟨p, q, ?_, stays_all hl hw (fun t' h' => ht t' (by simp [h'])) h2 (fun x hx => hlt x (by simp [hx])) sp (fun x hx => hsp x (by simp [hx])), rfl⟩
    exact WideElems.Trod_stays hl (ht t (by simp)).1 (ht t (by simp)).2 h1 (fun x hx => RowKit.Below.same hw (hlt x (by simp [hx]))) (fun x hx => hsp x (by simp [hx]))

/-- The row's step of a law that only reads. -/
theorem law_lift {C : Checked} {os : Os} {f : FuncId} {fn : Func} {s : ChangeSpec} {T : TypeId}
    (own : ownKnob C.prog.godebug = none) (started : os.Started) (noInit : C.prog.inits.idxOf? f = none) (hfn : C.prog.funcs[f]? = some fn)
    (witness : ∃ (w : World) (tape : Tape) (i : Input), w.os = os ∧ (w.forCall tape i).Shaped C.prog ∧ i.vars = [] ∧ Input.okWide C.prog (w.forCall tape i) .any w.heap.size f i ∧
      s.pre6 enc C.prog fn [] false (w.forCall tape i).memory i.args ∧ ({} : Assume).holds C.prog (lone (Frame.enter C.prog f i.args .normal) [] (w.forCall tape i)))
    (hvars : s.vars = []) (hspec : ∀ ds : List (DataW H), ds.length = fn.params.size → (s.fn H ds).results = [.lit (.bool true)] ∧ (s.fn H ds).args = ds ∧ (s.fn H ds).vars = [])
    (hres : fn.resultTypes = #[T]) (hT : C.prog.underlying T = some .bool) (hl : laidOutB C.prog = true) (hts : ∀ t ∈ fn.params.toList, C.prog.readableRec t = true ∧ t < C.prog.types.size)
    (h : ∀ (W : World) (base : Nat) (args : Array Value) (ds : List (DataW H)) (ps : List MemPlace), (∀ (j : Nat) t v, fn.params[j]? = some t → args[j]? = some v → Value.okWide C.prog W .any base t v) →
      DataW.TrodAll enc C.prog W 0 (fun _ => true) true fn.params.toList args.toList ds ps → Calls C.prog f args W fun e W' => e = .returned (.bool true) ∧ Ext W W') :
    ReturnsInHanded {} C os f .any (s.pre6 enc C.prog fn [] false) (s.post enc C.prog fn false true false false) := by
  refine returnsInHanded_of_change own started noInit hfn witness ?_
  intro W base args ds gs before hval hW _ _
  obtain ⟨p, q, hA, hV, hps, hnf, hnd⟩ := hW
  have hW : DataW.Whole enc C.prog fn.params.toList s.vars false W args.toList ds gs before := ⟨p, q, hA, hV, hps, hnf, hnd⟩
  have hlen : ds.length = fn.params.size := by
    have : ∀ (ts : List TypeId) (vs : List Value) (ds : List (DataW H)) (ps : List MemPlace), DataW.TrodAll enc C.prog W 0 (fun _ => true) true ts vs ds ps → ds.length = ts.length := by
      intro ts
      induction ts with
      | nil => intro vs ds ps h; obtain ⟨_, rfl, _⟩ := trodAll_nil h; rfl
      | cons t ts ih => intro vs ds ps h; obtain ⟨v, vs', d, ds', p, q, rfl, rfl, rfl, _, h2⟩ := trodAll_cons h; simp [ih _ _ _ h2]
    simpa using this _ _ _ _ hA
  rw [hvars] at hV
  have hgs : gs = [] ∧ q = [] := by
    cases gs with
    | nil => exact ⟨rfl, hV⟩
    | cons g gs => cases hV
  obtain ⟨rfl, rfl⟩ := hgs
  refine (h W base args ds p hval hA).mono fun e W' ⟨he, hext⟩ => ⟨.bool true, he, ?_⟩
  obtain ⟨hr1, hr2, hr3⟩ := hspec (ds ++ []) (by simpa using hlen)
  have hlt : ∀ x ∈ before, x.block < W.heap.size := fun x hx => hW.lt x hx
  have hbp : before = p := by simpa using hps
  subst hbp
  have hargs : ∀ sp : Nat → Bool, (∀ x ∈ before, sp x.block = true) → DataW.TrodAll enc C.prog W' 0 sp true fn.params.toList args.toList (s.fn H (ds ++ [])).args before := fun sp hsp => by
    rw [hr2, List.append_nil]
    exact stays_all hl hext hts hA hlt sp hsp
  have hresu : ∀ (b : Nat) (sp : Nat → Bool) (hd : Bool), DataW.TrodAll enc C.prog W' b sp hd fn.resultTypes.toList ((Value.bool true).resultList fn.resultTypes.size) (s.fn H (ds ++ [])).results [] := fun b sp hd => by
    rw [hr1, hres]
    exact trodAll_mk1 (shut_bool hT true)
  have hvs : ∀ sp : Nat → Bool, DataW.TrodVars enc C.prog W' sp s.vars (s.fn H (ds ++ [])).vars [] := fun sp => by
    rw [hvars, hr3]; exact rfl
  have hok : ∀ (j : Nat) (t : TypeId) (r : Value), fn.resultTypes[j]? = some t → ((Value.bool true).resultList fn.resultTypes.size)[j]? = some r → Value.okWide C.prog W' .any 0 t r := by
    rw [hres]
    intro j t r h1 h2
    have e : (Value.bool true).resultList (#[T] : Array TypeId).size = [.bool true] := rfl
    rw [e] at h2
    cases j with
    | zero =>
      simp at h1 h2
      subst h1; subst h2
      exact okWide_bool_mk hT true
    | succ j => simp at h1
  have hold : ∀ x ∈ before, (fun b => decide (b < W.heap.size)) x.block = true := fun x hx => by simpa using hlt x hx
  refine ⟨ds, [], before, [], before, [], hW, hresu _ _ _, hargs _ hold, hvs _, World.keptBut_mono (fun x hx => ⟨hx, .inr (by simpa using hx)⟩) (RowKit.Below.frame hext (· ∈ before)), fun h => by cases h⟩

theorem trod_int1 {W : World} {t : TypeId} {k : IntKind} {sp : Nat → Bool} {hd : Bool} {fuel base : Nat} {cs : List Value} {x : DataW H × List MemPlace} (ht : P.underlying t = some (.int k)) (h : DataW.trod enc P W base sp hd fuel t cs = some x) :
    ∃ n, cs = [.int k n] ∧ k.min ≤ n ∧ n ≤ k.max := by
  cases fuel with
  | zero => simp [DataW.trod] at h
  | succ fuel =>
    unfold DataW.trod at h
    rw [ht] at h
    split at h <;> simp_all
    rename_i k' b hk
    obtain ⟨⟨rfl, hw⟩, _⟩ := h
    simpa [Lit.wf] using hw

theorem spot_of_cell {W : World} {a : Addr} {u : Value} (h : W.cell? a = some u) : a.spot = none := by
  unfold World.cell? at h
  split at h
  · cases hs : a.spot with
    | none => rfl
    | some s => simp [hs] at h
  · cases h
/-- A slice of one-cell elements that came in: each element is as its reading says. -/
theorem open_sl {α : Type} {m : α → AV} {W : World} {t e : TypeId} {v : Value} {d : DataW H} {p : List MemPlace} {base b2 : Nat} {sp : Nat → Bool} {hd : Bool} [ht : TyU P t (.slice e)] (hc : P.cellsOf e = 1)
    (helem : ∀ (n : Nat) (u : Value) (y : DataW H × List MemPlace), DataW.trod enc P W base sp hd n e [u] = some y → ∃ x : α, Ev (m x) u)
    (hval : Value.okWide P W .any b2 t v) (h : DataW.Trod enc P W base sp hd t v d p) : ∃ L : List α, Rd W 1 v (L.map m) := by
  obtain ⟨a0, n0, c0, rfl⟩ := okWide_slice ht.h hval
  obtain ⟨fuel, h⟩ := h
  rcases Deep.open_slice1 ht.h hc h with ⟨hcs, _⟩ | ⟨a, len, cap, mm, n, V, D, Pl, hcs, _, hl, hm, hmm, _, hx⟩
  · simp [Value.cells] at hcs
    obtain ⟨rfl, rfl, rfl⟩ := hcs
    exact ⟨[], none, 0, 0, rfl, rfl, Nat.le_refl _, by simp [maxLen], fun i x hi => by simp at hi⟩
  · simp [Value.cells] at hcs
    obtain ⟨rfl, rfl, rfl⟩ := hcs
    have hle : n0 ≤ mm := by rw [hmm]; split <;> omega
    have hex : ∀ k, k ≤ n0 → ∃ L : List α, L.length = k ∧ ∀ i x, L[i]? = some x → Ev (m x) (V i) := by
      intro k
      induction k with
      | zero => intro _; exact ⟨[], rfl, fun i x hi => by simp at hi⟩
      | succ k ih =>
        intro hk
        obtain ⟨L, hL, hall⟩ := ih (by omega)
        obtain ⟨x, hxk⟩ := helem _ _ _ (hx k (by omega)).2
        refine ⟨L ++ [x], by simp [hL], fun i y hi => ?_⟩
        rcases Nat.lt_or_ge i k with hik | hik
        · rw [List.getElem?_append_left (by omega)] at hi; exact hall i y hi
        · rw [List.getElem?_append_right (by omega)] at hi
          have : i - L.length = 0 := by
            false_or_by_contra
            rename_i hne
            rw [List.getElem?_eq_none (by simp; omega)] at hi
            cases hi
          have hik' : i = k := by omega
          subst hik'
          rw [this] at hi
          simp at hi
          subst hi
          exact hxk
    obtain ⟨L, hL, hall⟩ := hex n0 (Nat.le_refl _)
    refine ⟨L, some a, n0, c0, rfl, by simp [hL], hl, hm, fun i x hi => ?_⟩
    rw [List.getElem?_map] at hi
    obtain ⟨y, hy, rfl⟩ := Option.map_eq_some_iff.1 hi
    have hin : i < n0 := by rw [← hL]; exact (List.getElem?_eq_some_iff.1 hy).1
    have h0 := (hx 0 (by omega)).1
    have hsp : a.spot = none := by
      have := spot_of_cell h0
      simpa [Addr.add] using this
    refine ⟨a, rfl, hsp, V i, ?_, hall i y hy⟩
    have := (hx i (by omega)).1
    rw [addr_add a hsp] at this
    exact this
end
end Go.Ab
namespace Go.Ab
open Go.Proofs
variable {R : World → Prop} [RStab R]
abbrev By := Fin 256
def byA (x : By) : AV := .raw (.int .u8 (x.val : Int))
abbrev slB (w : World) (L : List By) : AV := AV.sl w 1 (L.map byA)
theorem open_slB {H : Type} {enc : TypeId × Value → H} {P : Program} {W : World} {t e : TypeId} {v : Value} {d : DataW H} {p : List MemPlace} {base b2 : Nat} {sp : Nat → Bool} {hd : Bool} [ht : TyU P t (.slice e)] [he : TyU P e (.int .u8)] (hc : P.cellsOf e = 1)
    (hval : Value.okWide P W .any b2 t v) (h : DataW.Trod enc P W base sp hd t v d p) : ∃ L : List By, Rel W (slB W L) v := by
  obtain ⟨L, hL⟩ := open_sl (m := byA) hc (fun n u y hy => by
    obtain ⟨b, hb, h1, h2⟩ := trod_int1 he.h hy
    have hmin : IntKind.u8.min = 0 := by decide
    have hmax : IntKind.u8.max = 255 := by decide
    rw [hmin] at h1
    rw [hmax] at h2
    obtain rfl : u = .int .u8 b := by simpa using hb
    refine ⟨⟨b.toNat, by omega⟩, ?_⟩
    have : (((⟨b.toNat, by omega⟩ : By).val : Nat) : Int) = b := by
      show ((b.toNat : Nat) : Int) = b
      omega
    unfold byA
    rw [this]
    exact fun _ => .raw) hval h
  exact ⟨L, .q hL⟩
section
variable {P : Program} {N : Nat} {S : World → Prop} {e : Env} {Q : Exit → Env → World → Prop} {ops : Array Oper} {l : List Oper}
variable {w0 w1 : World} {gs : List Nat} {H : List Ent} {dst : Option Tmp} {ty : TypeId} {pos : String} {after : Array Edge} {guard : Option (Nat × Bool)}
def KeepW (w1 w0 : World) (gs : List Nat) : Prop := Ext w1 w0 ∧ ∀ g ∈ gs, w1.heap.size ≤ g
theorem StR.extK {R0 : World → Prop} {w : World} (hk : KeepW w1 w0 gs) (h : StR R0 w0 gs H w) : Ext w1 w := by
  obtain ⟨h1, h2⟩ := hk
  refine ⟨h.mod.os.trans h1.os, h.mod.tape.trans h1.tape, h.mod.output.trans h1.output, Nat.le_trans h1.size h.mod.size, fun k hk => ?_⟩
  exact (h.mod.block k (Nat.lt_of_lt_of_le hk h1.size) (fun hm => by have := h2 k hm; omega)).trans (RowKit.Below.block h1 k hk)
theorem opj_lenK {R0 : World → Prop} {α : Type} {m : α → AV} {L : List α} {X : Operand} {t t2 : TypeId} {b : Nat} {z : Value} {el : TypeId} (hk : KeepW w1 w0 gs) [hu : TyU P t (.slice el)] [hi : TyI P el z 1 b] (hx : e.ev X = some (AV.sl w1 1 (L.map m))) :
    OpJ P (StR R0 w0 gs H) e ⟨dst, .call { callee := .builtin .len, args := #[X], argTypes := #[t] }, t2, pos, after, guard⟩ (.raw (.int .i64 (L.length : Int))) :=
  opj_value fun a w hS h => by
    have h1 := ((h X (by simp [Op.operands, Call.operands]) _ hx).inv_q : Rd w1 1 _ _).ext (hS.extK hk)
    obtain ⟨ad, len, cap, hv, hl, _, _, _⟩ := h1
    refine ⟨_, w, ?_, Ext.refl _, .raw⟩
    have : L.length = len := by simpa using hl
    rw [this]
    simp [execOp, resolve, invoke, builtin, Builtin.len_, run_underlying hu.h, hv, goInt]
theorem opj_indexK {R0 : World → Prop} {α : Type} [Inhabited α] {m : α → AV} {L : List α} {X I : Operand} {i : Int} {t : TypeId} {b : Nat} {z : Value} {el : TypeId} (hk : KeepW w1 w0 gs) [hu : TyU P t (.slice el)] [hi : TyI P el z 1 b]
    (hx : e.ev X = some (AV.sl w1 1 (L.map m))) (hI : e.ev I = some (.raw (.int .i64 i))) (h0 : 0 ≤ i) (hlt : i < (L.length : Int)) :
    OpJ P (StR R0 w0 gs H) e ⟨dst, .indexAddr t X I, ty, pos, after, guard⟩ (AV.ptr [m (L.getD i.toNat default)]) :=
  opj_value fun a w hS h => by
    have h1 := ((h X (by simp [Op.operands]) _ hx).inv_q : Rd w1 1 _ _).ext (hS.extK hk)
    have h2 := (h I (by simp [Op.operands]) _ hI).inv_raw
    obtain ⟨ad, len, cap, hv, hl, hc, hm, hr⟩ := h1
    have hlen : L.length = len := by simpa using hl
    have hget : (L.map m)[i.toNat]? = some (m (L.getD i.toNat default)) := by
      have hlt' : i.toNat < L.length := by omega
      simp [List.getD, hlt']
    obtain ⟨bb, hbb, hsp, u, hu', hev⟩ := hr _ _ hget
    subst hbb
    have hil' : i < (len : Int) := by omega
    refine ⟨_, w, ?_, Ext.refl _, .p (mono_ptrTo _) (?_ : PtrTo _ w (.pointer (some (bb.add (i.toNat * 1)))))⟩
    · simp [execOp, h2, hv, Instr.indexAt, asIntOf, run_underlying hu.h, run_size hi, h0, hil']
    · rw [addr_add bb hsp, Nat.mul_one]
      refine ⟨_, rfl, rfl, fun j x hj => ?_⟩
      cases j with
      | succ j => simp at hj
      | zero =>
        simp only [List.getElem?_cons_zero, Option.some.injEq] at hj
        subst hj
        exact ⟨u, hu', hev⟩
/-- What a predicate of the value alone tells. -/
theorem ws_q {c : Code} {t : Nat} {φ : Value → Prop} (h : e.look t = some (.q φ)) (hk : ∀ v, φ v → WS P N c ((t, .raw v) :: e) S Q) : WS P N c e S Q := fun a w hS hF => by
  obtain ⟨u, hu, hr⟩ := hF.rel t _ h
  refine hk u hr.inv_q a w hS ⟨hF.defers, hF.size, fun s v hs => ?_⟩
  simp only [Env.look] at hs
  cases hb : Nat.beq t s with
  | true =>
    have := Nat.eq_of_beq_eq_true hb
    subst this
    simp only [hb, Option.some.injEq] at hs
    subst hs
    exact ⟨u, hu, .raw⟩
  | false =>
    simp only [hb] at hs
    exact hF.rel s v hs
theorem rs_fact {φ : Prop} (hφ : ∀ w, S w → φ) (h : φ → RS P N ops l e S Q) : RS P N ops l e S Q := fun a w hS hF => h (hφ w hS) a w hS hF
theorem own_new {R0 : World → Prop} {w : World} {en : Ent} (h : StR R0 w0 [] H w) (hm : en ∈ H) : w0.heap.size ≤ en.g := by
  rcases (h.own en hm).1 with h1 | h1
  · cases h1
  · exact h1
theorem opj_intW {op : BinOp} (hop : isArithI op = true) {t t' : TypeId} {X Y : Operand} {k : IntKind} {x y : Int} (hx : e.ev X = some (.raw (.int k x))) (hy : e.ev Y = some (.raw (.int k y))) :
    OpJ P S e ⟨dst, .binOp op t X Y t', ty, pos, after, guard⟩ (.raw (.int k (k.wrap (arithI op x y)))) :=
  opj_value fun a w _ h => by
    have h1 := (h X (by simp [Op.operands]) _ hx).inv_raw
    have h2 := (h Y (by simp [Op.operands]) _ hy).inv_raw
    refine ⟨_, w, ?_, Ext.refl _, .raw⟩
    cases op <;> first | (cases hop; done) | simp [execOp, h1, h2, eqGuard, binOp, Op.intArith, arithI]
theorem opj_mulW {t t' : TypeId} {X Y : Operand} {x y : Int} (hx : e.ev X = some (.raw (.int .u64 x))) (hy : e.ev Y = some (.raw (.int .u64 y))) :
    OpJ P S e ⟨dst, .binOp .mul t X Y t', ty, pos, after, guard⟩ (.raw (.int .u64 (IntKind.u64.wrap (x * y)))) := opj_intW (op := .mul) rfl hx hy
theorem opj_addW {t t' : TypeId} {X Y : Operand} {x y : Int} (hx : e.ev X = some (.raw (.int .u64 x))) (hy : e.ev Y = some (.raw (.int .u64 y))) :
    OpJ P S e ⟨dst, .binOp .add t X Y t', ty, pos, after, guard⟩ (.raw (.int .u64 (IntKind.u64.wrap (x + y)))) := opj_intW (op := .add) rfl hx hy
theorem opj_shrW {t t' : TypeId} {X Y : Operand} {x y : Int} (h0 : 0 ≤ y) (hx : e.ev X = some (.raw (.int .u64 x))) (hy : e.ev Y = some (.raw (.int .u64 y))) :
    OpJ P S e ⟨dst, .binOp .shr t X Y t', ty, pos, after, guard⟩ (.raw (.int .u64 (x.fdiv (2 ^ min y.toNat 64)))) :=
  opj_value fun a w _ h => by
    have h1 := (h X (by simp [Op.operands]) _ hx).inv_raw
    have h2 := (h Y (by simp [Op.operands]) _ hy).inv_raw
    have hb : IntKind.u64.bits = 64 := rfl
    have h3 : ¬ y < 0 := by omega
    exact ⟨_, w, by simp [execOp, h1, h2, eqGuard, binOp, Op.shift, h3, hb], Ext.refl _, .raw⟩
def andW (x y : Int) : Int := IntKind.u64.wrap ((BitVec.ofInt 64 x &&& BitVec.ofInt 64 y).toNat : Int)
theorem opj_andW {t t' : TypeId} {X Y : Operand} {x y : Int} (hx : e.ev X = some (.raw (.int .u64 x))) (hy : e.ev Y = some (.raw (.int .u64 y))) :
    OpJ P S e ⟨dst, .binOp .and t X Y t', ty, pos, after, guard⟩ (.raw (.int .u64 (andW x y))) :=
  opj_value fun a w _ h => by
    have h1 := (h X (by simp [Op.operands]) _ hx).inv_raw
    have h2 := (h Y (by simp [Op.operands]) _ hy).inv_raw
    refine ⟨_, w, ?_, Ext.refl _, .raw⟩
    have hr : (binOp .and t (.int .u64 x) (.int .u64 y)).run P w = .ok (.int .u64 (andW x y)) w := by
      have h3 : (Op.intBits .and .u64 x y).run P w = .ok (.int .u64 (andW x y)) w := rfl
      simpa [binOp] using h3
    simp [execOp, h1, h2, eqGuard, hr]
theorem andW_255 (x : Int) : 0 ≤ andW x 255 ∧ andW x 255 ≤ 255 := by
  unfold andW
  have h1 : (BitVec.ofInt 64 x &&& BitVec.ofInt 64 255).toNat ≤ 255 := by
    have e2 : (BitVec.ofInt 64 255).toNat = 2 ^ 8 - 1 := by decide
    rw [BitVec.toNat_and, e2, Nat.and_two_pow_sub_one_eq_mod]
    have := Nat.mod_lt (BitVec.ofInt 64 x).toNat (show 0 < 2 ^ 8 by decide)
    omega
  rw [IntWalk.u64_in _ (by omega)]
  omega
theorem opj_byte {src dt : TypeId} {X : Operand} {x : By} [hs : TyU P src (.int .u8)] [hd : TyU P dt (.int .i64)] (hx : e.ev X = some (byA x)) : OpJ P S e ⟨dst, .convert src dt X, ty, pos, after, guard⟩ (.raw (.int .i64 (x.val : Int))) := by
  have h := opj_iint (P := P) (S := S) (e := e) (dst := dst) (ty := ty) (pos := pos) (after := after) (guard := guard) (k0 := .u8) (k := .u8) (k' := .i64) (hs := hs) (hd := hd) hx
  rwa [IntWalk.i64_in _ (by have := x.isLt; omega)] at h
theorem opj_small {src dt : TypeId} {X : Operand} {k0 k : IntKind} {n : Int} [hs : TyU P src (.int k0)] [hd : TyU P dt (.int .i64)] (hx : e.ev X = some (.raw (.int k n))) (hn : -9223372036854775808 ≤ n ∧ n ≤ 9223372036854775807) : OpJ P S e ⟨dst, .convert src dt X, ty, pos, after, guard⟩ (.raw (.int .i64 n)) := by
  have h := opj_iint (P := P) (S := S) (e := e) (dst := dst) (ty := ty) (pos := pos) (after := after) (guard := guard) (k0 := k0) (k := k) (k' := .i64) (hs := hs) (hd := hd) hx
  rwa [IntWalk.i64_in _ hn] at h
end
theorem opj_and255 {P : Program} {S : World → Prop} {e : Env} {dst : Option Tmp} {ty : TypeId} {pos : String} {after : Array Edge} {guard : Option (Nat × Bool)} {src dt : TypeId} {X : Operand} {x : Int} [hs : TyU P src (.int .u64)] [hd : TyU P dt (.int .i64)] (hx : e.ev X = some (.raw (.int .u64 (andW x 255)))) : OpJ P S e ⟨dst, .convert src dt X, ty, pos, after, guard⟩ (.raw (.int .i64 (andW x 255))) :=
  opj_small (k0 := .u64) hx (by have := andW_255 x; omega)
class SrcT (P : Program) (t : TypeId) : Prop where
  b1 : ∀ (w : World) (a : Option Addr) (n c : Nat), (Instr.build t #[(0, .slice a n c)]).run P w = .ok (.agg #[.slice a n c, .int .i64 0, .int .u64 0]) w
instance srcTi : SrcT Try.prog 77 := ⟨fun w a n c => by kernel_rfl⟩
section
variable {P : Program} {S : World → Prop} {e : Env} {dst : Option Tmp} {ty : TypeId} {pos : String} {after : Array Edge} {guard : Option (Nat × Bool)}
theorem opj_buildSrc {t : TypeId} [hb : SrcT P t] {X : Operand} {w1 : World} {us : List AV} (hx : e.ev X = some (AV.sl w1 1 us)) : OpJ P S e ⟨dst, .build t #[(0, X)], ty, pos, after, guard⟩ (.agg [AV.sl w1 1 us, .raw (.int .i64 0), .raw (.int .u64 0)]) :=
  opj_value fun ac w _ h => by
    have h1 := (h X (by simp [Op.operands]) _ hx)
    obtain ⟨a, n, c, hv, hr⟩ := (h1.inv_q : Rd w1 1 _ _)
    refine ⟨.agg #[.slice a n c, .int .i64 0, .int .u64 0], w, ?_, Ext.refl _, .agg (vs := [.slice a n c, .int .i64 0, .int .u64 0]) (.cons (.q ⟨a, n, c, rfl, hr⟩) (.cons .raw (.cons .raw .nil)))⟩
    simp only [execOp, List.map_toArray, List.map_cons, List.map_nil, hv, Sem.run_bind, hb.b1, Result.andThen_ok]
    rfl
end
attribute [local irreducible] WS RS Done OpJ Then InBlock Round Ret Env.sub FnH
abbrev srcE (w1 : World) (g : Nat) (L : List By) (at_ seed : Int) : Ent := ⟨g, 77, [slB w1 L, .raw (.int .i64 at_), .raw (.int .u64 seed)], 3⟩
/-- The source's place, younger than a world of which no block has turned. -/
def srcP (w1 : World) (g : Nat) (w : World) : AV := .q fun v => v = .pointer (some ⟨g, 0, none⟩) ∧ Ext w1 w ∧ w1.heap.size ≤ g
theorem Takes.srcP {R0 : World → Prop} {w0 w1 : World} {gs : List Nat} {H : List Ent} {g : Nat} {args : List AV} {A : World → List AV} (hk : KeepW w1 w0 gs) (hg : w1.heap.size ≤ g) (h : Takes (StR R0 w0 gs H) args A) :
    Takes (StR R0 w0 gs H) (.raw (.pointer (some ⟨g, 0, none⟩)) :: args) (fun w => Go.Ab.srcP w1 g w :: A w) := fun w vs hS hr => by
  obtain ⟨v, r, rfl, hv, hr⟩ := hr.inv_cons
  rw [hv.inv_raw]
  exact .cons (.q ⟨rfl, hS.extK hk, hg⟩) (h w r hS hr)
theorem l00From_fn (w1 : World) (L : List By) : FnH (X := Nat) Try.prog 19 (fun _ => [slB w1 L]) [] (fun g => .raw (.pointer (some ⟨g, 0, none⟩))) (fun g => [srcE w1 g L 0 0]) (fun _ => True) := by
  refine fn_intro Try.func19 rfl Try.ntmps19 (fun _ => Nat.le_of_ble_eq_true rfl) fun w0 => ?_
  repeat first | refine zaa rfl (zay rfl) ?_ | refine zaa rfl (zaz rfl) ?_ | refine zah ?_ | (refine zcr ?_; refine zcs ?_) | (refine zdb ?_; first | refine zdc ?_ | refine zdd ?_ | refine zdg ?_) | (refine zak rfl rfl rfl ?_; intro g) | refine zaa rfl (opj_buildSrc rfl) ?_
  exact done_ret1 rfl g rfl trivial (List.Sublist.refl _)
/-- What a draw leaves. -/
structure Dr where
  r : Int
  at_ : Int
  seed : Int
theorem next_fn (w1 : World) (g : Nat) (L : List By) (at_ seed : Int) (hat : 0 ≤ at_ ∧ at_ < 2 ^ 40) (hL : L.length < 2 ^ 40) :
    FnH (X := Dr) Try.prog 61 (fun w => [srcP w1 g w]) [srcE w1 g L at_ seed] (fun y => .raw (.int .i64 y.r)) (fun y => [srcE w1 g L y.at_ y.seed]) (fun y => 0 ≤ y.r ∧ y.r ≤ 255 ∧ y.at_ = at_ + 1) := by
  refine fn_intro Try.func61 rfl Try.ntmps61 (fun _ => Nat.le_of_ble_eq_true rfl) fun w0 => ?_
  refine ws_q (t := 0) rfl fun v hv => ?_
  obtain ⟨rfl, hx, hg⟩ := hv
  have hk : KeepW w1 w0 [g] := ⟨hx, fun x hx => by simp at hx; omega⟩
  repeat first | refine zaa rfl (zaz rfl) ?_ | refine zah ?_ | (refine zcr ?_; refine zcs ?_) | (refine zdb ?_; first | refine zdc ?_ | refine zdd ?_)
  refine ws_draw (n := 10) mixed (by decide +kernel) ?_
  repeat first | refine zap rfl (zay rfl) ?_ | (refine zar ?_; refine zap rfl (zbe rfl rfl) ?_) | (refine zat ?_; refine zap rfl (zcf rfl rfl (by (repeat (first | exact mh | refine mt ?_)); done) rfl) ?_) | refine zap rfl (zcd rfl) ?_ | refine zav ?_ | refine zap rfl (opj_nilCheck rfl) ?_ | refine zap rfl (opj_lenK hk rfl) ?_
  repeat first | refine zah ?_ | (refine zcr ?_; refine zcs ?_)
  refine ws_thenJ (fun b : Int => [(0, .raw (.pointer (some ⟨g, 0, none⟩))), (3, .raw (.int .i64 b))]) (fun _ => St w0 [g] [srcE w1 g L at_ seed]) (fun b => 0 ≤ b ∧ b ≤ 255) (ws_cond rfl (fun hd => ?_) (fun hd => ?_)) (fun b hb => ?_)
  · have hlt := of_decide_eq_true hd
    have hby := (L.getD at_.toNat default).isLt
    skip
    refine ws_draw (n := 12) mixed (by decide +kernel) ?_
    repeat first | refine zap rfl (zay rfl) ?_ | refine zap rfl (zaz rfl) ?_ | (refine zat ?_; first | refine zap rfl (zcf rfl rfl (by (repeat (first | exact mh | refine mt ?_)); done) rfl) ?_ | refine zap rfl (zbu rfl rfl) ?_) | refine zap rfl (zcd rfl) ?_ | refine zav ?_ | refine zap rfl (opj_nilCheck rfl) ?_ | refine zap rfl (opj_indexK hk rfl rfl (by omega) (by omega)) ?_ | refine zap rfl (opj_byte rfl) ?_
    repeat (refine zah ?_)
    refine done_join ((L.getD at_.toNat default).val : Int) (by omega) ?_ (fun _ h => h)
    (repeat (first | exact Env.sub_nil _ | refine Env.sub_cons rfl ?_))
  · repeat ((refine zdb ?_; refine zdf ?_))
    refine done_join (0 : Int) (by omega) ?_ (fun _ h => h)
    (repeat (first | exact Env.sub_nil _ | refine Env.sub_cons rfl ?_))
  repeat first | refine zaa rfl (zay rfl) ?_ | (refine zac ?_; first | refine zaa rfl (zbb rfl rfl (by omega)) ?_ | refine zaa rfl (opj_mulW rfl rfl) ?_ | refine zaa rfl (opj_addW rfl rfl) ?_) | (refine zae ?_; refine zaa rfl (zcf rfl rfl (by (repeat (first | exact mh | refine mt ?_)); done) rfl) ?_) | refine zaa rfl (zcd rfl) ?_ | refine zah ?_ | (refine zcr ?_; refine zcs ?_) | (refine zdb ?_; first | refine zdc ?_ | refine zdd ?_) | (refine zag ?_; refine zam 0 rfl rfl rfl rfl rfl rfl ?_) | refine zaa rfl (opj_nilCheck rfl) ?_ | refine zaa rfl (opj_iint (k0 := .i64) (k' := .u64) rfl) ?_
  refine ws_draw (n := 10) mixed (by decide +kernel) ?_
  repeat first | refine zap rfl (zay rfl) ?_ | (refine zar ?_; refine zap rfl (zbf rfl rfl) ?_) | (refine zat ?_; refine zap rfl (zcf rfl rfl (by (repeat (first | exact mh | refine mt ?_)); done) rfl) ?_) | refine zap rfl (zcd rfl) ?_ | refine zav ?_ | refine zap rfl (opj_nilCheck rfl) ?_ | refine zap rfl (opj_lenK hk rfl) ?_
  repeat first | refine zah ?_ | (refine zcr ?_; refine zcs ?_)
  refine ws_cond rfl (fun hd => ?_) (fun hd => ?_)
  · repeat first | refine zaa rfl (zay rfl) ?_ | refine zaa rfl (zaz rfl) ?_ | refine zah ?_ | (refine zcr ?_; first | refine zcs ?_ | refine zct ?_) | (refine zdb ?_; first | refine zdc ?_ | refine zdd ?_ | refine zdg ?_)
    exact done_ret1 rfl (⟨b, at_ + 1, _⟩ : Dr) rfl ⟨hb.1, hb.2, rfl⟩ (List.Sublist.refl _)
  · repeat first | refine zaa rfl (zay rfl) ?_ | refine zaa rfl (zaz rfl) ?_ | (refine zac ?_; first | refine zaa rfl (opj_shrW (by omega) rfl rfl) ?_ | refine zaa rfl (opj_andW rfl rfl) ?_) | (refine zae ?_; refine zaa rfl (zcf rfl rfl (by (repeat (first | exact mh | refine mt ?_)); done) rfl) ?_) | refine zaa rfl (zcd rfl) ?_ | refine zah ?_ | (refine zcr ?_; refine zcs ?_) | (refine zdb ?_; first | refine zdc ?_ | refine zdd ?_ | refine zdf ?_ | refine zdg ?_) | refine zaa rfl (opj_nilCheck rfl) ?_ | refine zaa rfl (opj_and255 rfl) ?_
    exact done_ret1 rfl (⟨_, at_ + 1, _⟩ : Dr) rfl ⟨(andW_255 _).1, (andW_255 _).2, rfl⟩ (List.Sublist.refl _)
theorem pick_fn (w1 : World) (g : Nat) (L : List By) (at_ seed : Int) (n : Int) (hn : 2 ≤ n ∧ n ≤ 200) (hat : 0 ≤ at_ ∧ at_ < 2 ^ 40) (hL : L.length < 2 ^ 40) :
    FnH (X := Dr) Try.prog 43 (fun w => [srcP w1 g w, .raw (.int .i64 n)]) [srcE w1 g L at_ seed] (fun y => .raw (.int .i64 y.r)) (fun y => [srcE w1 g L y.at_ y.seed]) (fun y => 0 ≤ y.r ∧ y.r < n ∧ y.at_ = at_ + 1) := by
  have hnx := next_fn w1 g L at_ seed hat hL
  refine fn_intro Try.func43 rfl Try.ntmps43 (fun _ => Nat.le_of_ble_eq_true rfl) fun w0 => ?_
  refine ws_q (t := 0) rfl fun v hv => ?_
  obtain ⟨rfl, hx, hg⟩ := hv
  have hk : KeepW w1 w0 [g] := ⟨hx, fun x hx => by simp at hx; omega⟩
  repeat first | refine zaa rfl (zay rfl) ?_ | refine zaa rfl (zaz rfl) ?_ | (refine zac ?_; refine zaa rfl (zbf rfl rfl) ?_) | refine zah ?_ | (refine zcr ?_; refine zcs ?_) | (refine zdb ?_; first | refine zdc ?_ | refine zdd ?_)
  rw [decide_eq_false (show ¬ n ≤ 1 by omega)]
  repeat first | refine zaa rfl (zay rfl) ?_ | refine zaa rfl (zaz rfl) ?_ | (refine zac ?_; refine zaa rfl (zbg rfl rfl) ?_) | refine zah ?_ | (refine zcr ?_; refine zcs ?_) | (refine zdb ?_; first | refine zdc ?_ | refine zdd ?_ | refine zdf ?_ | refine zdj rfl ?_) | (refine rs_callAt 0 hnx rfl rfl rfl (Takes.srcP hk hg Takes.nil) rfl ?_; rintro ⟨r, a2, s2⟩ ⟨hr1, hr2, hr3⟩)
  rw [decide_eq_false (show ¬ (200 : Int) < n by omega)]
  simp only at hr1 hr2 hr3
  repeat first | refine zaa rfl (zay rfl) ?_ | refine zaa rfl (zaz rfl) ?_ | (refine zac ?_; refine zaa rfl (zcq rfl rfl (by omega) (by omega)) ?_) | refine zah ?_ | (refine zcr ?_; refine zcs ?_) | (refine zdb ?_; first | refine zdc ?_ | refine zdd ?_ | refine zdf ?_ | refine zdg ?_ | refine zdj rfl ?_)
  exact done_ret1 rfl (⟨_, a2, s2⟩ : Dr) rfl ⟨Int.emod_nonneg _ (by omega), Int.emod_lt_of_pos _ (by omega), hr3⟩ (List.Sublist.refl _)
theorem quarter_vl {x : Int} (h : -1000 ≤ x ∧ x ≤ 1000) : Vl .f32 (fbin .quo .f32 (some (FloatKind.f32.nearest x)) (fv .f32 1082130432)) ((x : Rat) / 4) := by
  have h1 : Vl .f32 (some (FloatKind.f32.nearest x)) (x : Rat) := vl_ofInt .f32 x (by have : FloatKind.f32.format.fractionBits = 23 := rfl; rw [this]; omega)
  refine div_ex h1 (Vl.c (q := 4) (by decide +kernel)) (by decide +kernel) (Rat.div_mul_cancel (by decide +kernel)) x 2 (by omega) (by decide) ?_
  rw [show ((2 ^ 2 : Nat) : Rat) = 4 from rfl]
  exact Rat.div_mul_cancel (by decide +kernel)
def minF (k : FloatKind) (x y : FV) : FV := x.bind fun a => y.bind fun b => match k.format.order a b with
  | none => none
  | some .lt => some a
  | some .gt => some b
  | some .eq => some (if (k.decode a).neg then a else b)
def maxF (k : FloatKind) (x y : FV) : FV := x.bind fun a => y.bind fun b => match k.format.order a b with
  | none => none
  | some .lt => some b
  | some .gt => some a
  | some .eq => some (if (k.decode a).neg then b else a)
theorem vl_order {k : FloatKind} {a b : Nat} {p q : Rat} (hx : Vl k (some a) p) (hy : Vl k (some b) q) : ∃ o, k.format.order a b = some o ∧ (o = .lt → p < q) ∧ (o = .gt → q < p) ∧ (o = .eq → p = q) := by
  obtain ⟨u, v, h, h1, h2⟩ := vl_cmp hx hy
  have h' : k.format.order a b = some (compare u v) := h
  refine ⟨_, h', fun ho => h1.2 (Int.compare_eq_lt.1 ho), fun ho => h2.2 (Int.compare_eq_gt.1 ho), fun ho => ?_⟩
  have huv : u = v := icmp ho
  exact Rat.le_antisymm (Rat.not_lt.1 fun h4 => by have := h2.1 h4; omega) (Rat.not_lt.1 fun h4 => by have := h1.1 h4; omega)
theorem vl_max {k : FloatKind} {x y : FV} {p q : Rat} (hx : Vl k x p) (hy : Vl k y q) : ∃ r, Vl k (maxF k x y) r ∧ p ≤ r ∧ q ≤ r ∧ (r = p ∨ r = q) := by
  obtain ⟨a, s, m, i, rfl, ha⟩ := hx
  obtain ⟨b, t, n, j, rfl, hb⟩ := hy
  have va : Vl k (some a) p := ⟨a, s, m, i, rfl, ha⟩
  have vb : Vl k (some b) q := ⟨b, t, n, j, rfl, hb⟩
  obtain ⟨o, h, h1, h2, h3⟩ := vl_order va vb
  simp only [maxF, Option.bind_some, h]
  cases o with
  | lt => exact ⟨q, vb, Rat.le_of_lt (h1 rfl), Rat.le_refl, .inr rfl⟩
  | gt => exact ⟨p, va, Rat.le_refl, Rat.le_of_lt (h2 rfl), .inl rfl⟩
  | eq =>
    have hpq := h3 rfl
    dsimp only
    split
    · exact ⟨q, vb, by rw [hpq]; exact Rat.le_refl, Rat.le_refl, .inr rfl⟩
    · exact ⟨p, va, Rat.le_refl, by rw [hpq]; exact Rat.le_refl, .inl rfl⟩
section
variable {P : Program} {S : World → Prop} {e : Env} {dst : Option Tmp} {ty : TypeId} {pos : String} {after : Array Edge} {guard : Option (Nat × Bool)}
theorem opj_minV {X Y : Operand} {k : FloatKind} {x y : FV} {p q : Rat} {ts : Array TypeId} (vx : Vl k x p) (vy : Vl k y q) (hx : e.ev X = some (.f k x)) (hy : e.ev Y = some (.f k y)) :
    OpJ P S e ⟨dst, .call { callee := .builtin .min, args := #[X, Y], argTypes := ts }, ty, pos, after, guard⟩ (.f k (minF k x y)) :=
  opj_value fun a w _ h => by
    obtain ⟨u, h1, e1, l1⟩ := (h X (by simp [Op.operands, Call.operands]) _ hx).inv_f
    obtain ⟨v, h2, e2, l2⟩ := (h Y (by simp [Op.operands, Call.operands]) _ hy).inv_f
    obtain ⟨a', s, m, i, rfl, ha, hq⟩ := vx
    obtain ⟨b', t, n, j, rfl, hb, hq'⟩ := vy
    obtain rfl := fv_inv e1
    obtain rfl := fv_inv e2
    obtain ⟨o, ho, _⟩ := vl_order (k := k) ⟨u, s, m, i, rfl, ha, hq⟩ ⟨v, t, n, j, rfl, hb, hq'⟩
    have hm : minF k (some u) (some v) = match o with
      | .lt => some u
      | .gt => some v
      | .eq => some (if (k.decode u).neg then u else v) := by
      simp only [minF, Option.bind_some, ho]
      cases o <;> rfl
    have hr : (Builtin.min_ ts ty #[.float k u, .float k v]).run P w = .ok (.float k (match o with
      | .lt => u
      | .gt => v
      | .eq => if (k.decode u).neg then u else v)) w := by
      simp only [Builtin.min_]
      cases o <;> simp [Builtin.min2, ho]
    rw [hm]
    cases o with
    | lt => exact ⟨_, w, by simp [execOp, resolve, invoke, builtin, h1, h2, hr], Ext.refl _, Rel.f' l1 e1⟩
    | gt => exact ⟨_, w, by simp [execOp, resolve, invoke, builtin, h1, h2, hr], Ext.refl _, Rel.f' l2 e2⟩
    | eq =>
      refine ⟨_, w, by simp only [execOp, resolve, invoke, builtin, List.map_toArray, List.map_cons, List.map_nil, h1, h2, Sem.run_bind, Sem.run_pure, Result.andThen_ok, hr]; rfl, Ext.refl _, ?_⟩
      dsimp only
      split
      · exact Rel.f' l1 e1
      · exact Rel.f' l2 e2
theorem opj_maxV {X Y : Operand} {k : FloatKind} {x y : FV} {p q : Rat} {ts : Array TypeId} (vx : Vl k x p) (vy : Vl k y q) (hx : e.ev X = some (.f k x)) (hy : e.ev Y = some (.f k y)) :
    OpJ P S e ⟨dst, .call { callee := .builtin .max, args := #[X, Y], argTypes := ts }, ty, pos, after, guard⟩ (.f k (maxF k x y)) :=
  opj_value fun a w _ h => by
    obtain ⟨u, h1, e1, l1⟩ := (h X (by simp [Op.operands, Call.operands]) _ hx).inv_f
    obtain ⟨v, h2, e2, l2⟩ := (h Y (by simp [Op.operands, Call.operands]) _ hy).inv_f
    obtain ⟨a', s, m, i, rfl, ha, hq⟩ := vx
    obtain ⟨b', t, n, j, rfl, hb, hq'⟩ := vy
    obtain rfl := fv_inv e1
    obtain rfl := fv_inv e2
    obtain ⟨o, ho, _⟩ := vl_order (k := k) ⟨u, s, m, i, rfl, ha, hq⟩ ⟨v, t, n, j, rfl, hb, hq'⟩
    have hm : maxF k (some u) (some v) = match o with
      | .lt => some v
      | .gt => some u
      | .eq => some (if (k.decode u).neg then v else u) := by
      simp only [maxF, Option.bind_some, ho]
      cases o <;> rfl
    have hr : (Builtin.max_ ts ty #[.float k u, .float k v]).run P w = .ok (.float k (match o with
      | .lt => v
      | .gt => u
      | .eq => if (k.decode u).neg then v else u)) w := by
      simp only [Builtin.max_]
      cases o <;> simp [Builtin.max2, ho]
    rw [hm]
    cases o with
    | lt => exact ⟨_, w, by simp [execOp, resolve, invoke, builtin, h1, h2, hr], Ext.refl _, Rel.f' l2 e2⟩
    | gt => exact ⟨_, w, by simp [execOp, resolve, invoke, builtin, h1, h2, hr], Ext.refl _, Rel.f' l1 e1⟩
    | eq =>
      refine ⟨_, w, by simp only [execOp, resolve, invoke, builtin, List.map_toArray, List.map_cons, List.map_nil, h1, h2, Sem.run_bind, Sem.run_pure, Result.andThen_ok, hr]; rfl, Ext.refl _, ?_⟩
      dsimp only
      split
      · exact Rel.f' l2 e2
      · exact Rel.f' l1 e1
end
end Go.Ab
namespace Go.Ab
open Go.Proofs
variable {R : World → Prop} [RStab R]
section
variable {P : Program} {S : World → Prop} {e : Env} {dst : Option Tmp} {ty : TypeId} {pos : String} {after : Array Edge} {guard : Option (Nat × Bool)}
theorem opj_maxO {X Y : Operand} {x y : Int} {ts : Array TypeId} (hx : e.ev X = some (.raw (.int .i64 x))) (hy : e.ev Y = some (.raw (.int .i64 y))) :
    OpJ P S e ⟨dst, .call { callee := .builtin .max, args := #[X, Y], argTypes := ts }, ty, pos, after, guard⟩ (.raw (.int .i64 (if y > x then y else x))) :=
  opj_value fun a w _ h => by
    have h1 := (h X (by simp [Op.operands, Call.operands]) _ hx).inv_raw
    have h2 := (h Y (by simp [Op.operands, Call.operands]) _ hy).inv_raw
    exact ⟨_, w, by simp [execOp, resolve, invoke, builtin, h1, h2, run_max_int2], Ext.refl _, .raw⟩
theorem opj_minO {X Y : Operand} {x y : Int} {ts : Array TypeId} (hx : e.ev X = some (.raw (.int .i64 x))) (hy : e.ev Y = some (.raw (.int .i64 y))) :
    OpJ P S e ⟨dst, .call { callee := .builtin .min, args := #[X, Y], argTypes := ts }, ty, pos, after, guard⟩ (.raw (.int .i64 (if y < x then y else x))) :=
  opj_value fun a w _ h => by
    have h1 := (h X (by simp [Op.operands, Call.operands]) _ hx).inv_raw
    have h2 := (h Y (by simp [Op.operands, Call.operands]) _ hy).inv_raw
    exact ⟨_, w, by simp [execOp, resolve, invoke, builtin, h1, h2, run_min_int2], Ext.refl _, .raw⟩
end
attribute [local irreducible] WS RS Done OpJ Then InBlock Round Ret Env.sub FnH
attribute [local irreducible] tab tabC
end Go.Ab
namespace Go.Ab
open Go.Proofs
variable {R : World → Prop} [RStab R]
attribute [local irreducible] WS RS Done OpJ Then InBlock Round Ret Env.sub FnH
attribute [local irreducible] tab tabC
section
variable {n : Nat} {P : Nat → CV} {a c : Nat → Int} {l : Nat → Rat} {w : FV} {ω : Rat}
theorem isTime_yes (vw : Vl .f32 w ω) (hw : 0 ≤ ω ∧ ω ≤ 1) : Fn Try.prog 41 (fun _ => [.f .f32 w]) (.raw (.bool true)) := by
  have e1 : cmpB .geq (fcmp .f32 w (fv .f32 0)) = true := by rw [vl_geq vw (Vl.c (k := .f32) (b := 0) (q := 0) (by decide +kernel))]; exact decide_eq_true hw.1
  have e2 : cmpB .leq (fcmp .f32 w (fv .f32 1065353216)) = true := by rw [vl_leq vw (Vl.c (k := .f32) (b := 1065353216) (q := 1) (by decide +kernel))]; exact decide_eq_true hw.2
  refine fn_intro Try.func41 rfl Try.ntmps41 (fun _ => Nat.le_of_ble_eq_true rfl) fun w0 => ?_
  repeat first | refine zaa rfl (zay rfl) ?_ | refine zaa rfl (zaz rfl) ?_ | (refine zac ?_; refine zaa rfl (zbd rfl rfl rfl) ?_) | refine zah ?_ | (refine zcr ?_; refine zcs ?_) | (refine zdb ?_; first | refine zdc ?_ | refine zdd ?_)
  rw [e1]
  repeat first | refine zai rfl rfl ?_ | refine zaa rfl (zay rfl) ?_ | refine zaa rfl (zaz rfl) ?_ | (refine zac ?_; refine zaa rfl (zbd rfl rfl rfl) ?_) | refine zaa rfl (zca rfl rfl) ?_ | refine zah ?_ | (refine zcr ?_; refine zcs ?_) | (refine zdb ?_; refine zdg ?_)
  rw [e2]
  skip
  exact done_ret1 rfl () rfl trivial (List.nil_sublist _)
end
end Go.Ab
namespace Go.Ab
open Go.Proofs
variable {R : World → Prop} [RStab R]
section
variable {P : Program} {N : Nat} {S : World → Prop} {e : Env} {Q : Exit → Env → World → Prop} {ops : Array Oper} {l : List Oper}
variable {w0 : World} {gs : List Nat} {H : List Ent} {dst : Option Tmp} {ty : TypeId} {pos : String} {after : Array Edge} {guard : Option (Nat × Bool)} {t el : TypeId}
theorem opj_cut_l {X Y : Operand} {g n cap : Nat} {z : Value} {b : Nat} {k : IntKind} {h : Int} [hu : TyU P t (.slice el)] [hi : TyI P el z 1 b] (hx : e.ev X = some (.raw (.slice (some ⟨g, 0, none⟩) n cap))) (hy : e.ev Y = some (.raw (.int k h))) (h0 : 0 ≤ h ∧ h < n) (hc : n ≤ cap) :
    OpJ P S e ⟨dst, .slice t X (some Y) none none, ty, pos, after, guard⟩ (.raw (.slice (some ⟨g, h.toNat, none⟩) (n - h.toNat) (cap - h.toNat))) :=
  opj_value fun a w _ ho => by
    have h1 := (ho X (by simp [Op.operands]) _ hx).inv_raw
    have h2 := (ho Y (by simp [Op.operands]) _ hy).inv_raw
    have hel : P.elem t = el := by simp [Program.elem, hu.h]
    have ht : P.underlying t = some (.slice (P.elem t)) := by rw [hel]; exact hu.h
    have hr := run_slice_l (P := P) (w := w) t (some ⟨g, 0, none⟩) n cap ht k h h0.1 (by omega)
    rw [hel, run_size hi] at hr
    have hs := run_sliceAt_slice (P := P) w t (.slice (some ⟨g, 0, none⟩) n cap) (some (.int k h)) none none ht
    have hv : sliced (some ⟨g, 0, none⟩) h.toNat n cap 1 = .slice (some ⟨g, h.toNat, none⟩) (n - h.toNat) (cap - h.toNat) := by
      unfold sliced
      rw [if_neg (by omega)]
      simp [Addr.add]
      try omega
    exact ⟨_, w, by simp [execOp, h1, h2, hs, hr, hv], Ext.refl _, .raw⟩
theorem opj_cut_h {X Y : Operand} {g n cap : Nat} {z : Value} {b : Nat} {k : IntKind} {h : Int} [hu : TyU P t (.slice el)] [hi : TyI P el z 1 b] (hx : e.ev X = some (.raw (.slice (some ⟨g, 0, none⟩) n cap))) (hy : e.ev Y = some (.raw (.int k h))) (h0 : 0 ≤ h ∧ h ≤ cap) (hc : 0 < cap) :
    OpJ P S e ⟨dst, .slice t X none (some Y) none, ty, pos, after, guard⟩ (.raw (.slice (some ⟨g, 0, none⟩) h.toNat cap)) :=
  opj_value fun a w _ ho => by
    have h1 := (ho X (by simp [Op.operands]) _ hx).inv_raw
    have h2 := (ho Y (by simp [Op.operands]) _ hy).inv_raw
    have hel : P.elem t = el := by simp [Program.elem, hu.h]
    have ht : P.underlying t = some (.slice (P.elem t)) := by rw [hel]; exact hu.h
    have hr := run_slice_h (P := P) (w := w) t (some ⟨g, 0, none⟩) n cap ht k h h0.1 h0.2
    rw [hel, run_size hi] at hr
    have hs := run_sliceAt_slice (P := P) w t (.slice (some ⟨g, 0, none⟩) n cap) none (some (.int k h)) none ht
    have hv : sliced (some ⟨g, 0, none⟩) 0 h.toNat cap 1 = .slice (some ⟨g, 0, none⟩) h.toNat cap := by
      unfold sliced
      rw [if_neg (by omega)]
      simp [Addr.add]
    exact ⟨_, w, by simp [execOp, h1, h2, hs, hr, hv], Ext.refl _, .raw⟩
/-- 'copy' into a list of the call's own. -/
theorem run_copyE (k K : Nat) {a : Act} {w : World} {d : Tmp} {A B : Operand} {off m cap : Nat} {en : Ent} {ys : List AV} {z : Value} {b : Nat} [hu : TyU P t (.slice el)] [hi : TyI P el z 1 b] (hS : StR R w0 gs H w)
    (hA' : a.eval A = .slice (some ⟨en.g, off, none⟩) m cap) (hrd : Rd w 1 (a.eval B) ys) (hH : H[k]? = some en)
    (h0 : 1 ≤ ys.length) (h1 : ys.all isOne = true) (hK : K = min ys.length m) (hfit : off + K ≤ en.xs.length) :
    ∃ w', (execOp a.eval ⟨some d, .call { callee := .builtin .copy, args := #[A, B], argTypes := #[t, t] }, ty, pos, after, none⟩).run P w = .ok (.value (goInt K)) w' ∧ StR R w0 gs (H.set k { en with xs := en.xs.take off ++ (ys.take K ++ en.xs.drop (off + K)) }) w' := by
  obtain ⟨ad, n, c, hB', hl, _, _, hcells⟩ := hrd
  rw [Nat.mul_one] at hl
  obtain ⟨bb, had, hsp, _⟩ := hcells 0 _ (List.getElem?_eq_getElem (by omega))
  subst had
  obtain ⟨i, hi1, hz1, hs1, hb1⟩ := hi.h
  have hmem : en ∈ H := List.mem_of_getElem? hH
  obtain ⟨cur, hcur, hcsz, hcx⟩ := (hS.own _ hmem).2
  have hnews : ∃ news : List Value, news.length = ys.length ∧ ∀ (j : Nat) (u : Value), news[j]? = some u → w.cell? (bb.add j) = some u ∧ ∃ y, ys[j]? = some y ∧ isOne y = true ∧ Ev y u := by
    have hex : ∀ k, k ≤ ys.length → ∃ news : List Value, news.length = k ∧ ∀ (j : Nat) (u : Value), news[j]? = some u → w.cell? (bb.add j) = some u ∧ ∃ y, ys[j]? = some y ∧ isOne y = true ∧ Ev y u := by
      intro k
      induction k with
      | zero => intro _; exact ⟨[], rfl, fun j u h => by simp at h⟩
      | succ k ih =>
        intro hk
        obtain ⟨news, hln, hall⟩ := ih (by omega)
        have hy' : ys[k]? = some (ys[k]'(by omega)) := List.getElem?_eq_getElem (by omega)
        obtain ⟨b', hb', hsp', u, hu', hev⟩ := hcells k _ hy'
        cases hb'
        refine ⟨news ++ [u], by simp [hln], fun j v hj => ?_⟩
        rcases Nat.lt_or_ge j k with h | h
        · rw [List.getElem?_append_left (by omega)] at hj; exact hall j v hj
        · have hjk : j = k := by
            have := (List.getElem?_eq_some_iff.1 hj).1
            simp only [List.length_append, hln, List.length_cons, List.length_nil] at this
            omega
          subst hjk
          rw [List.getElem?_append_right (by omega), hln, Nat.sub_self] at hj
          cases hj
          exact ⟨by rw [addr_add bb hsp]; exact hu', _, hy', List.all_eq_true.1 h1 _ (List.getElem_mem _), hev⟩
    exact hex _ (Nat.le_refl _)
  obtain ⟨news, hln, hnw⟩ := hnews
  have hcs : en.xs.length ≤ cur.size := by
    rcases Nat.lt_or_ge cur.size en.xs.length with h | h
    · obtain ⟨u, hu', _⟩ := hcx cur.size _ (List.getElem?_eq_getElem h)
      rw [Array.getElem?_eq_none (Nat.le_refl _)] at hu'
      cases hu'
    · exact h
  have htk : ∀ (j : Nat) (u : Value), (news.take K)[j]? = some u → j < K ∧ news[j]? = some u := fun j u hj => by
    rw [List.getElem?_take] at hj
    split at hj
    · rename_i h; exact ⟨h, hj⟩
    · cases hj
  have hlK : (news.take K).length = K := by rw [List.length_take, hln]; omega
  have hone : ∀ u ∈ news.take K, u.oneCell' = true := fun u hu => by
    obtain ⟨j, hj⟩ := List.mem_iff_getElem?.1 hu
    obtain ⟨_, y, _, hy1, hev⟩ := hnw j u (htk j u hj).2
    exact (oneAV_spec hy1 (hev w)).2.1
  have hrun := run_copy_row (P := P) w t t ty el en.g off m cap bb n c cur en.T (news.take K) hu.h (by rw [hi1]; simp only [Option.map_some, hs1]) hcur (by rw [hlK, hK, hl]) (fun j v hj => (hnw j v (htk j v hj).2).1) (by rw [hlK]; omega) hone
  have hmod : Mod w (w.setRow en.g (cur.toList.take off ++ news.take K ++ cur.toList.drop (off + (news.take K).length)).toArray) [en.g] :=
    ⟨rfl, rfl, rfl, by simp [World.setRow], fun k hk hn => setRow_other w en.g k _ (by simpa using hn)⟩
  have ho' : OwnE (w.setRow en.g (cur.toList.take off ++ news.take K ++ cur.toList.drop (off + (news.take K).length)).toArray) { en with xs := en.xs.take off ++ (ys.take K ++ en.xs.drop (off + K)) } := by
    refine ⟨_, setRow_heap w en.g _ _ _ _ hcur, ?_, fun j x hj => ?_⟩
    · simp only [hlK, List.size_toArray, List.length_append, List.length_take, List.length_drop, Array.length_toList] at *
      omega
    · have hlt : (cur.toList.take off).length = off := by simp; omega
      have hlx : (en.xs.take off).length = off := by simp; omega
      rw [hlK]
      simp only [List.append_assoc, List.getElem?_toArray]
      rcases Nat.lt_or_ge j off with h | h
      · rw [List.getElem?_append_left (by omega), List.getElem?_take, if_pos h] at hj
        obtain ⟨u, hu', hev⟩ := hcx j x hj
        exact ⟨u, by rw [List.getElem?_append_left (by omega), List.getElem?_take, if_pos h]; simpa using hu', hev⟩
      · rw [List.getElem?_append_right (by omega), hlx] at hj
        rw [List.getElem?_append_right (by omega), hlt]
        have hly : (ys.take K).length = K := by rw [List.length_take]; omega
        rcases Nat.lt_or_ge (j - off) K with h' | h'
        · rw [List.getElem?_append_left (by omega), List.getElem?_take, if_pos h'] at hj
          have hnj : news[j - off]? = some (news[j - off]'(by omega)) := List.getElem?_eq_getElem (by omega)
          obtain ⟨_, y', hy', _, hev⟩ := hnw _ _ hnj
          rw [hj] at hy'
          cases hy'
          exact ⟨_, by rw [List.getElem?_append_left (by omega), List.getElem?_take, if_pos h']; exact hnj, hev⟩
        · rw [List.getElem?_append_right (by omega), hly, List.getElem?_drop] at hj
          obtain ⟨u, hu', hev⟩ := hcx _ x hj
          exact ⟨u, by rw [List.getElem?_append_right (by omega), hlK, List.getElem?_drop]; simpa using hu', hev⟩
  have hex : (execOp a.eval ⟨some d, .call { callee := .builtin .copy, args := #[A, B], argTypes := #[t, t] }, ty, pos, after, none⟩).run P w = .ok (.value (goInt (news.take K).length)) (w.setRow en.g (cur.toList.take off ++ news.take K ++ cur.toList.drop (off + (news.take K).length)).toArray) := by
    simp only [execOp, resolve, invoke, builtin, Sem.run_bind, Sem.run_pure, Result.andThen_ok, List.map_toArray, List.map_cons, List.map_nil, hA', hB', hrun]
  rw [hlK] at hex
  refine ⟨_, hex, ?_⟩
  rw [hlK] at hmod ho'
  exact hS.updAt hH hmod (.inl rfl) ho'
theorem rs_copy (k K : Nat) {d : Tmp} {A B : Operand} {off m cap : Nat} {en : Ent} {ys : List AV} {z : Value} {b : Nat} [hu : TyU P t (.slice el)] [hi : TyI P el z 1 b] (hd : Nat.blt d N = true)
    (hA : e.ev A = some (.raw (.slice (some ⟨en.g, off, none⟩) m cap))) (hB : ∃ y, e.ev B = some y ∧ ∀ w v, StR R w0 gs H w → Rel w y v → Rd w 1 v ys) (hH : H[k]? = some en)
    (h0 : 1 ≤ ys.length) (h1 : ys.all isOne = true) (hK : K = min ys.length m) (hfit : off + K ≤ en.xs.length)
    (hk : RS P N ops l ((d, .raw (.int .i64 (K : Int))) :: e.keep) (StR R w0 gs (H.set k { en with xs := en.xs.take off ++ (ys.take K ++ en.xs.drop (off + K)) })) Q) :
    RS P N ops (⟨some d, .call { callee := .builtin .copy, args := #[A, B], argTypes := #[t, t] }, ty, pos, after, none⟩ :: l) e (StR R w0 gs H) Q := by
  intro a w hS hF
  refine wpList_plain rfl fun K' hK' => ?_
  obtain ⟨y, hy, hrd⟩ := hB
  obtain ⟨w', hex, hS'⟩ := run_copyE (P := P) (ty := ty) (pos := pos) (after := after) (d := d) (hu := hu) (hi := hi) k K hS (hF.eval hA).inv_raw (hrd w _ hS (hF.eval hy)) hH h0 h1 hK hfit
  unfold Oper.wp
  rw [hex]
  exact hK' _ _ (hk _ _ hS' (Fr.put (some d) hF.keep (fun _ h => by cases h; exact Nat.le_of_ble_eq_true hd) .raw))
theorem effv_copy (k K : Nat) {d : Tmp} {A B : Operand} {off m cap : Nat} {en : Ent} {ys : List AV} {z : Value} {b : Nat} [hu : TyU P t (.slice el)] [hi : TyI P el z 1 b]
    (hA : e.ev A = some (.raw (.slice (some ⟨en.g, off, none⟩) m cap))) (hB : ∃ y, e.ev B = some y ∧ ∀ w v, StR R w0 gs H w → Rel w y v → Rd w 1 v ys) (hH : H[k]? = some en)
    (h0 : 1 ≤ ys.length) (h1 : ys.all isOne = true) (hK : K = min ys.length m) (hfit : off + K ≤ en.xs.length) :
    EffV P (StR R w0 gs H) (StR R w0 gs (H.set k { en with xs := en.xs.take off ++ (ys.take K ++ en.xs.drop (off + K)) })) (.int .i64 (K : Int)) e ⟨some d, .call { callee := .builtin .copy, args := #[A, B], argTypes := #[t, t] }, ty, pos, after, none⟩ := by
  intro a w K' Q' hS ho hK'
  obtain ⟨y, hy, hrd⟩ := hB
  obtain ⟨w', hex, hS'⟩ := run_copyE (P := P) (ty := ty) (pos := pos) (after := after) (d := d) (hu := hu) (hi := hi) k K hS (ho A (by simp [Op.operands, Call.operands]) _ hA).inv_raw (hrd w _ hS (ho B (by simp [Op.operands, Call.operands]) _ hy)) hH h0 h1 hK hfit
  unfold Oper.wp
  rw [hex]
  exact hK' _ hS'
omit [RStab R] in
/-- A list of the call's own may be read. -/
theorem rd_own {n m g c cap : Nat} {f : Int → FV} {T : TypeId} {w : World} {v : Value} (hS : StR R w0 gs H w) (hr : Rel w (.raw (.slice (some ⟨g, 0, none⟩) m cap)) v) (hm : (entF g T n f c : Ent) ∈ H) (hn : m ≤ n) (hc : m ≤ cap ∧ cap ≤ maxLen) : Rd w 1 v ((tab m f).map (AV.f .f32)) := by
  have hv := hr.inv_raw
  subst hv
  refine ⟨_, m, cap, rfl, by simp, hc.1, hc.2, fun i x hi => ⟨_, rfl, rfl, ?_⟩⟩
  have hlt : i < m := by
    have := (List.getElem?_eq_some_iff.1 hi).1
    simpa using this
  have hx : (entF g T n f c).xs[i]? = some x := by
    simp only [entF, List.getElem?_map] at hi ⊢
    rw [tab_get f (by omega)]
    rw [tab_get f hlt] at hi
    exact hi
  obtain ⟨u, hu, hev⟩ := (hS.own _ hm).2.cell hx
  exact ⟨u, by simpa [entF] using hu, hev⟩
omit [RStab R] in
theorem tab_copy {g n c off K j : Nat} {f h f' : Int → FV} {T : TypeId} (hj : K ≤ j) (hfit : off + K ≤ n) (hf' : ∀ s : Nat, s < n → f' s = if off ≤ s ∧ s < off + K then h ((s - off : Nat) : Int) else f s) :
    ({ entF g T n f c with xs := (entF g T n f c).xs.take off ++ (((tab j h).map (AV.f .f32)).take K ++ (entF g T n f c).xs.drop (off + K)) } : Ent) = entF g T n f' c := by
  unfold entF
  simp only [← List.map_take, ← List.map_drop, ← List.map_append]
  congr 2
  refine tab_ext (by simp only [List.length_append, List.length_take, List.length_drop, tab_length]; omega) fun i hi => ?_
  have l1 : ((tab n f).take off).length = off := by rw [List.length_take, tab_length]; omega
  have l2 : ((tab j h).take K).length = K := by rw [List.length_take, tab_length]; omega
  rw [hf' i hi]
  rcases Nat.lt_or_ge i off with ho | ho
  · rw [List.getElem?_append_left (by omega), List.getElem?_take, if_pos ho, tab_get f hi, if_neg (by omega)]
  · rw [List.getElem?_append_right (by omega), l1]
    rcases Nat.lt_or_ge (i - off) K with h1 | h1
    · rw [List.getElem?_append_left (by omega), List.getElem?_take, if_pos h1, tab_get h (by omega), if_pos (by omega)]
    · rw [List.getElem?_append_right (by omega), l2, List.getElem?_drop, if_neg (by omega), show off + K + (i - off - K) = i by omega, tab_get f hi]
/-- 'copy' into a table of the call's own. -/
theorem rs_copyT (k K : Nat) (f' : Int → FV) {d : Tmp} {A B : Operand} {off m cap g n c j : Nat} {f h : Int → FV} {T : TypeId} {z : Value} {b : Nat} [hu : TyU P t (.slice el)] [hi : TyI P el z 1 b] (hd : Nat.blt d N = true)
    (hA : e.ev A = some (.raw (.slice (some ⟨g, off, none⟩) m cap))) (hB : ∃ y, e.ev B = some y ∧ ∀ w v, StR R w0 gs H w → Rel w y v → Rd w 1 v ((tab j h).map (AV.f .f32))) (hH : H[k]? = some (entF g T n f c))
    (h0 : 1 ≤ j) (hK : K = min j m) (hfit : off + K ≤ n) (hf' : ∀ s : Nat, s < n → f' s = if off ≤ s ∧ s < off + K then h ((s - off : Nat) : Int) else f s)
    (hk : RS P N ops l ((d, .raw (.int .i64 (K : Int))) :: e.keep) (StR R w0 gs (H.set k (entF g T n f' c))) Q) :
    RS P N ops (⟨some d, .call { callee := .builtin .copy, args := #[A, B], argTypes := #[t, t] }, ty, pos, after, none⟩ :: l) e (StR R w0 gs H) Q := by
  refine rs_copy k K (en := entF g T n f c) hd hA hB hH (by simpa using h0) ?_ (by simpa using hK) (by simpa [entF] using hfit) ?_
  · exact List.all_eq_true.2 fun x hx => by
      obtain ⟨y, _, rfl⟩ := List.mem_map.1 hx
      rfl
  · rw [tab_copy (by omega) hfit hf']
    exact hk
theorem effv_copyT (k K : Nat) (f' : Int → FV) {d : Tmp} {A B : Operand} {off m cap g n c j : Nat} {f h : Int → FV} {T : TypeId} {z : Value} {b : Nat} [hu : TyU P t (.slice el)] [hi : TyI P el z 1 b]
    (hA : e.ev A = some (.raw (.slice (some ⟨g, off, none⟩) m cap))) (hB : ∃ y, e.ev B = some y ∧ ∀ w v, StR R w0 gs H w → Rel w y v → Rd w 1 v ((tab j h).map (AV.f .f32))) (hH : H[k]? = some (entF g T n f c))
    (h0 : 1 ≤ j) (hK : K = min j m) (hfit : off + K ≤ n) (hf' : ∀ s : Nat, s < n → f' s = if off ≤ s ∧ s < off + K then h ((s - off : Nat) : Int) else f s) :
    EffV P (StR R w0 gs H) (StR R w0 gs (H.set k (entF g T n f' c))) (.int .i64 (K : Int)) e ⟨some d, .call { callee := .builtin .copy, args := #[A, B], argTypes := #[t, t] }, ty, pos, after, none⟩ := by
  rw [← tab_copy (f := f) (h := h) (j := j) (by omega) hfit hf']
  refine effv_copy k K (en := entF g T n f c) hA hB hH (by simpa using h0) ?_ (by simpa using hK) (by simpa [entF] using hfit)
  exact List.all_eq_true.2 fun x hx => by
    obtain ⟨y, _, rfl⟩ := List.mem_map.1 hx
    rfl
theorem opj_smallU {src dt : TypeId} {X : Operand} {k0 k : IntKind} {n : Int} [hs : TyU P src (.int k0)] [hd : TyU P dt (.int .u64)] (hx : e.ev X = some (.raw (.int k n))) (hn : 0 ≤ n ∧ n ≤ 18446744073709551615) : OpJ P S e ⟨dst, .convert src dt X, ty, pos, after, guard⟩ (.raw (.int .u64 n)) := by
  have h := opj_iint (P := P) (S := S) (e := e) (dst := dst) (ty := ty) (pos := pos) (after := after) (guard := guard) (k0 := k0) (k := k) (k' := .u64) (hs := hs) (hd := hd) hx
  rwa [IntWalk.u64_in _ hn] at h
theorem opj_mulU {t' : TypeId} {X Y : Operand} {x y : Int} (hx : e.ev X = some (.raw (.int .u64 x))) (hy : e.ev Y = some (.raw (.int .u64 y))) (hn : 0 ≤ x * y ∧ x * y ≤ 18446744073709551615) :
    OpJ P S e ⟨dst, .binOp .mul t X Y t', ty, pos, after, guard⟩ (.raw (.int .u64 (x * y))) := by
  have h := opj_mulW (P := P) (S := S) (e := e) (dst := dst) (ty := ty) (pos := pos) (after := after) (guard := guard) (t := t) (t' := t') hx hy
  rwa [IntWalk.u64_in _ hn] at h
theorem opj_addU {t' : TypeId} {X Y : Operand} {x y : Int} (hx : e.ev X = some (.raw (.int .u64 x))) (hy : e.ev Y = some (.raw (.int .u64 y))) (hn : 0 ≤ x + y ∧ x + y ≤ 18446744073709551615) :
    OpJ P S e ⟨dst, .binOp .add t X Y t', ty, pos, after, guard⟩ (.raw (.int .u64 (x + y))) := by
  have h := opj_addW (P := P) (S := S) (e := e) (dst := dst) (ty := ty) (pos := pos) (after := after) (guard := guard) (t := t) (t' := t') hx hy
  rwa [IntWalk.u64_in _ hn] at h
theorem opj_shr32 {t' : TypeId} {X Y : Operand} {x : Int} (hx : e.ev X = some (.raw (.int .u64 x))) (hy : e.ev Y = some (.raw (.int .u64 32))) (hn : 0 ≤ x ∧ x ≤ 4294967295) :
    OpJ P S e ⟨dst, .binOp .shr t X Y t', ty, pos, after, guard⟩ (.raw (.int .u64 0)) := by
  have h := opj_shrW (P := P) (S := S) (e := e) (dst := dst) (ty := ty) (pos := pos) (after := after) (guard := guard) (t := t) (t' := t') (by omega) hx hy
  have e1 : x.fdiv (2 ^ min (32 : Int).toNat 64) = 0 := by
    rw [show (2 : Int) ^ min (32 : Int).toNat 64 = 4294967296 from by decide +kernel, Int.fdiv_eq_ediv_of_nonneg _ (by omega)]
    omega
  rwa [e1] at h
theorem opj_and32 {t' : TypeId} {X Y : Operand} {x : Int} (hx : e.ev X = some (.raw (.int .u64 x))) (hy : e.ev Y = some (.raw (.int .u64 4294967295))) (hn : 0 ≤ x ∧ x ≤ 4294967295) :
    OpJ P S e ⟨dst, .binOp .and t X Y t', ty, pos, after, guard⟩ (.raw (.int .u64 x)) := by
  have h := opj_andW (P := P) (S := S) (e := e) (dst := dst) (ty := ty) (pos := pos) (after := after) (guard := guard) (t := t) (t' := t') hx hy
  have e1 : andW x 4294967295 = x := by
    unfold andW
    have e2 : (BitVec.ofInt 64 4294967295).toNat = 2 ^ 32 - 1 := by decide
    have e3 : (BitVec.ofInt 64 x).toNat = x.toNat := by
      rw [BitVec.toNat_ofInt]
      have : x % ((2 ^ 64 : Nat) : Int) = x := Int.emod_eq_of_lt hn.1 (by have : ((2 ^ 64 : Nat) : Int) = 18446744073709551616 := by decide +kernel
                                                                          omega)
      rw [this]
    rw [BitVec.toNat_and, e2, Nat.and_two_pow_sub_one_eq_mod, e3, Nat.mod_eq_of_lt (by have : (2 : Nat) ^ 32 = 4294967296 := by decide +kernel
                                                                                       omega), Int.toNat_of_nonneg hn.1]
    exact IntWalk.u64_in _ (by omega)
  rwa [e1] at h
end
attribute [local irreducible] WS RS Done OpJ Then InBlock Round Ret Env.sub FnH
attribute [local irreducible] tab tabC
abbrev uA (n : Int) : AV := .raw (.int .u64 n)
theorem mul64_fn (n : Int) (hn : 0 ≤ n ∧ n ≤ 4294967295) : Fn Try.prog 77 (fun _ => [uA 1, uA n]) (.tup [uA 0, uA n]) := by
  refine fn_intro Try.func77 rfl Try.ntmps77 (fun _ => Nat.le_of_ble_eq_true rfl) fun w0 => ?_
  repeat first | refine zaa rfl (zay rfl) ?_ | refine zaa rfl (zaz rfl) ?_ | (refine zac ?_; first | refine zaa rfl (opj_and32 rfl rfl (by omega)) ?_ | refine zaa rfl (opj_shr32 rfl rfl (by omega)) ?_ | refine zaa rfl (opj_mulU rfl rfl (by omega)) ?_ | refine zaa rfl (opj_addU rfl rfl (by omega)) ?_) | refine zah ?_ | (refine zcr ?_; refine zcs ?_) | (refine zdb ?_; first | refine zdc ?_ | refine zdd ?_ | refine zdg ?_)
  exact done_ret2 rfl () (by simp) rfl rfl trivial (List.nil_sublist _)
theorem mul_fn (n : Int) (hn : 0 ≤ n ∧ n ≤ 4294967295) : Fn Try.prog 71 (fun _ => [uA 1, uA n]) (.tup [uA 0, uA n]) := by
  have hM := mul64_fn n hn
  refine fn_intro Try.func71 rfl Try.ntmps71 (fun _ => Nat.le_of_ble_eq_true rfl) fun w0 => ?_
  repeat first | refine zaa rfl (zay rfl) ?_ | refine zaa rfl (zaz rfl) ?_ | (refine zad ?_; (refine zaa rfl (zci rfl rfl (hM) ?_) ?_; (focus ((repeat (first | exact Takes.nil | refine Takes.sl ?_ | refine Takes.lit ?_ | refine Takes.fa ?_ | refine Takes.fc ?_ | refine Takes.net ?_ | (refine Takes.ownE ?_ ?_ ?_ ?_ ?_; (focus (exact ⟨_, _, (by (repeat (first | exact mh | refine mt ?_)); done)⟩)); (focus (simp; done)); (focus omega); (focus (simp only [maxLen]; omega))) | refine Takes.same ?_)); done)))) | refine zaa rfl (zbz rfl rfl) ?_ | refine zah ?_ | (refine zcr ?_; refine zcs ?_) | (refine zdb ?_; first | refine zdc ?_ | refine zdd ?_ | refine zdf ?_ | refine zdg ?_ | refine zdj rfl ?_)
  exact done_ret2 rfl () rfl rfl rfl trivial (List.nil_sublist _)
section
variable {P : Program} {N : Nat} {S : World → Prop} {e : Env} {Q : Exit → Env → World → Prop} {ops : Array Oper} {l : List Oper}
variable {w0 : World} {gs : List Nat} {H : List Ent} {dst : Option Tmp} {ty : TypeId} {pos : String} {after : Array Edge} {guard : Option (Nat × Bool)} {t el : TypeId}
theorem rs_makeT1 {d : Tmp} {A B : Operand} {n : Nat} {z : Value} {b : Nat} [hu : TyU P t (.slice el)] [hi : TyI P el z 1 b]
    (hA : e.ev A = some (.raw (.int .i64 (n : Int)))) (hB : e.ev B = some (.raw (.int .i64 (n : Int)))) (hd : Nat.blt d N = true) (hz : cv1 z = .f .f32 (fv .f32 0)) (hzo : okv1 z = true) (hzc : z.cells = #[z])
    (hb : b * n ≤ 281474976710656) (hm : n ≤ maxLen)
    (hk : ∀ g, RS P N ops l ((d, .raw (.slice (some ⟨g, 0, none⟩) n n)) :: e) (StR R w0 gs (entF g el n (fun _ => fv .f32 0) n :: H)) Q) :
    RS P N ops (⟨some d, .makeSlice t A B, ty, pos, after, none⟩ :: l) e (StR R w0 gs H) Q := by
  refine rs_make (m := AV.f .f32) (zx := fv .f32 0) hA hB hd hz hzo hzc hb hm fun g => ?_
  rw [tab_rep]
  exact hk g
end
abbrev one1 : FV := fv .f32 1065353216
def onesK (m : Nat) (s : Int) : FV := if s < m then one1 else fv .f32 0
theorem rep_fn (n : Nat) (hn : 1 ≤ n ∧ n ≤ 1000) : FnH (X := Nat) Try.prog 56 (fun w => [AV.sl w 1 ((tab 1 fun _ => one1).map (AV.f .f32)), .raw (.int .i64 n)]) []
    (fun g => .raw (.slice (some ⟨g, 0, none⟩) n n)) (fun g => [entF g 29 n (fun _ => one1) n]) (fun _ => True) := by
  have hM := mul_fn n (by omega)
  have d1 : decide ((9223372036854775807 : Int) < n) = false := decide_eq_false (by omega)
  refine fn_intro Try.func56 rfl Try.ntmps56 (fun _ => Nat.le_of_ble_eq_true rfl) fun w0 => ?_
  repeat first | refine zai rfl rfl ?_ | refine zaa rfl (zay rfl) ?_ | refine zaa rfl (zaz rfl) ?_ | (refine zac ?_; first | refine zaa rfl (zbe rfl rfl) ?_ | refine zaa rfl (zbg rfl rfl) ?_) | (refine zad ?_; first | refine zaa rfl (zbo rfl) ?_ | (refine zaa rfl (zci rfl rfl (hM) ?_) ?_; (focus ((repeat (first | exact Takes.nil | refine Takes.sl ?_ | refine Takes.lit ?_ | refine Takes.fa ?_ | refine Takes.fc ?_ | refine Takes.net ?_ | (refine Takes.ownE ?_ ?_ ?_ ?_ ?_; (focus (exact ⟨_, _, (by (repeat (first | exact mh | refine mt ?_)); done)⟩)); (focus (simp; done)); (focus omega); (focus (simp only [maxLen]; omega))) | refine Takes.same ?_)); done)))) | refine zaa rfl (zbz rfl rfl) ?_ | refine zaa rfl (zcb rfl rfl) ?_ | refine zah ?_ | (refine zcr ?_; refine zcs ?_) | (refine zdb ?_; first | refine zdc ?_ | refine zdd ?_ | refine zdf ?_ | refine zdj rfl ?_) | refine zaa rfl (opj_smallU (k0 := .i64) rfl (by omega)) ?_
  rw [d1]
  repeat first | refine zaa rfl (zay rfl) ?_ | refine zaa rfl (zaz rfl) ?_ | refine zah ?_ | (refine zcr ?_; refine zcs ?_) | (refine zdb ?_; first | refine zdc ?_ | refine zdd ?_ | refine zdf ?_ | refine zdj rfl ?_) | refine zaa rfl (opj_small (k0 := .u64) rfl (by omega)) ?_ | (refine rs_makeT1 rfl rfl rfl rfl rfl rfl (by omega) (by simp only [maxLen]; omega) ?_; intro g)
  refine rs_copyT 0 1 (onesK 1) (off := 0) (h := fun _ => one1) (j := 1) rfl rfl ⟨_, rfl, fun w v hS h => h.inv_q.ext hS.mod.to_ext⟩ rfl (by omega) (by omega) (by omega) (fun s hs => ?_) ?_
  · unfold onesK
    by_cases h : s < 1
    · rw [if_pos (by omega), if_pos (by omega)]
    · rw [if_neg (by omega), if_neg (by omega)]
  repeat first | refine zaa rfl (zaz rfl) ?_ | refine zah ?_ | (refine zcr ?_; refine zcs ?_) | (refine zdb ?_; first | refine zdc ?_ | refine zde ?_)
  refine ws_loop (ι := Nat) (fun m => [(7, .raw (.slice (some ⟨g, 0, none⟩) n n)), (8, .raw (.int .i64 m))]) (fun m => St w0 [] [entF g 29 n (onesK m) n]) (fun m => 1 ≤ m ∧ m ≤ n) (fun m => n - m) 1 (by omega) ?_ (fun _ h => h) (fun m hm => ?_)
  · (repeat (first | exact Env.sub_nil _ | refine Env.sub_cons rfl ?_))
  repeat first | refine zaa rfl (zay rfl) ?_ | (refine zac ?_; refine zaa rfl (zbe rfl rfl) ?_) | (refine zad ?_; refine zaa rfl (zbn rfl) ?_) | refine zah ?_ | (refine zcr ?_; refine zcs ?_) | (refine zdb ?_; first | refine zdc ?_ | refine zdd ?_)
  refine ws_cond rfl (fun hd => ?_) (fun hd => ?_)
  · have hlt : (m : Int) < n := of_decide_eq_true hd
    clear hd
    repeat first | (refine zcr ?_; refine zcs ?_) | (refine zdb ?_; first | refine zde ?_ | refine zdf ?_)
    refine ws_drawV (n := 7) (d := 45) (.int .i64 ((min m (n - m) : Nat) : Int)) (W := St w0 [] []) (S1 := St w0 [] [entF g 29 n (onesK ((m + min m (n - m) : Nat))) n]) mixed (by decide +kernel) rfl rfl (fun _ h => h.weak (List.nil_sublist _)) (fun _ h => h.weak (List.nil_sublist _)) ?_
    repeat first | refine zap rfl (zay rfl) ?_ | refine zav ?_ | refine zap rfl (opj_cut_l rfl rfl (by omega) (Nat.le_refl _)) ?_ | refine zap rfl (opj_cut_h rfl rfl (by omega) (by omega)) ?_
    refine ⟨rfl, fun o ho => ?_, ?_⟩
    · cases ho
      refine effv_copyT 0 (min m (n - m)) (onesK ((m + min m (n - m) : Nat))) (off := (m : Int).toNat) (h := onesK m) (j := (m : Int).toNat) rfl ⟨_, rfl, fun w v hS h => rd_own hS h mh (by omega) ⟨by omega, by simp only [maxLen]; omega⟩⟩ rfl (by omega) (by omega) (by omega) (fun s hs => ?_)
      unfold onesK
      by_cases h : s < m
      · rw [if_pos (by omega), if_neg (by omega), if_pos (by omega)]
      · by_cases h' : s < m + min m (n - m)
        · rw [if_pos (by omega), if_pos (by omega), if_pos (by omega)]
        · rw [if_neg (by omega), if_neg (by omega), if_neg (by omega)]
    repeat first | refine zaa rfl (zaz rfl) ?_ | (refine zac ?_; refine zaa rfl (zbb rfl rfl (by omega)) ?_) | refine zah ?_ | (refine zcr ?_; refine zcv ?_)
    refine done_round (m + min m (n - m)) (by omega) (by omega) ?_ (fun _ h => h)
    have hnext : ((m + min m (n - m) : Nat) : Int) = (m : Int) + (min m (n - m) : Nat) := by omega
    rw [hnext]
    (repeat (first | exact Env.sub_nil _ | refine Env.sub_cons rfl ?_))
  · have hge : ¬ (m : Int) < n := of_decide_eq_false hd
    have hmn : m = n := by omega
    subst hmn
    repeat first | refine zaa rfl (zay rfl) ?_ | refine zaa rfl (zaz rfl) ?_ | refine zah ?_ | (refine zcr ?_; first | refine zcs ?_ | refine zcu ?_ | refine zcx ?_ | refine zda ?_) | (refine zdb ?_; first | refine zdc ?_ | refine zdd ?_ | refine zdg ?_ | refine zdh ?_)
    refine done_ret1 rfl g rfl trivial ?_
    have : entF g 29 m (onesK m) m = entF g 29 m (fun _ => one1) m := by
      unfold entF
      rw [tab_congr (g := fun _ => one1) fun i h0 h1 => by unfold onesK; rw [if_pos h1]]
    rw [this]
    exact List.Sublist.refl _
theorem ones_fn (n : Nat) (hn : 1 ≤ n ∧ n ≤ 1000) : FnH (X := Nat) Try.prog 39 (fun _ => [.raw (.int .i64 n)]) []
    (fun g => .raw (.slice (some ⟨g, 0, none⟩) n n)) (fun g => [entF g 29 n (fun _ => one1) n]) (fun _ => True) := by
  have e1 : (tab 1 fun _ => one1).map (AV.f .f32) = [.f .f32 one1] := by unfold tab; rfl
  have hR := rep_fn n hn
  rw [e1] at hR
  refine fn_intro Try.func39 rfl Try.ntmps39 (fun _ => Nat.le_of_ble_eq_true rfl) fun w0 => ?_
  repeat first | refine zaa rfl (zay rfl) ?_ | refine zaa rfl (zaz rfl) ?_ | (refine zad ?_; (refine rs_call1 (hR) rfl rfl ?_ rfl ?_; (focus ((repeat (first | exact Takes.nil | refine Takes.sl ?_ | refine Takes.lit ?_ | refine Takes.fa ?_ | refine Takes.fc ?_ | refine Takes.net ?_ | (refine Takes.ownE ?_ ?_ ?_ ?_ ?_; (focus (exact ⟨_, _, (by (repeat (first | exact mh | refine mt ?_)); done)⟩)); (focus (simp; done)); (focus omega); (focus (simp only [maxLen]; omega))) | refine Takes.same ?_)); done)); intro g _)) | refine zah ?_ | (refine zcr ?_; refine zcs ?_) | (refine zdb ?_; first | refine zdc ?_ | refine zdd ?_ | refine zdg ?_) | refine zaa rfl (zco rfl rfl rfl rfl rfl rfl) ?_
  exact done_ret1 rfl g rfl trivial (List.Sublist.refl _)
end Go.Ab
