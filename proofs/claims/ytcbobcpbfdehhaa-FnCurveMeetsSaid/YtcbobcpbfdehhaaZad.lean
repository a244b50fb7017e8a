/- Part 4 of the texts on which the law leans, joined: Lists of structs that a call makes: append; lists of curves. No conditions. -/
import Derived.KernelRfl
import Derived.Laws.CopyRow
import Derived.Test.YtcbobcpbfdehhaaZac
namespace Go.Ab
open Go.Proofs
variable {R : World → Prop} [RStab R]
abbrev By := Fin 256
def byA (x : By) : AV := .raw (.int .u8 (x.val : Int))
abbrev slB (w : World) (L : List By) : AV := AV.sl w 1 (L.map byA)
theorem open_slB {H : Type} {enc : TypeId × Value → H} {P : Program} {W : World} {t e : TypeId} {v : Value} {d : DataW H} {p : List MemPlace} {base b2 : Nat} {sp : Nat → Bool} {hd : Bool} [ht : TyU P t (.slice e)] [he : TyU P e (.int .u8)] (hc : P.cellsOf e = 1)
    (hval : Value.okWide P W .any b2 t v) (h : DataW.Trod enc P W base sp hd t v d p) : ∃ L : List By, Rel W (slB W L) v := by
  obtain ⟨L, hL⟩ := open_sl (m := byA) hc (fun n u y hy => by
    obtain ⟨b, hb, h1, h2⟩ := trod_int1 he.h hy
    have hmin : IntKind.u8.min = 0 := by decide
    have hmax : IntKind.u8.max = 255 := by decide
    rw [hmin] at h1
    rw [hmax] at h2
    obtain rfl : u = .int .u8 b := by simpa using hb
    refine ⟨⟨b.toNat, by omega⟩, ?_⟩
    have : (((⟨b.toNat, by omega⟩ : By).val : Nat) : Int) = b := by
      show ((b.toNat : Nat) : Int) = b
      omega
    unfold byA
    rw [this]
    exact fun _ => .raw) hval h
  exact ⟨L, .q hL⟩
section
variable {P : Program} {N : Nat} {S : World → Prop} {e : Env} {Q : Exit → Env → World → Prop} {ops : Array Oper} {l : List Oper}
variable {w0 w1 : World} {gs : List Nat} {H : List Ent} {dst : Option Tmp} {ty : TypeId} {pos : String} {after : Array Edge} {guard : Option (Nat × Bool)}
def KeepW (w1 w0 : World) (gs : List Nat) : Prop := Ext w1 w0 ∧ ∀ g ∈ gs, w1.heap.size ≤ g
theorem StR.extK {R0 : World → Prop} {w : World} (hk : KeepW w1 w0 gs) (h : StR R0 w0 gs H w) : Ext w1 w := by
  obtain ⟨h1, h2⟩ := hk
  refine ⟨h.mod.os.trans h1.os, h.mod.tape.trans h1.tape, h.mod.output.trans h1.output, Nat.le_trans h1.size h.mod.size, fun k hk => ?_⟩
  exact (h.mod.block k (Nat.lt_of_lt_of_le hk h1.size) (fun hm => by have := h2 k hm; omega)).trans (RowKit.Below.block h1 k hk)
theorem opj_lenK {R0 : World → Prop} {α : Type} {m : α → AV} {L : List α} {X : Operand} {t t2 : TypeId} {b : Nat} {z : Value} {el : TypeId} (hk : KeepW w1 w0 gs) [hu : TyU P t (.slice el)] [hi : TyI P el z 1 b] (hx : e.ev X = some (AV.sl w1 1 (L.map m))) :
    OpJ P (StR R0 w0 gs H) e ⟨dst, .call { callee := .builtin .len, args := #[X], argTypes := #[t] }, t2, pos, after, guard⟩ (.raw (.int .i64 (L.length : Int))) :=
  opj_value fun a w hS h => by
    have h1 := ((h X (by simp [Op.operands, Call.operands]) _ hx).inv_q : Rd w1 1 _ _).ext (hS.extK hk)
    obtain ⟨ad, len, cap, hv, hl, _, _, _⟩ := h1
    refine ⟨_, w, ?_, Ext.refl _, .raw⟩
    have : L.length = len := by simpa using hl
    rw [this]
    simp [execOp, resolve, invoke, builtin, Builtin.len_, run_underlying hu.h, hv, goInt]
theorem opj_indexK {R0 : World → Prop} {α : Type} [Inhabited α] {m : α → AV} {L : List α} {X I : Operand} {i : Int} {t : TypeId} {b : Nat} {z : Value} {el : TypeId} (hk : KeepW w1 w0 gs) [hu : TyU P t (.slice el)] [hi : TyI P el z 1 b]
    (hx : e.ev X = some (AV.sl w1 1 (L.map m))) (hI : e.ev I = some (.raw (.int .i64 i))) (h0 : 0 ≤ i) (hlt : i < (L.length : Int)) :
    OpJ P (StR R0 w0 gs H) e ⟨dst, .indexAddr t X I, ty, pos, after, guard⟩ (AV.ptr [m (L.getD i.toNat default)]) :=
  opj_value fun a w hS h => by
    have h1 := ((h X (by simp [Op.operands]) _ hx).inv_q : Rd w1 1 _ _).ext (hS.extK hk)
    have h2 := (h I (by simp [Op.operands]) _ hI).inv_raw
    obtain ⟨ad, len, cap, hv, hl, hc, hm, hr⟩ := h1
    have hlen : L.length = len := by simpa using hl
    have hget : (L.map m)[i.toNat]? = some (m (L.getD i.toNat default)) := by
      have hlt' : i.toNat < L.length := by omega
      simp [List.getD, hlt']
    obtain ⟨bb, hbb, hsp, u, hu', hev⟩ := hr _ _ hget
    subst hbb
    have hil' : i < (len : Int) := by omega
    refine ⟨_, w, ?_, Ext.refl _, .p (mono_ptrTo _) (?_ : PtrTo _ w (.pointer (some (bb.add (i.toNat * 1)))))⟩
    · simp [execOp, h2, hv, Instr.indexAt, asIntOf, run_underlying hu.h, run_size hi, h0, hil']
    · rw [addr_add bb hsp, Nat.mul_one]
      refine ⟨_, rfl, rfl, fun j x hj => ?_⟩
      cases j with
      | succ j => simp at hj
      | zero =>
        simp only [List.getElem?_cons_zero, Option.some.injEq] at hj
        subst hj
        exact ⟨u, hu', hev⟩
/-- What a predicate of the value alone tells. -/
theorem ws_q {c : Code} {t : Nat} {φ : Value → Prop} (h : e.look t = some (.q φ)) (hk : ∀ v, φ v → WS P N c ((t, .raw v) :: e) S Q) : WS P N c e S Q := fun a w hS hF => by
  obtain ⟨u, hu, hr⟩ := hF.rel t _ h
  refine hk u hr.inv_q a w hS ⟨hF.defers, hF.size, fun s v hs => ?_⟩
  simp only [Env.look] at hs
  cases hb : Nat.beq t s with
  | true =>
    have := Nat.eq_of_beq_eq_true hb
    subst this
    simp only [hb, Option.some.injEq] at hs
    subst hs
    exact ⟨u, hu, .raw⟩
  | false =>
    simp only [hb] at hs
    exact hF.rel s v hs
/-- What the state tells of no world. -/
theorem ws_fact {c : Code} {φ : Prop} (hφ : ∀ w, S w → φ) (h : φ → WS P N c e S Q) : WS P N c e S Q := fun a w hS hF => h (hφ w hS) a w hS hF
theorem own_new {R0 : World → Prop} {w : World} {en : Ent} (h : StR R0 w0 [] H w) (hm : en ∈ H) : w0.heap.size ≤ en.g := by
  rcases (h.own en hm).1 with h1 | h1
  · cases h1
  · exact h1
theorem opj_intW {op : BinOp} (hop : isArithI op = true) {t t' : TypeId} {X Y : Operand} {k : IntKind} {x y : Int} (hx : e.ev X = some (.raw (.int k x))) (hy : e.ev Y = some (.raw (.int k y))) :
    OpJ P S e ⟨dst, .binOp op t X Y t', ty, pos, after, guard⟩ (.raw (.int k (k.wrap (arithI op x y)))) :=
  opj_value fun a w _ h => by
    have h1 := (h X (by simp [Op.operands]) _ hx).inv_raw
    have h2 := (h Y (by simp [Op.operands]) _ hy).inv_raw
    refine ⟨_, w, ?_, Ext.refl _, .raw⟩
    cases op <;> first | (cases hop; done) | simp [execOp, h1, h2, eqGuard, binOp, Op.intArith, arithI]
theorem opj_mulW {t t' : TypeId} {X Y : Operand} {x y : Int} (hx : e.ev X = some (.raw (.int .u64 x))) (hy : e.ev Y = some (.raw (.int .u64 y))) :
    OpJ P S e ⟨dst, .binOp .mul t X Y t', ty, pos, after, guard⟩ (.raw (.int .u64 (IntKind.u64.wrap (x * y)))) := opj_intW (op := .mul) rfl hx hy
theorem opj_addW {t t' : TypeId} {X Y : Operand} {x y : Int} (hx : e.ev X = some (.raw (.int .u64 x))) (hy : e.ev Y = some (.raw (.int .u64 y))) :
    OpJ P S e ⟨dst, .binOp .add t X Y t', ty, pos, after, guard⟩ (.raw (.int .u64 (IntKind.u64.wrap (x + y)))) := opj_intW (op := .add) rfl hx hy
theorem opj_shrW {t t' : TypeId} {X Y : Operand} {x y : Int} (h0 : 0 ≤ y) (hx : e.ev X = some (.raw (.int .u64 x))) (hy : e.ev Y = some (.raw (.int .u64 y))) :
    OpJ P S e ⟨dst, .binOp .shr t X Y t', ty, pos, after, guard⟩ (.raw (.int .u64 (x.fdiv (2 ^ min y.toNat 64)))) :=
  opj_value fun a w _ h => by
    have h1 := (h X (by simp [Op.operands]) _ hx).inv_raw
    have h2 := (h Y (by simp [Op.operands]) _ hy).inv_raw
    have hb : IntKind.u64.bits = 64 := rfl
    have h3 : ¬ y < 0 := by omega
    exact ⟨_, w, by simp [execOp, h1, h2, eqGuard, binOp, Op.shift, h3, hb], Ext.refl _, .raw⟩
def andW (x y : Int) : Int := IntKind.u64.wrap ((BitVec.ofInt 64 x &&& BitVec.ofInt 64 y).toNat : Int)
theorem opj_andW {t t' : TypeId} {X Y : Operand} {x y : Int} (hx : e.ev X = some (.raw (.int .u64 x))) (hy : e.ev Y = some (.raw (.int .u64 y))) :
    OpJ P S e ⟨dst, .binOp .and t X Y t', ty, pos, after, guard⟩ (.raw (.int .u64 (andW x y))) :=
  opj_value fun a w _ h => by
    have h1 := (h X (by simp [Op.operands]) _ hx).inv_raw
    have h2 := (h Y (by simp [Op.operands]) _ hy).inv_raw
    refine ⟨_, w, ?_, Ext.refl _, .raw⟩
    have hr : (binOp .and t (.int .u64 x) (.int .u64 y)).run P w = .ok (.int .u64 (andW x y)) w := by
      have h3 : (Op.intBits .and .u64 x y).run P w = .ok (.int .u64 (andW x y)) w := rfl
      simpa [binOp] using h3
    simp [execOp, h1, h2, eqGuard, hr]
theorem andW_255 (x : Int) : 0 ≤ andW x 255 ∧ andW x 255 ≤ 255 := by
  unfold andW
  have h1 : (BitVec.ofInt 64 x &&& BitVec.ofInt 64 255).toNat ≤ 255 := by
    have e2 : (BitVec.ofInt 64 255).toNat = 2 ^ 8 - 1 := by decide
    rw [BitVec.toNat_and, e2, Nat.and_two_pow_sub_one_eq_mod]
    have := Nat.mod_lt (BitVec.ofInt 64 x).toNat (show 0 < 2 ^ 8 by decide)
    omega
  rw [IntWalk.u64_in _ (by omega)]
  omega
theorem opj_byte {src dt : TypeId} {X : Operand} {x : By} [hs : TyU P src (.int .u8)] [hd : TyU P dt (.int .i64)] (hx : e.ev X = some (byA x)) : OpJ P S e ⟨dst, .convert src dt X, ty, pos, after, guard⟩ (.raw (.int .i64 (x.val : Int))) := by
  have h := opj_iint (P := P) (S := S) (e := e) (dst := dst) (ty := ty) (pos := pos) (after := after) (guard := guard) (k0 := .u8) (k := .u8) (k' := .i64) (hs := hs) (hd := hd) hx
  rwa [IntWalk.i64_in _ (by have := x.isLt; omega)] at h
theorem opj_small {src dt : TypeId} {X : Operand} {k0 k : IntKind} {n : Int} [hs : TyU P src (.int k0)] [hd : TyU P dt (.int .i64)] (hx : e.ev X = some (.raw (.int k n))) (hn : -9223372036854775808 ≤ n ∧ n ≤ 9223372036854775807) : OpJ P S e ⟨dst, .convert src dt X, ty, pos, after, guard⟩ (.raw (.int .i64 n)) := by
  have h := opj_iint (P := P) (S := S) (e := e) (dst := dst) (ty := ty) (pos := pos) (after := after) (guard := guard) (k0 := k0) (k := k) (k' := .i64) (hs := hs) (hd := hd) hx
  rwa [IntWalk.i64_in _ hn] at h
end
theorem opj_and255 {P : Program} {S : World → Prop} {e : Env} {dst : Option Tmp} {ty : TypeId} {pos : String} {after : Array Edge} {guard : Option (Nat × Bool)} {src dt : TypeId} {X : Operand} {x : Int} [hs : TyU P src (.int .u64)] [hd : TyU P dt (.int .i64)] (hx : e.ev X = some (.raw (.int .u64 (andW x 255)))) : OpJ P S e ⟨dst, .convert src dt X, ty, pos, after, guard⟩ (.raw (.int .i64 (andW x 255))) :=
  opj_small (k0 := .u64) hx (by have := andW_255 x; omega)
class SrcT (P : Program) (t : TypeId) : Prop where
  b1 : ∀ (w : World) (a : Option Addr) (n c : Nat), (Instr.build t #[(0, .slice a n c)]).run P w = .ok (.agg #[.slice a n c, .int .i64 0, .int .u64 0]) w
instance srcTi : SrcT Try.prog 86 := ⟨fun w a n c => by kernel_rfl⟩
section
variable {P : Program} {S : World → Prop} {e : Env} {dst : Option Tmp} {ty : TypeId} {pos : String} {after : Array Edge} {guard : Option (Nat × Bool)}
theorem opj_buildSrc {t : TypeId} [hb : SrcT P t] {X : Operand} {w1 : World} {us : List AV} (hx : e.ev X = some (AV.sl w1 1 us)) : OpJ P S e ⟨dst, .build t #[(0, X)], ty, pos, after, guard⟩ (.agg [AV.sl w1 1 us, .raw (.int .i64 0), .raw (.int .u64 0)]) :=
  opj_value fun ac w _ h => by
    have h1 := (h X (by simp [Op.operands]) _ hx)
    obtain ⟨a, n, c, hv, hr⟩ := (h1.inv_q : Rd w1 1 _ _)
    refine ⟨.agg #[.slice a n c, .int .i64 0, .int .u64 0], w, ?_, Ext.refl _, .agg (vs := [.slice a n c, .int .i64 0, .int .u64 0]) (.cons (.q ⟨a, n, c, rfl, hr⟩) (.cons .raw (.cons .raw .nil)))⟩
    simp only [execOp, List.map_toArray, List.map_cons, List.map_nil, hv, Sem.run_bind, hb.b1, Result.andThen_ok]
    rfl
end
attribute [local irreducible] WS RS Done OpJ Then InBlock Round Ret Env.sub FnH
theorem b10Long_fn (L M : List By) : Fn Try.prog 4 (fun w => [slB w L, slB w M]) (.raw (.bool (decide ((1048576 : Int) < L.length) || decide ((1048576 : Int) < M.length)))) := by
  refine fn_intro Try.func4 rfl Try.ntmps4 (fun _ => Nat.le_of_ble_eq_true rfl) fun w0 => ?_
  repeat first | refine zaa rfl (zay rfl) ?_ | refine zaa rfl (zaz rfl) ?_ | (refine zac ?_; refine zaa rfl (zbg rfl rfl) ?_) | (refine zad ?_; refine zaa rfl (zbm rfl) ?_) | refine zah ?_ | (refine zcr ?_; refine zcs ?_) | (refine zdb ?_; first | refine zdc ?_ | refine zdd ?_)
  cases decide ((1048576 : Int) < L.length)
  all_goals
    repeat first | refine zai rfl rfl ?_ | refine zaj rfl rfl rfl rfl ?_ | refine zaa rfl (zay rfl) ?_ | refine zaa rfl (zaz rfl) ?_ | (refine zac ?_; refine zaa rfl (zbg rfl rfl) ?_) | (refine zad ?_; refine zaa rfl (zbm rfl) ?_) | refine zaa rfl (zca rfl rfl) ?_ | refine zaa rfl (zcb rfl rfl) ?_ | refine zah ?_ | (refine zcr ?_; refine zcs ?_) | (refine zdb ?_; refine zdg ?_)
    exact done_ret1 rfl () rfl trivial (List.nil_sublist _)
abbrev srcE (w1 : World) (g : Nat) (L : List By) (at_ seed : Int) : Ent := ⟨g, 86, [slB w1 L, .raw (.int .i64 at_), .raw (.int .u64 seed)], 3⟩
/-- The source's place, younger than a world of which no block has turned. -/
def srcP (w1 : World) (g : Nat) (w : World) : AV := .q fun v => v = .pointer (some ⟨g, 0, none⟩) ∧ Ext w1 w ∧ w1.heap.size ≤ g
theorem Takes.srcP {R0 : World → Prop} {w0 w1 : World} {gs : List Nat} {H : List Ent} {g : Nat} {args : List AV} {A : World → List AV} (hk : KeepW w1 w0 gs) (hg : w1.heap.size ≤ g) (h : Takes (StR R0 w0 gs H) args A) :
    Takes (StR R0 w0 gs H) (.raw (.pointer (some ⟨g, 0, none⟩)) :: args) (fun w => Go.Ab.srcP w1 g w :: A w) := fun w vs hS hr => by
  obtain ⟨v, r, rfl, hv, hr⟩ := hr.inv_cons
  rw [hv.inv_raw]
  exact .cons (.q ⟨rfl, hS.extK hk, hg⟩) (h w r hS hr)
theorem l00From_fn (w1 : World) (L : List By) : FnH (X := Nat) Try.prog 18 (fun _ => [slB w1 L]) [] (fun g => .raw (.pointer (some ⟨g, 0, none⟩))) (fun g => [srcE w1 g L 0 0]) (fun _ => True) := by
  refine fn_intro Try.func18 rfl Try.ntmps18 (fun _ => Nat.le_of_ble_eq_true rfl) fun w0 => ?_
  repeat first | refine zaa rfl (zay rfl) ?_ | refine zaa rfl (zaz rfl) ?_ | refine zah ?_ | (refine zcr ?_; refine zcs ?_) | (refine zdb ?_; first | refine zdc ?_ | refine zdd ?_ | refine zdg ?_) | (refine zak rfl rfl rfl ?_; intro g) | refine zaa rfl (opj_buildSrc rfl) ?_
  exact done_ret1 rfl g rfl trivial (List.Sublist.refl _)
/-- What a draw leaves. -/
structure Dr where
  r : Int
  at_ : Int
  seed : Int
theorem next_fn (w1 : World) (g : Nat) (L : List By) (at_ seed : Int) (hat : 0 ≤ at_ ∧ at_ < 2 ^ 40) (hL : L.length < 2 ^ 40) :
    FnH (X := Dr) Try.prog 50 (fun w => [srcP w1 g w]) [srcE w1 g L at_ seed] (fun y => .raw (.int .i64 y.r)) (fun y => [srcE w1 g L y.at_ y.seed]) (fun y => 0 ≤ y.r ∧ y.r ≤ 255 ∧ y.at_ = at_ + 1) := by
  refine fn_intro Try.func50 rfl Try.ntmps50 (fun _ => Nat.le_of_ble_eq_true rfl) fun w0 => ?_
  refine ws_q (t := 0) rfl fun v hv => ?_
  obtain ⟨rfl, hx, hg⟩ := hv
  have hk : KeepW w1 w0 [g] := ⟨hx, fun x hx => by simp at hx; omega⟩
  repeat first | refine zaa rfl (zaz rfl) ?_ | refine zah ?_ | (refine zcr ?_; refine zcs ?_) | (refine zdb ?_; first | refine zdc ?_ | refine zdd ?_)
  refine ws_draw (n := 10) mixed (by decide +kernel) ?_
  repeat first | refine zap rfl (zay rfl) ?_ | (refine zar ?_; refine zap rfl (zbe rfl rfl) ?_) | (refine zat ?_; refine zap rfl (zcf rfl rfl (by (repeat (first | exact mh | refine mt ?_)); done) rfl) ?_) | refine zap rfl (zcd rfl) ?_ | refine zav ?_ | refine zap rfl (opj_nilCheck rfl) ?_ | refine zap rfl (opj_lenK hk rfl) ?_
  repeat first | refine zah ?_ | (refine zcr ?_; refine zcs ?_)
  refine ws_thenJ (fun b : Int => [(0, .raw (.pointer (some ⟨g, 0, none⟩))), (3, .raw (.int .i64 b))]) (fun _ => St w0 [g] [srcE w1 g L at_ seed]) (fun b => 0 ≤ b ∧ b ≤ 255) (ws_cond rfl (fun hd => ?_) (fun hd => ?_)) (fun b hb => ?_)
  · have hlt := of_decide_eq_true hd
    have hby := (L.getD at_.toNat default).isLt
    skip
    refine ws_draw (n := 12) mixed (by decide +kernel) ?_
    repeat first | refine zap rfl (zay rfl) ?_ | refine zap rfl (zaz rfl) ?_ | (refine zat ?_; first | refine zap rfl (zcf rfl rfl (by (repeat (first | exact mh | refine mt ?_)); done) rfl) ?_ | refine zap rfl (zbu rfl rfl) ?_) | refine zap rfl (zcd rfl) ?_ | refine zav ?_ | refine zap rfl (opj_nilCheck rfl) ?_ | refine zap rfl (opj_indexK hk rfl rfl (by omega) (by omega)) ?_ | refine zap rfl (opj_byte rfl) ?_
    repeat (refine zah ?_)
    refine done_join ((L.getD at_.toNat default).val : Int) (by omega) ?_ (fun _ h => h)
    (repeat (first | exact Env.sub_nil _ | refine Env.sub_cons rfl ?_))
  · repeat ((refine zdb ?_; refine zdf ?_))
    refine done_join (0 : Int) (by omega) ?_ (fun _ h => h)
    (repeat (first | exact Env.sub_nil _ | refine Env.sub_cons rfl ?_))
  repeat first | refine zaa rfl (zay rfl) ?_ | (refine zac ?_; first | refine zaa rfl (zbb rfl rfl (by omega)) ?_ | refine zaa rfl (opj_mulW rfl rfl) ?_ | refine zaa rfl (opj_addW rfl rfl) ?_) | (refine zae ?_; refine zaa rfl (zcf rfl rfl (by (repeat (first | exact mh | refine mt ?_)); done) rfl) ?_) | refine zaa rfl (zcd rfl) ?_ | refine zah ?_ | (refine zcr ?_; refine zcs ?_) | (refine zdb ?_; first | refine zdc ?_ | refine zdd ?_) | (refine zag ?_; refine zam 0 rfl rfl rfl rfl rfl rfl ?_) | refine zaa rfl (opj_nilCheck rfl) ?_ | refine zaa rfl (opj_iint (k0 := .i64) (k' := .u64) rfl) ?_
  refine ws_draw (n := 10) mixed (by decide +kernel) ?_
  repeat first | refine zap rfl (zay rfl) ?_ | (refine zar ?_; refine zap rfl (zbf rfl rfl) ?_) | (refine zat ?_; refine zap rfl (zcf rfl rfl (by (repeat (first | exact mh | refine mt ?_)); done) rfl) ?_) | refine zap rfl (zcd rfl) ?_ | refine zav ?_ | refine zap rfl (opj_nilCheck rfl) ?_ | refine zap rfl (opj_lenK hk rfl) ?_
  repeat first | refine zah ?_ | (refine zcr ?_; refine zcs ?_)
  refine ws_cond rfl (fun hd => ?_) (fun hd => ?_)
  · repeat first | refine zaa rfl (zay rfl) ?_ | refine zaa rfl (zaz rfl) ?_ | refine zah ?_ | (refine zcr ?_; first | refine zcs ?_ | refine zct ?_) | (refine zdb ?_; first | refine zdc ?_ | refine zdd ?_ | refine zdg ?_)
    exact done_ret1 rfl (⟨b, at_ + 1, _⟩ : Dr) rfl ⟨hb.1, hb.2, rfl⟩ (List.Sublist.refl _)
  · repeat first | refine zaa rfl (zay rfl) ?_ | refine zaa rfl (zaz rfl) ?_ | (refine zac ?_; first | refine zaa rfl (opj_shrW (by omega) rfl rfl) ?_ | refine zaa rfl (opj_andW rfl rfl) ?_) | (refine zae ?_; refine zaa rfl (zcf rfl rfl (by (repeat (first | exact mh | refine mt ?_)); done) rfl) ?_) | refine zaa rfl (zcd rfl) ?_ | refine zah ?_ | (refine zcr ?_; refine zcs ?_) | (refine zdb ?_; first | refine zdc ?_ | refine zdd ?_ | refine zdf ?_ | refine zdg ?_) | refine zaa rfl (opj_nilCheck rfl) ?_ | refine zaa rfl (opj_and255 rfl) ?_
    exact done_ret1 rfl (⟨_, at_ + 1, _⟩ : Dr) rfl ⟨(andW_255 _).1, (andW_255 _).2, rfl⟩ (List.Sublist.refl _)
theorem pick_fn (w1 : World) (g : Nat) (L : List By) (at_ seed : Int) (n : Int) (hn : 2 ≤ n ∧ n ≤ 200) (hat : 0 ≤ at_ ∧ at_ < 2 ^ 40) (hL : L.length < 2 ^ 40) :
    FnH (X := Dr) Try.prog 19 (fun w => [srcP w1 g w, .raw (.int .i64 n)]) [srcE w1 g L at_ seed] (fun y => .raw (.int .i64 y.r)) (fun y => [srcE w1 g L y.at_ y.seed]) (fun y => 0 ≤ y.r ∧ y.r < n ∧ y.at_ = at_ + 1) := by
  have hnx := next_fn w1 g L at_ seed hat hL
  refine fn_intro Try.func19 rfl Try.ntmps19 (fun _ => Nat.le_of_ble_eq_true rfl) fun w0 => ?_
  refine ws_q (t := 0) rfl fun v hv => ?_
  obtain ⟨rfl, hx, hg⟩ := hv
  have hk : KeepW w1 w0 [g] := ⟨hx, fun x hx => by simp at hx; omega⟩
  repeat first | refine zaa rfl (zay rfl) ?_ | refine zaa rfl (zaz rfl) ?_ | (refine zac ?_; refine zaa rfl (zbf rfl rfl) ?_) | refine zah ?_ | (refine zcr ?_; refine zcs ?_) | (refine zdb ?_; first | refine zdc ?_ | refine zdd ?_)
  rw [decide_eq_false (show ¬ n ≤ 1 by omega)]
  repeat first | refine zaa rfl (zay rfl) ?_ | refine zaa rfl (zaz rfl) ?_ | (refine zac ?_; refine zaa rfl (zbg rfl rfl) ?_) | refine zah ?_ | (refine zcr ?_; refine zcs ?_) | (refine zdb ?_; first | refine zdc ?_ | refine zdd ?_ | refine zdf ?_ | refine zdj rfl ?_) | (refine rs_callAt 0 hnx rfl rfl rfl (Takes.srcP hk hg Takes.nil) rfl ?_; rintro ⟨r, a2, s2⟩ ⟨hr1, hr2, hr3⟩)
  rw [decide_eq_false (show ¬ (200 : Int) < n by omega)]
  simp only at hr1 hr2 hr3
  repeat first | refine zaa rfl (zay rfl) ?_ | refine zaa rfl (zaz rfl) ?_ | (refine zac ?_; refine zaa rfl (zcq rfl rfl (by omega) (by omega)) ?_) | refine zah ?_ | (refine zcr ?_; refine zcs ?_) | (refine zdb ?_; first | refine zdc ?_ | refine zdd ?_ | refine zdf ?_ | refine zdg ?_ | refine zdj rfl ?_)
  exact done_ret1 rfl (⟨_, a2, s2⟩ : Dr) rfl ⟨Int.emod_nonneg _ (by omega), Int.emod_lt_of_pos _ (by omega), hr3⟩ (List.Sublist.refl _)
theorem quarter_vl {x : Int} (h : -1000 ≤ x ∧ x ≤ 1000) : Vl .f32 (fbin .quo .f32 (some (FloatKind.f32.nearest x)) (fv .f32 1082130432)) ((x : Rat) / 4) := by
  have h1 : Vl .f32 (some (FloatKind.f32.nearest x)) (x : Rat) := vl_ofInt .f32 x (by have : FloatKind.f32.format.fractionBits = 23 := rfl; rw [this]; omega)
  refine div_ex h1 (Vl.c (q := 4) (by decide +kernel)) (by decide +kernel) (Rat.div_mul_cancel (by decide +kernel)) x 2 (by omega) (by decide) ?_
  rw [show ((2 ^ 2 : Nat) : Rat) = 4 from rfl]
  exact Rat.div_mul_cancel (by decide +kernel)
def gapF (x y : FV) : FV := if cmpB .lss (fcmp .f64 x y) = true then fbin .sub .f64 y x else fbin .sub .f64 x y
theorem b10Gap_fn (x y : FV) : Fn Try.prog 10 (fun _ => [.f .f64 x, .f .f64 y]) (.f .f64 (gapF x y)) := by
  unfold gapF
  refine fn_intro Try.func10 rfl Try.ntmps10 (fun _ => Nat.le_of_ble_eq_true rfl) fun w0 => ?_
  repeat first | refine zaa rfl (zay rfl) ?_ | refine zaa rfl (zaz rfl) ?_ | (refine zac ?_; refine zaa rfl (zbd rfl rfl rfl) ?_) | refine zah ?_ | (refine zcr ?_; refine zcs ?_) | (refine zdb ?_; first | refine zdc ?_ | refine zdd ?_)
  refine ws_cond rfl (fun hd => ?_) (fun hd => ?_)
  · rw [if_pos hd]
    repeat first | refine zaa rfl (zay rfl) ?_ | refine zaa rfl (zaz rfl) ?_ | (refine zac ?_; refine zaa rfl (zba rfl rfl rfl) ?_) | refine zah ?_ | (refine zcr ?_; first | refine zcs ?_ | refine zct ?_) | (refine zdb ?_; first | refine zdc ?_ | refine zdd ?_ | refine zdg ?_)
    exact done_ret1 rfl () rfl trivial (List.nil_sublist _)
  · rw [if_neg (by rw [hd]; simp)]
    repeat first | refine zaa rfl (zay rfl) ?_ | refine zaa rfl (zaz rfl) ?_ | (refine zac ?_; refine zaa rfl (zba rfl rfl rfl) ?_) | refine zah ?_ | (refine zcr ?_; refine zcs ?_) | (refine zdb ?_; first | refine zdc ?_ | refine zdd ?_ | refine zdf ?_ | refine zdg ?_)
    exact done_ret1 rfl () rfl trivial (List.nil_sublist _)
/-- A number that can be written, below a bound that can't. -/
theorem gap_le {x y c : FV} {p q C B : Rat} (hx : Vl .f64 x p) (hy : Vl .f64 y q) (hc : Vl .f64 c C) (hB : Rep .f64 B) (hBf : B ≤ 1000) (h1 : p - q ≤ B) (h2 : q - p ≤ B) (h3 : B ≤ C) : cmpB .gtr (fcmp .f64 (gapF x y) c) = false := by
  have h1000 : (1000 : Rat) < p2 (ftop .f64) := by decide +kernel
  have hfit : ∀ z : Rat, z ≤ B → -B ≤ z → Fit .f64 z := fun z a1 a2 => by constructor <;> grind
  unfold gapF
  rw [vl_lss hx hy]
  by_cases h : p < q
  · rw [if_pos (decide_eq_true h)]
    obtain ⟨r, hr, hrr⟩ := vl_sub hy hx (hfit _ h2 (by grind))
    rw [vl_gtr hr hc]
    have := (hrr.side B hB).1 h2
    exact decide_eq_false (Rat.not_lt.2 (Rat.le_trans this h3))
  · rw [if_neg (by rw [decide_eq_false h]; simp)]
    obtain ⟨r, hr, hrr⟩ := vl_sub hx hy (hfit _ h1 (by grind))
    rw [vl_gtr hr hc]
    have := (hrr.side B hB).1 h1
    exact decide_eq_false (Rat.not_lt.2 (Rat.le_trans this h3))
def minF (k : FloatKind) (x y : FV) : FV := x.bind fun a => y.bind fun b => match k.format.order a b with
  | none => none
  | some .lt => some a
  | some .gt => some b
  | some .eq => some (if (k.decode a).neg then a else b)
def maxF (k : FloatKind) (x y : FV) : FV := x.bind fun a => y.bind fun b => match k.format.order a b with
  | none => none
  | some .lt => some b
  | some .gt => some a
  | some .eq => some (if (k.decode a).neg then b else a)
theorem vl_order {k : FloatKind} {a b : Nat} {p q : Rat} (hx : Vl k (some a) p) (hy : Vl k (some b) q) : ∃ o, k.format.order a b = some o ∧ (o = .lt → p < q) ∧ (o = .gt → q < p) ∧ (o = .eq → p = q) := by
  obtain ⟨u, v, h, h1, h2⟩ := vl_cmp hx hy
  have h' : k.format.order a b = some (compare u v) := h
  refine ⟨_, h', fun ho => h1.2 (Int.compare_eq_lt.1 ho), fun ho => h2.2 (Int.compare_eq_gt.1 ho), fun ho => ?_⟩
  have huv : u = v := icmp ho
  exact Rat.le_antisymm (Rat.not_lt.1 fun h4 => by have := h2.1 h4; omega) (Rat.not_lt.1 fun h4 => by have := h1.1 h4; omega)
theorem vl_max {k : FloatKind} {x y : FV} {p q : Rat} (hx : Vl k x p) (hy : Vl k y q) : ∃ r, Vl k (maxF k x y) r ∧ p ≤ r ∧ q ≤ r ∧ (r = p ∨ r = q) := by
  obtain ⟨a, s, m, i, rfl, ha⟩ := hx
  obtain ⟨b, t, n, j, rfl, hb⟩ := hy
  have va : Vl k (some a) p := ⟨a, s, m, i, rfl, ha⟩
  have vb : Vl k (some b) q := ⟨b, t, n, j, rfl, hb⟩
  obtain ⟨o, h, h1, h2, h3⟩ := vl_order va vb
  simp only [maxF, Option.bind_some, h]
  cases o with
  | lt => exact ⟨q, vb, Rat.le_of_lt (h1 rfl), Rat.le_refl, .inr rfl⟩
  | gt => exact ⟨p, va, Rat.le_refl, Rat.le_of_lt (h2 rfl), .inl rfl⟩
  | eq =>
    have hpq := h3 rfl
    dsimp only
    split
    · exact ⟨q, vb, by rw [hpq]; exact Rat.le_refl, Rat.le_refl, .inr rfl⟩
    · exact ⟨p, va, Rat.le_refl, by rw [hpq]; exact Rat.le_refl, .inl rfl⟩
section
variable {P : Program} {S : World → Prop} {e : Env} {dst : Option Tmp} {ty : TypeId} {pos : String} {after : Array Edge} {guard : Option (Nat × Bool)}
theorem opj_minV {X Y : Operand} {k : FloatKind} {x y : FV} {p q : Rat} {ts : Array TypeId} (vx : Vl k x p) (vy : Vl k y q) (hx : e.ev X = some (.f k x)) (hy : e.ev Y = some (.f k y)) :
    OpJ P S e ⟨dst, .call { callee := .builtin .min, args := #[X, Y], argTypes := ts }, ty, pos, after, guard⟩ (.f k (minF k x y)) :=
  opj_value fun a w _ h => by
    obtain ⟨u, h1, e1, l1⟩ := (h X (by simp [Op.operands, Call.operands]) _ hx).inv_f
    obtain ⟨v, h2, e2, l2⟩ := (h Y (by simp [Op.operands, Call.operands]) _ hy).inv_f
    obtain ⟨a', s, m, i, rfl, ha, hq⟩ := vx
    obtain ⟨b', t, n, j, rfl, hb, hq'⟩ := vy
    obtain rfl := fv_inv e1
    obtain rfl := fv_inv e2
    obtain ⟨o, ho, _⟩ := vl_order (k := k) ⟨u, s, m, i, rfl, ha, hq⟩ ⟨v, t, n, j, rfl, hb, hq'⟩
    have hm : minF k (some u) (some v) = match o with
      | .lt => some u
      | .gt => some v
      | .eq => some (if (k.decode u).neg then u else v) := by
      simp only [minF, Option.bind_some, ho]
      cases o <;> rfl
    have hr : (Builtin.min_ ts ty #[.float k u, .float k v]).run P w = .ok (.float k (match o with
      | .lt => u
      | .gt => v
      | .eq => if (k.decode u).neg then u else v)) w := by
      simp only [Builtin.min_]
      cases o <;> simp [Builtin.min2, ho]
    rw [hm]
    cases o with
    | lt => exact ⟨_, w, by simp [execOp, resolve, invoke, builtin, h1, h2, hr], Ext.refl _, Rel.f' l1 e1⟩
    | gt => exact ⟨_, w, by simp [execOp, resolve, invoke, builtin, h1, h2, hr], Ext.refl _, Rel.f' l2 e2⟩
    | eq =>
      refine ⟨_, w, by simp only [execOp, resolve, invoke, builtin, List.map_toArray, List.map_cons, List.map_nil, h1, h2, Sem.run_bind, Sem.run_pure, Result.andThen_ok, hr]; rfl, Ext.refl _, ?_⟩
      dsimp only
      split
      · exact Rel.f' l1 e1
      · exact Rel.f' l2 e2
theorem opj_maxV {X Y : Operand} {k : FloatKind} {x y : FV} {p q : Rat} {ts : Array TypeId} (vx : Vl k x p) (vy : Vl k y q) (hx : e.ev X = some (.f k x)) (hy : e.ev Y = some (.f k y)) :
    OpJ P S e ⟨dst, .call { callee := .builtin .max, args := #[X, Y], argTypes := ts }, ty, pos, after, guard⟩ (.f k (maxF k x y)) :=
  opj_value fun a w _ h => by
    obtain ⟨u, h1, e1, l1⟩ := (h X (by simp [Op.operands, Call.operands]) _ hx).inv_f
    obtain ⟨v, h2, e2, l2⟩ := (h Y (by simp [Op.operands, Call.operands]) _ hy).inv_f
    obtain ⟨a', s, m, i, rfl, ha, hq⟩ := vx
    obtain ⟨b', t, n, j, rfl, hb, hq'⟩ := vy
    obtain rfl := fv_inv e1
    obtain rfl := fv_inv e2
    obtain ⟨o, ho, _⟩ := vl_order (k := k) ⟨u, s, m, i, rfl, ha, hq⟩ ⟨v, t, n, j, rfl, hb, hq'⟩
    have hm : maxF k (some u) (some v) = match o with
      | .lt => some v
      | .gt => some u
      | .eq => some (if (k.decode u).neg then v else u) := by
      simp only [maxF, Option.bind_some, ho]
      cases o <;> rfl
    have hr : (Builtin.max_ ts ty #[.float k u, .float k v]).run P w = .ok (.float k (match o with
      | .lt => v
      | .gt => u
      | .eq => if (k.decode u).neg then v else u)) w := by
      simp only [Builtin.max_]
      cases o <;> simp [Builtin.max2, ho]
    rw [hm]
    cases o with
    | lt => exact ⟨_, w, by simp [execOp, resolve, invoke, builtin, h1, h2, hr], Ext.refl _, Rel.f' l2 e2⟩
    | gt => exact ⟨_, w, by simp [execOp, resolve, invoke, builtin, h1, h2, hr], Ext.refl _, Rel.f' l1 e1⟩
    | eq =>
      refine ⟨_, w, by simp only [execOp, resolve, invoke, builtin, List.map_toArray, List.map_cons, List.map_nil, h1, h2, Sem.run_bind, Sem.run_pure, Result.andThen_ok, hr]; rfl, Ext.refl _, ?_⟩
      dsimp only
      split
      · exact Rel.f' l2 e2
      · exact Rel.f' l1 e1
end
end Go.Ab
namespace Go.Ab
open Go.Proofs
variable {R : World → Prop} [RStab R]
attribute [local irreducible] WS RS Done OpJ Then InBlock Round Ret Env.sub FnH
attribute [local irreducible] tab tabC
section
variable {n : Nat} {P : Nat → CV} {a c : Nat → Int} {l : Nat → Rat} {w : FV} {ω : Rat}
theorem isTime_yes (vw : Vl .f32 w ω) (hw : 0 ≤ ω ∧ ω ≤ 1) : Fn Try.prog 70 (fun _ => [.f .f32 w]) (.raw (.bool true)) := by
  have e1 : cmpB .geq (fcmp .f32 w (fv .f32 0)) = true := by rw [vl_geq vw (Vl.c (k := .f32) (b := 0) (q := 0) (by decide +kernel))]; exact decide_eq_true hw.1
  have e2 : cmpB .leq (fcmp .f32 w (fv .f32 1065353216)) = true := by rw [vl_leq vw (Vl.c (k := .f32) (b := 1065353216) (q := 1) (by decide +kernel))]; exact decide_eq_true hw.2
  refine fn_intro Try.func70 rfl Try.ntmps70 (fun _ => Nat.le_of_ble_eq_true rfl) fun w0 => ?_
  repeat first | refine zaa rfl (zay rfl) ?_ | refine zaa rfl (zaz rfl) ?_ | (refine zac ?_; refine zaa rfl (zbd rfl rfl rfl) ?_) | refine zah ?_ | (refine zcr ?_; refine zcs ?_) | (refine zdb ?_; first | refine zdc ?_ | refine zdd ?_)
  rw [e1]
  repeat first | refine zai rfl rfl ?_ | refine zaa rfl (zay rfl) ?_ | refine zaa rfl (zaz rfl) ?_ | (refine zac ?_; refine zaa rfl (zbd rfl rfl rfl) ?_) | refine zaa rfl (zca rfl rfl) ?_ | refine zah ?_ | (refine zcr ?_; refine zcs ?_) | (refine zdb ?_; refine zdg ?_)
  rw [e2]
  skip
  exact done_ret1 rfl () rfl trivial (List.nil_sublist _)
theorem l02Share_yes (vw : Vl .f32 w ω) (hw : 0 ≤ ω ∧ ω ≤ 1) : Fn Try.prog 37 (fun _ => [.f .f32 w]) (.raw (.bool true)) := by
  have e1 : cmpB .geq (fcmp .f32 w (fv .f32 0)) = true := by rw [vl_geq vw (Vl.c (k := .f32) (b := 0) (q := 0) (by decide +kernel))]; exact decide_eq_true hw.1
  have e2 : cmpB .leq (fcmp .f32 w (fv .f32 1065353216)) = true := by rw [vl_leq vw (Vl.c (k := .f32) (b := 1065353216) (q := 1) (by decide +kernel))]; exact decide_eq_true hw.2
  refine fn_intro Try.func37 rfl Try.ntmps37 (fun _ => Nat.le_of_ble_eq_true rfl) fun w0 => ?_
  repeat first | refine zaa rfl (zay rfl) ?_ | refine zaa rfl (zaz rfl) ?_ | (refine zac ?_; refine zaa rfl (zbd rfl rfl rfl) ?_) | refine zah ?_ | (refine zcr ?_; refine zcs ?_) | (refine zdb ?_; first | refine zdc ?_ | refine zdd ?_)
  rw [e1]
  repeat first | refine zai rfl rfl ?_ | refine zaa rfl (zay rfl) ?_ | refine zaa rfl (zaz rfl) ?_ | (refine zac ?_; refine zaa rfl (zbd rfl rfl rfl) ?_) | refine zaa rfl (zca rfl rfl) ?_ | refine zah ?_ | (refine zcr ?_; refine zcs ?_) | (refine zdb ?_; refine zdg ?_)
  rw [e2]
  skip
  exact done_ret1 rfl () rfl trivial (List.nil_sublist _)
end
end Go.Ab
namespace Go.Ab
open Go.Proofs
variable {R : World → Prop} [RStab R]
section
variable {P : Program} {N : Nat} {S : World → Prop} {e : Env} {Q : Exit → Env → World → Prop} {ops : Array Oper} {l : List Oper}
variable {w0 : World} {gs : List Nat} {H : List Ent} {dst : Option Tmp} {ty : TypeId} {pos : String} {after : Array Edge} {guard : Option (Nat × Bool)} {t el : TypeId}
omit [RStab R] in
/-- A list of the call's own may be read. -/
theorem rd_own {n m g c cap : Nat} {f : Int → FV} {T : TypeId} {w : World} {v : Value} (hS : StR R w0 gs H w) (hr : Rel w (.raw (.slice (some ⟨g, 0, none⟩) m cap)) v) (hm : (entF g T n f c : Ent) ∈ H) (hn : m ≤ n) (hc : m ≤ cap ∧ cap ≤ maxLen) : Rd w 1 v ((tab m f).map (AV.f .f32)) := by
  have hv := hr.inv_raw
  subst hv
  refine ⟨_, m, cap, rfl, by simp, hc.1, hc.2, fun i x hi => ⟨_, rfl, rfl, ?_⟩⟩
  have hlt : i < m := by
    have := (List.getElem?_eq_some_iff.1 hi).1
    simpa using this
  have hx : (entF g T n f c).xs[i]? = some x := by
    simp only [entF, List.getElem?_map] at hi ⊢
    rw [tab_get f (by omega)]
    rw [tab_get f hlt] at hi
    exact hi
  obtain ⟨u, hu, hev⟩ := (hS.own _ hm).2.cell hx
  exact ⟨u, by simpa [entF] using hu, hev⟩
end
attribute [local irreducible] WS RS Done OpJ Then InBlock Round Ret Env.sub FnH
attribute [local irreducible] tab tabC
abbrev one1 : FV := fv .f32 1065353216
end Go.Ab
namespace Go.Ab
open Go.Proofs
variable {R : World → Prop} [RStab R]
/-- A curve that came in. -/
abbrev crvA (w : World) (n : Nat) (P : Nat → CV) (f : Int → FV) : AV := .agg [slC w (tabC n P), AV.sl w 1 ((tab n f).map (AV.f .f32))]
section
variable {w0 : World} {gs : List Nat} {H : List Ent} {n : Nat} {P : Nat → CV} {f : Int → FV} {args : List AV} {A : World → List AV}
theorem Takes.crv {R0 : World → Prop} (h : Takes (StR R0 w0 [] H) args A) : Takes (StR R0 w0 [] H) (crvA w0 n P f :: args) (fun w => crvA w n P f :: A w) := fun w vs hS hr => by
  obtain ⟨v, r, rfl, hv, hrr⟩ := hr.inv_cons
  obtain ⟨us, rfl, hu⟩ := hv.inv_agg
  obtain ⟨a, r1, rfl, ha, hu⟩ := hu.inv_cons
  obtain ⟨b, r2, rfl, hb, hu⟩ := hu.inv_cons
  obtain rfl := hu.inv_nil
  exact .cons (.agg (.cons (.q (hS.rd ha.inv_q)) (.cons (.q (hS.rd hb.inv_q)) .nil))) (h w r hS hrr)
theorem rd_ownC {m g c cap : Nat} {w : World} {v : Value} {R0 : World → Prop} (hS : StR R0 w0 gs H w) (hr : Rel w (.raw (.slice (some ⟨g, 0, none⟩) m cap)) v) (hm : (entC g n P c : Ent) ∈ H) (hn : m ≤ n) (hc : m ≤ cap ∧ cap ≤ maxLen) : Rd w 1 v ((tabC m P).map cA) := by
  have hv := hr.inv_raw
  subst hv
  refine ⟨_, m, cap, rfl, by simp, hc.1, hc.2, fun i x hi => ⟨_, rfl, rfl, ?_⟩⟩
  have hlt : i < m := by
    have := (List.getElem?_eq_some_iff.1 hi).1
    simpa using this
  have hx : (entC g n P c).xs[i]? = some x := by
    simp only [entC, List.getElem?_map] at hi ⊢
    rw [tabC_get P (by omega)]
    rw [tabC_get P hlt] at hi
    exact hi
  obtain ⟨u, hu, hev⟩ := (hS.own _ hm).2.cell hx
  exact ⟨u, by simpa [entC] using hu, hev⟩
end
section
variable {P : Program} {N : Nat} {S : World → Prop} {e : Env} {Q : Exit → Env → World → Prop}
variable {w0 : World} {gs : List Nat} {H : List Ent} {t : TypeId}
/-- A struct that lies in a block of its own, and one more value, are what is returned. -/
theorem done_retCX {R0 : World → Prop} {X : Type} {mk : X → AV} {post : X → List Ent} {good : X → Prop} {fn : Func} {p u : Tmp} {d : TypeDesc} {z : Value} {sz b g c : Nat} {T : TypeId} {xs ys : List AV} {x2 : AV} [hd : TyU P t d] [hi : TyI P t z sz b] (ha : aggD d = true) (hr : fn.results = #[.cell p t, .tmp u]) (y : X)
    (hp : e.look p = some (.raw (.pointer (some ⟨g, 0, none⟩)))) (h2 : e.look u = some x2) (hm : (⟨g, T, xs, c⟩ : Ent) ∈ H) (hl : Nat.beq xs.length sz = true) (hmk : mk y = .tup [.agg ys, x2]) (hxy : ys = xs) (hy : good y) (hs : (post y).Sublist H) :
    Done .ret e (StR R0 w0 gs H) (Ret P fn N w0 gs mk post good) := fun w hw =>
  ⟨.inl rfl, y, hy, hw.mod, fun x hx => ⟨(hw.own x (hs.subset hx)).2, (hw.own x (hs.subset hx)).1⟩, (hw.weak hs).nodup, fun a hF => by
    subst hxy
    obtain ⟨v, hv, hrv⟩ := hF.rel p _ hp
    have := hrv.inv_raw
    subst this
    obtain ⟨v2, hv2, hrv2⟩ := hF.rel u _ h2
    obtain ⟨cs, hrun, hrel⟩ := run_loadA (P := P) (t := t) (w := w) ha (bb := ⟨g, 0, none⟩) rfl (xs := ys) (Nat.eq_of_beq_eq_true hl) (fun j x hj => (hw.own _ hm).2.cell (by simpa using hj))
    refine ⟨.tuple #[.agg cs.toArray, v2], ?_, by rw [hmk]; exact .tup (vs := [_, _]) (.cons (.agg hrel) (.cons hrv2 .nil))⟩
    simp [results, hr, hv, hv2, asAddr, hrun]⟩
end
attribute [local irreducible] WS RS Done OpJ Then InBlock Round Ret Env.sub FnH
attribute [local irreducible] tab tabC
theorem degree_fn (n : Nat) (P : Nat → CV) (f : Int → FV) (hn : n ≤ 1000) : Fn Try.prog 56 (fun w => [crvA w n P f]) (.raw (.int .i64 ((n : Int) - 1))) := by
  refine fn_intro Try.func56 rfl Try.ntmps56 (fun _ => Nat.le_of_ble_eq_true rfl) fun w0 => ?_
  repeat first | refine zaa rfl (zaz rfl) ?_ | (refine zac ?_; refine zaa rfl (zbc rfl rfl (by omega)) ?_) | (refine zad ?_; refine zaa rfl (opj_lenC rfl) ?_) | (refine zae ?_; refine zaa rfl (zcf rfl rfl (by (repeat (first | exact mh | refine mt ?_)); done) rfl) ?_) | refine zaa rfl (zcd rfl) ?_ | refine zah ?_ | (refine zcr ?_; refine zcs ?_) | (refine zdb ?_; first | refine zdc ?_ | refine zdd ?_ | refine zdg ?_) | (refine zak rfl rfl rfl ?_; intro g)
  exact done_ret1 rfl () rfl trivial (List.nil_sublist _)
theorem isDegree_yes (n : Int) (hn : 1 ≤ n ∧ n ≤ 7) : Fn Try.prog 55 (fun _ => [.raw (.int .i64 n)]) (.raw (.bool true)) := by
  refine fn_intro Try.func55 rfl Try.ntmps55 (fun _ => Nat.le_of_ble_eq_true rfl) fun w0 => ?_
  repeat' first | refine zai rfl rfl ?_ | refine zaj rfl rfl rfl rfl ?_ | refine zaa rfl (zay rfl) ?_ | refine zaa rfl (zaz rfl) ?_ | (refine zac ?_; first | (refine zab rfl (zbf rfl rfl) ?_; intro c hc) | (refine zab rfl (zbh rfl rfl) ?_; intro c hc)) | refine zaa rfl (zca rfl rfl) ?_ | refine zaa rfl (zcb rfl rfl) ?_ | refine zah ?_ | (refine zcr ?_; refine zcs ?_) | (refine zdb ?_; first | refine zdc ?_ | refine zdd ?_ | refine zdg ?_) | cases c
  all_goals exact done_ret1B rfl () rfl rfl (by simp_all <;> omega) trivial (List.nil_sublist _)
theorem validCurve_yes {n : Nat} {P : Nat → CV} {f : Int → FV} (hn : 2 ≤ n ∧ n ≤ 8) (hP : (tabC n P).all finC = true) (hf : (tab n f).all aboveB = true) : Fn Try.prog 25 (fun w => [crvA w n P f]) (.raw (.bool true)) := by
  have hD := degree_fn n P f (by omega)
  have hI := isDegree_yes ((n : Int) - 1) (by omega)
  have hA := arePoints_fn (tabC n P) (by simp; omega)
  rw [hP] at hA
  have hM := areMore_fn (tab n f) (by simp; omega)
  rw [hf] at hM
  refine fn_intro Try.func25 rfl Try.ntmps25 (fun _ => Nat.le_of_ble_eq_true rfl) fun w0 => ?_
  repeat first | refine zai rfl rfl ?_ | refine zaa rfl (zay rfl) ?_ | refine zaa rfl (zaz rfl) ?_ | (refine zac ?_; refine zaa rfl (zbi rfl rfl) ?_) | (refine zad ?_; first | refine zaa rfl (opj_lenC rfl) ?_ | refine zaa rfl (zbo rfl) ?_ | (refine zaa rfl (zci rfl rfl (hI) ?_) ?_; (focus ((repeat (first | exact Takes.nil | refine Takes.sl ?_ | refine Takes.lit ?_ | refine Takes.fa ?_ | refine Takes.fc ?_ | refine Takes.net ?_ | (refine Takes.ownE ?_ ?_ ?_ ?_ ?_; (focus (exact ⟨_, _, (by (repeat (first | exact mh | refine mt ?_)); done)⟩)); (focus (simp; done)); (focus omega); (focus (simp only [maxLen]; omega))) | refine Takes.same ?_)); done)))) | (refine zae ?_; first | refine zaa rfl (zcf rfl rfl (by (repeat (first | exact mh | refine mt ?_)); done) rfl) ?_ | refine zaa rfl (zcg rfl rfl (by (repeat (first | exact mh | refine mt ?_)); done) rfl rfl) ?_) | refine zaa rfl (zcd rfl) ?_ | refine zaa rfl (zca rfl rfl) ?_ | refine zah ?_ | (refine zcr ?_; refine zcs ?_) | (refine zdb ?_; first | refine zdc ?_ | refine zdd ?_) | (refine zak rfl rfl rfl ?_; intro g) | refine zaa rfl (zci rfl rfl hD (Takes.crv Takes.nil)) ?_
  rw [show decide ((n : Int) = n) = true from decide_eq_true rfl]
  repeat first | refine zai rfl rfl ?_ | refine zaa rfl (zay rfl) ?_ | refine zaa rfl (zaz rfl) ?_ | (refine zad ?_; first | (refine zaa rfl (zci rfl rfl (hA) ?_) ?_; (focus ((repeat (first | exact Takes.nil | refine Takes.sl ?_ | refine Takes.lit ?_ | refine Takes.fa ?_ | refine Takes.fc ?_ | refine Takes.net ?_ | (refine Takes.ownE ?_ ?_ ?_ ?_ ?_; (focus (exact ⟨_, _, (by (repeat (first | exact mh | refine mt ?_)); done)⟩)); (focus (simp; done)); (focus omega); (focus (simp only [maxLen]; omega))) | refine Takes.same ?_)); done))) | (refine zaa rfl (zci rfl rfl (hM) ?_) ?_; (focus ((repeat (first | exact Takes.nil | refine Takes.sl ?_ | refine Takes.lit ?_ | refine Takes.fa ?_ | refine Takes.fc ?_ | refine Takes.net ?_ | (refine Takes.ownE ?_ ?_ ?_ ?_ ?_; (focus (exact ⟨_, _, (by (repeat (first | exact mh | refine mt ?_)); done)⟩)); (focus (simp; done)); (focus omega); (focus (simp only [maxLen]; omega))) | refine Takes.same ?_)); done)))) | (refine zae ?_; refine zaa rfl (zcf rfl rfl (by (repeat (first | exact mh | refine mt ?_)); done) rfl) ?_) | refine zaa rfl (zcd rfl) ?_ | refine zaa rfl (zca rfl rfl) ?_ | refine zah ?_ | (refine zcr ?_; refine zcs ?_) | (refine zdb ?_; refine zdg ?_)
  exact done_ret1 rfl () rfl trivial (List.nil_sublist _)
class CrvT (P : Program) (t : TypeId) : Prop where
  b2 : ∀ (w : World) (a b : Option Addr) (n c n' c' : Nat), (Instr.build t #[(0, .slice a n c), (1, .slice b n' c')]).run P w = .ok (.agg #[.slice a n c, .slice b n' c']) w
instance crvTi : CrvT Try.prog 27 := ⟨fun w a b n c n' c' => by kernel_rfl⟩
section
variable {P : Program} {S : World → Prop} {e : Env} {dst : Option Tmp} {ty : TypeId} {pos : String} {after : Array Edge} {guard : Option (Nat × Bool)} {t : TypeId}
theorem opj_buildV {X Y : Operand} {a b n c n' c' : _} [hb : CrvT P t] (hx : e.ev X = some (.raw (.slice a n c))) (hy : e.ev Y = some (.raw (.slice b n' c'))) :
    OpJ P S e ⟨dst, .build t #[(0, X), (1, Y)], ty, pos, after, guard⟩ (.agg [.raw (.slice a n c), .raw (.slice b n' c')]) :=
  opj_value fun ac w _ h => by
    have h1 := (h X (by simp [Op.operands]) _ hx).inv_raw
    have h2 := (h Y (by simp [Op.operands]) _ hy).inv_raw
    refine ⟨_, w, ?_, Ext.refl _, .agg (vs := [_, _]) (.cons .raw (.cons .raw .nil))⟩
    simp only [execOp, List.map_toArray, List.map_cons, List.map_nil, h1, h2, Sem.run_bind, hb.b2, Result.andThen_ok]
    rfl
end
end Go.Ab
namespace Go.Ab
open Go.Proofs
variable {R : World → Prop} [RStab R]
section
variable {P : Program} {t el : TypeId} {S : World → Prop} {N : Nat} {e : Env} {Q : Exit → Env → World → Prop} {ops : Array Oper} {l : List Oper} {dst : Option Tmp} {ty : TypeId} {pos : String} {after : Array Edge} {guard : Option (Nat × Bool)}
variable {w0 : World} {gs : List Nat} {H : List Ent}
theorem rs_lit0 {d : Tmp} {sz : Nat} {z : Value} {b : Nat} [hu : TyU P t (.slice el)] [hi : TyI P el z sz b] (hd : Nat.blt d N = true)
    (hk : ∀ g, RS P N ops l ((d, .raw (.slice (some ⟨g, 0, none⟩) 0 0)) :: e) (StR R w0 gs (⟨g, el, [], 0⟩ :: H)) Q) :
    RS P N ops (⟨some d, .buildSlice t 0 #[], ty, pos, after, none⟩ :: l) e (StR R w0 gs H) Q := by
  refine rs_fresh (val := fun g => .raw (.slice (some ⟨g, 0, none⟩) 0 0)) (en := fun g => ⟨g, el, [], 0⟩) hd (fun _ => rfl) (fun a w hS hF => ?_) hk
  obtain ⟨i, hi1, hz1, hs1, hb1⟩ := hi.h
  have hr0 : (Array.range 0) = (#[] : Array Nat) := rfl
  refine ⟨w.heap.size, .slice (some ⟨w.heap.size, 0, none⟩) 0 0, w.alloc (.cells #[] el), ?_, ev_raw _, Ext.alloc _ _, Nat.le_refl _, ?_⟩
  · simp [execOp, Instr.buildSlice, run_underlying hu.h, sizeOf, typeInfo, hi1, newRow, Instr.fill, hr0]
  · exact ext_alloc_own (w := w) (T := el) (xs := []) (cs := #[]) (fun k x hk => by simp at hk)
end
end Go.Ab
