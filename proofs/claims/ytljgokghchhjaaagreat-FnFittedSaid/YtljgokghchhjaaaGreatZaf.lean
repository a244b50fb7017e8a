/- Part 6 of the texts on which the law leans, joined: Drawn paths: how long they are, points at equal ways, normals. No conditions. -/
import Derived.KernelRfl
import Derived.Test.YtljgokghchhjaaaGreatZae
namespace Go.Ab
open Go.Proofs
variable {R : World → Prop} [RStab R]
abbrev By := Fin 256
def byA (x : By) : AV := .raw (.int .u8 (x.val : Int))
abbrev slB (w : World) (L : List By) : AV := AV.sl w 1 (L.map byA)
theorem open_slB {H : Type} {enc : TypeId × Value → H} {P : Program} {W : World} {t e : TypeId} {v : Value} {d : DataW H} {p : List MemPlace} {base b2 : Nat} {sp : Nat → Bool} {hd : Bool} [ht : TyU P t (.slice e)] [he : TyU P e (.int .u8)] (hc : P.cellsOf e = 1)
    (hval : Value.okWide P W .any b2 t v) (h : DataW.Trod enc P W base sp hd t v d p) : ∃ L : List By, Rel W (slB W L) v := by
  obtain ⟨L, hL⟩ := open_sl (m := byA) hc (fun n u y hy => by
    obtain ⟨b, hb, h1, h2⟩ := trod_int1 he.h hy
    have hmin : IntKind.u8.min = 0 := by decide
    have hmax : IntKind.u8.max = 255 := by decide
    rw [hmin] at h1
    rw [hmax] at h2
    obtain rfl : u = .int .u8 b := by simpa using hb
    refine ⟨⟨b.toNat, by omega⟩, ?_⟩
    have : (((⟨b.toNat, by omega⟩ : By).val : Nat) : Int) = b := by
      show ((b.toNat : Nat) : Int) = b
      omega
    unfold byA
    rw [this]
    exact fun _ => .raw) hval h
  exact ⟨L, .q hL⟩
section
variable {P : Program} {N : Nat} {S : World → Prop} {e : Env} {Q : Exit → Env → World → Prop} {ops : Array Oper} {l : List Oper}
variable {w0 w1 : World} {gs : List Nat} {H : List Ent} {dst : Option Tmp} {ty : TypeId} {pos : String} {after : Array Edge} {guard : Option (Nat × Bool)}
def KeepW (w1 w0 : World) (gs : List Nat) : Prop := Ext w1 w0 ∧ ∀ g ∈ gs, w1.heap.size ≤ g
theorem StR.extK {R0 : World → Prop} {w : World} (hk : KeepW w1 w0 gs) (h : StR R0 w0 gs H w) : Ext w1 w := by
  obtain ⟨h1, h2⟩ := hk
  refine ⟨h.mod.os.trans h1.os, h.mod.tape.trans h1.tape, h.mod.output.trans h1.output, Nat.le_trans h1.size h.mod.size, fun k hk => ?_⟩
  exact (h.mod.block k (Nat.lt_of_lt_of_le hk h1.size) (fun hm => by have := h2 k hm; omega)).trans (RowKit.Below.block h1 k hk)
theorem opj_lenK {R0 : World → Prop} {α : Type} {m : α → AV} {L : List α} {X : Operand} {t t2 : TypeId} {b : Nat} {z : Value} {el : TypeId} (hk : KeepW w1 w0 gs) [hu : TyU P t (.slice el)] [hi : TyI P el z 1 b] (hx : e.ev X = some (AV.sl w1 1 (L.map m))) :
    OpJ P (StR R0 w0 gs H) e ⟨dst, .call { callee := .builtin .len, args := #[X], argTypes := #[t] }, t2, pos, after, guard⟩ (.raw (.int .i64 (L.length : Int))) :=
  opj_value fun a w hS h => by
    have h1 := ((h X (by simp [Op.operands, Call.operands]) _ hx).inv_q : Rd w1 1 _ _).ext (hS.extK hk)
    obtain ⟨ad, len, cap, hv, hl, _, _, _⟩ := h1
    refine ⟨_, w, ?_, Ext.refl _, .raw⟩
    have : L.length = len := by simpa using hl
    rw [this]
    simp [execOp, resolve, invoke, builtin, Builtin.len_, run_underlying hu.h, hv, goInt]
theorem opj_indexK {R0 : World → Prop} {α : Type} [Inhabited α] {m : α → AV} {L : List α} {X I : Operand} {i : Int} {t : TypeId} {b : Nat} {z : Value} {el : TypeId} (hk : KeepW w1 w0 gs) [hu : TyU P t (.slice el)] [hi : TyI P el z 1 b]
    (hx : e.ev X = some (AV.sl w1 1 (L.map m))) (hI : e.ev I = some (.raw (.int .i64 i))) (h0 : 0 ≤ i) (hlt : i < (L.length : Int)) :
    OpJ P (StR R0 w0 gs H) e ⟨dst, .indexAddr t X I, ty, pos, after, guard⟩ (AV.ptr [m (L.getD i.toNat default)]) :=
  opj_value fun a w hS h => by
    have h1 := ((h X (by simp [Op.operands]) _ hx).inv_q : Rd w1 1 _ _).ext (hS.extK hk)
    have h2 := (h I (by simp [Op.operands]) _ hI).inv_raw
    obtain ⟨ad, len, cap, hv, hl, hc, hm, hr⟩ := h1
    have hlen : L.length = len := by simpa using hl
    have hget : (L.map m)[i.toNat]? = some (m (L.getD i.toNat default)) := by
      have hlt' : i.toNat < L.length := by omega
      simp [List.getD, hlt']
    obtain ⟨bb, hbb, hsp, u, hu', hev⟩ := hr _ _ hget
    subst hbb
    have hil' : i < (len : Int) := by omega
    refine ⟨_, w, ?_, Ext.refl _, .p (mono_ptrTo _) (?_ : PtrTo _ w (.pointer (some (bb.add (i.toNat * 1)))))⟩
    · simp [execOp, h2, hv, Instr.indexAt, asIntOf, run_underlying hu.h, run_size hi, h0, hil']
    · rw [addr_add bb hsp, Nat.mul_one]
      refine ⟨_, rfl, rfl, fun j x hj => ?_⟩
      cases j with
      | succ j => simp at hj
      | zero =>
        simp only [List.getElem?_cons_zero, Option.some.injEq] at hj
        subst hj
        exact ⟨u, hu', hev⟩
/-- What a predicate of the value alone tells. -/
theorem ws_q {c : Code} {t : Nat} {φ : Value → Prop} (h : e.look t = some (.q φ)) (hk : ∀ v, φ v → WS P N c ((t, .raw v) :: e) S Q) : WS P N c e S Q := fun a w hS hF => by
  obtain ⟨u, hu, hr⟩ := hF.rel t _ h
  refine hk u hr.inv_q a w hS ⟨hF.defers, hF.size, fun s v hs => ?_⟩
  simp only [Env.look] at hs
  cases hb : Nat.beq t s with
  | true =>
    have := Nat.eq_of_beq_eq_true hb
    subst this
    simp only [hb, Option.some.injEq] at hs
    subst hs
    exact ⟨u, hu, .raw⟩
  | false =>
    simp only [hb] at hs
    exact hF.rel s v hs
/-- What the state tells of no world. -/
theorem ws_fact {c : Code} {φ : Prop} (hφ : ∀ w, S w → φ) (h : φ → WS P N c e S Q) : WS P N c e S Q := fun a w hS hF => h (hφ w hS) a w hS hF
theorem own_new {R0 : World → Prop} {w : World} {en : Ent} (h : StR R0 w0 [] H w) (hm : en ∈ H) : w0.heap.size ≤ en.g := by
  rcases (h.own en hm).1 with h1 | h1
  · cases h1
  · exact h1
theorem opj_intW {op : BinOp} (hop : isArithI op = true) {t t' : TypeId} {X Y : Operand} {k : IntKind} {x y : Int} (hx : e.ev X = some (.raw (.int k x))) (hy : e.ev Y = some (.raw (.int k y))) :
    OpJ P S e ⟨dst, .binOp op t X Y t', ty, pos, after, guard⟩ (.raw (.int k (k.wrap (arithI op x y)))) :=
  opj_value fun a w _ h => by
    have h1 := (h X (by simp [Op.operands]) _ hx).inv_raw
    have h2 := (h Y (by simp [Op.operands]) _ hy).inv_raw
    refine ⟨_, w, ?_, Ext.refl _, .raw⟩
    cases op <;> first | (cases hop; done) | simp [execOp, h1, h2, eqGuard, binOp, Op.intArith, arithI]
theorem opj_mulW {t t' : TypeId} {X Y : Operand} {x y : Int} (hx : e.ev X = some (.raw (.int .u64 x))) (hy : e.ev Y = some (.raw (.int .u64 y))) :
    OpJ P S e ⟨dst, .binOp .mul t X Y t', ty, pos, after, guard⟩ (.raw (.int .u64 (IntKind.u64.wrap (x * y)))) := opj_intW (op := .mul) rfl hx hy
theorem opj_addW {t t' : TypeId} {X Y : Operand} {x y : Int} (hx : e.ev X = some (.raw (.int .u64 x))) (hy : e.ev Y = some (.raw (.int .u64 y))) :
    OpJ P S e ⟨dst, .binOp .add t X Y t', ty, pos, after, guard⟩ (.raw (.int .u64 (IntKind.u64.wrap (x + y)))) := opj_intW (op := .add) rfl hx hy
theorem opj_shrW {t t' : TypeId} {X Y : Operand} {x y : Int} (h0 : 0 ≤ y) (hx : e.ev X = some (.raw (.int .u64 x))) (hy : e.ev Y = some (.raw (.int .u64 y))) :
    OpJ P S e ⟨dst, .binOp .shr t X Y t', ty, pos, after, guard⟩ (.raw (.int .u64 (x.fdiv (2 ^ min y.toNat 64)))) :=
  opj_value fun a w _ h => by
    have h1 := (h X (by simp [Op.operands]) _ hx).inv_raw
    have h2 := (h Y (by simp [Op.operands]) _ hy).inv_raw
    have hb : IntKind.u64.bits = 64 := rfl
    have h3 : ¬ y < 0 := by omega
    exact ⟨_, w, by simp [execOp, h1, h2, eqGuard, binOp, Op.shift, h3, hb], Ext.refl _, .raw⟩
def andW (x y : Int) : Int := IntKind.u64.wrap ((BitVec.ofInt 64 x &&& BitVec.ofInt 64 y).toNat : Int)
theorem opj_andW {t t' : TypeId} {X Y : Operand} {x y : Int} (hx : e.ev X = some (.raw (.int .u64 x))) (hy : e.ev Y = some (.raw (.int .u64 y))) :
    OpJ P S e ⟨dst, .binOp .and t X Y t', ty, pos, after, guard⟩ (.raw (.int .u64 (andW x y))) :=
  opj_value fun a w _ h => by
    have h1 := (h X (by simp [Op.operands]) _ hx).inv_raw
    have h2 := (h Y (by simp [Op.operands]) _ hy).inv_raw
    refine ⟨_, w, ?_, Ext.refl _, .raw⟩
    have hr : (binOp .and t (.int .u64 x) (.int .u64 y)).run P w = .ok (.int .u64 (andW x y)) w := by
      have h3 : (Op.intBits .and .u64 x y).run P w = .ok (.int .u64 (andW x y)) w := rfl
      simpa [binOp] using h3
    simp [execOp, h1, h2, eqGuard, hr]
theorem andW_255 (x : Int) : 0 ≤ andW x 255 ∧ andW x 255 ≤ 255 := by
  unfold andW
  have h1 : (BitVec.ofInt 64 x &&& BitVec.ofInt 64 255).toNat ≤ 255 := by
    have e2 : (BitVec.ofInt 64 255).toNat = 2 ^ 8 - 1 := by decide
    rw [BitVec.toNat_and, e2, Nat.and_two_pow_sub_one_eq_mod]
    have := Nat.mod_lt (BitVec.ofInt 64 x).toNat (show 0 < 2 ^ 8 by decide)
    omega
  rw [IntWalk.u64_in _ (by omega)]
  omega
theorem opj_byte {src dt : TypeId} {X : Operand} {x : By} [hs : TyU P src (.int .u8)] [hd : TyU P dt (.int .i64)] (hx : e.ev X = some (byA x)) : OpJ P S e ⟨dst, .convert src dt X, ty, pos, after, guard⟩ (.raw (.int .i64 (x.val : Int))) := by
  have h := opj_iint (P := P) (S := S) (e := e) (dst := dst) (ty := ty) (pos := pos) (after := after) (guard := guard) (k0 := .u8) (k := .u8) (k' := .i64) (hs := hs) (hd := hd) hx
  rwa [IntWalk.i64_in _ (by have := x.isLt; omega)] at h
theorem opj_small {src dt : TypeId} {X : Operand} {k0 k : IntKind} {n : Int} [hs : TyU P src (.int k0)] [hd : TyU P dt (.int .i64)] (hx : e.ev X = some (.raw (.int k n))) (hn : -9223372036854775808 ≤ n ∧ n ≤ 9223372036854775807) : OpJ P S e ⟨dst, .convert src dt X, ty, pos, after, guard⟩ (.raw (.int .i64 n)) := by
  have h := opj_iint (P := P) (S := S) (e := e) (dst := dst) (ty := ty) (pos := pos) (after := after) (guard := guard) (k0 := k0) (k := k) (k' := .i64) (hs := hs) (hd := hd) hx
  rwa [IntWalk.i64_in _ hn] at h
end
theorem opj_and255 {P : Program} {S : World → Prop} {e : Env} {dst : Option Tmp} {ty : TypeId} {pos : String} {after : Array Edge} {guard : Option (Nat × Bool)} {src dt : TypeId} {X : Operand} {x : Int} [hs : TyU P src (.int .u64)] [hd : TyU P dt (.int .i64)] (hx : e.ev X = some (.raw (.int .u64 (andW x 255)))) : OpJ P S e ⟨dst, .convert src dt X, ty, pos, after, guard⟩ (.raw (.int .i64 (andW x 255))) :=
  opj_small (k0 := .u64) hx (by have := andW_255 x; omega)
class SrcT (P : Program) (t : TypeId) : Prop where
  b1 : ∀ (w : World) (a : Option Addr) (n c : Nat), (Instr.build t #[(0, .slice a n c)]).run P w = .ok (.agg #[.slice a n c, .int .i64 0, .int .u64 0]) w
instance srcTi : SrcT Tryz.prog 65 := ⟨fun w a n c => by kernel_rfl⟩
section
variable {P : Program} {S : World → Prop} {e : Env} {dst : Option Tmp} {ty : TypeId} {pos : String} {after : Array Edge} {guard : Option (Nat × Bool)}
theorem opj_buildSrc {t : TypeId} [hb : SrcT P t] {X : Operand} {w1 : World} {us : List AV} (hx : e.ev X = some (AV.sl w1 1 us)) : OpJ P S e ⟨dst, .build t #[(0, X)], ty, pos, after, guard⟩ (.agg [AV.sl w1 1 us, .raw (.int .i64 0), .raw (.int .u64 0)]) :=
  opj_value fun ac w _ h => by
    have h1 := (h X (by simp [Op.operands]) _ hx)
    obtain ⟨a, n, c, hv, hr⟩ := (h1.inv_q : Rd w1 1 _ _)
    refine ⟨.agg #[.slice a n c, .int .i64 0, .int .u64 0], w, ?_, Ext.refl _, .agg (vs := [.slice a n c, .int .i64 0, .int .u64 0]) (.cons (.q ⟨a, n, c, rfl, hr⟩) (.cons .raw (.cons .raw .nil)))⟩
    simp only [execOp, List.map_toArray, List.map_cons, List.map_nil, hv, Sem.run_bind, hb.b1, Result.andThen_ok]
    rfl
end
attribute [local irreducible] WS RS Done OpJ Then InBlock Round Ret Env.sub FnH
theorem b10Long_fn (L M : List By) : Fn Tryz.prog 4 (fun w => [slB w L, slB w M]) (.raw (.bool (decide ((1048576 : Int) < L.length) || decide ((1048576 : Int) < M.length)))) := by
  refine fn_intro Tryz.func4 rfl Tryz.ntmps4 (fun _ => Nat.le_of_ble_eq_true rfl) fun w0 => ?_
  repeat first | refine zaa rfl (zay rfl) ?_ | refine zaa rfl (zaz rfl) ?_ | (refine zac ?_; refine zaa rfl (zbg rfl rfl) ?_) | (refine zad ?_; refine zaa rfl (zbm rfl) ?_) | refine zah ?_ | (refine zcr ?_; refine zcs ?_) | (refine zdb ?_; first | refine zdc ?_ | refine zdd ?_)
  cases decide ((1048576 : Int) < L.length)
  all_goals
    repeat first | refine zai rfl rfl ?_ | refine zaj rfl rfl rfl rfl ?_ | refine zaa rfl (zay rfl) ?_ | refine zaa rfl (zaz rfl) ?_ | (refine zac ?_; refine zaa rfl (zbg rfl rfl) ?_) | (refine zad ?_; refine zaa rfl (zbm rfl) ?_) | refine zaa rfl (zca rfl rfl) ?_ | refine zaa rfl (zcb rfl rfl) ?_ | refine zah ?_ | (refine zcr ?_; refine zcs ?_) | (refine zdb ?_; refine zdg ?_)
    exact done_ret1 rfl () rfl trivial (List.nil_sublist _)
theorem b10At_fn (L : List By) (i n : Int) (hn : 2 ≤ n) (hi : 0 ≤ i ∧ i < 2 ^ 40) : FnH (X := Int) Tryz.prog 6 (fun w => [slB w L, .raw (.int .i64 i), .raw (.int .i64 n)]) [] (fun y => .raw (.int .i64 y)) (fun _ => []) (fun y => 0 ≤ y ∧ y < n) := by
  refine fn_intro Tryz.func6 rfl Tryz.ntmps6 (fun _ => Nat.le_of_ble_eq_true rfl) fun w0 => ?_
  repeat first | refine zaa rfl (zay rfl) ?_ | refine zaa rfl (zaz rfl) ?_ | (refine zac ?_; refine zaa rfl (zbf rfl rfl) ?_) | refine zah ?_ | (refine zcr ?_; refine zcs ?_) | (refine zdb ?_; first | refine zdc ?_ | refine zdd ?_)
  rw [decide_eq_false (show ¬ n ≤ 1 by omega)]
  repeat first | refine zaa rfl (zay rfl) ?_ | (refine zac ?_; refine zaa rfl (zbe rfl rfl) ?_) | (refine zad ?_; refine zaa rfl (zbm rfl) ?_) | refine zah ?_ | (refine zcr ?_; refine zcs ?_) | (refine zdb ?_; first | refine zdc ?_ | refine zdd ?_ | refine zdf ?_ | refine zdj rfl ?_)
  refine ws_cond rfl (fun hd => ?_) (fun hd => ?_)
  · have hlt := of_decide_eq_true hd
    have hby := (L.getD i.toNat default).isLt
    repeat first | refine zaa rfl (zay rfl) ?_ | refine zaa rfl (zaz rfl) ?_ | (refine zac ?_; refine zaa rfl (zcq rfl rfl (by omega) (by omega)) ?_) | (refine zae ?_; refine zaa rfl (zbu rfl rfl) ?_) | (refine zaf ?_; refine zaa rfl (zbv rfl rfl (by omega) (by omega)) ?_) | refine zah ?_ | (refine zcr ?_; first | refine zcs ?_ | refine zct ?_) | (refine zdb ?_; first | refine zdc ?_ | refine zdd ?_ | refine zdg ?_) | refine zaa rfl (opj_byte rfl) ?_
    exact done_ret1 rfl _ rfl ⟨Int.emod_nonneg _ (by omega), Int.emod_lt_of_pos _ (by omega)⟩ (List.nil_sublist _)
  · repeat first | refine zaa rfl (zay rfl) ?_ | refine zaa rfl (zaz rfl) ?_ | (refine zac ?_; first | refine zaa rfl (zbb rfl rfl (by omega)) ?_ | refine zaa rfl (opj_mul rfl rfl (by omega)) ?_ | refine zaa rfl (zcq rfl rfl (by omega) (by omega)) ?_) | refine zah ?_ | (refine zcr ?_; refine zcs ?_) | (refine zdb ?_; first | refine zdc ?_ | refine zdd ?_ | refine zdf ?_ | refine zdg ?_)
    exact done_ret1 rfl _ rfl ⟨Int.emod_nonneg _ (by omega), Int.emod_lt_of_pos _ (by omega)⟩ (List.nil_sublist _)
abbrev srcE (w1 : World) (g : Nat) (L : List By) (at_ seed : Int) : Ent := ⟨g, 65, [slB w1 L, .raw (.int .i64 at_), .raw (.int .u64 seed)], 3⟩
/-- The source's place, younger than a world of which no block has turned. -/
def srcP (w1 : World) (g : Nat) (w : World) : AV := .q fun v => v = .pointer (some ⟨g, 0, none⟩) ∧ Ext w1 w ∧ w1.heap.size ≤ g
theorem Takes.srcP {R0 : World → Prop} {w0 w1 : World} {gs : List Nat} {H : List Ent} {g : Nat} {args : List AV} {A : World → List AV} (hk : KeepW w1 w0 gs) (hg : w1.heap.size ≤ g) (h : Takes (StR R0 w0 gs H) args A) :
    Takes (StR R0 w0 gs H) (.raw (.pointer (some ⟨g, 0, none⟩)) :: args) (fun w => Go.Ab.srcP w1 g w :: A w) := fun w vs hS hr => by
  obtain ⟨v, r, rfl, hv, hr⟩ := hr.inv_cons
  rw [hv.inv_raw]
  exact .cons (.q ⟨rfl, hS.extK hk, hg⟩) (h w r hS hr)
theorem l00From_fn (w1 : World) (L : List By) : FnH (X := Nat) Tryz.prog 13 (fun _ => [slB w1 L]) [] (fun g => .raw (.pointer (some ⟨g, 0, none⟩))) (fun g => [srcE w1 g L 0 0]) (fun _ => True) := by
  refine fn_intro Tryz.func13 rfl Tryz.ntmps13 (fun _ => Nat.le_of_ble_eq_true rfl) fun w0 => ?_
  repeat first | refine zaa rfl (zay rfl) ?_ | refine zaa rfl (zaz rfl) ?_ | refine zah ?_ | (refine zcr ?_; refine zcs ?_) | (refine zdb ?_; first | refine zdc ?_ | refine zdd ?_ | refine zdg ?_) | (refine zak rfl rfl rfl ?_; intro g) | refine zaa rfl (opj_buildSrc rfl) ?_
  exact done_ret1 rfl g rfl trivial (List.Sublist.refl _)
/-- What a draw leaves. -/
structure Dr where
  r : Int
  at_ : Int
  seed : Int
theorem next_fn (w1 : World) (g : Nat) (L : List By) (at_ seed : Int) (hat : 0 ≤ at_ ∧ at_ < 2 ^ 40) (hL : L.length < 2 ^ 40) :
    FnH (X := Dr) Tryz.prog 33 (fun w => [srcP w1 g w]) [srcE w1 g L at_ seed] (fun y => .raw (.int .i64 y.r)) (fun y => [srcE w1 g L y.at_ y.seed]) (fun y => 0 ≤ y.r ∧ y.r ≤ 255 ∧ y.at_ = at_ + 1) := by
  refine fn_intro Tryz.func33 rfl Tryz.ntmps33 (fun _ => Nat.le_of_ble_eq_true rfl) fun w0 => ?_
  refine ws_q (t := 0) rfl fun v hv => ?_
  obtain ⟨rfl, hx, hg⟩ := hv
  have hk : KeepW w1 w0 [g] := ⟨hx, fun x hx => by simp at hx; omega⟩
  repeat first | refine zaa rfl (zaz rfl) ?_ | refine zah ?_ | (refine zcr ?_; refine zcs ?_) | (refine zdb ?_; first | refine zdc ?_ | refine zdd ?_)
  refine ws_draw (n := 10) mixed (by decide +kernel) ?_
  repeat first | refine zap rfl (zay rfl) ?_ | (refine zar ?_; refine zap rfl (zbe rfl rfl) ?_) | (refine zat ?_; refine zap rfl (zcf rfl rfl (by (repeat (first | exact mh | refine mt ?_)); done) rfl) ?_) | refine zap rfl (zcd rfl) ?_ | refine zav ?_ | refine zap rfl (opj_nilCheck rfl) ?_ | refine zap rfl (opj_lenK hk rfl) ?_
  repeat first | refine zah ?_ | (refine zcr ?_; refine zcs ?_)
  refine ws_thenJ (fun b : Int => [(0, .raw (.pointer (some ⟨g, 0, none⟩))), (3, .raw (.int .i64 b))]) (fun _ => St w0 [g] [srcE w1 g L at_ seed]) (fun b => 0 ≤ b ∧ b ≤ 255) (ws_cond rfl (fun hd => ?_) (fun hd => ?_)) (fun b hb => ?_)
  · have hlt := of_decide_eq_true hd
    have hby := (L.getD at_.toNat default).isLt
    skip
    refine ws_draw (n := 12) mixed (by decide +kernel) ?_
    repeat first | refine zap rfl (zay rfl) ?_ | refine zap rfl (zaz rfl) ?_ | (refine zat ?_; first | refine zap rfl (zcf rfl rfl (by (repeat (first | exact mh | refine mt ?_)); done) rfl) ?_ | refine zap rfl (zbu rfl rfl) ?_) | refine zap rfl (zcd rfl) ?_ | refine zav ?_ | refine zap rfl (opj_nilCheck rfl) ?_ | refine zap rfl (opj_indexK hk rfl rfl (by omega) (by omega)) ?_ | refine zap rfl (opj_byte rfl) ?_
    repeat (refine zah ?_)
    refine done_join ((L.getD at_.toNat default).val : Int) (by omega) ?_ (fun _ h => h)
    (repeat (first | exact Env.sub_nil _ | refine Env.sub_cons rfl ?_))
  · repeat ((refine zdb ?_; refine zdf ?_))
    refine done_join (0 : Int) (by omega) ?_ (fun _ h => h)
    (repeat (first | exact Env.sub_nil _ | refine Env.sub_cons rfl ?_))
  repeat first | refine zaa rfl (zay rfl) ?_ | (refine zac ?_; first | refine zaa rfl (zbb rfl rfl (by omega)) ?_ | refine zaa rfl (opj_mulW rfl rfl) ?_ | refine zaa rfl (opj_addW rfl rfl) ?_) | (refine zae ?_; refine zaa rfl (zcf rfl rfl (by (repeat (first | exact mh | refine mt ?_)); done) rfl) ?_) | refine zaa rfl (zcd rfl) ?_ | refine zah ?_ | (refine zcr ?_; refine zcs ?_) | (refine zdb ?_; first | refine zdc ?_ | refine zdd ?_) | (refine zag ?_; refine zam 0 rfl rfl rfl rfl rfl rfl ?_) | refine zaa rfl (opj_nilCheck rfl) ?_ | refine zaa rfl (opj_iint (k0 := .i64) (k' := .u64) rfl) ?_
  refine ws_draw (n := 10) mixed (by decide +kernel) ?_
  repeat first | refine zap rfl (zay rfl) ?_ | (refine zar ?_; refine zap rfl (zbf rfl rfl) ?_) | (refine zat ?_; refine zap rfl (zcf rfl rfl (by (repeat (first | exact mh | refine mt ?_)); done) rfl) ?_) | refine zap rfl (zcd rfl) ?_ | refine zav ?_ | refine zap rfl (opj_nilCheck rfl) ?_ | refine zap rfl (opj_lenK hk rfl) ?_
  repeat first | refine zah ?_ | (refine zcr ?_; refine zcs ?_)
  refine ws_cond rfl (fun hd => ?_) (fun hd => ?_)
  · repeat first | refine zaa rfl (zay rfl) ?_ | refine zaa rfl (zaz rfl) ?_ | refine zah ?_ | (refine zcr ?_; first | refine zcs ?_ | refine zct ?_) | (refine zdb ?_; first | refine zdc ?_ | refine zdd ?_ | refine zdg ?_)
    exact done_ret1 rfl (⟨b, at_ + 1, _⟩ : Dr) rfl ⟨hb.1, hb.2, rfl⟩ (List.Sublist.refl _)
  · repeat first | refine zaa rfl (zay rfl) ?_ | refine zaa rfl (zaz rfl) ?_ | (refine zac ?_; first | refine zaa rfl (opj_shrW (by omega) rfl rfl) ?_ | refine zaa rfl (opj_andW rfl rfl) ?_) | (refine zae ?_; refine zaa rfl (zcf rfl rfl (by (repeat (first | exact mh | refine mt ?_)); done) rfl) ?_) | refine zaa rfl (zcd rfl) ?_ | refine zah ?_ | (refine zcr ?_; refine zcs ?_) | (refine zdb ?_; first | refine zdc ?_ | refine zdd ?_ | refine zdf ?_ | refine zdg ?_) | refine zaa rfl (opj_nilCheck rfl) ?_ | refine zaa rfl (opj_and255 rfl) ?_
    exact done_ret1 rfl (⟨_, at_ + 1, _⟩ : Dr) rfl ⟨(andW_255 _).1, (andW_255 _).2, rfl⟩ (List.Sublist.refl _)
theorem pick_fn (w1 : World) (g : Nat) (L : List By) (at_ seed : Int) (n : Int) (hn : 2 ≤ n ∧ n ≤ 200) (hat : 0 ≤ at_ ∧ at_ < 2 ^ 40) (hL : L.length < 2 ^ 40) :
    FnH (X := Dr) Tryz.prog 14 (fun w => [srcP w1 g w, .raw (.int .i64 n)]) [srcE w1 g L at_ seed] (fun y => .raw (.int .i64 y.r)) (fun y => [srcE w1 g L y.at_ y.seed]) (fun y => 0 ≤ y.r ∧ y.r < n ∧ y.at_ = at_ + 1) := by
  have hnx := next_fn w1 g L at_ seed hat hL
  refine fn_intro Tryz.func14 rfl Tryz.ntmps14 (fun _ => Nat.le_of_ble_eq_true rfl) fun w0 => ?_
  refine ws_q (t := 0) rfl fun v hv => ?_
  obtain ⟨rfl, hx, hg⟩ := hv
  have hk : KeepW w1 w0 [g] := ⟨hx, fun x hx => by simp at hx; omega⟩
  repeat first | refine zaa rfl (zay rfl) ?_ | refine zaa rfl (zaz rfl) ?_ | (refine zac ?_; refine zaa rfl (zbf rfl rfl) ?_) | refine zah ?_ | (refine zcr ?_; refine zcs ?_) | (refine zdb ?_; first | refine zdc ?_ | refine zdd ?_)
  rw [decide_eq_false (show ¬ n ≤ 1 by omega)]
  repeat first | refine zaa rfl (zay rfl) ?_ | refine zaa rfl (zaz rfl) ?_ | (refine zac ?_; refine zaa rfl (zbg rfl rfl) ?_) | refine zah ?_ | (refine zcr ?_; refine zcs ?_) | (refine zdb ?_; first | refine zdc ?_ | refine zdd ?_ | refine zdf ?_ | refine zdj rfl ?_) | (refine rs_callAt 0 hnx rfl rfl rfl (Takes.srcP hk hg Takes.nil) rfl ?_; rintro ⟨r, a2, s2⟩ ⟨hr1, hr2, hr3⟩)
  rw [decide_eq_false (show ¬ (200 : Int) < n by omega)]
  simp only at hr1 hr2 hr3
  repeat first | refine zaa rfl (zay rfl) ?_ | refine zaa rfl (zaz rfl) ?_ | (refine zac ?_; refine zaa rfl (zcq rfl rfl (by omega) (by omega)) ?_) | refine zah ?_ | (refine zcr ?_; refine zcs ?_) | (refine zdb ?_; first | refine zdc ?_ | refine zdd ?_ | refine zdf ?_ | refine zdg ?_ | refine zdj rfl ?_)
  exact done_ret1 rfl (⟨_, a2, s2⟩ : Dr) rfl ⟨Int.emod_nonneg _ (by omega), Int.emod_lt_of_pos _ (by omega), hr3⟩ (List.Sublist.refl _)
theorem quarter_vl {x : Int} (h : -1000 ≤ x ∧ x ≤ 1000) : Vl .f32 (fbin .quo .f32 (some (FloatKind.f32.nearest x)) (fv .f32 1082130432)) ((x : Rat) / 4) := by
  have h1 : Vl .f32 (some (FloatKind.f32.nearest x)) (x : Rat) := vl_ofInt .f32 x (by have : FloatKind.f32.format.fractionBits = 23 := rfl; rw [this]; omega)
  refine div_ex h1 (Vl.c (q := 4) (by decide +kernel)) (by decide +kernel) (Rat.div_mul_cancel (by decide +kernel)) x 2 (by omega) (by decide) ?_
  rw [show ((2 ^ 2 : Nat) : Rat) = 4 from rfl]
  exact Rat.div_mul_cancel (by decide +kernel)
def minF (k : FloatKind) (x y : FV) : FV := x.bind fun a => y.bind fun b => match k.format.order a b with
  | none => none
  | some .lt => some a
  | some .gt => some b
  | some .eq => some (if (k.decode a).neg then a else b)
def maxF (k : FloatKind) (x y : FV) : FV := x.bind fun a => y.bind fun b => match k.format.order a b with
  | none => none
  | some .lt => some b
  | some .gt => some a
  | some .eq => some (if (k.decode a).neg then b else a)
theorem vl_order {k : FloatKind} {a b : Nat} {p q : Rat} (hx : Vl k (some a) p) (hy : Vl k (some b) q) : ∃ o, k.format.order a b = some o ∧ (o = .lt → p < q) ∧ (o = .gt → q < p) ∧ (o = .eq → p = q) := by
  obtain ⟨u, v, h, h1, h2⟩ := vl_cmp hx hy
  have h' : k.format.order a b = some (compare u v) := h
  refine ⟨_, h', fun ho => h1.2 (Int.compare_eq_lt.1 ho), fun ho => h2.2 (Int.compare_eq_gt.1 ho), fun ho => ?_⟩
  have huv : u = v := icmp ho
  exact Rat.le_antisymm (Rat.not_lt.1 fun h4 => by have := h2.1 h4; omega) (Rat.not_lt.1 fun h4 => by have := h1.1 h4; omega)
theorem vl_max {k : FloatKind} {x y : FV} {p q : Rat} (hx : Vl k x p) (hy : Vl k y q) : ∃ r, Vl k (maxF k x y) r ∧ p ≤ r ∧ q ≤ r ∧ (r = p ∨ r = q) := by
  obtain ⟨a, s, m, i, rfl, ha⟩ := hx
  obtain ⟨b, t, n, j, rfl, hb⟩ := hy
  have va : Vl k (some a) p := ⟨a, s, m, i, rfl, ha⟩
  have vb : Vl k (some b) q := ⟨b, t, n, j, rfl, hb⟩
  obtain ⟨o, h, h1, h2, h3⟩ := vl_order va vb
  simp only [maxF, Option.bind_some, h]
  cases o with
  | lt => exact ⟨q, vb, Rat.le_of_lt (h1 rfl), Rat.le_refl, .inr rfl⟩
  | gt => exact ⟨p, va, Rat.le_refl, Rat.le_of_lt (h2 rfl), .inl rfl⟩
  | eq =>
    have hpq := h3 rfl
    dsimp only
    split
    · exact ⟨q, vb, by rw [hpq]; exact Rat.le_refl, Rat.le_refl, .inr rfl⟩
    · exact ⟨p, va, Rat.le_refl, by rw [hpq]; exact Rat.le_refl, .inl rfl⟩
section
variable {P : Program} {S : World → Prop} {e : Env} {dst : Option Tmp} {ty : TypeId} {pos : String} {after : Array Edge} {guard : Option (Nat × Bool)}
theorem opj_minV {X Y : Operand} {k : FloatKind} {x y : FV} {p q : Rat} {ts : Array TypeId} (vx : Vl k x p) (vy : Vl k y q) (hx : e.ev X = some (.f k x)) (hy : e.ev Y = some (.f k y)) :
    OpJ P S e ⟨dst, .call { callee := .builtin .min, args := #[X, Y], argTypes := ts }, ty, pos, after, guard⟩ (.f k (minF k x y)) :=
  opj_value fun a w _ h => by
    obtain ⟨u, h1, e1, l1⟩ := (h X (by simp [Op.operands, Call.operands]) _ hx).inv_f
    obtain ⟨v, h2, e2, l2⟩ := (h Y (by simp [Op.operands, Call.operands]) _ hy).inv_f
    obtain ⟨a', s, m, i, rfl, ha, hq⟩ := vx
    obtain ⟨b', t, n, j, rfl, hb, hq'⟩ := vy
    obtain rfl := fv_inv e1
    obtain rfl := fv_inv e2
    obtain ⟨o, ho, _⟩ := vl_order (k := k) ⟨u, s, m, i, rfl, ha, hq⟩ ⟨v, t, n, j, rfl, hb, hq'⟩
    have hm : minF k (some u) (some v) = match o with
      | .lt => some u
      | .gt => some v
      | .eq => some (if (k.decode u).neg then u else v) := by
      simp only [minF, Option.bind_some, ho]
      cases o <;> rfl
    have hr : (Builtin.min_ ts ty #[.float k u, .float k v]).run P w = .ok (.float k (match o with
      | .lt => u
      | .gt => v
      | .eq => if (k.decode u).neg then u else v)) w := by
      simp only [Builtin.min_]
      cases o <;> simp [Builtin.min2, ho]
    rw [hm]
    cases o with
    | lt => exact ⟨_, w, by simp [execOp, resolve, invoke, builtin, h1, h2, hr], Ext.refl _, Rel.f' l1 e1⟩
    | gt => exact ⟨_, w, by simp [execOp, resolve, invoke, builtin, h1, h2, hr], Ext.refl _, Rel.f' l2 e2⟩
    | eq =>
      refine ⟨_, w, by simp only [execOp, resolve, invoke, builtin, List.map_toArray, List.map_cons, List.map_nil, h1, h2, Sem.run_bind, Sem.run_pure, Result.andThen_ok, hr]; rfl, Ext.refl _, ?_⟩
      dsimp only
      split
      · exact Rel.f' l1 e1
      · exact Rel.f' l2 e2
theorem opj_maxV {X Y : Operand} {k : FloatKind} {x y : FV} {p q : Rat} {ts : Array TypeId} (vx : Vl k x p) (vy : Vl k y q) (hx : e.ev X = some (.f k x)) (hy : e.ev Y = some (.f k y)) :
    OpJ P S e ⟨dst, .call { callee := .builtin .max, args := #[X, Y], argTypes := ts }, ty, pos, after, guard⟩ (.f k (maxF k x y)) :=
  opj_value fun a w _ h => by
    obtain ⟨u, h1, e1, l1⟩ := (h X (by simp [Op.operands, Call.operands]) _ hx).inv_f
    obtain ⟨v, h2, e2, l2⟩ := (h Y (by simp [Op.operands, Call.operands]) _ hy).inv_f
    obtain ⟨a', s, m, i, rfl, ha, hq⟩ := vx
    obtain ⟨b', t, n, j, rfl, hb, hq'⟩ := vy
    obtain rfl := fv_inv e1
    obtain rfl := fv_inv e2
    obtain ⟨o, ho, _⟩ := vl_order (k := k) ⟨u, s, m, i, rfl, ha, hq⟩ ⟨v, t, n, j, rfl, hb, hq'⟩
    have hm : maxF k (some u) (some v) = match o with
      | .lt => some v
      | .gt => some u
      | .eq => some (if (k.decode u).neg then v else u) := by
      simp only [maxF, Option.bind_some, ho]
      cases o <;> rfl
    have hr : (Builtin.max_ ts ty #[.float k u, .float k v]).run P w = .ok (.float k (match o with
      | .lt => v
      | .gt => u
      | .eq => if (k.decode u).neg then v else u)) w := by
      simp only [Builtin.max_]
      cases o <;> simp [Builtin.max2, ho]
    rw [hm]
    cases o with
    | lt => exact ⟨_, w, by simp [execOp, resolve, invoke, builtin, h1, h2, hr], Ext.refl _, Rel.f' l2 e2⟩
    | gt => exact ⟨_, w, by simp [execOp, resolve, invoke, builtin, h1, h2, hr], Ext.refl _, Rel.f' l1 e1⟩
    | eq =>
      refine ⟨_, w, by simp only [execOp, resolve, invoke, builtin, List.map_toArray, List.map_cons, List.map_nil, h1, h2, Sem.run_bind, Sem.run_pure, Result.andThen_ok, hr]; rfl, Ext.refl _, ?_⟩
      dsimp only
      split
      · exact Rel.f' l2 e2
      · exact Rel.f' l1 e1
end
end Go.Ab
namespace Go.Ab
open Go.Proofs
variable {R : World → Prop} [RStab R]
/-- So many quarters. -/
def qrt (a : Int) : FV := fbin .quo .f32 (some (FloatKind.f32.nearest a)) (fv .f32 1082130432)
theorem qrt_0 : qrt 0 = fv .f32 0 := by decide +kernel
theorem qrt_addX {A u : Int} (hA : 0 ≤ A ∧ A ≤ 48) (hu : 0 ≤ u ∧ u < 7) : fbin .add .f32 (qrt A) (qrt (2 + u)) = qrt (A + (2 + u)) := by
  have h : ((List.range 49).all fun A => (List.range 7).all fun u => decide (fbin .add .f32 (qrt (A : Int)) (qrt (2 + (u : Int))) = qrt ((A : Int) + (2 + (u : Int))))) = true := by decide +kernel
  have h1 := (List.all_eq_true.1 ((List.all_eq_true.1 h) A.toNat (by simp; omega))) u.toNat (by simp; omega)
  rw [show ((A.toNat : Nat) : Int) = A from by omega, show ((u.toNat : Nat) : Int) = u from by omega] at h1
  exact of_decide_eq_true h1
theorem qrt_addY {C v : Int} (hC : -24 ≤ C ∧ C ≤ 24) (hv : 0 ≤ v ∧ v < 9) : fbin .add .f32 (qrt C) (qrt (v - 4)) = qrt (C + (v - 4)) := by
  have h : ((List.range 49).all fun A => (List.range 9).all fun v => decide (fbin .add .f32 (qrt ((A : Int) - 24)) (qrt ((v : Int) - 4)) = qrt (((A : Int) - 24) + ((v : Int) - 4)))) = true := by decide +kernel
  have h1 := (List.all_eq_true.1 ((List.all_eq_true.1 h) (C + 24).toNat (by simp; omega))) v.toNat (by simp; omega)
  rw [show (((C + 24).toNat : Nat) : Int) - 24 = C from by omega, show ((v.toNat : Nat) : Int) = v from by omega] at h1
  exact of_decide_eq_true h1
structure Pth (n : Nat) (P : Nat → CV) (a c : Nat → Int) : Prop where
  vx : ∀ i, i < n → Vl .f32 (P i).1 ((a i : Rat) / 4)
  vy : ∀ i, i < n → Vl .f32 (P i).2 ((c i : Rat) / 4)
  st : ∀ i, i + 1 < n → (2 ≤ a (i + 1) - a i ∧ a (i + 1) - a i ≤ 8) ∧ (-4 ≤ c (i + 1) - c i ∧ c (i + 1) - c i ≤ 4)
  bd : ∀ i, i < n → (0 ≤ a i ∧ a i ≤ 48) ∧ (-24 ≤ c i ∧ c i ≤ 24)
  q : ∀ i, i < n → P i = (qrt (a i), qrt (c i))
/-- A path while it is drawn: what comes next. -/
structure Ph (n : Nat) where
  k : Nat
  g : Nat
  cap : Nat
  P : Nat → CV
  a : Nat → Int
  c : Nat → Int
  z : CV
  A : Int
  C : Int
  r : Dr
structure PhOk (n : Nat) (y : Ph n) : Prop where
  k : y.k ≤ n
  cap : y.k ≤ y.cap ∧ y.cap ≤ maxLen
  p : Pth y.k y.P y.a y.c
  zx : Vl .f32 y.z.1 ((y.A : Rat) / 4)
  zy : Vl .f32 y.z.2 ((y.C : Rat) / 4)
  b : (0 ≤ y.A ∧ y.A ≤ 8 * y.k) ∧ (-(4 * (y.k : Int)) ≤ y.C ∧ y.C ≤ 4 * y.k)
  last : 1 ≤ y.k → (2 ≤ y.A - y.a (y.k - 1) ∧ y.A - y.a (y.k - 1) ≤ 8) ∧ (-4 ≤ y.C - y.c (y.k - 1) ∧ y.C - y.c (y.k - 1) ≤ 4)
  dr : y.r.at_ = 2 * y.k
  zq : y.z = (qrt y.A, qrt y.C)
def putC {α : Type} (i : Nat) (x : α) (f : Nat → α) (t : Nat) : α := if t = i then x else f t
theorem putC_at {α : Type} (i : Nat) (x : α) (f : Nat → α) : putC i x f i = x := if_pos rfl
theorem putC_ne {α : Type} {i t : Nat} (x : α) (f : Nat → α) (h : t ≠ i) : putC i x f t = f t := if_neg h
/-- The next place of a part. -/
theorem next_q {x : FV} {A c : Int} (hx : Vl .f32 x ((A : Rat) / 4)) (h : -1000 ≤ A ∧ A ≤ 1000) (hc : -100 ≤ c ∧ c ≤ 100) : Vl .f32 (fbin .add .f32 x (fbin .quo .f32 (some (FloatKind.f32.nearest c)) (fv .f32 1082130432))) (((A + c : Int) : Rat) / 4) := by
  have m1 := quarter_vl (x := c) (by omega)
  have m2 := add_ex hx m1 (A + c) 2 (by omega) (by decide) (by rw [show ((2 ^ 2 : Nat) : Rat) = 4 from rfl, Rat.intCast_add A]; grind)
  have e : (A : Rat) / 4 + (c : Rat) / 4 = ((A + c : Int) : Rat) / 4 := by rw [Rat.intCast_add A]; grind
  rwa [e] at m2
def nextZ (z : CV) (u v : Int) : CV := (fbin .add .f32 z.1 (fbin .quo .f32 (some (FloatKind.f32.nearest (2 + u))) (fv .f32 1082130432)), fbin .add .f32 z.2 (fbin .quo .f32 (some (FloatKind.f32.nearest (v - 4))) (fv .f32 1082130432)))
theorem PhOk.step {n : Nat} {y : Ph n} (h : PhOk n y) (hk : y.k < n) (hn : n ≤ 7) {u v : Int} (hu : 0 ≤ u ∧ u < 7) (hv : 0 ≤ v ∧ v < 9) {g cap : Nat} (hc : y.k + 1 ≤ cap ∧ cap ≤ maxLen) {r : Dr} (hr : r.at_ = 2 * (y.k : Int) + 2) :
    PhOk n ⟨y.k + 1, g, cap, putC y.k y.z y.P, putC y.k y.A y.a, putC y.k y.C y.c, nextZ y.z u v, y.A + (2 + u), y.C + (v - 4), r⟩ := by
  obtain ⟨⟨b1, b2⟩, b3, b4⟩ := h.b
  refine ⟨hk, hc, ⟨fun i hi => ?_, fun i hi => ?_, fun i hi => ?_, fun i hi => ?_, fun i hi => ?_⟩, next_q h.zx (by omega) (by omega), next_q h.zy (by omega) (by omega), ?_, fun _ => ?_, ?_, ?_⟩
  · simp only at hi ⊢
    by_cases e : i = y.k
    · rw [e, putC_at, putC_at]; exact h.zx
    · rw [putC_ne _ _ e, putC_ne _ _ e]; exact h.p.vx i (by omega)
  · simp only at hi ⊢
    by_cases e : i = y.k
    · rw [e, putC_at, putC_at]; exact h.zy
    · rw [putC_ne _ _ e, putC_ne _ _ e]; exact h.p.vy i (by omega)
  · simp only at hi ⊢
    by_cases e : i + 1 = y.k
    · have := h.last (by omega)
      rw [show y.k - 1 = i from by omega] at this
      rw [← e, putC_at, putC_at, putC_ne _ _ (show i ≠ i + 1 by omega), putC_ne _ _ (show i ≠ i + 1 by omega)]
      exact this
    · rw [putC_ne _ _ (show i + 1 ≠ y.k by omega), putC_ne _ _ (show i + 1 ≠ y.k by omega), putC_ne _ _ (show i ≠ y.k by omega), putC_ne _ _ (show i ≠ y.k by omega)]
      exact h.p.st i (by omega)
  · simp only at hi ⊢
    by_cases e : i = y.k
    · rw [e, putC_at, putC_at]; have := h.b; omega
    · rw [putC_ne _ _ e, putC_ne _ _ e]; exact h.p.bd i (by omega)
  · simp only at hi ⊢
    by_cases e : i = y.k
    · rw [e, putC_at, putC_at, putC_at]; exact h.zq
    · rw [putC_ne _ _ e, putC_ne _ _ e, putC_ne _ _ e]; exact h.p.q i (by omega)
  · simp only; omega
  · simp only
    rw [show y.k + 1 - 1 = y.k from rfl, putC_at, putC_at]
    omega
  · simp only; omega
  · simp only
    unfold nextZ
    rw [h.zq]
    exact Prod.ext (qrt_addX (by omega) hu) (qrt_addY (by omega) hv)
attribute [local irreducible] WS RS Done OpJ Then InBlock Round Ret Env.sub FnH
attribute [local irreducible] tab tabC
set_option maxHeartbeats 4000000 in
theorem path_fn (L : List By) (n : Nat) (hn : n ≤ 7) (hL : L.length < 2 ^ 40) :
    FnH (X := Ph n) Tryz.prog 5 (fun w => [slB w L, .raw (.int .i64 n)]) [] (fun y => .raw (.slice (some ⟨y.g, 0, none⟩) n y.cap)) (fun y => [entC y.g n y.P y.cap]) (fun y => n ≤ y.cap ∧ y.cap ≤ maxLen ∧ Pth n y.P y.a y.c) := by
  refine fn_intro Tryz.func5 rfl Tryz.ntmps5 (fun _ => Nat.le_of_ble_eq_true rfl) fun w0 => ?_
  repeat first | refine zaa rfl (zay rfl) ?_ | refine zaa rfl (zaz rfl) ?_ | refine zah ?_ | (refine zcr ?_; refine zcs ?_) | (refine zdb ?_; first | refine zdc ?_ | refine zdd ?_ | refine zde ?_) | (refine rs_call1 (l00From_fn w0 L) rfl rfl (Takes.same Takes.nil) rfl ?_; rintro gs -) | (refine rs_litP rfl rfl rfl rfl rfl rfl ?_; intro g0)
  refine ws_fact (fun w hw => own_new (en := srcE w0 gs L 0 0) hw (mt mh)) fun hgs => ?_
  have hk : KeepW w0 w0 [] := ⟨Ext.refl _, fun x hx => by cases hx⟩
  refine ws_loop (ι := Ph n) (fun y => [(1, .raw (.int .i64 ((n : Int) - y.k))), (5, .raw (.pointer (some ⟨gs, 0, none⟩))), (6, .raw (.slice (some ⟨y.g, 0, none⟩) y.k y.cap)), (7, cA y.z)])
    (fun y => St w0 [] [entC y.g y.k y.P y.cap, srcE w0 gs L y.r.at_ y.r.seed]) (PhOk n) (fun y => n - y.k) ⟨0, g0, 0, fun _ => (none, none), fun _ => 0, fun _ => 0, (fv .f32 0, fv .f32 0), 0, 0, ⟨0, 0, 0⟩⟩
    ⟨Nat.zero_le _, ⟨Nat.le_refl _, Nat.zero_le _⟩, ⟨fun i hi => by simp only at hi; omega, fun i hi => by simp only at hi; omega, fun i hi => by simp only at hi; omega, fun i hi => by simp only at hi; omega, fun i hi => by simp only at hi; omega⟩, Vl.c (k := .f32) (b := 0) (q := ((0 : Int) : Rat) / 4) (by decide +kernel), Vl.c (k := .f32) (b := 0) (q := ((0 : Int) : Rat) / 4) (by decide +kernel), by simp only; omega, fun h => by simp only at h; omega, rfl, by simp only; rw [qrt_0]⟩ ?_ (fun _ h => ?_) (fun y hy => ?_)
  · rw [show (n : Int) - ((⟨0, g0, 0, fun _ => (none, none), fun _ => 0, fun _ => 0, (fv .f32 0, fv .f32 0), 0, 0, ⟨0, 0, 0⟩⟩ : Ph n).k : Int) = n from by simp]
    (repeat (first | exact Env.sub_nil _ | refine Env.sub_cons rfl ?_))
  · unfold entC tabC
    exact h
  have hcap := hy.cap
  have hyk := hy.k
  have hdr := hy.dr
  repeat first | refine zaa rfl (zay rfl) ?_ | (refine zac ?_; refine zaa rfl (zbg rfl rfl) ?_) | refine zah ?_ | (refine zcr ?_; refine zcs ?_) | (refine zdb ?_; first | refine zdc ?_ | refine zdd ?_)
  refine ws_cond rfl (fun hd => ?_) (fun hd => ?_)
  · have hlt := of_decide_eq_true hd
    clear hd
    have hp1 := pick_fn w0 gs L y.r.at_ y.r.seed 7 (by omega) (by omega) hL
    repeat first | refine zaa rfl (zay rfl) ?_ | (refine zcr ?_; refine zcs ?_) | (refine zdb ?_; first | refine zdc ?_ | refine zdd ?_ | refine zde ?_ | refine zdf ?_) | refine zaa rfl (zco rfl rfl rfl rfl rfl rfl) ?_
    refine rs_appendC 0 (putC y.k y.z y.P) rfl rfl rfl rfl hcap (by omega) rfl rfl (putC_at _ _ _) (fun s h => putC_ne _ _ (by omega)) fun g3 c3 h3 h3' => ?_
    repeat first | refine zaa rfl (zay rfl) ?_ | refine zaa rfl (zaz rfl) ?_ | (refine zac ?_; first | refine zaa rfl (zba rfl rfl rfl) ?_ | refine zaa rfl (zbb (x := 2) (y := r2) rfl rfl (by omega)) ?_) | refine zaa rfl (zby rfl) ?_ | refine zah ?_ | (refine zcr ?_; refine zcs ?_) | (refine zdb ?_; first | refine zdc ?_ | refine zdd ?_) | (refine rs_callAt 1 hp1 rfl rfl rfl (Takes.srcP hk hgs (Takes.same Takes.nil)) rfl ?_; rintro ⟨r2, a2, s2⟩ ⟨hr1, hr2, hr3⟩; simp only at hr1 hr2 hr3)
    have hp2 := pick_fn w0 gs L a2 s2 9 (by omega) (by omega) hL
    repeat first | refine zaa rfl (zay rfl) ?_ | refine zaa rfl (zaz rfl) ?_ | (refine zac ?_; first | refine zaa rfl (zba rfl rfl rfl) ?_ | refine zaa rfl (zbc rfl rfl (by omega)) ?_ | refine zaa rfl (zbc (x := r4) (y := 4) rfl rfl (by omega)) ?_ | refine zaa rfl (opj_cadd rfl rfl) ?_) | (refine zad ?_; refine zaa rfl (zbr rfl rfl) ?_) | refine zaa rfl (zby rfl) ?_ | refine zah ?_ | (refine zcr ?_; first | refine zcs ?_ | refine zcv ?_) | (refine zdb ?_; refine zdd ?_) | (refine rs_callAt 1 hp2 rfl rfl rfl (Takes.srcP hk hgs (Takes.same Takes.nil)) rfl ?_; rintro ⟨r4, a4, s4⟩ ⟨hr5, hr6, hr7⟩; simp only at hr5 hr6 hr7)
    refine done_round _ (hy.step (by omega) hn ⟨hr1, hr2⟩ ⟨hr5, hr6⟩ (g := g3) (cap := c3) ⟨h3, h3'⟩ (r := ⟨r4, a4, s4⟩) (by simp only; omega)) (by simp only; omega) ?_ (fun _ h => h)
    simp only
    rw [show (n : Int) - ((y.k + 1 : Nat) : Int) = (n : Int) - y.k - 1 from by omega]
    (repeat (first | exact Env.sub_nil _ | refine Env.sub_cons rfl ?_))
  · have hge : ¬ (0 : Int) < (n : Int) - y.k := of_decide_eq_false hd
    obtain ⟨k, g, cap, P, a, c, z, A, C, r⟩ := y
    simp only at hge hyk hcap
    obtain rfl : k = n := by omega
    repeat first | refine zaa rfl (zay rfl) ?_ | refine zaa rfl (zaz rfl) ?_ | refine zah ?_ | (refine zcr ?_; first | refine zcs ?_ | refine zcu ?_ | refine zcx ?_ | refine zda ?_) | (refine zdb ?_; first | refine zdc ?_ | refine zdd ?_ | refine zdg ?_ | refine zdh ?_)
    exact done_ret1 rfl (⟨k, g, cap, P, a, c, z, A, C, r⟩ : Ph k) rfl ⟨hcap.1, hcap.2, hy.p⟩ (List.Sublist.cons_cons _ (List.nil_sublist _))
end Go.Ab
namespace Go.Ab
open Go.Proofs
theorem finC_of {p : CV} {x y : Rat} (hx : Vl .f32 p.1 x) (hy : Vl .f32 p.2 y) : finC p = true := by
  have h1 : finB p.1 = true := vl_fin hx
  have h2 : finB p.2 = true := vl_fin hy
  unfold finC
  rw [h1, h2]
  rfl
theorem tabC_fin {n : Nat} {f : Nat → CV} (h : ∀ i, i < n → finC (f i) = true) : (tabC n f).all finC = true := by
  rw [List.all_eq_true]
  intro p hp
  unfold tabC at hp
  rw [List.mem_map] at hp
  obtain ⟨i, hi, rfl⟩ := hp
  exact h i (by simpa using hi)
theorem fitk {q : Rat} (h1 : -1000 ≤ q) (h2 : q ≤ 1000) : Fit .f32 q := by
  have : (1000 : Rat) < p2 (ftop .f32) := by decide +kernel
  constructor <;> grind
/-- Sums of lengths. -/
def su (l : Nat → Rat) : Nat → Rat
  | 0 => 0
  | n + 1 => su l n + l n
section
variable {n : Nat} {P : Nat → CV} {a c : Nat → Int}
def pX (a : Nat → Int) (i : Nat) : Rat := (a i : Rat) / 4
theorem Pth.bdx (h : Pth n P a c) (hn : n ≤ 7) {i : Nat} (hi : i < n) : (0 ≤ pX a i ∧ pX a i ≤ 12) ∧ (-6 ≤ pX c i ∧ pX c i ≤ 6) := by
  obtain ⟨⟨b1, b2⟩, b3, b4⟩ := h.bd i hi
  have e1 : ((0 : Int) : Rat) ≤ (a i : Rat) := Rat.intCast_le_intCast.2 b1
  have e2 : (a i : Rat) ≤ ((48 : Int) : Rat) := Rat.intCast_le_intCast.2 (by omega)
  have e3 : ((-24 : Int) : Rat) ≤ (c i : Rat) := Rat.intCast_le_intCast.2 (by omega)
  have e4 : (c i : Rat) ≤ ((24 : Int) : Rat) := Rat.intCast_le_intCast.2 (by omega)
  rw [show ((0 : Int) : Rat) = 0 from rfl] at e1
  rw [show ((48 : Int) : Rat) = 48 from rfl] at e2
  rw [show ((-24 : Int) : Rat) = -24 from rfl] at e3
  rw [show ((24 : Int) : Rat) = 24 from rfl] at e4
  unfold pX
  constructor <;> constructor <;> grind
/-- A step: exact. -/
theorem Pth.step_vl (h : Pth n P a c) {i : Nat} (hi : i + 1 < n) (hn : n ≤ 7) : Vl .f32 (subC2 (P (i + 1)) (P i)).1 (pX a (i + 1) - pX a i) ∧ Vl .f32 (subC2 (P (i + 1)) (P i)).2 (pX c (i + 1) - pX c i) ∧
    (1 / 2 ≤ pX a (i + 1) - pX a i ∧ pX a (i + 1) - pX a i ≤ 2) ∧ (-1 ≤ pX c (i + 1) - pX c i ∧ pX c (i + 1) - pX c i ≤ 1) := by
  obtain ⟨⟨s1, s2⟩, s3, s4⟩ := h.st i hi
  have c4 : ((2 ^ 2 : Nat) : Rat) = 4 := rfl
  have m1 := sub_ex (h.vx (i + 1) hi) (h.vx i (by omega)) (a (i + 1) - a i) 2 (by omega) (by decide) (by rw [c4, Rat.intCast_sub]; grind)
  have m2 := sub_ex (h.vy (i + 1) hi) (h.vy i (by omega)) (c (i + 1) - c i) 2 (by omega) (by decide) (by rw [c4, Rat.intCast_sub]; grind)
  have e1 : ((2 : Int) : Rat) ≤ ((a (i + 1) - a i : Int) : Rat) := Rat.intCast_le_intCast.2 s1
  have e2 : ((a (i + 1) - a i : Int) : Rat) ≤ ((8 : Int) : Rat) := Rat.intCast_le_intCast.2 s2
  have e3 : ((-4 : Int) : Rat) ≤ ((c (i + 1) - c i : Int) : Rat) := Rat.intCast_le_intCast.2 s3
  have e4 : ((c (i + 1) - c i : Int) : Rat) ≤ ((4 : Int) : Rat) := Rat.intCast_le_intCast.2 s4
  rw [Rat.intCast_sub] at e1 e2 e3 e4
  rw [show ((2 : Int) : Rat) = 2 from rfl] at e1
  rw [show ((8 : Int) : Rat) = 8 from rfl] at e2
  rw [show ((-4 : Int) : Rat) = -4 from rfl] at e3
  rw [show ((4 : Int) : Rat) = 4 from rfl] at e4
  refine ⟨m1, m2, ?_, ?_⟩
  · unfold pX; constructor <;> grind
  · unfold pX; constructor <;> grind
/-- The length of a step. -/
theorem Pth.len (h : Pth n P a c) {i : Nat} (hi : i + 1 < n) (hn : n ≤ 7) : LongOk (subC2 (P (i + 1)) (P i)) ∧ ∃ l, Vl .f32 (lngF P i) l ∧ 49 / 100 ≤ l ∧ l ≤ 23 / 10 ∧ Le2 (pX a (i + 1) - pX a i) (pX c (i + 1) - pX c i) (l * (1 + 1 / 500000)) := by
  obtain ⟨vx, vy, ⟨x1, x2⟩, y1, y2⟩ := h.step_vl hi hn
  generalize pX a (i + 1) - pX a i = x at *
  generalize pX c (i + 1) - pX c i = y at *
  have hxx : 1 / 4 ≤ x * x := by
    have := Rat.mul_nonneg (show 0 ≤ x - 1 / 2 by grind) (show 0 ≤ x - 1 / 2 by grind)
    grind
  have hx4 := (mul_bnd (p := x) (q := x) (a := 2) (b := 2) (by grind) x2 (by grind) x2).2
  have hy1 := (mul_bnd (p := y) (q := y) (a := 1) (b := 1) y1 y2 y1 y2).2
  have hyy := sqr_nonneg y
  have up : Le2 x y (2237 / 1000) := ⟨by decide +kernel, by grind⟩
  obtain ⟨l, vl1, hc, l0, lu⟩ := long_up vx vy up (by decide +kernel)
  have lo := long_lo vx vy (by constructor <;> grind) (by constructor <;> grind) (B := 1 / 2) (by decide +kernel) (by grind) vl1
  have e30 : (1000 : Rat) ≤ p2 30 := by decide +kernel
  obtain ⟨l', vl2, _, _, _, hrel⟩ := vl_long vx vy (by constructor <;> grind) (by constructor <;> grind)
  obtain rfl := Vl.unique vl1 vl2
  have e90 : p2 (-90) ≤ 1 / 4 := by decide +kernel
  have e20 : p2 (-20) ≤ 1 / 1000000 := by decide +kernel
  have h1 := (hrel (by grind)).1
  have ll := sqr_nonneg l
  have h2 := Rat.mul_le_mul_of_nonneg_left e20 ll
  exact ⟨hc, l, vl1, by grind, by grind, by grind, by grind⟩
/-- The value of a number. -/
def ratL (x : FV) : Rat := match x with
  | some b => match FloatKind.f32.decode b with
    | .number s m e => vl s m e
    | _ => 0
  | none => 0
theorem ratL_eq {x : FV} {q : Rat} (h : Vl .f32 x q) : ratL x = q := by
  obtain ⟨b, s, m, e, rfl, hd, rfl⟩ := h
  simp only [ratL, hd]
/-- All of a path's lengths. -/
structure Lth (n : Nat) (P : Nat → CV) (a c : Nat → Int) (l : Nat → Rat) : Prop where
  ok : ∀ i, i + 1 < n → LongOk (subC2 (P (i + 1)) (P i))
  v : ∀ i, i + 1 < n → Vl .f32 (lngF P i) (l i)
  b : ∀ i, i + 1 < n → 49 / 100 ≤ l i ∧ l i ≤ 23 / 10
  le : ∀ i, i + 1 < n → Le2 (pX a (i + 1) - pX a i) (pX c (i + 1) - pX c i) (l i * (1 + 1 / 500000))
theorem Pth.lens (h : Pth n P a c) (hn : n ≤ 7) : ∃ l, Lth n P a c l := by
  refine ⟨fun i => ratL (lngF P i), ⟨fun i hi => (h.len hi hn).1, fun i hi => ?_, fun i hi => ?_, fun i hi => ?_⟩⟩
  all_goals
    obtain ⟨_, l, v, l1, l2, l3⟩ := h.len hi hn
    have e : ratL (lngF P i) = l := ratL_eq v
    simp only [e]
  · exact v
  · exact ⟨l1, l2⟩
  · exact l3
end
end Go.Ab
namespace Go.Ab
open Go.Proofs
section
variable {n : Nat} {P : Nat → CV} {a c : Nat → Int} {l : Nat → Rat}
theorem sumF_succ (f : Int → FV) (j : Nat) : sumF (tab (j + 1) f) = fbin .add .f32 (sumF (tab j f)) (f j) := by
  unfold sumF
  have : tab (j + 1) f = tab j f ++ [f j] := by
    unfold tab
    rw [List.range_succ, List.map_append]
    rfl
  rw [this, List.foldl_append]
  rfl
theorem su_bd {m : Nat} (hl : ∀ i, i < m → 49 / 100 ≤ l i ∧ l i ≤ 23 / 10) : ∀ j, j ≤ m → 49 / 100 * (j : Rat) ≤ su l j ∧ su l j ≤ 23 / 10 * (j : Rat)
  | 0, _ => by rw [su]; decide +kernel
  | j + 1, hj => by
    have h1 := su_bd hl j (by omega)
    have h2 := hl j (by omega)
    have e : ((j + 1 : Nat) : Rat) = (j : Rat) + 1 := Rat.natCast_add j 1
    rw [su, e]
    constructor <;> grind
theorem natLe {i j : Nat} (h : i ≤ j) : (i : Rat) ≤ (j : Rat) := Rat.natCast_le_natCast.2 h
theorem Lth.sum (h : Lth n P a c l) (hn : n ≤ 7) : ∀ j, j + 1 ≤ n → ∃ A, Vl .f32 (sumF (tab j (lngF P))) A ∧ -((j : Rat) / 500000) ≤ A - su l j ∧ A - su l j ≤ (j : Rat) / 500000
  | 0, _ => ⟨0, Vl.c (k := .f32) (b := 0) (q := 0) (by decide +kernel), by rw [su]; decide +kernel, by rw [su]; decide +kernel⟩
  | j + 1, hj => by
    obtain ⟨A, vA, a1, a2⟩ := h.sum hn j (by omega)
    have hs := su_bd (l := l) (m := j) (fun i hi => h.b i (by omega)) j (Nat.le_refl _)
    have hb := h.b j hj
    have j5 : (j : Rat) ≤ 5 := natLe (j := 5) (by omega)
    have j0 : (0 : Rat) ≤ (j : Rat) := Rat.natCast_nonneg
    obtain ⟨r, vr, rr⟩ := vl_add vA (h.v j hj) (fitk (by grind) (by grind))
    have nr := rnd_abs rr 14 (by grind) (by grind)
    have e : ((j + 1 : Nat) : Rat) = (j : Rat) + 1 := Rat.natCast_add j 1
    refine ⟨r, ?_, ?_, ?_⟩
    · rw [sumF_succ]; exact vr
    · rw [su, e]; grind
    · rw [su, e]; grind
end
end Go.Ab
namespace Go.Ab
open Go.Proofs
section
variable {n : Nat} {P : Nat → CV} {a c : Nat → Int} {l : Nat → Rat}
theorem Pth.fin (h : Pth n P a c) : (tabC n P).all finC = true := tabC_fin fun i hi => finC_of (h.vx i hi) (h.vy i hi)
theorem Lth.nz (h : Lth n P a c l) (hn : 2 ≤ n) : ∀ i : Int, 0 ≤ i → i < (n - 1 : Nat) → cmpB .eql (fcmp .f32 (fv .f32 0) (lngF P i)) = false := fun i h0 h1 => by
  obtain ⟨j, rfl⟩ : ∃ j : Nat, i = (j : Int) := ⟨i.toNat, by omega⟩
  have hb := h.b j (by omega)
  rw [vl_eql (Vl.c (k := .f32) (b := 0) (q := 0) (by decide +kernel)) (h.v j (by omega))]
  exact decide_eq_false (by grind)
end
end Go.Ab
