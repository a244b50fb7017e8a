/- Further operations in a frame that is known: floats to whole numbers, signs, complex numbers, closures, results of three. No conditions. -/
import Derived.Test.YtljgokghchhjaaaSameN
import Derived.Test.YtljgokghchhjaaaRw
import Derived.Test.YtljgokghchhjaaaApp
import Derived.OwnWalk
namespace Go.Ab
variable {R : World → Prop} [RStab R]
section
variable {P : Program} {N : Nat} {S : World → Prop} {e : Env} {Q : Exit → Env → World → Prop} {ops : Array Oper} {l : List Oper}
variable {w0 : World} {gs : List Nat} {H : List Ent} {dst : Option Tmp} {ty : TypeId} {pos : String} {after : Array Edge} {guard : Option (Nat × Bool)}
theorem opj_f2i {src dt : TypeId} {X : Operand} {x : FV} {n : Int} [hs : TyU P src (.float .f64)] [hd : TyU P dt (.int .i64)] (hx : e.ev X = some (.f .f64 x)) (hn : ∃ b, x = some b ∧ (FloatKind.f64.decode b).toInt .zero = some n) (hr : -9223372036854775808 ≤ n ∧ n ≤ 9223372036854775807) :
    OpJ P S e ⟨dst, .convert src dt X, ty, pos, after, guard⟩ (.raw (.int .i64 n)) :=
  opj_value fun a w _ h => by
    obtain ⟨b', h1, e1, _⟩ := (h X (by simp [Op.operands]) _ hx).inv_f
    obtain ⟨b, hb, ht⟩ := hn
    rw [hb] at e1
    obtain rfl := fv_inv e1
    refine ⟨_, w, ?_, Ext.refl _, .raw⟩
    have hmin : IntKind.i64.min = -9223372036854775808 := by decide
    have hmax : IntKind.i64.max = 9223372036854775807 := by decide
    simp [execOp, h1, convert, run_underlying hs.h, run_underlying hd.h, Conv.floatToInt, ht, hmin, hmax, hr.1, hr.2]
theorem opj_neg {t : TypeId} {X : Operand} {k : FloatKind} {x : FV} (hx : e.ev X = some (.f k x)) : OpJ P S e ⟨dst, .unOp .neg t X, ty, pos, after, guard⟩ (.f k (fneg k x)) :=
  opj_value fun a w _ h => by
    obtain ⟨b, h1, e1, hb⟩ := (h X (by simp [Op.operands]) _ hx).inv_f
    refine ⟨.float k (negBits k b), w, ?_, Ext.refl _, Rel.f' (negBits_lt k hb) (by rw [fv_negBits, e1])⟩
    simp [execOp, h1, Op.unary, Op.negFloat, negBits]
theorem opj_caddsub {op : BinOp} (hop : op = .add ∨ op = .sub) {t t' : TypeId} {X Y : Operand} {k : FloatKind} {x y x' y' : FV} (hx : e.ev X = some (.c k x y)) (hy : e.ev Y = some (.c k x' y')) :
    OpJ P S e ⟨dst, .binOp op t X Y t', ty, pos, after, guard⟩ (.c k (fbin op k x x') (fbin op k y y')) :=
  opj_value fun a w _ h => by
    obtain ⟨p, q, h1, e1, e2, hp, hq⟩ := (h X (by simp [Op.operands]) _ hx).inv_c
    obtain ⟨p', q', h2, e1', e2', hp', hq'⟩ := (h Y (by simp [Op.operands]) _ hy).inv_c
    have ha : isArith op = true := by rcases hop with rfl | rfl <;> rfl
    obtain ⟨r, w1, hr, hq1, hv, hl⟩ := run_farith P w op ha k p p'
    obtain ⟨r2, w2, hr2, hq2, hv2, hl2⟩ := run_farith P w1 op ha k q q'
    refine ⟨.complex k r r2, w2, ?_, (Ext.of_quiet hq1).trans (Ext.of_quiet hq2), Rel.c' hl hl2 (by rw [hv, e1, e1']) (by rw [hv2, e2, e2'])⟩
    rcases hop with rfl | rfl <;> simp [execOp, h1, h2, eqGuard, binOp, Op.complexOp, Op.Complex.arith, hr, hr2]
theorem opj_cadd {t t' : TypeId} {X Y : Operand} {k : FloatKind} {x y x' y' : FV} (hx : e.ev X = some (.c k x y)) (hy : e.ev Y = some (.c k x' y')) :
    OpJ P S e ⟨dst, .binOp .add t X Y t', ty, pos, after, guard⟩ (.c k (fbin .add k x x') (fbin .add k y y')) := opj_caddsub (.inl rfl) hx hy
theorem opj_csub {t t' : TypeId} {X Y : Operand} {k : FloatKind} {x y x' y' : FV} (hx : e.ev X = some (.c k x y)) (hy : e.ev Y = some (.c k x' y')) :
    OpJ P S e ⟨dst, .binOp .sub t X Y t', ty, pos, after, guard⟩ (.c k (fbin .sub k x x') (fbin .sub k y y')) := opj_caddsub (.inr rfl) hx hy
theorem run_ccmp (w : World) (k : FloatKind) (a b : Nat) : (Op.Complex.cmp .eql k a b).run P w = .ok (cmpB .eql (fcmp k (fv k a) (fv k b))) w := by
  rw [fcmp_fv]
  simp [Op.Complex.cmp, Op.floatCmp, asBool, cmpB]
theorem opj_ceql {t t' : TypeId} {X Y : Operand} {k : FloatKind} {x y x' y' : FV} (hx : e.ev X = some (.c k x y)) (hy : e.ev Y = some (.c k x' y')) :
    OpJ P S e ⟨dst, .binOp .eql t X Y t', ty, pos, after, guard⟩ (.raw (.bool (cmpB .eql (fcmp k x x') && cmpB .eql (fcmp k y y')))) :=
  opj_value fun a w _ h => by
    obtain ⟨p, q, h1, e1, e2, hp, hq⟩ := (h X (by simp [Op.operands]) _ hx).inv_c
    obtain ⟨p', q', h2, e1', e2', hp', hq'⟩ := (h Y (by simp [Op.operands]) _ hy).inv_c
    refine ⟨_, w, ?_, Ext.refl _, .raw⟩
    rw [← e1, ← e2, ← e1', ← e2']
    cases hc : cmpB .eql (fcmp k (fv k p) (fv k p')) <;> simp [execOp, h1, h2, eqGuard, binOp, Op.complexOp, run_ccmp, hc]
theorem opj_cneq {t t' : TypeId} {X Y : Operand} {k : FloatKind} {x y x' y' : FV} (hx : e.ev X = some (.c k x y)) (hy : e.ev Y = some (.c k x' y')) :
    OpJ P S e ⟨dst, .binOp .neq t X Y t', ty, pos, after, guard⟩ (.raw (.bool (!(cmpB .eql (fcmp k x x') && cmpB .eql (fcmp k y y'))))) :=
  opj_value fun a w _ h => by
    obtain ⟨p, q, h1, e1, e2, hp, hq⟩ := (h X (by simp [Op.operands]) _ hx).inv_c
    obtain ⟨p', q', h2, e1', e2', hp', hq'⟩ := (h Y (by simp [Op.operands]) _ hy).inv_c
    refine ⟨_, w, ?_, Ext.refl _, .raw⟩
    rw [← e1, ← e2, ← e1', ← e2']
    cases hc : cmpB .eql (fcmp k (fv k p) (fv k p')) <;> simp [execOp, h1, h2, eqGuard, binOp, Op.complexOp, run_ccmp, hc]
theorem opj_cconv {src dt : TypeId} {X : Operand} {s d : FloatKind} {x y : FV} [hs : TyU P src (.complex s)] [hd : TyU P dt (.complex d)] (hx : e.ev X = some (.c s x y)) (hx1 : ConvOk s d x) (hy1 : ConvOk s d y) :
    OpJ P S e ⟨dst, .convert src dt X, ty, pos, after, guard⟩ (.c d (fconv s d x) (fconv s d y)) :=
  opj_value fun a w _ h => by
    obtain ⟨p, q, h1, e1, e2, hp, hq⟩ := (h X (by simp [Op.operands]) _ hx).inv_c
    obtain ⟨r, w1, hr, hq1, hv, hl⟩ := run_fconv P w s d p hp (by rw [e1]; exact hx1)
    obtain ⟨r2, w2, hr2, hq2, hv2, hl2⟩ := run_fconv P w1 s d q hq (by rw [e2]; exact hy1)
    refine ⟨.complex d r r2, w2, ?_, (Ext.of_quiet hq1).trans (Ext.of_quiet hq2), Rel.c' hl hl2 (by rw [hv, e1]) (by rw [hv2, e2])⟩
    simp [execOp, h1, convert, run_underlying hs.h, run_underlying hd.h, Conv.complexToComplex, hr, hr2]
theorem opj_cwide {src dt : TypeId} {X : Operand} {x y : FV} [hs : TyU P src (.complex .f32)] [hd : TyU P dt (.complex .f64)] (hx : e.ev X = some (.c .f32 x y)) :
    OpJ P S e ⟨dst, .convert src dt X, ty, pos, after, guard⟩ (.c .f64 (fconv .f32 .f64 x) (fconv .f32 .f64 y)) :=
  opj_value fun a w _ h => by
    obtain ⟨p, q, h1, e1, e2, hp, hq⟩ := (h X (by simp [Op.operands]) _ hx).inv_c
    obtain ⟨r, w1, hr, hq1, hv, hl⟩ := run_fconv P w .f32 .f64 p hp (conv_wide (is32_fv p))
    obtain ⟨r2, w2, hr2, hq2, hv2, hl2⟩ := run_fconv P w1 .f32 .f64 q hq (conv_wide (is32_fv q))
    refine ⟨.complex .f64 r r2, w2, ?_, (Ext.of_quiet hq1).trans (Ext.of_quiet hq2), Rel.c' hl hl2 (by rw [hv, e1]) (by rw [hv2, e2])⟩
    simp [execOp, h1, convert, run_underlying hs.h, run_underlying hd.h, Conv.complexToComplex, hr, hr2]
/-! Bits. -/
theorem opj_andNot63 {t t' : TypeId} {X Y : Operand} {b : Nat} (hx : e.ev X = some (.raw (.int .u64 (b : Int)))) (hy : e.ev Y = some (.raw (.int .u64 9223372036854775808))) :
    OpJ P S e ⟨dst, .binOp .andNot t X Y t', ty, pos, after, guard⟩ (.raw (.int .u64 ((b % 2 ^ 63 : Nat) : Int))) :=
  opj_value fun a w _ h => by
    have h1 := (h X (by simp [Op.operands]) _ hx).inv_raw
    have h2 := (h Y (by simp [Op.operands]) _ hy).inv_raw
    refine ⟨_, w, ?_, Ext.refl _, .raw⟩
    have hbits : IntKind.u64.bits = 64 := rfl
    have he : (BitVec.ofInt 64 (b : Int) &&& ~~~ (BitVec.ofInt 64 9223372036854775808)).toNat = b % 2 ^ 63 := by
      have e1 : BitVec.ofInt 64 (b : Int) = BitVec.ofNat 64 b := BitVec.ofInt_natCast 64 b
      have e2 : (~~~ (BitVec.ofInt 64 9223372036854775808)).toNat = 2 ^ 63 - 1 := by decide
      rw [BitVec.toNat_and, e2, e1, BitVec.toNat_ofNat, Nat.and_two_pow_sub_one_eq_mod]
      omega
    have hw : IntKind.u64.wrap ((b % 2 ^ 63 : Nat) : Int) = ((b % 2 ^ 63 : Nat) : Int) := by
      have hlt : b % 2 ^ 63 < 2 ^ 63 := Nat.mod_lt _ (by decide)
      have hs : IntKind.u64.signed = false := rfl
      unfold IntKind.wrap
      simp only [hbits, hs, Bool.false_and]
      rw [if_neg (by decide)]
      exact Int.emod_eq_of_lt (by omega) (by omega)
    have hrun : (binOp .andNot t (.int .u64 (b : Int)) (.int .u64 9223372036854775808)).run P w = .ok (.int .u64 ((b % 2 ^ 63 : Nat) : Int)) w := by
      have : (Op.intBits .andNot .u64 (b : Int) 9223372036854775808).run P w = .ok (.int .u64 (IntKind.u64.wrap ((BitVec.ofInt 64 (b : Int) &&& ~~~ (BitVec.ofInt 64 9223372036854775808)).toNat : Int))) w := rfl
      rw [he, hw] at this
      simpa [binOp] using this
    simp [execOp, h1, h2, eqGuard, hrun]
theorem opj_from64 {c : FuncId} [hc : ExtFn P c Extern.MathFloatBits.float64frombits] {F X : Operand} {n : Int} {ts : Array TypeId} (hF : e.ev F = some (.raw (.func (.func c) #[] #[]))) (hX : e.ev X = some (.raw (.int .u64 n))) (hn : n.toNat < 2 ^ 64) :
    OpJ P S e ⟨dst, .call { callee := .value F, args := #[X], argTypes := ts }, ty, pos, after, guard⟩ (.f .f64 (fv .f64 n.toNat)) :=
  opj_value fun a w _ h => by
    have h1 := (h F (by simp [Op.operands, Call.operands]) _ hF).inv_raw
    have h2 := (h X (by simp [Op.operands, Call.operands]) _ hX).inv_raw
    refine ⟨.float .f64 n.toNat, w, ?_, Ext.refl _, Rel.f' hn rfl⟩
    have hr : (Extern.MathFloatBits.float64frombits #[.int .u64 n]).run P w = .ok (.float .f64 n.toNat) w := rfl
    have := run_ext (h := hc) hr
    simp [execOp, resolve, h1, h2, Deferred.ofValue, invoke, this]
/-! Closures. -/
theorem opj_makeFunc2 {c : FuncId} {X Y : Operand} {u v : Value} (hx : e.ev X = some (.raw u)) (hy : e.ev Y = some (.raw v)) :
    OpJ P S e ⟨dst, .makeFunc (.func c) #[] #[X, Y], ty, pos, after, guard⟩ (.raw (.func (.func c) #[] #[u, v])) :=
  opj_value fun a w _ h => by
    have h1 := (h X (by simp [Op.operands]) _ hx).inv_raw
    have h2 := (h Y (by simp [Op.operands]) _ hy).inv_raw
    exact ⟨_, w, by simp [execOp, h1, h2, Instr.makeFunc], Ext.refl _, .raw⟩
theorem rel_raws (w : World) : ∀ cap : List Value, RelL w (cap.map AV.raw) cap
  | [] => .nil
  | _ :: r => .cons .raw (rel_raws w r)
theorem relL_append {w : World} {xs ys : List AV} {us vs : List Value} (h : RelL w xs us) (h' : RelL w ys vs) : RelL w (xs ++ ys) (us ++ vs) := by
  induction xs generalizing us with
  | nil =>
    obtain rfl := h.inv_nil
    exact h'
  | cons x xs ih =>
    obtain ⟨v, r, rfl, hv, hr⟩ := h.inv_cons
    exact .cons hv (ih hr)
theorem opj_callC {c : FuncId} {xs : List Operand} {F : Operand} {args : List AV} {r : AV} {ts : Array TypeId} {A : World → List AV} [hb : HasBody P c] {cap : List Value}
    (hF : e.ev F = some (.raw (.func (.func c) #[] cap.toArray))) (hx : evL e xs = some args) (hc : Fn P c A r) (ht : Takes S (args ++ cap.map AV.raw) A) :
    OpJ P S e ⟨dst, .call { callee := .value F, args := xs.toArray, argTypes := ts }, ty, pos, after, guard⟩ r := by
  intro a w K Q hS ho hK
  obtain ⟨fnc, hf, hbd, hn⟩ := hb.h
  have h1 := (ho F (by simp [Op.operands, Call.operands]) _ hF).inv_raw
  have hrl0 : RelL w args (xs.map a.eval) := evL_rel hx fun x hxm => ho x (by simp [Op.operands, Call.operands, hxm])
  have hrl : RelL w (A w) (xs.map a.eval ++ cap) := ht w _ hS (relL_append hrl0 (rel_raws w cap))
  have hcall := hc w _ hrl (fun _ h => by cases h) List.Pairwise.nil
  unfold Oper.wp
  have hrun : (execOp a.eval ⟨dst, .call { callee := .value F, args := xs.toArray, argTypes := ts }, ty, pos, after, guard⟩).run P w = .ok (.enter c (xs.map a.eval ++ cap).toArray) w := by
    simp [execOp, resolve, h1, Deferred.ofValue, invoke, run_callFn hf hbd hn]
  rw [hrun]
  refine Calls.mono hcall fun x w' ⟨v, y, hx', _, hrv, hm, _, _⟩ => ?_
  subst hx'
  exact hK v w' hm.to_ext hrv
theorem Takes.ptrE {R0 : World → Prop} {g : Nat} {xs : List AV} {args : List AV} {A : World → List AV} (hm : ∃ T c, (⟨g, T, xs, c⟩ : Ent) ∈ H) (h : Takes (StR R0 w0 gs H) args A) :
    Takes (StR R0 w0 gs H) (.raw (.pointer (some ⟨g, 0, none⟩)) :: args) (fun w => AV.ptr xs :: A w) := fun w vs hS hr => by
  obtain ⟨T, c, hm⟩ := hm
  obtain ⟨v, r, rfl, hv, hr⟩ := hr.inv_cons
  rw [hv.inv_raw]
  refine .cons (.p (mono_ptrTo xs) ⟨_, rfl, rfl, fun i x hx => ?_⟩) (h w r hS hr)
  obtain ⟨u, hu, hev⟩ := (hS.own _ hm).2.cell hx
  exact ⟨u, by rw [Nat.zero_add]; exact hu, hev⟩
theorem done_ret3 {R0 : World → Prop} {X : Type} {mk : X → AV} {post : X → List Ent} {good : X → Prop} {fn : Func} {t1 t2 t3 : Tmp} {x1 x2 x3 : AV} (hr : fn.results = #[.tmp t1, .tmp t2, .tmp t3]) (y : X) (hmk : mk y = .tup [x1, x2, x3]) (h1 : e.look t1 = some x1) (h2 : e.look t2 = some x2) (h3 : e.look t3 = some x3) (hy : good y) (hs : (post y).Sublist H) :
    Done .ret e (StR R0 w0 gs H) (Ret P fn N w0 gs mk post good) := fun w hw =>
  ⟨.inl rfl, y, hy, hw.mod, fun x hx => ⟨(hw.own x (hs.subset hx)).2, (hw.own x (hs.subset hx)).1⟩, (hw.weak hs).nodup, fun a hF => by
    obtain ⟨u1, hu1, hr1⟩ := hF.rel t1 _ h1
    obtain ⟨u2, hu2, hr2⟩ := hF.rel t2 _ h2
    obtain ⟨u3, hu3, hr3⟩ := hF.rel t3 _ h3
    refine ⟨.tuple #[u1, u2, u3], by rw [results_tmp3 hr]; simp [hu1, hu2, hu3], ?_⟩
    rw [hmk]
    exact .tup (vs := [u1, u2, u3]) (.cons hr1 (.cons hr2 (.cons hr3 .nil)))⟩
/-! Ways that come together. -/
def Join {ι : Type} (E : ι → Env) (SI : ι → World → Prop) (ok : ι → Prop) (Q : Exit → Env → World → Prop) : Exit → Env → World → Prop
  | .normal, e, w => ∃ y, ok y ∧ Env.sub (E y) e ∧ SI y w
  | x, e, w => Q x e w
theorem ws_thenJ {ι : Type} (E : ι → Env) (SI : ι → World → Prop) (ok : ι → Prop) {c d : Code} (h1 : WS P N c e S (Join E SI ok Q)) (h2 : ∀ y, ok y → WS P N d (E y) (SI y) Q) : WS P N c e S (Then P N d Q) := by
  refine h1.mono fun x e' w hq => ?_
  cases x <;> first | exact hq | skip
  obtain ⟨y, hy, hs, hw⟩ := hq
  exact fun a w' hw' hF => h2 y hy a w' (hw' ▸ hw) (hF.sub hs)
theorem done_join {ι : Type} {E : ι → Env} {SI : ι → World → Prop} {ok : ι → Prop} (y : ι) (hy : ok y) (hs : Env.sub (E y) e) (hS : ∀ w, S w → SI y w) : Done .normal e S (Join E SI ok Q) := fun w hw => ⟨y, hy, hs, hS w hw⟩
theorem done_ret_join {ι : Type} {E : ι → Env} {SI : ι → World → Prop} {ok : ι → Prop} (h : Done .ret e S Q) : Done .ret e S (Join E SI ok Q) := fun w hw => h w hw
theorem done_exit_join {ι : Type} {E : ι → Env} {SI : ι → World → Prop} {ok : ι → Prop} {id : Nat} (h : Done (.exit id) e S Q) : Done (.exit id) e S (Join E SI ok Q) := fun w hw => h w hw
end
end Go.Ab
