/- Numbers that are the same: walks of the program's SameNumber and the reference's l01Same. No conditions. -/
import Derived.Test.YtljgokghchhjaaaSame
namespace Go.Ab
open Go.Proofs

theorem opj_iint {P : Program} {S : World → Prop} {e : Env} {src dt : TypeId} {X : Operand} {k0 k k' : IntKind} {n : Int} {dst : Option Tmp} {ty : TypeId} {pos : String} {after : Array Edge} {guard : Option (Nat × Bool)} [hs : TyU P src (.int k0)] [hd : TyU P dt (.int k')] (hx : e.ev X = some (.raw (.int k n))) :
    OpJ P S e ⟨dst, .convert src dt X, ty, pos, after, guard⟩ (.raw (.int k' (k'.wrap n))) :=
  opj_value fun a w _ h => by
    have h1 := (h X (by simp [Op.operands]) _ hx).inv_raw
    exact ⟨_, w, by simp [execOp, h1, convert, run_underlying hs.h, run_underlying hd.h, Conv.intToInt], Ext.refl _, .raw⟩
theorem fv_inv {k : FloatKind} {b c : Nat} (h : fv k b = some c) : b = c := by
  unfold fv at h
  split at h <;> cases h
  rfl
theorem opj_bits32 {P : Program} {S : World → Prop} {e : Env} {c : FuncId} [hc : ExtFn P c Extern.MathFloatBits.float32bits] {F X : Operand} {b : Nat} {dst : Option Tmp} {ts : Array TypeId} {ty : TypeId} {pos : String} {after : Array Edge} {guard : Option (Nat × Bool)}
    (hF : e.ev F = some (.raw (.func (.func c) #[] #[]))) (hX : e.ev X = some (.f .f32 (some b))) : OpJ P S e ⟨dst, .call { callee := .value F, args := #[X], argTypes := ts }, ty, pos, after, guard⟩ (.raw (.int .u32 b)) :=
  opj_value fun a w _ h => by
    have h1 := (h F (by simp [Op.operands, Call.operands]) _ hF).inv_raw
    obtain ⟨b', h2, e2, hb⟩ := (h X (by simp [Op.operands, Call.operands]) _ hX).inv_f
    obtain rfl := fv_inv e2
    refine ⟨.int .u32 b', w, ?_, Ext.refl _, .raw⟩
    have hr : (Extern.MathFloatBits.float32bits #[.float .f32 b']).run P w = .ok (.int .u32 b') w := rfl
    have := run_ext (h := hc) hr
    simp [execOp, resolve, h1, h2, Deferred.ofValue, invoke, this]
theorem opj_bits64 {P : Program} {S : World → Prop} {e : Env} {c : FuncId} [hc : ExtFn P c Extern.MathFloatBits.float64bits] {F X : Operand} {x : FV} {b : Nat} {dst : Option Tmp} {ts : Array TypeId} {ty : TypeId} {pos : String} {after : Array Edge} {guard : Option (Nat × Bool)}
    (hF : e.ev F = some (.raw (.func (.func c) #[] #[]))) (hX : e.ev X = some (.f .f64 x)) (hx : x = some b) : OpJ P S e ⟨dst, .call { callee := .value F, args := #[X], argTypes := ts }, ty, pos, after, guard⟩ (.raw (.int .u64 b)) :=
  opj_value fun a w _ h => by
    have h1 := (h F (by simp [Op.operands, Call.operands]) _ hF).inv_raw
    obtain ⟨b', h2, e2, hb⟩ := (h X (by simp [Op.operands, Call.operands]) _ hX).inv_f
    rw [hx] at e2
    obtain rfl := fv_inv e2
    refine ⟨.int .u64 b', w, ?_, Ext.refl _, .raw⟩
    have hr : (Extern.MathFloatBits.float64bits #[.float .f64 b']).run P w = .ok (.int .u64 b') w := rfl
    have := run_ext (h := hc) hr
    simp [execOp, resolve, h1, h2, Deferred.ofValue, invoke, this]
instance extB64 : ExtFn Try.prog 88 Extern.MathFloatBits.float64bits := ⟨⟨(Try.prog.funcs[88]?).getD default, by kernel_rfl, by kernel_rfl, by kernel_rfl, by kernel_rfl, by kernel_rfl⟩⟩
theorem wrap_neg {b : Nat} (hb : b < 2 ^ 64) : decide (IntKind.i64.wrap b < 0) = decide (2 ^ 63 ≤ b) := by
  have h1 : IntKind.i64.bits = 64 := rfl
  have h2 : IntKind.i64.signed = true := rfl
  unfold IntKind.wrap
  simp only [h1, h2, Bool.true_and, decide_eq_true_eq]
  have hm : (b : Int) % 2 ^ 64 = b := Int.emod_eq_of_lt (by omega) (by omega)
  rw [hm]
  have e1 : (2 : Int) ^ (64 - 1) = 9223372036854775808 := by decide
  have e2 : (2 : Int) ^ 64 = 18446744073709551616 := by decide
  rw [e1, e2]
  by_cases h : 2 ^ 63 ≤ b
  · rw [if_pos (by omega)]; simp only [h, decide_true]; exact decide_eq_true (by omega)
  · rw [if_neg (by omega)]; simp only [h, decide_false]; exact decide_eq_false (by omega)
theorem wrap_small {b : Nat} (hb : b < 2 ^ 32) : IntKind.i64.wrap b = b := IntWalk.i64_in _ (by omega)
attribute [local irreducible] WS RS Done OpJ Then InBlock Round Ret Env.sub FnH
theorem wide_some' {a : Nat} (h : (FloatKind.f32.decode a).isNaN = false) (ha : a < 2 ^ 32) : ∃ w, fconv .f32 .f64 (some a) = some w ∧ w < 2 ^ 64 := by
  have h1 := wide_some a h
  cases hw : fconv .f32 .f64 (some a) with
  | none => exact absurd hw h1
  | some w => exact ⟨w, rfl, floatToFloatBits_lt (s := .f32) (d := .f64) (b := a) ha hw⟩
theorem self_eq {a : Nat} (h : (FloatKind.f32.decode a).isNaN = false) : fcmp .f32 (some a) (some a) = some .eq := order_refl h
theorem cmp_same {a b : Nat} (ha : Ok32 (some a)) (hb : Ok32 (some b)) {wa wb : Nat} (h1 : fconv .f32 .f64 (some a) = some wa) (h2 : fconv .f32 .f64 (some b) = some wb) :
    (cmpB .eql (fcmp .f32 (some a) (some b)) && (decide (2 ^ 63 ≤ wa) == decide (2 ^ 63 ≤ wb))) = (a == b) := by
  rw [wide_sign ha.some.1 h1, wide_sign hb.some.1 h2]
  by_cases hab : a = b
  · subst hab
    rw [self_eq ha.some.2]
    simp [cmpB]
  · have hne : (a == b) = false := by simpa using hab
    rw [hne]
    rw [Bool.and_eq_false_iff]
    by_cases hc : fcmp .f32 (some a) (some b) = some .eq
    · right
      have : ¬ decide (2 ^ 31 ≤ a) = decide (2 ^ 31 ≤ b) := fun h => hab (bits_eq ha.some.1 hb.some.1 hc h)
      simpa using this
    · left
      show (fcmp .f32 (some a) (some b) == some .eq) = false
      cases hx : fcmp .f32 (some a) (some b) with
      | none => rfl
      | some o => cases o <;> first | rfl | exact absurd hx hc

def bitsF : FV → Int
  | none => 2143289344
  | some b => b
theorem bits_same {x y : FV} (hx : Ok32 x) (hy : Ok32 y) : decide (bitsF x = bitsF y) = sameB x y := by
  have hn : (FloatKind.f32.decode 2143289344).isNaN = true := by decide +kernel
  cases x with
  | none =>
    cases y with
    | none => rfl
    | some b =>
      have : ¬ (2143289344 : Int) = b := fun h => by
        have : b = 2143289344 := by omega
        subst this
        rw [hy.some.2] at hn; cases hn
      show decide _ = false
      exact decide_eq_false this
  | some a =>
    cases y with
    | none =>
      have : ¬ (a : Int) = 2143289344 := fun h => by
        have : a = 2143289344 := by omega
        subst this
        rw [hx.some.2] at hn; cases hn
      show decide _ = false
      exact decide_eq_false this
    | some b =>
      simp only [bitsF, sameB]
      by_cases h : a = b
      · subst h; simp
      · have : ¬ (a : Int) = b := by omega
        simp [h, this]
end Go.Ab
