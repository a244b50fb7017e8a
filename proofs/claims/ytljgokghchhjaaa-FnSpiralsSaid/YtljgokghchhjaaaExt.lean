/- Functions without a body: the root of a 64-bit float, in a frame that is known; what the program's RootNumber and the reference's l01Sqrt tell. No conditions. -/
import Derived.Test.YtljgokghchhjaaaB
import Derived.Test.YtljgokghchhjaaaNum
import Derived.KernelRfl
namespace Go.Ab
open Go.Proofs

/-- Function number f has no body; the model carries it out. -/
class ExtFn (P : Program) (f : FuncId) (r : outParam (Array Value → Sem Value)) : Prop where
  h : ∃ fn, P.funcs[f]? = some fn ∧ fn.body = none ∧ (fn.name == "runtime.NumGoroutine") = false ∧ Extern.findNext fn = none ∧ Extern.find fn = some r
theorem run_ext {P : Program} {f : FuncId} {r : Array Value → Sem Value} [h : ExtFn P f r] {args : Array Value} {w w' : World} {v : Value} (hr : (r args).run P w = .ok v w') : (callFunc f args).run P w = .ok (.value v) w' := by
  obtain ⟨fn, hf, hb, hn, h1, h2⟩ := h.h
  have h3 : ¬ fn.name = "runtime.NumGoroutine" := by simpa using hn
  have hm : ∀ (m : Mark) (w : World), Sem.run P (Sem.mark m (Sem.pure ())) w = .ok () w := fun _ _ => rfl
  simp [callFunc, hf, hb, h3, h1, h2, mark, hr, hm]
theorem sqrt_not_nan {b r : Nat} (h : FloatKind.f64.format.sqrt b = some r) : (FloatKind.f64.decode r).isNaN = false ∧ r < 2 ^ FloatKind.f64.format.width := by
  unfold Ieee.Format.sqrt at h
  cases hd : (FloatKind.f64.format.read b).root (FloatKind.f64.format.fractionBits + 2) with
  | none => simp [hd] at h
  | some d =>
    simp only [hd, Option.map_some, Option.some.injEq] at h
    subst h
    refine ⟨write_not_nan _ d ?_, FloatKind.f64.format.write_lt d⟩
    cases hx : FloatKind.f64.format.read b with
    | nan s t => rw [hx] at hd; cases hd
    | infinity s =>
      rw [hx] at hd
      cases s <;> simp [Ieee.Datum.root] at hd
      subst hd; rfl
    | number s m i =>
      rw [hx] at hd
      simp only [Ieee.Datum.root] at hd
      split at hd
      · cases hd; rfl
      · split at hd
        · cases hd
        · cases hd; rfl
theorem run_sqrt (P : Program) (w : World) (b : Nat) : ∃ r w', (Extern.MathSqrt.sqrt #[.float .f64 b]).run P w = .ok (.float .f64 r) w' ∧ Quiet w w' ∧ fv .f64 r = fsqrt (fv .f64 b) ∧ r < 2 ^ FloatKind.f64.format.width := by
  have hfv : fsqrt (fv .f64 b) = FloatKind.f64.format.sqrt b := by
    cases hn : (FloatKind.f64.decode b).isNaN with
    | false => rw [fv_some hn]; rfl
    | true =>
      obtain ⟨s, t, e⟩ := isNaN_cases hn
      have e' : FloatKind.f64.format.read b = .nan s t := e
      rw [fv_nan hn]
      simp [fsqrt, Ieee.Format.sqrt, e', Ieee.Datum.root]
  rw [hfv]
  have hs : Extern.MathSqrt.sqrt #[.float .f64 b] = (match FloatKind.f64.format.sqrt b with
    | some r => pure (.float .f64 r)
    | none => do pure (.float .f64 (← choose (.nanBits .f64 b b)))) := rfl
  rw [hs]
  cases h : FloatKind.f64.format.sqrt b with
  | some r => exact ⟨r, w, by simp, .inl rfl, fv_some (sqrt_not_nan h).1, (sqrt_not_nan h).2⟩
  | none =>
    have hc := nanBits_cut .f64 b b (w.tape w.drawn (.nanBits .f64 b b))
    exact ⟨_, { w with drawn := w.drawn + 1 }, by simp [choose, Sem.run, Question.forced], .inr rfl, hc.1, hc.2⟩
theorem opj_sqrt {P : Program} {S : World → Prop} {e : Env} {c : FuncId} [hc : ExtFn P c Extern.MathSqrt.sqrt] {F X : Operand} {x : FV} {dst : Option Tmp} {ts : Array TypeId} {ty : TypeId} {pos : String} {after : Array Edge} {guard : Option (Nat × Bool)}
    (hF : e.ev F = some (.raw (.func (.func c) #[] #[]))) (hX : e.ev X = some (.f .f64 x)) : OpJ P S e ⟨dst, .call { callee := .value F, args := #[X], argTypes := ts }, ty, pos, after, guard⟩ (.f .f64 (fsqrt x)) :=
  opj_value fun a w _ h => by
    have h1 := (h F (by simp [Op.operands, Call.operands]) _ hF).inv_raw
    obtain ⟨b, h2, e2, hb⟩ := (h X (by simp [Op.operands, Call.operands]) _ hX).inv_f
    obtain ⟨r, w', hr, hq, hv, hl⟩ := run_sqrt P w b
    refine ⟨.float .f64 r, w', ?_, Ext.of_quiet hq, Rel.f' hl (by rw [hv, e2])⟩
    have := run_ext (h := hc) hr
    simp [execOp, resolve, h1, h2, Deferred.ofValue, invoke, this]
instance extSqrt : ExtFn Try.prog 90 Extern.MathSqrt.sqrt := ⟨⟨(Try.prog.funcs[90]?).getD default, by kernel_rfl, by kernel_rfl, by kernel_rfl, by kernel_rfl, by kernel_rfl⟩⟩
instance hbSqrt : HasBody Try.prog 65 := ⟨⟨Try.f65, Try.func65, rfl, by kernel_rfl⟩⟩
attribute [local irreducible] WS RS Done OpJ Then InBlock Round Ret Env.sub FnH
theorem mathSqrt_fn (x : FV) : Fn Try.prog 65 (fun _ => [.f .f64 x]) (.f .f64 (fsqrt x)) := by
  refine fn_intro Try.func65 rfl Try.ntmps65 (fun _ => Nat.le_of_ble_eq_true rfl) fun w0 => ?_
  repeat first | refine zaa rfl (zay rfl) ?_ | refine zaa rfl (zaz rfl) ?_ | (refine zac ?_; first | refine zaa rfl (zba rfl rfl rfl) ?_ | refine zaa rfl (zbb rfl rfl (by omega)) ?_ | refine zaa rfl (zbc rfl rfl (by omega)) ?_ | refine zaa rfl (zbd rfl rfl rfl) ?_ | refine zaa rfl (zbe rfl rfl) ?_ | refine zaa rfl (zbf rfl rfl) ?_ | refine zaa rfl (zbg rfl rfl) ?_ | refine zaa rfl (zbh rfl rfl) ?_ | refine zaa rfl (zbi rfl rfl) ?_ | refine zaa rfl (zbj rfl rfl) ?_ | refine zaa rfl (zbk rfl rfl) ?_ | refine zaa rfl (zbl rfl rfl) ?_) | (refine zad ?_; first | refine zaa rfl (zbm rfl) ?_ | refine zaa rfl (zbn rfl) ?_ | refine zaa rfl (zbp rfl) ?_ | refine zaa rfl (zbq rfl) ?_ | refine zaa rfl (zbr rfl rfl) ?_) | refine zaa rfl (zbu rfl rfl) ?_ | refine zaa rfl (zbv rfl rfl (by omega) (by omega)) ?_ | refine zaa rfl (zbw rfl rfl (by omega) (by omega)) ?_ | refine zaa rfl (zbx rfl) ?_ | refine zaa rfl (zby rfl) ?_ | refine zaa rfl (zbz rfl rfl) ?_ | refine zaa rfl (zca rfl rfl) ?_ | refine zaa rfl (zcb rfl rfl) ?_ | refine zaa rfl (zcc rfl) ?_ | refine zah ?_ | (refine zcr ?_; first | refine zcs ?_ | refine zct ?_ | refine zcu ?_ | refine zcv ?_ | refine zcw ?_ | refine zcx ?_ | refine zcy rfl ?_ | refine zcz ?_ | refine zda ?_) | (refine zdb ?_; first | refine zdc ?_ | refine zdd ?_ | refine zde ?_ | refine zdf ?_ | refine zdg ?_ | refine zdh ?_ | refine zdi rfl ?_ | refine zdj rfl ?_) | refine zai rfl rfl ?_ | refine zaj rfl rfl rfl rfl ?_ | refine zaa rfl (opj_sqrt rfl rfl) ?_
  exact done_ret1 rfl () rfl trivial (List.nil_sublist _)
def rootF (x : FV) : FV := fconv .f64 .f32 (fsqrt (fconv .f32 .f64 x))
theorem root_ok (x : FV) : ConvOk .f64 .f32 (fsqrt (fconv .f32 .f64 x)) := loi_narrow (loi_sqrt (loi_wide x)) (by decide)
theorem l01Narrow_fn (x : FV) (h : ConvOk .f64 .f32 x) : Fn Try.prog 64 (fun _ => [.f .f64 x]) (.f .f32 (fconv .f64 .f32 x)) := by
  refine fn_intro Try.func64 rfl Try.ntmps64 (fun _ => Nat.le_of_ble_eq_true rfl) fun w0 => ?_
  repeat first | refine zaa rfl (zay rfl) ?_ | refine zaa rfl (zaz rfl) ?_ | (refine zac ?_; first | refine zaa rfl (zba rfl rfl rfl) ?_ | refine zaa rfl (zbb rfl rfl (by omega)) ?_ | refine zaa rfl (zbc rfl rfl (by omega)) ?_ | refine zaa rfl (zbd rfl rfl rfl) ?_ | refine zaa rfl (zbe rfl rfl) ?_ | refine zaa rfl (zbf rfl rfl) ?_ | refine zaa rfl (zbg rfl rfl) ?_ | refine zaa rfl (zbh rfl rfl) ?_ | refine zaa rfl (zbi rfl rfl) ?_ | refine zaa rfl (zbj rfl rfl) ?_ | refine zaa rfl (zbk rfl rfl) ?_ | refine zaa rfl (zbl rfl rfl) ?_) | (refine zad ?_; first | refine zaa rfl (zbm rfl) ?_ | refine zaa rfl (zbn rfl) ?_ | refine zaa rfl (zbp rfl) ?_ | refine zaa rfl (zbq rfl) ?_ | refine zaa rfl (zbr rfl rfl) ?_) | refine zaa rfl (zbu rfl rfl) ?_ | refine zaa rfl (zbv rfl rfl (by omega) (by omega)) ?_ | refine zaa rfl (zbw rfl rfl (by omega) (by omega)) ?_ | refine zaa rfl (zbx rfl) ?_ | refine zaa rfl (zby rfl) ?_ | refine zaa rfl (zbz rfl rfl) ?_ | refine zaa rfl (zca rfl rfl) ?_ | refine zaa rfl (zcb rfl rfl) ?_ | refine zaa rfl (zcc rfl) ?_ | refine zah ?_ | (refine zcr ?_; first | refine zcs ?_ | refine zct ?_ | refine zcu ?_ | refine zcv ?_ | refine zcw ?_ | refine zcx ?_ | refine zcy rfl ?_ | refine zcz ?_ | refine zda ?_) | (refine zdb ?_; first | refine zdc ?_ | refine zdd ?_ | refine zde ?_ | refine zdf ?_ | refine zdg ?_ | refine zdh ?_ | refine zdi rfl ?_ | refine zdj rfl ?_) | refine zai rfl rfl ?_ | refine zaj rfl rfl rfl rfl ?_ | refine zaa rfl (opj_fconv rfl h) ?_
  exact done_ret1 rfl () rfl trivial (List.nil_sublist _)
end Go.Ab
