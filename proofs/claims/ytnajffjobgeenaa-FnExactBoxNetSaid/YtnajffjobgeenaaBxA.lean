/- Bits of whole numbers, arrays, and copies of lists. No conditions. -/
import Derived.Test.YtnajffjobgeenaaGrC
import Derived.Lib.SliceRun
namespace Go.Ab
open Go.Proofs
variable {R : World → Prop} [RStab R]
section
variable {P : Program} {t el : TypeId} {S : World → Prop} {N : Nat} {e : Env} {Q : Exit → Env → World → Prop} {ops : Array Oper} {l : List Oper} {dst : Option Tmp} {ty : TypeId} {pos : String} {after : Array Edge} {guard : Option (Nat × Bool)}
variable {w0 : World} {gs : List Nat} {H : List Ent}
theorem opj_and {t' : TypeId} {X Y : Operand} {x y v : Int} (hx : e.ev X = some (.raw (.int .i64 x))) (hy : e.ev Y = some (.raw (.int .i64 y))) (hv : IntKind.i64.wrap (((BitVec.ofInt 64 x) &&& (BitVec.ofInt 64 y)).toNat : Int) = v) :
    OpJ P S e ⟨dst, .binOp .and t X Y t', ty, pos, after, guard⟩ (.raw (.int .i64 v)) :=
  opj_value fun a w _ h => by
    have h1 := (h X (by simp [Op.operands]) _ hx).inv_raw
    have h2 := (h Y (by simp [Op.operands]) _ hy).inv_raw
    subst hv
    refine ⟨_, w, ?_, Ext.refl _, .raw⟩
    have hr : (binOp .and t (.int .i64 x) (.int .i64 y)).run P w = .ok (.int .i64 (IntKind.i64.wrap (((BitVec.ofInt 64 x) &&& (BitVec.ofInt 64 y)).toNat : Int))) w := rfl
    simp only [execOp, h1, h2, eqGuard, Sem.run_bind, hr, Result.andThen_ok]
    rfl
theorem opj_shr {t' : TypeId} {X Y : Operand} {x y v : Int} {k : IntKind} (hx : e.ev X = some (.raw (.int .i64 x))) (hy : e.ev Y = some (.raw (.int k y))) (h0 : decide (y < 0) = false) (hv : x.fdiv (2 ^ (min y.toNat 64)) = v) :
    OpJ P S e ⟨dst, .binOp .shr t X Y t', ty, pos, after, guard⟩ (.raw (.int .i64 v)) :=
  opj_value fun a w _ h => by
    have h1 := (h X (by simp [Op.operands]) _ hx).inv_raw
    have h2 := (h Y (by simp [Op.operands]) _ hy).inv_raw
    have h0' : ¬ y < 0 := of_decide_eq_false h0
    subst hv
    refine ⟨_, w, ?_, Ext.refl _, .raw⟩
    simp [execOp, h1, h2, eqGuard, binOp, Op.shift, h0', IntKind.bits]
/-- A list that is something is not nothing. -/
theorem opj_eqnilS {t' : TypeId} {X : Operand} {xs : List AV} [hu : TyU P t (.slice el)] (hx : e.ev X = some (AV.sl w0 1 xs)) (h0 : 0 < xs.length) :
    OpJ P S e ⟨dst, .binOp .eql t X (.const (.slice none 0 0)) t', ty, pos, after, guard⟩ (.raw (.bool false)) :=
  opj_value fun a w _ h => by
    obtain ⟨ad, n, c, h1, hl, _, _, hr⟩ := (h X (by simp [Op.operands]) _ hx).inv_q
    obtain ⟨b, rfl, _⟩ := hr 0 _ (List.getElem?_eq_getElem h0)
    refine ⟨_, w, ?_, Ext.refl _, .raw⟩
    have hr := Go.Lib.run_eql_slice_nil (P := P) w t el (some b) n c 0 0 hu.h
    have hc : a.eval (.const (.slice none 0 0)) = .slice none 0 0 := rfl
    simp [execOp, h1, hc, eqGuard, hr]
/-- All of an array of the call's own, as a list. -/
theorem opj_sliceA {X : Operand} {g n : Nat} {z : Value} {b : Nat} [hu : TyU P t (.array n el)] [hi : TyI P el z 1 b] (hx : e.ev X = some (.raw (.pointer (some ⟨g, 0, none⟩)))) (hn : Nat.blt 0 n = true) :
    OpJ P S e ⟨dst, .slice t X none none none, ty, pos, after, guard⟩ (.raw (.slice (some ⟨g, 0, none⟩) n n)) :=
  opj_value fun a w _ h => by
    have h1 := (h X (by simp [Op.operands]) _ hx).inv_raw
    have hel : P.elem t = el := by simp [Program.elem, hu.h]
    have hal : P.arrayLen t = n := by simp [Program.arrayLen, hu.h]
    have ht : P.underlying t = some (.array (P.arrayLen t) (P.elem t)) := by rw [hel, hal]; exact hu.h
    have hr := run_sliceAt_array_all (P := P) (w := w) t ⟨g, 0, none⟩ ht
    rw [hel, hal, run_size hi] at hr
    have hn' := Nat.le_of_ble_eq_true hn
    have hs : slicedAt ⟨g, 0, none⟩ 0 n n 1 = .slice (some ⟨g, 0, none⟩) n n := by
      unfold slicedAt
      rw [if_neg (by omega), addr_add _ rfl]
      simp
    refine ⟨_, w, ?_, Ext.refl _, .raw⟩
    simp [execOp, h1, hr, hs]
end
attribute [local irreducible] WS RS Done OpJ Then InBlock Round Ret Env.sub FnH
attribute [local irreducible] tab tabA corners cellsT ramp

theorem cloneI_fn (L : List Int) (h0 : 0 < L.length) (hl : L.length < 2 ^ 40) : FnH (X := Nat × Nat) Try.prog 131 (fun w => [slI w L]) [] (fun y => .raw (.slice (some ⟨y.1, 0, none⟩) L.length y.2)) (fun y => [⟨y.1, 2, L.map intA, y.2⟩]) (fun y => L.length ≤ y.2 ∧ y.2 ≤ maxLen) := by
  refine fn_intro Try.func131 rfl Try.ntmps131 (fun _ => Nat.le_of_ble_eq_true rfl) fun w0 => ?_
  repeat first | refine zaa rfl (zay rfl) ?_ | refine zaa rfl (zaz rfl) ?_ | (refine zac ?_; first | refine zaa rfl (zba rfl rfl rfl) ?_ | refine zaa rfl (zbb rfl rfl (by omega)) ?_ | refine zaa rfl (zbc rfl rfl (by omega)) ?_ | refine zaa rfl (zbd rfl rfl rfl) ?_ | refine zaa rfl (zbe rfl rfl) ?_ | refine zaa rfl (zbf rfl rfl) ?_ | refine zaa rfl (zbg rfl rfl) ?_ | refine zaa rfl (zbh rfl rfl) ?_ | refine zaa rfl (zbi rfl rfl) ?_ | refine zaa rfl (zbj rfl rfl) ?_ | refine zaa rfl (zbk rfl rfl) ?_ | refine zaa rfl (zbl rfl rfl) ?_) | (refine zad ?_; first | refine zaa rfl (zbm rfl) ?_ | refine zaa rfl (zbn rfl) ?_ | refine zaa rfl (zbp rfl) ?_ | refine zaa rfl (zbq rfl) ?_ | refine zaa rfl (zbr rfl rfl) ?_) | (refine zae ?_; first | refine zaa rfl (zcf rfl rfl (by (repeat (first | exact mh | refine mt ?_)); done) rfl) ?_ | refine zaa rfl (zcg rfl rfl (by (repeat (first | exact mh | refine mt ?_)); done) rfl rfl) ?_ | refine zaa rfl (zch rfl rfl rfl rfl) ?_ | refine zaa rfl (zbu rfl rfl) ?_) | (refine zaf ?_; first | refine zaa rfl (zbv rfl rfl (by omega) (by omega)) ?_ | refine zaa rfl (zbw rfl rfl (by omega) (by omega)) ?_) | refine zaa rfl (zcd rfl) ?_ | refine zaa rfl (zce rfl) ?_ | refine zaa rfl (zbx rfl) ?_ | refine zaa rfl (zby rfl) ?_ | refine zaa rfl (zbz rfl rfl) ?_ | refine zaa rfl (zca rfl rfl) ?_ | refine zaa rfl (zcb rfl rfl) ?_ | refine zaa rfl (zcc rfl) ?_ | refine zah ?_ | (refine zcr ?_; first | refine zcs ?_ | refine zct ?_ | refine zcu ?_ | refine zcv ?_ | refine zcw ?_ | refine zcx ?_ | refine zcy rfl ?_ | refine zcz ?_ | refine zda ?_) | (refine zdb ?_; first | refine zdc ?_ | refine zdd ?_ | refine zde ?_ | refine zdf ?_ | refine zdg ?_ | refine zdh ?_ | refine zdi rfl ?_ | refine zdj rfl ?_) | refine zai rfl rfl ?_ | refine zaj rfl rfl rfl rfl ?_ | (refine zak rfl rfl rfl ?_; intro g) | (refine zal rfl rfl ?_; intro g) | (refine zag ?_; first | refine zam 0 rfl rfl rfl rfl rfl rfl ?_ | refine zam 1 rfl rfl rfl rfl rfl rfl ?_ | refine zam 2 rfl rfl rfl rfl rfl rfl ?_ | refine zam 3 rfl rfl rfl rfl rfl rfl ?_ | refine zam 4 rfl rfl rfl rfl rfl rfl ?_ | refine zam 5 rfl rfl rfl rfl rfl rfl ?_ | refine zan 0 rfl rfl rfl rfl rfl rfl rfl rfl rfl ?_ | refine zan 1 rfl rfl rfl rfl rfl rfl rfl rfl rfl ?_ | refine zan 2 rfl rfl rfl rfl rfl rfl rfl rfl rfl ?_ | refine zan 3 rfl rfl rfl rfl rfl rfl rfl rfl rfl ?_ | refine zan 4 rfl rfl rfl rfl rfl rfl rfl rfl rfl ?_ | refine zan 5 rfl rfl rfl rfl rfl rfl rfl rfl rfl ?_ | refine zao 0 rfl rfl rfl rfl rfl rfl ?_ | refine zao 1 rfl rfl rfl rfl rfl rfl ?_ | refine zao 2 rfl rfl rfl rfl rfl rfl ?_ | refine zao 3 rfl rfl rfl rfl rfl rfl ?_) | (refine rs_lit0 rfl ?_; intro g) | refine zaa rfl (opj_eqnilS rfl (by rw [List.length_map]; exact h0)) ?_
  refine rs_append 0 (xs := []) (ys := L.map intA) (n := 0) (cap := 0) rfl rfl ⟨_, rfl, fun w v hS h => hS.rd h.inv_q⟩ rfl ⟨rfl, Nat.le_refl _, Nat.zero_le _⟩ (by rw [List.length_map]; exact h0) (all_isOne _) (by rw [List.length_map]; simp only [maxLen]; omega) (by rw [List.length_map]; omega) rfl fun g3 c3 h3 h3' => ?_
  rw [List.length_map, Nat.zero_add] at h3 ⊢
  repeat first | refine zaa rfl (zay rfl) ?_ | refine zaa rfl (zaz rfl) ?_ | (refine zac ?_; first | refine zaa rfl (zba rfl rfl rfl) ?_ | refine zaa rfl (zbb rfl rfl (by omega)) ?_ | refine zaa rfl (zbc rfl rfl (by omega)) ?_ | refine zaa rfl (zbd rfl rfl rfl) ?_ | refine zaa rfl (zbe rfl rfl) ?_ | refine zaa rfl (zbf rfl rfl) ?_ | refine zaa rfl (zbg rfl rfl) ?_ | refine zaa rfl (zbh rfl rfl) ?_ | refine zaa rfl (zbi rfl rfl) ?_ | refine zaa rfl (zbj rfl rfl) ?_ | refine zaa rfl (zbk rfl rfl) ?_ | refine zaa rfl (zbl rfl rfl) ?_) | (refine zad ?_; first | refine zaa rfl (zbm rfl) ?_ | refine zaa rfl (zbn rfl) ?_ | refine zaa rfl (zbp rfl) ?_ | refine zaa rfl (zbq rfl) ?_ | refine zaa rfl (zbr rfl rfl) ?_) | (refine zae ?_; first | refine zaa rfl (zcf rfl rfl (by (repeat (first | exact mh | refine mt ?_)); done) rfl) ?_ | refine zaa rfl (zcg rfl rfl (by (repeat (first | exact mh | refine mt ?_)); done) rfl rfl) ?_ | refine zaa rfl (zch rfl rfl rfl rfl) ?_ | refine zaa rfl (zbu rfl rfl) ?_) | (refine zaf ?_; first | refine zaa rfl (zbv rfl rfl (by omega) (by omega)) ?_ | refine zaa rfl (zbw rfl rfl (by omega) (by omega)) ?_) | refine zaa rfl (zcd rfl) ?_ | refine zaa rfl (zce rfl) ?_ | refine zaa rfl (zbx rfl) ?_ | refine zaa rfl (zby rfl) ?_ | refine zaa rfl (zbz rfl rfl) ?_ | refine zaa rfl (zca rfl rfl) ?_ | refine zaa rfl (zcb rfl rfl) ?_ | refine zaa rfl (zcc rfl) ?_ | refine zah ?_ | (refine zcr ?_; first | refine zcs ?_ | refine zct ?_ | refine zcu ?_ | refine zcv ?_ | refine zcw ?_ | refine zcx ?_ | refine zcy rfl ?_ | refine zcz ?_ | refine zda ?_) | (refine zdb ?_; first | refine zdc ?_ | refine zdd ?_ | refine zde ?_ | refine zdf ?_ | refine zdg ?_ | refine zdh ?_ | refine zdi rfl ?_ | refine zdj rfl ?_) | refine zai rfl rfl ?_ | refine zaj rfl rfl rfl rfl ?_ | (refine zak rfl rfl rfl ?_; intro g) | (refine zal rfl rfl ?_; intro g) | (refine zag ?_; first | refine zam 0 rfl rfl rfl rfl rfl rfl ?_ | refine zam 1 rfl rfl rfl rfl rfl rfl ?_ | refine zam 2 rfl rfl rfl rfl rfl rfl ?_ | refine zam 3 rfl rfl rfl rfl rfl rfl ?_ | refine zam 4 rfl rfl rfl rfl rfl rfl ?_ | refine zam 5 rfl rfl rfl rfl rfl rfl ?_ | refine zan 0 rfl rfl rfl rfl rfl rfl rfl rfl rfl ?_ | refine zan 1 rfl rfl rfl rfl rfl rfl rfl rfl rfl ?_ | refine zan 2 rfl rfl rfl rfl rfl rfl rfl rfl rfl ?_ | refine zan 3 rfl rfl rfl rfl rfl rfl rfl rfl rfl ?_ | refine zan 4 rfl rfl rfl rfl rfl rfl rfl rfl rfl ?_ | refine zan 5 rfl rfl rfl rfl rfl rfl rfl rfl rfl ?_ | refine zao 0 rfl rfl rfl rfl rfl rfl ?_ | refine zao 1 rfl rfl rfl rfl rfl rfl ?_ | refine zao 2 rfl rfl rfl rfl rfl rfl ?_ | refine zao 3 rfl rfl rfl rfl rfl rfl ?_)
  exact done_ret1 rfl (g3, c3) rfl ⟨h3, h3'⟩ (List.Sublist.refl _)
end Go.Ab
