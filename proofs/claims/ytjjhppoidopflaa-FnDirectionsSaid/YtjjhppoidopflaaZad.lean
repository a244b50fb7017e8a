/- Part 4 of the texts on which the law leans, joined: Bytes that came in, and what is drawn out of them: numbers within bounds. No conditions. -/
import Derived.ProofKit
import Derived.OpenShut
import Derived.Deep.Slices
import Derived.KernelRfl
import Derived.Test.YtjjhppoidopflaaZac
namespace Go.Ab
open Go.Proofs
variable {R : World → Prop} [RStab R]
section
variable {P : Program} {S : World → Prop} {N : Nat} {e : Env} {Q : Exit → Env → World → Prop} {ops : Array Oper} {l : List Oper} {dst : Option Tmp} {ty : TypeId} {pos : String} {after : Array Edge} {guard : Option (Nat × Bool)}
variable {w0 : World} {gs : List Nat} {H : List Ent}
theorem opj_lenC {R0 : World → Prop} {n : Nat} {f : Nat → CV} {X : Operand} {t t2 : TypeId} {b : Nat} {z : Value} {el : TypeId} [hu : TyU P t (.slice el)] [hi : TyI P el z 1 b] (hx : e.ev X = some (AV.sl w0 1 ((tabC n f).map cA))) :
    OpJ P (StR R0 w0 [] H) e ⟨dst, .call { callee := .builtin .len, args := #[X], argTypes := #[t] }, t2, pos, after, guard⟩ (.raw (.int .i64 (n : Int))) := by
  have h := zbm (P := P) (R0 := R0) (H := H) (dst := dst) (pos := pos) (after := after) (guard := guard) (t2 := t2) (hu := hu) (hi := hi) hx
  rw [tabC_length] at h
  exact h
theorem opj_indexC {R0 : World → Prop} {n : Nat} {f : Nat → CV} {X I : Operand} {i : Int} {t : TypeId} {b : Nat} {z : Value} {el : TypeId} [hu : TyU P t (.slice el)] [hi : TyI P el z 1 b]
    (hx : e.ev X = some (AV.sl w0 1 ((tabC n f).map cA))) (hI : e.ev I = some (.raw (.int .i64 i))) (h0 : 0 ≤ i) (hlt : i < (n : Int)) :
    OpJ P (StR R0 w0 [] H) e ⟨dst, .indexAddr t X I, ty, pos, after, guard⟩ (AV.ptr [cA (f i.toNat)]) := by
  have h := zbv (P := P) (R0 := R0) (H := H) (dst := dst) (ty := ty) (pos := pos) (after := after) (guard := guard) (hu := hu) (hi := hi) hx hI h0 (by rw [tabC_length]; exact hlt)
  have hg : (tabC n f).getD i.toNat default = f i.toNat := tabC_getD f (by omega)
  rw [hg] at h
  exact h
/-- 'append' of one complex number to a list of the call's own. -/
theorem rs_appendC (k : Nat) (f' : Nat → CV) {d : Tmp} {A B : Operand} {g n cap : Nat} {f : Nat → CV} {x : CV} {t : TypeId} {z : Value} {b : Nat} [hu : TyU P t (.slice 31)] [hi : TyI P 31 z 1 b] (hd : Nat.blt d N = true)
    (hA : e.ev A = some (.raw (.slice (some ⟨g, 0, none⟩) n cap))) (hB : e.ev B = some (AV.lit [cA x])) (hH : H[k]? = some (entC g n f cap)) (hn : n ≤ cap ∧ cap ≤ maxLen)
    (hm : n < 2 ^ 40) (hby : Nat.ble b 64 = true) (hzc : z.cells.size = 1) (hf : f' n = x) (hf' : ∀ s, s < n → f' s = f s)
    (hk : ∀ g' cap', n + 1 ≤ cap' → cap' ≤ maxLen → RS P N ops l ((d, .raw (.slice (some ⟨g', 0, none⟩) (n + 1) cap')) :: e.keep) (StR R w0 gs (H.set k (entC g' (n + 1) f' cap'))) Q) :
    RS P N ops (⟨some d, .call { callee := .builtin .append, args := #[A, B], argTypes := #[t, t] }, ty, pos, after, none⟩ :: l) e (StR R w0 gs H) Q := by
  have hb := Nat.le_of_ble_eq_true hby
  refine rs_append k (ys := [cA x]) hd hA ⟨_, hB, fun w v _ h => h.inv_p.2⟩ hH ⟨by simp [tabC_length], hn.1, hn.2⟩ (by simp) rfl (by simp only [maxLen, List.length_cons, List.length_nil]; omega)
    (Nat.le_trans (Nat.mul_le_mul (show n + ([cA x] : List AV).length ≤ 2 ^ 40 from by simp only [List.length_cons, List.length_nil]; omega) hb) (by decide)) hzc fun g' cap' h1 h2 => ?_
  have : ((tabC n f).map cA ++ [cA x] : List AV) = (tabC (n + 1) f').map cA := by
    rw [← tabC_snoc n f', List.map_append, tabC_congr hf', ← hf]
    rfl
  rw [this]
  exact hk g' cap' h1 h2
end
def subC2 (p q : CV) : CV := (fbin .sub .f32 p.1 q.1, fbin .sub .f32 p.2 q.2)
def longC (p : CV) : FV := longF p.1 p.2
/-- The length does not overflow. -/
def LongOk (p : CV) : Prop := ConvOk .f64 .f32 (fsqrt (powF p.1 p.2))
attribute [local irreducible] WS RS Done OpJ Then InBlock Round Ret Env.sub FnH
attribute [local irreducible] tabC
theorem minus_fn (p q : CV) : Fn Try.prog 40 (fun _ => [cA p, cA q]) (cA (subC2 p q)) := by
  refine fn_intro Try.func40 rfl Try.ntmps40 (fun _ => Nat.le_of_ble_eq_true rfl) fun w0 => ?_
  unfold cA
  repeat first | refine zaa rfl (zay rfl) ?_ | refine zaa rfl (zaz rfl) ?_ | (refine zac ?_; refine zaa rfl (zba rfl rfl rfl) ?_) | (refine zad ?_; first | refine zaa rfl (zbp rfl) ?_ | refine zaa rfl (zbq rfl) ?_ | refine zaa rfl (zbr rfl rfl) ?_) | refine zah ?_ | (refine zcr ?_; refine zcs ?_) | (refine zdb ?_; first | refine zdc ?_ | refine zdd ?_ | refine zdg ?_)
  exact done_ret1 rfl () rfl trivial (List.nil_sublist _)
theorem parts_fn (p : CV) : Fn Try.prog 82 (fun _ => [cA p]) (.tup [.f .f64 (fconv .f32 .f64 p.1), .f .f64 (fconv .f32 .f64 p.2)]) := by
  refine fn_intro Try.func82 rfl Try.ntmps82 (fun _ => Nat.le_of_ble_eq_true rfl) fun w0 => ?_
  unfold cA
  repeat first | refine zaa rfl (zay rfl) ?_ | refine zaa rfl (zaz rfl) ?_ | (refine zad ?_; first | refine zaa rfl (zbp rfl) ?_ | refine zaa rfl (zbq rfl) ?_) | refine zaa rfl (zbx rfl) ?_ | refine zah ?_ | (refine zcr ?_; refine zcs ?_) | (refine zdb ?_; first | refine zdc ?_ | refine zdd ?_ | refine zdg ?_)
  exact done_ret2 rfl () rfl rfl rfl trivial (List.nil_sublist _)
theorem power_fn (p : CV) : Fn Try.prog 67 (fun _ => [cA p]) (.f .f64 (powF p.1 p.2)) := by
  have h := parts_fn p
  refine fn_intro Try.func67 rfl Try.ntmps67 (fun _ => Nat.le_of_ble_eq_true rfl) fun w0 => ?_
  repeat first | refine zaa rfl (zay rfl) ?_ | refine zaa rfl (zaz rfl) ?_ | (refine zac ?_; refine zaa rfl (zba rfl rfl rfl) ?_) | (refine zad ?_; (refine zaa rfl (zci rfl rfl (h) ?_) ?_; (focus ((repeat (first | exact Takes.nil | refine Takes.sl ?_ | refine Takes.lit ?_ | (refine Takes.ownE ?_ ?_ ?_ ?_ ?_; (focus (exact ⟨_, _, (by (repeat (first | exact mh | refine mt ?_)); done)⟩)); (focus (simp; done)); (focus omega); (focus (simp only [maxLen]; omega))) | refine Takes.same ?_)); done)))) | refine zaa rfl (zbz rfl rfl) ?_ | refine zah ?_ | (refine zcr ?_; refine zcs ?_) | (refine zdb ?_; first | refine zdc ?_ | refine zdd ?_ | refine zdg ?_)
  exact done_ret1 rfl () rfl trivial (List.nil_sublist _)
theorem longOf_fn (p : CV) (hp : LongOk p) : Fn Try.prog 41 (fun _ => [cA p]) (.f .f32 (longC p)) := by
  have h := power_fn p
  unfold LongOk at hp
  refine fn_intro Try.func41 rfl Try.ntmps41 (fun _ => Nat.le_of_ble_eq_true rfl) fun w0 => ?_
  repeat first | refine zaa rfl (zay rfl) ?_ | refine zaa rfl (zaz rfl) ?_ | (refine zad ?_; first | (refine zaa rfl (zci rfl rfl (h) ?_) ?_; (focus ((repeat (first | exact Takes.nil | refine Takes.sl ?_ | refine Takes.lit ?_ | (refine Takes.ownE ?_ ?_ ?_ ?_ ?_; (focus (exact ⟨_, _, (by (repeat (first | exact mh | refine mt ?_)); done)⟩)); (focus (simp; done)); (focus omega); (focus (simp only [maxLen]; omega))) | refine Takes.same ?_)); done))) | refine zaa rfl (zci rfl rfl (mathSqrt_fn _) (by (repeat (first | exact Takes.nil | refine Takes.sl ?_ | refine Takes.lit ?_ | (refine Takes.ownE ?_ ?_ ?_ ?_ ?_; (focus (exact ⟨_, _, (by (repeat (first | exact mh | refine mt ?_)); done)⟩)); (focus (simp; done)); (focus omega); (focus (simp only [maxLen]; omega))) | refine Takes.same ?_)); done)) ?_) | refine zah ?_ | (refine zcr ?_; refine zcs ?_) | (refine zdb ?_; first | refine zdc ?_ | refine zdd ?_ | refine zdg ?_) | refine zaa rfl (opj_fconv rfl hp) ?_
  exact done_ret1 rfl () rfl trivial (List.nil_sublist _)
theorem l01PowerWide_fn (p : CV) : Fn Try.prog 64 (fun _ => [cA p]) (.f .f64 (powF p.1 p.2)) := by
  refine fn_intro Try.func64 rfl Try.ntmps64 (fun _ => Nat.le_of_ble_eq_true rfl) fun w0 => ?_
  unfold cA
  repeat first | refine zaa rfl (zay rfl) ?_ | refine zaa rfl (zaz rfl) ?_ | (refine zac ?_; refine zaa rfl (zba rfl rfl rfl) ?_) | (refine zad ?_; first | refine zaa rfl (zbp rfl) ?_ | refine zaa rfl (zbq rfl) ?_) | refine zaa rfl (zbx rfl) ?_ | refine zah ?_ | (refine zcr ?_; refine zcs ?_) | (refine zdb ?_; first | refine zdc ?_ | refine zdd ?_ | refine zdg ?_)
  exact done_ret1 rfl () rfl trivial (List.nil_sublist _)
theorem l01Long_fn (p : CV) (hp : LongOk p) : Fn Try.prog 35 (fun _ => [cA p]) (.f .f32 (longC p)) := by
  have h := l01PowerWide_fn p
  have h2 := l01Narrow_fn _ hp
  refine fn_intro Try.func35 rfl Try.ntmps35 (fun _ => Nat.le_of_ble_eq_true rfl) fun w0 => ?_
  repeat first | refine zaa rfl (zay rfl) ?_ | refine zaa rfl (zaz rfl) ?_ | (refine zad ?_; first | (refine zaa rfl (zci rfl rfl (h) ?_) ?_; (focus ((repeat (first | exact Takes.nil | refine Takes.sl ?_ | refine Takes.lit ?_ | (refine Takes.ownE ?_ ?_ ?_ ?_ ?_; (focus (exact ⟨_, _, (by (repeat (first | exact mh | refine mt ?_)); done)⟩)); (focus (simp; done)); (focus omega); (focus (simp only [maxLen]; omega))) | refine Takes.same ?_)); done))) | refine zaa rfl (zci rfl rfl (mathSqrt_fn _) (by (repeat (first | exact Takes.nil | refine Takes.sl ?_ | refine Takes.lit ?_ | (refine Takes.ownE ?_ ?_ ?_ ?_ ?_; (focus (exact ⟨_, _, (by (repeat (first | exact mh | refine mt ?_)); done)⟩)); (focus (simp; done)); (focus omega); (focus (simp only [maxLen]; omega))) | refine Takes.same ?_)); done)) ?_ | (refine zaa rfl (zci rfl rfl (h2) ?_) ?_; (focus ((repeat (first | exact Takes.nil | refine Takes.sl ?_ | refine Takes.lit ?_ | (refine Takes.ownE ?_ ?_ ?_ ?_ ?_; (focus (exact ⟨_, _, (by (repeat (first | exact mh | refine mt ?_)); done)⟩)); (focus (simp; done)); (focus omega); (focus (simp only [maxLen]; omega))) | refine Takes.same ?_)); done)))) | refine zah ?_ | (refine zcr ?_; refine zcs ?_) | (refine zdb ?_; first | refine zdc ?_ | refine zdd ?_ | refine zdg ?_)
  exact done_ret1 rfl () rfl trivial (List.nil_sublist _)
theorem specLongOf_fn (p : CV) (hp : LongOk p) : Fn Try.prog 12 (fun _ => [cA p]) (.f .f32 (longC p)) := by
  have h := l01Long_fn p hp
  refine fn_intro Try.func12 rfl Try.ntmps12 (fun _ => Nat.le_of_ble_eq_true rfl) fun w0 => ?_
  repeat first | refine zaa rfl (zay rfl) ?_ | refine zaa rfl (zaz rfl) ?_ | (refine zad ?_; (refine zaa rfl (zci rfl rfl (h) ?_) ?_; (focus ((repeat (first | exact Takes.nil | refine Takes.sl ?_ | refine Takes.lit ?_ | (refine Takes.ownE ?_ ?_ ?_ ?_ ?_; (focus (exact ⟨_, _, (by (repeat (first | exact mh | refine mt ?_)); done)⟩)); (focus (simp; done)); (focus omega); (focus (simp only [maxLen]; omega))) | refine Takes.same ?_)); done)))) | refine zah ?_ | (refine zcr ?_; refine zcs ?_) | (refine zdb ?_; first | refine zdc ?_ | refine zdd ?_ | refine zdg ?_)
  exact done_ret1 rfl () rfl trivial (List.nil_sublist _)
/-- How far points are from those before. -/
def lngF (P : Nat → CV) (i : Int) : FV := longC (subC2 (P (i.toNat + 1)) (P i.toNat))
theorem longsOf_fn (n : Nat) (P : Nat → CV) (hn : 1 ≤ n ∧ n < 2 ^ 40) (hl : ∀ i, i + 1 < n → LongOk (subC2 (P (i + 1)) (P i))) :
    FnH (X := Nat × Nat) Try.prog 52 (fun w => [slC w (tabC n P)]) [] (fun y => .raw (.slice (some ⟨y.1, 0, none⟩) (n - 1 : Nat) y.2)) (fun y => [entF y.1 30 (n - 1) (lngF P) y.2]) (fun y => n - 1 ≤ y.2 ∧ y.2 ≤ maxLen) := by
  refine fn_intro Try.func52 rfl Try.ntmps52 (fun _ => Nat.le_of_ble_eq_true rfl) fun w0 => ?_
  repeat first | refine zaa rfl (zaz rfl) ?_ | refine zah ?_ | (refine zcr ?_; refine zcs ?_) | (refine zdb ?_; first | refine zdc ?_ | refine zdd ?_ | refine zde ?_) | (refine rs_litP rfl rfl rfl rfl rfl rfl ?_; intro g0)
  refine ws_loop (ι := Nat × Nat × Nat) (fun y => [(0, slC w0 (tabC n P)), (3, .raw (.slice (some ⟨y.2.1, 0, none⟩) y.1 y.2.2)), (4, .raw (.int .i64 ((y.1 : Int) + 1)))]) (fun y => St w0 [] [entF y.2.1 30 y.1 (lngF P) y.2.2]) (fun y => y.1 + 1 ≤ n ∧ y.1 ≤ y.2.2 ∧ y.2.2 ≤ maxLen) (fun y => n - y.1) (0, g0, 0) ⟨hn.1, Nat.le_refl _, Nat.zero_le _⟩ ?_ (fun _ h => ?_) (fun y hy => ?_)
  · (repeat (first | exact Env.sub_nil _ | refine Env.sub_cons rfl ?_))
  · unfold entF tab
    exact h
  obtain ⟨j, g, c⟩ := y
  simp only at hy ⊢
  obtain ⟨hj, hc1, hc2⟩ := hy
  repeat first | refine zaa rfl (zay rfl) ?_ | (refine zac ?_; refine zaa rfl (zbe rfl rfl) ?_) | (refine zad ?_; refine zaa rfl (opj_lenC rfl) ?_) | refine zah ?_ | (refine zcr ?_; refine zcs ?_) | (refine zdb ?_; first | refine zdc ?_ | refine zdd ?_)
  refine ws_cond rfl (fun hd => ?_) (fun hd => ?_)
  · have hlt : (j : Int) + 1 < n := of_decide_eq_true hd
    clear hd
    have e1 : ((j : Int) + 1 - 1).toNat = j := by omega
    have e2 : ((j : Int) + 1).toNat = j + 1 := by omega
    have hL := longOf_fn (subC2 (P (j + 1)) (P j)) (hl j (by omega))
    have hM : Fn Try.prog 40 (fun _ => [cA (P ((j : Int) + 1).toNat), cA (P ((j : Int) + 1 - 1).toNat)]) (cA (subC2 (P (j + 1)) (P j))) := by
      rw [e1, e2]
      exact minus_fn _ _
    repeat first | (refine zcr ?_; refine zcs ?_) | (refine zdb ?_; first | refine zdc ?_ | refine zde ?_ | refine zdf ?_)
    refine ws_draw (n := 13) mixed (by decide +kernel) ?_
    repeat first | refine zap rfl (zay rfl) ?_ | (refine zar ?_; refine zap rfl (zbc rfl rfl (by omega)) ?_) | (refine zas ?_; first | (refine zap rfl (zci rfl rfl (hM) ?_) ?_; (focus ((repeat (first | exact Takes.nil | refine Takes.sl ?_ | refine Takes.lit ?_ | (refine Takes.ownE ?_ ?_ ?_ ?_ ?_; (focus (exact ⟨_, _, (by (repeat (first | exact mh | refine mt ?_)); done)⟩)); (focus (simp; done)); (focus omega); (focus (simp only [maxLen]; omega))) | refine Takes.same ?_)); done))) | (refine zap rfl (zci rfl rfl (hL) ?_) ?_; (focus ((repeat (first | exact Takes.nil | refine Takes.sl ?_ | refine Takes.lit ?_ | (refine Takes.ownE ?_ ?_ ?_ ?_ ?_; (focus (exact ⟨_, _, (by (repeat (first | exact mh | refine mt ?_)); done)⟩)); (focus (simp; done)); (focus omega); (focus (simp only [maxLen]; omega))) | refine Takes.same ?_)); done)))) | (refine zat ?_; refine zap rfl (zbu rfl rfl) ?_) | (refine zau ?_; refine zap rfl (opj_indexC rfl rfl (by omega) (by omega)) ?_) | refine zav ?_ | refine zap rfl (zco rfl rfl rfl rfl rfl rfl) ?_
    refine rs_appendT 0 (lngF P) rfl rfl rfl rfl ⟨hc1, hc2⟩ (by omega) rfl rfl rfl (fun s h0 h1 => rfl) fun g3 c3 h3 h3' => ?_
    repeat first | refine zaa rfl (zay rfl) ?_ | refine zaa rfl (zaz rfl) ?_ | (refine zac ?_; refine zaa rfl (zbb rfl rfl (by omega)) ?_) | refine zah ?_ | (refine zcr ?_; first | refine zcs ?_ | refine zcv ?_) | (refine zdb ?_; refine zdd ?_)
    refine done_round (j + 1, g3, c3) ⟨by simp only; omega, h3, h3'⟩ (by simp only; omega) ?_ (fun _ h => h)
    simp only
    rw [show ((j + 1 : Nat) : Int) = (j : Int) + 1 from by omega]
    (repeat (first | exact Env.sub_nil _ | refine Env.sub_cons rfl ?_))
  · have hge : ¬ (j : Int) + 1 < n := of_decide_eq_false hd
    obtain rfl : j = n - 1 := by omega
    repeat first | refine zaa rfl (zay rfl) ?_ | refine zaa rfl (zaz rfl) ?_ | refine zah ?_ | (refine zcr ?_; first | refine zcs ?_ | refine zcu ?_ | refine zcx ?_ | refine zda ?_) | (refine zdb ?_; first | refine zdc ?_ | refine zdd ?_ | refine zdg ?_ | refine zdh ?_)
    exact done_ret1 rfl (g, c) rfl ⟨hc1, hc2⟩ (List.Sublist.cons_cons _ (List.nil_sublist _))
def negC (p : CV) : CV := (fneg .f32 p.2, p.1)
theorem beside_fn (p : CV) : Fn Try.prog 32 (fun _ => [cA p]) (cA (negC p)) := by
  refine fn_intro Try.func32 rfl Try.ntmps32 (fun _ => Nat.le_of_ble_eq_true rfl) fun w0 => ?_
  unfold cA
  repeat first | refine zaa rfl (zay rfl) ?_ | refine zaa rfl (zaz rfl) ?_ | (refine zad ?_; first | refine zaa rfl (zbp rfl) ?_ | refine zaa rfl (zbq rfl) ?_ | refine zaa rfl (zbr rfl rfl) ?_) | refine zah ?_ | (refine zcr ?_; refine zcs ?_) | (refine zdb ?_; first | refine zdc ?_ | refine zdd ?_ | refine zdg ?_) | refine zaa rfl (opj_neg rfl) ?_
  exact done_ret1 rfl () rfl trivial (List.nil_sublist _)
def ptT (b : Bool) (p : CV) : AV := .tup [cA (match b with | true => p | false => (fv .f32 0, fv .f32 0)), .raw (.bool b)]
theorem ifPoint_fn (p : CV) (b : Bool) (hb : finC p = b) : Fn Try.prog 29 (fun _ => [cA p]) (ptT b p) := by
  have h := isFiniteComplex_fn p
  rw [hb] at h
  cases b
  all_goals
    refine fn_intro Try.func29 rfl Try.ntmps29 (fun _ => Nat.le_of_ble_eq_true rfl) fun w0 => ?_
    repeat first | refine zaa rfl (zay rfl) ?_ | refine zaa rfl (zaz rfl) ?_ | (refine zad ?_; (refine zaa rfl (zci rfl rfl (h) ?_) ?_; (focus ((repeat (first | exact Takes.nil | refine Takes.sl ?_ | refine Takes.lit ?_ | (refine Takes.ownE ?_ ?_ ?_ ?_ ?_; (focus (exact ⟨_, _, (by (repeat (first | exact mh | refine mt ?_)); done)⟩)); (focus (simp; done)); (focus omega); (focus (simp only [maxLen]; omega))) | refine Takes.same ?_)); done)))) | refine zaa rfl (zcc rfl) ?_ | refine zah ?_ | (refine zcr ?_; first | refine zcs ?_ | refine zct ?_) | (refine zdb ?_; first | refine zdc ?_ | refine zdd ?_ | refine zdf ?_ | refine zdg ?_ | refine zdi rfl ?_ | refine zdj rfl ?_)
    exact done_ret2 rfl () rfl rfl rfl trivial (List.nil_sublist _)
def unitC (p : CV) : CV := (fbin .quo .f32 p.1 (longC p), fbin .quo .f32 p.2 (longC p))
theorem unit_yes (p : CV) (hp : LongOk p) (h1 : cmpB .gtr (fcmp .f32 (longC p) (fv .f32 0)) = true) (h2 : finC (unitC p) = true) : Fn Try.prog 26 (fun _ => [cA p]) (ptT true (unitC p)) := by
  have hL := longOf_fn p hp
  have hP := ifPoint_fn (unitC p) true h2
  refine fn_intro Try.func26 rfl Try.ntmps26 (fun _ => Nat.le_of_ble_eq_true rfl) fun w0 => ?_
  repeat first | refine zaa rfl (zay rfl) ?_ | refine zaa rfl (zaz rfl) ?_ | (refine zac ?_; refine zaa rfl (zbd rfl rfl rfl) ?_) | (refine zad ?_; (refine zaa rfl (zci rfl rfl (hL) ?_) ?_; (focus ((repeat (first | exact Takes.nil | refine Takes.sl ?_ | refine Takes.lit ?_ | (refine Takes.ownE ?_ ?_ ?_ ?_ ?_; (focus (exact ⟨_, _, (by (repeat (first | exact mh | refine mt ?_)); done)⟩)); (focus (simp; done)); (focus omega); (focus (simp only [maxLen]; omega))) | refine Takes.same ?_)); done)))) | refine zaa rfl (zcc rfl) ?_ | refine zah ?_ | (refine zcr ?_; refine zcs ?_) | (refine zdb ?_; first | refine zdc ?_ | refine zdd ?_)
  rw [h1]
  unfold cA at hP
  unfold cA
  repeat first | refine zaa rfl (zay rfl) ?_ | refine zaa rfl (zaz rfl) ?_ | (refine zac ?_; refine zaa rfl (zba rfl rfl rfl) ?_) | (refine zad ?_; first | refine zaa rfl (zbp rfl) ?_ | refine zaa rfl (zbq rfl) ?_ | refine zaa rfl (zbr rfl rfl) ?_ | (refine zaa rfl (zci rfl rfl (hP) ?_) ?_; (focus ((repeat (first | exact Takes.nil | refine Takes.sl ?_ | refine Takes.lit ?_ | (refine Takes.ownE ?_ ?_ ?_ ?_ ?_; (focus (exact ⟨_, _, (by (repeat (first | exact mh | refine mt ?_)); done)⟩)); (focus (simp; done)); (focus omega); (focus (simp only [maxLen]; omega))) | refine Takes.same ?_)); done)))) | refine zaa rfl (zbz rfl rfl) ?_ | refine zah ?_ | (refine zcr ?_; refine zcs ?_) | (refine zdb ?_; first | refine zdc ?_ | refine zdd ?_ | refine zdf ?_ | refine zdg ?_ | refine zdj rfl ?_)
  exact done_ret2 rfl () rfl rfl rfl trivial (List.nil_sublist _)
theorem ifPoints_yes (n c g : Nat) (f : Nat → CV) (hn : n < 2 ^ 40 ∧ n ≤ c ∧ c ≤ maxLen) (hf : (tabC n f).all finC = true) : FnH (X := Unit) Try.prog 71 (fun _ => [.raw (.slice (some ⟨g, 0, none⟩) n c)]) [entC g n f c]
    (fun _ => .tup [.raw (.slice (some ⟨g, 0, none⟩) n c), .raw (.bool true)]) (fun _ => [entC g n f c]) (fun _ => True) := by
  have hA := arePoints_fn (tabC n f) (by simp; omega)
  rw [hf] at hA
  refine fn_intro Try.func71 rfl Try.ntmps71 (fun _ => Nat.le_of_ble_eq_true rfl) fun w0 => ?_
  repeat first | refine zaa rfl (zay rfl) ?_ | refine zaa rfl (zaz rfl) ?_ | refine zaa rfl (zcc rfl) ?_ | refine zah ?_ | (refine zcr ?_; refine zcs ?_) | (refine zdb ?_; first | refine zdc ?_ | refine zdd ?_ | refine zdf ?_ | refine zdg ?_ | refine zdj rfl ?_) | (refine zaa rfl (zci rfl rfl hA ?_) ?_; (focus (exact Takes.own (List.Mem.head _) (by simp) hn.2.1 hn.2.2 Takes.nil)))
  exact done_ret2 rfl () rfl rfl rfl trivial (List.Sublist.refl _)
end Go.Ab
namespace Go.Ab
theorem sqr_nonneg (a : Rat) : 0 ≤ a * a := by
  rcases Rat.le_total (a := 0) (b := a) with h | h
  · exact Rat.mul_nonneg h h
  · have := Rat.mul_nonneg (show 0 ≤ -a by grind) (show 0 ≤ -a by grind)
    grind
/-- No longer than. -/
structure Le2 (x y B : Rat) : Prop where
  nn : 0 ≤ B
  sq : x * x + y * y ≤ B * B
theorem Le2.dot {x y A u v B : Rat} (h : Le2 x y A) (h' : Le2 u v B) : x * u + y * v ≤ A * B := by
  have n := Rat.mul_nonneg h.nn h'.nn
  rcases Rat.le_total (a := 0) (b := x * u + y * v) with h0 | h0
  · refine sq_le_of h0 n ?_
    have h1 := sqr_nonneg (x * v - y * u)
    have h2 : (x * u + y * v) * (x * u + y * v) ≤ (x * x + y * y) * (u * u + v * v) := by grind
    have a0 : 0 ≤ u * u + v * v := by
      have := sqr_nonneg u
      have := sqr_nonneg v
      grind
    have h3 := Rat.mul_le_mul_of_nonneg_right h.sq a0
    have h4 := Rat.mul_le_mul_of_nonneg_left h'.sq (sqr_nonneg A)
    grind
  · exact Rat.le_trans h0 n
theorem Le2.x {x y A : Rat} (h : Le2 x y A) : -A ≤ x ∧ x ≤ A := by
  have n := h.nn
  have s := h.sq
  have := sqr_nonneg y
  have hx : x * x ≤ A * A := by grind
  constructor
  · rcases Rat.le_total (a := 0) (b := x) with h0 | h0
    · grind
    · have := sq_le_of (a := -x) (b := A) (by grind) n (by grind)
      grind
  · rcases Rat.le_total (a := 0) (b := x) with h0 | h0
    · exact sq_le_of h0 n hx
    · grind
theorem Le2.y {x y A : Rat} (h : Le2 x y A) : -A ≤ y ∧ y ≤ A := Le2.x (x := y) (y := x) ⟨h.nn, by have := h.sq; grind⟩
/-- The length of what is computed, beside a bound. -/
theorem long_up {x y : FV} {p q B : Rat} (hx : Vl .f32 x p) (hy : Vl .f32 y q) (h : Le2 p q B) (hB : B ≤ 1000) : ∃ R, Vl .f32 (longF x y) R ∧ ConvOk .f64 .f32 (fsqrt (powF x y)) ∧ 0 ≤ R ∧ R ≤ B * (1 + 1 / 1000000) + 1 / 1000000000 := by
  have p30 : (1000 : Rat) ≤ p2 30 := by decide +kernel
  have hx' := h.x
  have hy' := h.y
  obtain ⟨R, hR, hc, h0, hs, hn⟩ := vl_long hx hy (by constructor <;> grind) (by constructor <;> grind)
  have n := h.nn
  have s := h.sq
  refine ⟨R, hR, hc, h0, ?_⟩
  have e45 : p2 (-45) ≤ 1 / 1000000000 := by decide +kernel
  have e20 : p2 (-20) ≤ 1 / 1000000 := by decide +kernel
  rcases Rat.le_total (a := p * p + q * q) (b := p2 (-90)) with h90 | h90
  · have := (hs (p2 (-45)) ⟨1, -45, by decide, by decide, by rw [show ((1 : Nat) : Rat) = 1 from rfl, Rat.one_mul]⟩).1 (by rw [← p2_add]; exact h90)
    grind
  · have h1 := (hn h90).2
    have h2 : R * R ≤ B * (1 + 1 / 1000000) * (B * (1 + 1 / 1000000)) := by
      have h4 := sqr_nonneg B
      have h3 := Rat.mul_le_mul_of_nonneg_left e20 (show 0 ≤ p * p + q * q by
        have := sqr_nonneg p
        have := sqr_nonneg q
        grind)
      grind
    have := sq_le_of h0 (show 0 ≤ B * (1 + 1 / 1000000) by grind) h2
    grind
theorem long_lo {x y : FV} {p q B R : Rat} (hx : Vl .f32 x p) (hy : Vl .f32 y q) (hp : -1000 ≤ p ∧ p ≤ 1000) (hq : -1000 ≤ q ∧ q ≤ 1000) (hB : 1 / 1000000000 ≤ B) (h : B * B ≤ p * p + q * q) (hR : Vl .f32 (longF x y) R) : B * (1 - 1 / 1000000) ≤ R := by
  have p30 : (1000 : Rat) ≤ p2 30 := by decide +kernel
  obtain ⟨R', hR', _, h0, hs, hn⟩ := vl_long hx hy (by constructor <;> grind) (by constructor <;> grind)
  obtain rfl := Vl.unique hR hR'
  have e90 : p2 (-90) ≤ 1 / 1000000000 * (1 / 1000000000) := by decide +kernel
  have e20 : p2 (-20) ≤ 1 / 1000000 := by decide +kernel
  have b1 : 1 / 1000000000 * (1 / 1000000000) ≤ B * B := by
    have h1 := Rat.mul_le_mul_of_nonneg_left hB (show (0 : Rat) ≤ 1 / 1000000000 by decide +kernel)
    have h2 := Rat.mul_le_mul_of_nonneg_right hB (show 0 ≤ B by grind)
    grind
  have h1 := (hn (by grind)).1
  have h3 := sqr_nonneg R
  have h4 := Rat.mul_le_mul_of_nonneg_left e20 h3
  have h5 := sqr_nonneg B
  refine sq_le_of (by grind) h0 ?_
  grind
end Go.Ab
namespace Go.Ab
open Go.ChangeShapes Go.WideShapes Go.ChangeAt Go.RowKit
section
variable {H : Type} {enc : TypeId × Value → H} {P : Program}
theorem stays_all (hl : laidOutB P = true) {W W' : World} (hw : Ext W W') : ∀ {ts : List TypeId} {vs : List Value} {ds : List (DataW H)} {ps : List MemPlace}, (∀ t ∈ ts, P.readableRec t = true ∧ t < P.types.size) →
    DataW.TrodAll enc P W 0 (fun _ => true) true ts vs ds ps → (∀ p ∈ ps, p.block < W.heap.size) → ∀ sp : Nat → Bool, (∀ p ∈ ps, sp p.block = true) → DataW.TrodAll enc P W' 0 sp true ts vs ds ps
  | [], vs, ds, ps, _, h, _, sp, _ => by
    obtain ⟨rfl, rfl, rfl⟩ := trodAll_nil h
    exact rfl
  | t :: ts, vs, ds, ps, ht, h, hlt, sp, hsp => by
    obtain ⟨v, vs', d, ds', p, q, rfl, rfl, rfl, h1, h2⟩ := trodAll_cons h
    refine ⟨p, q, ?_, stays_all hl hw (fun t' h' => ht t' (by simp [h'])) h2 (fun x hx => hlt x (by simp [hx])) sp (fun x hx => hsp x (by simp [hx])), rfl⟩
    exact WideElems.Trod_stays hl (ht t (by simp)).1 (ht t (by simp)).2 h1 (fun x hx => RowKit.Below.same hw (hlt x (by simp [hx]))) (fun x hx => hsp x (by simp [hx]))

/-- The row's step of a law that only reads. -/
theorem law_lift {C : Checked} {os : Os} {f : FuncId} {fn : Func} {s : ChangeSpec} {T : TypeId}
    (own : ownKnob C.prog.godebug = none) (started : os.Started) (noInit : C.prog.inits.idxOf? f = none) (hfn : C.prog.funcs[f]? = some fn)
    (witness : ∃ (w : World) (tape : Tape) (i : Input), w.os = os ∧ (w.forCall tape i).Shaped C.prog ∧ i.vars = [] ∧ Input.okWide C.prog (w.forCall tape i) .any w.heap.size f i ∧
      s.pre6 enc C.prog fn [] false (w.forCall tape i).memory i.args ∧ ({} : Assume).holds C.prog (lone (Frame.enter C.prog f i.args .normal) [] (w.forCall tape i)))
    (hvars : s.vars = []) (hspec : ∀ ds : List (DataW H), ds.length = fn.params.size → (s.fn H ds).results = [.lit (.bool true)] ∧ (s.fn H ds).args = ds ∧ (s.fn H ds).vars = [])
    (hres : fn.resultTypes = #[T]) (hT : C.prog.underlying T = some .bool) (hl : laidOutB C.prog = true) (hts : ∀ t ∈ fn.params.toList, C.prog.readableRec t = true ∧ t < C.prog.types.size)
    (h : ∀ (W : World) (base : Nat) (args : Array Value) (ds : List (DataW H)) (ps : List MemPlace), (∀ (j : Nat) t v, fn.params[j]? = some t → args[j]? = some v → Value.okWide C.prog W .any base t v) →
      DataW.TrodAll enc C.prog W 0 (fun _ => true) true fn.params.toList args.toList ds ps → Calls C.prog f args W fun e W' => e = .returned (.bool true) ∧ Ext W W') :
    ReturnsInHanded {} C os f .any (s.pre6 enc C.prog fn [] false) (s.post enc C.prog fn false true false false) := by
  refine returnsInHanded_of_change own started noInit hfn witness ?_
  intro W base args ds gs before hval hW _ _
  obtain ⟨p, q, hA, hV, hps, hnf, hnd⟩ := hW
  have hW : DataW.Whole enc C.prog fn.params.toList s.vars false W args.toList ds gs before := ⟨p, q, hA, hV, hps, hnf, hnd⟩
  have hlen : ds.length = fn.params.size := by
    have : ∀ (ts : List TypeId) (vs : List Value) (ds : List (DataW H)) (ps : List MemPlace), DataW.TrodAll enc C.prog W 0 (fun _ => true) true ts vs ds ps → ds.length = ts.length := by
      intro ts
      induction ts with
      | nil => intro vs ds ps h; obtain ⟨_, rfl, _⟩ := trodAll_nil h; rfl
      | cons t ts ih => intro vs ds ps h; obtain ⟨v, vs', d, ds', p, q, rfl, rfl, rfl, _, h2⟩ := trodAll_cons h; simp [ih _ _ _ h2]
    simpa using this _ _ _ _ hA
  rw [hvars] at hV
  have hgs : gs = [] ∧ q = [] := by
    cases gs with
    | nil => exact ⟨rfl, hV⟩
    | cons g gs => cases hV
  obtain ⟨rfl, rfl⟩ := hgs
  refine (h W base args ds p hval hA).mono fun e W' ⟨he, hext⟩ => ⟨.bool true, he, ?_⟩
  obtain ⟨hr1, hr2, hr3⟩ := hspec (ds ++ []) (by simpa using hlen)
  have hlt : ∀ x ∈ before, x.block < W.heap.size := fun x hx => hW.lt x hx
  have hbp : before = p := by simpa using hps
  subst hbp
  have hargs : ∀ sp : Nat → Bool, (∀ x ∈ before, sp x.block = true) → DataW.TrodAll enc C.prog W' 0 sp true fn.params.toList args.toList (s.fn H (ds ++ [])).args before := fun sp hsp => by
    rw [hr2, List.append_nil]
    exact stays_all hl hext hts hA hlt sp hsp
  have hresu : ∀ (b : Nat) (sp : Nat → Bool) (hd : Bool), DataW.TrodAll enc C.prog W' b sp hd fn.resultTypes.toList ((Value.bool true).resultList fn.resultTypes.size) (s.fn H (ds ++ [])).results [] := fun b sp hd => by
    rw [hr1, hres]
    exact trodAll_mk1 (shut_bool hT true)
  have hvs : ∀ sp : Nat → Bool, DataW.TrodVars enc C.prog W' sp s.vars (s.fn H (ds ++ [])).vars [] := fun sp => by
    rw [hvars, hr3]; exact rfl
  have hok : ∀ (j : Nat) (t : TypeId) (r : Value), fn.resultTypes[j]? = some t → ((Value.bool true).resultList fn.resultTypes.size)[j]? = some r → Value.okWide C.prog W' .any 0 t r := by
    rw [hres]
    intro j t r h1 h2
    have e : (Value.bool true).resultList (#[T] : Array TypeId).size = [.bool true] := rfl
    rw [e] at h2
    cases j with
    | zero =>
      simp at h1 h2
      subst h1; subst h2
      exact okWide_bool_mk hT true
    | succ j => simp at h1
  have hold : ∀ x ∈ before, (fun b => decide (b < W.heap.size)) x.block = true := fun x hx => by simpa using hlt x hx
  refine ⟨ds, [], before, [], before, [], hW, hresu _ _ _, hargs _ hold, hvs _, World.keptBut_mono (fun x hx => ⟨hx, .inr (by simpa using hx)⟩) (RowKit.Below.frame hext (· ∈ before)), fun h => by cases h⟩

theorem trod_int1 {W : World} {t : TypeId} {k : IntKind} {sp : Nat → Bool} {hd : Bool} {fuel base : Nat} {cs : List Value} {x : DataW H × List MemPlace} (ht : P.underlying t = some (.int k)) (h : DataW.trod enc P W base sp hd fuel t cs = some x) :
    ∃ n, cs = [.int k n] ∧ k.min ≤ n ∧ n ≤ k.max := by
  cases fuel with
  | zero => simp [DataW.trod] at h
  | succ fuel =>
    unfold DataW.trod at h
    rw [ht] at h
    split at h <;> simp_all
    rename_i k' b hk
    obtain ⟨⟨rfl, hw⟩, _⟩ := h
    simpa [Lit.wf] using hw

theorem spot_of_cell {W : World} {a : Addr} {u : Value} (h : W.cell? a = some u) : a.spot = none := by
  unfold World.cell? at h
  split at h
  · cases hs : a.spot with
    | none => rfl
    | some s => simp [hs] at h
  · cases h
/-- A slice of one-cell elements that came in: each element is as its reading says. -/
theorem open_sl {α : Type} {m : α → AV} {W : World} {t e : TypeId} {v : Value} {d : DataW H} {p : List MemPlace} {base b2 : Nat} {sp : Nat → Bool} {hd : Bool} [ht : TyU P t (.slice e)] (hc : P.cellsOf e = 1)
    (helem : ∀ (n : Nat) (u : Value) (y : DataW H × List MemPlace), DataW.trod enc P W base sp hd n e [u] = some y → ∃ x : α, Ev (m x) u)
    (hval : Value.okWide P W .any b2 t v) (h : DataW.Trod enc P W base sp hd t v d p) : ∃ L : List α, Rd W 1 v (L.map m) := by
  obtain ⟨a0, n0, c0, rfl⟩ := okWide_slice ht.h hval
  obtain ⟨fuel, h⟩ := h
  rcases Deep.open_slice1 ht.h hc h with ⟨hcs, _⟩ | ⟨a, len, cap, mm, n, V, D, Pl, hcs, _, hl, hm, hmm, _, hx⟩
  · simp [Value.cells] at hcs
    obtain ⟨rfl, rfl, rfl⟩ := hcs
    exact ⟨[], none, 0, 0, rfl, rfl, Nat.le_refl _, by simp [maxLen], fun i x hi => by simp at hi⟩
  · simp [Value.cells] at hcs
    obtain ⟨rfl, rfl, rfl⟩ := hcs
    have hle : n0 ≤ mm := by rw [hmm]; split <;> omega
    have hex : ∀ k, k ≤ n0 → ∃ L : List α, L.length = k ∧ ∀ i x, L[i]? = some x → Ev (m x) (V i) := by
      intro k
      induction k with
      | zero => intro _; exact ⟨[], rfl, fun i x hi => by simp at hi⟩
      | succ k ih =>
        intro hk
        obtain ⟨L, hL, hall⟩ := ih (by omega)
        obtain ⟨x, hxk⟩ := helem _ _ _ (hx k (by omega)).2
        refine ⟨L ++ [x], by simp [hL], fun i y hi => ?_⟩
        rcases Nat.lt_or_ge i k with hik | hik
        · rw [List.getElem?_append_left (by omega)] at hi; exact hall i y hi
        · rw [List.getElem?_append_right (by omega)] at hi
          have : i - L.length = 0 := by
            false_or_by_contra
            rename_i hne
            rw [List.getElem?_eq_none (by simp; omega)] at hi
            cases hi
          have hik' : i = k := by omega
          subst hik'
          rw [this] at hi
          simp at hi
          subst hi
          exact hxk
    obtain ⟨L, hL, hall⟩ := hex n0 (Nat.le_refl _)
    refine ⟨L, some a, n0, c0, rfl, by simp [hL], hl, hm, fun i x hi => ?_⟩
    rw [List.getElem?_map] at hi
    obtain ⟨y, hy, rfl⟩ := Option.map_eq_some_iff.1 hi
    have hin : i < n0 := by rw [← hL]; exact (List.getElem?_eq_some_iff.1 hy).1
    have h0 := (hx 0 (by omega)).1
    have hsp : a.spot = none := by
      have := spot_of_cell h0
      simpa [Addr.add] using this
    refine ⟨a, rfl, hsp, V i, ?_, hall i y hy⟩
    have := (hx i (by omega)).1
    rw [addr_add a hsp] at this
    exact this
end
end Go.Ab
namespace Go.Ab
open Go.Proofs
variable {R : World → Prop} [RStab R]
abbrev By := Fin 256
def byA (x : By) : AV := .raw (.int .u8 (x.val : Int))
abbrev slB (w : World) (L : List By) : AV := AV.sl w 1 (L.map byA)
theorem open_slB {H : Type} {enc : TypeId × Value → H} {P : Program} {W : World} {t e : TypeId} {v : Value} {d : DataW H} {p : List MemPlace} {base b2 : Nat} {sp : Nat → Bool} {hd : Bool} [ht : TyU P t (.slice e)] [he : TyU P e (.int .u8)] (hc : P.cellsOf e = 1)
    (hval : Value.okWide P W .any b2 t v) (h : DataW.Trod enc P W base sp hd t v d p) : ∃ L : List By, Rel W (slB W L) v := by
  obtain ⟨L, hL⟩ := open_sl (m := byA) hc (fun n u y hy => by
    obtain ⟨b, hb, h1, h2⟩ := trod_int1 he.h hy
    have hmin : IntKind.u8.min = 0 := by decide
    have hmax : IntKind.u8.max = 255 := by decide
    rw [hmin] at h1
    rw [hmax] at h2
    obtain rfl : u = .int .u8 b := by simpa using hb
    refine ⟨⟨b.toNat, by omega⟩, ?_⟩
    have : (((⟨b.toNat, by omega⟩ : By).val : Nat) : Int) = b := by
      show ((b.toNat : Nat) : Int) = b
      omega
    unfold byA
    rw [this]
    exact fun _ => .raw) hval h
  exact ⟨L, .q hL⟩
section
variable {P : Program} {N : Nat} {S : World → Prop} {e : Env} {Q : Exit → Env → World → Prop} {ops : Array Oper} {l : List Oper}
variable {w0 w1 : World} {gs : List Nat} {H : List Ent} {dst : Option Tmp} {ty : TypeId} {pos : String} {after : Array Edge} {guard : Option (Nat × Bool)}
def KeepW (w1 w0 : World) (gs : List Nat) : Prop := Ext w1 w0 ∧ ∀ g ∈ gs, w1.heap.size ≤ g
theorem StR.extK {R0 : World → Prop} {w : World} (hk : KeepW w1 w0 gs) (h : StR R0 w0 gs H w) : Ext w1 w := by
  obtain ⟨h1, h2⟩ := hk
  refine ⟨h.mod.os.trans h1.os, h.mod.tape.trans h1.tape, h.mod.output.trans h1.output, Nat.le_trans h1.size h.mod.size, fun k hk => ?_⟩
  exact (h.mod.block k (Nat.lt_of_lt_of_le hk h1.size) (fun hm => by have := h2 k hm; omega)).trans (RowKit.Below.block h1 k hk)
theorem opj_lenK {R0 : World → Prop} {α : Type} {m : α → AV} {L : List α} {X : Operand} {t t2 : TypeId} {b : Nat} {z : Value} {el : TypeId} (hk : KeepW w1 w0 gs) [hu : TyU P t (.slice el)] [hi : TyI P el z 1 b] (hx : e.ev X = some (AV.sl w1 1 (L.map m))) :
    OpJ P (StR R0 w0 gs H) e ⟨dst, .call { callee := .builtin .len, args := #[X], argTypes := #[t] }, t2, pos, after, guard⟩ (.raw (.int .i64 (L.length : Int))) :=
  opj_value fun a w hS h => by
    have h1 := ((h X (by simp [Op.operands, Call.operands]) _ hx).inv_q : Rd w1 1 _ _).ext (hS.extK hk)
    obtain ⟨ad, len, cap, hv, hl, _, _, _⟩ := h1
    refine ⟨_, w, ?_, Ext.refl _, .raw⟩
    have : L.length = len := by simpa using hl
    rw [this]
    simp [execOp, resolve, invoke, builtin, Builtin.len_, run_underlying hu.h, hv, goInt]
theorem opj_indexK {R0 : World → Prop} {α : Type} [Inhabited α] {m : α → AV} {L : List α} {X I : Operand} {i : Int} {t : TypeId} {b : Nat} {z : Value} {el : TypeId} (hk : KeepW w1 w0 gs) [hu : TyU P t (.slice el)] [hi : TyI P el z 1 b]
    (hx : e.ev X = some (AV.sl w1 1 (L.map m))) (hI : e.ev I = some (.raw (.int .i64 i))) (h0 : 0 ≤ i) (hlt : i < (L.length : Int)) :
    OpJ P (StR R0 w0 gs H) e ⟨dst, .indexAddr t X I, ty, pos, after, guard⟩ (AV.ptr [m (L.getD i.toNat default)]) :=
  opj_value fun a w hS h => by
    have h1 := ((h X (by simp [Op.operands]) _ hx).inv_q : Rd w1 1 _ _).ext (hS.extK hk)
    have h2 := (h I (by simp [Op.operands]) _ hI).inv_raw
    obtain ⟨ad, len, cap, hv, hl, hc, hm, hr⟩ := h1
    have hlen : L.length = len := by simpa using hl
    have hget : (L.map m)[i.toNat]? = some (m (L.getD i.toNat default)) := by
      have hlt' : i.toNat < L.length := by omega
      simp [List.getD, hlt']
    obtain ⟨bb, hbb, hsp, u, hu', hev⟩ := hr _ _ hget
    subst hbb
    have hil' : i < (len : Int) := by omega
    refine ⟨_, w, ?_, Ext.refl _, .p (mono_ptrTo _) (?_ : PtrTo _ w (.pointer (some (bb.add (i.toNat * 1)))))⟩
    · simp [execOp, h2, hv, Instr.indexAt, asIntOf, run_underlying hu.h, run_size hi, h0, hil']
    · rw [addr_add bb hsp, Nat.mul_one]
      refine ⟨_, rfl, rfl, fun j x hj => ?_⟩
      cases j with
      | succ j => simp at hj
      | zero =>
        simp only [List.getElem?_cons_zero, Option.some.injEq] at hj
        subst hj
        exact ⟨u, hu', hev⟩
/-- What a predicate of the value alone tells. -/
theorem ws_q {c : Code} {t : Nat} {φ : Value → Prop} (h : e.look t = some (.q φ)) (hk : ∀ v, φ v → WS P N c ((t, .raw v) :: e) S Q) : WS P N c e S Q := fun a w hS hF => by
  obtain ⟨u, hu, hr⟩ := hF.rel t _ h
  refine hk u hr.inv_q a w hS ⟨hF.defers, hF.size, fun s v hs => ?_⟩
  simp only [Env.look] at hs
  cases hb : Nat.beq t s with
  | true =>
    have := Nat.eq_of_beq_eq_true hb
    subst this
    simp only [hb, Option.some.injEq] at hs
    subst hs
    exact ⟨u, hu, .raw⟩
  | false =>
    simp only [hb] at hs
    exact hF.rel s v hs
/-- What the state tells of no world. -/
theorem ws_fact {c : Code} {φ : Prop} (hφ : ∀ w, S w → φ) (h : φ → WS P N c e S Q) : WS P N c e S Q := fun a w hS hF => h (hφ w hS) a w hS hF
theorem own_new {R0 : World → Prop} {w : World} {en : Ent} (h : StR R0 w0 [] H w) (hm : en ∈ H) : w0.heap.size ≤ en.g := by
  rcases (h.own en hm).1 with h1 | h1
  · cases h1
  · exact h1
theorem opj_intW {op : BinOp} (hop : isArithI op = true) {t t' : TypeId} {X Y : Operand} {k : IntKind} {x y : Int} (hx : e.ev X = some (.raw (.int k x))) (hy : e.ev Y = some (.raw (.int k y))) :
    OpJ P S e ⟨dst, .binOp op t X Y t', ty, pos, after, guard⟩ (.raw (.int k (k.wrap (arithI op x y)))) :=
  opj_value fun a w _ h => by
    have h1 := (h X (by simp [Op.operands]) _ hx).inv_raw
    have h2 := (h Y (by simp [Op.operands]) _ hy).inv_raw
    refine ⟨_, w, ?_, Ext.refl _, .raw⟩
    cases op <;> first | (cases hop; done) | simp [execOp, h1, h2, eqGuard, binOp, Op.intArith, arithI]
theorem opj_mulW {t t' : TypeId} {X Y : Operand} {x y : Int} (hx : e.ev X = some (.raw (.int .u64 x))) (hy : e.ev Y = some (.raw (.int .u64 y))) :
    OpJ P S e ⟨dst, .binOp .mul t X Y t', ty, pos, after, guard⟩ (.raw (.int .u64 (IntKind.u64.wrap (x * y)))) := opj_intW (op := .mul) rfl hx hy
theorem opj_addW {t t' : TypeId} {X Y : Operand} {x y : Int} (hx : e.ev X = some (.raw (.int .u64 x))) (hy : e.ev Y = some (.raw (.int .u64 y))) :
    OpJ P S e ⟨dst, .binOp .add t X Y t', ty, pos, after, guard⟩ (.raw (.int .u64 (IntKind.u64.wrap (x + y)))) := opj_intW (op := .add) rfl hx hy
theorem opj_shrW {t t' : TypeId} {X Y : Operand} {x y : Int} (h0 : 0 ≤ y) (hx : e.ev X = some (.raw (.int .u64 x))) (hy : e.ev Y = some (.raw (.int .u64 y))) :
    OpJ P S e ⟨dst, .binOp .shr t X Y t', ty, pos, after, guard⟩ (.raw (.int .u64 (x.fdiv (2 ^ min y.toNat 64)))) :=
  opj_value fun a w _ h => by
    have h1 := (h X (by simp [Op.operands]) _ hx).inv_raw
    have h2 := (h Y (by simp [Op.operands]) _ hy).inv_raw
    have hb : IntKind.u64.bits = 64 := rfl
    have h3 : ¬ y < 0 := by omega
    exact ⟨_, w, by simp [execOp, h1, h2, eqGuard, binOp, Op.shift, h3, hb], Ext.refl _, .raw⟩
def andW (x y : Int) : Int := IntKind.u64.wrap ((BitVec.ofInt 64 x &&& BitVec.ofInt 64 y).toNat : Int)
theorem opj_andW {t t' : TypeId} {X Y : Operand} {x y : Int} (hx : e.ev X = some (.raw (.int .u64 x))) (hy : e.ev Y = some (.raw (.int .u64 y))) :
    OpJ P S e ⟨dst, .binOp .and t X Y t', ty, pos, after, guard⟩ (.raw (.int .u64 (andW x y))) :=
  opj_value fun a w _ h => by
    have h1 := (h X (by simp [Op.operands]) _ hx).inv_raw
    have h2 := (h Y (by simp [Op.operands]) _ hy).inv_raw
    refine ⟨_, w, ?_, Ext.refl _, .raw⟩
    have hr : (binOp .and t (.int .u64 x) (.int .u64 y)).run P w = .ok (.int .u64 (andW x y)) w := by
      have h3 : (Op.intBits .and .u64 x y).run P w = .ok (.int .u64 (andW x y)) w := rfl
      simpa [binOp] using h3
    simp [execOp, h1, h2, eqGuard, hr]
theorem andW_255 (x : Int) : 0 ≤ andW x 255 ∧ andW x 255 ≤ 255 := by
  unfold andW
  have h1 : (BitVec.ofInt 64 x &&& BitVec.ofInt 64 255).toNat ≤ 255 := by
    have e2 : (BitVec.ofInt 64 255).toNat = 2 ^ 8 - 1 := by decide
    rw [BitVec.toNat_and, e2, Nat.and_two_pow_sub_one_eq_mod]
    have := Nat.mod_lt (BitVec.ofInt 64 x).toNat (show 0 < 2 ^ 8 by decide)
    omega
  rw [IntWalk.u64_in _ (by omega)]
  omega
theorem opj_byte {src dt : TypeId} {X : Operand} {x : By} [hs : TyU P src (.int .u8)] [hd : TyU P dt (.int .i64)] (hx : e.ev X = some (byA x)) : OpJ P S e ⟨dst, .convert src dt X, ty, pos, after, guard⟩ (.raw (.int .i64 (x.val : Int))) := by
  have h := opj_iint (P := P) (S := S) (e := e) (dst := dst) (ty := ty) (pos := pos) (after := after) (guard := guard) (k0 := .u8) (k := .u8) (k' := .i64) (hs := hs) (hd := hd) hx
  rwa [IntWalk.i64_in _ (by have := x.isLt; omega)] at h
theorem opj_small {src dt : TypeId} {X : Operand} {k0 k : IntKind} {n : Int} [hs : TyU P src (.int k0)] [hd : TyU P dt (.int .i64)] (hx : e.ev X = some (.raw (.int k n))) (hn : -9223372036854775808 ≤ n ∧ n ≤ 9223372036854775807) : OpJ P S e ⟨dst, .convert src dt X, ty, pos, after, guard⟩ (.raw (.int .i64 n)) := by
  have h := opj_iint (P := P) (S := S) (e := e) (dst := dst) (ty := ty) (pos := pos) (after := after) (guard := guard) (k0 := k0) (k := k) (k' := .i64) (hs := hs) (hd := hd) hx
  rwa [IntWalk.i64_in _ hn] at h
end
theorem opj_and255 {P : Program} {S : World → Prop} {e : Env} {dst : Option Tmp} {ty : TypeId} {pos : String} {after : Array Edge} {guard : Option (Nat × Bool)} {src dt : TypeId} {X : Operand} {x : Int} [hs : TyU P src (.int .u64)] [hd : TyU P dt (.int .i64)] (hx : e.ev X = some (.raw (.int .u64 (andW x 255)))) : OpJ P S e ⟨dst, .convert src dt X, ty, pos, after, guard⟩ (.raw (.int .i64 (andW x 255))) :=
  opj_small (k0 := .u64) hx (by have := andW_255 x; omega)
class SrcT (P : Program) (t : TypeId) : Prop where
  b1 : ∀ (w : World) (a : Option Addr) (n c : Nat), (Instr.build t #[(0, .slice a n c)]).run P w = .ok (.agg #[.slice a n c, .int .i64 0, .int .u64 0]) w
instance srcTi : SrcT Try.prog 71 := ⟨fun w a n c => by kernel_rfl⟩
section
variable {P : Program} {S : World → Prop} {e : Env} {dst : Option Tmp} {ty : TypeId} {pos : String} {after : Array Edge} {guard : Option (Nat × Bool)}
theorem opj_buildSrc {t : TypeId} [hb : SrcT P t] {X : Operand} {w1 : World} {us : List AV} (hx : e.ev X = some (AV.sl w1 1 us)) : OpJ P S e ⟨dst, .build t #[(0, X)], ty, pos, after, guard⟩ (.agg [AV.sl w1 1 us, .raw (.int .i64 0), .raw (.int .u64 0)]) :=
  opj_value fun ac w _ h => by
    have h1 := (h X (by simp [Op.operands]) _ hx)
    obtain ⟨a, n, c, hv, hr⟩ := (h1.inv_q : Rd w1 1 _ _)
    refine ⟨.agg #[.slice a n c, .int .i64 0, .int .u64 0], w, ?_, Ext.refl _, .agg (vs := [.slice a n c, .int .i64 0, .int .u64 0]) (.cons (.q ⟨a, n, c, rfl, hr⟩) (.cons .raw (.cons .raw .nil)))⟩
    simp only [execOp, List.map_toArray, List.map_cons, List.map_nil, hv, Sem.run_bind, hb.b1, Result.andThen_ok]
    rfl
end
attribute [local irreducible] WS RS Done OpJ Then InBlock Round Ret Env.sub FnH
theorem b10Long_fn (L M : List By) : Fn Try.prog 4 (fun w => [slB w L, slB w M]) (.raw (.bool (decide ((1048576 : Int) < L.length) || decide ((1048576 : Int) < M.length)))) := by
  refine fn_intro Try.func4 rfl Try.ntmps4 (fun _ => Nat.le_of_ble_eq_true rfl) fun w0 => ?_
  repeat first | refine zaa rfl (zay rfl) ?_ | refine zaa rfl (zaz rfl) ?_ | (refine zac ?_; refine zaa rfl (zbg rfl rfl) ?_) | (refine zad ?_; refine zaa rfl (zbm rfl) ?_) | refine zah ?_ | (refine zcr ?_; refine zcs ?_) | (refine zdb ?_; first | refine zdc ?_ | refine zdd ?_)
  cases decide ((1048576 : Int) < L.length)
  all_goals
    repeat first | refine zai rfl rfl ?_ | refine zaj rfl rfl rfl rfl ?_ | refine zaa rfl (zay rfl) ?_ | refine zaa rfl (zaz rfl) ?_ | (refine zac ?_; refine zaa rfl (zbg rfl rfl) ?_) | (refine zad ?_; refine zaa rfl (zbm rfl) ?_) | refine zaa rfl (zca rfl rfl) ?_ | refine zaa rfl (zcb rfl rfl) ?_ | refine zah ?_ | (refine zcr ?_; refine zcs ?_) | (refine zdb ?_; refine zdg ?_)
    exact done_ret1 rfl () rfl trivial (List.nil_sublist _)
theorem b10At_fn (L : List By) (i n : Int) (hn : 2 ≤ n) (hi : 0 ≤ i ∧ i < 2 ^ 40) : FnH (X := Int) Try.prog 6 (fun w => [slB w L, .raw (.int .i64 i), .raw (.int .i64 n)]) [] (fun y => .raw (.int .i64 y)) (fun _ => []) (fun y => 0 ≤ y ∧ y < n) := by
  refine fn_intro Try.func6 rfl Try.ntmps6 (fun _ => Nat.le_of_ble_eq_true rfl) fun w0 => ?_
  repeat first | refine zaa rfl (zay rfl) ?_ | refine zaa rfl (zaz rfl) ?_ | (refine zac ?_; refine zaa rfl (zbf rfl rfl) ?_) | refine zah ?_ | (refine zcr ?_; refine zcs ?_) | (refine zdb ?_; first | refine zdc ?_ | refine zdd ?_)
  rw [decide_eq_false (show ¬ n ≤ 1 by omega)]
  repeat first | refine zaa rfl (zay rfl) ?_ | (refine zac ?_; refine zaa rfl (zbe rfl rfl) ?_) | (refine zad ?_; refine zaa rfl (zbm rfl) ?_) | refine zah ?_ | (refine zcr ?_; refine zcs ?_) | (refine zdb ?_; first | refine zdc ?_ | refine zdd ?_ | refine zdf ?_ | refine zdj rfl ?_)
  refine ws_cond rfl (fun hd => ?_) (fun hd => ?_)
  · have hlt := of_decide_eq_true hd
    have hby := (L.getD i.toNat default).isLt
    repeat first | refine zaa rfl (zay rfl) ?_ | refine zaa rfl (zaz rfl) ?_ | (refine zac ?_; refine zaa rfl (zcq rfl rfl (by omega) (by omega)) ?_) | (refine zae ?_; refine zaa rfl (zbu rfl rfl) ?_) | (refine zaf ?_; refine zaa rfl (zbv rfl rfl (by omega) (by omega)) ?_) | refine zah ?_ | (refine zcr ?_; first | refine zcs ?_ | refine zct ?_) | (refine zdb ?_; first | refine zdc ?_ | refine zdd ?_ | refine zdg ?_) | refine zaa rfl (opj_byte rfl) ?_
    exact done_ret1 rfl _ rfl ⟨Int.emod_nonneg _ (by omega), Int.emod_lt_of_pos _ (by omega)⟩ (List.nil_sublist _)
  · repeat first | refine zaa rfl (zay rfl) ?_ | refine zaa rfl (zaz rfl) ?_ | (refine zac ?_; first | refine zaa rfl (zbb rfl rfl (by omega)) ?_ | refine zaa rfl (opj_mul rfl rfl (by omega)) ?_ | refine zaa rfl (zcq rfl rfl (by omega) (by omega)) ?_) | refine zah ?_ | (refine zcr ?_; refine zcs ?_) | (refine zdb ?_; first | refine zdc ?_ | refine zdd ?_ | refine zdf ?_ | refine zdg ?_)
    exact done_ret1 rfl _ rfl ⟨Int.emod_nonneg _ (by omega), Int.emod_lt_of_pos _ (by omega)⟩ (List.nil_sublist _)
abbrev srcE (w1 : World) (g : Nat) (L : List By) (at_ seed : Int) : Ent := ⟨g, 71, [slB w1 L, .raw (.int .i64 at_), .raw (.int .u64 seed)], 3⟩
/-- The source's place, younger than a world of which no block has turned. -/
def srcP (w1 : World) (g : Nat) (w : World) : AV := .q fun v => v = .pointer (some ⟨g, 0, none⟩) ∧ Ext w1 w ∧ w1.heap.size ≤ g
theorem Takes.srcP {R0 : World → Prop} {w0 w1 : World} {gs : List Nat} {H : List Ent} {g : Nat} {args : List AV} {A : World → List AV} (hk : KeepW w1 w0 gs) (hg : w1.heap.size ≤ g) (h : Takes (StR R0 w0 gs H) args A) :
    Takes (StR R0 w0 gs H) (.raw (.pointer (some ⟨g, 0, none⟩)) :: args) (fun w => Go.Ab.srcP w1 g w :: A w) := fun w vs hS hr => by
  obtain ⟨v, r, rfl, hv, hr⟩ := hr.inv_cons
  rw [hv.inv_raw]
  exact .cons (.q ⟨rfl, hS.extK hk, hg⟩) (h w r hS hr)
theorem l00From_fn (w1 : World) (L : List By) : FnH (X := Nat) Try.prog 19 (fun _ => [slB w1 L]) [] (fun g => .raw (.pointer (some ⟨g, 0, none⟩))) (fun g => [srcE w1 g L 0 0]) (fun _ => True) := by
  refine fn_intro Try.func19 rfl Try.ntmps19 (fun _ => Nat.le_of_ble_eq_true rfl) fun w0 => ?_
  repeat first | refine zaa rfl (zay rfl) ?_ | refine zaa rfl (zaz rfl) ?_ | refine zah ?_ | (refine zcr ?_; refine zcs ?_) | (refine zdb ?_; first | refine zdc ?_ | refine zdd ?_ | refine zdg ?_) | (refine zak rfl rfl rfl ?_; intro g) | refine zaa rfl (opj_buildSrc rfl) ?_
  exact done_ret1 rfl g rfl trivial (List.Sublist.refl _)
/-- What a draw leaves. -/
structure Dr where
  r : Int
  at_ : Int
  seed : Int
theorem next_fn (w1 : World) (g : Nat) (L : List By) (at_ seed : Int) (hat : 0 ≤ at_ ∧ at_ < 2 ^ 40) (hL : L.length < 2 ^ 40) :
    FnH (X := Dr) Try.prog 53 (fun w => [srcP w1 g w]) [srcE w1 g L at_ seed] (fun y => .raw (.int .i64 y.r)) (fun y => [srcE w1 g L y.at_ y.seed]) (fun y => 0 ≤ y.r ∧ y.r ≤ 255 ∧ y.at_ = at_ + 1) := by
  refine fn_intro Try.func53 rfl Try.ntmps53 (fun _ => Nat.le_of_ble_eq_true rfl) fun w0 => ?_
  refine ws_q (t := 0) rfl fun v hv => ?_
  obtain ⟨rfl, hx, hg⟩ := hv
  have hk : KeepW w1 w0 [g] := ⟨hx, fun x hx => by simp at hx; omega⟩
  repeat first | refine zaa rfl (zaz rfl) ?_ | refine zah ?_ | (refine zcr ?_; refine zcs ?_) | (refine zdb ?_; first | refine zdc ?_ | refine zdd ?_)
  refine ws_draw (n := 10) mixed (by decide +kernel) ?_
  repeat first | refine zap rfl (zay rfl) ?_ | (refine zar ?_; refine zap rfl (zbe rfl rfl) ?_) | (refine zat ?_; refine zap rfl (zcf rfl rfl (by (repeat (first | exact mh | refine mt ?_)); done) rfl) ?_) | refine zap rfl (zcd rfl) ?_ | refine zav ?_ | refine zap rfl (opj_nilCheck rfl) ?_ | refine zap rfl (opj_lenK hk rfl) ?_
  repeat first | refine zah ?_ | (refine zcr ?_; refine zcs ?_)
  refine ws_thenJ (fun b : Int => [(0, .raw (.pointer (some ⟨g, 0, none⟩))), (3, .raw (.int .i64 b))]) (fun _ => St w0 [g] [srcE w1 g L at_ seed]) (fun b => 0 ≤ b ∧ b ≤ 255) (ws_cond rfl (fun hd => ?_) (fun hd => ?_)) (fun b hb => ?_)
  · have hlt := of_decide_eq_true hd
    have hby := (L.getD at_.toNat default).isLt
    skip
    refine ws_draw (n := 12) mixed (by decide +kernel) ?_
    repeat first | refine zap rfl (zay rfl) ?_ | refine zap rfl (zaz rfl) ?_ | (refine zat ?_; first | refine zap rfl (zcf rfl rfl (by (repeat (first | exact mh | refine mt ?_)); done) rfl) ?_ | refine zap rfl (zbu rfl rfl) ?_) | refine zap rfl (zcd rfl) ?_ | refine zav ?_ | refine zap rfl (opj_nilCheck rfl) ?_ | refine zap rfl (opj_indexK hk rfl rfl (by omega) (by omega)) ?_ | refine zap rfl (opj_byte rfl) ?_
    repeat (refine zah ?_)
    refine done_join ((L.getD at_.toNat default).val : Int) (by omega) ?_ (fun _ h => h)
    (repeat (first | exact Env.sub_nil _ | refine Env.sub_cons rfl ?_))
  · repeat ((refine zdb ?_; refine zdf ?_))
    refine done_join (0 : Int) (by omega) ?_ (fun _ h => h)
    (repeat (first | exact Env.sub_nil _ | refine Env.sub_cons rfl ?_))
  repeat first | refine zaa rfl (zay rfl) ?_ | (refine zac ?_; first | refine zaa rfl (zbb rfl rfl (by omega)) ?_ | refine zaa rfl (opj_mulW rfl rfl) ?_ | refine zaa rfl (opj_addW rfl rfl) ?_) | (refine zae ?_; refine zaa rfl (zcf rfl rfl (by (repeat (first | exact mh | refine mt ?_)); done) rfl) ?_) | refine zaa rfl (zcd rfl) ?_ | refine zah ?_ | (refine zcr ?_; refine zcs ?_) | (refine zdb ?_; first | refine zdc ?_ | refine zdd ?_) | (refine zag ?_; refine zam 0 rfl rfl rfl rfl rfl rfl ?_) | refine zaa rfl (opj_nilCheck rfl) ?_ | refine zaa rfl (opj_iint (k0 := .i64) (k' := .u64) rfl) ?_
  refine ws_draw (n := 10) mixed (by decide +kernel) ?_
  repeat first | refine zap rfl (zay rfl) ?_ | (refine zar ?_; refine zap rfl (zbf rfl rfl) ?_) | (refine zat ?_; refine zap rfl (zcf rfl rfl (by (repeat (first | exact mh | refine mt ?_)); done) rfl) ?_) | refine zap rfl (zcd rfl) ?_ | refine zav ?_ | refine zap rfl (opj_nilCheck rfl) ?_ | refine zap rfl (opj_lenK hk rfl) ?_
  repeat first | refine zah ?_ | (refine zcr ?_; refine zcs ?_)
  refine ws_cond rfl (fun hd => ?_) (fun hd => ?_)
  · repeat first | refine zaa rfl (zay rfl) ?_ | refine zaa rfl (zaz rfl) ?_ | refine zah ?_ | (refine zcr ?_; first | refine zcs ?_ | refine zct ?_) | (refine zdb ?_; first | refine zdc ?_ | refine zdd ?_ | refine zdg ?_)
    exact done_ret1 rfl (⟨b, at_ + 1, _⟩ : Dr) rfl ⟨hb.1, hb.2, rfl⟩ (List.Sublist.refl _)
  · repeat first | refine zaa rfl (zay rfl) ?_ | refine zaa rfl (zaz rfl) ?_ | (refine zac ?_; first | refine zaa rfl (opj_shrW (by omega) rfl rfl) ?_ | refine zaa rfl (opj_andW rfl rfl) ?_) | (refine zae ?_; refine zaa rfl (zcf rfl rfl (by (repeat (first | exact mh | refine mt ?_)); done) rfl) ?_) | refine zaa rfl (zcd rfl) ?_ | refine zah ?_ | (refine zcr ?_; refine zcs ?_) | (refine zdb ?_; first | refine zdc ?_ | refine zdd ?_ | refine zdf ?_ | refine zdg ?_) | refine zaa rfl (opj_nilCheck rfl) ?_ | refine zaa rfl (opj_and255 rfl) ?_
    exact done_ret1 rfl (⟨_, at_ + 1, _⟩ : Dr) rfl ⟨(andW_255 _).1, (andW_255 _).2, rfl⟩ (List.Sublist.refl _)
theorem pick_fn (w1 : World) (g : Nat) (L : List By) (at_ seed : Int) (n : Int) (hn : 2 ≤ n ∧ n ≤ 200) (hat : 0 ≤ at_ ∧ at_ < 2 ^ 40) (hL : L.length < 2 ^ 40) :
    FnH (X := Dr) Try.prog 20 (fun w => [srcP w1 g w, .raw (.int .i64 n)]) [srcE w1 g L at_ seed] (fun y => .raw (.int .i64 y.r)) (fun y => [srcE w1 g L y.at_ y.seed]) (fun y => 0 ≤ y.r ∧ y.r < n ∧ y.at_ = at_ + 1) := by
  have hnx := next_fn w1 g L at_ seed hat hL
  refine fn_intro Try.func20 rfl Try.ntmps20 (fun _ => Nat.le_of_ble_eq_true rfl) fun w0 => ?_
  refine ws_q (t := 0) rfl fun v hv => ?_
  obtain ⟨rfl, hx, hg⟩ := hv
  have hk : KeepW w1 w0 [g] := ⟨hx, fun x hx => by simp at hx; omega⟩
  repeat first | refine zaa rfl (zay rfl) ?_ | refine zaa rfl (zaz rfl) ?_ | (refine zac ?_; refine zaa rfl (zbf rfl rfl) ?_) | refine zah ?_ | (refine zcr ?_; refine zcs ?_) | (refine zdb ?_; first | refine zdc ?_ | refine zdd ?_)
  rw [decide_eq_false (show ¬ n ≤ 1 by omega)]
  repeat first | refine zaa rfl (zay rfl) ?_ | refine zaa rfl (zaz rfl) ?_ | (refine zac ?_; refine zaa rfl (zbg rfl rfl) ?_) | refine zah ?_ | (refine zcr ?_; refine zcs ?_) | (refine zdb ?_; first | refine zdc ?_ | refine zdd ?_ | refine zdf ?_ | refine zdj rfl ?_) | (refine rs_callAt 0 hnx rfl rfl rfl (Takes.srcP hk hg Takes.nil) rfl ?_; rintro ⟨r, a2, s2⟩ ⟨hr1, hr2, hr3⟩)
  rw [decide_eq_false (show ¬ (200 : Int) < n by omega)]
  simp only at hr1 hr2 hr3
  repeat first | refine zaa rfl (zay rfl) ?_ | refine zaa rfl (zaz rfl) ?_ | (refine zac ?_; refine zaa rfl (zcq rfl rfl (by omega) (by omega)) ?_) | refine zah ?_ | (refine zcr ?_; refine zcs ?_) | (refine zdb ?_; first | refine zdc ?_ | refine zdd ?_ | refine zdf ?_ | refine zdg ?_ | refine zdj rfl ?_)
  exact done_ret1 rfl (⟨_, a2, s2⟩ : Dr) rfl ⟨Int.emod_nonneg _ (by omega), Int.emod_lt_of_pos _ (by omega), hr3⟩ (List.Sublist.refl _)
theorem quarter_vl {x : Int} (h : -1000 ≤ x ∧ x ≤ 1000) : Vl .f32 (fbin .quo .f32 (some (FloatKind.f32.nearest x)) (fv .f32 1082130432)) ((x : Rat) / 4) := by
  have h1 : Vl .f32 (some (FloatKind.f32.nearest x)) (x : Rat) := vl_ofInt .f32 x (by have : FloatKind.f32.format.fractionBits = 23 := rfl; rw [this]; omega)
  refine div_ex h1 (Vl.c (q := 4) (by decide +kernel)) (by decide +kernel) (Rat.div_mul_cancel (by decide +kernel)) x 2 (by omega) (by decide) ?_
  rw [show ((2 ^ 2 : Nat) : Rat) = 4 from rfl]
  exact Rat.div_mul_cancel (by decide +kernel)
def gapF (x y : FV) : FV := if cmpB .lss (fcmp .f64 x y) = true then fbin .sub .f64 y x else fbin .sub .f64 x y
theorem b10Gap_fn (x y : FV) : Fn Try.prog 11 (fun _ => [.f .f64 x, .f .f64 y]) (.f .f64 (gapF x y)) := by
  unfold gapF
  refine fn_intro Try.func11 rfl Try.ntmps11 (fun _ => Nat.le_of_ble_eq_true rfl) fun w0 => ?_
  repeat first | refine zaa rfl (zay rfl) ?_ | refine zaa rfl (zaz rfl) ?_ | (refine zac ?_; refine zaa rfl (zbd rfl rfl rfl) ?_) | refine zah ?_ | (refine zcr ?_; refine zcs ?_) | (refine zdb ?_; first | refine zdc ?_ | refine zdd ?_)
  refine ws_cond rfl (fun hd => ?_) (fun hd => ?_)
  · rw [if_pos hd]
    repeat first | refine zaa rfl (zay rfl) ?_ | refine zaa rfl (zaz rfl) ?_ | (refine zac ?_; refine zaa rfl (zba rfl rfl rfl) ?_) | refine zah ?_ | (refine zcr ?_; first | refine zcs ?_ | refine zct ?_) | (refine zdb ?_; first | refine zdc ?_ | refine zdd ?_ | refine zdg ?_)
    exact done_ret1 rfl () rfl trivial (List.nil_sublist _)
  · rw [if_neg (by rw [hd]; simp)]
    repeat first | refine zaa rfl (zay rfl) ?_ | refine zaa rfl (zaz rfl) ?_ | (refine zac ?_; refine zaa rfl (zba rfl rfl rfl) ?_) | refine zah ?_ | (refine zcr ?_; refine zcs ?_) | (refine zdb ?_; first | refine zdc ?_ | refine zdd ?_ | refine zdf ?_ | refine zdg ?_)
    exact done_ret1 rfl () rfl trivial (List.nil_sublist _)
/-- A number that can be written, below a bound that can't. -/
theorem gap_le {x y c : FV} {p q C B : Rat} (hx : Vl .f64 x p) (hy : Vl .f64 y q) (hc : Vl .f64 c C) (hB : Rep .f64 B) (hBf : B ≤ 1000) (h1 : p - q ≤ B) (h2 : q - p ≤ B) (h3 : B ≤ C) : cmpB .gtr (fcmp .f64 (gapF x y) c) = false := by
  have h1000 : (1000 : Rat) < p2 (ftop .f64) := by decide +kernel
  have hfit : ∀ z : Rat, z ≤ B → -B ≤ z → Fit .f64 z := fun z a1 a2 => by constructor <;> grind
  unfold gapF
  rw [vl_lss hx hy]
  by_cases h : p < q
  · rw [if_pos (decide_eq_true h)]
    obtain ⟨r, hr, hrr⟩ := vl_sub hy hx (hfit _ h2 (by grind))
    rw [vl_gtr hr hc]
    have := (hrr.side B hB).1 h2
    exact decide_eq_false (Rat.not_lt.2 (Rat.le_trans this h3))
  · rw [if_neg (by rw [decide_eq_false h]; simp)]
    obtain ⟨r, hr, hrr⟩ := vl_sub hx hy (hfit _ h1 (by grind))
    rw [vl_gtr hr hc]
    have := (hrr.side B hB).1 h1
    exact decide_eq_false (Rat.not_lt.2 (Rat.le_trans this h3))
end Go.Ab
