/- Part 4 of the texts on which the law leans, joined: Logarithms and powers of lengths, as the program and the reference reckon them. No conditions. -/
import Derived.Test.YtljgokghchhjaaaGreatZac
namespace Go.Ab
open Go.Proofs
variable {R : World → Prop} [RStab R]
section
variable {P : Program} {S : World → Prop} {N : Nat} {e : Env} {Q : Exit → Env → World → Prop} {ops : Array Oper} {l : List Oper} {dst : Option Tmp} {ty : TypeId} {pos : String} {after : Array Edge} {guard : Option (Nat × Bool)}
variable {w0 : World} {gs : List Nat} {H : List Ent}
theorem opj_lenC {R0 : World → Prop} {n : Nat} {f : Nat → CV} {X : Operand} {t t2 : TypeId} {b : Nat} {z : Value} {el : TypeId} [hu : TyU P t (.slice el)] [hi : TyI P el z 1 b] (hx : e.ev X = some (AV.sl w0 1 ((tabC n f).map cA))) :
    OpJ P (StR R0 w0 [] H) e ⟨dst, .call { callee := .builtin .len, args := #[X], argTypes := #[t] }, t2, pos, after, guard⟩ (.raw (.int .i64 (n : Int))) := by
  have h := zbm (P := P) (R0 := R0) (H := H) (dst := dst) (pos := pos) (after := after) (guard := guard) (t2 := t2) (hu := hu) (hi := hi) hx
  rw [tabC_length] at h
  exact h
theorem opj_indexC {R0 : World → Prop} {n : Nat} {f : Nat → CV} {X I : Operand} {i : Int} {t : TypeId} {b : Nat} {z : Value} {el : TypeId} [hu : TyU P t (.slice el)] [hi : TyI P el z 1 b]
    (hx : e.ev X = some (AV.sl w0 1 ((tabC n f).map cA))) (hI : e.ev I = some (.raw (.int .i64 i))) (h0 : 0 ≤ i) (hlt : i < (n : Int)) :
    OpJ P (StR R0 w0 [] H) e ⟨dst, .indexAddr t X I, ty, pos, after, guard⟩ (AV.ptr [cA (f i.toNat)]) := by
  have h := zbv (P := P) (R0 := R0) (H := H) (dst := dst) (ty := ty) (pos := pos) (after := after) (guard := guard) (hu := hu) (hi := hi) hx hI h0 (by rw [tabC_length]; exact hlt)
  have hg : (tabC n f).getD i.toNat default = f i.toNat := tabC_getD f (by omega)
  rw [hg] at h
  exact h
/-- 'append' of one complex number to a list of the call's own. -/
theorem rs_appendC (k : Nat) (f' : Nat → CV) {d : Tmp} {A B : Operand} {g n cap : Nat} {f : Nat → CV} {x : CV} {t : TypeId} {z : Value} {b : Nat} [hu : TyU P t (.slice 36)] [hi : TyI P 36 z 1 b] (hd : Nat.blt d N = true)
    (hA : e.ev A = some (.raw (.slice (some ⟨g, 0, none⟩) n cap))) (hB : e.ev B = some (AV.lit [cA x])) (hH : H[k]? = some (entC g n f cap)) (hn : n ≤ cap ∧ cap ≤ maxLen)
    (hm : n < 2 ^ 40) (hby : Nat.ble b 64 = true) (hzc : z.cells.size = 1) (hf : f' n = x) (hf' : ∀ s, s < n → f' s = f s)
    (hk : ∀ g' cap', n + 1 ≤ cap' → cap' ≤ maxLen → RS P N ops l ((d, .raw (.slice (some ⟨g', 0, none⟩) (n + 1) cap')) :: e.keep) (StR R w0 gs (H.set k (entC g' (n + 1) f' cap'))) Q) :
    RS P N ops (⟨some d, .call { callee := .builtin .append, args := #[A, B], argTypes := #[t, t] }, ty, pos, after, none⟩ :: l) e (StR R w0 gs H) Q := by
  have hb := Nat.le_of_ble_eq_true hby
  refine rs_append k (ys := [cA x]) hd hA ⟨_, hB, fun w v _ h => h.inv_p.2⟩ hH ⟨by simp [tabC_length], hn.1, hn.2⟩ (by simp) rfl (by simp only [maxLen, List.length_cons, List.length_nil]; omega)
    (Nat.le_trans (Nat.mul_le_mul (show n + ([cA x] : List AV).length ≤ 2 ^ 40 from by simp only [List.length_cons, List.length_nil]; omega) hb) (by decide)) hzc fun g' cap' h1 h2 => ?_
  have : ((tabC n f).map cA ++ [cA x] : List AV) = (tabC (n + 1) f').map cA := by
    rw [← tabC_snoc n f', List.map_append, tabC_congr hf', ← hf]
    rfl
  rw [this]
  exact hk g' cap' h1 h2
end
def subC2 (p q : CV) : CV := (fbin .sub .f32 p.1 q.1, fbin .sub .f32 p.2 q.2)
def longC (p : CV) : FV := longF p.1 p.2
/-- The length does not overflow. -/
def LongOk (p : CV) : Prop := ConvOk .f64 .f32 (fsqrt (powF p.1 p.2))
attribute [local irreducible] WS RS Done OpJ Then InBlock Round Ret Env.sub FnH
attribute [local irreducible] tabC
theorem minus_fn (p q : CV) : Fn Tryz.prog 22 (fun _ => [cA p, cA q]) (cA (subC2 p q)) := by
  refine fn_intro Tryz.func22 rfl Tryz.ntmps22 (fun _ => Nat.le_of_ble_eq_true rfl) fun w0 => ?_
  unfold cA
  repeat first | refine zaa rfl (zay rfl) ?_ | refine zaa rfl (zaz rfl) ?_ | (refine zac ?_; refine zaa rfl (zba rfl rfl rfl) ?_) | (refine zad ?_; first | refine zaa rfl (zbp rfl) ?_ | refine zaa rfl (zbq rfl) ?_ | refine zaa rfl (zbr rfl rfl) ?_) | refine zah ?_ | (refine zcr ?_; refine zcs ?_) | (refine zdb ?_; first | refine zdc ?_ | refine zdd ?_ | refine zdg ?_)
  exact done_ret1 rfl () rfl trivial (List.nil_sublist _)
theorem parts_fn (p : CV) : Fn Tryz.prog 84 (fun _ => [cA p]) (.tup [.f .f64 (fconv .f32 .f64 p.1), .f .f64 (fconv .f32 .f64 p.2)]) := by
  refine fn_intro Tryz.func84 rfl Tryz.ntmps84 (fun _ => Nat.le_of_ble_eq_true rfl) fun w0 => ?_
  unfold cA
  repeat first | refine zaa rfl (zay rfl) ?_ | refine zaa rfl (zaz rfl) ?_ | (refine zad ?_; first | refine zaa rfl (zbp rfl) ?_ | refine zaa rfl (zbq rfl) ?_) | refine zaa rfl (zbx rfl) ?_ | refine zah ?_ | (refine zcr ?_; refine zcs ?_) | (refine zdb ?_; first | refine zdc ?_ | refine zdd ?_ | refine zdg ?_)
  exact done_ret2 rfl () rfl rfl rfl trivial (List.nil_sublist _)
theorem power_fn (p : CV) : Fn Tryz.prog 59 (fun _ => [cA p]) (.f .f64 (powF p.1 p.2)) := by
  have h := parts_fn p
  refine fn_intro Tryz.func59 rfl Tryz.ntmps59 (fun _ => Nat.le_of_ble_eq_true rfl) fun w0 => ?_
  repeat first | refine zaa rfl (zay rfl) ?_ | refine zaa rfl (zaz rfl) ?_ | (refine zac ?_; refine zaa rfl (zba rfl rfl rfl) ?_) | (refine zad ?_; (refine zaa rfl (zci rfl rfl (h) ?_) ?_; (focus ((repeat (first | exact Takes.nil | refine Takes.sl ?_ | refine Takes.lit ?_ | (refine Takes.ownE ?_ ?_ ?_ ?_ ?_; (focus (exact ⟨_, _, (by (repeat (first | exact mh | refine mt ?_)); done)⟩)); (focus (simp; done)); (focus omega); (focus (simp only [maxLen]; omega))) | refine Takes.same ?_)); done)))) | refine zaa rfl (zbz rfl rfl) ?_ | refine zah ?_ | (refine zcr ?_; refine zcs ?_) | (refine zdb ?_; first | refine zdc ?_ | refine zdd ?_ | refine zdg ?_)
  exact done_ret1 rfl () rfl trivial (List.nil_sublist _)
theorem longOf_fn (p : CV) (hp : LongOk p) : Fn Tryz.prog 25 (fun _ => [cA p]) (.f .f32 (longC p)) := by
  have h := power_fn p
  unfold LongOk at hp
  refine fn_intro Tryz.func25 rfl Tryz.ntmps25 (fun _ => Nat.le_of_ble_eq_true rfl) fun w0 => ?_
  repeat first | refine zaa rfl (zay rfl) ?_ | refine zaa rfl (zaz rfl) ?_ | (refine zad ?_; first | (refine zaa rfl (zci rfl rfl (h) ?_) ?_; (focus ((repeat (first | exact Takes.nil | refine Takes.sl ?_ | refine Takes.lit ?_ | (refine Takes.ownE ?_ ?_ ?_ ?_ ?_; (focus (exact ⟨_, _, (by (repeat (first | exact mh | refine mt ?_)); done)⟩)); (focus (simp; done)); (focus omega); (focus (simp only [maxLen]; omega))) | refine Takes.same ?_)); done))) | refine zaa rfl (zci rfl rfl (mathSqrt_fn _) (by (repeat (first | exact Takes.nil | refine Takes.sl ?_ | refine Takes.lit ?_ | (refine Takes.ownE ?_ ?_ ?_ ?_ ?_; (focus (exact ⟨_, _, (by (repeat (first | exact mh | refine mt ?_)); done)⟩)); (focus (simp; done)); (focus omega); (focus (simp only [maxLen]; omega))) | refine Takes.same ?_)); done)) ?_) | refine zah ?_ | (refine zcr ?_; refine zcs ?_) | (refine zdb ?_; first | refine zdc ?_ | refine zdd ?_ | refine zdg ?_) | refine zaa rfl (opj_fconv rfl hp) ?_
  exact done_ret1 rfl () rfl trivial (List.nil_sublist _)
theorem l01PowerWide_fn (p : CV) : Fn Tryz.prog 68 (fun _ => [cA p]) (.f .f64 (powF p.1 p.2)) := by
  refine fn_intro Tryz.func68 rfl Tryz.ntmps68 (fun _ => Nat.le_of_ble_eq_true rfl) fun w0 => ?_
  unfold cA
  repeat first | refine zaa rfl (zay rfl) ?_ | refine zaa rfl (zaz rfl) ?_ | (refine zac ?_; refine zaa rfl (zba rfl rfl rfl) ?_) | (refine zad ?_; first | refine zaa rfl (zbp rfl) ?_ | refine zaa rfl (zbq rfl) ?_) | refine zaa rfl (zbx rfl) ?_ | refine zah ?_ | (refine zcr ?_; refine zcs ?_) | (refine zdb ?_; first | refine zdc ?_ | refine zdd ?_ | refine zdg ?_)
  exact done_ret1 rfl () rfl trivial (List.nil_sublist _)
theorem l01Long_fn (p : CV) (hp : LongOk p) : Fn Tryz.prog 32 (fun _ => [cA p]) (.f .f32 (longC p)) := by
  have h := l01PowerWide_fn p
  have h2 := l01Narrow_fn _ hp
  refine fn_intro Tryz.func32 rfl Tryz.ntmps32 (fun _ => Nat.le_of_ble_eq_true rfl) fun w0 => ?_
  repeat first | refine zaa rfl (zay rfl) ?_ | refine zaa rfl (zaz rfl) ?_ | (refine zad ?_; first | (refine zaa rfl (zci rfl rfl (h) ?_) ?_; (focus ((repeat (first | exact Takes.nil | refine Takes.sl ?_ | refine Takes.lit ?_ | (refine Takes.ownE ?_ ?_ ?_ ?_ ?_; (focus (exact ⟨_, _, (by (repeat (first | exact mh | refine mt ?_)); done)⟩)); (focus (simp; done)); (focus omega); (focus (simp only [maxLen]; omega))) | refine Takes.same ?_)); done))) | refine zaa rfl (zci rfl rfl (mathSqrt_fn _) (by (repeat (first | exact Takes.nil | refine Takes.sl ?_ | refine Takes.lit ?_ | (refine Takes.ownE ?_ ?_ ?_ ?_ ?_; (focus (exact ⟨_, _, (by (repeat (first | exact mh | refine mt ?_)); done)⟩)); (focus (simp; done)); (focus omega); (focus (simp only [maxLen]; omega))) | refine Takes.same ?_)); done)) ?_ | (refine zaa rfl (zci rfl rfl (h2) ?_) ?_; (focus ((repeat (first | exact Takes.nil | refine Takes.sl ?_ | refine Takes.lit ?_ | (refine Takes.ownE ?_ ?_ ?_ ?_ ?_; (focus (exact ⟨_, _, (by (repeat (first | exact mh | refine mt ?_)); done)⟩)); (focus (simp; done)); (focus omega); (focus (simp only [maxLen]; omega))) | refine Takes.same ?_)); done)))) | refine zah ?_ | (refine zcr ?_; refine zcs ?_) | (refine zdb ?_; first | refine zdc ?_ | refine zdd ?_ | refine zdg ?_)
  exact done_ret1 rfl () rfl trivial (List.nil_sublist _)
theorem specLongOf_fn (p : CV) (hp : LongOk p) : Fn Tryz.prog 12 (fun _ => [cA p]) (.f .f32 (longC p)) := by
  have h := l01Long_fn p hp
  refine fn_intro Tryz.func12 rfl Tryz.ntmps12 (fun _ => Nat.le_of_ble_eq_true rfl) fun w0 => ?_
  repeat first | refine zaa rfl (zay rfl) ?_ | refine zaa rfl (zaz rfl) ?_ | (refine zad ?_; (refine zaa rfl (zci rfl rfl (h) ?_) ?_; (focus ((repeat (first | exact Takes.nil | refine Takes.sl ?_ | refine Takes.lit ?_ | (refine Takes.ownE ?_ ?_ ?_ ?_ ?_; (focus (exact ⟨_, _, (by (repeat (first | exact mh | refine mt ?_)); done)⟩)); (focus (simp; done)); (focus omega); (focus (simp only [maxLen]; omega))) | refine Takes.same ?_)); done)))) | refine zah ?_ | (refine zcr ?_; refine zcs ?_) | (refine zdb ?_; first | refine zdc ?_ | refine zdd ?_ | refine zdg ?_)
  exact done_ret1 rfl () rfl trivial (List.nil_sublist _)
/-- How far points are from those before. -/
def lngF (P : Nat → CV) (i : Int) : FV := longC (subC2 (P (i.toNat + 1)) (P i.toNat))
theorem longsOf_fn (n : Nat) (P : Nat → CV) (hn : 1 ≤ n ∧ n < 2 ^ 40) (hl : ∀ i, i + 1 < n → LongOk (subC2 (P (i + 1)) (P i))) :
    FnH (X := Nat × Nat) Tryz.prog 45 (fun w => [slC w (tabC n P)]) [] (fun y => .raw (.slice (some ⟨y.1, 0, none⟩) (n - 1 : Nat) y.2)) (fun y => [entF y.1 27 (n - 1) (lngF P) y.2]) (fun y => n - 1 ≤ y.2 ∧ y.2 ≤ maxLen) := by
  refine fn_intro Tryz.func45 rfl Tryz.ntmps45 (fun _ => Nat.le_of_ble_eq_true rfl) fun w0 => ?_
  repeat first | refine zaa rfl (zaz rfl) ?_ | refine zah ?_ | (refine zcr ?_; refine zcs ?_) | (refine zdb ?_; first | refine zdc ?_ | refine zdd ?_ | refine zde ?_) | (refine rs_litP rfl rfl rfl rfl rfl rfl ?_; intro g0)
  refine ws_loop (ι := Nat × Nat × Nat) (fun y => [(0, slC w0 (tabC n P)), (3, .raw (.slice (some ⟨y.2.1, 0, none⟩) y.1 y.2.2)), (4, .raw (.int .i64 ((y.1 : Int) + 1)))]) (fun y => St w0 [] [entF y.2.1 27 y.1 (lngF P) y.2.2]) (fun y => y.1 + 1 ≤ n ∧ y.1 ≤ y.2.2 ∧ y.2.2 ≤ maxLen) (fun y => n - y.1) (0, g0, 0) ⟨hn.1, Nat.le_refl _, Nat.zero_le _⟩ ?_ (fun _ h => ?_) (fun y hy => ?_)
  · (repeat (first | exact Env.sub_nil _ | refine Env.sub_cons rfl ?_))
  · unfold entF tab
    exact h
  obtain ⟨j, g, c⟩ := y
  simp only at hy ⊢
  obtain ⟨hj, hc1, hc2⟩ := hy
  repeat first | refine zaa rfl (zay rfl) ?_ | (refine zac ?_; refine zaa rfl (zbe rfl rfl) ?_) | (refine zad ?_; refine zaa rfl (opj_lenC rfl) ?_) | refine zah ?_ | (refine zcr ?_; refine zcs ?_) | (refine zdb ?_; first | refine zdc ?_ | refine zdd ?_)
  refine ws_cond rfl (fun hd => ?_) (fun hd => ?_)
  · have hlt : (j : Int) + 1 < n := of_decide_eq_true hd
    clear hd
    have e1 : ((j : Int) + 1 - 1).toNat = j := by omega
    have e2 : ((j : Int) + 1).toNat = j + 1 := by omega
    have hL := longOf_fn (subC2 (P (j + 1)) (P j)) (hl j (by omega))
    have hM : Fn Tryz.prog 22 (fun _ => [cA (P ((j : Int) + 1).toNat), cA (P ((j : Int) + 1 - 1).toNat)]) (cA (subC2 (P (j + 1)) (P j))) := by
      rw [e1, e2]
      exact minus_fn _ _
    repeat first | (refine zcr ?_; refine zcs ?_) | (refine zdb ?_; first | refine zdc ?_ | refine zde ?_ | refine zdf ?_)
    refine ws_draw (n := 13) mixed (by decide +kernel) ?_
    repeat first | refine zap rfl (zay rfl) ?_ | (refine zar ?_; refine zap rfl (zbc rfl rfl (by omega)) ?_) | (refine zas ?_; first | (refine zap rfl (zci rfl rfl (hM) ?_) ?_; (focus ((repeat (first | exact Takes.nil | refine Takes.sl ?_ | refine Takes.lit ?_ | (refine Takes.ownE ?_ ?_ ?_ ?_ ?_; (focus (exact ⟨_, _, (by (repeat (first | exact mh | refine mt ?_)); done)⟩)); (focus (simp; done)); (focus omega); (focus (simp only [maxLen]; omega))) | refine Takes.same ?_)); done))) | (refine zap rfl (zci rfl rfl (hL) ?_) ?_; (focus ((repeat (first | exact Takes.nil | refine Takes.sl ?_ | refine Takes.lit ?_ | (refine Takes.ownE ?_ ?_ ?_ ?_ ?_; (focus (exact ⟨_, _, (by (repeat (first | exact mh | refine mt ?_)); done)⟩)); (focus (simp; done)); (focus omega); (focus (simp only [maxLen]; omega))) | refine Takes.same ?_)); done)))) | (refine zat ?_; refine zap rfl (zbu rfl rfl) ?_) | (refine zau ?_; refine zap rfl (opj_indexC rfl rfl (by omega) (by omega)) ?_) | refine zav ?_ | refine zap rfl (zco rfl rfl rfl rfl rfl rfl) ?_
    refine rs_appendT 0 (lngF P) rfl rfl rfl rfl ⟨hc1, hc2⟩ (by omega) rfl rfl rfl (fun s h0 h1 => rfl) fun g3 c3 h3 h3' => ?_
    repeat first | refine zaa rfl (zay rfl) ?_ | refine zaa rfl (zaz rfl) ?_ | (refine zac ?_; refine zaa rfl (zbb rfl rfl (by omega)) ?_) | refine zah ?_ | (refine zcr ?_; first | refine zcs ?_ | refine zcv ?_) | (refine zdb ?_; refine zdd ?_)
    refine done_round (j + 1, g3, c3) ⟨by simp only; omega, h3, h3'⟩ (by simp only; omega) ?_ (fun _ h => h)
    simp only
    rw [show ((j + 1 : Nat) : Int) = (j : Int) + 1 from by omega]
    (repeat (first | exact Env.sub_nil _ | refine Env.sub_cons rfl ?_))
  · have hge : ¬ (j : Int) + 1 < n := of_decide_eq_false hd
    obtain rfl : j = n - 1 := by omega
    repeat first | refine zaa rfl (zay rfl) ?_ | refine zaa rfl (zaz rfl) ?_ | refine zah ?_ | (refine zcr ?_; first | refine zcs ?_ | refine zcu ?_ | refine zcx ?_ | refine zda ?_) | (refine zdb ?_; first | refine zdc ?_ | refine zdd ?_ | refine zdg ?_ | refine zdh ?_)
    exact done_ret1 rfl (g, c) rfl ⟨hc1, hc2⟩ (List.Sublist.cons_cons _ (List.nil_sublist _))
theorem index_none (n : Nat) (f : Int → FV) (v : FV) (hn : n < 2 ^ 40) (h : ∀ i : Int, 0 ≤ i → i < n → cmpB .eql (fcmp .f32 v (f i)) = false) : Fn Tryz.prog 72 (fun w => [slF w (tab n f), .f .f32 v]) (.raw (.int .i64 (-1))) := by
  refine fn_intro Tryz.func72 rfl Tryz.ntmps72 (fun _ => Nat.le_of_ble_eq_true rfl) fun w0 => ?_
  repeat first | refine zaa rfl (zay rfl) ?_ | refine zaa rfl (zaz rfl) ?_ | (refine zad ?_; refine zaa rfl (zbo rfl) ?_) | refine zah ?_ | (refine zcr ?_; refine zcs ?_) | (refine zdb ?_; first | refine zdc ?_ | refine zdd ?_ | refine zde ?_)
  refine ws_loop (ι := Nat) (fun j => [(0, slF w0 (tab n f)), (1, .f .f32 v), (7, .raw (.int .i64 n)), (8, .raw (.int .i64 j))]) (fun _ => St w0 [] []) (fun j => j ≤ n) (fun j => n - j) 0 (Nat.zero_le _) ?_ (fun _ h => h) (fun j hj => ?_)
  · (repeat (first | exact Env.sub_nil _ | refine Env.sub_cons rfl ?_))
  repeat first | (refine zac ?_; refine zaa rfl (zbe rfl rfl) ?_) | refine zah ?_ | (refine zcr ?_; refine zcs ?_) | (refine zdb ?_; first | refine zdc ?_ | refine zdd ?_)
  refine ws_cond rfl (fun hd => ?_) (fun hd => ?_)
  · have hlt : (j : Int) < n := of_decide_eq_true hd
    have hq := h j (by omega) hlt
    clear hd
    repeat first | refine zaa rfl (zay rfl) ?_ | refine zaa rfl (zaz rfl) ?_ | (refine zac ?_; refine zaa rfl (zbd rfl rfl rfl) ?_) | (refine zae ?_; refine zaa rfl (zbu rfl rfl) ?_) | (refine zaf ?_; refine zaa rfl (zbs rfl rfl (by omega) (by omega)) ?_) | refine zah ?_ | (refine zcr ?_; refine zcs ?_) | (refine zdb ?_; first | refine zdc ?_ | refine zdd ?_ | refine zde ?_ | refine zdf ?_)
    rw [hq]
    repeat first | refine zaa rfl (zay rfl) ?_ | (refine zac ?_; refine zaa rfl (zbb rfl rfl (by omega)) ?_) | refine zah ?_ | (refine zcr ?_; first | refine zcs ?_ | refine zcv ?_) | (refine zdb ?_; first | refine zdd ?_ | refine zdf ?_ | refine zdj rfl ?_)
    refine done_round (j + 1) (by omega) (by omega) ?_ (fun _ h => h)
    rw [show ((j + 1 : Nat) : Int) = (j : Int) + 1 from by omega]
    (repeat (first | exact Env.sub_nil _ | refine Env.sub_cons rfl ?_))
  · have hge : ¬ (j : Int) < n := of_decide_eq_false hd
    obtain rfl : j = n := by omega
    repeat first | refine zaa rfl (zaz rfl) ?_ | refine zah ?_ | (refine zcr ?_; first | refine zcs ?_ | refine zcu ?_ | refine zcx ?_ | refine zda ?_) | (refine zdb ?_; first | refine zdc ?_ | refine zdd ?_ | refine zdg ?_ | refine zdh ?_)
    exact done_ret1 rfl () rfl trivial (List.nil_sublist _)
theorem contains_none (n : Nat) (f : Int → FV) (v : FV) (hn : n < 2 ^ 40) (h : ∀ i : Int, 0 ≤ i → i < n → cmpB .eql (fcmp .f32 v (f i)) = false) : Fn Tryz.prog 44 (fun w => [slF w (tab n f), .f .f32 v]) (.raw (.bool false)) := by
  have hI := index_none n f v hn h
  refine fn_intro Tryz.func44 rfl Tryz.ntmps44 (fun _ => Nat.le_of_ble_eq_true rfl) fun w0 => ?_
  repeat first | refine zaa rfl (zay rfl) ?_ | refine zaa rfl (zaz rfl) ?_ | (refine zac ?_; refine zaa rfl (zbh rfl rfl) ?_) | (refine zad ?_; (refine zaa rfl (zci rfl rfl (hI) ?_) ?_; (focus ((repeat (first | exact Takes.nil | refine Takes.sl ?_ | refine Takes.lit ?_ | (refine Takes.ownE ?_ ?_ ?_ ?_ ?_; (focus (exact ⟨_, _, (by (repeat (first | exact mh | refine mt ?_)); done)⟩)); (focus (simp; done)); (focus omega); (focus (simp only [maxLen]; omega))) | refine Takes.same ?_)); done)))) | refine zah ?_ | (refine zcr ?_; refine zcs ?_) | (refine zdb ?_; first | refine zdc ?_ | refine zdd ?_ | refine zdg ?_)
  exact done_ret1 rfl () rfl trivial (List.nil_sublist _)
/-- A path: from 2 to 48 finite points, none on the one before. -/
theorem isPath_yes (n : Nat) (P : Nat → CV) (hn : 2 ≤ n ∧ n ≤ 48) (hf : (tabC n P).all finC = true) (hl : ∀ i, i + 1 < n → LongOk (subC2 (P (i + 1)) (P i))) (h0 : ∀ i : Int, 0 ≤ i → i < (n - 1 : Nat) → cmpB .eql (fcmp .f32 (fv .f32 0) (lngF P i)) = false) :
    Fn Tryz.prog 19 (fun w => [slC w (tabC n P)]) (.raw (.bool true)) := by
  have hA := arePoints_fn (tabC n P) (by simp; omega)
  rw [hf] at hA
  have hLs := longsOf_fn n P (by omega) hl
  have hC := contains_none (n - 1) (lngF P) (fv .f32 0) (by omega) h0
  have d1 : decide ((2 : Int) ≤ n) = true := decide_eq_true (by omega)
  have d2 : decide ((n : Int) ≤ 48) = true := decide_eq_true (by omega)
  refine fn_intro Tryz.func19 rfl Tryz.ntmps19 (fun _ => Nat.le_of_ble_eq_true rfl) fun w0 => ?_
  repeat first | refine zaa rfl (zay rfl) ?_ | refine zaa rfl (zaz rfl) ?_ | (refine zac ?_; refine zaa rfl (zbh rfl rfl) ?_) | (refine zad ?_; refine zaa rfl (opj_lenC rfl) ?_) | refine zah ?_ | (refine zcr ?_; refine zcs ?_) | (refine zdb ?_; first | refine zdc ?_ | refine zdd ?_)
  rw [d1]
  repeat first | refine zai rfl rfl ?_ | refine zaa rfl (zay rfl) ?_ | (refine zac ?_; refine zaa rfl (zbf rfl rfl) ?_) | (refine zad ?_; refine zaa rfl (opj_lenC rfl) ?_) | refine zaa rfl (zca rfl rfl) ?_
  rw [d2]
  repeat first | refine zai rfl rfl ?_ | refine zaa rfl (zay rfl) ?_ | refine zaa rfl (zaz rfl) ?_ | (refine zad ?_; first | (refine zaa rfl (zci rfl rfl (hA) ?_) ?_; (focus ((repeat (first | exact Takes.nil | refine Takes.sl ?_ | refine Takes.lit ?_ | (refine Takes.ownE ?_ ?_ ?_ ?_ ?_; (focus (exact ⟨_, _, (by (repeat (first | exact mh | refine mt ?_)); done)⟩)); (focus (simp; done)); (focus omega); (focus (simp only [maxLen]; omega))) | refine Takes.same ?_)); done))) | (refine rs_call1 (hLs) rfl rfl ?_ rfl ?_; (focus ((repeat (first | exact Takes.nil | refine Takes.sl ?_ | refine Takes.lit ?_ | (refine Takes.ownE ?_ ?_ ?_ ?_ ?_; (focus (exact ⟨_, _, (by (repeat (first | exact mh | refine mt ?_)); done)⟩)); (focus (simp; done)); (focus omega); (focus (simp only [maxLen]; omega))) | refine Takes.same ?_)); done)); rintro ⟨g, c⟩ ⟨hc1, hc2⟩; simp only [maxLen] at hc1 hc2) | (refine zaa rfl (zci rfl rfl (hC) ?_) ?_; (focus ((repeat (first | exact Takes.nil | refine Takes.sl ?_ | refine Takes.lit ?_ | (refine Takes.ownE ?_ ?_ ?_ ?_ ?_; (focus (exact ⟨_, _, (by (repeat (first | exact mh | refine mt ?_)); done)⟩)); (focus (simp; done)); (focus omega); (focus (simp only [maxLen]; omega))) | refine Takes.same ?_)); done)))) | refine zaa rfl (zca rfl rfl) ?_ | refine zaa rfl (zcc rfl) ?_ | refine zah ?_ | (refine zcr ?_; refine zcs ?_) | (refine zdb ?_; refine zdg ?_)
  exact done_ret1 rfl () rfl trivial (List.nil_sublist _)
def dotF (p q : CV) : FV := fbin .add .f32 (fbin .mul .f32 p.1 q.1) (fbin .mul .f32 p.2 q.2)
theorem dotOf_fn (p q : CV) : Fn Tryz.prog 51 (fun _ => [cA p, cA q]) (.f .f32 (dotF p q)) := by
  refine fn_intro Tryz.func51 rfl Tryz.ntmps51 (fun _ => Nat.le_of_ble_eq_true rfl) fun w0 => ?_
  unfold cA
  repeat first | refine zaa rfl (zay rfl) ?_ | refine zaa rfl (zaz rfl) ?_ | (refine zac ?_; refine zaa rfl (zba rfl rfl rfl) ?_) | (refine zad ?_; first | refine zaa rfl (zbp rfl) ?_ | refine zaa rfl (zbq rfl) ?_) | refine zah ?_ | (refine zcr ?_; refine zcs ?_) | (refine zdb ?_; first | refine zdc ?_ | refine zdd ?_ | refine zdg ?_)
  exact done_ret1 rfl () rfl trivial (List.nil_sublist _)
def ptT (b : Bool) (p : CV) : AV := .tup [cA (match b with | true => p | false => (fv .f32 0, fv .f32 0)), .raw (.bool b)]
theorem ifPoint_fn (p : CV) (b : Bool) (hb : finC p = b) : Fn Tryz.prog 73 (fun _ => [cA p]) (ptT b p) := by
  have h := isFiniteComplex_fn p
  rw [hb] at h
  cases b
  all_goals
    refine fn_intro Tryz.func73 rfl Tryz.ntmps73 (fun _ => Nat.le_of_ble_eq_true rfl) fun w0 => ?_
    repeat first | refine zaa rfl (zay rfl) ?_ | refine zaa rfl (zaz rfl) ?_ | (refine zad ?_; (refine zaa rfl (zci rfl rfl (h) ?_) ?_; (focus ((repeat (first | exact Takes.nil | refine Takes.sl ?_ | refine Takes.lit ?_ | (refine Takes.ownE ?_ ?_ ?_ ?_ ?_; (focus (exact ⟨_, _, (by (repeat (first | exact mh | refine mt ?_)); done)⟩)); (focus (simp; done)); (focus omega); (focus (simp only [maxLen]; omega))) | refine Takes.same ?_)); done)))) | refine zaa rfl (zcc rfl) ?_ | refine zah ?_ | (refine zcr ?_; first | refine zcs ?_ | refine zct ?_) | (refine zdb ?_; first | refine zdc ?_ | refine zdd ?_ | refine zdf ?_ | refine zdg ?_ | refine zdi rfl ?_ | refine zdj rfl ?_)
    exact done_ret2 rfl () rfl rfl rfl trivial (List.nil_sublist _)
def unitC (p : CV) : CV := (fbin .quo .f32 p.1 (longC p), fbin .quo .f32 p.2 (longC p))
theorem unit_yes (p : CV) (hp : LongOk p) (h1 : cmpB .gtr (fcmp .f32 (longC p) (fv .f32 0)) = true) (h2 : finC (unitC p) = true) : Fn Tryz.prog 46 (fun _ => [cA p]) (ptT true (unitC p)) := by
  have hL := longOf_fn p hp
  have hP := ifPoint_fn (unitC p) true h2
  refine fn_intro Tryz.func46 rfl Tryz.ntmps46 (fun _ => Nat.le_of_ble_eq_true rfl) fun w0 => ?_
  repeat first | refine zaa rfl (zay rfl) ?_ | refine zaa rfl (zaz rfl) ?_ | (refine zac ?_; refine zaa rfl (zbd rfl rfl rfl) ?_) | (refine zad ?_; (refine zaa rfl (zci rfl rfl (hL) ?_) ?_; (focus ((repeat (first | exact Takes.nil | refine Takes.sl ?_ | refine Takes.lit ?_ | (refine Takes.ownE ?_ ?_ ?_ ?_ ?_; (focus (exact ⟨_, _, (by (repeat (first | exact mh | refine mt ?_)); done)⟩)); (focus (simp; done)); (focus omega); (focus (simp only [maxLen]; omega))) | refine Takes.same ?_)); done)))) | refine zaa rfl (zcc rfl) ?_ | refine zah ?_ | (refine zcr ?_; refine zcs ?_) | (refine zdb ?_; first | refine zdc ?_ | refine zdd ?_)
  rw [h1]
  unfold cA at hP
  unfold cA
  repeat first | refine zaa rfl (zay rfl) ?_ | refine zaa rfl (zaz rfl) ?_ | (refine zac ?_; refine zaa rfl (zba rfl rfl rfl) ?_) | (refine zad ?_; first | refine zaa rfl (zbp rfl) ?_ | refine zaa rfl (zbq rfl) ?_ | refine zaa rfl (zbr rfl rfl) ?_ | (refine zaa rfl (zci rfl rfl (hP) ?_) ?_; (focus ((repeat (first | exact Takes.nil | refine Takes.sl ?_ | refine Takes.lit ?_ | (refine Takes.ownE ?_ ?_ ?_ ?_ ?_; (focus (exact ⟨_, _, (by (repeat (first | exact mh | refine mt ?_)); done)⟩)); (focus (simp; done)); (focus omega); (focus (simp only [maxLen]; omega))) | refine Takes.same ?_)); done)))) | refine zaa rfl (zbz rfl rfl) ?_ | refine zah ?_ | (refine zcr ?_; refine zcs ?_) | (refine zdb ?_; first | refine zdc ?_ | refine zdd ?_ | refine zdf ?_ | refine zdg ?_ | refine zdj rfl ?_)
  exact done_ret2 rfl () rfl rfl rfl trivial (List.nil_sublist _)
end Go.Ab
namespace Go.Ab
theorem near64 {q r : Rat} (h : Rnd .f64 q r) (h1 : -16 ≤ q) (h2 : q ≤ 16) : -(1 / 100000000000000) ≤ q - r ∧ q - r ≤ 1 / 100000000000000 := by
  have h3 := h.near 16 h1 h2
  have e : (16 : Rat) * feps .f64 + ftiny .f64 ≤ 1 / 100000000000000 := by decide +kernel
  constructor <;> grind
theorem fit16 {q : Rat} (h1 : -100 ≤ q) (h2 : q ≤ 100) : Fit .f64 q := by
  have : (100 : Rat) < p2 (ftop .f64) := by decide +kernel
  constructor <;> grind
end Go.Ab
namespace Go.Ab
end Go.Ab
namespace Go.Ab
open Go.Proofs
variable {R : World → Prop} [RStab R]
abbrev d2 : FV := fv .f64 4611686018427387904
abbrev dL2 : FV := fv .f64 4604418534313441775
abbrev d15 : FV := fv .f64 4609434218613702656
abbrev d75 : FV := fv .f64 4604930618986332160
def kO (j : Nat) : FV := some (FloatKind.f64.nearest (25 - 2 * (j : Int)))
def kE (j : Nat) : FV := some (FloatKind.f64.nearest (12 - (j : Int)))
theorem kO_0 : kO 0 = fv .f64 4627730092099895296 := by decide +kernel
theorem kO_next {j : Nat} (h : j < 13) : fbin .sub .f64 (kO j) d2 = kO (j + 1) := by
  have : ((List.range 13).all fun j => decide (fbin .sub .f64 (kO j) d2 = kO (j + 1))) = true := by decide +kernel
  exact of_decide_eq_true ((List.all_eq_true.1 this) j (by simp; omega))
theorem kO_ge {j : Nat} (h : j < 14) : cmpB .geq (fcmp .f64 (kO j) d1) = decide (j < 13) := by
  have : ((List.range 14).all fun j => decide (cmpB .geq (fcmp .f64 (kO j) d1) = decide (j < 13))) = true := by decide +kernel
  exact of_decide_eq_true ((List.all_eq_true.1 this) j (by simp; omega))
theorem kE_0 : kE 0 = fv .f64 4622945017495814144 := by decide +kernel
theorem kE_next {j : Nat} (h : j < 12) : fbin .sub .f64 (kE j) d1 = kE (j + 1) := by
  have : ((List.range 12).all fun j => decide (fbin .sub .f64 (kE j) d1 = kE (j + 1))) = true := by decide +kernel
  exact of_decide_eq_true ((List.all_eq_true.1 this) j (by simp; omega))
theorem kE_ge {j : Nat} (h : j < 13) : cmpB .geq (fcmp .f64 (kE j) d1) = decide (j < 12) := by
  have : ((List.range 13).all fun j => decide (cmpB .geq (fcmp .f64 (kE j) d1) = decide (j < 12))) = true := by decide +kernel
  exact of_decide_eq_true ((List.all_eq_true.1 this) j (by simp; omega))
/-- The row of a logarithm. -/
def lgQ (u : FV) : Nat → FV
  | 0 => d0
  | j + 1 => fbin .add .f64 (fbin .quo .f64 d1 (kO j)) (fbin .mul .f64 u (lgQ u j))
def lgS (y : FV) : FV := fbin .quo .f64 (fbin .sub .f64 y d1) (fbin .add .f64 y d1)
def lgV (y e : FV) : FV := fbin .add .f64 (fbin .mul .f64 d2 (fbin .mul .f64 (lgS y) (lgQ (fbin .mul .f64 (lgS y) (lgS y)) 13))) (fbin .mul .f64 e dL2)
/-- The number between 3/4 and 3/2, and how often it was halved. -/
def lgY (x : FV) : FV × Int := match cmpB .geq (fcmp .f64 x d15) with
  | true => (fbin .quo .f64 x d2, 1)
  | false => match cmpB .lss (fcmp .f64 x d75) with
    | true => (fbin .mul .f64 x d2, -1)
    | false => (x, 0)
def eI (e : Int) : FV := some (FloatKind.f64.nearest e)
theorem eI_0 : eI 0 = d0 := by decide +kernel
theorem eI_up : fbin .add .f64 d0 d1 = eI 1 := by decide +kernel
theorem eI_dn : fbin .sub .f64 d0 d1 = eI (-1) := by decide +kernel
def lgW (x : FV) : FV := lgV (lgY x).1 (eI (lgY x).2)
def exP (t : FV) : Nat → FV
  | 0 => d1
  | j + 1 => fbin .add .f64 d1 (fbin .quo .f64 (fbin .mul .f64 t (exP t j)) (kE j))
def exQ (p : FV) : Nat → FV
  | 0 => p
  | j + 1 => fbin .mul .f64 (exQ p j) (exQ p j)
def exW (y : FV) : FV := exQ (exP (fbin .quo .f64 y (fv .f64 4643211215818981376)) 12) 8
def lgF (x : FV) : FV := fconv .f64 .f32 (lgW (fconv .f32 .f64 x))
def exF (x : FV) : FV := fconv .f64 .f32 (exW (fconv .f32 .f64 x))
theorem vl_d2 : Vl .f64 d2 2 := Vl.c (by decide +kernel)
theorem vl_d15 : Vl .f64 d15 (3 / 2) := Vl.c (by decide +kernel)
theorem vl_d75 : Vl .f64 d75 (3 / 4) := Vl.c (by decide +kernel)
theorem vl_dL2 : ∃ q, Vl .f64 dL2 q ∧ 69 / 100 ≤ q ∧ q ≤ 70 / 100 := ⟨_, Vl.c (q := 6243314768165359 / 9007199254740992) (by decide +kernel), by decide +kernel, by decide +kernel⟩
theorem divle {p q c : Rat} (hq : 0 < q) (h1 : -(c * q) ≤ p) (h2 : p ≤ c * q) : -c ≤ p / q ∧ p / q ≤ c := by
  have hne : q ≠ 0 := by grind
  have e : p / q * q = p := Rat.div_mul_cancel hne
  constructor
  · rcases Rat.le_total (a := -c) (b := p / q) with h | h
    · exact h
    · rcases Rat.le_total (a := p / q) (b := -c) with h' | h'
      · have := Rat.mul_le_mul_of_nonneg_right h' (Rat.le_of_lt hq)
        rcases (show p / q = -c ∨ p / q < -c from by grind) with h3 | h3
        · grind
        · have := Rat.mul_lt_mul_of_pos_right h3 hq
          grind
      · exact h'
  · rcases Rat.le_total (a := p / q) (b := c) with h | h
    · exact h
    · rcases (show p / q = c ∨ c < p / q from by grind) with h3 | h3
      · grind
      · have := Rat.mul_lt_mul_of_pos_right h3 hq
        grind
theorem q126' : (1000 : Rat) ≤ p2 (ftop .f64 - 1) := by decide +kernel
theorem kO_vl {j : Nat} (h : j < 13) : ∃ k, Vl .f64 (kO j) k ∧ 1 ≤ k ∧ k ≤ 25 := by
  have hv := vl_ofInt .f64 (25 - 2 * (j : Int)) (by have : FloatKind.f64.format.fractionBits = 52 := rfl; rw [this]; omega)
  have e1 : ((1 : Int) : Rat) ≤ ((25 - 2 * (j : Int) : Int) : Rat) := Rat.intCast_le_intCast.2 (by omega)
  have e2 : ((25 - 2 * (j : Int) : Int) : Rat) ≤ ((25 : Int) : Rat) := Rat.intCast_le_intCast.2 (by omega)
  exact ⟨_, hv, e1, e2⟩
theorem kE_vl {j : Nat} (h : j < 12) : ∃ k, Vl .f64 (kE j) k ∧ 1 ≤ k := by
  have hv := vl_ofInt .f64 (12 - (j : Int)) (by have : FloatKind.f64.format.fractionBits = 52 := rfl; rw [this]; omega)
  have e1 : ((1 : Int) : Rat) ≤ ((12 - (j : Int) : Int) : Rat) := Rat.intCast_le_intCast.2 (by omega)
  exact ⟨_, hv, e1⟩
theorem lgQ_vl {u : FV} {q : Rat} (hu : Vl .f64 u q) (h0 : 0 ≤ q ∧ q ≤ 1 / 20) : ∀ j, j ≤ 13 → ∃ r, Vl .f64 (lgQ u j) r ∧ -(12 / 10) ≤ r ∧ r ≤ 12 / 10
  | 0, _ => ⟨0, Vl.c (k := .f64) (b := 0) (q := 0) (by decide +kernel), by decide +kernel, by decide +kernel⟩
  | j + 1, hj => by
    obtain ⟨r, hr, r1, r2⟩ := lgQ_vl hu h0 j (by omega)
    obtain ⟨k, hk, k1, k2⟩ := kO_vl (j := j) (by omega)
    have b := divle (p := 1) (q := k) (c := 1) (by grind) (by grind) (by grind)
    have := q126'
    obtain ⟨a, ha, ra⟩ := vl_div vl_d1 hk (by grind) (by constructor <;> grind)
    have n1 := near64 ra (by grind) (by grind)
    have b2 := mul_bnd (p := q) (q := r) (a := 1 / 20) (b := 12 / 10) (by grind) h0.2 r1 r2
    obtain ⟨m, hm, rm⟩ := vl_mul hu hr (fit16 (by grind) (by grind))
    have n2 := near64 rm (by grind) (by grind)
    obtain ⟨s, hs, rs⟩ := vl_add ha hm (fit16 (by grind) (by grind))
    have n3 := near64 rs (by grind) (by grind)
    exact ⟨s, hs, by grind, by grind⟩
theorem lgV_vl {y e : FV} {p q : Rat} (hy : Vl .f64 y p) (he : Vl .f64 e q) (h0 : 3 / 4 ≤ p ∧ p ≤ 3 / 2) (h1 : -1 ≤ q ∧ q ≤ 1) : ∃ r, Vl .f64 (lgV y e) r ∧ -(125 / 100) ≤ r ∧ r ≤ 125 / 100 := by
  obtain ⟨a, ha, ra⟩ := vl_sub hy vl_d1 (fit16 (by grind) (by grind))
  have n1 := near64 ra (by grind) (by grind)
  obtain ⟨b, hb, rb⟩ := vl_add hy vl_d1 (fit16 (by grind) (by grind))
  have n2 := near64 rb (by grind) (by grind)
  have bs := divle (p := a) (q := b) (c := 21 / 100) (by grind) (by grind) (by grind)
  have := q126'
  obtain ⟨s, hs, rs⟩ := vl_div ha hb (by grind) (by constructor <;> grind)
  have n3 := near64 rs (by grind) (by grind)
  have hs' : Vl .f64 (lgS y) s := hs
  have bu := mul_bnd (p := s) (q := s) (a := 22 / 100) (b := 22 / 100) (by grind) (by grind) (by grind) (by grind)
  have bu0 : 0 ≤ s * s := by
    rcases Rat.le_total (a := 0) (b := s) with h | h
    · exact Rat.mul_nonneg h h
    · have := Rat.mul_nonneg (show 0 ≤ -s by grind) (show 0 ≤ -s by grind)
      grind
  obtain ⟨u, hu, ru⟩ := vl_mul hs' hs' (fit16 (by grind) (by grind))
  have n4 := near64 ru (by grind) (by grind)
  have u0 := (ru.side 0 (rep_zero _)).2 bu0
  obtain ⟨r, hr, r1, r2⟩ := lgQ_vl hu (by constructor <;> grind) 13 (Nat.le_refl _)
  have b2 := mul_bnd (p := s) (q := r) (a := 22 / 100) (b := 12 / 10) (by grind) (by grind) r1 r2
  obtain ⟨m, hm, rm⟩ := vl_mul hs' hr (fit16 (by grind) (by grind))
  have n5 := near64 rm (by grind) (by grind)
  obtain ⟨w, hw, rw1⟩ := vl_mul vl_d2 hm (fit16 (by grind) (by grind))
  have n6 := near64 rw1 (by grind) (by grind)
  obtain ⟨c, hc, c1, c2⟩ := vl_dL2
  have b3 := mul_bnd (p := q) (q := c) (a := 1) (b := 70 / 100) h1.1 h1.2 (by grind) c2
  obtain ⟨z, hz, rz⟩ := vl_mul he hc (fit16 (by grind) (by grind))
  have n7 := near64 rz (by grind) (by grind)
  obtain ⟨v, hv, rv⟩ := vl_add hw hz (fit16 (by grind) (by grind))
  have n8 := near64 rv (by grind) (by grind)
  exact ⟨v, hv, by grind, by grind⟩
theorem eI_vl {e : Int} (h : -1 ≤ e ∧ e ≤ 1) : ∃ q, Vl .f64 (eI e) q ∧ -1 ≤ q ∧ q ≤ 1 := by
  have hv := vl_ofInt .f64 e (by have : FloatKind.f64.format.fractionBits = 52 := rfl; rw [this]; omega)
  have e1 : ((-1 : Int) : Rat) ≤ (e : Rat) := Rat.intCast_le_intCast.2 h.1
  have e2 : (e : Rat) ≤ ((1 : Int) : Rat) := Rat.intCast_le_intCast.2 h.2
  exact ⟨_, hv, e1, e2⟩
/-- What the reduction gives, and that it is done once. -/
theorem lgY_vl {x : FV} {p : Rat} (hx : Vl .f64 x p) (hr : Rep .f32 p) (h : 48 / 100 ≤ p ∧ p ≤ 24 / 10) : (∃ q, Vl .f64 (lgY x).1 q ∧ 3 / 4 ≤ q ∧ q ≤ 3 / 2) ∧ (-1 ≤ (lgY x).2 ∧ (lgY x).2 ≤ 1) ∧
    cmpB .geq (fcmp .f64 (lgY x).1 d15) = false ∧ cmpB .lss (fcmp .f64 (lgY x).1 d75) = false := by
  unfold lgY
  rw [vl_geq hx vl_d15]
  by_cases h1 : 3 / 2 ≤ p
  · rw [decide_eq_true h1]
    have b := divle (p := p) (q := 2) (c := 13 / 10) (by decide +kernel) (by grind) (by grind)
    have := q126'
    obtain ⟨q, hq, rq⟩ := vl_div hx vl_d2 (by decide +kernel) (by constructor <;> grind)
    have n := near64 rq (by grind) (by grind)
    have hlo := (rq.side (3 / 4) (.inl ⟨3, -2, by decide, by decide, by decide +kernel⟩)).2 (by grind)
    refine ⟨⟨q, hq, hlo, by grind⟩, by simp only; decide, ?_, ?_⟩
    · rw [vl_geq hq vl_d15]; exact decide_eq_false (by grind)
    · rw [vl_lss hq vl_d75]; exact decide_eq_false (by grind)
  · rw [decide_eq_false h1]
    simp only
    rw [vl_lss hx vl_d75]
    by_cases h2 : p < 3 / 4
    · rw [decide_eq_true h2]
      obtain ⟨q, hq, rq⟩ := vl_mul hx vl_d2 (fit16 (by grind) (by grind))
      have n := near64 rq (by grind) (by grind)
      have hrep : Rep .f64 (p * 2) := by
        rcases hr with ⟨M, E, hM, hE, hB⟩ | ⟨M, E, hM, hE, hB⟩
        · refine .inl ⟨M, E + 1, Nat.le_trans hM (by decide), ?_, by rw [hB, p2_add, p2_one]; grind⟩
          have h1 : FloatKind.f32.format.leastPlace = -149 := by decide
          have h2 : FloatKind.f64.format.leastPlace = -1074 := by decide
          omega
        · refine .inr ⟨M, E + 1, Nat.le_trans hM (by decide), ?_, by rw [p2_add, p2_one]; grind⟩
          have h1 : FloatKind.f32.format.leastPlace = -149 := by decide
          have h2 : FloatKind.f64.format.leastPlace = -1074 := by decide
          omega
      have hq2 := rnd_rep rq hrep
      refine ⟨⟨q, hq, by grind, by grind⟩, by simp only; decide, ?_, ?_⟩
      · rw [vl_geq hq vl_d15]; exact decide_eq_false (by grind)
      · rw [vl_lss hq vl_d75]; exact decide_eq_false (by grind)
    · rw [decide_eq_false h2]
      refine ⟨⟨p, hx, by grind, by grind⟩, by simp only; decide, ?_, ?_⟩
      · simp only
        rw [vl_geq hx vl_d15]; exact decide_eq_false (by grind)
      · simp only
        rw [vl_lss hx vl_d75]; exact decide_eq_false (by grind)
theorem lgW_vl {x : FV} {p : Rat} (hx : Vl .f64 x p) (hr : Rep .f32 p) (h : 48 / 100 ≤ p ∧ p ≤ 24 / 10) : ∃ r, Vl .f64 (lgW x) r ∧ -(125 / 100) ≤ r ∧ r ≤ 125 / 100 := by
  obtain ⟨⟨q, hq, q1, q2⟩, he, _⟩ := lgY_vl hx hr h
  obtain ⟨e, he', e1, e2⟩ := eI_vl he
  exact lgV_vl hq he' ⟨q1, q2⟩ ⟨e1, e2⟩
theorem lgF_vl {x : FV} {p : Rat} (hx : Vl .f32 x p) (h : 48 / 100 ≤ p ∧ p ≤ 24 / 10) : ConvOk .f64 .f32 (lgW (fconv .f32 .f64 x)) ∧ ∃ r, Vl .f32 (lgF x) r ∧ -(126 / 100) ≤ r ∧ r ≤ 126 / 100 := by
  obtain ⟨r, hr, r1, r2⟩ := lgW_vl (vl_wide hx) (vl_rep hx) h
  have h60 := p60
  obtain ⟨s, hs, rs⟩ := vl_narrow hr (fit32 (by grind) (by grind))
  have n := rnd_abs rs (125 / 100) r1 r2
  exact ⟨vl_narrow_ok hr (fit32 (by grind) (by grind)), s, hs, by grind, by grind⟩
theorem exP_vl {t : FV} {q : Rat} (ht : Vl .f64 t q) (h : -(51 / 10000) ≤ q ∧ q ≤ 51 / 10000) : ∀ j, j ≤ 12 → ∃ r, Vl .f64 (exP t j) r ∧ 9948 / 10000 ≤ r ∧ r ≤ 10052 / 10000
  | 0, _ => ⟨1, vl_d1, by decide +kernel, by decide +kernel⟩
  | j + 1, hj => by
    obtain ⟨r, hr, r1, r2⟩ := exP_vl ht h j (by omega)
    obtain ⟨k, hk, k1⟩ := kE_vl (j := j) (by omega)
    have b2 := mul_bnd (p := q) (q := r) (a := 51 / 10000) (b := 10052 / 10000) h.1 h.2 (by grind) r2
    obtain ⟨m, hm, rm⟩ := vl_mul ht hr (fit16 (by grind) (by grind))
    have n2 := near64 rm (by grind) (by grind)
    have b := divle (p := m) (q := k) (c := 515 / 100000) (by grind) (by grind) (by grind)
    have := q126'
    obtain ⟨a, ha, ra⟩ := vl_div hm hk (by grind) (by constructor <;> grind)
    have n1 := near64 ra (by grind) (by grind)
    obtain ⟨s, hs, rs⟩ := vl_add vl_d1 ha (fit16 (by grind) (by grind))
    have n3 := near64 rs (by grind) (by grind)
    exact ⟨s, hs, by grind, by grind⟩
theorem sq_in {p : FV} {r a b : Rat} (hr : Vl .f64 p r) (h1 : a ≤ r) (h2 : r ≤ b) (ha : 0 ≤ a) (hb : b ≤ 2) {c d : Rat} (hc : c ≤ a * a - 1 / 10000000) (hd : b * b + 1 / 10000000 ≤ d) : ∃ s, Vl .f64 (fbin .mul .f64 p p) s ∧ c ≤ s ∧ s ≤ d := by
  have l1 := Rat.mul_le_mul_of_nonneg_left h1 ha
  have l2 := Rat.mul_le_mul_of_nonneg_right h1 (show 0 ≤ r by grind)
  have l3 := Rat.mul_le_mul_of_nonneg_left h2 (show 0 ≤ r by grind)
  have l4 := Rat.mul_le_mul_of_nonneg_right h2 (show 0 ≤ b by grind)
  have l0 := Rat.mul_nonneg (show 0 ≤ r by grind) (show 0 ≤ r by grind)
  have b4 : b * b ≤ 4 := by
    have := Rat.mul_le_mul_of_nonneg_left hb (show 0 ≤ b by grind)
    grind
  obtain ⟨s, hs, rs⟩ := vl_mul hr hr (fit16 (by grind) (by grind))
  have n := near64 rs (by grind) (by grind)
  exact ⟨s, hs, by grind, by grind⟩
theorem exQ_vl {p : FV} {r : Rat} (hr : Vl .f64 p r) (h : 9948 / 10000 ≤ r ∧ r ≤ 10052 / 10000) : ∃ s, Vl .f64 (exQ p 8) s ∧ 25 / 100 ≤ s ∧ s ≤ 39 / 10 := by
  obtain ⟨s1, v1, a1, b1⟩ := sq_in hr h.1 h.2 (by decide +kernel) (by decide +kernel) (c := 9896 / 10000) (d := 10105 / 10000) (by decide +kernel) (by decide +kernel)
  obtain ⟨s2, v2, a2, b2⟩ := sq_in v1 a1 b1 (by decide +kernel) (by decide +kernel) (c := 9792 / 10000) (d := 10212 / 10000) (by decide +kernel) (by decide +kernel)
  obtain ⟨s3, v3, a3, b3⟩ := sq_in v2 a2 b2 (by decide +kernel) (by decide +kernel) (c := 9588 / 10000) (d := 10429 / 10000) (by decide +kernel) (by decide +kernel)
  obtain ⟨s4, v4, a4, b4⟩ := sq_in v3 a3 b3 (by decide +kernel) (by decide +kernel) (c := 9192 / 10000) (d := 10877 / 10000) (by decide +kernel) (by decide +kernel)
  obtain ⟨s5, v5, a5, b5⟩ := sq_in v4 a4 b4 (by decide +kernel) (by decide +kernel) (c := 8449 / 10000) (d := 11831 / 10000) (by decide +kernel) (by decide +kernel)
  obtain ⟨s6, v6, a6, b6⟩ := sq_in v5 a5 b5 (by decide +kernel) (by decide +kernel) (c := 7138 / 10000) (d := 13998 / 10000) (by decide +kernel) (by decide +kernel)
  obtain ⟨s7, v7, a7, b7⟩ := sq_in v6 a6 b6 (by decide +kernel) (by decide +kernel) (c := 5095 / 10000) (d := 19595 / 10000) (by decide +kernel) (by decide +kernel)
  obtain ⟨s8, v8, a8, b8⟩ := sq_in v7 a7 b7 (by decide +kernel) (by decide +kernel) (c := 2595 / 10000) (d := 38397 / 10000) (by decide +kernel) (by decide +kernel)
  exact ⟨s8, v8, by grind, by grind⟩
theorem exF_vl {x : FV} {p : Rat} (hx : Vl .f32 x p) (h : -(13 / 10) ≤ p ∧ p ≤ 13 / 10) : ConvOk .f64 .f32 (exW (fconv .f32 .f64 x)) ∧ ∃ r, Vl .f32 (exF x) r ∧ 24 / 100 ≤ r ∧ r ≤ 4 := by
  have v256 : Vl .f64 (fv .f64 4643211215818981376) 256 := Vl.c (by decide +kernel)
  have b := divle (p := p) (q := 256) (c := 509 / 100000) (by decide +kernel) (by grind) (by grind)
  have := q126'
  obtain ⟨t, ht, rt⟩ := vl_div (vl_wide hx) v256 (by decide +kernel) (by constructor <;> grind)
  have n := near64 rt (by grind) (by grind)
  obtain ⟨q, hq, q1, q2⟩ := exP_vl ht (by constructor <;> grind) 12 (Nat.le_refl _)
  obtain ⟨s, hs, s1, s2⟩ := exQ_vl hq ⟨q1, q2⟩
  have hs' : Vl .f64 (exW (fconv .f32 .f64 x)) s := hs
  have h60 := p60
  obtain ⟨r, hr, rr⟩ := vl_narrow hs' (fit32 (by grind) (by grind))
  have n2 := rnd_abs rr 4 (by grind) (by grind)
  exact ⟨vl_narrow_ok hs' (fit32 (by grind) (by grind)), r, hr, by grind, by grind⟩
end Go.Ab
