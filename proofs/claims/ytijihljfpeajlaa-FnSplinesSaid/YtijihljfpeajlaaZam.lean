/- Part 13 of the texts on which the law leans, joined: Numbers that stand beside equal ones once: slices.Compact; walked. No conditions. -/
import Derived.Test.YtijihljfpeajlaaZal
namespace Go.Ab
open Go.Proofs
variable {R : World → Prop} [RStab R]
section
variable {P : Program} {N : Nat} {S : World → Prop} {e : Env} {Q : Exit → Env → World → Prop} {ops : Array Oper} {l : List Oper}
variable {w0 : World} {gs : List Nat} {H : List Ent} {ty : TypeId} {pos : String} {after : Array Edge} {t el : TypeId}
/-- 'clear' of the last ones of a list of the call's own. -/
theorem rs_clearT (k : Nat) {A : Operand} {off m cap g n c : Nat} {f : Int → FV} {T : TypeId} {z : Value} {b : Nat} [hu : TyU P t (.slice el)] [hi : TyI P el z 1 b]
    (hA : e.ev A = some (.raw (.slice (some ⟨g, off, none⟩) m cap))) (hH : H[k]? = some (entF g T n f c)) (h0 : 1 ≤ m) (hn : off + m ≤ c) (hno : off ≤ n) (hz1 : z.oneCell' = true) (hzc : z.cells = #[z])
    (hk : RS P N ops l e.keep (StR R w0 gs (H.set k (entF g T off f c))) Q) :
    RS P N ops (⟨none, .call { callee := .builtin .clear, args := #[A], argTypes := #[t] }, ty, pos, after, none⟩ :: l) e (StR R w0 gs H) Q := by
  intro a w hS hF
  refine wpList_plain rfl fun K' hK' => ?_
  have hA' := (hF.eval hA).inv_raw
  obtain ⟨inf, hi1, hiz, hs1, hb1⟩ := hi.h
  have hmem := List.mem_of_getElem? hH
  obtain ⟨cur, hcur, hcsz, hcx⟩ := (hS.own _ hmem).2
  have hcur' : w.heap[g]? = some (.cells cur T (0, 0)) := hcur
  have hcsz' : cur.size = c := hcsz
  obtain ⟨news, hnews⟩ : ∃ news, news = List.replicate m z := ⟨_, rfl⟩
  have hln : news.length = m := by rw [hnews, List.length_replicate]
  have hone : ∀ u ∈ news, u.oneCell' = true := fun u hu => by
    rw [hnews] at hu
    rw [List.eq_of_mem_replicate hu]
    exact hz1
  have hzl : (Builtin.zeroCells z.cells m).toList = news := by
    rw [hzc, hnews]
    simp [Builtin.zeroCells]
    apply List.ext_getElem
    · simp
    · intro i h1 h2
      simp [Nat.mod_one]
  have hst := run_storeCells_at P g off T news 0 cur w hcur' (by simp only [hln]; omega) hone
  simp only [Nat.add_zero] at hst
  have hrun : (Builtin.clear_ #[t] ty #[.slice (some ⟨g, off, none⟩) m cap]).run P w = .ok (.tuple #[]) (w.setRow g (cur.toList.take off ++ news ++ cur.toList.drop (off + news.length)).toArray) := by
    obtain ⟨q, rfl⟩ : ∃ q, m = q + 1 := ⟨m - 1, by omega⟩
    have hzv : (zeroValue el).run P w = .ok z w := run_zero hi w
    simp [Builtin.clear_, run_underlying hu.h, hzv, hzl, hst]
  have hmod : Mod w (w.setRow g (cur.toList.take off ++ news ++ cur.toList.drop (off + news.length)).toArray) [g] :=
    ⟨rfl, rfl, rfl, by simp [World.setRow], fun k hk hn => setRow_other w g k _ (by simpa using hn)⟩
  have ho' : OwnE (w.setRow g (cur.toList.take off ++ news ++ cur.toList.drop (off + news.length)).toArray) (entF g T off f c) := by
    refine ⟨_, setRow_heap w g _ _ _ _ hcur', ?_, fun j x hj => ?_⟩
    · simp only [hln, List.size_toArray, List.length_append, List.length_take, List.length_drop, Array.length_toList, entF] at *
      omega
    · have hj2 : j < off := by
        have := (List.getElem?_eq_some_iff.1 hj).1
        simpa [entF] using this
      have hx : (entF g T n f c).xs[j]? = some x := by
        simp only [entF, List.getElem?_map] at hj ⊢
        rw [tab_get f hj2] at hj
        rw [tab_get f (by omega)]
        exact hj
      obtain ⟨u, hu', hev⟩ := hcx j x hx
      refine ⟨u, ?_, hev⟩
      simp only [List.append_assoc, List.getElem?_toArray]
      rw [List.getElem?_append_left (by rw [List.length_take, Array.length_toList]; omega), List.getElem?_take, if_pos hj2]
      simpa using hu'
  have hex : (execOp a.eval ⟨none, .call { callee := .builtin .clear, args := #[A], argTypes := #[t] }, ty, pos, after, none⟩).run P w = .ok (.value (.tuple #[])) (w.setRow g (cur.toList.take off ++ news ++ cur.toList.drop (off + news.length)).toArray) := by
    simp only [execOp, resolve, invoke, builtin, Sem.run_bind, Sem.run_pure, Result.andThen_ok, List.map_toArray, List.map_cons, List.map_nil, hA', hrun]
  unfold Oper.wp
  rw [hex]
  exact hK' _ _ (hk _ _ (hS.updAt hH hmod (.inl rfl) ho') hF.keep)
omit [RStab R] in
/-- A variable of the call's own that a closure reads. -/
theorem Takes.ptrO {R0 : World → Prop} {g k : Nat} {T : TypeId} {xs : List AV} {args : List AV} {A' : World → List AV} (hm : (⟨g, T, xs, k⟩ : Ent) ∈ H) (h : Takes (StR R0 w0 gs H) args A') :
    Takes (StR R0 w0 gs H) (.raw (.pointer (some ⟨g, 0, none⟩)) :: args) (fun w => AV.ptrQ w xs :: A' w) := fun w vs hS hr => by
  obtain ⟨v, r, rfl, hv, hrr⟩ := hr.inv_cons
  rw [hv.inv_raw]
  refine .cons (.q ⟨_, rfl, rfl, fun i y hy => ?_⟩) (h w r hS hrr)
  obtain ⟨u, hu, hev⟩ := (hS.own _ hm).2.cell hy
  exact ⟨u, by rw [Nat.zero_add]; exact hu, hev⟩
end
/-- How many of the first numbers are a number. -/
def cnF (f : Int → FV) (u : FV) : Nat → Nat
  | 0 => 0
  | j + 1 => cnF f u j + (if cmpB .neq (fcmp .f32 (f j) u) = true then 0 else 1)
theorem cnF_le (f : Int → FV) (u : FV) : ∀ j, cnF f u j ≤ j
  | 0 => Nat.le_refl _
  | j + 1 => by
    have := cnF_le f u j
    unfold cnF
    split <;> omega
theorem cnF_lt {f : Int → FV} {u : FV} (h : cmpB .neq (fcmp .f32 (f 0) u) = true) : ∀ j, cnF f u (j + 1) ≤ j
  | 0 => by
    unfold cnF
    rw [show ((0 : Nat) : Int) = 0 from rfl, if_pos h]
    exact Nat.le_refl _
  | j + 1 => by
    have := cnF_lt h j
    rw [cnF]
    split <;> omega
attribute [local irreducible] WS RS Done OpJ Then InBlock Round Ret Env.sub FnH
attribute [local irreducible] tab tabC
theorem indexFunc0_fn {N : Nat} {f : Int → FV} {c : FuncId} [HasBody Try.prog c] {x : AV} (hN : 1 ≤ N ∧ N < 2 ^ 40) (hc : Fn Try.prog c (fun w => [.f .f32 (f 0), AV.ptrQ w [x]]) (.raw (.bool true))) :
    Fn Try.prog 49 (fun w => [slF w (tab N f), clo w c x]) (.raw (.int .i64 0)) := by
  refine fn_intro Try.func49 rfl Try.ntmps49 (fun _ => Nat.le_of_ble_eq_true rfl) fun w0 => ?_
  refine ws_q (t := 1) rfl fun v hv => ?_
  obtain ⟨gc, rfl, hp⟩ := hv
  repeat first | refine zaa rfl (zay rfl) ?_ | refine zaa rfl (zaz rfl) ?_ | (refine zad ?_; refine zaa rfl (zbo rfl) ?_) | refine zah ?_ | (refine zcr ?_; refine zcs ?_) | (refine zdb ?_; first | refine zdc ?_ | refine zdd ?_ | refine zde ?_)
  refine ws_loop (ι := Unit) (fun _ => [(0, slF w0 (tab N f)), (1, .raw (.func (.func c) #[] #[.pointer (some ⟨gc, 0, none⟩)])), (7, .raw (.int .i64 (N : Int))), (8, .raw (.int .i64 0))]) (fun _ => St w0 [] []) (fun _ => True) (fun _ => 0) () trivial ?_ (fun _ h => h) (fun y _ => ?_)
  · (repeat (first | exact Env.sub_nil _ | refine Env.sub_cons rfl ?_))
  repeat first | (refine zac ?_; refine zaa rfl (zbe rfl rfl) ?_) | refine zah ?_ | (refine zcr ?_; refine zcs ?_) | (refine zdb ?_; first | refine zdc ?_ | refine zdd ?_)
  rw [decide_eq_true (show (0 : Int) < (N : Int) by omega)]
  repeat first | refine zaa rfl (zay rfl) ?_ | refine zaa rfl (zaz rfl) ?_ | (refine zae ?_; refine zaa rfl (zbu rfl rfl) ?_) | (refine zaf ?_; refine zaa rfl (zbs rfl rfl (by omega) (by omega)) ?_) | refine zah ?_ | (refine zcr ?_; first | refine zcs ?_ | refine zct ?_ | refine zcw ?_ | refine zcz ?_) | (refine zdb ?_; first | refine zdc ?_ | refine zdd ?_ | refine zde ?_ | refine zdf ?_ | refine zdg ?_ | refine zdi rfl ?_) | refine zaa rfl (opj_callC (cap := [.pointer (some ⟨gc, 0, none⟩)]) rfl rfl hc (Takes.same (Takes.ptrW hp Takes.nil))) ?_
  exact done_ret1 rfl () rfl trivial (List.nil_sublist _)
theorem deleteFunc_fn {N g c gt ct : Nat} {f : Int → FV} {u : FV} {T : TypeId} (hN : 1 ≤ N ∧ N ≤ 100) (hc : N ≤ c ∧ c ≤ maxLen) (h0 : cmpB .neq (fcmp .f32 (f 0) u) = true) :
    FnH (X := Unit) Try.prog 26 (fun _ => [.raw (.slice (some ⟨g, 0, none⟩) N c), .raw (.func (.func 28) #[] #[.pointer (some ⟨gt, 0, none⟩)])]) [entF g 29 N f c, ⟨gt, T, [.f .f32 u], ct⟩]
      (fun _ => .raw (.slice (some ⟨g, 0, none⟩) (cnF f u N) c)) (fun _ => [⟨gt, T, [.f .f32 u], ct⟩]) (fun _ => True) := by
  simp only [maxLen] at hc
  have hK0 := putKnot1_fn (f 0) u
  rw [h0] at hK0
  have hI := indexFunc0_fn (N := N) (f := f) (c := 28) (x := .f .f32 u) ⟨hN.1, by omega⟩ hK0
  refine fn_intro Try.func26 rfl Try.ntmps26 (fun _ => Nat.le_of_ble_eq_true rfl) fun w0 => ?_
  repeat first | refine zaa rfl (zay rfl) ?_ | refine zaa rfl (zaz rfl) ?_ | (refine zac ?_; first | refine zaa rfl (zbb rfl rfl (by omega)) ?_ | refine zaa rfl (zbi rfl rfl) ?_) | refine zah ?_ | (refine zcr ?_; refine zcs ?_) | (refine zdb ?_; first | refine zdc ?_ | refine zdd ?_ | refine zde ?_ | refine zdf ?_ | refine zdj rfl ?_) | refine zaa rfl (zci rfl rfl hI (Takes.ownE ⟨_, _, mh⟩ (by simp) (by omega) (by simp only [maxLen]; omega) (Takes.clo (mt mh) Takes.nil))) ?_
  refine ws_loop (ι := Nat × Nat × (Int → FV)) (fun y => [(0, .raw (.slice (some ⟨g, 0, none⟩) N c)), (1, .raw (.func (.func 28) #[] #[.pointer (some ⟨gt, 0, none⟩)])), (5, .raw (.int .i64 (y.2.1 : Nat))), (6, .raw (.int .i64 ((y.1 : Nat) + 1 : Int)))])
    (fun y => StR (fun _ => True) w0 [g, gt] [entF g 29 N y.2.2 c, ⟨gt, T, [.f .f32 u], ct⟩]) (fun y => y.1 + 1 ≤ N ∧ y.2.1 = cnF f u (y.1 + 1) ∧ ∀ i : Int, (y.1 : Int) + 1 ≤ i → y.2.2 i = f i) (fun y => N - y.1) (0, 0, f) ⟨by simp only; omega, by simp only; unfold cnF; rw [show ((0 : Nat) : Int) = 0 from rfl, if_pos h0]; rfl, fun _ _ => rfl⟩ ?_ (fun _ h => h) (fun y hy => ?_)
  · (repeat (first | exact Env.sub_nil _ | refine Env.sub_cons rfl ?_))
  obtain ⟨j, i, F⟩ := y
  obtain ⟨hj, hi, hF⟩ := hy
  dsimp only at hj hi hF ⊢
  have hil := cnF_lt h0 j
  rw [← hi] at hil
  repeat first | refine zaa rfl (zay rfl) ?_ | (refine zac ?_; refine zaa rfl (zbe rfl rfl) ?_) | (refine zad ?_; refine zaa rfl (zbn rfl) ?_) | refine zah ?_ | (refine zcr ?_; refine zcs ?_) | (refine zdb ?_; first | refine zdc ?_ | refine zdd ?_)
  refine ws_cond rfl (fun hd => ?_) (fun hd => ?_)
  · have hlt : (j : Int) + 1 < (N : Int) := of_decide_eq_true hd
    clear hd
    have hK := putKnot1_fn (F ((j : Int) + 1)) u
    rw [hF ((j : Int) + 1) (Int.le_refl _)] at hK
    have hFj := hF ((j : Int) + 1) (Int.le_refl _)
    repeat first | refine zaa rfl (zay rfl) ?_ | refine zaa rfl (zaz rfl) ?_ | (refine zae ?_; refine zaa rfl (zbt rfl rfl (by (repeat (first | exact mh | refine mt ?_)); done) (by omega)) ?_) | (refine zaf ?_; refine zaa rfl (zbw rfl rfl (by omega) (by omega)) ?_) | refine zah ?_ | (refine zcr ?_; refine zcs ?_) | (refine zdb ?_; first | refine zdc ?_ | refine zdd ?_ | refine zde ?_ | refine zdf ?_)
    rw [hFj]
    repeat first | refine zaa rfl (zcc rfl) ?_ | refine zah ?_ | (refine zcr ?_; refine zcs ?_) | refine zaa rfl (opj_callC (cap := [.pointer (some ⟨gt, 0, none⟩)]) rfl rfl hK (Takes.same (Takes.ptrO (mt mh) Takes.nil))) ?_
    have hcn : cnF f u (j + 1 + 1) = i + (if cmpB .neq (fcmp .f32 (f ((j : Int) + 1)) u) = true then 0 else 1) := by
      rw [cnF, ← hi]
      rfl
    cases hb : cmpB .neq (fcmp .f32 (f ((j : Int) + 1)) u)
    · rw [hb] at hcn
      repeat first | refine zaa rfl (zay rfl) ?_ | (refine zaf ?_; refine zaa rfl (zbw rfl rfl (by omega) (by omega)) ?_) | (refine zdb ?_; first | refine zdc ?_ | refine zdd ?_ | refine zdi rfl ?_)
      refine rs_storeT 0 (fun s => if s = (i : Int) then f ((j : Int) + 1) else F s) (i := (i : Int)) (n := N) (c := c) rfl rfl rfl (by omega) (by simp) (fun s _ _ hs => by simp [hs]) ?_
      repeat first | refine zaa rfl (zay rfl) ?_ | refine zaa rfl (zaz rfl) ?_ | (refine zac ?_; refine zaa rfl (zbb rfl rfl (by omega)) ?_) | refine zah ?_ | (refine zcr ?_; first | refine zcs ?_ | refine zcv ?_) | (refine zdb ?_; refine zdd ?_)
      refine done_round (j + 1, i + 1, fun s => if s = (i : Int) then f ((j : Int) + 1) else F s) ⟨by simp only; omega, by simp only; rw [hcn]; simp, fun s hs => ?_⟩ (by simp only; omega) ?_ (fun _ h => h)
      · simp only at hs ⊢
        rw [if_neg (by omega)]
        exact hF s (by omega)
      · simp only
        rw [show ((j + 1 : Nat) : Int) + 1 = (j : Int) + 1 + 1 by omega, show ((i + 1 : Nat) : Int) = (i : Int) + 1 by omega]
        (repeat (first | exact Env.sub_nil _ | refine Env.sub_cons rfl ?_))
    · rw [hb] at hcn
      repeat first | refine zaa rfl (zay rfl) ?_ | refine zaa rfl (zaz rfl) ?_ | (refine zac ?_; refine zaa rfl (zbb rfl rfl (by omega)) ?_) | refine zah ?_ | (refine zcr ?_; first | refine zcs ?_ | refine zcv ?_) | (refine zdb ?_; first | refine zdd ?_ | refine zdf ?_ | refine zdj rfl ?_)
      refine done_round (j + 1, i, F) ⟨by simp only; omega, by simp only; rw [hcn]; simp, fun s hs => hF s (by simp only at hs; omega)⟩ (by simp only; omega) ?_ (fun _ h => h)
      simp only
      rw [show ((j + 1 : Nat) : Int) + 1 = (j : Int) + 1 + 1 by omega]
      (repeat (first | exact Env.sub_nil _ | refine Env.sub_cons rfl ?_))
  · have hge : ¬ (j : Int) + 1 < (N : Int) := of_decide_eq_false hd
    clear hd
    obtain rfl : N = j + 1 := by omega
    repeat first | refine zaa rfl (zay rfl) ?_ | (refine zcr ?_; first | refine zcs ?_ | refine zcu ?_ | refine zcx ?_ | refine zda ?_) | (refine zdb ?_; first | refine zdc ?_ | refine zdd ?_ | refine zdh ?_) | refine zaa rfl (opj_cutLo i rfl rfl rfl (by omega) (by omega)) ?_
    refine rs_clearT 0 rfl rfl (by omega) (by omega) (by omega) rfl rfl ?_
    repeat first | refine zaa rfl (zay rfl) ?_ | refine zaa rfl (zaz rfl) ?_ | refine zah ?_ | (refine zcr ?_; refine zcs ?_) | (refine zdb ?_; first | refine zdc ?_ | refine zdd ?_ | refine zdg ?_) | refine zaa rfl (opj_cutHi i rfl rfl rfl (by omega) (by omega)) ?_
    exact done_ret1 rfl () (by rw [← hi]; rfl) trivial (.cons _ (List.Sublist.refl _))
end Go.Ab
namespace Go.Ab
open Go.Proofs
variable {R : World → Prop} [RStab R]
/-- The empty spline. -/
class SplZ (P : Program) (t : TypeId) : Prop where
  b0 : ∀ (w : World), (Instr.build t #[]).run P w = .ok (.agg #[.int .i64 0, .slice none 0 0, .slice none 0 0]) w
instance splZi : SplZ Try.prog 27 := ⟨fun w => by kernel_rfl⟩
section
variable {P : Program} {S : World → Prop} {e : Env} {dst : Option Tmp} {ty : TypeId} {pos : String} {after : Array Edge} {guard : Option (Nat × Bool)} {t : TypeId}
theorem opj_buildSp0 [hb : SplZ P t] : OpJ P S e ⟨dst, .build t #[], ty, pos, after, guard⟩ (.agg [.raw (.int .i64 0), .raw (.slice none 0 0), .raw (.slice none 0 0)]) :=
  opj_value fun ac w _ h => by
    refine ⟨_, w, ?_, Ext.refl _, .agg (vs := [.int .i64 0, .slice none 0 0, .slice none 0 0]) (.cons .raw (.cons .raw (.cons .raw .nil)))⟩
    simp only [execOp, List.map_toArray, List.map_nil, Sem.run_bind, hb.b0, Result.andThen_ok]
    rfl
end
attribute [local irreducible] WS RS Done OpJ Then InBlock Round Ret Env.sub FnH
attribute [local irreducible] tab tabC
theorem putKnot_no {d n : Nat} {f : Int → FV} {P : Nat → CV} {a : Int → Int} (h : SpOk d n f P a) {u : FV} {υ : Int} (hu : Gd u υ) (h0 : a 0 < υ) (h1 : υ < a n) (hcn : d ≤ cnF f u (n + d + 1)) :
    FnH (X := Unit) Try.prog 11 (fun w => [splA w d n f P, .f .f32 u]) [] (fun _ => .tup [.agg [.raw (.int .i64 0), .raw (.slice none 0 0), .raw (.slice none 0 0)], .raw (.bool false)]) (fun _ => []) (fun _ => True) := by
  obtain ⟨d1, d2⟩ := h.d1
  obtain ⟨n1, n2⟩ := h.n1
  have hI := isIn_fn h hu (Int.le_of_lt h0) (Int.le_of_lt h1)
  have hCF := cloneFU_fn (n + d + 1) f (by omega) (by omega)
  have e2 := h.last ((n : Int) + d) (by omega)
  have c1 := (gd_cmp hu (h.kn.g 0 (by omega) (by omega))).2.1
  rw [decide_eq_false (show ¬ υ = a 0 by omega)] at c1
  have c2 := (gd_cmp hu (h.kn.g ((n : Int) + d) (by omega) (by omega))).2.1
  rw [decide_eq_false (show ¬ υ = a ((n : Int) + d) by omega)] at c2
  have c3 := (gd_cmp (h.kn.g 0 (by omega) (by omega)) hu).2.2.2.2.2
  rw [decide_eq_true (show a 0 ≠ υ by omega)] at c3
  refine fn_intro Try.func11 rfl Try.ntmps11 (fun _ => Nat.le_of_ble_eq_true rfl) fun w0 => ?_
  repeat first | refine zaa rfl (zaz rfl) ?_ | refine zah ?_ | (refine zcr ?_; refine zcs ?_) | (refine zdb ?_; first | refine zdc ?_ | refine zdd ?_) | (refine zak rfl rfl rfl ?_; intro gx) | (refine rs_box1 rfl rfl (fun v w h => (oneAV_spec (x := AV.f .f32 u) rfl h).1) rfl ?_; intro gt) | (refine zal rfl rfl ?_; intro gr)
  refine ws_draw (n := 24) mixed (by decide +kernel) ?_
  repeat first | refine zaw rfl rfl ?_ | refine zap rfl (zay rfl) ?_ | (refine zar ?_; refine zap rfl (zbd rfl rfl rfl) ?_) | (refine zat ?_; first | refine zap rfl (zcf rfl rfl (by (repeat (first | exact mh | refine mt ?_)); done) rfl) ?_ | refine zap rfl (zcg rfl rfl (by (repeat (first | exact mh | refine mt ?_)); done) rfl rfl) ?_ | refine zap rfl (zbu rfl rfl) ?_) | (refine zau ?_; refine zap rfl (zbs rfl rfl (by omega) (by omega)) ?_) | refine zap rfl (zcd rfl) ?_ | refine zap rfl (zcb rfl rfl) ?_ | refine zap rfl (zcc rfl) ?_ | refine zap rfl (zci rfl rfl hI (Takes.spl (Takes.same Takes.nil))) ?_
  rw [c1]
  repeat first | refine zaw rfl rfl ?_ | (refine zar ?_; first | refine zap rfl (zbc rfl rfl (by omega)) ?_ | refine zap rfl (zbd rfl rfl rfl) ?_) | (refine zas ?_; refine zap rfl (zbo rfl) ?_) | (refine zat ?_; first | refine zap rfl (zcf rfl rfl (by (repeat (first | exact mh | refine mt ?_)); done) rfl) ?_ | refine zap rfl (zbu rfl rfl) ?_) | (refine zau ?_; refine zap rfl (zbs rfl rfl (by omega) (by omega)) ?_) | refine zap rfl (zcd rfl) ?_ | refine zap rfl (zcb rfl rfl) ?_ | refine zav ?_
  rw [show f (((n + d + 1 : Nat) : Int) - 1) = f ((n : Int) + d) by rw [show ((n + d + 1 : Nat) : Int) - 1 = (n : Int) + d by omega], c2]
  skip
  repeat first | (refine zae ?_; refine zaa rfl (zcf rfl rfl (by (repeat (first | exact mh | refine mt ?_)); done) rfl) ?_) | refine zaa rfl (zcd rfl) ?_ | refine zah ?_ | (refine zcr ?_; refine zcs ?_) | (refine zdb ?_; first | refine zdc ?_ | refine zdd ?_ | refine zdf ?_ | refine zdj rfl ?_)
  refine rs_callM3 hCF rfl rfl (by (repeat (first | exact Takes.nil | refine Takes.sl ?_ | refine Takes.lit ?_ | refine Takes.fa ?_ | refine Takes.fc ?_ | refine Takes.net ?_ | (refine Takes.ownE ?_ ?_ ?_ ?_ ?_; (focus (exact ⟨_, _, (by (repeat (first | exact mh | refine mt ?_)); done)⟩)); (focus (simp; done)); (focus omega); (focus (simp only [maxLen]; omega))) | refine Takes.same ?_)); done) rfl ?_
  rintro ⟨gk, ck⟩ hck
  dsimp only at hck ⊢
  have hDF := deleteFunc_fn (N := n + d + 1) (g := gk) (c := ck) (gt := gt) (ct := 1) (f := f) (u := u) (T := 29) (by omega) hck c3
  repeat (refine zaa rfl (opj_makeFuncU rfl) ?_)
  refine RS.st (S' := StR (fun _ => True) w0 [] ([entF gk 29 (n + d + 1) f ck, ⟨gt, 29, [.f .f32 u], 1⟩] ++ [⟨gr, 27, [.raw (.int .i64 0), .raw (.slice none 0 0), .raw (.slice none 0 0)], 3⟩, ⟨gx, 27, [.raw (.int .i64 (d : Int)), AV.sl w0 1 ((tab (n + d + 1) f).map (AV.f .f32)), slC w0 (tabC n P)], 3⟩])) ?_ (fun w h => h.sel [0, 2, 1, 3] (by decide) rfl)
  refine rs_call (pre := [entF gk 29 (n + d + 1) f ck, ⟨gt, 29, [.f .f32 u], 1⟩]) hDF rfl rfl (Takes.same (Takes.same Takes.nil)) rfl ?_
  intro _ _
  repeat first | refine zaa rfl (zay rfl) ?_ | refine zaa rfl (zaz rfl) ?_ | (refine zac ?_; refine zaa rfl (zbh rfl rfl) ?_) | (refine zad ?_; refine zaa rfl (zbn rfl) ?_) | (refine zae ?_; refine zaa rfl (zcf rfl rfl (by (repeat (first | exact mh | refine mt ?_)); done) rfl) ?_) | refine zaa rfl (zcd rfl) ?_ | refine zah ?_ | (refine zcr ?_; refine zcs ?_) | (refine zdb ?_; first | refine zdc ?_ | refine zdd ?_)
  rw [decide_eq_true (show (d : Int) ≤ (cnF f u (n + d + 1) : Nat) by omega)]
  repeat first | refine zaa rfl (zaz rfl) ?_ | refine zah ?_ | (refine zcr ?_; first | refine zcs ?_ | refine zct ?_) | (refine zdb ?_; first | refine zdc ?_ | refine zdd ?_ | refine zdg ?_ | refine zdi rfl ?_) | refine zaa rfl opj_buildSp0 ?_ | refine zan 1 rfl rfl rfl rfl rfl rfl rfl rfl rfl ?_
  exact done_retCX rfl rfl () rfl rfl (mt mh) rfl rfl rfl trivial (List.nil_sublist _)
theorem putKnot_yes {d n : Nat} {f : Int → FV} {P : Nat → CV} {a a' : Int → Int} (h : SpOk d n f P a) {u : FV} {υ : Int} (hu : Gd u υ) (h0 : a 0 < υ) (h1 : υ < a n) (hcn : cnF f u (n + d + 1) < d)
    (h' : SpOk d (n + 1) (insKF f (spanN a d υ (n - 1) : Nat) u) (putP f (spanN a d υ (n - 1) : Nat) u d P) a') :
    FnH (X := (Nat × Nat) × Nat × Nat) Try.prog 11 (fun w => [splA w d n f P, .f .f32 u]) [] (fun y => .tup [splO y.1.1 y.1.2 d (n + 1) y.2.1 y.2.2, .raw (.bool true)])
      (fun y => [entF y.1.1 29 (n + 1 + d + 1) (insKF f (spanN a d υ (n - 1) : Nat) u) y.2.1, entC y.1.2 (n + 1) (putP f (spanN a d υ (n - 1) : Nat) u d P) y.2.2]) (fun y => (n + 1 + d + 1 ≤ y.2.1 ∧ y.2.1 ≤ maxLen) ∧ n + 1 ≤ y.2.2 ∧ y.2.2 ≤ maxLen) := by
  obtain ⟨d1, d2⟩ := h.d1
  obtain ⟨n1, n2⟩ := h.n1
  have hI := isIn_fn h hu (Int.le_of_lt h0) (Int.le_of_lt h1)
  have hCF := cloneFU_fn (n + d + 1) f (by omega) (by omega)
  have e2 := h.last ((n : Int) + d) (by omega)
  have c1 := (gd_cmp hu (h.kn.g 0 (by omega) (by omega))).2.1
  rw [decide_eq_false (show ¬ υ = a 0 by omega)] at c1
  have c2 := (gd_cmp hu (h.kn.g ((n : Int) + d) (by omega) (by omega))).2.1
  rw [decide_eq_false (show ¬ υ = a ((n : Int) + d) by omega)] at c2
  have c3 := (gd_cmp (h.kn.g 0 (by omega) (by omega)) hu).2.2.2.2.2
  rw [decide_eq_true (show a 0 ≠ υ by omega)] at c3
  have hPut := put_fn h hu (Int.le_of_lt h0)
  have hIf := fun (ga gb ca cb : Nat) (e1 : n + 1 + d + 1 ≤ ca ∧ ca ≤ maxLen) (e2 : n + 1 ≤ cb ∧ cb ≤ maxLen) => ifSpline_yes h' (ga := ga) (gb := gb) e1 e2
  generalize insKF f (spanN a d υ (n - 1) : Nat) u = f' at *
  generalize putP f (spanN a d υ (n - 1) : Nat) u d P = P' at *
  clear h'
  refine fn_intro Try.func11 rfl Try.ntmps11 (fun _ => Nat.le_of_ble_eq_true rfl) fun w0 => ?_
  repeat first | refine zaa rfl (zaz rfl) ?_ | refine zah ?_ | (refine zcr ?_; refine zcs ?_) | (refine zdb ?_; first | refine zdc ?_ | refine zdd ?_) | (refine zak rfl rfl rfl ?_; intro gx) | (refine rs_box1 rfl rfl (fun v w h => (oneAV_spec (x := AV.f .f32 u) rfl h).1) rfl ?_; intro gt) | (refine zal rfl rfl ?_; intro gr)
  refine ws_draw (n := 24) mixed (by decide +kernel) ?_
  repeat first | refine zaw rfl rfl ?_ | refine zap rfl (zay rfl) ?_ | (refine zar ?_; refine zap rfl (zbd rfl rfl rfl) ?_) | (refine zat ?_; first | refine zap rfl (zcf rfl rfl (by (repeat (first | exact mh | refine mt ?_)); done) rfl) ?_ | refine zap rfl (zcg rfl rfl (by (repeat (first | exact mh | refine mt ?_)); done) rfl rfl) ?_ | refine zap rfl (zbu rfl rfl) ?_) | (refine zau ?_; refine zap rfl (zbs rfl rfl (by omega) (by omega)) ?_) | refine zap rfl (zcd rfl) ?_ | refine zap rfl (zcb rfl rfl) ?_ | refine zap rfl (zcc rfl) ?_ | refine zap rfl (zci rfl rfl hI (Takes.spl (Takes.same Takes.nil))) ?_
  rw [c1]
  repeat first | refine zaw rfl rfl ?_ | (refine zar ?_; first | refine zap rfl (zbc rfl rfl (by omega)) ?_ | refine zap rfl (zbd rfl rfl rfl) ?_) | (refine zas ?_; refine zap rfl (zbo rfl) ?_) | (refine zat ?_; first | refine zap rfl (zcf rfl rfl (by (repeat (first | exact mh | refine mt ?_)); done) rfl) ?_ | refine zap rfl (zbu rfl rfl) ?_) | (refine zau ?_; refine zap rfl (zbs rfl rfl (by omega) (by omega)) ?_) | refine zap rfl (zcd rfl) ?_ | refine zap rfl (zcb rfl rfl) ?_ | refine zav ?_
  rw [show f (((n + d + 1 : Nat) : Int) - 1) = f ((n : Int) + d) by rw [show ((n + d + 1 : Nat) : Int) - 1 = (n : Int) + d by omega], c2]
  skip
  repeat first | (refine zae ?_; refine zaa rfl (zcf rfl rfl (by (repeat (first | exact mh | refine mt ?_)); done) rfl) ?_) | refine zaa rfl (zcd rfl) ?_ | refine zah ?_ | (refine zcr ?_; refine zcs ?_) | (refine zdb ?_; first | refine zdc ?_ | refine zdd ?_ | refine zdf ?_ | refine zdj rfl ?_)
  refine rs_callM3 hCF rfl rfl (by (repeat (first | exact Takes.nil | refine Takes.sl ?_ | refine Takes.lit ?_ | refine Takes.fa ?_ | refine Takes.fc ?_ | refine Takes.net ?_ | (refine Takes.ownE ?_ ?_ ?_ ?_ ?_; (focus (exact ⟨_, _, (by (repeat (first | exact mh | refine mt ?_)); done)⟩)); (focus (simp; done)); (focus omega); (focus (simp only [maxLen]; omega))) | refine Takes.same ?_)); done) rfl ?_
  rintro ⟨gk, ck⟩ hck
  dsimp only at hck ⊢
  have hDF := deleteFunc_fn (N := n + d + 1) (g := gk) (c := ck) (gt := gt) (ct := 1) (f := f) (u := u) (T := 29) (by omega) hck c3
  repeat (refine zaa rfl (opj_makeFuncU rfl) ?_)
  refine RS.st (S' := StR (fun _ => True) w0 [] ([entF gk 29 (n + d + 1) f ck, ⟨gt, 29, [.f .f32 u], 1⟩] ++ [⟨gr, 27, [.raw (.int .i64 0), .raw (.slice none 0 0), .raw (.slice none 0 0)], 3⟩, ⟨gx, 27, [.raw (.int .i64 (d : Int)), AV.sl w0 1 ((tab (n + d + 1) f).map (AV.f .f32)), slC w0 (tabC n P)], 3⟩])) ?_ (fun w h => h.sel [0, 2, 1, 3] (by decide) rfl)
  refine rs_call (pre := [entF gk 29 (n + d + 1) f ck, ⟨gt, 29, [.f .f32 u], 1⟩]) hDF rfl rfl (Takes.same (Takes.same Takes.nil)) rfl ?_
  intro _ _
  repeat first | refine zaa rfl (zay rfl) ?_ | refine zaa rfl (zaz rfl) ?_ | (refine zac ?_; refine zaa rfl (zbh rfl rfl) ?_) | (refine zad ?_; refine zaa rfl (zbn rfl) ?_) | (refine zae ?_; refine zaa rfl (zcf rfl rfl (by (repeat (first | exact mh | refine mt ?_)); done) rfl) ?_) | refine zaa rfl (zcd rfl) ?_ | refine zah ?_ | (refine zcr ?_; refine zcs ?_) | (refine zdb ?_; first | refine zdc ?_ | refine zdd ?_)
  rw [decide_eq_false (show ¬ (d : Int) ≤ (cnF f u (n + d + 1) : Nat) by omega)]
  repeat first | (refine zae ?_; first | refine zaa rfl (zcf rfl rfl (by (repeat (first | exact mh | refine mt ?_)); done) rfl) ?_ | refine zaa rfl (zcg rfl rfl (by (repeat (first | exact mh | refine mt ?_)); done) rfl rfl) ?_) | (refine zcr ?_; refine zcs ?_) | (refine zdb ?_; first | refine zdc ?_ | refine zdd ?_ | refine zdf ?_ | refine zdj rfl ?_)
  refine rs_callM3 hPut rfl rfl (Takes.spl (Takes.same Takes.nil)) rfl ?_
  rintro ⟨⟨ga, gb⟩, ca, cb⟩ ⟨hca, hcb⟩
  dsimp only at hca hcb ⊢
  refine rs_call (pre := [entF ga 29 (n + 1 + d + 1) f' ca, entC gb (n + 1) P' cb]) (hIf ga gb ca cb hca hcb) rfl rfl (Takes.same Takes.nil) rfl ?_
  intro _ _
  repeat first | refine zaa rfl (zaz rfl) ?_ | refine zaa rfl (zbz rfl rfl) ?_ | refine zah ?_ | (refine zcr ?_; refine zcs ?_) | (refine zdb ?_; refine zdg ?_) | refine zan 3 rfl rfl rfl rfl rfl rfl rfl rfl rfl ?_
  exact done_retCX rfl rfl ((ga, gb), ca, cb) rfl rfl (mt (mt (mt mh))) rfl rfl rfl ⟨hca, hcb⟩ (.cons_cons _ (.cons_cons _ (List.nil_sublist _)))
end Go.Ab
namespace Go.Ab
open Go.Proofs
variable {R : World → Prop} [RStab R]
def rkN (m : Int → Int) : Nat → Nat
  | 0 => 0
  | i + 1 => rkN m i + (if m ((i : Int) + 1) = m i then 0 else 1)
def kpN (m : Int → Int) : Nat → Nat → Int
  | 0, _ => m 0
  | i + 1, r => if m ((i : Int) + 1) = m i then kpN m i r else if r = rkN m i + 1 then m ((i : Int) + 1) else kpN m i r
theorem rkN_eq {m : Int → Int} {i : Nat} (h : m ((i : Int) + 1) = m i) : rkN m (i + 1) = rkN m i := by
  show rkN m i + (if _ then 0 else 1) = _
  rw [if_pos h]
  rfl
theorem rkN_ne {m : Int → Int} {i : Nat} (h : ¬ m ((i : Int) + 1) = m i) : rkN m (i + 1) = rkN m i + 1 := by
  show rkN m i + (if _ then 0 else 1) = _
  rw [if_neg h]
theorem rkN_step (m : Int → Int) (i : Nat) : rkN m i ≤ rkN m (i + 1) ∧ rkN m (i + 1) ≤ rkN m i + 1 := by
  by_cases h : m ((i : Int) + 1) = m i
  · rw [rkN_eq h]; omega
  · rw [rkN_ne h]; omega
theorem rkN_up (m : Int → Int) (i : Nat) : ∀ j, rkN m i ≤ rkN m (i + j) ∧ rkN m (i + j) ≤ rkN m i + j
  | 0 => ⟨Nat.le_refl _, Nat.le_refl _⟩
  | j + 1 => by
    have h1 := rkN_up m i j
    have h2 := rkN_step m (i + j)
    rw [show i + (j + 1) = i + j + 1 by omega]
    omega
theorem kpN_eq {m : Int → Int} {i r : Nat} (h : m ((i : Int) + 1) = m i) : kpN m (i + 1) r = kpN m i r := by
  show (if _ then _ else _) = _
  rw [if_pos h]
theorem kpN_new {m : Int → Int} {i : Nat} (h : ¬ m ((i : Int) + 1) = m i) : kpN m (i + 1) (rkN m (i + 1)) = m ((i : Int) + 1) := by
  show (if _ then _ else _) = _
  rw [if_neg h, if_pos (rkN_ne h)]
theorem kpN_old {m : Int → Int} {i r : Nat} (hr : r ≤ rkN m i) : kpN m (i + 1) r = kpN m i r := by
  show (if _ then _ else _) = _
  split
  · rfl
  · rw [if_neg (by omega)]
theorem kpN_at (m : Int → Int) : ∀ N i, i ≤ N → kpN m N (rkN m i) = m i
  | 0, i, h => by
    obtain rfl : i = 0 := by omega
    rfl
  | N + 1, i, h => by
    rcases Nat.lt_or_ge i (N + 1) with h1 | h1
    · have h2 := (rkN_up m i (N - i)).1
      rw [show i + (N - i) = N by omega] at h2
      rw [kpN_old h2]
      exact kpN_at m N i (by omega)
    · obtain rfl : i = N + 1 := by omega
      by_cases h2 : m ((N : Int) + 1) = m N
      · rw [kpN_eq h2, rkN_eq h2, kpN_at m N N (Nat.le_refl _), ← h2]
        rfl
      · rw [kpN_new h2]
        rfl
theorem kpN_bd {m : Int → Int} {l u : Int} (h : ∀ i, l ≤ m i ∧ m i ≤ u) : ∀ N r, l ≤ kpN m N r ∧ kpN m N r ≤ u
  | 0, _ => h 0
  | N + 1, r => by
    show l ≤ (if _ then _ else _) ∧ (if _ then _ else _) ≤ u
    have := kpN_bd h N r
    have := h ((N : Int) + 1)
    split
    · assumption
    · split <;> assumption
/-- The different ones as floats. -/
def kpF (m : Int → Int) (N : Nat) (r : Int) : FV := some (FloatKind.f32.nearest (kpN m N r.toNat))
section
variable {P : Program} {N : Nat} {S : World → Prop} {e : Env} {Q : Exit → Env → World → Prop} {ops : Array Oper} {l : List Oper}
variable {w0 : World} {gs : List Nat} {H : List Ent} {dst : Option Tmp} {ty : TypeId} {pos : String} {after : Array Edge} {guard : Option (Nat × Bool)} {t el : TypeId}
/-- A place in a part of a list of the call's own. -/
theorem opj_indexO {X I : Operand} {g n cap off : Nat} {i j : Int} {b : Nat} {z : Value} [hu : TyU P t (.slice el)] [hi : TyI P el z 1 b]
    (hx : e.ev X = some (.raw (.slice (some ⟨g, off, none⟩) n cap))) (hI : e.ev I = some (.raw (.int .i64 i))) (hj : j = off + i) (h0 : 0 ≤ i) (hlt : i < n) :
    OpJ P S e ⟨dst, .indexAddr t X I, ty, pos, after, guard⟩ (.raw (.pointer (some ⟨g, j.toNat * 1, none⟩))) :=
  opj_value fun a w hS h => by
    have h1 := (h X (by simp [Op.operands]) _ hx).inv_raw
    have h2 := (h I (by simp [Op.operands]) _ hI).inv_raw
    refine ⟨_, w, ?_, Ext.refl _, .raw⟩
    have := addr_add ⟨g, off, none⟩ rfl (i.toNat * 1)
    simp only at this
    have e1 : j.toNat * 1 = off + i.toNat * 1 := by omega
    rw [e1]
    simp [execOp, h1, h2, Instr.indexAt, asIntOf, run_underlying hu.h, run_size hi, h0, hlt] at this ⊢
    exact this
theorem opj_eqnilRaw {t' : TypeId} {X : Operand} {ad : Addr} {n c : Nat} [hu : TyU P t (.slice el)] (hx : e.ev X = some (.raw (.slice (some ad) n c))) :
    OpJ P S e ⟨dst, .binOp .eql t X (.const (.slice none 0 0)) t', ty, pos, after, guard⟩ (.raw (.bool false)) :=
  opj_value fun a w _ h => by
    have h1 := (h X (by simp [Op.operands]) _ hx).inv_raw
    refine ⟨_, w, ?_, Ext.refl _, .raw⟩
    have hc : a.eval (.const (.slice none 0 0)) = .slice none 0 0 := rfl
    have hr := Go.Lib.run_eql_slice_nil (P := P) w t el (some ad) n c 0 0 hu.h
    simp [execOp, h1, hc, eqGuard, hr]
/-- Nothing behind an empty list. -/
theorem opj_appendE {X Y : Operand} {ad ad' : Option Addr} {c : Nat} {z : Value} {b : Nat} [hu : TyU P t (.slice el)] [hi : TyI P el z 1 b] (hx : e.ev X = some (.raw (.slice ad 0 0))) (hy : e.ev Y = some (.raw (.slice ad' 0 c))) :
    OpJ P S e ⟨dst, .call { callee := .builtin .append, args := #[X, Y], argTypes := #[t, t] }, ty, pos, after, guard⟩ (.raw (.slice ad 0 0)) :=
  opj_value fun a w _ h => by
    have h1 := (h X (by simp [Op.operands, Call.operands]) _ hx).inv_raw
    have h2 := (h Y (by simp [Op.operands, Call.operands]) _ hy).inv_raw
    refine ⟨_, w, ?_, Ext.refl _, .raw⟩
    have hr : (Builtin.append_ #[t, t] ty #[.slice ad 0 0, .slice ad' 0 c]).run P w = .ok (.slice ad 0 0) w := by
      cases ad <;> cases ad' <;> simp [Builtin.append_, run_underlying hu.h, run_size hi, Builtin.lenOf, Builtin.firstCells, loadCells, loadCellsFrom, storeCells]
    simp only [execOp, resolve, invoke, builtin, Sem.run_bind, Sem.run_pure, Result.andThen_ok, List.map_toArray, List.map_cons, List.map_nil, h1, h2, hr]
end
attribute [local irreducible] WS RS Done OpJ Then InBlock Round Ret Env.sub FnH
attribute [local irreducible] tab tabC
theorem clone0_fn (ad : Addr) (c : Nat) : FnH (X := Nat) Try.prog 27 (fun _ => [.raw (.slice (some ad) 0 c)]) [] (fun g => .raw (.slice (some ⟨g, 0, none⟩) 0 0)) (fun g => [⟨g, 29, [], 0⟩]) (fun _ => True) := by
  refine fn_intro Try.func27 rfl Try.ntmps27 (fun _ => Nat.le_of_ble_eq_true rfl) fun w0 => ?_
  repeat first | refine zaa rfl (zay rfl) ?_ | refine zaa rfl (zaz rfl) ?_ | refine zah ?_ | (refine zcr ?_; refine zcs ?_) | (refine zdb ?_; first | refine zdc ?_ | refine zdd ?_ | refine zdf ?_ | refine zdg ?_ | refine zdj rfl ?_) | (refine rs_litP rfl rfl rfl rfl rfl rfl ?_; intro g) | refine zaa rfl (opj_eqnilRaw rfl) ?_ | refine zaa rfl (opj_appendE rfl rfl) ?_
  exact done_ret1 rfl g rfl trivial (List.Sublist.refl _)
theorem compact0_fn (ad : Option Addr) (c : Nat) : Fn Try.prog 38 (fun _ => [.raw (.slice ad 0 c)]) (.raw (.slice ad 0 c)) := by
  refine fn_intro Try.func38 rfl Try.ntmps38 (fun _ => Nat.le_of_ble_eq_true rfl) fun w0 => ?_
  repeat first | refine zaa rfl (zay rfl) ?_ | refine zaa rfl (zaz rfl) ?_ | (refine zac ?_; refine zaa rfl (zbe rfl rfl) ?_) | (refine zad ?_; refine zaa rfl (zbn rfl) ?_) | refine zah ?_ | (refine zcr ?_; first | refine zcs ?_ | refine zct ?_) | (refine zdb ?_; first | refine zdc ?_ | refine zdd ?_ | refine zdg ?_ | refine zdi rfl ?_)
  exact done_ret1 rfl () rfl trivial (List.nil_sublist _)
theorem mF_cmp {m : Int → Int} (hm : ∀ i, 0 ≤ m i ∧ m i ≤ 10) (i j : Int) : cmpB .eql (fcmp .f32 (mF m i) (mF m j)) = decide (m i = m j) ∧ cmpB .neq (fcmp .f32 (mF m i) (mF m j)) = decide (m i ≠ m j) := by
  have h := gd_cmp (gd_whole (hm i).1 (hm i).2) (gd_whole (hm j).1 (hm j).2)
  refine ⟨h.2.1.trans (decide_eq_decide.2 (by omega)), h.2.2.2.2.2.trans (decide_eq_decide.2 (by omega))⟩
theorem entF_ext {g n c : Nat} {T : TypeId} {f f' : Int → FV} (h : ∀ i : Int, 0 ≤ i → i < n → f i = f' i) : entF g T n f c = entF g T n f' c := by
  unfold entF
  rw [tab_congr (g := f') h]
set_option maxHeartbeats 1000000 in
theorem compact_fn {N g c : Nat} {m : Int → Int} (hm : ∀ i, 0 ≤ m i ∧ m i ≤ 10) (hN : 1 ≤ N ∧ N ≤ 100) (hc : N ≤ c ∧ c ≤ maxLen) :
    FnH (X := Unit) Try.prog 38 (fun _ => [.raw (.slice (some ⟨g, 0, none⟩) N c)]) [entF g 29 N (mF m) c]
      (fun _ => .raw (.slice (some ⟨g, 0, none⟩) (rkN m (N - 1) + 1) c)) (fun _ => [entF g 29 (rkN m (N - 1) + 1) (kpF m (N - 1)) c]) (fun _ => True) := by
  simp only [maxLen] at hc
  have hidl : ∀ k, (∀ i, i < k → rkN m i = i) → 1 ≤ k → k = N → entF g 29 N (mF m) c = entF g 29 (rkN m (N - 1) + 1) (kpF m (N - 1)) c := fun k hk h1 hkN => by
    subst hkN
    rw [hk (k - 1) (by omega), show k - 1 + 1 = k by omega]
    refine entF_ext fun i h0 h1 => ?_
    unfold kpF mF
    have := kpN_at m (k - 1) i.toNat (by omega)
    rw [hk i.toNat (by omega)] at this
    rw [this, Int.toNat_of_nonneg h0]
  have hidn : ∀ k, (∀ i, i < k → rkN m i = i) → 1 ≤ k → k = N → rkN m (N - 1) + 1 = N := fun k hk h1 hkN => by
    subst hkN
    rw [hk (k - 1) (by omega)]
    omega
  refine fn_intro Try.func38 rfl Try.ntmps38 (fun _ => Nat.le_of_ble_eq_true rfl) fun w0 => ?_
  repeat first | refine zaa rfl (zay rfl) ?_ | refine zaa rfl (zaz rfl) ?_ | (refine zac ?_; refine zaa rfl (zbe rfl rfl) ?_) | (refine zad ?_; refine zaa rfl (zbn rfl) ?_) | refine zah ?_ | (refine zcr ?_; refine zcs ?_) | (refine zdb ?_; first | refine zdc ?_ | refine zdd ?_)
  cases hs : decide ((N : Int) < 2)
  case' true =>
    have h1 := of_decide_eq_true hs
    have hk1 : ∀ i, i < 1 → rkN m i = i := fun i hi => by
      obtain rfl : i = 0 := by omega
      rfl
    repeat first | refine zaa rfl (zay rfl) ?_ | refine zaa rfl (zaz rfl) ?_ | refine zah ?_ | (refine zcr ?_; first | refine zcs ?_ | refine zct ?_) | (refine zdb ?_; first | refine zdc ?_ | refine zdd ?_ | refine zdg ?_ | refine zdi rfl ?_)
    rw [hidl 1 hk1 (Nat.le_refl _) (by omega), hidn 1 hk1 (Nat.le_refl _) (by omega)]
    exact done_ret1 rfl () rfl trivial (List.Sublist.refl _)
  have hs2 := of_decide_eq_false hs
  have hk0 : ∀ i, i < 0 + 1 → rkN m i = i := fun i hi => by
    obtain rfl : i = 0 := by omega
    rfl
  repeat first | refine zaa rfl (zaz rfl) ?_ | refine zah ?_ | (refine zcr ?_; refine zcs ?_) | (refine zdb ?_; first | refine zdc ?_ | refine zdd ?_ | refine zde ?_ | refine zdf ?_ | refine zdj rfl ?_)
  refine ws_loop (ι := Nat) (fun k => [(0, .raw (.slice (some ⟨g, 0, none⟩) N c)), (3, .raw (.int .i64 ((k : Nat) + 1 : Int)))]) (fun _ => StR (fun _ => True) w0 [g] [entF g 29 N (mF m) c]) (fun k => k + 1 ≤ N ∧ ∀ i, i < k + 1 → rkN m i = i) (fun k => N - k) 0 ⟨hN.1, hk0⟩ ?_ (fun _ h => h) (fun k hk => ?_)
  · (repeat (first | exact Env.sub_nil _ | refine Env.sub_cons rfl ?_))
  obtain ⟨hk1, hk2⟩ := hk
  repeat first | refine zaa rfl (zay rfl) ?_ | (refine zac ?_; refine zaa rfl (zbe rfl rfl) ?_) | (refine zad ?_; refine zaa rfl (zbn rfl) ?_) | refine zah ?_ | (refine zcr ?_; refine zcs ?_) | (refine zdb ?_; first | refine zdc ?_ | refine zdd ?_)
  refine ws_cond rfl (fun hd => ?_) (fun hd => ?_)
  case' refine_2 =>
    have hkN : k + 1 = N := by have := of_decide_eq_false hd; omega
    repeat first | refine zaa rfl (zay rfl) ?_ | refine zaa rfl (zaz rfl) ?_ | refine zah ?_ | (refine zcr ?_; first | refine zcs ?_ | refine zcu ?_ | refine zcx ?_ | refine zda ?_) | (refine zdb ?_; first | refine zdc ?_ | refine zdd ?_ | refine zdg ?_ | refine zdh ?_)
    refine done_ret1 rfl () ?_ trivial ?_
    · rw [hidn (k + 1) hk2 (by omega) hkN]
      rfl
    · rw [← hidl (k + 1) hk2 (by omega) hkN]
      exact List.Sublist.refl _
  have hlt : (k : Int) + 1 < (N : Int) := of_decide_eq_true hd
  clear hd
  have hq := (mF_cmp hm ((k : Int) + 1) k).1
  repeat first | (refine zcr ?_; refine zcs ?_) | (refine zdb ?_; first | refine zdc ?_ | refine zde ?_ | refine zdf ?_)
  refine ws_draw (n := 10) mixed (by decide +kernel) ?_
  repeat first | refine zap rfl (zay rfl) ?_ | (refine zar ?_; first | refine zap rfl (zbc rfl rfl (by omega)) ?_ | refine zap rfl (zbd rfl rfl rfl) ?_) | (refine zat ?_; refine zap rfl (zbt rfl rfl (by (repeat (first | exact mh | refine mt ?_)); done) (by omega)) ?_) | (refine zau ?_; refine zap rfl (zbw rfl rfl (by omega) (by omega)) ?_) | refine zav ?_
  rw [show (k : Int) + 1 - 1 = k by omega, hq]
  cases he : decide (m ((k : Int) + 1) = m k)
  · have hne := of_decide_eq_false he
    repeat first | refine zaa rfl (zay rfl) ?_ | refine zaa rfl (zaz rfl) ?_ | (refine zac ?_; refine zaa rfl (zbb rfl rfl (by omega)) ?_) | refine zah ?_ | (refine zcr ?_; first | refine zcs ?_ | refine zcv ?_) | (refine zdb ?_; first | refine zdd ?_ | refine zdf ?_ | refine zdj rfl ?_)
    refine done_round (k + 1) ⟨by omega, fun i hi => ?_⟩ (by omega) ?_ (fun _ h => h)
    · rcases Nat.lt_or_ge i (k + 1) with h | h
      · exact hk2 i h
      · obtain rfl : i = k + 1 := by omega
        rw [rkN_ne hne, hk2 k (by omega)]
    · rw [show ((k + 1 : Nat) : Int) + 1 = (k : Int) + 1 + 1 by omega]
      (repeat (first | exact Env.sub_nil _ | refine Env.sub_cons rfl ?_))
  · have heq := of_decide_eq_true he
    repeat first | refine zaa rfl (zay rfl) ?_ | refine zaa rfl (zaz rfl) ?_ | refine zah ?_ | (refine zcr ?_; refine zcs ?_) | (refine zdb ?_; first | refine zdc ?_ | refine zdd ?_ | refine zde ?_ | refine zdi rfl ?_) | refine zaa rfl (opj_cutLo (k + 1) rfl rfl (by omega) (by omega) (by omega)) ?_
    have hr0 : rkN m (k + 1) = k := by rw [rkN_eq heq, hk2 k (by omega)]
    refine ws_loop (ι := Nat × (Int → FV)) (fun y => [(0, .raw (.slice (some ⟨g, 0, none⟩) N c)), (3, .raw (.int .i64 ((rkN m (k + 1 + y.1) : Nat) + 1 : Int))), (4, .raw (.slice (some ⟨g, k + 1, none⟩) (N - (k + 1)) (c - (k + 1)))), (5, .raw (.int .i64 ((y.1 : Nat) + 1 : Int)))])
      (fun y => StR (fun _ => True) w0 [g] [entF g 29 N y.2 c]) (fun y => k + 1 + y.1 < N ∧ (∀ s : Int, (k : Int) + 1 + y.1 ≤ s → y.2 s = mF m s) ∧ ∀ s : Int, 0 ≤ s → s ≤ (rkN m (k + 1 + y.1) : Nat) → y.2 s = kpF m (k + 1 + y.1) s) (fun y => N - y.1) (0, mF m) ⟨by simp only; omega, fun _ _ => rfl, fun s h0 h1 => ?_⟩ ?_ (fun _ h => h) (fun y hy => ?_)
    · simp only [Nat.add_zero] at h1 ⊢
      have := kpN_at m (k + 1) s.toNat (by omega)
      rw [hk2 s.toNat (by omega)] at this
      unfold kpF mF
      rw [this, Int.toNat_of_nonneg h0]
    · simp only [Nat.add_zero, hr0]
      (repeat (first | exact Env.sub_nil _ | refine Env.sub_cons rfl ?_))
    obtain ⟨j, F⟩ := y
    obtain ⟨hj, hF1, hF2⟩ := hy
    dsimp only at hj hF1 hF2 ⊢
    have hru := (rkN_up m (k + 1) j).2
    rw [hr0] at hru
    repeat first | refine zaa rfl (zay rfl) ?_ | (refine zac ?_; refine zaa rfl (zbe rfl rfl) ?_) | (refine zad ?_; refine zaa rfl (zbn rfl) ?_) | refine zah ?_ | (refine zcr ?_; refine zcs ?_) | (refine zdb ?_; first | refine zdc ?_ | refine zdd ?_)
    refine ws_cond rfl (fun hd => ?_) (fun hd => ?_)
    · have hlt2 : (j : Int) + 1 < ((N - (k + 1) : Nat) : Int) := of_decide_eq_true hd
      clear hd
      have hq2 := (mF_cmp hm ((k : Int) + 1 + j + 1) ((k : Int) + 1 + j)).2
      have hA := hF1 ((k : Int) + 1 + j + 1) (by omega)
      have hB := hF1 ((k : Int) + 1 + j) (by omega)
      repeat first | (refine zcr ?_; refine zcs ?_) | (refine zdb ?_; first | refine zdc ?_ | refine zde ?_ | refine zdf ?_)
      refine ws_draw (n := 10) mixed (by decide +kernel) ?_
      repeat first | refine zap rfl (zay rfl) ?_ | (refine zar ?_; first | refine zap rfl (zbc rfl rfl (by omega)) ?_ | refine zap rfl (zbd rfl rfl rfl) ?_) | (refine zat ?_; refine zap rfl (zbt rfl rfl (by (repeat (first | exact mh | refine mt ?_)); done) (by omega)) ?_) | (refine zau ?_; first | refine zap rfl (opj_indexO (j := (k : Int) + 1 + j + 1) rfl rfl (by omega) (by omega) (by omega)) ?_ | refine zap rfl (opj_indexO (j := (k : Int) + 1 + j) rfl rfl (by omega) (by omega) (by omega)) ?_) | refine zav ?_
      rw [hA, hB, hq2]
      cases he2 : decide (m ((k : Int) + 1 + j + 1) ≠ m ((k : Int) + 1 + j))
      · have heq2 : m (((k + 1 + j : Nat) : Int) + 1) = m ((k + 1 + j : Nat) : Int) := by
          have := of_decide_eq_false he2
          rw [show ((k + 1 + j : Nat) : Int) = (k : Int) + 1 + j by omega]
          omega
        have hrk := rkN_eq heq2
        repeat first | refine zaa rfl (zay rfl) ?_ | refine zaa rfl (zaz rfl) ?_ | (refine zac ?_; refine zaa rfl (zbb rfl rfl (by omega)) ?_) | refine zah ?_ | (refine zcr ?_; first | refine zcs ?_ | refine zcv ?_) | (refine zdb ?_; first | refine zdd ?_ | refine zdf ?_ | refine zdj rfl ?_)
        refine done_round (j + 1, F) ⟨by simp only; omega, fun s hs => hF1 s (by simp only at hs; omega), fun s h0 h1 => ?_⟩ (by simp only; omega) ?_ (fun _ h => h)
        · simp only at h1 ⊢
          rw [show k + 1 + (j + 1) = k + 1 + j + 1 by omega] at h1 ⊢
          rw [hrk] at h1
          rw [hF2 s h0 h1]
          unfold kpF
          rw [kpN_eq heq2]
        · simp only
          rw [show k + 1 + (j + 1) = k + 1 + j + 1 by omega, hrk, show ((j + 1 : Nat) : Int) + 1 = (j : Int) + 1 + 1 by omega]
          (repeat (first | exact Env.sub_nil _ | refine Env.sub_cons rfl ?_))
      · have hne2 : ¬ m (((k + 1 + j : Nat) : Int) + 1) = m ((k + 1 + j : Nat) : Int) := by
          have := of_decide_eq_true he2
          rw [show ((k + 1 + j : Nat) : Int) = (k : Int) + 1 + j by omega]
          omega
        have hrk := rkN_ne hne2
        have hnew := kpN_new hne2
        rw [hrk] at hnew
        repeat first | refine zaa rfl (zay rfl) ?_ | (refine zae ?_; refine zaa rfl (zbt rfl rfl (by (repeat (first | exact mh | refine mt ?_)); done) (by omega)) ?_) | (refine zaf ?_; first | refine zaa rfl (opj_indexO (j := (k : Int) + 1 + j + 1) rfl rfl (by omega) (by omega) (by omega)) ?_ | refine zaa rfl (zbw rfl rfl (by omega) (by omega)) ?_) | refine zah ?_ | (refine zcr ?_; refine zcs ?_) | (refine zdb ?_; first | refine zdc ?_ | refine zdd ?_ | refine zdi rfl ?_)
        refine rs_storeT 0 (fun s => if s = (rkN m (k + 1 + j) : Nat) + 1 then F ((k : Int) + 1 + j + 1) else F s) (i := ((rkN m (k + 1 + j) : Nat) : Int) + 1) (n := N) (c := c) rfl rfl rfl (by omega) (by simp) (fun s _ _ hs => by simp [hs]) ?_
        repeat first | refine zaa rfl (zay rfl) ?_ | refine zaa rfl (zaz rfl) ?_ | (refine zac ?_; refine zaa rfl (zbb rfl rfl (by omega)) ?_) | refine zah ?_ | (refine zcr ?_; first | refine zcs ?_ | refine zcv ?_) | (refine zdb ?_; refine zdd ?_)
        refine done_round (j + 1, fun s => if s = (rkN m (k + 1 + j) : Nat) + 1 then F ((k : Int) + 1 + j + 1) else F s) ⟨by simp only; omega, fun s hs => ?_, fun s h0 h1 => ?_⟩ (by simp only; omega) ?_ (fun _ h => h)
        · simp only at hs ⊢
          rw [if_neg (by omega)]
          exact hF1 s (by omega)
        · simp only at h1 ⊢
          rw [show k + 1 + (j + 1) = k + 1 + j + 1 by omega] at h1 ⊢
          rw [hrk] at h1
          by_cases h2 : s = (rkN m (k + 1 + j) : Nat) + 1
          · rw [if_pos h2, hA]
            unfold kpF mF
            rw [show s.toNat = rkN m (k + 1 + j) + 1 by omega, hnew, show ((k + 1 + j : Nat) : Int) = (k : Int) + 1 + j by omega]
          · rw [if_neg h2, hF2 s h0 (by omega)]
            unfold kpF
            rw [kpN_old (by omega)]
        · simp only
          rw [show k + 1 + (j + 1) = k + 1 + j + 1 by omega, hrk, show ((j + 1 : Nat) : Int) + 1 = (j : Int) + 1 + 1 by omega, show ((rkN m (k + 1 + j) + 1 : Nat) : Int) = ((rkN m (k + 1 + j) : Nat) : Int) + 1 by omega]
          (repeat (first | exact Env.sub_nil _ | refine Env.sub_cons rfl ?_))
    · have hge : ¬ (j : Int) + 1 < ((N - (k + 1) : Nat) : Int) := of_decide_eq_false hd
      clear hd
      have hkj : k + 1 + j = N - 1 := by omega
      rw [hkj] at hF2 hru ⊢
      repeat first | refine zaa rfl (zay rfl) ?_ | (refine zcr ?_; first | refine zcs ?_ | refine zcu ?_ | refine zcx ?_ | refine zda ?_) | (refine zdb ?_; first | refine zdc ?_ | refine zdd ?_ | refine zdh ?_) | refine zaa rfl (opj_cutLo (rkN m (N - 1) + 1) rfl rfl (by omega) (by omega) (by omega)) ?_
      refine rs_clearT 0 rfl rfl (by omega) (by omega) (by omega) rfl rfl ?_
      repeat first | refine zaa rfl (zay rfl) ?_ | refine zaa rfl (zaz rfl) ?_ | refine zah ?_ | (refine zcr ?_; first | refine zcs ?_ | refine zct ?_ | refine zcw ?_ | refine zcz ?_) | (refine zdb ?_; first | refine zdc ?_ | refine zdd ?_ | refine zdg ?_) | refine zaa rfl (opj_cutHi (rkN m (N - 1) + 1) rfl rfl (by omega) (by omega) (by omega)) ?_
      have e : entF g 29 (rkN m (N - 1) + 1) F c = entF g 29 (rkN m (N - 1) + 1) (kpF m (N - 1)) c := entF_ext fun s h0 h1 => hF2 s h0 (by omega)
      refine done_ret1 rfl () rfl trivial ?_
      rw [← e]
      exact List.Sublist.refl _
end Go.Ab
