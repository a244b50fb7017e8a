/- Part 8 of the texts on which the law leans, joined: Splines in memory: even knots; walked. No conditions. -/
import Derived.Test.YtijihljfpeajlaaZag
namespace Go.Ab
open Go.Proofs
variable {R : World → Prop} [RStab R]
section
variable {P : Program} {N : Nat} {S : World → Prop} {e : Env} {Q : Exit → Env → World → Prop} {ops : Array Oper} {l : List Oper} {t el : TypeId} {w0 : World} {gs : List Nat} {H : List Ent} {dst : Option Tmp} {ty : TypeId} {pos : String} {after : Array Edge} {guard : Option (Nat × Bool)}
theorem run_slice_lh3 {w : World} (t : TypeId) (a : Option Addr) (len cap : Nat) (ht : P.underlying t = some (.slice (P.elem t))) (k k' : IntKind) (l h : Int) (h0 : 0 ≤ l) (h1 : l ≤ h) (h2 : h ≤ cap) :
    (Instr.slice t (.slice a len cap) (some (.int k l)) (some (.int k' h)) none).run P w = ((sizeOf (P.elem t)).run P w).andThen fun s w => .ok (sliced a l.toNat h.toNat cap s) w := by
  have eh : (h.toNat : Int) = h := Int.toNat_of_nonneg (by omega)
  simp [Instr.slice, run_underlying ht, Instr.sliceBounds, run_sliceBound, sliced, *, eh, (by omega : 0 ≤ h)]
theorem rd_part3 {w : World} {v : Value} {xs : List AV} (h : Rd w 1 v xs) {l m : Nat} (hlm : l ≤ m) (hm' : m ≤ xs.length) : ∃ a len cap, v = .slice a len cap ∧ len = xs.length ∧ len ≤ cap ∧ Rd w 1 (sliced a l m cap 1) ((xs.drop l).take (m - l)) := by
  obtain ⟨a, len, cap, rfl, hlen, hc, hm, hx⟩ := h
  refine ⟨a, len, cap, rfl, by omega, hc, ?_⟩
  unfold sliced
  refine ⟨_, _, _, rfl, by simp; omega, by omega, by omega, fun i x hi => ?_⟩
  rw [List.getElem?_take] at hi
  split at hi
  · rename_i hil
    rw [List.getElem?_drop] at hi
    obtain ⟨b, rfl, hs, u, hu, hev⟩ := hx _ _ hi
    have hlt := (List.getElem?_eq_some_iff.1 hi).1
    rw [if_neg (by omega)]
    refine ⟨b.add (l * 1), rfl, ?_, u, ?_, hev⟩
    · unfold Addr.add; split <;> simp_all
    · have : (b.add (l * 1)).block = b.block ∧ (b.add (l * 1)).off = b.off + l := by
        rw [addr_add b hs]; simp
      rw [this.1, this.2, Nat.add_assoc]
      exact hu
  · cases hi
theorem opj_slice_lh3 {z : Value} {b : Nat} {X Y Z : Operand} {xs : List AV} {k k' : IntKind} {l h : Int} [hu : TyU P t (.slice el)] [hi : TyI P el z 1 b]
    (hx : e.ev X = some (AV.sl w0 1 xs)) (hy : e.ev Y = some (.raw (.int k l))) (hz : e.ev Z = some (.raw (.int k' h))) (h0 : 0 ≤ l) (h1 : l ≤ h) (h2 : h ≤ xs.length) :
    OpJ P S e ⟨dst, .slice t X (some Y) (some Z) none, ty, pos, after, guard⟩ (AV.sl w0 1 ((xs.drop l.toNat).take (h.toNat - l.toNat))) :=
  opj_value fun a w _ ho => by
    have e1 := (ho X (by simp [Op.operands]) _ hx).inv_q
    have e2 := (ho Y (by simp [Op.operands]) _ hy).inv_raw
    have e3 := (ho Z (by simp [Op.operands]) _ hz).inv_raw
    obtain ⟨c, len, cap, hv, hlen, hc, hrd⟩ := rd_part3 e1 (l := l.toNat) (m := h.toNat) (by omega) (by omega)
    have hel : P.elem t = el := by simp [Program.elem, hu.h]
    have ht : P.underlying t = some (.slice (P.elem t)) := by rw [hel]; exact hu.h
    have hr := run_slice_lh3 (P := P) (w := w) t c len cap ht k k' l h h0 h1 (by omega)
    rw [hel, run_size hi] at hr
    refine ⟨_, w, ?_, Ext.refl _, .q hrd⟩
    have hs := run_sliceAt_slice (P := P) w t (.slice c len cap) (some (.int k l)) (some (.int k' h)) none ht
    simp [execOp, e2, e3, hv, hs, hr]
theorem tab_cut {N l c : Nat} (f : Int → FV) (h : l + c ≤ N) : (((tab N f).map (AV.f .f32)).drop l).take c = (tab c fun i => f (i + l)).map (AV.f .f32) := by
  refine List.ext_getElem? fun i => ?_
  rw [List.getElem?_take, List.getElem?_drop, List.getElem?_map, List.getElem?_map]
  by_cases hi : i < c
  · rw [if_pos hi, tab_get f (by omega), tab_get _ hi]
    show some (AV.f .f32 (f ((l + i : Nat) : Int))) = some (AV.f .f32 (f ((i : Int) + l)))
    rw [show ((l + i : Nat) : Int) = (i : Int) + l by omega]
  · rw [if_neg hi, List.getElem?_eq_none (by rw [tab_length]; omega)]
    rfl
/-- A part of a list that came in. -/
theorem opj_cutT {z : Value} {b : Nat} {X Y Z : Operand} {N l0 c : Nat} {f : Int → FV} {lo hi : Int} [hu : TyU P t (.slice el)] [hi' : TyI P el z 1 b]
    (hx : e.ev X = some (AV.sl w0 1 ((tab N f).map (AV.f .f32)))) (hy : e.ev Y = some (.raw (.int .i64 lo))) (hz : e.ev Z = some (.raw (.int .i64 hi))) (h1 : lo = l0) (h2 : hi = (l0 + c : Nat)) (h : l0 + c ≤ N) :
    OpJ P S e ⟨dst, .slice t X (some Y) (some Z) none, ty, pos, after, guard⟩ (AV.sl w0 1 ((tab c fun i => f (i + l0)).map (AV.f .f32))) := by
  have := opj_slice_lh3 (P := P) (S := S) (e := e) (dst := dst) (ty := ty) (pos := pos) (after := after) (guard := guard) (t := t) hx hy hz (by omega) (by omega) (by simp; omega)
  rw [show lo.toNat = l0 by omega, show hi.toNat - l0 = c by omega, tab_cut f h] at this
  exact this
end
attribute [local irreducible] WS RS Done OpJ Then InBlock Round Ret Env.sub FnH
attribute [local irreducible] tab tabC
section
variable {d n : Nat} {f : Int → FV} {P : Nat → CV} {a : Int → Int}
theorem SpOk.rise (h : SpOk d n f P a) : ∀ i : Int, 1 ≤ i → i < ((n + d + 1 : Nat) : Int) → cmpB .geq (fcmp .f32 (f i) (f (i - 1))) = true := fun i h1 h2 => by
  rw [(gd_cmp (h.kn.g i (by omega) (by omega)) (h.kn.g (i - 1) (by omega) (by omega))).1]
  exact decide_eq_true (h.kn.up _ _ (by omega))
theorem isSound_fn (h : SpOk d n f P a) : Fn Try.prog 37 (fun w => [splA w d n f P]) (.raw (.bool true)) := by
  obtain ⟨d1, d2⟩ := h.d1
  obtain ⟨n1, n2⟩ := h.n1
  have hA := arePoints_fn (tabC n P) (by simp; omega)
  rw [h.fin] at hA
  have hF := areFinite_fn (tab (n + d + 1) f) (by simp; omega)
  rw [h.knFin] at hF
  have hR := isRising_fn (n + d + 1) f (by omega) h.rise
  have up := h.kn.up
  have e1 := h.first d (Int.le_refl _)
  have e2 := h.last ((n : Int) + d) (by omega)
  have e3 := h.lt
  have e4 := h.gt
  have e5 := up ((d : Int) + 1) n (by omega)
  have c1 := (gd_cmp (h.kn.g 0 (by omega) (by omega)) (h.kn.g d (by omega) (by omega))).2.2.2.2.2
  rw [decide_eq_false (show ¬ a 0 ≠ a d by omega)] at c1
  have c2 := (gd_cmp (h.kn.g ((n : Int) + d) (by omega) (by omega)) (h.kn.g n (by omega) (by omega))).2.2.2.2.2
  rw [decide_eq_false (show ¬ a ((n : Int) + d) ≠ a n by omega)] at c2
  have c3 := (gd_cmp (h.kn.g 0 (by omega) (by omega)) (h.kn.g ((n : Int) + d) (by omega) (by omega))).2.2.1
  rw [decide_eq_true (show a 0 < a ((n : Int) + d) by omega)] at c3
  refine fn_intro Try.func37 rfl Try.ntmps37 (fun _ => Nat.le_of_ble_eq_true rfl) fun w0 => ?_
  repeat first | refine zaa rfl (zay rfl) ?_ | refine zaa rfl (zaz rfl) ?_ | (refine zac ?_; first | refine zaa rfl (zbb rfl rfl (by omega)) ?_ | refine zaa rfl (zbj rfl rfl) ?_) | (refine zad ?_; first | refine zaa rfl (opj_lenC rfl) ?_ | refine zaa rfl (zbo rfl) ?_) | (refine zae ?_; refine zaa rfl (zcf rfl rfl (by (repeat (first | exact mh | refine mt ?_)); done) rfl) ?_) | refine zaa rfl (zcd rfl) ?_ | refine zah ?_ | (refine zcr ?_; refine zcs ?_) | (refine zdb ?_; first | refine zdc ?_ | refine zdd ?_) | (refine zak rfl rfl rfl ?_; intro g)
  rw [show decide (((n + d + 1 : Nat) : Int) ≠ (n : Int) + d + 1) = false from decide_eq_false (by omega)]
  repeat first | refine zai rfl rfl ?_ | refine zaa rfl (zay rfl) ?_ | (refine zad ?_; first | (refine zaa rfl (zci rfl rfl (hA) ?_) ?_; (focus ((repeat (first | exact Takes.nil | refine Takes.sl ?_ | refine Takes.lit ?_ | refine Takes.fa ?_ | refine Takes.fc ?_ | refine Takes.net ?_ | (refine Takes.ownE ?_ ?_ ?_ ?_ ?_; (focus (exact ⟨_, _, (by (repeat (first | exact mh | refine mt ?_)); done)⟩)); (focus (simp; done)); (focus omega); (focus (simp only [maxLen]; omega))) | refine Takes.same ?_)); done))) | (refine zaa rfl (zci rfl rfl (hF) ?_) ?_; (focus ((repeat (first | exact Takes.nil | refine Takes.sl ?_ | refine Takes.lit ?_ | refine Takes.fa ?_ | refine Takes.fc ?_ | refine Takes.net ?_ | (refine Takes.ownE ?_ ?_ ?_ ?_ ?_; (focus (exact ⟨_, _, (by (repeat (first | exact mh | refine mt ?_)); done)⟩)); (focus (simp; done)); (focus omega); (focus (simp only [maxLen]; omega))) | refine Takes.same ?_)); done))) | (refine zaa rfl (zci rfl rfl (hR) ?_) ?_; (focus ((repeat (first | exact Takes.nil | refine Takes.sl ?_ | refine Takes.lit ?_ | refine Takes.fa ?_ | refine Takes.fc ?_ | refine Takes.net ?_ | (refine Takes.ownE ?_ ?_ ?_ ?_ ?_; (focus (exact ⟨_, _, (by (repeat (first | exact mh | refine mt ?_)); done)⟩)); (focus (simp; done)); (focus omega); (focus (simp only [maxLen]; omega))) | refine Takes.same ?_)); done)))) | (refine zae ?_; refine zaa rfl (zcf rfl rfl (by (repeat (first | exact mh | refine mt ?_)); done) rfl) ?_) | refine zaa rfl (zcd rfl) ?_ | refine zaa rfl (zcb rfl rfl) ?_ | refine zaa rfl (zcc rfl) ?_ | refine zah ?_ | (refine zcr ?_; refine zcs ?_) | (refine zdb ?_; first | refine zdc ?_ | refine zdf ?_ | refine zdj rfl ?_)
  refine ws_draw (n := 13) mixed (by decide +kernel) ?_
  repeat first | refine zap rfl (zay rfl) ?_ | refine zap rfl (zaz rfl) ?_ | (refine zar ?_; refine zap rfl (zbb rfl rfl (by omega)) ?_) | (refine zat ?_; first | refine zap rfl (zcf rfl rfl (by (repeat (first | exact mh | refine mt ?_)); done) rfl) ?_ | refine zap rfl (zbu rfl rfl) ?_) | (refine zau ?_; refine zap rfl (zbs rfl rfl (by omega) (by omega)) ?_) | refine zap rfl (zcd rfl) ?_ | refine zav ?_
  repeat first | refine zaa rfl (zay rfl) ?_ | (refine zac ?_; refine zaa rfl (zbd rfl rfl rfl) ?_) | (refine zae ?_; first | refine zaa rfl (zcf rfl rfl (by (repeat (first | exact mh | refine mt ?_)); done) rfl) ?_ | refine zaa rfl (zbu rfl rfl) ?_) | (refine zaf ?_; refine zaa rfl (zbs rfl rfl (by omega) (by omega)) ?_) | refine zaa rfl (zcd rfl) ?_ | refine zah ?_ | (refine zcr ?_; refine zcs ?_) | (refine zdb ?_; first | refine zdc ?_ | refine zdd ?_)
  rw [c1]
  repeat first | refine zai rfl rfl ?_ | refine zaa rfl (zay rfl) ?_ | (refine zac ?_; refine zaa rfl (zbd rfl rfl rfl) ?_) | (refine zae ?_; first | refine zaa rfl (zcf rfl rfl (by (repeat (first | exact mh | refine mt ?_)); done) rfl) ?_ | refine zaa rfl (zbu rfl rfl) ?_) | (refine zaf ?_; refine zaa rfl (zbs rfl rfl (by omega) (by omega)) ?_) | refine zaa rfl (zcd rfl) ?_ | refine zaa rfl (zcb rfl rfl) ?_
  rw [c2]
  repeat first | refine zai rfl rfl ?_ | refine zaa rfl (zay rfl) ?_ | (refine zac ?_; refine zaa rfl (zbd rfl rfl rfl) ?_) | refine zaa rfl (zcb rfl rfl) ?_ | refine zaa rfl (zcc rfl) ?_ | refine zah ?_ | (refine zcr ?_; refine zcs ?_)
  rw [c3]
  repeat first | refine zaa rfl (zay rfl) ?_ | refine zaa rfl (zaz rfl) ?_ | (refine zac ?_; refine zaa rfl (zbb rfl rfl (by omega)) ?_) | (refine zad ?_; refine zaa rfl (zbo rfl) ?_) | (refine zae ?_; refine zaa rfl (zcf rfl rfl (by (repeat (first | exact mh | refine mt ?_)); done) rfl) ?_) | refine zaa rfl (zcd rfl) ?_ | refine zah ?_ | (refine zcr ?_; refine zcs ?_) | (refine zdb ?_; first | refine zdc ?_ | refine zdd ?_ | refine zde ?_ | refine zdf ?_ | refine zdj rfl ?_) | refine zaa rfl (opj_cutT (N := n + d + 1) (l0 := d + 1) (c := n - d - 1) rfl rfl rfl (by omega) (by omega) (by omega)) ?_
  refine ws_loop (ι := Nat) (fun k => [(3, .raw (.int .i64 (d : Int))), (5, .f .f32 (f 0)), (6, .f .f32 (f ((n : Int) + d))), (7, AV.sl w0 1 ((tab (n - d - 1) fun i => f (i + (d + 1 : Nat))).map (AV.f .f32))), (80, AV.sl w0 1 ((tab (n - d - 1) fun i => f (i + (d + 1 : Nat))).map (AV.f .f32))), (81, .raw (.int .i64 ((n - d - 1 : Nat) : Int))), (82, .raw (.int .i64 ((k : Nat) : Int)))])
    (fun _ => St w0 [] []) (fun k => k ≤ n - d - 1) (fun k => n - d - 1 - k) 0 (Nat.zero_le _) ?_ (fun w hw => hw.weak (List.nil_sublist _)) (fun k hk => ?_)
  · (repeat (first | exact Env.sub_nil _ | refine Env.sub_cons rfl ?_))
  repeat first | (refine zac ?_; refine zaa rfl (zbe rfl rfl) ?_) | refine zah ?_ | (refine zcr ?_; refine zcs ?_) | (refine zdb ?_; first | refine zdc ?_ | refine zdd ?_)
  refine ws_cond rfl (fun hd => ?_) (fun hd => ?_)
  · have hlt : (k : Int) < ((n - d - 1 : Nat) : Int) := of_decide_eq_true hd
    clear hd
    have g1 := h.kn.g ((k : Int) + (d + 1 : Nat)) (by omega) (by omega)
    have u1 := up ((d : Int) + 1) ((k : Int) + (d + 1 : Nat)) (by omega)
    have u2 := up ((k : Int) + (d + 1 : Nat)) ((n : Int) - 1) (by omega)
    have k1 := (gd_cmp g1 (h.kn.g 0 (by omega) (by omega))).2.1
    rw [decide_eq_false (show ¬ a ((k : Int) + (d + 1 : Nat)) = a 0 by omega)] at k1
    have k2 := (gd_cmp g1 (h.kn.g ((n : Int) + d) (by omega) (by omega))).2.1
    rw [decide_eq_false (show ¬ a ((k : Int) + (d + 1 : Nat)) = a ((n : Int) + d) by omega)] at k2
    repeat first | refine zaa rfl (zay rfl) ?_ | refine zaa rfl (zaz rfl) ?_ | (refine zac ?_; refine zaa rfl (zbd rfl rfl rfl) ?_) | (refine zae ?_; refine zaa rfl (zbu rfl rfl) ?_) | (refine zaf ?_; refine zaa rfl (zbs rfl rfl (by omega) (by omega)) ?_) | refine zah ?_ | (refine zcr ?_; refine zcs ?_) | (refine zdb ?_; first | refine zdc ?_ | refine zdd ?_ | refine zde ?_ | refine zdf ?_)
    rw [k1]
    repeat first | refine zai rfl rfl ?_ | refine zaa rfl (zay rfl) ?_ | (refine zac ?_; refine zaa rfl (zbd rfl rfl rfl) ?_) | refine zaa rfl (zcb rfl rfl) ?_
    rw [k2]
    repeat first | refine zai rfl rfl ?_ | refine zaa rfl (zay rfl) ?_ | (refine zac ?_; refine zaa rfl (zbh rfl rfl) ?_)
    cases hge : decide ((d : Int) ≤ (k : Int))
    · repeat first | refine zai rfl rfl ?_ | refine zaj rfl rfl rfl rfl ?_ | refine zaa rfl (zay rfl) ?_ | (refine zac ?_; refine zaa rfl (zbb rfl rfl (by omega)) ?_) | refine zaa rfl (zcb rfl rfl) ?_ | refine zah ?_ | (refine zcr ?_; first | refine zcs ?_ | refine zcv ?_) | (refine zdb ?_; first | refine zdd ?_ | refine zdf ?_ | refine zdj rfl ?_)
      refine done_round (k + 1) (by omega) (by omega) ?_ (fun _ h => h)
      rw [show ((k + 1 : Nat) : Int) = (k : Int) + 1 by omega]
      (repeat (first | exact Env.sub_nil _ | refine Env.sub_cons rfl ?_))
    · have hdk := of_decide_eq_true hge
      have m1 := h.mult ((k : Int) - d + (d + 1 : Nat)) (by omega) (by omega)
      rw [show (k : Int) - d + (d + 1 : Nat) + d = (k : Int) + (d + 1 : Nat) by omega] at m1
      have k3 := (gd_cmp (h.kn.g ((k : Int) - d + (d + 1 : Nat)) (by omega) (by omega)) g1).2.1
      rw [decide_eq_false (show ¬ a ((k : Int) - d + (d + 1 : Nat)) = a ((k : Int) + (d + 1 : Nat)) by omega)] at k3
      repeat first | refine zai rfl rfl ?_ | refine zaa rfl (zay rfl) ?_ | (refine zac ?_; first | refine zaa rfl (zbc rfl rfl (by omega)) ?_ | refine zaa rfl (zbd rfl rfl rfl) ?_) | (refine zae ?_; refine zaa rfl (zbu rfl rfl) ?_) | (refine zaf ?_; refine zaa rfl (zbs rfl rfl (by omega) (by omega)) ?_) | refine zaa rfl (zca rfl rfl) ?_ | refine zaa rfl (zcb rfl rfl) ?_ | refine zah ?_ | (refine zcr ?_; refine zcs ?_)
      rw [k3]
      repeat first | refine zaa rfl (zay rfl) ?_ | (refine zac ?_; refine zaa rfl (zbb rfl rfl (by omega)) ?_) | refine zah ?_ | (refine zcr ?_; first | refine zcs ?_ | refine zcv ?_) | (refine zdb ?_; first | refine zdd ?_ | refine zdf ?_ | refine zdj rfl ?_)
      refine done_round (k + 1) (by omega) (by omega) ?_ (fun _ h => h)
      rw [show ((k + 1 : Nat) : Int) = (k : Int) + 1 by omega]
      (repeat (first | exact Env.sub_nil _ | refine Env.sub_cons rfl ?_))
  · repeat first | refine zaa rfl (zaz rfl) ?_ | refine zah ?_ | (refine zcr ?_; first | refine zcs ?_ | refine zcu ?_ | refine zcx ?_ | refine zda ?_) | (refine zdb ?_; first | refine zdc ?_ | refine zdd ?_ | refine zdg ?_ | refine zdh ?_)
    exact done_ret1 rfl () rfl trivial (List.nil_sublist _)
end
end Go.Ab
namespace Go.Ab
open Go.Proofs
variable {R : World → Prop} [RStab R]
attribute [local irreducible] WS RS Done OpJ Then InBlock Round Ret Env.sub FnH
attribute [local irreducible] tab tabC
section
variable {d n : Nat} {f : Int → FV} {P : Nat → CV} {a : Int → Int}
theorem validSpline_fn (h : SpOk d n f P a) : Fn Try.prog 16 (fun w => [splA w d n f P]) (.raw (.bool true)) := by
  obtain ⟨d1, d2⟩ := h.d1
  obtain ⟨n1, n2⟩ := h.n1
  have hW := within_fn (d : Int) 1 5
  rw [decide_eq_true (show (1 : Int) ≤ d by omega), decide_eq_true (show (d : Int) ≤ 5 by omega)] at hW
  have hS := isSound_fn h
  refine fn_intro Try.func16 rfl Try.ntmps16 (fun _ => Nat.le_of_ble_eq_true rfl) fun w0 => ?_
  repeat first | refine zai rfl rfl ?_ | refine zaa rfl (zay rfl) ?_ | refine zaa rfl (zaz rfl) ?_ | (refine zac ?_; first | refine zaa rfl (zbb rfl rfl (by omega)) ?_ | refine zaa rfl (zbe rfl rfl) ?_) | (refine zad ?_; first | refine zaa rfl (opj_lenC rfl) ?_ | (refine zaa rfl (zci rfl rfl (hW) ?_) ?_; (focus ((repeat (first | exact Takes.nil | refine Takes.sl ?_ | refine Takes.lit ?_ | refine Takes.fa ?_ | refine Takes.fc ?_ | refine Takes.net ?_ | (refine Takes.ownE ?_ ?_ ?_ ?_ ?_; (focus (exact ⟨_, _, (by (repeat (first | exact mh | refine mt ?_)); done)⟩)); (focus (simp; done)); (focus omega); (focus (simp only [maxLen]; omega))) | refine Takes.same ?_)); done)))) | (refine zae ?_; refine zaa rfl (zcf rfl rfl (by (repeat (first | exact mh | refine mt ?_)); done) rfl) ?_) | refine zaa rfl (zcd rfl) ?_ | refine zaa rfl (zcb rfl rfl) ?_ | refine zaa rfl (zcc rfl) ?_ | refine zah ?_ | (refine zcr ?_; refine zcs ?_) | (refine zdb ?_; first | refine zdc ?_ | refine zdd ?_) | (refine zak rfl rfl rfl ?_; intro g)
  rw [decide_eq_false (show ¬ (n : Int) < (d : Int) + 1 by omega)]
  repeat first | refine zai rfl rfl ?_ | (refine zac ?_; refine zaa rfl (zbg rfl rfl) ?_) | (refine zad ?_; refine zaa rfl (opj_lenC rfl) ?_) | (refine zae ?_; refine zaa rfl (zcf rfl rfl (by (repeat (first | exact mh | refine mt ?_)); done) rfl) ?_) | refine zaa rfl (zcd rfl) ?_ | refine zaa rfl (zcb rfl rfl) ?_ | refine zah ?_ | (refine zcr ?_; refine zcs ?_)
  rw [decide_eq_false (show ¬ (24 : Int) < (n : Int) by omega)]
  repeat first | refine zaa rfl (zaz rfl) ?_ | (refine zae ?_; refine zaa rfl (zcg rfl rfl (by (repeat (first | exact mh | refine mt ?_)); done) rfl rfl) ?_) | refine zah ?_ | (refine zcr ?_; refine zcs ?_) | (refine zdb ?_; first | refine zdc ?_ | refine zdd ?_ | refine zdf ?_ | refine zdg ?_ | refine zdj rfl ?_) | refine zaa rfl (zci rfl rfl hS (Takes.spl Takes.nil)) ?_
  exact done_ret1 rfl () rfl trivial (List.nil_sublist _)
theorem isIn_fn (h : SpOk d n f P a) {t : FV} {τ : Int} (ht : Gd t τ) (h0 : a 0 ≤ τ) (h1 : τ ≤ a n) : Fn Try.prog 21 (fun w => [splA w d n f P, .f .f32 t]) (.raw (.bool true)) := by
  obtain ⟨d1, d2⟩ := h.d1
  obtain ⟨n1, n2⟩ := h.n1
  have hV := validSpline_fn h
  have e2 := h.last ((n : Int) + d) (by omega)
  have c1 := (gd_cmp ht (h.kn.g 0 (by omega) (by omega))).1
  rw [decide_eq_true h0] at c1
  have c2 := (gd_cmp ht (h.kn.g ((n : Int) + d) (by omega) (by omega))).2.2.2.2.1
  rw [decide_eq_true (show τ ≤ a ((n : Int) + d) by omega)] at c2
  refine fn_intro Try.func21 rfl Try.ntmps21 (fun _ => Nat.le_of_ble_eq_true rfl) fun w0 => ?_
  repeat first | refine zai rfl rfl ?_ | refine zaa rfl (zay rfl) ?_ | refine zaa rfl (zaz rfl) ?_ | (refine zac ?_; refine zaa rfl (zbd rfl rfl rfl) ?_) | (refine zae ?_; first | refine zaa rfl (zcf rfl rfl (by (repeat (first | exact mh | refine mt ?_)); done) rfl) ?_ | refine zaa rfl (zcg rfl rfl (by (repeat (first | exact mh | refine mt ?_)); done) rfl rfl) ?_ | refine zaa rfl (zbu rfl rfl) ?_) | (refine zaf ?_; refine zaa rfl (zbs rfl rfl (by omega) (by omega)) ?_) | refine zaa rfl (zcd rfl) ?_ | refine zaa rfl (zca rfl rfl) ?_ | refine zah ?_ | (refine zcr ?_; refine zcs ?_) | (refine zdb ?_; first | refine zdc ?_ | refine zdd ?_) | (refine zak rfl rfl rfl ?_; intro g) | refine zaa rfl (zci rfl rfl hV (Takes.spl Takes.nil)) ?_
  rw [c1]
  repeat first | refine zai rfl rfl ?_ | refine zaa rfl (zay rfl) ?_ | refine zaa rfl (zaz rfl) ?_ | (refine zac ?_; first | refine zaa rfl (zbc rfl rfl (by omega)) ?_ | refine zaa rfl (zbd rfl rfl rfl) ?_) | (refine zad ?_; refine zaa rfl (zbo rfl) ?_) | (refine zae ?_; first | refine zaa rfl (zcf rfl rfl (by (repeat (first | exact mh | refine mt ?_)); done) rfl) ?_ | refine zaa rfl (zbu rfl rfl) ?_) | (refine zaf ?_; refine zaa rfl (zbs rfl rfl (by omega) (by omega)) ?_) | refine zaa rfl (zcd rfl) ?_ | refine zaa rfl (zca rfl rfl) ?_ | refine zah ?_ | (refine zcr ?_; refine zcs ?_) | (refine zdb ?_; refine zdg ?_)
  rw [show f (((n + d + 1 : Nat) : Int) - 1) = f ((n : Int) + d) by rw [show ((n + d + 1 : Nat) : Int) - 1 = (n : Int) + d by omega], c2]
  skip
  exact done_ret1 rfl () rfl trivial (List.nil_sublist _)
theorem span_fn (h : SpOk d n f P a) {t : FV} {τ : Int} (ht : Gd t τ) (h0 : a 0 ≤ τ) : Fn Try.prog 22 (fun w => [splA w d n f P, .f .f32 t]) (.raw (.int .i64 ((spanN a d τ (n - 1) : Nat) : Int))) := by
  obtain ⟨d1, d2⟩ := h.d1
  obtain ⟨n1, n2⟩ := h.n1
  refine fn_intro Try.func22 rfl Try.ntmps22 (fun _ => Nat.le_of_ble_eq_true rfl) fun w0 => ?_
  repeat first | refine zaa rfl (zaz rfl) ?_ | (refine zac ?_; refine zaa rfl (zbc rfl rfl (by omega)) ?_) | (refine zad ?_; refine zaa rfl (opj_lenC rfl) ?_) | (refine zae ?_; refine zaa rfl (zcf rfl rfl (by (repeat (first | exact mh | refine mt ?_)); done) rfl) ?_) | refine zaa rfl (zcd rfl) ?_ | refine zah ?_ | (refine zcr ?_; refine zcs ?_) | (refine zdb ?_; first | refine zdc ?_ | refine zdd ?_ | refine zde ?_) | (refine zak rfl rfl rfl ?_; intro g)
  refine ws_loop (ι := Nat) (fun k => [(2, .raw (.pointer (some ⟨g, 0, none⟩))), (1, .f .f32 t), (5, .raw (.int .i64 ((k : Nat) : Int)))])
    (fun _ => St w0 [] [⟨g, 27, [.raw (.int .i64 (d : Int)), AV.sl w0 1 ((tab (n + d + 1) f).map (AV.f .f32)), slC w0 (tabC n P)], 3⟩]) (fun k => d ≤ k ∧ k ≤ n - 1 ∧ spanN a d τ k = spanN a d τ (n - 1)) (fun k => k) (n - 1) ⟨by omega, by omega, rfl⟩ ?_ (fun w h => h) (fun k hk => ?_)
  · rw [show ((n - 1 : Nat) : Int) = (n : Int) - 1 by omega]
    (repeat (first | exact Env.sub_nil _ | refine Env.sub_cons rfl ?_))
  obtain ⟨k1, k2, k3⟩ := hk
  repeat first | refine zaa rfl (zay rfl) ?_ | (refine zac ?_; refine zaa rfl (zbg rfl rfl) ?_) | (refine zae ?_; refine zaa rfl (zcf rfl rfl (by (repeat (first | exact mh | refine mt ?_)); done) rfl) ?_) | refine zaa rfl (zcd rfl) ?_ | (refine zdb ?_; first | refine zdc ?_ | refine zdd ?_)
  cases hd : decide ((d : Int) < (k : Int))
  · have hd' := of_decide_eq_false hd
    obtain rfl : k = d := by omega
    repeat first | refine zaj rfl rfl rfl rfl ?_ | refine zaa rfl (zay rfl) ?_ | refine zaa rfl (zaz rfl) ?_ | refine zaa rfl (zcb rfl rfl) ?_ | refine zah ?_ | (refine zcr ?_; first | refine zcs ?_ | refine zcu ?_ | refine zcx ?_ | refine zda ?_) | (refine zdb ?_; first | refine zdc ?_ | refine zdd ?_ | refine zdg ?_ | refine zdh ?_ | refine zdj rfl ?_)
    have e : spanN a k τ (n - 1) = k := by
      rw [← k3]
      cases k with
      | zero => rfl
      | succ k =>
        show (if k + 1 < k + 1 ∧ _ then _ else k + 1) = k + 1
        rw [if_neg (by omega)]
    rw [e]
    exact done_ret1 rfl () rfl trivial (List.nil_sublist _)
  · have hd' := of_decide_eq_true hd
    have c1 := (gd_cmp (h.kn.g (k : Int) (by omega) (by omega)) ht).2.2.2.1
    repeat first | refine zai rfl rfl ?_ | refine zaa rfl (zay rfl) ?_ | (refine zac ?_; refine zaa rfl (zbd rfl rfl rfl) ?_) | (refine zae ?_; first | refine zaa rfl (zcf rfl rfl (by (repeat (first | exact mh | refine mt ?_)); done) rfl) ?_ | refine zaa rfl (zbu rfl rfl) ?_) | (refine zaf ?_; refine zaa rfl (zbs rfl rfl (by omega) (by omega)) ?_) | refine zaa rfl (zcd rfl) ?_ | refine zaa rfl (zca rfl rfl) ?_ | refine zah ?_ | (refine zcr ?_; refine zcs ?_)
    cases hc : decide (τ < a (k : Int)) <;> rw [hc] at c1
    · rw [c1]
      repeat first | refine zaa rfl (zay rfl) ?_ | refine zaa rfl (zaz rfl) ?_ | refine zah ?_ | (refine zcr ?_; first | refine zcs ?_ | refine zcu ?_ | refine zcx ?_ | refine zda ?_) | (refine zdb ?_; first | refine zdc ?_ | refine zdd ?_ | refine zdg ?_ | refine zdh ?_ | refine zdj rfl ?_)
      have hn := of_decide_eq_false hc
      have e : spanN a d τ (n - 1) = k := by
        rw [← k3]
        cases k with
        | zero => rfl
        | succ k =>
          show (if d < k + 1 ∧ τ < a ((k + 1 : Nat) : Int) then _ else k + 1) = k + 1
          rw [if_neg (fun e => hn e.2)]
      rw [e]
      exact done_ret1 rfl () rfl trivial (List.nil_sublist _)
    · have hn := of_decide_eq_true hc
      rw [c1]
      repeat first | refine zaa rfl (zay rfl) ?_ | refine zaa rfl (zaz rfl) ?_ | (refine zac ?_; refine zaa rfl (zbc rfl rfl (by omega)) ?_) | refine zah ?_ | (refine zcr ?_; first | refine zcs ?_ | refine zcv ?_) | (refine zdb ?_; first | refine zdd ?_ | refine zde ?_ | refine zdf ?_ | refine zdi rfl ?_)
      refine done_round (k - 1) ⟨by omega, by omega, ?_⟩ (by omega) ?_ (fun _ h => h)
      · rw [← k3]
        cases k with
        | zero => rfl
        | succ k =>
          show spanN a d τ k = (if d < k + 1 ∧ τ < a ((k + 1 : Nat) : Int) then spanN a d τ k else k + 1)
          rw [if_pos ⟨by omega, hn⟩]
      · rw [show ((k - 1 : Nat) : Int) = (k : Int) - 1 by omega]
        (repeat (first | exact Env.sub_nil _ | refine Env.sub_cons rfl ?_))
theorem spanAt_fn (h : SpOk d n f P a) {t : FV} {τ : Int} (ht : Gd t τ) (h0 : a 0 ≤ τ) (h1 : τ ≤ a n) : Fn Try.prog 9 (fun w => [splA w d n f P, .f .f32 t]) (.tup [.raw (.int .i64 ((spanN a d τ (n - 1) : Nat) : Int)), .raw (.bool true)]) := by
  have hI := isIn_fn h ht h0 h1
  have hS := span_fn h ht h0
  refine fn_intro Try.func9 rfl Try.ntmps9 (fun _ => Nat.le_of_ble_eq_true rfl) fun w0 => ?_
  repeat first | refine zaa rfl (zay rfl) ?_ | refine zaa rfl (zaz rfl) ?_ | (refine zae ?_; refine zaa rfl (zcg rfl rfl (by (repeat (first | exact mh | refine mt ?_)); done) rfl rfl) ?_) | refine zaa rfl (zcc rfl) ?_ | refine zah ?_ | (refine zcr ?_; refine zcs ?_) | (refine zdb ?_; first | refine zdc ?_ | refine zdd ?_ | refine zdf ?_ | refine zdg ?_ | refine zdj rfl ?_) | (refine zak rfl rfl rfl ?_; intro g) | refine zaa rfl (zci rfl rfl hI (Takes.spl (Takes.same Takes.nil))) ?_ | refine zaa rfl (zci rfl rfl hS (Takes.spl (Takes.same Takes.nil))) ?_
  exact done_ret2 rfl () rfl rfl rfl trivial (List.nil_sublist _)
theorem between_fn (p q : CV) (u : FV) : Fn Try.prog 47 (fun _ => [cA p, cA q, .f .f32 u]) (cA (btC p q u)) := by
  have h1 := scaled_fn p (fbin .sub .f32 one1 u)
  have h2 := scaled_fn q u
  refine fn_intro Try.func47 rfl Try.ntmps47 (fun _ => Nat.le_of_ble_eq_true rfl) fun w0 => ?_
  repeat first | refine zaa rfl (zay rfl) ?_ | refine zaa rfl (zaz rfl) ?_ | (refine zac ?_; refine zaa rfl (zba rfl rfl rfl) ?_) | (refine zad ?_; first | (refine zaa rfl (zci rfl rfl (h1) ?_) ?_; (focus ((repeat (first | exact Takes.nil | refine Takes.sl ?_ | refine Takes.lit ?_ | refine Takes.fa ?_ | refine Takes.fc ?_ | refine Takes.net ?_ | (refine Takes.ownE ?_ ?_ ?_ ?_ ?_; (focus (exact ⟨_, _, (by (repeat (first | exact mh | refine mt ?_)); done)⟩)); (focus (simp; done)); (focus omega); (focus (simp only [maxLen]; omega))) | refine Takes.same ?_)); done))) | (refine zaa rfl (zci rfl rfl (h2) ?_) ?_; (focus ((repeat (first | exact Takes.nil | refine Takes.sl ?_ | refine Takes.lit ?_ | refine Takes.fa ?_ | refine Takes.fc ?_ | refine Takes.net ?_ | (refine Takes.ownE ?_ ?_ ?_ ?_ ?_; (focus (exact ⟨_, _, (by (repeat (first | exact mh | refine mt ?_)); done)⟩)); (focus (simp; done)); (focus omega); (focus (simp only [maxLen]; omega))) | refine Takes.same ?_)); done))) | refine zaa rfl (zci rfl rfl (plus_fn _ _) (by (repeat (first | exact Takes.nil | refine Takes.sl ?_ | refine Takes.lit ?_ | refine Takes.fa ?_ | refine Takes.fc ?_ | refine Takes.net ?_ | (refine Takes.ownE ?_ ?_ ?_ ?_ ?_; (focus (exact ⟨_, _, (by (repeat (first | exact mh | refine mt ?_)); done)⟩)); (focus (simp; done)); (focus omega); (focus (simp only [maxLen]; omega))) | refine Takes.same ?_)); done)) ?_) | refine zah ?_ | (refine zcr ?_; refine zcs ?_) | (refine zdb ?_; first | refine zdc ?_ | refine zdd ?_ | refine zdg ?_)
  exact done_ret1 rfl () rfl trivial (List.nil_sublist _)
end
end Go.Ab
namespace Go.Ab
open Go.Proofs
variable {R : World → Prop} [RStab R]
attribute [local irreducible] WS RS Done OpJ Then InBlock Round Ret Env.sub FnH
attribute [local irreducible] tab tabC
section
variable {d n : Nat} {f : Int → FV} {P : Nat → CV} {a : Int → Int}
theorem ifSpline_yes (h : SpOk d n f P a) {ga gb ca cb : Nat} (h1 : n + d + 1 ≤ ca ∧ ca ≤ maxLen) (h2 : n ≤ cb ∧ cb ≤ maxLen) :
    FnH (X := Unit) Try.prog 29 (fun _ => [splO ga gb d n ca cb]) [entF ga 29 (n + d + 1) f ca, entC gb n P cb] (fun _ => .tup [splO ga gb d n ca cb, .raw (.bool true)]) (fun _ => [entF ga 29 (n + d + 1) f ca, entC gb n P cb]) (fun _ => True) := by
  have hV := validSpline_fn h
  refine fn_intro Try.func29 rfl Try.ntmps29 (fun _ => Nat.le_of_ble_eq_true rfl) fun w0 => ?_
  repeat first | refine zaa rfl (zaz rfl) ?_ | (refine zae ?_; refine zaa rfl (zcg rfl rfl (by (repeat (first | exact mh | refine mt ?_)); done) rfl rfl) ?_) | refine zaa rfl (zcc rfl) ?_ | refine zah ?_ | (refine zcr ?_; refine zcs ?_) | (refine zdb ?_; first | refine zdc ?_ | refine zdd ?_ | refine zdf ?_ | refine zdg ?_ | refine zdj rfl ?_) | (refine zak rfl rfl rfl ?_; intro g) | (refine zal rfl rfl ?_; intro g) | (refine zag ?_; refine zan 0 rfl rfl rfl rfl rfl rfl rfl rfl rfl ?_) | refine zaa rfl (zci rfl rfl hV (Takes.splO (mt (mt mh)) (mt (mt (mt mh))) h1 h2 Takes.nil)) ?_
  exact done_retCX rfl rfl () rfl rfl mh rfl rfl rfl trivial (.cons _ (.cons _ (List.Sublist.refl _)))
end
end Go.Ab
namespace Go.Ab
open Go.Proofs
variable {R : World → Prop} [RStab R]
section
variable {w0 w : World} {gs : List Nat}
theorem nodup_inj {l : List Nat} (h : l.Nodup) {i j x : Nat} (hi : l[i]? = some x) (hj : l[j]? = some x) : i = j := by
  induction l generalizing i j with
  | nil => simp at hi
  | cons a l ih =>
    rw [List.nodup_cons] at h
    cases i with
    | zero =>
      cases j with
      | zero => rfl
      | succ j =>
        simp at hi hj
        subst hi
        exact absurd (List.mem_of_getElem? hj) h.1
    | succ i =>
      cases j with
      | zero =>
        simp at hi hj
        subst hj
        exact absurd (List.mem_of_getElem? hi) h.1
      | succ j =>
        simp at hi hj
        rw [ih h.2 hi hj]
/-- Some of what is kept in mind, in another order. -/
theorem StR.sel {R0 : World → Prop} {H H' : List Ent} (h : StR R0 w0 gs H w) (ix : List Nat) (hn : ix.Nodup) (hH : ix.filterMap (fun i => H[i]?) = H') : StR R0 w0 gs H' w := by
  subst hH
  have hmem : ∀ e ∈ ix.filterMap (fun i => H[i]?), e ∈ H := fun e he => by
    obtain ⟨i, _, hi⟩ := List.mem_filterMap.1 he
    exact List.mem_of_getElem? hi
  refine ⟨h.mod, fun e he => h.own e (hmem e he), ?_, h.r⟩
  clear hmem
  induction ix with
  | nil => exact List.Pairwise.nil
  | cons i r ih =>
    rw [List.nodup_cons] at hn
    cases hi : H[i]? with
    | none =>
      rw [List.filterMap_cons, hi]
      exact ih hn.2
    | some e =>
      rw [List.filterMap_cons, hi]
      refine List.nodup_cons.2 ⟨fun hm => ?_, ih hn.2⟩
      obtain ⟨x, hx, hxg⟩ := List.mem_map.1 hm
      obtain ⟨j, hj, hjx⟩ := List.mem_filterMap.1 hx
      have h1 : (H.map (·.g))[i]? = some e.g := by rw [List.getElem?_map, hi]; rfl
      have h2 : (H.map (·.g))[j]? = some e.g := by rw [List.getElem?_map, hjx]; exact congrArg some hxg
      have := nodup_inj h.nodup h1 h2
      subst this
      exact hn.1 hj
end
/-- What the operation that builds a spline gives. -/
class SplT (P : Program) (t : TypeId) : Prop where
  b02 : ∀ (w : World) (x : Int) (a : Option Addr) (n c : Nat), (Instr.build t #[(0, .int .i64 x), (2, .slice a n c)]).run P w = .ok (.agg #[.int .i64 x, .slice none 0 0, .slice a n c]) w
  b01 : ∀ (w : World) (x : Int) (a : Option Addr) (n c : Nat), (Instr.build t #[(0, .int .i64 x), (1, .slice a n c)]).run P w = .ok (.agg #[.int .i64 x, .slice a n c, .slice none 0 0]) w
  b3 : ∀ (w : World) (x : Int) (a b : Option Addr) (n c m e : Nat), (Instr.build t #[(0, .int .i64 x), (1, .slice a n c), (2, .slice b m e)]).run P w = .ok (.agg #[.int .i64 x, .slice a n c, .slice b m e]) w
instance splTi : SplT Try.prog 27 := ⟨fun w x a n c => by kernel_rfl, fun w x a n c => by kernel_rfl, fun w x a b n c m e => by kernel_rfl⟩
section
variable {P : Program} {S : World → Prop} {e : Env} {dst : Option Tmp} {ty : TypeId} {pos : String} {after : Array Edge} {guard : Option (Nat × Bool)} {t : TypeId}
theorem opj_build02 {X Y : Operand} {x : Int} {a n c : _} [hb : SplT P t] (hx : e.ev X = some (.raw (.int .i64 x))) (hy : e.ev Y = some (.raw (.slice a n c))) :
    OpJ P S e ⟨dst, .build t #[(0, X), (2, Y)], ty, pos, after, guard⟩ (.agg [.raw (.int .i64 x), .raw (.slice none 0 0), .raw (.slice a n c)]) :=
  opj_value fun ac w _ h => by
    have h1 := (h X (by simp [Op.operands]) _ hx).inv_raw
    have h2 := (h Y (by simp [Op.operands]) _ hy).inv_raw
    refine ⟨_, w, ?_, Ext.refl _, .agg (vs := [.int .i64 x, .slice none 0 0, .slice a n c]) (.cons .raw (.cons .raw (.cons .raw .nil)))⟩
    simp only [execOp, List.map_toArray, List.map_cons, List.map_nil, h1, h2, Sem.run_bind, hb.b02, Result.andThen_ok]
    rfl
theorem opj_build01 {X Y : Operand} {x : Int} {a n c : _} [hb : SplT P t] (hx : e.ev X = some (.raw (.int .i64 x))) (hy : e.ev Y = some (.raw (.slice a n c))) :
    OpJ P S e ⟨dst, .build t #[(0, X), (1, Y)], ty, pos, after, guard⟩ (.agg [.raw (.int .i64 x), .raw (.slice a n c), .raw (.slice none 0 0)]) :=
  opj_value fun ac w _ h => by
    have h1 := (h X (by simp [Op.operands]) _ hx).inv_raw
    have h2 := (h Y (by simp [Op.operands]) _ hy).inv_raw
    refine ⟨_, w, ?_, Ext.refl _, .agg (vs := [.int .i64 x, .slice a n c, .slice none 0 0]) (.cons .raw (.cons .raw (.cons .raw .nil)))⟩
    simp only [execOp, List.map_toArray, List.map_cons, List.map_nil, h1, h2, Sem.run_bind, hb.b01, Result.andThen_ok]
    rfl
theorem opj_build3 {X Y Z : Operand} {x : Int} {a n c b m k : _} [hb : SplT P t] (hx : e.ev X = some (.raw (.int .i64 x))) (hy : e.ev Y = some (.raw (.slice a n c))) (hz : e.ev Z = some (.raw (.slice b m k))) :
    OpJ P S e ⟨dst, .build t #[(0, X), (1, Y), (2, Z)], ty, pos, after, guard⟩ (.agg [.raw (.int .i64 x), .raw (.slice a n c), .raw (.slice b m k)]) :=
  opj_value fun ac w _ h => by
    have h1 := (h X (by simp [Op.operands]) _ hx).inv_raw
    have h2 := (h Y (by simp [Op.operands]) _ hy).inv_raw
    have h3 := (h Z (by simp [Op.operands]) _ hz).inv_raw
    refine ⟨_, w, ?_, Ext.refl _, .agg (vs := [.int .i64 x, .slice a n c, .slice b m k]) (.cons .raw (.cons .raw (.cons .raw .nil)))⟩
    simp only [execOp, List.map_toArray, List.map_cons, List.map_nil, h1, h2, h3, Sem.run_bind, hb.b3, Result.andThen_ok]
    rfl
end
/-- Even knots. -/
def evI (d n i : Int) : Int := if n - d < (if i - d > 0 then i - d else 0) then n - d else (if i - d > 0 then i - d else 0)
def evF (d n : Nat) (i : Int) : FV := some (FloatKind.f32.nearest (evI d n i))
theorem ent_first (g : Nat) (T : TypeId) (d n c : Nat) : (⟨g, T, [.f .f32 (evF d n ((0 : Nat) : Int))], c * 1⟩ : Ent) = entF g T 1 (evF d n) c := by
  rw [Nat.mul_one]
  rfl
/-- A list as it grows from nil. -/
def kS (g c : Nat) : Nat → Value
  | 0 => .slice none 0 0
  | k + 1 => .slice (some ⟨g, 0, none⟩) (k + 1) c
attribute [local irreducible] WS RS Done OpJ Then InBlock Round Ret Env.sub FnH
attribute [local irreducible] tab tabC
section
variable {d n : Nat} {P : Nat → CV} {a : Int → Int}
theorem evenSpline_fn (h : SpOk d n (evF d n) P a) :
    FnH (X := (Nat × Nat) × Nat × Nat) Try.prog 15 (fun w => [slC w (tabC n P), .raw (.int .i64 (d : Int))]) [] (fun y => .tup [splO y.1.1 y.1.2 d n y.2.1 y.2.2, .raw (.bool true)])
      (fun y => [entF y.1.1 29 (n + d + 1) (evF d n) y.2.1, entC y.1.2 n P y.2.2]) (fun y => (n + d + 1 ≤ y.2.1 ∧ y.2.1 ≤ maxLen) ∧ n ≤ y.2.2 ∧ y.2.2 ≤ maxLen) := by
  obtain ⟨d1, d2⟩ := h.d1
  obtain ⟨n1, n2⟩ := h.n1
  have hW := within_fn (d : Int) 1 5
  rw [decide_eq_true (show (1 : Int) ≤ d by omega), decide_eq_true (show (d : Int) ≤ 5 by omega)] at hW
  have hV := within_fn (n : Int) ((d : Int) + 1) 24
  rw [decide_eq_true (show (d : Int) + 1 ≤ n by omega), decide_eq_true (show (n : Int) ≤ 24 by omega)] at hV
  have hC := cloneC_fn n P (by omega) (by omega)
  refine fn_intro Try.func15 rfl Try.ntmps15 (fun _ => Nat.le_of_ble_eq_true rfl) fun w0 => ?_
  repeat first | refine zai rfl rfl ?_ | refine zaa rfl (zay rfl) ?_ | refine zaa rfl (zaz rfl) ?_ | (refine zac ?_; refine zaa rfl (zbb rfl rfl (by omega)) ?_) | (refine zad ?_; first | refine zaa rfl (opj_lenC rfl) ?_ | (refine zaa rfl (zci rfl rfl (hW) ?_) ?_; (focus ((repeat (first | exact Takes.nil | refine Takes.sl ?_ | refine Takes.lit ?_ | refine Takes.fa ?_ | refine Takes.fc ?_ | refine Takes.net ?_ | (refine Takes.ownE ?_ ?_ ?_ ?_ ?_; (focus (exact ⟨_, _, (by (repeat (first | exact mh | refine mt ?_)); done)⟩)); (focus (simp; done)); (focus omega); (focus (simp only [maxLen]; omega))) | refine Takes.same ?_)); done))) | (refine zaa rfl (zci rfl rfl (hV) ?_) ?_; (focus ((repeat (first | exact Takes.nil | refine Takes.sl ?_ | refine Takes.lit ?_ | refine Takes.fa ?_ | refine Takes.fc ?_ | refine Takes.net ?_ | (refine Takes.ownE ?_ ?_ ?_ ?_ ?_; (focus (exact ⟨_, _, (by (repeat (first | exact mh | refine mt ?_)); done)⟩)); (focus (simp; done)); (focus omega); (focus (simp only [maxLen]; omega))) | refine Takes.same ?_)); done)))) | refine zaa rfl (zcb rfl rfl) ?_ | refine zaa rfl (zcc rfl) ?_ | refine zah ?_ | (refine zcr ?_; refine zcs ?_) | (refine zdb ?_; first | refine zdc ?_ | refine zdd ?_ | refine zdf ?_ | refine zdj rfl ?_) | (refine zal rfl rfl ?_; intro g)
  obtain ⟨g4, hg4⟩ : ∃ x, x = g := ⟨g, rfl⟩
  subst hg4
  refine rs_callM3 hC rfl rfl ?_ rfl ?_
  · (repeat (first | exact Takes.nil | refine Takes.sl ?_ | refine Takes.lit ?_ | refine Takes.fa ?_ | refine Takes.fc ?_ | refine Takes.net ?_ | (refine Takes.ownE ?_ ?_ ?_ ?_ ?_; (focus (exact ⟨_, _, (by (repeat (first | exact mh | refine mt ?_)); done)⟩)); (focus (simp; done)); (focus omega); (focus (simp only [maxLen]; omega))) | refine Takes.same ?_)); done
  rintro ⟨gb, cb⟩ hcb
  dsimp only at hcb ⊢
  repeat first | refine zaa rfl (zay rfl) ?_ | (refine zac ?_; refine zaa rfl (zbb rfl rfl (by omega)) ?_) | refine zah ?_ | (refine zcr ?_; refine zcs ?_) | (refine zdb ?_; first | refine zdc ?_ | refine zdd ?_ | refine zde ?_) | (refine zal rfl rfl ?_; intro g) | (refine zag ?_; refine zan 0 rfl rfl rfl rfl rfl rfl rfl rfl rfl ?_) | refine zaa rfl (opj_build02 rfl rfl) ?_
  refine ws_loop (ι := Nat × Nat × Nat) (fun y => [(0, slC w0 (tabC n P)), (1, .raw (.int .i64 (d : Int))), (4, .raw (.pointer (some ⟨g4, 0, none⟩))), (6, .raw (.int .i64 (n : Int))), (7, .raw (.pointer (some ⟨g, 0, none⟩))), (29, .raw (.int .i64 ((n : Int) + d + 1))), (30, .raw (.int .i64 ((y.1 : Nat) : Int)))])
    (fun y => match y.1 with
      | 0 => St w0 [] [⟨g, 27, [.raw (.int .i64 (d : Int)), .raw (.slice none 0 0), .raw (.slice (some ⟨gb, 0, none⟩) n cb)], 3⟩, entC gb n P cb, ⟨g4, 27, [.raw (.int .i64 0), .raw (.slice none 0 0), .raw (.slice none 0 0)], 3⟩]
      | k + 1 => St w0 [] [entF y.2.1 29 (k + 1) (evF d n) y.2.2, ⟨g, 27, [.raw (.int .i64 (d : Int)), .raw (.slice (some ⟨y.2.1, 0, none⟩) (k + 1) y.2.2), .raw (.slice (some ⟨gb, 0, none⟩) n cb)], 3⟩, entC gb n P cb, ⟨g4, 27, [.raw (.int .i64 0), .raw (.slice none 0 0), .raw (.slice none 0 0)], 3⟩])
    (fun y => y.1 ≤ n + d + 1 ∧ (0 < y.1 → y.1 ≤ y.2.2 ∧ y.2.2 ≤ maxLen)) (fun y => n + d + 1 - y.1) (0, 0, 0) ⟨Nat.zero_le _, fun h => absurd h (Nat.lt_irrefl _)⟩ ?_ (fun w hw => hw) (fun y hy => ?_)
  · (repeat (first | exact Env.sub_nil _ | refine Env.sub_cons rfl ?_))
  obtain ⟨k, ga, ca⟩ := y
  obtain ⟨hk, hca⟩ := hy
  dsimp only at hk hca ⊢
  cases k with
  | zero =>
    dsimp only
    repeat first | (refine zac ?_; refine zaa rfl (zbe rfl rfl) ?_) | refine zah ?_ | (refine zcr ?_; refine zcs ?_) | (refine zdb ?_; first | refine zdc ?_ | refine zdd ?_)
    rw [decide_eq_true (show ((0 : Nat) : Int) < (n : Int) + d + 1 by omega)]
    repeat first | refine zaa rfl (zay rfl) ?_ | refine zaa rfl (zaz rfl) ?_ | (refine zac ?_; refine zaa rfl (zbc rfl rfl (by omega)) ?_) | (refine zae ?_; refine zaa rfl (zcf rfl rfl (by (repeat (first | exact mh | refine mt ?_)); done) rfl) ?_) | refine zaa rfl (zcd rfl) ?_ | refine zaa rfl (zby rfl) ?_ | refine zah ?_ | (refine zcr ?_; refine zcs ?_) | (refine zdb ?_; first | refine zdc ?_ | refine zdd ?_ | refine zde ?_ | refine zdf ?_ | refine zdi rfl ?_) | refine zaa rfl (zco rfl rfl rfl rfl rfl rfl) ?_ | refine zaa rfl (opj_maxO rfl rfl) ?_ | refine zaa rfl (opj_minO rfl rfl) ?_
    refine rs_appendNil2 (sz := 1) (m := 1) (ys := [.f .f32 (evF d n ((0 : Nat) : Int))]) rfl (by decide) rfl ⟨_, rfl, fun w v _ h => h.inv_p.2⟩ rfl (by decide) rfl (by simp only [maxLen]; decide) (by decide) rfl fun ga ca h1 h2 => ?_
    rw [ent_first]
    repeat first | refine zaa rfl (zay rfl) ?_ | (refine zac ?_; refine zaa rfl (zbb rfl rfl (by omega)) ?_) | refine zaa rfl (zcd rfl) ?_ | refine zah ?_ | (refine zcr ?_; first | refine zcs ?_ | refine zcv ?_) | (refine zdb ?_; refine zdd ?_) | (refine zag ?_; refine zam 1 rfl rfl rfl rfl rfl rfl ?_)
    refine done_round (1, ga, ca) ⟨by simp only; omega, fun _ => ⟨h1, h2⟩⟩ (by simp only; omega) ?_ (fun _ hw => hw)
    (repeat (first | exact Env.sub_nil _ | refine Env.sub_cons rfl ?_))
  | succ k =>
    obtain ⟨hc1, hc2⟩ := hca (Nat.succ_pos k)
    dsimp only
    simp only [maxLen] at hc2
    repeat first | (refine zac ?_; refine zaa rfl (zbe rfl rfl) ?_) | refine zah ?_ | (refine zcr ?_; refine zcs ?_) | (refine zdb ?_; first | refine zdc ?_ | refine zdd ?_)
    refine ws_cond rfl (fun hd => ?_) (fun hd => ?_)
    · have hlt : ((k + 1 : Nat) : Int) < (n : Int) + d + 1 := of_decide_eq_true hd
      clear hd
      repeat first | refine zaa rfl (zay rfl) ?_ | refine zaa rfl (zaz rfl) ?_ | (refine zac ?_; refine zaa rfl (zbc rfl rfl (by omega)) ?_) | (refine zae ?_; refine zaa rfl (zcf rfl rfl (by (repeat (first | exact mh | refine mt ?_)); done) rfl) ?_) | refine zaa rfl (zcd rfl) ?_ | refine zaa rfl (zby rfl) ?_ | refine zah ?_ | (refine zcr ?_; refine zcs ?_) | (refine zdb ?_; first | refine zdc ?_ | refine zdd ?_ | refine zde ?_ | refine zdf ?_) | refine zaa rfl (zco rfl rfl rfl rfl rfl rfl) ?_ | refine zaa rfl (opj_maxO rfl rfl) ?_ | refine zaa rfl (opj_minO rfl rfl) ?_
      refine rs_appendT 0 (evF d n) rfl rfl rfl rfl ⟨hc1, by simp only [maxLen]; omega⟩ (by omega) rfl rfl rfl (fun s _ _ => rfl) fun g' c' h1 h2 => ?_
      repeat first | refine zaa rfl (zay rfl) ?_ | (refine zac ?_; refine zaa rfl (zbb rfl rfl (by omega)) ?_) | refine zaa rfl (zcd rfl) ?_ | refine zah ?_ | (refine zcr ?_; first | refine zcs ?_ | refine zcv ?_) | (refine zdb ?_; refine zdd ?_) | (refine zag ?_; refine zam 1 rfl rfl rfl rfl rfl rfl ?_)
      refine done_round (k + 1 + 1, g', c') ⟨by simp only; omega, fun _ => ⟨h1, h2⟩⟩ (by simp only; omega) ?_ (fun _ hw => hw)
      rw [show ((k + 1 + 1 : Nat) : Int) = ((k + 1 : Nat) : Int) + 1 by omega]
      (repeat (first | exact Env.sub_nil _ | refine Env.sub_cons rfl ?_))
    · have hge : ¬ ((k + 1 : Nat) : Int) < (n : Int) + d + 1 := of_decide_eq_false hd
      clear hd
      obtain rfl : k = n + d := by omega
      have hI := ifSpline_yes h (ga := ga) (gb := gb) (ca := ca) (cb := cb) ⟨hc1, by simp only [maxLen]; omega⟩ hcb
      repeat first | (refine zae ?_; refine zaa rfl (zcg rfl rfl (by (repeat (first | exact mh | refine mt ?_)); done) rfl rfl) ?_) | (refine zcr ?_; first | refine zcs ?_ | refine zcu ?_ | refine zcx ?_ | refine zda ?_) | (refine zdb ?_; first | refine zdc ?_ | refine zdd ?_ | refine zdh ?_)
      refine RS.st (S' := StR (fun _ => True) w0 [] ([entF ga 29 (n + d + 1) (evF d n) ca, entC gb n P cb] ++ [⟨g4, 27, [.raw (.int .i64 0), .raw (.slice none 0 0), .raw (.slice none 0 0)], 3⟩])) ?_ (fun w hw => hw.sel [0, 2, 3] (by decide) rfl)
      refine rs_call hI rfl rfl (Takes.same Takes.nil) rfl fun _ _ => ?_
      repeat (refine zaa rfl (zbz rfl rfl) ?_)
      refine zan 2 rfl rfl rfl rfl rfl rfl rfl rfl rfl ?_
      repeat first | refine zaa rfl (zaz rfl) ?_ | refine zah ?_ | (refine zcr ?_; refine zcs ?_) | (refine zdb ?_; refine zdg ?_)
      exact done_retCX rfl rfl ((ga, gb), ca, cb) rfl rfl (mt (mt mh)) rfl rfl rfl ⟨⟨hc1, by simp only [maxLen]; omega⟩, hcb⟩ (.cons_cons _ (.cons_cons _ (List.nil_sublist _)))
end
end Go.Ab
