/- Gaps, boxes and halves, the reference's; walked. No conditions. -/
import Derived.Test.YtcbobcpbfdehhaaZao
namespace Go.Ab
open Go.Proofs
variable {R : World → Prop} [RStab R]
class PtD (P : Program) (t : TypeId) : Prop where
  b3 : ∀ (w : World) (a b : Option Addr) (n c n' c' x y : Nat), (Instr.build t #[(0, .agg #[.slice a n c, .slice b n' c']), (1, .float .f32 x), (2, .float .f32 y)]).run P w = .ok (.agg #[.slice a n c, .slice b n' c', .float .f32 x, .float .f32 y]) w
instance ptDi : PtD Try.prog 75 := ⟨fun w a b n c n' c' x y => by kernel_rfl⟩
section
variable {P : Program} {S : World → Prop} {e : Env} {dst : Option Tmp} {ty : TypeId} {pos : String} {after : Array Edge} {guard : Option (Nat × Bool)} {t : TypeId}
theorem opj_buildD [hf : PtD P t] {X Y Z : Operand} {a b : Option Addr} {n c n' c' : Nat} {x y : FV} (hx : e.ev X = some (.agg [.raw (.slice a n c), .raw (.slice b n' c')])) (hy : e.ev Y = some (.f .f32 x)) (hz : e.ev Z = some (.f .f32 y)) :
    OpJ P S e ⟨dst, .build t #[(0, X), (1, Y), (2, Z)], ty, pos, after, guard⟩ (.agg [.raw (.slice a n c), .raw (.slice b n' c'), .f .f32 x, .f .f32 y]) :=
  opj_value fun ac w _ h => by
    obtain ⟨vs, h1, hr⟩ := (h X (by simp [Op.operands]) _ hx).inv_agg
    obtain ⟨u1, r1, rfl, hu1, hr⟩ := hr.inv_cons
    obtain ⟨u2, r2, rfl, hu2, hr⟩ := hr.inv_cons
    obtain rfl := hr.inv_nil
    obtain rfl := hu1.inv_raw
    obtain rfl := hu2.inv_raw
    have hy' := h Y (by simp [Op.operands]) _ hy
    have hz' := h Z (by simp [Op.operands]) _ hz
    obtain ⟨p, h2, e2, l2⟩ := hy'.inv_f
    obtain ⟨q, h3, e3, l3⟩ := hz'.inv_f
    refine ⟨.agg #[.slice a n c, .slice b n' c', .float .f32 p, .float .f32 q], w, ?_, Ext.refl _, .agg (vs := [_, _, _, _]) (.cons .raw (.cons .raw (.cons ?_ (.cons ?_ .nil))))⟩
    · simp only [execOp, List.map_toArray, List.map_cons, List.map_nil, h1, h2, h3, Sem.run_bind, hf.b3, Result.andThen_ok]
      rfl
    · rw [← h2]; exact hy'.any rfl
    · rw [← h3]; exact hz'.any rfl
end
/-- A part that came in by its place. -/
abbrev ptQ (w : World) (n : Nat) (P : Nat → CV) (lo hi : FV) : AV := AV.ptrQ w [slC w (tabC n P), AV.sl w 1 ((tab n oneF).map (AV.f .f32)), .f .f32 lo, .f .f32 hi]
section
variable {args : List AV} {A' : World → List AV} {w0 : World} {gs : List Nat} {H : List Ent}
theorem Takes.ptQ {R0 : World → Prop} {n g c a b ca cb : Nat} {T T' : TypeId} {P : Nat → CV} {lo hi : FV} (hm : (⟨g, T, [.raw (.slice (some ⟨a, 0, none⟩) n ca), .raw (.slice (some ⟨b, 0, none⟩) n cb), .f .f32 lo, .f .f32 hi], c⟩ : Ent) ∈ H) (ha : entC a n P ca ∈ H) (hb : entF b T' n oneF cb ∈ H) (h1 : n ≤ ca ∧ ca ≤ maxLen) (h2 : n ≤ cb ∧ cb ≤ maxLen) (h : Takes (StR R0 w0 gs H) args A') :
    Takes (StR R0 w0 gs H) (.raw (.pointer (some ⟨g, 0, none⟩)) :: args) (fun w => Go.Ab.ptQ w n P lo hi :: A' w) := fun w vs hS hr => by
  obtain ⟨v, r, rfl, hv, hrr⟩ := hr.inv_cons
  rw [hv.inv_raw]
  refine .cons (.q ⟨_, rfl, rfl, fun i x hx => ?_⟩) (h w r hS hrr)
  match i, hx with
  | 0, hx =>
    cases hx
    obtain ⟨u, hu, hev⟩ := (hS.own _ hm).2.cell (i := 0) rfl
    exact ⟨u, by simpa using hu, fun w' => .q (rd_ownC hS (hev w) ha (Nat.le_refl _) h1)⟩
  | 1, hx =>
    cases hx
    obtain ⟨u, hu, hev⟩ := (hS.own _ hm).2.cell (i := 1) rfl
    exact ⟨u, by simpa using hu, fun w' => .q (rd_own hS (hev w) hb (Nat.le_refl _) h2)⟩
  | 2, hx =>
    cases hx
    obtain ⟨u, hu, hev⟩ := (hS.own _ hm).2.cell (i := 2) rfl
    exact ⟨u, by simpa using hu, hev⟩
  | 3, hx =>
    cases hx
    obtain ⟨u, hu, hev⟩ := (hS.own _ hm).2.cell (i := 3) rfl
    exact ⟨u, by simpa using hu, hev⟩
theorem Takes.crvQp {R0 : World → Prop} {n : Nat} {P : Nat → CV} {xs : List AV} (h : Takes (StR R0 w0 [] H) args A') :
    Takes (StR R0 w0 [] H) (AV.ptrQ w0 (slC w0 (tabC n P) :: AV.sl w0 1 ((tab n oneF).map (AV.f .f32)) :: xs) :: args) (fun w => crvQ w n P oneF :: A' w) := fun w vs hS hr => by
  obtain ⟨v, r, rfl, hv, hrr⟩ := hr.inv_cons
  obtain ⟨bb, hbb, hsp, hc⟩ := mono_ptrTo _ _ _ _ hS.ext0 hv.inv_q
  refine .cons (.q ⟨bb, hbb, hsp, fun i x hx => ?_⟩) (h w r hS hrr)
  match i, hx with
  | 0, hx =>
    cases hx
    obtain ⟨u, hu, hev⟩ := hc 0 _ rfl
    exact ⟨u, hu, fun w' => .q (hS.rd (hev w').inv_q)⟩
  | 1, hx =>
    cases hx
    obtain ⟨u, hu, hev⟩ := hc 1 _ rfl
    exact ⟨u, hu, fun w' => .q (hS.rd (hev w').inv_q)⟩
end
attribute [local irreducible] WS RS Done OpJ Then InBlock Round Ret Env.sub FnH
attribute [local irreducible] tab tabC
theorem l03Gap_fn (x y : FV) : Fn Try.prog 66 (fun _ => [.f .f32 x, .f .f32 y]) (.f .f32 (match cmpB .lss (fcmp .f32 x y) with | true => fbin .sub .f32 y x | false => fbin .sub .f32 x y)) := by
  refine fn_intro Try.func66 rfl Try.ntmps66 (fun _ => Nat.le_of_ble_eq_true rfl) fun w0 => ?_
  repeat first | refine zaa rfl (zay rfl) ?_ | refine zaa rfl (zaz rfl) ?_ | (refine zac ?_; refine zaa rfl (zbd rfl rfl rfl) ?_) | refine zah ?_ | (refine zcr ?_; refine zcs ?_) | (refine zdb ?_; first | refine zdc ?_ | refine zdd ?_)
  cases cmpB .lss (fcmp .f32 x y)
  all_goals
    repeat first | refine zaa rfl (zay rfl) ?_ | refine zaa rfl (zaz rfl) ?_ | (refine zac ?_; refine zaa rfl (zba rfl rfl rfl) ?_) | refine zah ?_ | (refine zcr ?_; first | refine zcs ?_ | refine zct ?_) | (refine zdb ?_; first | refine zdc ?_ | refine zdd ?_ | refine zdf ?_ | refine zdg ?_ | refine zdi rfl ?_ | refine zdj rfl ?_)
    exact done_ret1 rfl () rfl trivial (List.nil_sublist _)
set_option maxHeartbeats 4000000 in
theorem l03Box_fn {n : Nat} {P : Nat → CV} (hn : 1 ≤ n ∧ n ≤ 1000) : Fn Try.prog 65 (fun w => [slC w (tabC n P)]) (.tup [.c .f32 (loF (cx1 P) n) (loF (cx2 P) n), .c .f32 (hiF (cx1 P) n) (hiF (cx2 P) n)]) := by
  refine fn_intro Try.func65 rfl Try.ntmps65 (fun _ => Nat.le_of_ble_eq_true rfl) fun w0 => ?_
  repeat first | refine zaa rfl (zay rfl) ?_ | refine zaa rfl (zaz rfl) ?_ | (refine zad ?_; first | refine zaa rfl (opj_lenC rfl) ?_ | refine zaa rfl (zbp rfl) ?_ | refine zaa rfl (zbq rfl) ?_) | (refine zae ?_; refine zaa rfl (zbu rfl rfl) ?_) | (refine zaf ?_; refine zaa rfl (opj_indexC rfl rfl (by omega) (by omega)) ?_) | refine zah ?_ | (refine zcr ?_; refine zcs ?_) | (refine zdb ?_; first | refine zdc ?_ | refine zdd ?_ | refine zde ?_)
  refine ws_loop (ι := Nat) (fun k => [(4, .f .f32 (loF (cx1 P) k)), (5, .f .f32 (hiF (cx1 P) k)), (6, .f .f32 (loF (cx2 P) k)), (7, .f .f32 (hiF (cx2 P) k)), (0, slC w0 (tabC n P)), (22, .raw (.int .i64 n)), (23, .raw (.int .i64 (k : Nat)))])
    (fun _ => St w0 [] []) (fun k => k ≤ n) (fun k => n - k) 0 (Nat.zero_le _) ?_ (fun _ h => h) (fun k hk => ?_)
  · (repeat (first | exact Env.sub_nil _ | refine Env.sub_cons rfl ?_))
  repeat first | (refine zac ?_; refine zaa rfl (zbe rfl rfl) ?_) | refine zah ?_ | (refine zcr ?_; refine zcs ?_) | (refine zdb ?_; first | refine zdc ?_ | refine zdd ?_)
  refine ws_cond rfl (fun hd => ?_) (fun hd => ?_)
  case' refine_2 =>
    have hkn : k = n := by have := of_decide_eq_false hd; omega
    subst hkn
    repeat first | refine zaa rfl (zay rfl) ?_ | refine zaa rfl (zaz rfl) ?_ | (refine zad ?_; refine zaa rfl (zbr rfl rfl) ?_) | refine zah ?_ | (refine zcr ?_; first | refine zcs ?_ | refine zcu ?_ | refine zcx ?_ | refine zda ?_) | (refine zdb ?_; first | refine zdc ?_ | refine zdd ?_ | refine zdg ?_ | refine zdh ?_)
    exact done_ret2 rfl () rfl rfl rfl trivial (List.nil_sublist _)
  have hlt : (k : Int) < n := of_decide_eq_true hd
  clear hd
  have e1 : loF (cx1 P) (k + 1) = (match cmpB .lss (fcmp .f32 (cx1 P k) (loF (cx1 P) k)) with | true => cx1 P k | false => loF (cx1 P) k) := rfl
  have e2 : loF (cx2 P) (k + 1) = (match cmpB .lss (fcmp .f32 (cx2 P k) (loF (cx2 P) k)) with | true => cx2 P k | false => loF (cx2 P) k) := rfl
  have e3 : hiF (cx1 P) (k + 1) = (match cmpB .gtr (fcmp .f32 (cx1 P k) (hiF (cx1 P) k)) with | true => cx1 P k | false => hiF (cx1 P) k) := rfl
  have e4 : hiF (cx2 P) (k + 1) = (match cmpB .gtr (fcmp .f32 (cx2 P k) (hiF (cx2 P) k)) with | true => cx2 P k | false => hiF (cx2 P) k) := rfl
  repeat first | refine zaa rfl (zay rfl) ?_ | refine zaa rfl (zaz rfl) ?_ | (refine zac ?_; refine zaa rfl (zbd rfl rfl rfl) ?_) | (refine zad ?_; first | refine zaa rfl (zbp rfl) ?_ | refine zaa rfl (zbq rfl) ?_) | (refine zae ?_; refine zaa rfl (zbu rfl rfl) ?_) | (refine zaf ?_; refine zaa rfl (opj_indexC rfl rfl (by omega) (by omega)) ?_) | refine zah ?_ | (refine zcr ?_; refine zcs ?_) | (refine zdb ?_; first | refine zdc ?_ | refine zdd ?_ | refine zde ?_ | refine zdf ?_)
  refine ws_cond rfl (fun h1 => ?_) (fun h1 => ?_)
  all_goals
    have h1' : cmpB .lss (fcmp .f32 (cx1 P k) (loF (cx1 P) k)) = _ := h1
    rw [h1'] at e1
    dsimp only at e1
    repeat first | refine zaa rfl (zay rfl) ?_ | refine zaa rfl (zaz rfl) ?_ | (refine zac ?_; refine zaa rfl (zbd rfl rfl rfl) ?_) | refine zah ?_ | (refine zcr ?_; refine zcs ?_) | (refine zdb ?_; first | refine zdc ?_ | refine zdd ?_ | refine zdf ?_)
    refine ws_cond rfl (fun h3 => ?_) (fun h3 => ?_)
    all_goals
      have h3' : cmpB .gtr (fcmp .f32 (cx1 P k) (hiF (cx1 P) k)) = _ := h3
      rw [h3'] at e3
      dsimp only at e3
      repeat first | refine zaa rfl (zay rfl) ?_ | refine zaa rfl (zaz rfl) ?_ | (refine zac ?_; refine zaa rfl (zbd rfl rfl rfl) ?_) | refine zah ?_ | (refine zcr ?_; refine zcs ?_) | (refine zdb ?_; first | refine zdc ?_ | refine zdd ?_ | refine zdf ?_)
      refine ws_cond rfl (fun h2 => ?_) (fun h2 => ?_)
      all_goals
        have h2' : cmpB .lss (fcmp .f32 (cx2 P k) (loF (cx2 P) k)) = _ := h2
        rw [h2'] at e2
        dsimp only at e2
        repeat first | refine zaa rfl (zay rfl) ?_ | refine zaa rfl (zaz rfl) ?_ | (refine zac ?_; refine zaa rfl (zbd rfl rfl rfl) ?_) | refine zah ?_ | (refine zcr ?_; refine zcs ?_) | (refine zdb ?_; first | refine zdc ?_ | refine zdd ?_ | refine zdf ?_)
        refine ws_cond rfl (fun h4 => ?_) (fun h4 => ?_)
        all_goals
          have h4' : cmpB .gtr (fcmp .f32 (cx2 P k) (hiF (cx2 P) k)) = _ := h4
          rw [h4'] at e4
          dsimp only at e4
          repeat first | refine zaa rfl (zay rfl) ?_ | refine zaa rfl (zaz rfl) ?_ | (refine zac ?_; refine zaa rfl (zbb rfl rfl (by omega)) ?_) | refine zah ?_ | (refine zcr ?_; first | refine zcs ?_ | refine zcv ?_) | (refine zdb ?_; first | refine zdd ?_ | refine zdf ?_)
          refine done_round (k + 1) (by omega) (by omega) ?_ (fun _ h => h)
          rw [e1, e2, e3, e4, show ((k + 1 : Nat) : Int) = (k : Int) + 1 by omega]
          (repeat (first | exact Env.sub_nil _ | refine Env.sub_cons rfl ?_))
set_option maxHeartbeats 4000000 in
theorem l03Halves_fn {n : Nat} {P : Nat → CV} {lo hi : FV} (hn : 2 ≤ n ∧ n ≤ 8) (hL : (tabC n (leftP P)).all finC = true) (hR : (tabC n (rightP n P)).all finC = true) :
    FnH (X := Ct) Try.prog 67 (fun w => [ptQ w n P lo hi]) []
      (fun y => .tup [ptOc y.a y.b n y.ca y.cb lo (fbin .mul .f32 (fv .f32 1056964608) (fbin .add .f32 lo hi)), ptOc y.a2 y.b2 n y.ca2 y.cb2 (fbin .mul .f32 (fv .f32 1056964608) (fbin .add .f32 lo hi)) hi, .raw (.bool true)]) (fun y => [entF y.b2 31 n oneF y.cb2, entC y.a2 n (rightP n P) y.ca2, entC y.a n (leftP P) y.ca, entF y.b 31 n oneF y.cb]) (fun y => ((n ≤ y.ca ∧ y.ca ≤ maxLen) ∧ n ≤ y.cb ∧ y.cb ≤ maxLen) ∧ (n ≤ y.ca2 ∧ y.ca2 ≤ maxLen) ∧ n ≤ y.cb2 ∧ y.cb2 ≤ maxLen) := by
  have hC := l02Cut_fn (n := n) (P := P) hn
  have hV1 : Fn Try.prog 21 (fun w => [crvP w n (leftP P) oneF]) (.raw (.bool true)) := l02Is_yes hn hL (wts_one n).above
  have hV2 : Fn Try.prog 21 (fun w => [crvP w n (rightP n P) oneF]) (.raw (.bool true)) := l02Is_yes hn hR (wts_one n).above
  obtain ⟨mi, hmi⟩ : ∃ mi, mi = fbin .mul .f32 (fv .f32 1056964608) (fbin .add .f32 lo hi) := ⟨_, rfl⟩
  rw [← hmi]
  refine fn_intro Try.func67 rfl Try.ntmps67 (fun _ => Nat.le_of_ble_eq_true rfl) fun w0 => ?_
  repeat first | refine zaa rfl (zay rfl) ?_ | refine zaa rfl (zaz rfl) ?_ | refine zah ?_ | (refine zcr ?_; refine zcs ?_) | (refine zdb ?_; first | refine zdc ?_ | refine zdd ?_) | (refine zal rfl rfl ?_; intro g) | refine zaa rfl (opj_nilZ rfl) ?_ | refine zaa rfl (opj_fieldZ rfl) ?_
  refine rs_callM3 hC rfl rfl (Takes.crvQp (Takes.same Takes.nil)) rfl ?_
  rintro ⟨k, a, b, ca, cb, a2, b2, ca2, cb2, ra, rb, rca, rcb⟩ ⟨⟨h1, h2⟩, h3, h4⟩
  dsimp only at h1 h2 h3 h4 ⊢
  repeat first | refine zaa rfl (zay rfl) ?_ | refine zaa rfl (zbz rfl rfl) ?_ | refine zah ?_ | (refine zcr ?_; refine zcs ?_) | (refine zdb ?_; refine zdc ?_) | (refine zal rfl rfl ?_; intro g) | (refine zag ?_; first | refine zan 0 rfl rfl rfl rfl rfl rfl rfl rfl rfl ?_ | refine zan 1 rfl rfl rfl rfl rfl rfl rfl rfl rfl ?_)
  rename_i g2 g3 g5
  obtain ⟨g6, hg6⟩ : ∃ x, x = g := ⟨g, rfl⟩
  subst hg6
  refine ws_draw (n := 11) mixed (by decide +kernel) ?_
  repeat first | refine zap rfl (zay rfl) ?_ | refine zap rfl (zaz rfl) ?_ | (refine zar ?_; refine zap rfl (zba rfl rfl rfl) ?_) | refine zav ?_ | refine zap rfl (opj_nilZ rfl) ?_ | refine zap rfl (opj_fieldZ rfl) ?_ | refine zap rfl (opj_loadZ rfl rfl rfl) ?_
  rw [← hmi]
  repeat first | refine zah ?_ | (refine zcr ?_; refine zcs ?_) | (refine zdb ?_; refine zdc ?_)
  refine WS.weak (e' := [(0, ptQ w0 n P lo hi), (2, .raw (.pointer (some ⟨g2, 0, none⟩))), (3, .raw (.pointer (some ⟨g3, 0, none⟩))), (5, .raw (.pointer (some ⟨g5, 0, none⟩))), (6, .raw (.pointer (some ⟨g6, 0, none⟩))), (7, .f .f32 mi)]) ?_ (by (repeat (first | exact Env.sub_nil _ | refine Env.sub_cons rfl ?_))) (fun w h => h)
  refine ws_drawP (ix := [0, 1, 2, 3, 4, 5, 6, 7, 8, 9, 10, 11, 12, 13, 14, 15, 16, 17]) (W := St w0 [] [⟨g5, 27, [.raw (.slice (some ⟨a, 0, none⟩) n ca), .raw (.slice (some ⟨b, 0, none⟩) n cb)], 2⟩, ⟨g6, 27, [.raw (.slice (some ⟨a2, 0, none⟩) n ca2), .raw (.slice (some ⟨b2, 0, none⟩) n cb2)], 2⟩, entF b2 31 n oneF cb2, entC a2 n (rightP n P) ca2, entC a n (leftP P) ca, entF b 31 n oneF cb]) mixed (by decide +kernel) (fun _ h => h.sel [1, 0, 2, 3, 4, 5] (by decide) rfl) ?_
  repeat first | refine zaw rfl rfl ?_ | refine zap rfl (zay rfl) ?_ | (refine zat ?_; refine zap rfl (zcg rfl rfl (by (repeat (first | exact mh | refine mt ?_)); done) rfl rfl) ?_) | refine zap rfl (zca rfl rfl) ?_ | refine zav ?_ | refine zap rfl (opj_nilZ rfl) ?_ | refine zap rfl (opj_fieldZ rfl) ?_ | refine zap rfl (opj_loadZ rfl rfl rfl) ?_ | refine zap rfl (opj_buildD rfl rfl rfl) ?_ | refine zap rfl (zci rfl rfl hV1 (Takes.crvPOc mh (mt (mt (mt (mt (mh))))) (mt (mt (mt (mt (mt (mh)))))) h1 h2 Takes.nil)) ?_ | refine zap rfl (zci rfl rfl hV2 (Takes.crvPOc (mt (mh)) (mt (mt (mt (mh)))) (mt (mt (mh))) h3 h4 Takes.nil)) ?_
  refine ⟨rfl, ?_⟩
  refine gp_name fun o ho Q' hQ => ?_
  have q18 := op_at (i := 18) ho rfl
  have q19 := op_at (i := 19) ho rfl
  have q20 := op_at (i := 20) ho rfl
  refine gp_step [18] (by rw [ho]; decide +kernel) fun x hx => ?_
  obtain rfl : x = 18 := by simpa using hx
  refine sp_eff q18 (by rw [ho]; decide +kernel) (effj_storeAX 7 rfl rfl rfl rfl rfl rfl rfl rfl rfl) (cont_go (fun _ h => h.sel [1, 0, 2, 3, 4, 5] (by decide) rfl) ?_)
  refine gp_step [19] (by rw [ho]; decide +kernel) fun x hx => ?_
  obtain rfl : x = 19 := by simpa using hx
  refine sp_eff q19 (by rw [ho]; decide +kernel) (effj_storeAX 6 rfl rfl rfl rfl rfl rfl rfl rfl rfl) (cont_go (fun _ h => h.sel [1, 0, 2, 3, 4, 5] (by decide) rfl) ?_)
  refine gp_step [20] (by rw [ho]; decide +kernel) fun x hx => ?_
  obtain rfl : x = 20 := by simpa using hx
  refine sp_op q20 (by rw [ho]; decide +kernel) rfl (zaz rfl) rfl (cont_set (by rw [ho]; decide +kernel) rfl ?_)
  refine gp_end (by rw [ho]; decide +kernel) ?_
  rw [hQ]
  clear hQ ho
  repeat first | (refine zcr ?_; refine zcs ?_) | (refine zdb ?_; refine zdg ?_)
  exact done_retXXT rfl rfl (⟨k, a, b, ca, cb, a2, b2, ca2, cb2, ra, rb, rca, rcb⟩ : Ct) rfl rfl rfl (mt (mt (mt (mt (mt (mt (mt (mh)))))))) (mt (mt (mt (mt (mt (mt (mh))))))) rfl rfl rfl rfl rfl ⟨⟨h1, h2⟩, h3, h4⟩ (.cons _ (.cons _ (.cons_cons _ (.cons_cons _ (.cons_cons _ (.cons_cons _ (List.nil_sublist _)))))))
end Go.Ab
