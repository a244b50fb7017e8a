/- The reference's search for a line's meets; walked by induction. No conditions. -/
import Derived.Test.YtcbobcpbfdehhaaZal
namespace Go.Ab
open Go.Proofs
variable {R : World → Prop} [RStab R]
section
variable {P : Program} {S : World → Prop} {e : Env} {dst : Option Tmp} {ty : TypeId} {pos : String} {after : Array Edge} {guard : Option (Nat × Bool)}
theorem opj_nilRaw {X : Operand} {b : Addr} (hx : e.ev X = some (.raw (.pointer (some b)))) : OpJ P S e ⟨dst, .nilCheck X, ty, pos, after, guard⟩ (.raw (.pointer (some b))) :=
  opj_value fun a w _ h => by
    have h1 := (h X (by simp [Op.operands]) _ hx).inv_raw
    exact ⟨_, w, by simp [execOp, h1], Ext.refl _, .raw⟩
end
theorem tm_far {i l : Nat} (hi : i < 2 ^ 8) (hl : l < 2 ^ 8) : cmpB .leq (fcmp .f32 (fbin .sub .f32 (tmM 8 i) (tmM 8 l)) (fbin .mul .f32 (fv .f32 1073741824) nearL)) = decide (i ≤ l + 2) := by
  rw [vl_leq (tm_sub (j := 8) (by decide) hi hl) near2_vl]
  refine decide_eq_decide.2 ?_
  have e1 : (((i : Int) - (l : Int) : Int) : Rat) = (i : Rat) - (l : Rat) := by rw [Rat.intCast_sub]; rfl
  have e2 : ((2 ^ 8 : Nat) : Rat) = 256 := rfl
  have e3 : ((2 : Nat) : Rat) = 2 := rfl
  rw [e1, e2, e3]
  constructor
  · intro h
    have h2 : (i : Rat) ≤ (l : Rat) + 2 := by grind
    have : ((i : Nat) : Rat) ≤ ((l + 2 : Nat) : Rat) := by rw [Rat.natCast_add]; exact h2
    exact Rat.natCast_le_natCast.1 this
  · intro h
    have := Rat.natCast_le_natCast.2 h
    rw [Rat.natCast_add] at this
    have h2 : (i : Rat) ≤ (l : Rat) + 2 := this
    grind
/-- What the reference's search promises of a part. -/
def LsC (n : Nat) (d av : CV) (r : Nat) : Prop :=
  ∀ (i : Nat) (P : Nat → CV) (L : List Nat) (g0 a b ca cb g c : Nat), i < 2 ^ (8 - r) → B1 n P → LinP (fun _ => True) (i * 2 ^ r) L → (n ≤ ca ∧ ca ≤ maxLen) ∧ (n ≤ cb ∧ cb ≤ maxLen) → L.length ≤ c ∧ c ≤ maxLen →
    FnH (X := Lk) Try.prog 24 (fun _ => [.raw (.pointer (some ⟨g0, 0, none⟩)), cA av, cA d, .f .f32 (tmF (8 - r) i), .f .f32 (tmF (8 - r) ((i : Int) + 1)), .f .f32 nearL, .raw (.slice (some ⟨g, 0, none⟩) L.length c)])
      [⟨g0, 27, [.raw (.slice (some ⟨a, 0, none⟩) n ca), .raw (.slice (some ⟨b, 0, none⟩) n cb)], 2⟩, entC a n P ca, entF b 31 n oneF cb, entF g 31 L.length (lstF L) c] (fun y => .tup [slOr y.ok y.g y.L.length y.c, .raw (.bool y.ok)])
      (fun y => [⟨g0, 27, [.raw (.slice (some ⟨a, 0, none⟩) n ca), .raw (.slice (some ⟨b, 0, none⟩) n cb)], 2⟩, entC a n P ca, entF b 31 n oneF cb, entF y.g 31 y.L.length (lstF y.L) y.c])
      (fun y => (y.L.length ≤ y.c ∧ y.c ≤ maxLen) ∧ match lineR n d av r i P L with
        | some L' => y.ok = true ∧ y.L = L'
        | none => y.ok = false)
attribute [local irreducible] WS RS Done OpJ Then InBlock Round Ret Env.sub FnH
attribute [local irreducible] tab tabC
theorem l03Cross_fn (p q : CV) : Fn Try.prog 53 (fun _ => [cA p, cA q]) (.f .f32 (crossM p q)) := by
  refine fn_intro Try.func53 rfl Try.ntmps53 (fun _ => Nat.le_of_ble_eq_true rfl) fun w0 => ?_
  unfold cA
  repeat first | refine zaa rfl (zay rfl) ?_ | refine zaa rfl (zaz rfl) ?_ | (refine zac ?_; refine zaa rfl (zba rfl rfl rfl) ?_) | (refine zad ?_; first | refine zaa rfl (zbp rfl) ?_ | refine zaa rfl (zbq rfl) ?_) | refine zah ?_ | (refine zcr ?_; refine zcs ?_) | (refine zdb ?_; first | refine zdc ?_ | refine zdd ?_ | refine zdg ?_)
  exact done_ret1 rfl () rfl trivial (List.nil_sublist _)
theorem l03Ends_yes {x : FV} (h1 : finB x = true) (h2 : cmpB .geq (fcmp .f32 x (fv .f32 981467136)) = true) : Fn Try.prog 23 (fun _ => [.f .f32 x]) (.raw (.bool true)) := by
  have hF := l01Finite_fn x
  rw [h1] at hF
  refine fn_intro Try.func23 rfl Try.ntmps23 (fun _ => Nat.le_of_ble_eq_true rfl) fun w0 => ?_
  repeat first | refine zai rfl rfl ?_ | refine zaa rfl (zay rfl) ?_ | refine zaa rfl (zaz rfl) ?_ | (refine zac ?_; refine zaa rfl (zbd rfl rfl rfl) ?_) | (refine zad ?_; (refine zaa rfl (zci rfl rfl (hF) ?_) ?_; (focus ((repeat (first | exact Takes.nil | refine Takes.sl ?_ | refine Takes.lit ?_ | refine Takes.fa ?_ | refine Takes.fc ?_ | refine Takes.net ?_ | (refine Takes.ownE ?_ ?_ ?_ ?_ ?_; (focus (exact ⟨_, _, (by (repeat (first | exact mh | refine mt ?_)); done)⟩)); (focus (simp; done)); (focus omega); (focus (simp only [maxLen]; omega))) | refine Takes.same ?_)); done)))) | refine zaa rfl (zca rfl rfl) ?_ | refine zah ?_ | (refine zcr ?_; refine zcs ?_) | (refine zdb ?_; first | refine zdc ?_ | refine zdd ?_ | refine zdg ?_)
  rw [h2]
  skip
  exact done_ret1 rfl () rfl trivial (List.nil_sublist _)
set_option maxRecDepth 100000 in
set_option maxHeartbeats 40000000 in
theorem line_step {n : Nat} {d av : CV} (hn : 2 ≤ n ∧ n ≤ 5) (hl : LnV d av) (r : Nat) (hr : r ≤ 8) (ih : ∀ r', r = r' + 1 → LsC n d av r') : LsC n d av r := by
  intro i P L g0 a b ca cb gL c hi hB hLP ⟨hca, hcb⟩ hc
  have hT := tmP (j := 8 - r) (i := i) (by omega) hi
  have hS := hl.fin hB
  obtain ⟨lo, hlo⟩ : ∃ lo, lo = tmF (8 - r) i := ⟨_, rfl⟩
  obtain ⟨hh, hhh⟩ : ∃ hh, hh = tmF (8 - r) ((i : Int) + 1) := ⟨_, rfl⟩
  have hM := hT.mid'
  have hLo := hT.long
  have hcr : ∀ k, Fn Try.prog 53 (fun _ => [cA d, cA (subC2 (P k) av)]) (.f .f32 (sideC d av (P k))) := fun k => l03Cross_fn _ _
  rw [← hlo, ← hhh] at hM hLo ⊢
  refine fn_intro Try.func24 rfl Try.ntmps24 (fun _ => Nat.le_of_ble_eq_true rfl) fun w0 => ?_
  repeat first | refine zaa rfl (zay rfl) ?_ | refine zaa rfl (zaz rfl) ?_ | (refine zad ?_; refine zaa rfl (zbn rfl) ?_) | (refine zae ?_; refine zaa rfl (zcf rfl rfl (by (repeat (first | exact mh | refine mt ?_)); done) rfl) ?_) | refine zaa rfl (zcd rfl) ?_ | refine zah ?_ | (refine zcr ?_; refine zcs ?_) | (refine zdb ?_; first | refine zdc ?_ | refine zdd ?_ | refine zde ?_) | refine zaa rfl (opj_nilRaw rfl) ?_
  generalize List.map (fun x : Ent => x.g) [⟨g0, 27, [.raw (.slice (some ⟨a, 0, none⟩) n ca), .raw (.slice (some ⟨b, 0, none⟩) n cb)], 2⟩, entC a n P ca, entF b 31 n oneF cb, entF gL 31 L.length (lstF L) c] = gs
  refine ws_loop (ι := Nat) (fun k => [(16, .raw (.bool (allLt (fun k => pos0 (sideC d av (P k))) k))), (17, .raw (.bool (allLt (fun k => neg0 (sideC d av (P k))) k))), (30, .raw (.int .i64 (n : Nat))), (31, .raw (.int .i64 (k : Nat))), (0, .raw (.pointer (some ⟨g0, 0, none⟩))), (1, cA av), (2, cA d), (3, .f .f32 lo), (4, .f .f32 hh), (5, .f .f32 nearL), (6, .raw (.slice (some ⟨gL, 0, none⟩) L.length c))])
    (fun _ => St w0 gs [⟨g0, 27, [.raw (.slice (some ⟨a, 0, none⟩) n ca), .raw (.slice (some ⟨b, 0, none⟩) n cb)], 2⟩, entC a n P ca, entF b 31 n oneF cb, entF gL 31 L.length (lstF L) c]) (fun k => k ≤ n) (fun k => n - k) 0 (Nat.zero_le _) ?_ (fun _ h => h) (fun k hk => ?_)
  · (repeat (first | exact Env.sub_nil _ | refine Env.sub_cons rfl ?_))
  repeat first | (refine zac ?_; refine zaa rfl (zbe rfl rfl) ?_) | refine zah ?_ | (refine zcr ?_; refine zcs ?_) | (refine zdb ?_; first | refine zdc ?_ | refine zdd ?_)
  refine ws_cond rfl (fun hd => ?_) (fun hd => ?_)
  case' refine_1 =>
    have hlt : (k : Int) < n := of_decide_eq_true hd
    clear hd
    have e1 : allLt (fun k => pos0 (sideC d av (P k))) (k + 1) = (pos0 (sideC d av (P k)) && allLt (fun k => pos0 (sideC d av (P k))) k) := rfl
    have e2 : allLt (fun k => neg0 (sideC d av (P k))) (k + 1) = (neg0 (sideC d av (P k)) && allLt (fun k => neg0 (sideC d av (P k))) k) := rfl
    have hfin := l01Finite_fn (sideC d av (P k))
    rw [hS k (by omega)] at hfin
    have hck : Fn Try.prog 53 (fun _ => [cA d, cA (subC2 (P (k : Int).toNat) av)]) (.f .f32 (sideC d av (P k))) := hcr k
    generalize hA : allLt (fun k => pos0 (sideC d av (P k))) k = A at e1 ⊢
    generalize hBB : allLt (fun k => neg0 (sideC d av (P k))) k = BB at e2 ⊢
    repeat first | refine zaa rfl (zay rfl) ?_ | refine zaa rfl (zaz rfl) ?_ | (refine zad ?_; first | (refine zaa rfl (zci rfl rfl (hck) ?_) ?_; (focus ((repeat (first | exact Takes.nil | refine Takes.sl ?_ | refine Takes.lit ?_ | refine Takes.fa ?_ | refine Takes.fc ?_ | refine Takes.net ?_ | (refine Takes.ownE ?_ ?_ ?_ ?_ ?_; (focus (exact ⟨_, _, (by (repeat (first | exact mh | refine mt ?_)); done)⟩)); (focus (simp; done)); (focus omega); (focus (simp only [maxLen]; omega))) | refine Takes.same ?_)); done))) | (refine zaa rfl (zci rfl rfl (hfin) ?_) ?_; (focus ((repeat (first | exact Takes.nil | refine Takes.sl ?_ | refine Takes.lit ?_ | refine Takes.fa ?_ | refine Takes.fc ?_ | refine Takes.net ?_ | (refine Takes.ownE ?_ ?_ ?_ ?_ ?_; (focus (exact ⟨_, _, (by (repeat (first | exact mh | refine mt ?_)); done)⟩)); (focus (simp; done)); (focus omega); (focus (simp only [maxLen]; omega))) | refine Takes.same ?_)); done)))) | (refine zae ?_; first | refine zaa rfl (opj_loadC rfl rfl (by (repeat (first | exact mh | refine mt ?_)); done) (by omega)) ?_ | refine zaa rfl (zcf rfl rfl (by (repeat (first | exact mh | refine mt ?_)); done) rfl) ?_) | (refine zaf ?_; refine zaa rfl (zbw rfl rfl (by omega) (by omega)) ?_) | refine zaa rfl (zcd rfl) ?_ | refine zaa rfl (zcc rfl) ?_ | refine zah ?_ | (refine zcr ?_; refine zcs ?_) | (refine zdb ?_; first | refine zdc ?_ | refine zdd ?_ | refine zde ?_ | refine zdf ?_ | refine zdj rfl ?_) | refine zaa rfl (opj_nilRaw rfl) ?_ | refine zaa rfl (opj_csub rfl rfl) ?_
    cases A <;> cases BB
    all_goals
      repeat first | refine zai rfl rfl ?_ | refine zaj rfl rfl rfl rfl ?_ | refine zaa rfl (zay rfl) ?_ | refine zaa rfl (zaz rfl) ?_ | (refine zac ?_; first | refine zaa rfl (zbb rfl rfl (by omega)) ?_ | refine zaa rfl (zbd rfl rfl rfl) ?_) | refine zaa rfl (zca rfl rfl) ?_ | refine zaa rfl (zcb rfl rfl) ?_ | refine zah ?_ | (refine zcr ?_; first | refine zcs ?_ | refine zcv ?_) | (refine zdb ?_; refine zdd ?_)
      refine done_round (k + 1) (by omega) (by omega) ?_ (fun _ h => h)
      rw [e1, e2, show ((k + 1 : Nat) : Int) = (k : Int) + 1 by omega]
      simp only [Bool.and_true, Bool.and_false]
      (repeat (first | exact Env.sub_nil _ | refine Env.sub_cons rfl ?_))
  have hkn : n = k := by have := of_decide_eq_false hd; omega
  subst hkn
  clear hd hk hcr hS
  repeat first | refine zaa rfl (zay rfl) ?_ | (refine zcr ?_; first | refine zcs ?_ | refine zcu ?_ | refine zcx ?_ | refine zda ?_) | (refine zdb ?_; first | refine zdc ?_ | refine zdd ?_ | refine zdh ?_)
  cases p1 : allLt (fun k => pos0 (sideC d av (P k))) n
  case' true =>
    repeat first | refine zaj rfl rfl rfl rfl ?_ | refine zaa rfl (zay rfl) ?_ | refine zaa rfl (zaz rfl) ?_ | refine zaa rfl (zca rfl rfl) ?_ | refine zah ?_ | (refine zcr ?_; first | refine zcs ?_ | refine zct ?_) | (refine zdb ?_; first | refine zdc ?_ | refine zdd ?_ | refine zdg ?_ | refine zdi rfl ?_)
    exact done_ret2 rfl (⟨L, gL, c, true⟩ : Lk) rfl rfl rfl ⟨hc, by rw [lineR_side (by unfold sideB; rw [p1]; rfl)]; exact ⟨rfl, rfl⟩⟩ (List.Sublist.refl _)
  repeat first | refine zai rfl rfl ?_ | refine zaa rfl (zay rfl) ?_ | refine zaa rfl (zcb rfl rfl) ?_ | refine zah ?_ | (refine zcr ?_; refine zcs ?_)
  cases p2 : allLt (fun k => neg0 (sideC d av (P k))) n
  case' true =>
    repeat first | refine zaa rfl (zay rfl) ?_ | refine zaa rfl (zaz rfl) ?_ | refine zah ?_ | (refine zcr ?_; first | refine zcs ?_ | refine zct ?_) | (refine zdb ?_; first | refine zdc ?_ | refine zdd ?_ | refine zdg ?_ | refine zdi rfl ?_)
    exact done_ret2 rfl (⟨L, gL, c, true⟩ : Lk) rfl rfl rfl ⟨hc, by rw [lineR_side (by unfold sideB; rw [p1, p2]; rfl)]; exact ⟨rfl, rfl⟩⟩ (List.Sublist.refl _)
  have hsb : sideB n d av P = false := by unfold sideB; rw [p1, p2]; rfl
  clear p1 p2
  have hnr := line_near (j := 8 - r) (by omega)
  repeat first | refine zaa rfl (zay rfl) ?_ | refine zaa rfl (zaz rfl) ?_ | (refine zac ?_; first | refine zaa rfl (zba rfl rfl rfl) ?_ | refine zaa rfl (zbd rfl rfl rfl) ?_) | refine zah ?_ | (refine zcr ?_; refine zcs ?_) | (refine zdb ?_; first | refine zdc ?_ | refine zdd ?_ | refine zdf ?_ | refine zdj rfl ?_)
  rw [show fbin .mul .f32 (fv .f32 1056964608) (fbin .add .f32 lo hh) = tmF (8 - r + 1) (2 * (i : Int) + 1) from hM, hLo, hnr]
  cases r
  case' zero =>
    rw [show decide (8 ≤ 8 - 0) = true from rfl, show tmF (8 - 0 + 1) (2 * (i : Int) + 1) = tmM 8 i from rfl]
    rw [show i * 2 ^ 0 = i by omega] at hLP
    have hzero : lineR n d av 0 i P L = addL i L := by unfold lineR; rw [hsb]
    have hi8 : i < 2 ^ 8 := hi
    have hlen := hLP.len
    have hsn : (L ++ [i]).length = L.length + 1 := by simp
    repeat first | refine zaa rfl (zay rfl) ?_ | refine zaa rfl (zaz rfl) ?_ | (refine zac ?_; refine zaa rfl (zbg rfl rfl) ?_) | (refine zad ?_; refine zaa rfl (zbn rfl) ?_) | refine zah ?_ | (refine zcr ?_; refine zcs ?_) | (refine zdb ?_; first | refine zdc ?_ | refine zdd ?_ | refine zdi rfl ?_)
    rcases hq : L.getLast? with _ | l
    case' none =>
      have hnil : L = [] := by simpa using hq
      subst hnil
      rw [addL_nil] at hzero
      rw [show decide ((0 : Int) < ((([] : List Nat).length : Nat) : Int)) = false from rfl]
      repeat first | refine zaj rfl rfl rfl rfl ?_ | refine zaa rfl (zay rfl) ?_ | refine zaa rfl (zaz rfl) ?_ | (refine zac ?_; refine zaa rfl (zbi rfl rfl) ?_) | refine zaa rfl (zcb rfl rfl) ?_ | refine zah ?_ | (refine zcr ?_; first | refine zcs ?_ | refine zct ?_) | (refine zdb ?_; first | refine zdc ?_ | refine zdd ?_ | refine zdf ?_ | refine zdg ?_ | refine zdj rfl ?_) | refine zaa rfl (zco (t := 25) rfl rfl rfl rfl rfl rfl) ?_ | (refine rs_appendT 3 (lstF [i]) rfl rfl rfl rfl hc (by decide) rfl rfl (lstF_new [] i) (lstF_old [] i) ?_; intro g' c' h1 h2)
      exact done_ret2 rfl (⟨[i], g', c', true⟩ : Lk) rfl rfl rfl ⟨⟨h1, h2⟩, by rw [hzero]; exact ⟨rfl, rfl⟩⟩ (List.Sublist.refl _)
    case' some =>
      obtain ⟨hls, hlm, hl1⟩ := lstF_last hq
      have hll := hLP.lt l hlm
      have hTm := tm_far hi8 (show l < 2 ^ 8 by omega)
      rw [← hls] at hTm
      have hz0 : decide ((0 : Int) < (L.length : Int)) = true := decide_eq_true (by omega)
      rw [hz0]
      repeat first | refine zai rfl rfl ?_ | refine zaa rfl (zay rfl) ?_ | (refine zac ?_; first | refine zaa rfl (zba rfl rfl rfl) ?_ | refine zaa rfl (zbc rfl rfl (by omega)) ?_ | refine zaa rfl (zbd rfl rfl rfl) ?_) | (refine zae ?_; refine zaa rfl (zbt rfl rfl (by (repeat (first | exact mh | refine mt ?_)); done) (by omega)) ?_) | (refine zaf ?_; refine zaa rfl (zbw rfl rfl (by omega) (by omega)) ?_) | refine zaa rfl (zca rfl rfl) ?_ | refine zah ?_ | (refine zcr ?_; refine zcs ?_)
      rw [hTm]
      cases hd : decide (i ≤ l + 2)
      case' true =>
        rw [addL_near hq (of_decide_eq_true hd)] at hzero
        repeat first | refine zaa rfl (zay rfl) ?_ | refine zaa rfl (zaz rfl) ?_ | refine zah ?_ | (refine zcr ?_; first | refine zcs ?_ | refine zct ?_) | (refine zdb ?_; first | refine zdc ?_ | refine zdd ?_ | refine zdg ?_ | refine zdi rfl ?_)
        exact done_ret2 rfl (⟨L, gL, c, true⟩ : Lk) rfl rfl rfl ⟨hc, by rw [hzero]; exact ⟨rfl, rfl⟩⟩ (List.Sublist.refl _)
      case' false =>
        rw [addL_far hq (of_decide_eq_false hd)] at hzero
        repeat first | refine zaa rfl (zay rfl) ?_ | (refine zac ?_; refine zaa rfl (zbi rfl rfl) ?_) | refine zah ?_ | (refine zcr ?_; refine zcs ?_) | (refine zdb ?_; first | refine zdc ?_ | refine zdd ?_ | refine zdf ?_ | refine zdj rfl ?_)
        by_cases h24 : L.length < 24
        · rw [decide_eq_false (show ¬((L.length : Int) = 24) by omega)]
          rw [decide_eq_true h24] at hzero
          repeat first | refine zaa rfl (zay rfl) ?_ | refine zaa rfl (zaz rfl) ?_ | refine zah ?_ | (refine zcr ?_; first | refine zcs ?_ | refine zct ?_) | (refine zdb ?_; first | refine zdc ?_ | refine zdd ?_ | refine zdf ?_ | refine zdg ?_ | refine zdj rfl ?_) | refine zaa rfl (zco (t := 25) rfl rfl rfl rfl rfl rfl) ?_ | (refine rs_appendT 3 (lstF (L ++ [i])) rfl rfl rfl rfl hc (by omega) rfl rfl (lstF_new L i) (lstF_old L i) ?_; intro g' c' h1 h2)
          exact done_ret2 rfl (⟨L ++ [i], g', c', true⟩ : Lk) (by rw [slOr]; dsimp only; rw [hsn]; rfl) rfl rfl ⟨by dsimp only; rw [hsn]; exact ⟨h1, h2⟩, by rw [hzero]; exact ⟨rfl, rfl⟩⟩ (by dsimp only; rw [hsn]; exact List.Sublist.refl _)
        · rw [decide_eq_true (show (L.length : Int) = 24 by omega)]
          rw [decide_eq_false h24] at hzero
          repeat first | refine zaa rfl (zaz rfl) ?_ | refine zah ?_ | (refine zcr ?_; first | refine zcs ?_ | refine zct ?_) | (refine zdb ?_; first | refine zdc ?_ | refine zdd ?_ | refine zdg ?_ | refine zdi rfl ?_)
          exact done_ret2 rfl (⟨L, gL, c, false⟩ : Lk) rfl rfl rfl ⟨hc, by rw [hzero]⟩ (List.Sublist.refl _)
  rename_i r
  rw [decide_eq_false (show ¬8 ≤ 8 - (r + 1) by omega)]
  have hsucc : lineR n d av (r + 1) i P L = (match lineR n d av r (2 * i) (leftP P) L with | none => none | some L' => lineR n d av r (2 * i + 1) (rightP n P) L') := by
    conv => lhs; unfold lineR
    rw [hsb]
    rfl
  have hCt := l02Cut_fn (n := n) (P := P) ⟨hn.1, by omega⟩
  have hV1 : Fn Try.prog 21 (fun w => [crvP w n (leftP P) oneF]) (.raw (.bool true)) := l02Is_yes ⟨hn.1, by omega⟩ hB.left.fin (wts_one n).above
  have hV2 : Fn Try.prog 21 (fun w => [crvP w n (rightP n P) oneF]) (.raw (.bool true)) := l02Is_yes ⟨hn.1, by omega⟩ hB.right.fin (wts_one n).above
  have hjr : 8 - r = 8 - (r + 1) + 1 := by omega
  have t1 : tmF (8 - r) ((2 * i : Nat) : Int) = lo := by rw [hjr, hlo, ← hT.low, show ((2 * i : Nat) : Int) = 2 * (i : Int) by omega]
  have t2 : tmF (8 - r) ((2 * i : Nat) + 1 : Int) = tmF (8 - (r + 1) + 1) (2 * (i : Int) + 1) := by rw [hjr, show ((2 * i : Nat) : Int) = 2 * (i : Int) by omega]
  have t3 : tmF (8 - r) ((2 * i + 1 : Nat) : Int) = tmF (8 - (r + 1) + 1) (2 * (i : Int) + 1) := by rw [hjr, show ((2 * i + 1 : Nat) : Int) = 2 * (i : Int) + 1 by omega]
  have t4 : tmF (8 - r) (((2 * i + 1 : Nat) : Int) + 1) = hh := by rw [hjr, hhh, ← hT.high, show ((2 * i + 1 : Nat) : Int) + 1 = 2 * (i : Int) + 2 by omega]
  have hi1 : 2 * i + 1 < 2 ^ (8 - r) := by rw [hjr, Nat.pow_succ]; omega
  have hL1 : LinP (fun _ => True) (2 * i * 2 ^ r) L := by rw [show 2 * i * 2 ^ r = i * 2 ^ (r + 1) by rw [Nat.pow_succ, Nat.mul_comm (2 ^ r) 2, ← Nat.mul_assoc, Nat.mul_comm i 2]]; exact hLP
  obtain ⟨mi, hmi⟩ : ∃ mi, mi = tmF (8 - (r + 1) + 1) (2 * (i : Int) + 1) := ⟨_, rfl⟩
  rw [← hmi] at t2 t3 ⊢
  repeat first | refine zaa rfl (zay rfl) ?_ | (refine zcr ?_; refine zcs ?_) | (refine zdb ?_; first | refine zdc ?_ | refine zdd ?_ | refine zdf ?_ | refine zdj rfl ?_)
  refine rs_callM3 hCt rfl rfl (Takes.crvZo mh (mt mh) (mt (mt mh)) hca hcb (Takes.same Takes.nil)) rfl ?_
  rintro ⟨kk, a1, b1, ca1, cb1, a2, b2, ca2, cb2, ra, rb, rca, rcb⟩ ⟨⟨h1, h2⟩, h3, h4⟩
  dsimp only at h1 h2 h3 h4 ⊢
  repeat first | refine zai rfl rfl ?_ | refine zaa rfl (zay rfl) ?_ | refine zaa rfl (zbz rfl rfl) ?_ | refine zaa rfl (zcb rfl rfl) ?_ | refine zaa rfl (zcc rfl) ?_ | refine zah ?_ | (refine zcr ?_; refine zcs ?_) | (refine zdb ?_; first | refine zdc ?_ | refine zdd ?_ | refine zdf ?_ | refine zdj rfl ?_) | (refine zal rfl rfl ?_; intro g) | (refine zag ?_; first | refine zan 0 rfl rfl rfl rfl rfl rfl rfl rfl rfl ?_ | refine zan 1 rfl rfl rfl rfl rfl rfl rfl rfl rfl ?_) | refine zaa rfl (zci rfl rfl hV1 (Takes.crvPOc (mt mh) (mt (mt (mt (mt mh)))) (mt (mt (mt (mt (mt mh))))) h1 h2 Takes.nil)) ?_ | refine zaa rfl (zci rfl rfl hV2 (Takes.crvPOc mh (mt (mt (mt mh))) (mt (mt mh)) h3 h4 Takes.nil)) ?_
  rename_i g22
  obtain ⟨g23, hg23⟩ : ∃ x, x = g := ⟨g, rfl⟩
  subst hg23
  have hc1 := ih r rfl (2 * i) (leftP P) L g22 a1 b1 ca1 cb1 gL c (by omega) hB.left hL1 ⟨h1, h2⟩ hc
  rw [t1, t2] at hc1
  refine RS.weakS (e' := [(22, .raw (.pointer (some ⟨g22, 0, none⟩))), (108, cA av), (109, cA d), (110, .f .f32 lo), (111, .f .f32 mi), (112, .f .f32 nearL), (113, .raw (.slice (some ⟨gL, 0, none⟩) L.length c)), (23, .raw (.pointer (some ⟨g23, 0, none⟩))), (1, cA av), (2, cA d), (20, .f .f32 mi), (4, .f .f32 hh), (5, .f .f32 nearL)]) (RS.st (S' := StR (fun _ => True) w0 gs ([⟨g22, 27, [.raw (.slice (some ⟨a1, 0, none⟩) n ca1), .raw (.slice (some ⟨b1, 0, none⟩) n cb1)], 2⟩, entC a1 n (leftP P) ca1, entF b1 31 n oneF cb1, entF gL 31 L.length (lstF L) c] ++ [⟨g23, 27, [.raw (.slice (some ⟨a2, 0, none⟩) n ca2), .raw (.slice (some ⟨b2, 0, none⟩) n cb2)], 2⟩, entC a2 n (rightP n P) ca2, entF b2 31 n oneF cb2, ⟨g0, 27, [.raw (.slice (some ⟨a, 0, none⟩) n ca), .raw (.slice (some ⟨b, 0, none⟩) n cb)], 2⟩, entC a n P ca, entF b 31 n oneF cb])) ?_ (fun w h => h.sel [1, 4, 5, 9, 0, 3, 2, 6, 7, 8] (by decide) rfl)) (by (repeat (first | exact Env.sub_nil _ | refine Env.sub_cons rfl ?_)))
  refine rs_call hc1 rfl rfl (fun _ _ _ h => h) rfl ?_
  rintro ⟨L1, g1, c1, ok1⟩ ⟨hcc, hres⟩
  dsimp only at hcc hres ⊢
  cases hl1 : lineR n d av r (2 * i) (leftP P) L with
  | none =>
    rw [hl1] at hres hsucc
    dsimp only at hres hsucc
    subst hres
    repeat first | refine zaa rfl (zay rfl) ?_ | refine zaa rfl (zaz rfl) ?_ | refine zaa rfl (zbz rfl rfl) ?_ | refine zaa rfl (zcc rfl) ?_ | refine zah ?_ | (refine zcr ?_; first | refine zcs ?_ | refine zct ?_) | (refine zdb ?_; first | refine zdc ?_ | refine zdd ?_ | refine zdg ?_ | refine zdi rfl ?_)
    refine Done.st (S' := StR (fun _ => True) w0 gs ([⟨g0, 27, [.raw (.slice (some ⟨a, 0, none⟩) n ca), .raw (.slice (some ⟨b, 0, none⟩) n cb)], 2⟩, entC a n P ca, entF b 31 n oneF cb, entF g1 31 L1.length (lstF L1) c1] : List Ent)) (done_ret2 rfl (⟨L1, g1, c1, false⟩ : Lk) rfl rfl rfl ⟨hcc, by rw [hsucc]⟩ (List.Sublist.refl _)) (fun w h => h.sel [7, 8, 9, 3] (by decide) rfl)
  | some L1' =>
    rw [hl1] at hres hsucc
    dsimp only at hres hsucc
    obtain ⟨rfl, rfl⟩ := hres
    have hL2 : LinP (fun _ => True) ((2 * i + 1) * 2 ^ r) L1 := lineR_ok (Inv := fun _ _ P => B1 n P) (fun r i P h => ⟨h.left, h.right⟩) (fun _ _ _ _ => trivial) r (2 * i) (leftP P) L L1 hB.left hL1 hl1
    have hc2 := ih r rfl (2 * i + 1) (rightP n P) L1 g23 a2 b2 ca2 cb2 g1 c1 hi1 hB.right hL2 ⟨h3, h4⟩ hcc
    rw [t3, t4] at hc2
    repeat first | refine zaa rfl (zay rfl) ?_ | refine zaa rfl (zaz rfl) ?_ | refine zaa rfl (zbz rfl rfl) ?_ | refine zaa rfl (zcc rfl) ?_ | refine zah ?_ | (refine zcr ?_; refine zcs ?_) | (refine zdb ?_; first | refine zdc ?_ | refine zdd ?_ | refine zdf ?_ | refine zdj rfl ?_)
    refine RS.weakS (e' := [(23, .raw (.pointer (some ⟨g23, 0, none⟩))), (119, cA av), (120, cA d), (121, .f .f32 mi), (122, .f .f32 hh), (123, .f .f32 nearL), (124, .raw (.slice (some ⟨g1, 0, none⟩) L1.length c1))]) (RS.st (S' := StR (fun _ => True) w0 gs ([⟨g23, 27, [.raw (.slice (some ⟨a2, 0, none⟩) n ca2), .raw (.slice (some ⟨b2, 0, none⟩) n cb2)], 2⟩, entC a2 n (rightP n P) ca2, entF b2 31 n oneF cb2, entF g1 31 L1.length (lstF L1) c1] ++ [⟨g0, 27, [.raw (.slice (some ⟨a, 0, none⟩) n ca), .raw (.slice (some ⟨b, 0, none⟩) n cb)], 2⟩, entC a n P ca, entF b 31 n oneF cb])) ?_ (fun w h => h.sel [4, 5, 6, 3, 7, 8, 9] (by decide) rfl)) (by (repeat (first | exact Env.sub_nil _ | refine Env.sub_cons rfl ?_)))
    refine rs_call hc2 rfl rfl (fun _ _ _ h => h) rfl ?_
    rintro ⟨L2, g2, c2, ok2⟩ ⟨hcc2, hres2⟩
    dsimp only at hcc2 hres2 ⊢
    repeat first | refine zaa rfl (zaz rfl) ?_ | refine zaa rfl (zbz rfl rfl) ?_ | refine zah ?_ | (refine zcr ?_; refine zcs ?_) | (refine zdb ?_; refine zdg ?_)
    refine Done.st (S' := StR (fun _ => True) w0 gs ([⟨g0, 27, [.raw (.slice (some ⟨a, 0, none⟩) n ca), .raw (.slice (some ⟨b, 0, none⟩) n cb)], 2⟩, entC a n P ca, entF b 31 n oneF cb, entF g2 31 L2.length (lstF L2) c2] : List Ent)) (done_ret2 rfl (⟨L2, g2, c2, ok2⟩ : Lk) rfl rfl rfl ⟨hcc2, by rw [hsucc]; exact hres2⟩ (List.Sublist.refl _)) (fun w h => h.sel [4, 5, 6, 3] (by decide) rfl)
theorem line_all {n : Nat} {d av : CV} (hn : 2 ≤ n ∧ n ≤ 5) (hl : LnV d av) : ∀ r, r ≤ 8 → LsC n d av r
  | 0, h => line_step hn hl 0 h (fun _ e => by cases e)
  | r + 1, h => line_step hn hl (r + 1) h (fun r' e => by cases e; exact line_all hn hl r (by omega))
end Go.Ab
