/- Part 7 of the texts on which the law leans, joined: Splines in memory: whether one is valid, its spans; walked. No conditions. -/
import Derived.Lib.SliceRun
import Derived.Test.YtijihljfpeajlaaZaf
namespace Go.Ab
open Go.Proofs
variable {R : World → Prop} [RStab R]
section
variable {P : Program} {S : World → Prop} {e : Env} {dst : Option Tmp} {ty : TypeId} {pos : String} {after : Array Edge} {guard : Option (Nat × Bool)} {t el : TypeId} {w0 : World} {gs : List Nat} {H : List Ent} {args : List AV} {A' : World → List AV}
theorem opj_eqnilU {t' : TypeId} {X : Operand} {xs : List AV} [hu : TyU P t (.slice el)] (hx : e.ev X = some (AV.sl w0 1 xs)) (h0 : 0 < xs.length) :
    OpJ P S e ⟨dst, .binOp .eql t X (.const (.slice none 0 0)) t', ty, pos, after, guard⟩ (.raw (.bool false)) :=
  opj_value fun a w _ h => by
    obtain ⟨ad, n, c, h1, hl, _, _, hr⟩ := (h X (by simp [Op.operands]) _ hx).inv_q
    obtain ⟨b, rfl, _⟩ := hr 0 _ (List.getElem?_eq_getElem h0)
    refine ⟨_, w, ?_, Ext.refl _, .raw⟩
    have hr := Go.Lib.run_eql_slice_nil (P := P) w t el (some b) n c 0 0 hu.h
    have hc : a.eval (.const (.slice none 0 0)) = .slice none 0 0 := rfl
    simp [execOp, h1, hc, eqGuard, hr]
theorem opj_makeFuncU {c : FuncId} {X : Operand} {u : Value} (hx : e.ev X = some (.raw u)) :
    OpJ P S e ⟨dst, .makeFunc (.func c) #[] #[X], ty, pos, after, guard⟩ (.raw (.func (.func c) #[] #[u])) :=
  opj_value fun a w _ h => by
    have h1 := (h X (by simp [Op.operands]) _ hx).inv_raw
    exact ⟨_, w, by simp [execOp, h1, Instr.makeFunc], Ext.refl _, .raw⟩
/-- A closure over one variable. -/
def clo (w : World) (c : FuncId) (x : AV) : AV := .q fun v => ∃ g, v = .func (.func c) #[] #[.pointer (some ⟨g, 0, none⟩)] ∧ PtrTo [x] w (.pointer (some ⟨g, 0, none⟩))
theorem Takes.clo {R0 : World → Prop} {c : FuncId} {g k : Nat} {T : TypeId} {x : AV} (hm : (⟨g, T, [x], k⟩ : Ent) ∈ H) (h : Takes (StR R0 w0 gs H) args A') :
    Takes (StR R0 w0 gs H) (.raw (.func (.func c) #[] #[.pointer (some ⟨g, 0, none⟩)]) :: args) (fun w => Go.Ab.clo w c x :: A' w) := fun w vs hS hr => by
  obtain ⟨v, r, rfl, hv, hrr⟩ := hr.inv_cons
  rw [hv.inv_raw]
  refine .cons (.q ⟨g, rfl, _, rfl, rfl, fun i y hy => ?_⟩) (h w r hS hrr)
  obtain ⟨u, hu, hev⟩ := (hS.own _ hm).2.cell hy
  exact ⟨u, by rw [Nat.zero_add]; exact hu, hev⟩
theorem Takes.ptrW {R0 : World → Prop} {p : Value} {xs : List AV} (hp : PtrTo xs w0 p) (h : Takes (StR R0 w0 [] H) args A') :
    Takes (StR R0 w0 [] H) (.raw p :: args) (fun w => AV.ptrQ w xs :: A' w) := fun w vs hS hr => by
  obtain ⟨v, r, rfl, hv, hrr⟩ := hr.inv_cons
  rw [hv.inv_raw]
  exact .cons (.q (mono_ptrTo xs _ _ _ hS.ext0 hp)) (h w r hS hrr)
end
attribute [local irreducible] WS RS Done OpJ Then InBlock Round Ret Env.sub FnH
attribute [local irreducible] tab tabC
theorem cloneC_fn (n : Nat) (f : Nat → CV) (h0 : 0 < n) (hl : n < 2 ^ 40) : FnH (X := Nat × Nat) Try.prog 34 (fun w => [slC w (tabC n f)]) [] (fun y => .raw (.slice (some ⟨y.1, 0, none⟩) n y.2)) (fun y => [entC y.1 n f y.2]) (fun y => n ≤ y.2 ∧ y.2 ≤ maxLen) := by
  have hlen : ((tabC n f).map cA).length = n := by simp
  have hone := one_cA n f
  refine fn_intro Try.func34 rfl Try.ntmps34 (fun _ => Nat.le_of_ble_eq_true rfl) fun w0 => ?_
  repeat first | refine zaa rfl (zay rfl) ?_ | refine zaa rfl (zaz rfl) ?_ | refine zah ?_ | (refine zcr ?_; refine zcs ?_) | (refine zdb ?_; first | refine zdc ?_ | refine zdd ?_ | refine zdf ?_ | refine zdj rfl ?_) | (refine rs_litP rfl rfl rfl rfl rfl rfl ?_; intro g) | refine zaa rfl (opj_eqnilU rfl (by rw [hlen]; exact h0)) ?_
  refine rs_append 0 (xs := []) (ys := (tabC n f).map cA) (n := 0) (cap := 0) rfl rfl ⟨_, rfl, fun w v hS h => hS.rd h.inv_q⟩ rfl ⟨rfl, Nat.le_refl _, Nat.zero_le _⟩ (by rw [hlen]; exact h0) hone (by rw [hlen]; simp only [maxLen]; omega) (by rw [hlen]; omega) rfl fun g3 c3 h3 h3' => ?_
  rw [hlen, Nat.zero_add] at h3 ⊢
  repeat first | refine zaa rfl (zaz rfl) ?_ | refine zah ?_ | (refine zcr ?_; refine zcs ?_) | (refine zdb ?_; refine zdg ?_)
  exact done_ret1 rfl (g3, c3) rfl ⟨h3, h3'⟩ (List.Sublist.refl _)
theorem cloneFU_fn (n : Nat) (f : Int → FV) (h0 : 0 < n) (hl : n < 2 ^ 40) : FnH (X := Nat × Nat) Try.prog 27 (fun w => [slF w (tab n f)]) [] (fun y => .raw (.slice (some ⟨y.1, 0, none⟩) n y.2)) (fun y => [entF y.1 29 n f y.2]) (fun y => n ≤ y.2 ∧ y.2 ≤ maxLen) := by
  have hlen : ((tab n f).map (AV.f .f32)).length = n := by simp
  have hone : ((tab n f).map (AV.f .f32)).all isOne = true := by
    rw [List.all_eq_true]
    intro x hx
    obtain ⟨a, _, rfl⟩ := List.mem_map.1 hx
    rfl
  refine fn_intro Try.func27 rfl Try.ntmps27 (fun _ => Nat.le_of_ble_eq_true rfl) fun w0 => ?_
  repeat first | refine zaa rfl (zay rfl) ?_ | refine zaa rfl (zaz rfl) ?_ | refine zah ?_ | (refine zcr ?_; refine zcs ?_) | (refine zdb ?_; first | refine zdc ?_ | refine zdd ?_ | refine zdf ?_ | refine zdj rfl ?_) | (refine rs_litP rfl rfl rfl rfl rfl rfl ?_; intro g) | refine zaa rfl (opj_eqnilU rfl (by rw [hlen]; exact h0)) ?_
  refine rs_append 0 (xs := []) (ys := (tab n f).map (AV.f .f32)) (n := 0) (cap := 0) rfl rfl ⟨_, rfl, fun w v hS h => hS.rd h.inv_q⟩ rfl ⟨rfl, Nat.le_refl _, Nat.zero_le _⟩ (by rw [hlen]; exact h0) hone (by rw [hlen]; simp only [maxLen]; omega) (by rw [hlen]; omega) rfl fun g3 c3 h3 h3' => ?_
  rw [hlen, Nat.zero_add] at h3 ⊢
  repeat first | refine zaa rfl (zaz rfl) ?_ | refine zah ?_ | (refine zcr ?_; refine zcs ?_) | (refine zdb ?_; refine zdg ?_)
  exact done_ret1 rfl (g3, c3) rfl ⟨h3, h3'⟩ (List.Sublist.refl _)
end Go.Ab
namespace Go.Ab
open Go.Proofs
variable {R : World → Prop} [RStab R]
theorem entF_nilU (g c : Nat) (T : TypeId) (f : Int → FV) : (⟨g, T, [], c⟩ : Ent) = entF g T 0 f c := by
  unfold entF tab
  rfl
theorem entC_nilU (g c : Nat) (F : Nat → CV) : (⟨g, 31, [], c⟩ : Ent) = entC g 0 F c := by
  unfold entC tabC
  rfl
attribute [local irreducible] WS RS Done OpJ Then InBlock Round Ret Env.sub FnH
attribute [local irreducible] tab tabC
end Go.Ab
namespace Go.Ab
open Go.Proofs
variable {R : World → Prop} [RStab R]
/-- A number of quarters. -/
def qtF (a : Int) : FV := fbin .quo .f32 (some (FloatKind.f32.nearest a)) (fv .f32 1082130432)
/-- Points that are drawn. -/
structure Dp where
  g : Nat
  c : Nat
  P : Nat → CV
  a : Nat → Int
  b : Nat → Int
  r : Dr
structure DpOk (n : Nat) (P : Nat → CV) (a b : Nat → Int) : Prop where
  q : ∀ i, i < n → P i = (qtF (a i), qtF (b i))
  a : ∀ i, i < n → -16 ≤ a i ∧ a i ≤ 16
  b : ∀ i, i < n → -16 ≤ b i ∧ b i ≤ 16
def putU {α : Type} (i : Nat) (x : α) (f : Nat → α) (t : Nat) : α := if t = i then x else f t
theorem putU_at {α : Type} (i : Nat) (x : α) (f : Nat → α) : putU i x f i = x := if_pos rfl
theorem putU_ne {α : Type} {i t : Nat} (x : α) (f : Nat → α) (h : t ≠ i) : putU i x f t = f t := if_neg h
theorem DpOk.put {n : Nat} {P : Nat → CV} {a b : Nat → Int} (h : DpOk n P a b) {u v : Int} (hu : -16 ≤ u ∧ u ≤ 16) (hv : -16 ≤ v ∧ v ≤ 16) : DpOk (n + 1) (putU n (qtF u, qtF v) P) (putU n u a) (putU n v b) := by
  refine ⟨fun i hi => ?_, fun i hi => ?_, fun i hi => ?_⟩
  all_goals
    rcases Nat.lt_or_ge i n with h1 | h1
    · simp only [putU_ne _ _ (show i ≠ n by omega)]
      first | exact h.q i h1 | exact h.a i h1 | exact h.b i h1
    · obtain rfl : i = n := by omega
      simp only [putU_at]
      try assumption
attribute [local irreducible] WS RS Done OpJ Then InBlock Round Ret Env.sub FnH
attribute [local irreducible] tab tabC
theorem one_fn (w1 : World) (g : Nat) (L : List By) (at_ seed : Int) (n : Int) (hn : 2 ≤ n ∧ n ≤ 200) (hat : 0 ≤ at_ ∧ at_ < 2 ^ 40) (hL : L.length < 2 ^ 40) :
    FnH (X := Bool × Dr) Try.prog 46 (fun w => [srcP w1 g w, .raw (.int .i64 n)]) [srcE w1 g L at_ seed] (fun y => .raw (.bool y.1)) (fun y => [srcE w1 g L y.2.at_ y.2.seed]) (fun y => y.2.at_ = at_ + 1) := by
  have hp := pick_fn w1 g L at_ seed n hn hat hL
  refine fn_intro Try.func46 rfl Try.ntmps46 (fun _ => Nat.le_of_ble_eq_true rfl) fun w0 => ?_
  refine ws_q (t := 0) rfl fun v hv => ?_
  obtain ⟨rfl, hx, hg⟩ := hv
  have hk : KeepW w1 w0 [g] := ⟨hx, fun x hx => by simp at hx; omega⟩
  repeat first | refine zaa rfl (zay rfl) ?_ | refine zaa rfl (zaz rfl) ?_ | (refine zac ?_; refine zaa rfl (zbi rfl rfl) ?_) | refine zah ?_ | (refine zcr ?_; refine zcs ?_) | (refine zdb ?_; first | refine zdc ?_ | refine zdd ?_ | refine zdg ?_) | (refine rs_callAt 0 hp rfl rfl rfl (Takes.srcP hk hg (Takes.same Takes.nil)) rfl ?_; rintro ⟨r, a2, s2⟩ ⟨hr1, hr2, hr3⟩; simp only at hr1 hr2 hr3)
  exact done_ret1 rfl ((decide (r = 0), (⟨r, a2, s2⟩ : Dr)) : Bool × Dr) rfl hr3 (List.Sublist.refl _)
end Go.Ab
namespace Go.Ab
open Go.Proofs
variable {R : World → Prop} [RStab R]
def farF (p q : CV) : FV := fconv .f32 .f64 (longC (subC2 p q))
def gapM (x y : FV) : FV := maxF .f64 (fbin .sub .f64 x y) (fbin .sub .f64 y x)
attribute [local irreducible] WS RS Done OpJ Then InBlock Round Ret Env.sub FnH
attribute [local irreducible] tab tabC
theorem r8Long_fn (L M : List By) : Fn Try.prog 4 (fun w => [slB w L, slB w M]) (.raw (.bool (decide ((48 : Int) < L.length) || decide ((48 : Int) < M.length)))) := by
  refine fn_intro Try.func4 rfl Try.ntmps4 (fun _ => Nat.le_of_ble_eq_true rfl) fun w0 => ?_
  repeat first | refine zaa rfl (zay rfl) ?_ | refine zaa rfl (zaz rfl) ?_ | (refine zac ?_; refine zaa rfl (zbg rfl rfl) ?_) | (refine zad ?_; refine zaa rfl (zbm rfl) ?_) | refine zah ?_ | (refine zcr ?_; refine zcs ?_) | (refine zdb ?_; first | refine zdc ?_ | refine zdd ?_)
  cases decide ((48 : Int) < L.length)
  all_goals
    repeat first | refine zai rfl rfl ?_ | refine zaj rfl rfl rfl rfl ?_ | refine zaa rfl (zay rfl) ?_ | refine zaa rfl (zaz rfl) ?_ | (refine zac ?_; refine zaa rfl (zbg rfl rfl) ?_) | (refine zad ?_; refine zaa rfl (zbm rfl) ?_) | refine zaa rfl (zca rfl rfl) ?_ | refine zaa rfl (zcb rfl rfl) ?_ | refine zah ?_ | (refine zcr ?_; refine zcs ?_) | (refine zdb ?_; refine zdg ?_)
    exact done_ret1 rfl () rfl trivial (List.nil_sublist _)
theorem r8At_fn (L : List By) (i n : Int) (hn : 2 ≤ n) (hi : 0 ≤ i ∧ i < 2 ^ 40) : FnH (X := Int) Try.prog 6 (fun w => [slB w L, .raw (.int .i64 i), .raw (.int .i64 n)]) [] (fun y => .raw (.int .i64 y)) (fun _ => []) (fun y => 0 ≤ y ∧ y < n) := by
  refine fn_intro Try.func6 rfl Try.ntmps6 (fun _ => Nat.le_of_ble_eq_true rfl) fun w0 => ?_
  repeat first | refine zaa rfl (zay rfl) ?_ | refine zaa rfl (zaz rfl) ?_ | (refine zac ?_; refine zaa rfl (zbf rfl rfl) ?_) | refine zah ?_ | (refine zcr ?_; refine zcs ?_) | (refine zdb ?_; first | refine zdc ?_ | refine zdd ?_)
  rw [decide_eq_false (show ¬ n ≤ 1 by omega)]
  repeat first | refine zai rfl rfl ?_ | refine zaa rfl (zay rfl) ?_ | (refine zac ?_; refine zaa rfl (zbh rfl rfl) ?_) | (refine zad ?_; refine zaa rfl (zbm rfl) ?_) | refine zaa rfl (zcb rfl rfl) ?_ | refine zah ?_ | (refine zcr ?_; refine zcs ?_)
  refine ws_cond rfl (fun hd => ?_) (fun hd => ?_)
  · repeat first | refine zaa rfl (zaz rfl) ?_ | refine zah ?_ | (refine zcr ?_; first | refine zcs ?_ | refine zct ?_) | (refine zdb ?_; first | refine zdc ?_ | refine zdd ?_ | refine zdg ?_)
    exact done_ret1 rfl 0 rfl ⟨by omega, by omega⟩ (List.nil_sublist _)
  · have hlt : ¬ (L.length : Int) ≤ i := of_decide_eq_false hd
    have hby := (L.getD i.toNat default).isLt
    repeat first | refine zaa rfl (zay rfl) ?_ | refine zaa rfl (zaz rfl) ?_ | (refine zac ?_; refine zaa rfl (zcq rfl rfl (by omega) (by omega)) ?_) | (refine zae ?_; refine zaa rfl (zbu rfl rfl) ?_) | (refine zaf ?_; refine zaa rfl (zbv rfl rfl (by omega) (by omega)) ?_) | refine zah ?_ | (refine zcr ?_; refine zcs ?_) | (refine zdb ?_; first | refine zdc ?_ | refine zdd ?_ | refine zdf ?_ | refine zdg ?_) | refine zaa rfl (opj_byte rfl) ?_
    exact done_ret1 rfl _ rfl ⟨Int.emod_nonneg _ (by omega), Int.emod_lt_of_pos _ (by omega)⟩ (List.nil_sublist _)
theorem r8Far_fn (p q : CV) (h : LongOk (subC2 p q)) : Fn Try.prog 12 (fun _ => [cA p, cA q]) (.f .f64 (farF p q)) := by
  have hl := longOf_fn _ h
  refine fn_intro Try.func12 rfl Try.ntmps12 (fun _ => Nat.le_of_ble_eq_true rfl) fun w0 => ?_
  repeat first | refine zaa rfl (zay rfl) ?_ | refine zaa rfl (zaz rfl) ?_ | (refine zac ?_; refine zaa rfl (opj_csub rfl rfl) ?_) | (refine zad ?_; (refine zaa rfl (zci rfl rfl (hl) ?_) ?_; (focus ((repeat (first | exact Takes.nil | refine Takes.sl ?_ | refine Takes.lit ?_ | refine Takes.fa ?_ | refine Takes.fc ?_ | refine Takes.net ?_ | (refine Takes.ownE ?_ ?_ ?_ ?_ ?_; (focus (exact ⟨_, _, (by (repeat (first | exact mh | refine mt ?_)); done)⟩)); (focus (simp; done)); (focus omega); (focus (simp only [maxLen]; omega))) | refine Takes.same ?_)); done)))) | refine zaa rfl (zbx rfl) ?_ | refine zah ?_ | (refine zcr ?_; refine zcs ?_) | (refine zdb ?_; first | refine zdc ?_ | refine zdd ?_ | refine zdg ?_)
  exact done_ret1 rfl () rfl trivial (List.nil_sublist _)
theorem r8Gap_fn {x y : FV} {p q : Rat} (vx : Vl .f64 (fbin .sub .f64 x y) p) (vy : Vl .f64 (fbin .sub .f64 y x) q) : Fn Try.prog 10 (fun _ => [.f .f64 x, .f .f64 y]) (.f .f64 (gapM x y)) := by
  refine fn_intro Try.func10 rfl Try.ntmps10 (fun _ => Nat.le_of_ble_eq_true rfl) fun w0 => ?_
  repeat first | refine zaa rfl (zay rfl) ?_ | refine zaa rfl (zaz rfl) ?_ | (refine zac ?_; refine zaa rfl (zba rfl rfl rfl) ?_) | refine zah ?_ | (refine zcr ?_; refine zcs ?_) | (refine zdb ?_; first | refine zdc ?_ | refine zdd ?_ | refine zdg ?_) | refine zaa rfl (opj_maxV vx vy rfl rfl) ?_
  exact done_ret1 rfl () rfl trivial (List.nil_sublist _)
end Go.Ab
namespace Go.Ab
/-- How near, by what is near it. -/
theorem rnd_rel {q r : Rat} (h : Rnd .f32 q r) (a : Rat) (h1 : -a ≤ q) (h2 : q ≤ a) : q - (a / 8388608 + 1 / 100000000000000000000) ≤ r ∧ r ≤ q + (a / 8388608 + 1 / 100000000000000000000) := by
  have h3 := h.near a h1 h2
  have e1 : feps .f32 = 1 / 8388608 := by decide +kernel
  have e2 : ftiny .f32 ≤ 1 / 100000000000000000000 := by decide +kernel
  rw [e1] at h3
  obtain ⟨h4, h5⟩ := h3
  constructor <;> grind
theorem p24_big : (16000000 : Rat) ≤ p2 24 := by decide +kernel
section
variable {x y : FV} {p q : Rat}
theorem fit_16 {a q : Rat} (h1 : -a ≤ q) (h2 : q ≤ a) (h3 : a ≤ 16000000) : Fit .f32 q := by
  have := p24_big
  exact fit_24 (by grind) (by grind)
theorem mulR (hx : Vl .f32 x p) (hy : Vl .f32 y q) (a : Rat) (h1 : -a ≤ p * q) (h2 : p * q ≤ a) (h3 : a ≤ 16000000) : ∃ r, Vl .f32 (fbin .mul .f32 x y) r ∧ Rnd .f32 (p * q) r ∧ p * q - (a / 8388608 + 1 / 100000000000000000000) ≤ r ∧ r ≤ p * q + (a / 8388608 + 1 / 100000000000000000000) := by
  obtain ⟨r, vr, hr⟩ := vl_mul hx hy (fit_16 h1 h2 h3)
  exact ⟨r, vr, hr, rnd_rel hr a h1 h2⟩
theorem addR (hx : Vl .f32 x p) (hy : Vl .f32 y q) (a : Rat) (h1 : -a ≤ p + q) (h2 : p + q ≤ a) (h3 : a ≤ 16000000) : ∃ r, Vl .f32 (fbin .add .f32 x y) r ∧ Rnd .f32 (p + q) r ∧ p + q - (a / 8388608 + 1 / 100000000000000000000) ≤ r ∧ r ≤ p + q + (a / 8388608 + 1 / 100000000000000000000) := by
  obtain ⟨r, vr, hr⟩ := vl_add hx hy (fit_16 h1 h2 h3)
  exact ⟨r, vr, hr, rnd_rel hr a h1 h2⟩
theorem subR (hx : Vl .f32 x p) (hy : Vl .f32 y q) (a : Rat) (h1 : -a ≤ p - q) (h2 : p - q ≤ a) (h3 : a ≤ 16000000) : ∃ r, Vl .f32 (fbin .sub .f32 x y) r ∧ Rnd .f32 (p - q) r ∧ p - q - (a / 8388608 + 1 / 100000000000000000000) ≤ r ∧ r ≤ p - q + (a / 8388608 + 1 / 100000000000000000000) := by
  obtain ⟨r, vr, hr⟩ := vl_sub hx hy (fit_16 h1 h2 h3)
  exact ⟨r, vr, hr, rnd_rel hr a h1 h2⟩
theorem divR (hx : Vl .f32 x p) (hy : Vl .f32 y q) (hq : q ≠ 0) (a : Rat) (h1 : -a ≤ p / q) (h2 : p / q ≤ a) (h3 : a ≤ 16000000) : ∃ r, Vl .f32 (fbin .quo .f32 x y) r ∧ Rnd .f32 (p / q) r ∧ p / q - (a / 8388608 + 1 / 100000000000000000000) ≤ r ∧ r ≤ p / q + (a / 8388608 + 1 / 100000000000000000000) := by
  have := p24_big
  obtain ⟨r, vr, hr⟩ := vl_div hx hy hq (fit_24' (by grind) (by grind))
  exact ⟨r, vr, hr, rnd_rel hr a h1 h2⟩
end
/-- A time, by value. -/
structure Tm (t : FV) (τ : Rat) : Prop where
  v : Vl .f32 t τ
  s : Vl .f32 (fbin .sub .f32 one1 t) (1 - τ)
  lo : 0 ≤ τ
  hi : τ ≤ 1
/-- A coordinate's blend. -/
def blF (a b u v t : FV) : FV := fbin .mul .f32 (fbin .add .f32 (fbin .mul .f32 a (fbin .mul .f32 u (fbin .sub .f32 one1 t))) (fbin .mul .f32 b (fbin .mul .f32 v t))) (fbin .quo .f32 one1 (blW u v t))
theorem blC_1 (a b : CV) (u v t : FV) : (blC a b u v t).1 = blF a.1 b.1 u v t := rfl
theorem blC_2 (a b : CV) (u v t : FV) : (blC a b u v t).2 = blF a.2 b.2 u v t := rfl
theorem one1_vl : Vl .f32 one1 1 := Vl.c (by decide +kernel)
/-- What two weights make, by value. -/
structure Bw (u v t : FV) (x y τ : Rat) (p q W : Rat) : Prop where
  vp : Vl .f32 (fbin .mul .f32 u (fbin .sub .f32 one1 t)) p
  vq : Vl .f32 (fbin .mul .f32 v t) q
  vW : Vl .f32 (blW u v t) W
  p0 : 0 ≤ p
  q0 : 0 ≤ q
  p1 : x * (1 - τ) - 4 / 8388608 ≤ p
  p2 : p ≤ x * (1 - τ) + 4 / 8388608
  q1 : y * τ - 4 / 8388608 ≤ q
  q2 : q ≤ y * τ + 4 / 8388608
  S0 : 1 / 6 ≤ p + q
  S1 : p + q ≤ 4
  w1 : p + q - ((p + q) / 8388608 + 1 / 100000000000000000000) ≤ W
  w2 : W ≤ p + q + ((p + q) / 8388608 + 1 / 100000000000000000000)
theorem bw_of {u v t : FV} {x y τ : Rat} (hT : Tm t τ) (vu : Vl .f32 u x) (vv : Vl .f32 v y) (hx : 1 / 5 ≤ x ∧ x ≤ 3) (hy : 1 / 5 ≤ y ∧ y ≤ 3) : ∃ p q W, Bw u v t x y τ p q W := by
  have l := hT.lo
  have h := hT.hi
  have a1 := Rat.mul_nonneg (show 0 ≤ x - 1 / 5 by grind) (show 0 ≤ 1 - τ by grind)
  have a2 := Rat.mul_nonneg (show 0 ≤ 3 - x by grind) (show 0 ≤ 1 - τ by grind)
  have a3 := Rat.mul_nonneg (show 0 ≤ y - 1 / 5 by grind) l
  have a4 := Rat.mul_nonneg (show 0 ≤ 3 - y by grind) l
  obtain ⟨p, vp, rp, p1, p2⟩ := mulR vu hT.s 3 (by grind) (by grind) (by decide +kernel)
  obtain ⟨q, vq, rq, q1, q2⟩ := mulR vv hT.v 3 (by grind) (by grind) (by decide +kernel)
  have p0 := (rp.side 0 (rep_zero _)).2 (by grind)
  have q0 := (rq.side 0 (rep_zero _)).2 (by grind)
  obtain ⟨W, vW, rW, w1, w2⟩ := addR vp vq (p + q) (by grind) (by grind) (by grind)
  exact ⟨p, q, W, vp, vq, vW, p0, q0, by grind, by grind, by grind, by grind, by grind, by grind, w1, w2⟩
theorem blF_vl {a b u v t : FV} {x y τ α β p q W : Rat} (h : Bw u v t x y τ p q W) (va : Vl .f32 a α) (vb : Vl .f32 b β) (ha : -40 ≤ α ∧ α ≤ 40) (hb : -40 ≤ β ∧ β ≤ 40) :
    ∃ z, Vl .f32 (blF a b u v t) z ∧ (p * α + q * β) / (p + q) - 1 / 25000 ≤ z ∧ z ≤ (p * α + q * β) / (p + q) + 1 / 25000 := by
  have p0 := h.p0
  have q0 := h.q0
  have S0 := h.S0
  have S1 := h.S1
  have w1 := h.w1
  have w2 := h.w2
  have hS : p + q ≠ 0 := by grind
  obtain ⟨S, eS⟩ : ∃ S, S = p + q := ⟨_, rfl⟩
  rw [← eS] at S0 S1 w1 w2 hS ⊢
  have W0 : 1 / 7 ≤ W := by grind
  have hW : W ≠ 0 := by grind
  obtain ⟨I, eI⟩ : ∃ I, I = 1 / W := ⟨_, rfl⟩
  have hI : I * W = 1 := by rw [eI]; exact Rat.div_mul_cancel hW
  have I7 : I ≤ 7 := by rw [eI]; exact div_le_of (by grind) (by grind)
  have I0 : 0 ≤ I := by rw [eI]; exact le_div_of (by grind) (by grind)
  obtain ⟨R, vR, rR, r1, r2⟩ := divR one1_vl h.vW hW I (by rw [← eI]; grind) (by rw [← eI]; exact Rat.le_refl) (by grind)
  rw [← eI] at r1 r2 rR
  obtain ⟨c, ec⟩ : ∃ c, c = (p * α + q * β) / S := ⟨_, rfl⟩
  have hc : c * S = p * α + q * β := by rw [ec]; exact Rat.div_mul_cancel hS
  rw [← ec]
  have b1 := Rat.mul_nonneg p0 (show 0 ≤ 40 - α by grind)
  have b2 := Rat.mul_nonneg p0 (show 0 ≤ 40 + α by grind)
  have b3 := Rat.mul_nonneg q0 (show 0 ≤ 40 - β by grind)
  have b4 := Rat.mul_nonneg q0 (show 0 ≤ 40 + β by grind)
  have c1 : c ≤ 40 := by rw [ec]; exact div_le_of (by grind) (by grind)
  have c2 : -40 ≤ c := by rw [ec]; exact le_div_of (by grind) (by grind)
  obtain ⟨m1, vm1, _, m11, m12⟩ := mulR va h.vp (40 * p) (by grind) (by grind) (by grind)
  obtain ⟨m2, vm2, _, m21, m22⟩ := mulR vb h.vq (40 * q) (by grind) (by grind) (by grind)
  obtain ⟨s, vs, _, s1, s2⟩ := addR vm1 vm2 (40 * S + 1 / 1000) (by grind) (by grind) (by grind)
  clear p0 q0 b1 b2 b3 b4
  have d1 : s - c * S ≤ 81 / 8388608 * S := by grind
  have d2 : -(81 / 8388608 * S) ≤ s - c * S := by grind
  clear m11 m12 m21 m22 s1 s2 vm1 vm2
  have R0 : 0 ≤ R := (rR.side 0 (rep_zero _)).2 I0
  have R8 : R ≤ 8 := by grind
  -- R W is near 1
  have e1 := Rat.mul_le_mul_of_nonneg_right r1 (show 0 ≤ W by grind)
  have e2 := Rat.mul_le_mul_of_nonneg_right r2 (show 0 ≤ W by grind)
  have f1 := Rat.mul_le_mul_of_nonneg_left w1 R0
  have f2 := Rat.mul_le_mul_of_nonneg_left w2 R0
  obtain ⟨ρ, eρ⟩ : ∃ ρ, ρ = R * S := ⟨_, rfl⟩
  have ρ0 : 0 ≤ ρ := by rw [eρ]; exact Rat.mul_nonneg R0 (by grind)
  have g1 : R * W - 1 ≤ 2 / 8388608 := by grind
  have g2 : -(2 / 8388608) ≤ R * W - 1 := by grind
  have k1 : ρ ≤ 1 + 4 / 8388608 := by grind
  have k2 : 1 - 4 / 8388608 ≤ ρ := by grind
  clear e1 e2 f1 f2 g1 g2 r1 r2
  have n1 := Rat.mul_le_mul_of_nonneg_right d1 R0
  have n2 := Rat.mul_le_mul_of_nonneg_right d2 R0
  have n3 := mul_bnd (a := 40) (b := 4 / 8388608) c2 c1 (show -(4 / 8388608) ≤ ρ - 1 by grind) (show ρ - 1 ≤ 4 / 8388608 by grind)
  have n0 : s * R - c = (s - c * S) * R + c * (ρ - 1) := by rw [eρ]; grind
  have n4 : 81 / 8388608 * S * R = 81 / 8388608 * ρ := by rw [eρ]; grind
  have n5 : -(81 / 8388608 * S) * R = -(81 / 8388608 * ρ) := by rw [eρ]; grind
  rw [n4] at n1
  rw [n5] at n2
  obtain ⟨n3, n6⟩ := n3
  clear n4 n5 d1 d2
  have o1 : s * R - c ≤ 245 / 8388608 := by
    rw [n0]
    generalize (s - c * S) * R = A at n1 n2 ⊢
    generalize c * (ρ - 1) = B at n3 n6 ⊢
    clear n0
    grind
  have o2 : -(245 / 8388608) ≤ s * R - c := by
    rw [n0]
    generalize (s - c * S) * R = A at n1 n2 ⊢
    generalize c * (ρ - 1) = B at n3 n6 ⊢
    clear n0
    grind
  obtain ⟨z, vz, _, z1, z2⟩ := mulR vs vR 41 (by grind) (by grind) (by decide +kernel)
  exact ⟨z, vz, by grind, by grind⟩
/-- By how much a level leans on the next point. -/
def valR (x : FV) : Rat := match x with
  | none => 0
  | some b => match FloatKind.f32.decode b with
    | .number s m e => vl s m e
    | _ => 0
theorem Vl.valR {x : FV} {p : Rat} (h : Vl .f32 x p) : valR x = p := by
  obtain ⟨b, s, m, e, rfl, hd, rfl⟩ := h
  simp only [Go.Ab.valR, hd]
def lamQ (p q : Rat) : Rat := q / (p + q)
def lam (f : Int → FV) (t : FV) (k i : Nat) : Rat := lamQ (valR (fbin .mul .f32 (rowsW f t k i) (fbin .sub .f32 one1 t))) (valR (fbin .mul .f32 (rowsW f t k ((i : Int) + 1)) t))
/-- A level, by value. -/
def Cx (f : Int → FV) (t : FV) (x : Nat → Rat) : Nat → Nat → Rat
  | 0, i => x i
  | k + 1, i => (1 - lam f t k i) * Cx f t x k i + lam f t k i * Cx f t x k (i + 1)
/-- A level of coordinates. -/
def rowsF (X : Nat → FV) (f : Int → FV) (t : FV) : Nat → Nat → FV
  | 0, i => X i
  | k + 1, i => blF (rowsF X f t k i) (rowsF X f t k (i + 1)) (rowsW f t k i) (rowsW f t k ((i : Int) + 1)) t
theorem rowsP_1 (P : Nat → CV) (f : Int → FV) (t : FV) : ∀ k i, ((rowsP P f t k).1 i).1 = rowsF (fun i => (P i).1) f t k i
  | 0, i => rfl
  | k + 1, i => by
    show (rowP (rowsP P f t k).1 (rowsP P f t k).2 t i).1 = _
    unfold rowP
    rw [rowsP_w, blC_1, rowsP_1 P f t k i, rowsP_1 P f t k (i + 1)]
    rfl
theorem rowsP_2 (P : Nat → CV) (f : Int → FV) (t : FV) : ∀ k i, ((rowsP P f t k).1 i).2 = rowsF (fun i => (P i).2) f t k i
  | 0, i => rfl
  | k + 1, i => by
    show (rowP (rowsP P f t k).1 (rowsP P f t k).2 t i).2 = _
    unfold rowP
    rw [rowsP_w, blC_2, rowsP_2 P f t k i, rowsP_2 P f t k (i + 1)]
    rfl
/-- Weights between a quarter and two. -/
def Wts (f : Int → FV) (n : Nat) : Prop := ∀ i : Nat, i < n → ∃ r, Vl .f32 (f i) r ∧ 1 / 4 ≤ r ∧ r ≤ 2
theorem rowsW_vl {f : Int → FV} {n : Nat} {t : FV} {τ : Rat} (hf : Wts f n) (hT : Tm t τ) : ∀ (k : Nat), k < 8 → ∀ i : Nat, i + k < n → ∃ r, Vl .f32 (rowsW f t k i) r ∧ 1 / 4 - (k : Rat) / 100000 ≤ r ∧ r ≤ 2 + (k : Rat) / 100000
  | 0, _, i, hi => by
    obtain ⟨r, vr, h1, h2⟩ := hf i (by omega)
    refine ⟨r, vr, ?_, ?_⟩
    · rw [show ((0 : Nat) : Rat) = 0 from rfl]
      grind
    · rw [show ((0 : Nat) : Rat) = 0 from rfl]
      grind
  | k + 1, hk, i, hi => by
    obtain ⟨x, vx, x1, x2⟩ := rowsW_vl hf hT k (by omega) i (by omega)
    obtain ⟨y, vy, y1, y2⟩ := rowsW_vl hf hT k (by omega) (i + 1) (by omega)
    rw [show ((i + 1 : Nat) : Int) = (i : Int) + 1 by omega] at vy
    have hk8 : (k : Rat) ≤ 8 := by
      have := Rat.natCast_le_natCast.2 (show k ≤ 8 by omega)
      exact this
    have ek : ((k + 1 : Nat) : Rat) = (k : Rat) + 1 := Rat.natCast_add k 1
    rw [ek]
    obtain ⟨p, q, W, h⟩ := bw_of hT vx vy (by constructor <;> grind) (by constructor <;> grind)
    refine ⟨W, h.vW, ?_, ?_⟩
    · have a1 := Rat.mul_nonneg (show 0 ≤ x - (1 / 4 - (k : Rat) / 100000) by grind) (show 0 ≤ 1 - τ by have := hT.hi; grind)
      have a2 := Rat.mul_nonneg (show 0 ≤ y - (1 / 4 - (k : Rat) / 100000) by grind) hT.lo
      have := h.w1
      have := h.p1
      have := h.q1
      have := h.S1
      grind
    · have a1 := Rat.mul_nonneg (show 0 ≤ 2 + (k : Rat) / 100000 - x by grind) (show 0 ≤ 1 - τ by have := hT.hi; grind)
      have a2 := Rat.mul_nonneg (show 0 ≤ 2 + (k : Rat) / 100000 - y by grind) hT.lo
      have := h.w2
      have := h.p2
      have := h.q2
      have := h.S1
      grind
/-- What a level's two weights make. -/
theorem rowsW_bw {f : Int → FV} {n : Nat} {t : FV} {τ : Rat} (hf : Wts f n) (hT : Tm t τ) {k i : Nat} (hk : k < 8) (hi : i + k + 1 < n) :
    ∃ x y p q W, Bw (rowsW f t k i) (rowsW f t k ((i : Int) + 1)) t x y τ p q W ∧ lam f t k i = q / (p + q) ∧ 0 ≤ lam f t k i ∧ lam f t k i ≤ 1 := by
  obtain ⟨x, vx, x1, x2⟩ := rowsW_vl hf hT k (by omega) i (by omega)
  obtain ⟨y, vy, y1, y2⟩ := rowsW_vl hf hT k (by omega) (i + 1) (by omega)
  rw [show ((i + 1 : Nat) : Int) = (i : Int) + 1 by omega] at vy
  have hk8 : (k : Rat) ≤ 8 := by
    have := Rat.natCast_le_natCast.2 (show k ≤ 8 by omega)
    exact this
  obtain ⟨p, q, W, h⟩ := bw_of hT vx vy (by constructor <;> grind) (by constructor <;> grind)
  have e : lam f t k i = q / (p + q) := by
    unfold lam lamQ
    rw [h.vp.valR, h.vq.valR]
  have S0 := h.S0
  have p0 := h.p0
  have q0 := h.q0
  refine ⟨x, y, p, q, W, h, e, ?_, ?_⟩
  · rw [e]
    exact le_div_of (by grind) (by grind)
  · rw [e]
    exact div_le_of (by grind) (by grind)
/-- A mean of two. -/
theorem mean_bnd {l a b B : Rat} (h0 : 0 ≤ l) (h1 : l ≤ 1) (ha : -B ≤ a ∧ a ≤ B) (hb : -B ≤ b ∧ b ≤ B) : -B ≤ (1 - l) * a + l * b ∧ (1 - l) * a + l * b ≤ B := by
  have a1 := Rat.mul_nonneg (show 0 ≤ 1 - l by grind) (show 0 ≤ B - a by grind)
  have a2 := Rat.mul_nonneg (show 0 ≤ 1 - l by grind) (show 0 ≤ B + a by grind)
  have a3 := Rat.mul_nonneg h0 (show 0 ≤ B - b by grind)
  have a4 := Rat.mul_nonneg h0 (show 0 ≤ B + b by grind)
  constructor <;> grind
section
variable {f : Int → FV} {n : Nat} {t : FV} {τ : Rat}
theorem cx_near (hf : Wts f n) (hT : Tm t τ) {x y : Nat → Rat} {B : Rat} (h : ∀ i, i < n → -B ≤ x i - y i ∧ x i - y i ≤ B) : ∀ (k : Nat), k ≤ 8 → ∀ i, i + k < n → -B ≤ Cx f t x k i - Cx f t y k i ∧ Cx f t x k i - Cx f t y k i ≤ B
  | 0, _, i, hi => h i (by omega)
  | k + 1, hk, i, hi => by
    obtain ⟨_, _, _, _, _, _, _, l0, l1⟩ := rowsW_bw hf hT (k := k) (i := i) (by omega) (by omega)
    have h1 := cx_near hf hT h k (by omega) i (by omega)
    have h2 := cx_near hf hT h k (by omega) (i + 1) (by omega)
    have h3 := mean_bnd l0 l1 h1 h2
    unfold Cx
    constructor <;> grind
theorem cx_zero : ∀ (k i : Nat), Cx f t (fun _ => 0) k i = 0
  | 0, i => rfl
  | k + 1, i => by
    unfold Cx
    rw [cx_zero k i, cx_zero k (i + 1)]
    grind
theorem cx_bnd (hf : Wts f n) (hT : Tm t τ) {x : Nat → Rat} {B : Rat} (h : ∀ i, i < n → -B ≤ x i ∧ x i ≤ B) (k : Nat) (hk : k ≤ 8) (i : Nat) (hi : i + k < n) : -B ≤ Cx f t x k i ∧ Cx f t x k i ≤ B := by
  have := cx_near hf hT (x := x) (y := fun _ => 0) (B := B) (fun i hi => by have := h i hi; constructor <;> grind) k hk i hi
  rw [cx_zero] at this
  constructor <;> grind
/-- A level of coordinates is what it is by value, nearly. -/
theorem rows_cx (hf : Wts f n) (hT : Tm t τ) {X : Nat → FV} {x : Nat → Rat} (hX : ∀ i, i < n → Vl .f32 (X i) (x i)) (h : ∀ i, i < n → -39 ≤ x i ∧ x i ≤ 39) : ∀ (k : Nat), k ≤ 8 → ∀ i, i + k < n → ∃ r, Vl .f32 (rowsF X f t k i) r ∧ -((k : Rat) / 25000) ≤ r - Cx f t x k i ∧ r - Cx f t x k i ≤ (k : Rat) / 25000
  | 0, _, i, hi => ⟨x i, hX i (by omega), by
      show -(((0 : Nat) : Rat) / 25000) ≤ x i - x i
      rw [show ((0 : Nat) : Rat) = 0 from rfl]
      grind, by
      show x i - x i ≤ ((0 : Nat) : Rat) / 25000
      rw [show ((0 : Nat) : Rat) = 0 from rfl]
      grind⟩
  | k + 1, hk, i, hi => by
    obtain ⟨x', y', p, q, W, hB, el, l0, l1⟩ := rowsW_bw hf hT (k := k) (i := i) (by omega) (by omega)
    obtain ⟨a, va, a1, a2⟩ := rows_cx hf hT hX h k (by omega) i (by omega)
    obtain ⟨b, vb, b1, b2⟩ := rows_cx hf hT hX h k (by omega) (i + 1) (by omega)
    obtain ⟨ca, ca'⟩ := cx_bnd hf hT h k (by omega) i (by omega)
    obtain ⟨cb, cb'⟩ := cx_bnd hf hT h k (by omega) (i + 1) (by omega)
    have hk8 : (k : Rat) ≤ 8 := by
      have := Rat.natCast_le_natCast.2 (show k ≤ 8 by omega)
      exact this
    have ek : ((k + 1 : Nat) : Rat) = (k : Rat) + 1 := Rat.natCast_add k 1
    rw [ek]
    obtain ⟨z, vz, z1, z2⟩ := blF_vl hB va vb (by constructor <;> grind) (by constructor <;> grind)
    have S0 := hB.S0
    have hS : p + q ≠ 0 := by grind
    have e1 : (p * a + q * b) / (p + q) = (1 - lam f t k i) * a + lam f t k i * b := by
      rw [el]
      have e2 : q / (p + q) * (p + q) = q := Rat.div_mul_cancel hS
      have e3 : (p * a + q * b) / (p + q) * (p + q) = p * a + q * b := Rat.div_mul_cancel hS
      have e4 : ((1 - q / (p + q)) * a + q / (p + q) * b) * (p + q) = p * a + q * b := by
        generalize q / (p + q) = l at e2 ⊢
        grind
      have e5 : ((p * a + q * b) / (p + q)) * (p + q) = ((1 - q / (p + q)) * a + q / (p + q) * b) * (p + q) := by rw [e3, e4]
      have e6 := congrArg (· / (p + q)) e5
      simp only [Rat.mul_div_cancel hS] at e6
      exact e6
    rw [e1] at z1 z2
    have m := mean_bnd l0 l1 (a := a - Cx f t x k i) (b := b - Cx f t x k (i + 1)) ⟨a1, a2⟩ ⟨b1, b2⟩
    refine ⟨z, vz, ?_, ?_⟩
    · unfold Cx
      grind
    · unfold Cx
      grind
end
end Go.Ab
namespace Go.Ab
section
variable {f g : Int → FV} {n : Nat} {t : FV} {τ : Rat}
theorem rowsW_congr (h : ∀ i : Nat, i < n → f i = g i) : ∀ (k i : Nat), i + k < n → rowsW f t k i = rowsW g t k i
  | 0, i, hi => h i (by omega)
  | k + 1, i, hi => by
    have e1 := rowsW_congr h k i (by omega)
    have e2 := rowsW_congr h k (i + 1) (by omega)
    rw [show ((i + 1 : Nat) : Int) = (i : Int) + 1 by omega] at e2
    show rowW (rowsW f t k) t i = rowW (rowsW g t k) t i
    unfold rowW
    rw [e1, e2]
theorem lam_congr (h : ∀ i : Nat, i < n → f i = g i) (k i : Nat) (hi : i + k + 1 < n) : lam f t k i = lam g t k i := by
  have e1 := rowsW_congr (t := t) h k i (by omega)
  have e2 := rowsW_congr (t := t) h k (i + 1) (by omega)
  rw [show ((i + 1 : Nat) : Int) = (i : Int) + 1 by omega] at e2
  unfold lam
  rw [e1, e2]
theorem cx_congr (h : ∀ i : Nat, i < n → f i = g i) {x y : Nat → Rat} (hx : ∀ i, i < n → x i = y i) : ∀ (k i : Nat), i + k < n → Cx f t x k i = Cx g t y k i
  | 0, i, hi => hx i (by omega)
  | k + 1, i, hi => by
    unfold Cx
    rw [cx_congr h hx k i (by omega), cx_congr h hx k (i + 1) (by omega), lam_congr h k i (by omega)]
/-- The weights of a curve that has none of its own. -/
theorem wts_one (n : Nat) : Wts (fun _ => one1) n := fun i _ => ⟨1, one1_vl, by grind, by grind⟩
theorem rowsW_one (hT : Tm t τ) : ∀ (k : Nat) (i : Int), Vl .f32 (rowsW (fun _ => one1) t k i) 1
  | 0, i => one1_vl
  | k + 1, i => by
    have h1 := rowsW_one hT k i
    have h2 := rowsW_one hT k (i + 1)
    have l := hT.lo
    have u := hT.hi
    have b := p24_big
    show Vl .f32 (blW (rowsW (fun _ => one1) t k i) (rowsW (fun _ => one1) t k (i + 1)) t) 1
    obtain ⟨r, vr, rr⟩ := vl_add (one_mul_ex h1 hT.s (fit_24 (by grind) (by grind))) (one_mul_ex h2 hT.v (fit_24 (by grind) (by grind))) (fit_24 (by grind) (by grind))
    rw [show 1 - τ + τ = 1 by grind] at rr
    rw [rnd_rep rr (vl_rep one1_vl)] at vr
    exact vr
theorem lam_one (hT : Tm t τ) (k i : Nat) : lam (fun _ => one1) t k i = τ := by
  have h1 := rowsW_one hT k i
  have h2 := rowsW_one hT k ((i : Int) + 1)
  have l := hT.lo
  have u := hT.hi
  have b := p24_big
  unfold lam lamQ
  rw [(one_mul_ex h1 hT.s (fit_24 (by grind) (by grind))).valR, (one_mul_ex h2 hT.v (fit_24 (by grind) (by grind))).valR, show 1 - τ + τ = 1 by grind]
  grind
/-- Points by value. -/
structure Pv (n : Nat) (P : Nat → CV) (x y : Nat → Rat) (B : Rat) : Prop where
  vx : ∀ i, i < n → Vl .f32 (P i).1 (x i)
  vy : ∀ i, i < n → Vl .f32 (P i).2 (y i)
  bx : ∀ i, i < n → -B ≤ x i ∧ x i ≤ B
  by_ : ∀ i, i < n → -B ≤ y i ∧ y i ≤ B
theorem k_le {k m : Nat} (h : k ≤ m) : (k : Rat) ≤ (m : Rat) := Rat.natCast_le_natCast.2 h
theorem coord_vl (hf : Wts f n) (hT : Tm t τ) {X : Nat → FV} {x : Nat → Rat} (hn : 2 ≤ n ∧ n ≤ 5) (hX : ∀ i, i < n → Vl .f32 (X i) (x i)) (h : ∀ i, i < n → -39 ≤ x i ∧ x i ≤ 39) : ∃ r, Vl .f32 (rowsF X f t (n - 1) 0) r ∧ -(4 / 25000) ≤ r - Cx f t x (n - 1) 0 ∧ r - Cx f t x (n - 1) 0 ≤ 4 / 25000 := by
  obtain ⟨r, vr, r1, r2⟩ := rows_cx hf hT hX h (n - 1) (by omega) 0 (by omega)
  have := k_le (show n - 1 ≤ 4 by omega)
  have e4 : ((4 : Nat) : Rat) = 4 := rfl
  exact ⟨r, vr, by grind, by grind⟩
theorem point_vl (hf : Wts f n) (hT : Tm t τ) {P : Nat → CV} {x y : Nat → Rat} {B : Rat} (hB : B ≤ 39) (hn : 2 ≤ n ∧ n ≤ 5) (h : Pv n P x y B) :
    ∃ u v, Vl .f32 (pointP n P f t).1 u ∧ Vl .f32 (pointP n P f t).2 v ∧ (-(4 / 25000) ≤ u - Cx f t x (n - 1) 0 ∧ u - Cx f t x (n - 1) 0 ≤ 4 / 25000) ∧ (-(4 / 25000) ≤ v - Cx f t y (n - 1) 0 ∧ v - Cx f t y (n - 1) 0 ≤ 4 / 25000) := by
  obtain ⟨u, vu, u1, u2⟩ := coord_vl hf hT hn h.vx (fun i hi => by have := h.bx i hi; constructor <;> grind)
  obtain ⟨v, vv, v1, v2⟩ := coord_vl hf hT hn h.vy (fun i hi => by have := h.by_ i hi; constructor <;> grind)
  refine ⟨u, v, ?_, ?_, ⟨u1, u2⟩, ⟨v1, v2⟩⟩
  · unfold pointP
    rw [rowsP_1]
    exact vu
  · unfold pointP
    rw [rowsP_2]
    exact vv
end
end Go.Ab
namespace Go.Ab
/-- Whether a float is a number. -/
def isNum (x : FV) : Bool := match x with
  | none => false
  | some b => match FloatKind.f32.decode b with
    | .number _ _ _ => true
    | _ => false
theorem isNum_vl {x : FV} (h : isNum x = true) : Vl .f32 x (valR x) := by
  unfold isNum at h
  unfold valR
  split at h
  · cases h
  · rename_i b
    split at h
    · rename_i s m e hd
      refine ⟨b, s, m, e, rfl, hd, ?_⟩
      simp only [hd]
    · cases h
def tmB (t : FV) (τ : Rat) : Bool := isNum t && isNum (fbin .sub .f32 one1 t) && decide (valR t = τ) && decide (valR (fbin .sub .f32 one1 t) = 1 - τ) && decide (0 ≤ τ) && decide (τ ≤ 1)
theorem tm_of {t : FV} {τ : Rat} (h : tmB t τ = true) : Tm t τ := by
  unfold tmB at h
  simp only [Bool.and_eq_true, decide_eq_true_eq] at h
  obtain ⟨⟨⟨⟨⟨h1, h2⟩, h3⟩, h4⟩, h5⟩, h6⟩ := h
  exact ⟨h3 ▸ isNum_vl h1, h4 ▸ isNum_vl h2, h5, h6⟩
theorem half_tm : Tm (fv .f32 1056964608) (1 / 2) := tm_of (by decide +kernel)
def quR (a : Nat → Int) (i : Nat) : Rat := ((a i : Int) : Rat) / 4
theorem int_rat_bd {a : Int} {B : Nat} (h : -(B : Int) ≤ a ∧ a ≤ B) : -(B : Rat) ≤ (a : Rat) ∧ (a : Rat) ≤ (B : Rat) := by
  have h1 := Rat.intCast_le_intCast.2 h.1
  have h2 := Rat.intCast_le_intCast.2 h.2
  rw [Rat.intCast_neg] at h1
  exact ⟨h1, h2⟩
theorem qu_bd {a : Int} (h : -16 ≤ a ∧ a ≤ 16) : -4 ≤ (a : Rat) / 4 ∧ (a : Rat) / 4 ≤ 4 := by
  have := int_rat_bd (B := 16) h
  rw [show ((16 : Nat) : Rat) = 16 from rfl] at this
  constructor <;> grind
theorem qtF_vl {a : Int} (h : -16 ≤ a ∧ a ≤ 16) : Vl .f32 (qtF a) ((a : Rat) / 4) := quarter_vl (by omega)
theorem DpOk.pv {n : Nat} {P : Nat → CV} {a b : Nat → Int} (h : DpOk n P a b) : Pv n P (quR a) (quR b) 4 :=
  ⟨fun i hi => by rw [h.q i hi]; exact qtF_vl (h.a i hi), fun i hi => by rw [h.q i hi]; exact qtF_vl (h.b i hi), fun i hi => qu_bd (h.a i hi), fun i hi => qu_bd (h.b i hi)⟩
theorem rnd_64 {q r : Rat} (h : Rnd .f64 q r) (a : Rat) (h1 : -a ≤ q) (h2 : q ≤ a) : q - (a / 1000000000000 + 1 / 1000000000000) ≤ r ∧ r ≤ q + (a / 1000000000000 + 1 / 1000000000000) := by
  have h3 := h.near a h1 h2
  have e1 : feps .f64 ≤ 1 / 1000000000000 := by decide +kernel
  have e2 : ftiny .f64 ≤ 1 / 1000000000000 := by decide +kernel
  obtain ⟨h4, h5⟩ := h3
  have h6 := Rat.mul_le_mul_of_nonneg_left e1 (show 0 ≤ a by grind)
  constructor <;> grind
theorem fit_64 {a q : Rat} (h1 : -a ≤ q) (h2 : q ≤ a) (h3 : a ≤ 16000000) : Fit .f64 q := by
  have : (16000000 : Rat) < p2 (ftop .f64) := by decide +kernel
  constructor <;> grind
end Go.Ab
namespace Go.Ab
theorem finC_vl {p : CV} {x y : Rat} (hx : Vl .f32 p.1 x) (hy : Vl .f32 p.2 y) : finC p = true := by
  unfold finC finB
  rw [vl_fin hx, vl_fin hy]
  rfl
/-- Near a point. -/
def Nea (p : CV) (x y E : Rat) : Prop := ∃ u v, Vl .f32 p.1 u ∧ Vl .f32 p.2 v ∧ (-E ≤ u - x ∧ u - x ≤ E) ∧ (-E ≤ v - y ∧ v - y ≤ E)
theorem Nea.fin {p : CV} {x y E : Rat} (h : Nea p x y E) : finC p = true := by
  obtain ⟨u, v, vu, vv, _⟩ := h
  exact finC_vl vu vv
theorem Pv.fin {n : Nat} {P : Nat → CV} {x y : Nat → Rat} {B : Rat} (h : Pv n P x y B) : (tabC n P).all finC = true := by
  unfold tabC
  rw [List.all_eq_true]
  intro p hp
  obtain ⟨i, hi, rfl⟩ := List.mem_map.1 hp
  have := List.mem_range.1 hi
  exact finC_vl (h.vx i this) (h.vy i this)
theorem zvl (k : FloatKind) : Vl k (fv k 0) 0 := by cases k <;> exact Vl.c (by decide +kernel)
theorem above_vl {x : FV} {r : Rat} (h : Vl .f32 x r) (h0 : 0 < r) : aboveB x = true := by
  unfold aboveB finB
  rw [vl_fin h, vl_gtr h (zvl .f32), decide_eq_true h0]
  rfl
theorem Wts.above {f : Int → FV} {n : Nat} (h : Wts f n) : (tab n f).all aboveB = true := by
  unfold tab
  rw [List.all_eq_true]
  intro p hp
  obtain ⟨i, hi, rfl⟩ := List.mem_map.1 hp
  obtain ⟨r, vr, h1, _⟩ := h i (List.mem_range.1 hi)
  exact above_vl vr (by grind)
section
variable {p q : CV} {x y z w E F : Rat}
/-- What points are apart. -/
theorem far_vl (h1 : Nea p x y E) (h2 : Nea q z w F) (hE : E ≤ 1 / 10) (hF : F ≤ 1 / 10) (bx : -400 ≤ x ∧ x ≤ 400) (by_ : -400 ≤ y ∧ y ≤ 400) {D : Rat} (hx : -D ≤ x - z ∧ x - z ≤ D) (hy : -D ≤ y - w ∧ y - w ≤ D) (hD : D ≤ 1 / 10) :
    ∃ r, LongOk (subC2 p q) ∧ Vl .f64 (farF p q) r ∧ 0 ≤ r ∧ r ≤ 2 * (D + E + F) + 1 / 1000 := by
  obtain ⟨u, v, vu, vv, u1, v1⟩ := h1
  obtain ⟨s, t, vs, vt, s1, t1⟩ := h2
  obtain ⟨a, va, _, a1, a2⟩ := subR vu vs 1000 (by grind) (by grind) (by decide +kernel)
  obtain ⟨b, vb, _, b1, b2⟩ := subR vv vt 1000 (by grind) (by grind) (by decide +kernel)
  obtain ⟨R, vR, ok, R0, R1⟩ := long_up (x := (subC2 p q).1) (y := (subC2 p q).2) va vb (Le2.of_abs (a := D + E + F + 2 / 10000) (b := D + E + F + 2 / 10000) (by grind) (by grind) (by grind) (by grind)) (by grind)
  exact ⟨R, ok, vl_wide vR, R0, by grind⟩
end
def c01 : FV := fv .f64 4576918229304087675
theorem c01_vl : ∃ C, Vl .f64 c01 C ∧ 99 / 10000 ≤ C ∧ C ≤ 101 / 10000 := by
  refine ⟨(5764607523034235 : Rat) * p2 (-59), Vl.c (by decide +kernel), by decide +kernel, by decide +kernel⟩
theorem cmp_no {x c : FV} {r C : Rat} (hx : Vl .f64 x r) (hc : Vl .f64 c C) (h : r ≤ C) : cmpB .gtr (fcmp .f64 x c) = false := by
  rw [vl_gtr hx hc, decide_eq_false (by grind)]
end Go.Ab
namespace Go.Ab
section
variable {f : Int → FV} {n : Nat} {t : FV} {τ : Rat}
theorem point_nea (hf : Wts f n) (hT : Tm t τ) {P : Nat → CV} {x y : Nat → Rat} {B : Rat} (hB : B ≤ 39) (hn : 2 ≤ n ∧ n ≤ 5) (h : Pv n P x y B) : Nea (pointP n P f t) (Cx f t x (n - 1) 0) (Cx f t y (n - 1) 0) (4 / 25000) := point_vl hf hT hB hn h
theorem Nea.mono {p : CV} {x y E F : Rat} (h : Nea p x y E) (hE : E ≤ F) : Nea p x y F := by
  obtain ⟨u, v, vu, vv, h1, h2⟩ := h
  exact ⟨u, v, vu, vv, by constructor <;> grind, by constructor <;> grind⟩
theorem Nea.to {p : CV} {x y x' y' E D : Rat} (h : Nea p x y E) (hx : -D ≤ x - x' ∧ x - x' ≤ D) (hy : -D ≤ y - y' ∧ y - y' ≤ D) : Nea p x' y' (E + D) := by
  obtain ⟨u, v, vu, vv, h1, h2⟩ := h
  exact ⟨u, v, vu, vv, by constructor <;> grind, by constructor <;> grind⟩
/-- Near points are not far, as the law asks. -/
theorem far_no {p q : CV} {x y E F : Rat} (h1 : Nea p x y E) (h2 : Nea q x y F) (hE : E + F ≤ 1 / 250) (e0 : 0 ≤ E) (f0 : 0 ≤ F) (bx : -400 ≤ x ∧ x ≤ 400) (by_ : -400 ≤ y ∧ y ≤ 400) :
    LongOk (subC2 p q) ∧ cmpB .gtr (fcmp .f64 (farF p q) c01) = false := by
  obtain ⟨r, ok, vr, r0, r1⟩ := far_vl h1 h2 (by grind) (by grind) bx by_ (D := 0) (by constructor <;> grind) (by constructor <;> grind) (by grind)
  obtain ⟨C, vC, C1, C2⟩ := c01_vl
  exact ⟨ok, cmp_no vr vC (by grind)⟩
def one64 : FV := fv .f64 4607182418800017408
theorem one64_vl : Vl .f64 one64 1 := Vl.c (by decide +kernel)
theorem gap_vl {x y : FV} {r s G : Rat} (hx : Vl .f64 x r) (hy : Vl .f64 y s) (h1 : r - s ≤ G) (h2 : s - r ≤ G) (hG : G ≤ 5000) : ∃ p q g, Vl .f64 (fbin .sub .f64 x y) p ∧ Vl .f64 (fbin .sub .f64 y x) q ∧ Vl .f64 (gapM x y) g ∧ g ≤ G + 1 / 10000000 := by
  obtain ⟨p, vp, rp⟩ := vl_sub hx hy (fit_64 (a := 5000) (by grind) (by grind) (by grind))
  obtain ⟨q, vq, rq⟩ := vl_sub hy hx (fit_64 (a := 5000) (by grind) (by grind) (by grind))
  have rp := rnd_64 rp 5000 (by grind) (by grind)
  have rq := rnd_64 rq 5000 (by grind) (by grind)
  obtain ⟨g, vg, _, _, hg⟩ := vl_max vp vq
  refine ⟨p, q, g, vp, vq, vg, ?_⟩
  rcases hg with rfl | rfl <;> grind
end
/-- What r8Gap asks of two numbers, and that it is not above. -/
structure GapOk (x y c : FV) : Prop where
  v1 : ∃ p, Vl .f64 (fbin .sub .f64 x y) p
  v2 : ∃ q, Vl .f64 (fbin .sub .f64 y x) q
  no : cmpB .gtr (fcmp .f64 (gapM x y) c) = false
theorem gap_ok {x y c : FV} {r s G C : Rat} (hx : Vl .f64 x r) (hy : Vl .f64 y s) (h1 : r - s ≤ G) (h2 : s - r ≤ G) (hG : G ≤ 5000) (hc : Vl .f64 c C) (hC : G + 1 / 10000000 ≤ C) : GapOk x y c := by
  obtain ⟨p, q, g, vp, vq, vg, hg⟩ := gap_vl hx hy h1 h2 hG
  exact ⟨⟨p, vp⟩, ⟨q, vq⟩, cmp_no vg hc (by grind)⟩
end Go.Ab
namespace Go.Ab
theorem vl_o1 : Vl .f32 one1 1 := Vl.c (by decide +kernel)
/-- A float that is a number of 64ths. -/
structure Gd (x : FV) (a : Int) : Prop where
  v : Vl .f32 x ((a : Rat) / 64)
  lo : 0 ≤ a
  hi : a ≤ 640
theorem rep_64 (k : Int) (hk : -1000 ≤ k ∧ k ≤ 1000) : Rep .f32 ((k : Rat) / 64) := by
  have hl : FloatKind.f32.format.leastPlace = -149 := by decide
  have hf : (2 : Nat) ^ (FloatKind.f32.format.fractionBits + 1) = 16777216 := by decide
  have h6 : p2 (-6) = 1 / 64 := by decide +kernel
  have e : (k : Rat) / 64 = (k : Rat) * p2 (-6) := by rw [h6]; grind
  rcases Int.le_total 0 k with h | h
  · obtain ⟨m, rfl⟩ := Int.eq_ofNat_of_zero_le h
    exact .inl ⟨m, -6, by omega, by omega, by rw [e]; rfl⟩
  · obtain ⟨m, hm⟩ := Int.eq_ofNat_of_zero_le (show 0 ≤ -k by omega)
    have e1 : -((k : Rat) * p2 (-6)) = ((m : Nat) : Rat) * p2 (-6) := by
      have : ((-k : Int) : Rat) = ((m : Int) : Rat) := by rw [hm]
      rw [Rat.intCast_neg] at this
      rw [← natCast_intCast, ← this]
      grind
    exact .inr ⟨m, -6, by omega, by omega, by rw [e]; exact e1⟩
theorem gd_sub {x y : FV} {a b : Int} (hx : Gd x a) (hy : Gd y b) : Vl .f32 (fbin .sub .f32 x y) (((a - b : Int) : Rat) / 64) := by
  have e : ((a - b : Int) : Rat) / 64 = (a : Rat) / 64 - (b : Rat) / 64 := by
    rw [Rat.intCast_sub]
    grind
  have a1 := Rat.intCast_le_intCast.2 hx.lo
  have a2 := Rat.intCast_le_intCast.2 hx.hi
  have b1 := Rat.intCast_le_intCast.2 hy.lo
  have b2 := Rat.intCast_le_intCast.2 hy.hi
  have z0 : ((0 : Int) : Rat) = 0 := rfl
  have z1 : ((640 : Int) : Rat) = 640 := rfl
  obtain ⟨r, hr, hn, _⟩ := subR hx.v hy.v 20 (by grind) (by grind) (by decide +kernel)
  rw [← e] at hn
  rw [rnd_rep hn (rep_64 (a - b) (by have := hx.lo; have := hx.hi; have := hy.lo; have := hy.hi; omega))] at hr
  exact hr
/-- A share, as a float. -/
def uF (t a b : FV) : FV := fbin .quo .f32 (fbin .sub .f32 t a) (fbin .sub .f32 b a)
theorem uF_vl {t a b : FV} {τ α β : Int} (ht : Gd t τ) (ha : Gd a α) (hb : Gd b β) (h1 : α ≤ τ) (h2 : τ ≤ β) (h : α < β) :
    ∃ r, Vl .f32 (uF t a b) r ∧ 0 ≤ r ∧ r ≤ 1 ∧ -(1 / 8000000) ≤ r - ((τ : Rat) / 64 - (α : Rat) / 64) / ((β : Rat) / 64 - (α : Rat) / 64) ∧ r - ((τ : Rat) / 64 - (α : Rat) / 64) / ((β : Rat) / 64 - (α : Rat) / 64) ≤ 1 / 8000000 := by
  have v1 := gd_sub ht ha
  have v2 := gd_sub hb ha
  have c1 := Rat.intCast_le_intCast.2 h1
  have c2 := Rat.intCast_le_intCast.2 h2
  have c3 := Rat.intCast_lt_intCast.2 h
  have e1 : ((τ - α : Int) : Rat) / 64 = (τ : Rat) / 64 - (α : Rat) / 64 := by rw [Rat.intCast_sub]; grind
  have e2 : ((β - α : Int) : Rat) / 64 = (β : Rat) / 64 - (α : Rat) / 64 := by rw [Rat.intCast_sub]; grind
  rw [e1] at v1
  rw [e2] at v2
  have hd : 0 < (β : Rat) / 64 - (α : Rat) / 64 := by grind
  have hne : (β : Rat) / 64 - (α : Rat) / 64 ≠ 0 := fun e => by rw [e] at hd; exact absurd hd (by decide)
  have hi := Rat.le_of_lt (Rat.inv_pos.2 hd)
  have q1 := Rat.mul_nonneg (show (0 : Rat) ≤ (τ : Rat) / 64 - (α : Rat) / 64 by grind) hi
  have q2 := Rat.mul_nonneg (show (0 : Rat) ≤ (β : Rat) / 64 - (τ : Rat) / 64 by grind) hi
  have q3 := Rat.mul_inv_cancel _ hne
  have b0 : 0 ≤ ((τ : Rat) / 64 - (α : Rat) / 64) / ((β : Rat) / 64 - (α : Rat) / 64) := by rw [Rat.div_def]; exact q1
  have b1 : ((τ : Rat) / 64 - (α : Rat) / 64) / ((β : Rat) / 64 - (α : Rat) / 64) ≤ 1 := by
    rw [Rat.div_def]
    generalize ((β : Rat) / 64 - (α : Rat) / 64)⁻¹ = D at *
    grind
  obtain ⟨r, hr, hn, n1, n2⟩ := divR v1 v2 hne 1 (by grind) b1 (by decide +kernel)
  obtain ⟨m1, m2⟩ := rnd_btw hn (rep_zero .f32) (vl_rep vl_o1) b0 b1
  refine ⟨r, hr, m1, m2, ?_, ?_⟩ <;> grind
/-- Between two numbers, by a share. -/
def btF (a b u : FV) : FV := fbin .add .f32 (fbin .mul .f32 a (fbin .sub .f32 one1 u)) (fbin .mul .f32 b u)
theorem prod_in {x r B : Rat} (hx : -B ≤ x ∧ x ≤ B) (h0 : 0 ≤ r) (h1 : r ≤ 1) (hB : 0 ≤ B) : -B ≤ x * r ∧ x * r ≤ B := by
  have a := Rat.mul_nonneg (show 0 ≤ B - x by grind) h0
  have b := Rat.mul_nonneg (show 0 ≤ B + x by grind) h0
  have c := Rat.mul_nonneg hB (show 0 ≤ 1 - r by grind)
  constructor <;> grind
theorem mix_in {x y r A B : Rat} (hx : A ≤ x ∧ x ≤ B) (hy : A ≤ y ∧ y ≤ B) (h0 : 0 ≤ r) (h1 : r ≤ 1) : A ≤ (1 - r) * x + r * y ∧ (1 - r) * x + r * y ≤ B := by
  have a := Rat.mul_nonneg (show 0 ≤ 1 - r by grind) (show 0 ≤ x - A by grind)
  have b := Rat.mul_nonneg h0 (show 0 ≤ y - A by grind)
  have c := Rat.mul_nonneg (show 0 ≤ 1 - r by grind) (show 0 ≤ B - x by grind)
  have d := Rat.mul_nonneg h0 (show 0 ≤ B - y by grind)
  constructor <;> grind
theorem bt_vl {a b u : FV} {p q r : Rat} (ha : Vl .f32 a p) (hb : Vl .f32 b q) (hu : Vl .f32 u r) (hp : -12 ≤ p ∧ p ≤ 12) (hq : -12 ≤ q ∧ q ≤ 12) (h0 : 0 ≤ r) (h1 : r ≤ 1) :
    ∃ s, Vl .f32 (btF a b u) s ∧ -(1 / 100000) ≤ s - ((1 - r) * p + r * q) ∧ s - ((1 - r) * p + r * q) ≤ 1 / 100000 := by
  obtain ⟨w, vw, _, w1, w2⟩ := subR vl_o1 hu 1 (by grind) (by grind) (by decide +kernel)
  have k1 : 0 ≤ 1 - r := by grind
  have pw := prod_in hp k1 (by grind) (by decide +kernel)
  have qr := prod_in hq h0 h1 (by decide +kernel)
  have eb : -(13 / 8000000) ≤ p * w - p * (1 - r) ∧ p * w - p * (1 - r) ≤ 13 / 8000000 := by
    have x1 := Rat.mul_nonneg (show (0 : Rat) ≤ 12 - p by grind) (show (0 : Rat) ≤ 1 / 8388608 + 1 / 100000000000000000000 - (w - (1 - r)) by grind)
    have x2 := Rat.mul_nonneg (show (0 : Rat) ≤ 12 + p by grind) (show (0 : Rat) ≤ 1 / 8388608 + 1 / 100000000000000000000 - (w - (1 - r)) by grind)
    have x3 := Rat.mul_nonneg (show (0 : Rat) ≤ 12 - p by grind) (show (0 : Rat) ≤ 1 / 8388608 + 1 / 100000000000000000000 + (w - (1 - r)) by grind)
    have x4 := Rat.mul_nonneg (show (0 : Rat) ≤ 12 + p by grind) (show (0 : Rat) ≤ 1 / 8388608 + 1 / 100000000000000000000 + (w - (1 - r)) by grind)
    constructor <;> grind
  obtain ⟨m, vm, _, m1, m2⟩ := mulR ha vw 13 (by grind) (by grind) (by decide +kernel)
  obtain ⟨n, vn, _, n1, n2⟩ := mulR hb hu 13 (by grind) (by grind) (by decide +kernel)
  obtain ⟨s, vs, _, s1, s2⟩ := addR vm vn 27 (by grind) (by grind) (by decide +kernel)
  refine ⟨s, vs, ?_, ?_⟩ <;> grind
/-- A number near another. -/
def NeaF (f : FV) (x E : Rat) : Prop := ∃ u, Vl .f32 f u ∧ -E ≤ u - x ∧ u - x ≤ E
theorem bt_near {a b u : FV} {x y υ r E : Rat} (ha : NeaF a x E) (hb : NeaF b y E) (hu : Vl .f32 u r) (h0 : 0 ≤ r) (h1 : r ≤ 1) (hr : -(1 / 8000000) ≤ r - υ ∧ r - υ ≤ 1 / 8000000) (hx : -10 ≤ x ∧ x ≤ 10) (hy : -10 ≤ y ∧ y ≤ 10) (hE : 0 ≤ E ∧ E ≤ 1) :
    NeaF (btF a b u) ((1 - υ) * x + υ * y) (E + 1 / 50000) := by
  obtain ⟨p, vp, p1, p2⟩ := ha
  obtain ⟨q, vq, q1, q2⟩ := hb
  obtain ⟨s, vs, s1, s2⟩ := bt_vl vp vq hu (by grind) (by grind) h0 h1
  have mx := mix_in (x := p - x) (y := q - y) (A := -E) (B := E) ⟨p1, p2⟩ ⟨q1, q2⟩ h0 h1
  have x1 := Rat.mul_nonneg (show (0 : Rat) ≤ 20 - (y - x) by grind) (show (0 : Rat) ≤ 1 / 8000000 - (r - υ) by grind)
  have x2 := Rat.mul_nonneg (show (0 : Rat) ≤ 20 + (y - x) by grind) (show (0 : Rat) ≤ 1 / 8000000 - (r - υ) by grind)
  have x3 := Rat.mul_nonneg (show (0 : Rat) ≤ 20 - (y - x) by grind) (show (0 : Rat) ≤ 1 / 8000000 + (r - υ) by grind)
  have x4 := Rat.mul_nonneg (show (0 : Rat) ≤ 20 + (y - x) by grind) (show (0 : Rat) ≤ 1 / 8000000 + (r - υ) by grind)
  have e : (1 - r) * p + r * q - ((1 - υ) * x + υ * y) = (1 - r) * (p - x) + r * (q - y) + (r - υ) * (y - x) := by grind
  refine ⟨s, vs, ?_, ?_⟩ <;> grind
/-- Between two points, by a share. -/
def btC (p q : CV) (u : FV) : CV := (btF p.1 q.1 u, btF p.2 q.2 u)
theorem nea_parts {p : CV} {x y E : Rat} : Nea p x y E ↔ NeaF p.1 x E ∧ NeaF p.2 y E :=
  ⟨fun ⟨u, v, vu, vv, h1, h2⟩ => ⟨⟨u, vu, h1⟩, ⟨v, vv, h2⟩⟩, fun ⟨⟨u, vu, h1⟩, ⟨v, vv, h2⟩⟩ => ⟨u, v, vu, vv, h1, h2⟩⟩
/-- Knots: floats, numbers of 64ths that rise. -/
structure Kn (Kf : Int → FV) (a : Int → Int) (lo hi : Int) : Prop where
  g : ∀ i, lo ≤ i → i ≤ hi → Gd (Kf i) (a i)
  up : ∀ i j, i ≤ j → a i ≤ a j
/-- The knots by value. -/
def kR (a : Int → Int) (i : Int) : Rat := (a i : Rat) / 64
theorem kR_le {a : Int → Int} {i j : Int} (h : a i ≤ a j) : kR a i ≤ kR a j := by
  have := Rat.intCast_le_intCast.2 h
  unfold kR
  grind
theorem kR_lt {a : Int → Int} {i j : Int} (h : a i < a j) : kR a i < kR a j := by
  have := Rat.intCast_lt_intCast.2 h
  unfold kR
  grind
theorem Kn.mono {Kf : Int → FV} {a : Int → Int} {lo hi : Int} (h : Kn Kf a lo hi) : MonoK (kR a) := fun i j hij => kR_le (h.up i j hij)
/-- Corners cut once, as floats. -/
def dBF (Kf : Int → FV) (m : Int) (t : FV) (P : Int → CV) (j : Int) : CV := btC (P (j - 1)) (P j) (uF t (Kf j) (Kf (j + m)))
def deBF (Kf : Int → FV) (t : FV) : Nat → (Int → CV) → Int → CV
  | 0, P => P
  | m + 1, P => deBF Kf t m (dBF Kf ((m : Int) + 1) t P)
section
variable {Kf : Int → FV} {a : Int → Int} {lo hi : Int} {t : FV} {τ : Int}
theorem dB_nea (hK : Kn Kf a lo hi) (ht : Gd t τ) {P : Int → CV} {x y : Int → Rat} {E : Rat} {m j : Int} (hlo : lo ≤ j) (hhi : j + m ≤ hi) (hm : 0 ≤ m) (h1 : a j ≤ τ) (h2 : τ ≤ a (j + m)) (h : a j < a (j + m))
    (p0 : Nea (P (j - 1)) (x (j - 1)) (y (j - 1)) E) (p1 : Nea (P j) (x j) (y j) E) (hx0 : -10 ≤ x (j - 1) ∧ x (j - 1) ≤ 10) (hx1 : -10 ≤ x j ∧ x j ≤ 10) (hy0 : -10 ≤ y (j - 1) ∧ y (j - 1) ≤ 10) (hy1 : -10 ≤ y j ∧ y j ≤ 10) (hE : 0 ≤ E ∧ E ≤ 1) :
    Nea (dBF Kf m t P j) (dBR (kR a) m ((τ : Rat) / 64) x j) (dBR (kR a) m ((τ : Rat) / 64) y j) (E + 1 / 50000) := by
  obtain ⟨r, vr, r0, r1, r2, r3⟩ := uF_vl ht (hK.g j hlo (by omega)) (hK.g (j + m) (by omega) hhi) h1 h2 h
  obtain ⟨a1, a2⟩ := nea_parts.1 p0
  obtain ⟨b1, b2⟩ := nea_parts.1 p1
  exact nea_parts.2 ⟨bt_near a1 b1 vr r0 r1 ⟨r2, r3⟩ hx0 hx1 hE, bt_near a2 b2 vr r0 r1 ⟨r2, r3⟩ hy0 hy1 hE⟩
theorem dBR_in {x : Int → Rat} {m j : Int} {A B : Rat} (h1 : a j ≤ τ) (h2 : τ ≤ a (j + m)) (h : a j < a (j + m)) (hx0 : A ≤ x (j - 1) ∧ x (j - 1) ≤ B) (hx1 : A ≤ x j ∧ x j ≤ B) : A ≤ dBR (kR a) m ((τ : Rat) / 64) x j ∧ dBR (kR a) m ((τ : Rat) / 64) x j ≤ B := by
  have q1 : kR a j ≤ (τ : Rat) / 64 := by have := Rat.intCast_le_intCast.2 h1; unfold kR; grind
  have q2 : (τ : Rat) / 64 ≤ kR a (j + m) := by have := Rat.intCast_le_intCast.2 h2; unfold kR; grind
  obtain ⟨u0, u1⟩ := uuR_unit q1 q2 (kR_lt h)
  exact mix_in hx0 hx1 u0 u1
/-- Corners, cut as floats, are near the point. -/
theorem deB_nea (hK : Kn Kf a lo hi) (ht : Gd t τ) {k : Int} (h1 : a k ≤ τ) (h2 : τ ≤ a (k + 1)) (h : a k < a (k + 1)) :
    ∀ (m : Nat) (P : Int → CV) (x y : Int → Rat) (E : Rat), lo ≤ k + 1 - m → k + m ≤ hi → (∀ i, k - m ≤ i → i ≤ k → Nea (P i) (x i) (y i) E ∧ (-10 ≤ x i ∧ x i ≤ 10) ∧ -10 ≤ y i ∧ y i ≤ 10) → 0 ≤ E → E + (m : Rat) * (1 / 50000) ≤ 1 →
      Nea (deBF Kf t m P k) (deBR (kR a) ((τ : Rat) / 64) m x k) (deBR (kR a) ((τ : Rat) / 64) m y k) (E + (m : Rat) * (1 / 50000))
  | 0, P, x, y, E, _, _, hP, _, _ => by
    rw [show E + ((0 : Nat) : Rat) * (1 / 50000) = E by rw [show ((0 : Nat) : Rat) = 0 from rfl]; grind]
    exact (hP k (by omega) (by omega)).1
  | m + 1, P, x, y, E, hlo, hhi, hP, e0, e1 => by
    have em : ((m + 1 : Nat) : Rat) = (m : Rat) + 1 := Rat.natCast_add m 1
    have m0 : (0 : Rat) ≤ (m : Rat) := Rat.natCast_nonneg
    rw [em] at e1 ⊢
    have hs : ∀ i, k - m ≤ i → i ≤ k → a i ≤ τ ∧ τ ≤ a (i + ((m : Int) + 1)) ∧ a i < a (i + ((m : Int) + 1)) := fun i b1 b2 => by
      have x1 := hK.up i k b2
      have x2 := hK.up (k + 1) (i + ((m : Int) + 1)) (by omega)
      omega
    have ih := deB_nea hK ht h1 h2 h m (dBF Kf ((m : Int) + 1) t P) (dBR (kR a) ((m : Int) + 1) ((τ : Rat) / 64) x) (dBR (kR a) ((m : Int) + 1) ((τ : Rat) / 64) y) (E + 1 / 50000) (by omega) (by omega) (fun i b1 b2 => by
      obtain ⟨s1, s2, s3⟩ := hs i b1 b2
      obtain ⟨n0, x0, y0⟩ := hP (i - 1) (by omega) (by omega)
      obtain ⟨n1, x1, y1⟩ := hP i (by omega) (by omega)
      exact ⟨dB_nea hK ht (by omega) (by omega) (by omega) s1 s2 s3 n0 n1 x0 x1 y0 y1 ⟨e0, by grind⟩, dBR_in s1 s2 s3 x0 x1, dBR_in s1 s2 s3 y0 y1⟩) (by grind) (by grind)
    rw [show E + ((m : Rat) + 1) * (1 / 50000) = E + 1 / 50000 + (m : Rat) * (1 / 50000) by grind]
    exact ih
end
theorem uuR_zero {K : Int → Rat} {m : Int} {x : Rat} {j : Int} (h : K j = x) : uuR K m x j = 0 := by
  unfold uuR
  rw [h, Rat.sub_self, Rat.div_def, Rat.zero_mul]
theorem uuR_one {K : Int → Rat} {m : Int} {x : Rat} {j : Int} (h : K (j + m) = x) (hn : K j ≠ x) : uuR K m x j = 1 := by
  unfold uuR
  have : x - K j ≠ 0 := fun e => hn (by grind)
  rw [h, Rat.div_def]
  exact Rat.mul_inv_cancel _ this
/-- Where all knots ahead are the time, it is the first of the points. -/
theorem deBR_first {K : Int → Rat} {t : Rat} {k : Int} : ∀ (m : Nat) (p : Int → Rat), (∀ i, k - m < i → i ≤ k → K i = t) → deBR K t m p k = p (k - m)
  | 0, p, _ => by rw [show k - ((0 : Nat) : Int) = k by omega]; rfl
  | m + 1, p, h => by
    show deBR K t m (dBR K ((m : Int) + 1) t p) k = _
    rw [deBR_first m _ fun i b1 b2 => h i (by omega) b2]
    unfold dBR
    rw [uuR_zero (h (k - m) (by omega) (by omega)), show k - (m : Int) - 1 = k - ((m + 1 : Nat) : Int) by omega]
    grind
/-- Where all knots behind are the time, it is the last. -/
theorem deBR_last {K : Int → Rat} {t : Rat} {k : Int} (hk : K k < t) (hm : MonoK K) : ∀ (m : Nat) (p : Int → Rat), (∀ i, k < i → i ≤ k + m → K i = t) → deBR K t m p k = p k
  | 0, p, _ => rfl
  | m + 1, p, h => by
    show deBR K t m (dBR K ((m : Int) + 1) t p) k = _
    rw [deBR_last hk hm m _ fun i b1 b2 => h i b1 (by omega)]
    unfold dBR
    rw [uuR_one (h (k + ((m : Int) + 1)) (by omega) (by omega)) (fun e => by rw [e] at hk; grind)]
    grind
end Go.Ab
namespace Go.Ab
/-- The span of a time. -/
def spanN (a : Int → Int) (d : Nat) (τ : Int) : Nat → Nat
  | 0 => 0
  | k + 1 => if d < k + 1 ∧ τ < a ((k + 1 : Nat) : Int) then spanN a d τ k else k + 1
structure SpanI (a : Int → Int) (d n : Nat) (τ : Int) (k : Nat) : Prop where
  lo : d ≤ k
  hi : k + 1 ≤ n
  le : a k ≤ τ
  lt : k + 1 = n ∨ τ < a ((k : Int) + 1)
theorem spanN_is {a : Int → Int} {d : Nat} {τ : Int} (h0 : a d ≤ τ) (n : Nat) : ∀ k, d ≤ k → (k + 1 = n ∨ (k + 1 < n ∧ τ < a ((k : Int) + 1))) → SpanI a d n τ (spanN a d τ k)
  | 0, hk, hn => by
    obtain rfl : d = 0 := by omega
    exact ⟨Nat.le_refl _, by show 0 + 1 ≤ n; omega, h0, hn.imp id (fun h => h.2)⟩
  | k + 1, hk, hn => by
    unfold spanN
    by_cases h : d < k + 1 ∧ τ < a ((k + 1 : Nat) : Int)
    · rw [if_pos h]
      exact spanN_is h0 n k (by omega) (.inr ⟨by omega, h.2⟩)
    · rw [if_neg h]
      refine ⟨hk, by omega, ?_, ?_⟩
      · by_cases h2 : d < k + 1
        · have : ¬ τ < a ((k + 1 : Nat) : Int) := fun e => h ⟨h2, e⟩
          omega
        · obtain rfl : d = k + 1 := by omega
          exact h0
      · rcases hn with h3 | h3
        · exact .inl h3
        · exact .inr h3.2
theorem SpanI.unique {a : Int → Int} {d n : Nat} {τ : Int} {k l : Nat} (hm : ∀ i j, i ≤ j → a i ≤ a j) (h : SpanI a d n τ k) (h' : SpanI a d n τ l) : k = l := by
  obtain ⟨h1, h2, h3, h4⟩ := h
  obtain ⟨l1, l2, l3, l4⟩ := h'
  rcases Nat.lt_trichotomy k l with c | c | c
  · exfalso
    rcases h4 with h4 | h4
    · omega
    · have := hm ((k : Int) + 1) l (by omega)
      omega
  · exact c
  · exfalso
    rcases l4 with l4 | l4
    · omega
    · have := hm ((l : Int) + 1) k (by omega)
      omega
/-- A spline as floats, beside its plain numbers. -/
structure SpV (d n : Nat) (Kf : Int → FV) (P : Int → CV) (a : Int → Int) (x y : Int → Rat) (E : Rat) : Prop where
  d1 : 1 ≤ d
  n1 : d + 1 ≤ n
  kn : Kn Kf a 0 ((n : Int) + d)
  first : ∀ i : Int, i ≤ d → a i = a 0
  last : ∀ i : Int, n ≤ i → a i = a n
  lt : a ((n : Int) - 1) < a n
  gt : a d < a ((d : Int) + 1)
  nea : ∀ i : Int, 0 ≤ i → i < n → Nea (P i) (x i) (y i) E ∧ (-10 ≤ x i ∧ x i ≤ 10) ∧ -10 ≤ y i ∧ y i ≤ 10
  e0 : 0 ≤ E
  e1 : E ≤ 1 / 2
/-- The list of knots with one more. -/
def insA (a : Int → Int) (k0 : Int) (υ : Int) (i : Int) : Int := if i ≤ k0 then a i else if i = k0 + 1 then υ else a (i - 1)
def insKF (Kf : Int → FV) (k0 : Int) (u : FV) (i : Int) : FV := if i ≤ k0 then Kf i else if i = k0 + 1 then u else Kf (i - 1)
def insPF (Kf : Int → FV) (k0 : Int) (u : FV) (m : Int) (P : Int → CV) (j : Int) : CV := if j ≤ k0 - m then P j else if j ≤ k0 then dBF Kf m u P j else P (j - 1)
theorem kR_ins (a : Int → Int) (k0 υ : Int) : kR (insA a k0 υ) = insK (kR a) k0 ((υ : Rat) / 64) := funext fun i => by
  unfold kR insA insK
  split
  · rfl
  · split <;> rfl
theorem insA_lo {a : Int → Int} {k0 υ i : Int} (h : i ≤ k0) : insA a k0 υ i = a i := if_pos h
theorem insA_at {a : Int → Int} {k0 υ i : Int} (h : i = k0 + 1) : insA a k0 υ i = υ := by
  unfold insA
  rw [if_neg (by omega), if_pos h]
theorem insA_hi {a : Int → Int} {k0 υ i : Int} (h : k0 + 2 ≤ i) : insA a k0 υ i = a (i - 1) := by
  unfold insA
  rw [if_neg (by omega), if_neg (by omega)]
theorem insA_up {a : Int → Int} {k0 υ : Int} (hm : ∀ i j, i ≤ j → a i ≤ a j) (h1 : a k0 ≤ υ) (h2 : υ ≤ a (k0 + 1)) : ∀ i j, i ≤ j → insA a k0 υ i ≤ insA a k0 υ j := fun i j hij => by
  by_cases c1 : i ≤ k0
  · rw [insA_lo c1]
    by_cases c2 : j ≤ k0
    · rw [insA_lo c2]; exact hm i j hij
    · by_cases c3 : j = k0 + 1
      · rw [insA_at c3]; have := hm i k0 c1; omega
      · rw [insA_hi (by omega)]; exact hm i (j - 1) (by omega)
  · by_cases c2 : i = k0 + 1
    · rw [insA_at c2]
      by_cases c3 : j = k0 + 1
      · rw [insA_at c3]; exact Int.le_refl _
      · rw [insA_hi (by omega)]; have := hm (k0 + 1) (j - 1) (by omega); omega
    · rw [insA_hi (by omega), insA_hi (by omega)]
      exact hm (i - 1) (j - 1) (by omega)
section
variable {d n : Nat} {Kf : Int → FV} {P : Int → CV} {a : Int → Int} {x y : Int → Rat} {E : Rat}
/-- Where a time of a spline lies. -/
theorem SpV.span (h : SpV d n Kf P a x y E) {τ : Int} (h0 : a 0 ≤ τ) : SpanI a d n τ (spanN a d τ (n - 1)) :=
  spanN_is (by rw [h.first d (Int.le_refl _)]; exact h0) n (n - 1) (by have := h.n1; omega) (.inl (by have := h.n1; omega))
theorem SpanI.strict {τ : Int} {k : Nat} (h : SpV d n Kf P a x y E) (hs : SpanI a d n τ k) : a k < a ((k : Int) + 1) := by
  rcases hs.lt with e | e
  · have e1 : (k : Int) = (n : Int) - 1 := by omega
    have e2 : (k : Int) + 1 = n := by omega
    rw [e2, e1]
    exact h.lt
  · have := hs.le
    omega
/-- A point at a time is near what it is by value. -/
theorem SpV.at (h : SpV d n Kf P a x y E) {t : FV} {τ : Int} (ht : Gd t τ) (h0 : a 0 ≤ τ) (h1 : τ ≤ a n) (hd : d ≤ 5) {k : Nat} (hs : SpanI a d n τ k) :
    Nea (deBF Kf t d P k) (deBR (kR a) ((τ : Rat) / 64) d x k) (deBR (kR a) ((τ : Rat) / 64) d y k) (E + (d : Rat) * (1 / 50000)) := by
  have h2 : τ ≤ a ((k : Int) + 1) := by
    rcases hs.lt with e | e
    · have e2 : (k : Int) + 1 = n := by omega
      rw [e2]; exact h1
    · omega
  have hd5 : (d : Rat) ≤ 5 := Rat.natCast_le_natCast.2 hd
  have e0 := h.e0
  have e1 := h.e1
  have s1 := hs.lo
  have s2 := hs.hi
  exact deB_nea h.kn ht hs.le h2 (hs.strict h) d P x y E (by omega) (by omega) (fun i b1 b2 => h.nea i (by omega) (by omega)) e0 (by grind)
/-- One knot more. -/
theorem SpV.put (h : SpV d n Kf P a x y E) {u : FV} {υ : Int} (hu : Gd u υ) (h0 : a 0 < υ) (h1 : υ < a n) {k0 : Nat} (hs : SpanI a d n υ k0) (he : E + 1 / 50000 ≤ 1 / 2) :
    SpV d (n + 1) (insKF Kf k0 u) (insPF Kf k0 u d P) (insA a k0 υ) (insP (kR a) k0 ((υ : Rat) / 64) d x) (insP (kR a) k0 ((υ : Rat) / 64) d y) (E + 1 / 50000) := by
  have hd1 := h.d1
  have hn1 := h.n1
  have s1 := hs.lo
  have s2 := hs.hi
  have hst := hs.strict h
  have h2 : υ < a ((k0 : Int) + 1) := by
    rcases hs.lt with e | e
    · have e2 : (k0 : Int) + 1 = n := by omega
      rw [e2]; exact h1
    · exact e
  have hup := h.kn.up
  have e0 := h.e0
  refine ⟨hd1, by omega, ⟨fun i b1 b2 => ?_, insA_up hup hs.le (Int.le_of_lt h2)⟩, fun i b => ?_, fun i b => ?_, ?_, ?_, fun i b1 b2 => ?_, by grind, he⟩
  · unfold insKF insA
    by_cases c1 : i ≤ k0
    · rw [if_pos c1, if_pos c1]; exact h.kn.g i b1 (by omega)
    · rw [if_neg c1, if_neg c1]
      by_cases c2 : i = (k0 : Int) + 1
      · rw [if_pos c2, if_pos c2]; exact hu
      · rw [if_neg c2, if_neg c2]; exact h.kn.g (i - 1) (by omega) (by omega)
  · rw [insA_lo (by omega), insA_lo (by omega)]
    exact h.first i b
  · rw [insA_hi (by omega), insA_hi (by omega), show ((n + 1 : Nat) : Int) - 1 = n by omega]
    exact h.last (i - 1) (by omega)
  · rw [show ((n + 1 : Nat) : Int) - 1 = n by omega, insA_hi (i := ((n + 1 : Nat) : Int)) (by omega), show ((n + 1 : Nat) : Int) - 1 = n by omega]
    by_cases c : (k0 : Int) + 1 = n
    · rw [insA_at c.symm]; exact h1
    · rw [insA_hi (by omega)]; exact h.lt
  · have hf := h.first d (Int.le_refl _)
    rw [insA_lo (i := (d : Int)) (by omega)]
    by_cases c : (d : Int) = k0
    · rw [insA_at (by omega)]; omega
    · rw [insA_lo (by omega)]; exact h.gt
  · unfold insPF insP
    by_cases c1 : i ≤ (k0 : Int) - d
    · rw [if_pos c1, if_pos c1, if_pos c1]
      obtain ⟨n0, x0, y0⟩ := h.nea i b1 (by omega)
      refine ⟨?_, x0, y0⟩
      obtain ⟨p, q, vp, vq, k1, k2⟩ := n0
      exact ⟨p, q, vp, vq, by constructor <;> grind, by constructor <;> grind⟩
    · rw [if_neg c1, if_neg c1, if_neg c1]
      by_cases c2 : i ≤ k0
      · rw [if_pos c2, if_pos c2, if_pos c2]
        obtain ⟨n0, x0, y0⟩ := h.nea (i - 1) (by omega) (by omega)
        obtain ⟨n1, x1, y1⟩ := h.nea i b1 (by omega)
        have g1 := hup i k0 c2
        have g2 := hup ((k0 : Int) + 1) (i + d) (by omega)
        have g3 := hs.le
        exact ⟨dB_nea h.kn hu b1 (by omega) (by omega) (by omega) (by omega) (by omega) n0 n1 x0 x1 y0 y1 ⟨e0, by grind⟩,
          dBR_in (by omega) (by omega) (by omega) x0 x1, dBR_in (by omega) (by omega) (by omega) y0 y1⟩
      · rw [if_neg c2, if_neg c2, if_neg c2]
        obtain ⟨n0, x0, y0⟩ := h.nea (i - 1) (by omega) (by omega)
        refine ⟨?_, x0, y0⟩
        obtain ⟨p, q, vp, vq, k1, k2⟩ := n0
        exact ⟨p, q, vp, vq, by constructor <;> grind, by constructor <;> grind⟩
/-- The span behind a knot put in. -/
theorem SpanI.put {τ υ : Int} {k k0 : Nat} (h : SpV d n Kf P a x y E) (h0 : SpanI a d n υ k0) (hs : SpanI a d n τ k) (h1 : υ < a n) : SpanI (insA a k0 υ) d (n + 1) τ (if τ < υ then k else k + 1) := by
  have hup := h.kn.up
  obtain ⟨s1, s2, s3, s4⟩ := h0
  obtain ⟨k1, k2, k3, k4⟩ := hs
  have h2 : υ < a ((k0 : Int) + 1) := by
    rcases s4 with e | e
    · have e2 : (k0 : Int) + 1 = n := by omega
      rw [e2]; exact h1
    · exact e
  by_cases c : τ < υ
  · rw [if_pos c]
    have hk : k ≤ k0 := by
      false_or_by_contra
      have := hup ((k0 : Int) + 1) k (by omega)
      omega
    refine ⟨k1, by omega, ?_, .inr ?_⟩
    · rw [insA_lo (by omega)]; exact k3
    · by_cases c2 : k = k0
      · rw [insA_at (by omega)]; exact c
      · rw [insA_lo (by omega)]
        rcases k4 with e | e
        · omega
        · exact e
  · rw [if_neg c]
    have hk : k0 ≤ k := by
      false_or_by_contra
      rcases k4 with e | e
      · omega
      · have := hup ((k : Int) + 1) k0 (by omega)
        omega
    refine ⟨by omega, by omega, ?_, ?_⟩
    · by_cases c2 : k = k0
      · rw [insA_at (by omega)]; omega
      · rw [insA_hi (by omega), show ((k + 1 : Nat) : Int) - 1 = k by omega]; exact k3
    · rcases k4 with e | e
      · exact .inl (by omega)
      · right
        rw [insA_hi (by omega), show ((k + 1 : Nat) : Int) + 1 - 1 = (k : Int) + 1 by omega]
        exact e
/-- The points by value are the same. -/
theorem put_same (h : SpV d n Kf P a x y E) {τ υ : Int} {k k0 : Nat} (h0 : SpanI a d n υ k0) (hs : SpanI a d n τ k) (hv : a 0 < υ) (h1 : υ < a n) (z : Int → Rat) {k' : Nat} (hs' : SpanI (insA a k0 υ) d (n + 1) τ k') :
    deBR (kR (insA a k0 υ)) ((τ : Rat) / 64) d (insP (kR a) k0 ((υ : Rat) / 64) d z) k' = deBR (kR a) ((τ : Rat) / 64) d z k := by
  have hup := h.kn.up
  have hP := h0.put h hs h1
  have hk' := hs'.unique (insA_up hup h0.le (by
    rcases h0.lt with e | e
    · have e2 : (k0 : Int) + 1 = n := by omega
      rw [e2]; omega
    · omega)) hP
  have h2 : υ < a ((k0 : Int) + 1) := by
    rcases h0.lt with e | e
    · have e2 : (k0 : Int) + 1 = n := by omega
      rw [e2]; exact h1
    · exact e
  have q1 : kR a k0 ≤ (υ : Rat) / 64 := by have := Rat.intCast_le_intCast.2 h0.le; unfold kR; grind
  have q2 : (υ : Rat) / 64 < kR a ((k0 : Int) + 1) := by have := Rat.intCast_lt_intCast.2 h2; unfold kR; grind
  have hlt : insA a k0 υ k' < insA a k0 υ ((k' : Int) + 1) := by
    rcases hs'.lt with e | e
    · have s2 := h0.hi
      have e1 : (k' : Int) = n := by omega
      have e3 := h.lt
      rw [e1, insA_hi (i := (n : Int) + 1) (by omega), show (n : Int) + 1 - 1 = n by omega]
      by_cases c : (k0 : Int) + 1 = n
      · rw [insA_at c.symm]; exact h1
      · rw [insA_hi (by omega)]; exact e3
    · have := hs'.le
      omega
  have hn := kR_lt hlt
  rw [kR_ins] at hn ⊢
  subst hk'
  have kk : k ≤ k0 ∨ k0 ≤ k := by omega
  by_cases c : τ < υ
  · have hk : k ≤ k0 := by
      false_or_by_contra
      have := hup ((k0 : Int) + 1) k (by omega)
      have := hs.le
      omega
    rw [if_pos c] at hn ⊢
    exact ins_low h.kn.mono q1 q2 hn d (by omega)
  · have hk : k0 ≤ k := by
      false_or_by_contra
      have hh := h0.hi
      rcases hs.lt with e | e
      · omega
      · have := hup ((k : Int) + 1) k0 (by omega)
        have := h0.le
        omega
    rw [if_neg c] at hn ⊢
    rw [ins_high h.kn.mono q1 q2 hn d (by omega), show ((k + 1 : Nat) : Int) - 1 = k by omega]
end
end Go.Ab
namespace Go.Ab
open Go.Proofs
variable {R : World → Prop} [RStab R]
/-- A spline that came in, and one of the call's own. -/
abbrev splA (w : World) (d n : Nat) (f : Int → FV) (P : Nat → CV) : AV := .agg [.raw (.int .i64 (d : Int)), AV.sl w 1 ((tab (n + d + 1) f).map (AV.f .f32)), slC w (tabC n P)]
abbrev splO (a b d n ca cb : Nat) : AV := .agg [.raw (.int .i64 (d : Int)), .raw (.slice (some ⟨a, 0, none⟩) (n + d + 1) ca), .raw (.slice (some ⟨b, 0, none⟩) n cb)]
section
variable {w0 : World} {gs : List Nat} {H : List Ent} {d n : Nat} {P : Nat → CV} {f : Int → FV} {args : List AV} {A : World → List AV}
theorem Takes.spl {R0 : World → Prop} (h : Takes (StR R0 w0 [] H) args A) : Takes (StR R0 w0 [] H) (splA w0 d n f P :: args) (fun w => splA w d n f P :: A w) := fun w vs hS hr => by
  obtain ⟨v, r, rfl, hv, hrr⟩ := hr.inv_cons
  obtain ⟨us, rfl, hu⟩ := hv.inv_agg
  obtain ⟨x, r0, rfl, hx, hu⟩ := hu.inv_cons
  obtain ⟨a, r1, rfl, ha, hu⟩ := hu.inv_cons
  obtain ⟨b, r2, rfl, hb, hu⟩ := hu.inv_cons
  obtain rfl := hu.inv_nil
  rw [hx.inv_raw]
  exact .cons (.agg (.cons .raw (.cons (.q (hS.rd ha.inv_q)) (.cons (.q (hS.rd hb.inv_q)) .nil)))) (h w r hS hrr)
theorem Takes.splO {R0 : World → Prop} {a b ca cb : Nat} {T : TypeId} (ha : entF a T (n + d + 1) f ca ∈ H) (hb : entC b n P cb ∈ H) (h1 : n + d + 1 ≤ ca ∧ ca ≤ maxLen) (h2 : n ≤ cb ∧ cb ≤ maxLen) (h : Takes (StR R0 w0 gs H) args A) : Takes (StR R0 w0 gs H) (Go.Ab.splO a b d n ca cb :: args) (fun w => splA w d n f P :: A w) := fun w vs hS hr => by
  obtain ⟨v, r, rfl, hv, hrr⟩ := hr.inv_cons
  obtain ⟨us, rfl, hu⟩ := hv.inv_agg
  obtain ⟨z, r0, rfl, hz, hu⟩ := hu.inv_cons
  obtain ⟨x, r1, rfl, hx, hu⟩ := hu.inv_cons
  obtain ⟨y, r2, rfl, hy, hu⟩ := hu.inv_cons
  obtain rfl := hu.inv_nil
  rw [hz.inv_raw]
  exact .cons (.agg (.cons .raw (.cons (.q (rd_own hS hx ha (Nat.le_refl _) h1)) (.cons (.q (rd_ownC hS hy hb (Nat.le_refl _) h2)) .nil)))) (h w r hS hrr)
end
/-- What a valid spline's numbers are. -/
structure SpOk (d n : Nat) (f : Int → FV) (P : Nat → CV) (a : Int → Int) : Prop where
  d1 : 1 ≤ d ∧ d ≤ 5
  n1 : d + 1 ≤ n ∧ n ≤ 24
  kn : Kn f a 0 ((n : Int) + d)
  first : ∀ i : Int, i ≤ d → a i = a 0
  last : ∀ i : Int, n ≤ i → a i = a n
  lt : a ((n : Int) - 1) < a n
  gt : a d < a ((d : Int) + 1)
  mult : ∀ j : Int, (d : Int) + 1 ≤ j → j + d ≤ (n : Int) - 1 → a j < a (j + d)
  fin : (tabC n P).all finC = true
theorem gd_cmp {x y : FV} {a b : Int} (hx : Gd x a) (hy : Gd y b) : cmpB .geq (fcmp .f32 x y) = decide (b ≤ a) ∧ cmpB .eql (fcmp .f32 x y) = decide (a = b) ∧ cmpB .lss (fcmp .f32 x y) = decide (a < b) ∧ cmpB .gtr (fcmp .f32 x y) = decide (b < a) ∧ cmpB .leq (fcmp .f32 x y) = decide (a ≤ b) ∧ cmpB .neq (fcmp .f32 x y) = decide (a ≠ b) := by
  have le : ∀ p q : Int, ((p : Rat) / 64 ≤ (q : Rat) / 64) ↔ p ≤ q := fun p q =>
    ⟨fun h => Rat.intCast_le_intCast.1 (by grind), fun h => by have := Rat.intCast_le_intCast.2 h; grind⟩
  have lt : ∀ p q : Int, ((p : Rat) / 64 < (q : Rat) / 64) ↔ p < q := fun p q =>
    ⟨fun h => Rat.intCast_lt_intCast.1 (by grind), fun h => by have := Rat.intCast_lt_intCast.2 h; grind⟩
  have eq : ∀ p q : Int, ((p : Rat) / 64 = (q : Rat) / 64) ↔ p = q := fun p q =>
    ⟨fun h => Rat.intCast_inj.1 (by grind), fun h => by rw [h]⟩
  refine ⟨?_, ?_, ?_, ?_, ?_, ?_⟩
  · rw [vl_geq hx.v hy.v]; exact decide_eq_decide.2 (le b a)
  · rw [vl_eql hx.v hy.v]; exact decide_eq_decide.2 (eq a b)
  · rw [vl_lss hx.v hy.v]; exact decide_eq_decide.2 (lt a b)
  · rw [vl_gtr hx.v hy.v]; exact decide_eq_decide.2 (lt b a)
  · rw [vl_leq hx.v hy.v]; exact decide_eq_decide.2 (le a b)
  · rw [vl_neq hx.v hy.v]; exact decide_eq_decide.2 (not_congr (eq a b))
theorem gd_fin {x : FV} {a : Int} (h : Gd x a) : finB x = true := vl_fin h.v
theorem SpOk.knFin {d n : Nat} {f : Int → FV} {P : Nat → CV} {a : Int → Int} (h : SpOk d n f P a) : (tab (n + d + 1) f).all finB = true := by
  unfold tab
  rw [List.all_eq_true]
  intro p hp
  obtain ⟨i, hi, rfl⟩ := List.mem_map.1 hp
  have := List.mem_range.1 hi
  exact gd_fin (h.kn.g i (by omega) (by omega))
attribute [local irreducible] WS RS Done OpJ Then InBlock Round Ret Env.sub FnH
attribute [local irreducible] tab tabC
theorem isRising_fn (N : Nat) (f : Int → FV) (hN : N < 2 ^ 40) (h : ∀ i : Int, 1 ≤ i → i < N → cmpB .geq (fcmp .f32 (f i) (f (i - 1))) = true) : Fn Try.prog 55 (fun w => [slF w (tab N f)]) (.raw (.bool true)) := by
  refine fn_intro Try.func55 rfl Try.ntmps55 (fun _ => Nat.le_of_ble_eq_true rfl) fun w0 => ?_
  repeat first | refine zaa rfl (zaz rfl) ?_ | refine zah ?_ | (refine zcr ?_; refine zcs ?_) | (refine zdb ?_; first | refine zdc ?_ | refine zdd ?_ | refine zde ?_)
  refine ws_loop (ι := Nat) (fun k => [(0, slF w0 (tab N f)), (3, .raw (.int .i64 ((k : Nat) + 1)))])
    (fun _ => St w0 [] []) (fun k => k ≤ N) (fun k => N - k) 0 (Nat.zero_le _) ?_ (fun _ h => h) (fun k hk => ?_)
  · (repeat (first | exact Env.sub_nil _ | refine Env.sub_cons rfl ?_))
  repeat first | refine zaa rfl (zay rfl) ?_ | (refine zac ?_; refine zaa rfl (zbe rfl rfl) ?_) | (refine zad ?_; refine zaa rfl (zbo rfl) ?_) | refine zah ?_ | (refine zcr ?_; refine zcs ?_) | (refine zdb ?_; first | refine zdc ?_ | refine zdd ?_)
  refine ws_cond rfl (fun hd => ?_) (fun hd => ?_)
  · have hlt : (k : Int) + 1 < N := of_decide_eq_true hd
    clear hd
    have hc := h ((k : Int) + 1) (by omega) hlt
    repeat first | (refine zcr ?_; refine zcs ?_) | (refine zdb ?_; first | refine zdc ?_ | refine zde ?_ | refine zdf ?_)
    refine ws_draw (n := 11) mixed (by decide +kernel) ?_
    repeat first | refine zap rfl (zay rfl) ?_ | (refine zar ?_; first | refine zap rfl (zbc rfl rfl (by omega)) ?_ | refine zap rfl (zbd rfl rfl rfl) ?_) | (refine zat ?_; refine zap rfl (zbu rfl rfl) ?_) | (refine zau ?_; refine zap rfl (zbs rfl rfl (by omega) (by omega)) ?_) | refine zap rfl (zcc rfl) ?_ | refine zav ?_
    rw [hc]
    repeat first | refine zaa rfl (zay rfl) ?_ | refine zaa rfl (zaz rfl) ?_ | (refine zac ?_; refine zaa rfl (zbb rfl rfl (by omega)) ?_) | refine zah ?_ | (refine zcr ?_; first | refine zcs ?_ | refine zcv ?_) | (refine zdb ?_; first | refine zdd ?_ | refine zdf ?_ | refine zdj rfl ?_)
    refine done_round (k + 1) (by omega) (by omega) ?_ (fun _ h => h)
    rw [show ((k + 1 : Nat) : Int) + 1 = (k : Int) + 1 + 1 by omega]
    (repeat (first | exact Env.sub_nil _ | refine Env.sub_cons rfl ?_))
  · repeat first | refine zaa rfl (zaz rfl) ?_ | refine zah ?_ | (refine zcr ?_; first | refine zcs ?_ | refine zcu ?_ | refine zcx ?_ | refine zda ?_) | (refine zdb ?_; first | refine zdc ?_ | refine zdd ?_ | refine zdg ?_ | refine zdh ?_)
    exact done_ret1 rfl () rfl trivial (List.nil_sublist _)
end Go.Ab
