/- What the walk of the law of meets leans on. No conditions. -/
import Derived.Test.YtcbobcpbfdehhaaZas
namespace Go.Ab
open Go.Proofs
variable {R : World → Prop} [RStab R]
theorem slOr_raw (ok : Bool) (g n c : Nat) : ∃ sv, slOr ok g n c = .raw sv ∧ (ok = true → sv = .slice (some ⟨g, 0, none⟩) n c) ∧ (ok = false → sv = .slice none 0 0) := by
  cases ok
  · exact ⟨_, rfl, fun h => (nomatch h), fun _ => rfl⟩
  · exact ⟨_, rfl, fun _ => rfl, fun h => (nomatch h)⟩
/-- How long a list is that may be none. -/
def LenV (sv : Value) (n : Nat) : Prop := (sv = .slice none 0 0 ∧ n = 0) ∨ ∃ g c, sv = .slice (some ⟨g, 0, none⟩) n c
section
variable {P : Program} {t el : TypeId} {S : World → Prop} {e : Env} {dst : Option Tmp} {ty : TypeId} {pos : String} {after : Array Edge} {guard : Option (Nat × Bool)}
theorem opj_lenSV {X : Operand} {sv : Value} {n : Nat} {t2 : TypeId} [hu : TyU P t (.slice el)] (hx : e.ev X = some (.raw sv)) (h : LenV sv n) :
    OpJ P S e ⟨dst, .call { callee := .builtin .len, args := #[X], argTypes := #[t] }, t2, pos, after, guard⟩ (.raw (.int .i64 (n : Int))) := by
  rcases h with ⟨rfl, rfl⟩ | ⟨g, c, rfl⟩
  · exact zbn hx
  · exact zbn hx
end
/-- A number that the law draws. -/
def b10AtV (L : List By) (i n : Int) : Int := if i < (L.length : Int) then ((L.getD i.toNat default).val : Int) % n else (i * 37 + 11) % n
theorem b10AtV_bd (L : List By) (i n : Int) (hn : 2 ≤ n) : ∃ m : Nat, b10AtV L i n = (m : Int) ∧ (m : Int) < n := by
  unfold b10AtV
  split
  · have h1 := Int.emod_nonneg ((L.getD i.toNat default).val : Int) (show n ≠ 0 by omega)
    have h2 := Int.emod_lt_of_pos ((L.getD i.toNat default).val : Int) (show 0 < n by omega)
    exact ⟨_, (Int.toNat_of_nonneg h1).symm, by omega⟩
  · have h1 := Int.emod_nonneg (i * 37 + 11) (show n ≠ 0 by omega)
    have h2 := Int.emod_lt_of_pos (i * 37 + 11) (show 0 < n by omega)
    exact ⟨_, (Int.toNat_of_nonneg h1).symm, by omega⟩
attribute [local irreducible] WS RS Done OpJ Then InBlock Round Ret Env.sub FnH
theorem b10AtV_fn (L : List By) (i n : Int) (hn : 2 ≤ n) (hi : 0 ≤ i ∧ i < 2 ^ 40) : Fn Try.prog 6 (fun w => [slB w L, .raw (.int .i64 i), .raw (.int .i64 n)]) (.raw (.int .i64 (b10AtV L i n))) := by
  refine fn_intro Try.func6 rfl Try.ntmps6 (fun _ => Nat.le_of_ble_eq_true rfl) fun w0 => ?_
  repeat first | refine zaa rfl (zay rfl) ?_ | refine zaa rfl (zaz rfl) ?_ | (refine zac ?_; refine zaa rfl (zbf rfl rfl) ?_) | refine zah ?_ | (refine zcr ?_; refine zcs ?_) | (refine zdb ?_; first | refine zdc ?_ | refine zdd ?_)
  rw [decide_eq_false (show ¬ n ≤ 1 by omega)]
  repeat first | refine zaa rfl (zay rfl) ?_ | (refine zac ?_; refine zaa rfl (zbe rfl rfl) ?_) | (refine zad ?_; refine zaa rfl (zbm rfl) ?_) | refine zah ?_ | (refine zcr ?_; refine zcs ?_) | (refine zdb ?_; first | refine zdc ?_ | refine zdd ?_ | refine zdf ?_ | refine zdj rfl ?_)
  refine ws_cond rfl (fun hd => ?_) (fun hd => ?_)
  · have hlt := of_decide_eq_true hd
    have hby := (L.getD i.toNat default).isLt
    have hv : b10AtV L i n = ((L.getD i.toNat default).val : Int) % n := if_pos hlt
    rw [hv]
    repeat first | refine zaa rfl (zay rfl) ?_ | refine zaa rfl (zaz rfl) ?_ | (refine zac ?_; refine zaa rfl (zcq rfl rfl (by omega) (by omega)) ?_) | (refine zae ?_; refine zaa rfl (zbu rfl rfl) ?_) | (refine zaf ?_; refine zaa rfl (zbv rfl rfl (by omega) (by omega)) ?_) | refine zah ?_ | (refine zcr ?_; first | refine zcs ?_ | refine zct ?_) | (refine zdb ?_; first | refine zdc ?_ | refine zdd ?_ | refine zdg ?_) | refine zaa rfl (opj_byte rfl) ?_
    exact done_ret1 rfl () rfl trivial (List.nil_sublist _)
  · have hv : b10AtV L i n = (i * 37 + 11) % n := if_neg (of_decide_eq_false hd)
    rw [hv]
    repeat first | refine zaa rfl (zay rfl) ?_ | refine zaa rfl (zaz rfl) ?_ | (refine zac ?_; first | refine zaa rfl (zbb rfl rfl (by omega)) ?_ | refine zaa rfl (opj_mul rfl rfl (by omega)) ?_ | refine zaa rfl (zcq rfl rfl (by omega) (by omega)) ?_) | refine zah ?_ | (refine zcr ?_; refine zcs ?_) | (refine zdb ?_; first | refine zdc ?_ | refine zdd ?_ | refine zdf ?_ | refine zdg ?_)
    exact done_ret1 rfl () rfl trivial (List.nil_sublist _)
def hvF (m : Int) : FV := fbin .quo .f32 (some (FloatKind.f32.nearest m)) (fv .f32 1073741824)
def lnB (A E : FV) (lo hi : Rat) : Bool := isNum A && decide (-2 ≤ valR A) && decide (valR A ≤ 2) && isNum (fbin .add .f32 A E) && isNum (fbin .sub .f32 (fbin .add .f32 A E) A) && decide (lo ≤ valR (fbin .sub .f32 (fbin .add .f32 A E) A)) && decide (valR (fbin .sub .f32 (fbin .add .f32 A E) A) ≤ hi)
def ln1 (i j : Nat) : Bool := lnB (hvF ((i : Int) - 4)) (some (FloatKind.f32.nearest (1 + (j : Int)))) 1 4 && decide (cmpB .eql (fcmp .f32 (hvF ((i : Int) - 4)) (fbin .add .f32 (hvF ((i : Int) - 4)) (some (FloatKind.f32.nearest (1 + (j : Int)))))) = false)
def ln2 (i j : Nat) : Bool := lnB (hvF ((i : Int) - 4)) (hvF ((j : Int) - 2)) (-1) 1
theorem ln1_all : allLt (fun i => allLt (fun j => ln1 i j) 4) 9 = true := by decide +kernel
theorem ln2_all : allLt (fun i => allLt (fun j => ln2 i j) 5) 9 = true := by decide +kernel
theorem line_drawn {i j k l : Nat} (hi : i < 9) (hj : j < 9) (hk : k < 4) (hl : l < 5) {av bv : CV} (ha : av = (hvF ((i : Int) - 4), hvF ((j : Int) - 4))) (hb : bv = (fbin .add .f32 av.1 (some (FloatKind.f32.nearest (1 + (k : Int)))), fbin .add .f32 av.2 (hvF ((l : Int) - 2)))) :
    LnV (subC2 bv av) av ∧ finC av = true ∧ finC bv = true ∧ nearE av bv = false := by
  subst hb
  subst ha
  have h1 := allLt_of (allLt_of ln1_all i hi) k hk
  have h2 := allLt_of (allLt_of ln2_all j hj) l hl
  unfold ln1 lnB at h1
  unfold ln2 lnB at h2
  simp only [Bool.and_eq_true, decide_eq_true_eq] at h1 h2
  obtain ⟨⟨⟨⟨⟨⟨⟨a1, a2⟩, a3⟩, a4⟩, a5⟩, a6⟩, a7⟩, a8⟩ := h1
  obtain ⟨⟨⟨⟨⟨⟨b1, b2⟩, b3⟩, b4⟩, b5⟩, b6⟩, b7⟩ := h2
  refine ⟨⟨_, _, _, _, ⟨isNum_vl a5, a6, a7⟩, ⟨isNum_vl b5, b6, b7⟩, ⟨isNum_vl a1, a2, a3⟩, isNum_vl b1, b2, b3⟩, finC_vl (isNum_vl a1) (isNum_vl b1), finC_vl (isNum_vl a4) (isNum_vl b4), ?_⟩
  unfold nearE
  rw [show cmpB .eql (fcmp .f32 (hvF ((i : Int) - 4), hvF ((j : Int) - 4)).1 (fbin .add .f32 (hvF ((i : Int) - 4), hvF ((j : Int) - 4)).1 (some (FloatKind.f32.nearest (1 + (k : Int)))))) = false from a8]
  rfl
/-- Times that are told stand in order. -/
theorem lin_dec {G : Nat → Prop} {T : List Nat} {k : Nat} (h : LinP G 256 T) (hk : k + 1 < T.length) : cmpB .leq (fcmp .f32 (lstF T ((k + 1 : Nat) : Int)) (lstF T (((k + 1 : Nat) : Int) - 1))) = false := by
  have e1 : T.getD (k + 1) 0 = T[k + 1]'hk := by simp [List.getD, List.getElem?_eq_getElem hk]
  have e0 : T.getD k 0 = T[k]'(by omega) := by simp [List.getD, List.getElem?_eq_getElem (show k < T.length by omega)]
  have hlt := List.pairwise_iff_getElem.1 h.inc k (k + 1) (by omega) hk (by omega)
  have b1 := h.lt _ (List.getElem_mem hk)
  have b0 := h.lt _ (List.getElem_mem (show k < T.length by omega))
  unfold lstF
  rw [show (((k + 1 : Nat) : Int) - 1).toNat = k by omega, show ((k + 1 : Nat) : Int).toNat = k + 1 from rfl, e1, e0]
  rw [vl_leq (tmM_vl (show 8 < 9 by decide) b1) (tmM_vl (show 8 < 9 by decide) b0)]
  refine decide_eq_false fun hle => ?_
  have p0 : (0 : Rat) < ((2 ^ (8 + 1) : Nat) : Rat) := by decide +kernel
  have := Rat.mul_le_mul_of_nonneg_right hle (Rat.le_of_lt p0)
  rw [Rat.div_mul_cancel (Rat.ne_of_gt p0), Rat.div_mul_cancel (Rat.ne_of_gt p0)] at this
  have := Rat.natCast_le_natCast.1 this
  omega
theorem lst_at {G : Nat → Prop} {T : List Nat} {k : Nat} (h : LinP G 256 T) (hk : k < T.length) : ∃ i, lstF T (k : Int) = tmM 8 i ∧ i < 256 ∧ G i := by
  have e0 : T.getD k 0 = T[k]'hk := by simp [List.getD, List.getElem?_eq_getElem hk]
  refine ⟨T[k]'hk, ?_, h.lt _ (List.getElem_mem hk), h.g _ (List.getElem_mem hk)⟩
  unfold lstF
  rw [show (k : Int).toNat = k from rfl, e0]
theorem met_at {G : Nat × Nat → Prop} {s : Mst} {k : Nat} (h : MetP G s) (hk : k < s.2.length) : G (s.2.getD k default) := by
  have e0 : s.2.getD k default = s.2[k]'hk := by simp [List.getD, List.getElem?_eq_getElem hk]
  rw [e0]
  exact h.g _ (List.getElem_mem hk)
theorem share_mid {J i : Nat} (hJ : J < 9) (hi : i < 2 ^ J) : Fn Try.prog 37 (fun _ => [.f .f32 (tmM J i)]) (.raw (.bool true)) :=
  l02Share_yes (tmP hJ hi).tm.v ⟨(tmP hJ hi).tm.lo, (tmP hJ hi).tm.hi⟩
theorem share_half : Fn Try.prog 37 (fun _ => [.f .f32 hfT]) (.raw (.bool true)) := l02Share_yes hfT_vl (by constructor <;> decide +kernel)
theorem entC_lit2 (g : Nat) (F : Nat → CV) : (⟨g, 30, [cA (F 0), cA (F 1)], 2⟩ : Ent) = entC g 2 F 2 := by
  unfold entC tabC
  rfl
theorem entC_lit4 (g : Nat) (F : Nat → CV) : (⟨g, 30, [cA (F 0), cA (F 1), cA (F 2), cA (F 3)], 4⟩ : Ent) = entC g 4 F 4 := by
  unfold entC tabC
  rfl
end Go.Ab
