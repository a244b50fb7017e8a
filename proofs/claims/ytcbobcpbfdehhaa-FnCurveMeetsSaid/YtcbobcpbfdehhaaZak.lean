/- Both parts of a curve, cut in the middle, the reference's way; walked; printed by mk_wq.py. No conditions. -/
import Derived.Test.YtcbobcpbfdehhaaZaj
namespace Go.Ab
open Go.Proofs
variable {R : World → Prop} [RStab R]
section
variable {P : Program} {N : Nat} {ops : Array Oper} {ix : List Nat} {W : World → Prop} {D : List Nat} {F : Env} {Q : Exit → Env → World → Prop} {w0 : World} {gs : List Nat} {H : List Ent} {ty : TypeId} {pos : String} {after : Array Edge}
theorem sp_make {f : Nat} {d : Tmp} {α : Type} {m : α → AV} {zx : α} {A B : Operand} {n : Nat} {t el : TypeId} {z : Value} {b : Nat} [hu : TyU P t (.slice el)] [hi : TyI P el z 1 b]
    (ho : ops[f]? = some ⟨some d, .makeSlice t A B, ty, pos, after, none⟩) (hck : tuOk ops ix N f = true) (hfr : F.look d = none)
    (hA : F.ev A = some (.raw (.int .i64 (n : Int)))) (hB : F.ev B = some (.raw (.int .i64 (n : Int)))) (hz : cv1 z = m zx) (hzo : okv1 z = true) (hzc : z.cells = #[z])
    (hb : b * n ≤ 281474976710656) (hm : n ≤ maxLen)
    (hk : ∀ g, Cont P N ops ix W D Q f ((d, .raw (.slice (some ⟨g, 0, none⟩) n n)) :: F) (StR R w0 gs (⟨g, el, (List.replicate n zx).map m, n⟩ :: H))) : SP P N ops ix W D F (StR R w0 gs H) Q f := by
  refine ⟨_, ho, hck, fun a w K Q' hS hop hK => ?_⟩
  have h1 := (hop A (by simp [Op.operands]) _ hA).inv_raw
  have h2 := (hop B (by simp [Op.operands]) _ hB).inv_raw
  obtain ⟨i, hi1, hz1, hs1, hb1⟩ := hi.h
  have hm' : (n : Int) ≤ 9223372036854775807 := by simp only [maxLen] at hm; omega
  have hr := run_make (P := P) w t el i z hu.h hi1 hz1 .i64 .i64 n n (by omega) (Int.le_refl _) (by rw [hb1]; have h : ((b * n : Nat) : Int) ≤ 281474976710656 := (by omega); rwa [Int.natCast_mul] at h) hm'
  simp only [Int.toNat_natCast] at hr
  unfold Oper.wp
  have hrun : (execOp a.eval ⟨some d, .makeSlice t A B, ty, pos, after, none⟩).run P w = .ok (.value (.slice (some ⟨w.heap.size, 0, none⟩) n n)) (w.alloc (.cells (madeCells z.cells (n * i.size)) el)) := by simp [execOp, h1, h2, hr]
  rw [hrun]
  have hsz : (madeCells z.cells (n * i.size)).size = n := by rw [size_madeCells, hs1, Nat.mul_one]
  have hown := ext_alloc_own (w := w) (T := el) (xs := (List.replicate n zx).map m) (cs := madeCells z.cells (n * i.size)) (fun j x hj => by
    simp only [List.map_replicate, List.getElem?_replicate] at hj
    split at hj
    · rename_i hjn
      cases hj
      refine ⟨z, ?_, by rw [← hz]; exact cv1_ev z hzo⟩
      simp [madeCells, hs1, hzc, hjn, Nat.mod_one]
    · cases hj)
  rw [hsz] at hown
  exact hK _ _ ⟨_, _, hS.new (e := ⟨w.heap.size, el, (List.replicate n zx).map m, n⟩) (Ext.alloc _ _) (Nat.le_refl _) hown, hk w.heap.size, .inr ⟨d, _, _, rfl, hfr, rfl, .raw, rfl, rfl⟩⟩
end
/-- The second part, as far as it stands after some rows. -/
def rtP (n : Nat) (P : Nat → CV) (k j : Nat) : CV := if n ≤ j + k then hrow P (n - 1 - j) j else (fv .f32 0, fv .f32 0)
def rtF (n : Nat) (k : Nat) (j : Int) : FV := if (n : Int) ≤ j + k then one1 else fv .f32 0
theorem rtP_0 {n : Nat} {P : Nat → CV} : (List.replicate n ((fv .f32 0, fv .f32 0) : CV)).map cA = (tabC n (rtP n P 0)).map cA := by
  congr 1
  refine List.ext_getElem? fun i => ?_
  unfold tabC
  rw [List.getElem?_map, List.getElem?_replicate]
  split
  · rename_i h
    rw [List.getElem?_range h]
    show _ = some (rtP n P 0 i)
    unfold rtP
    rw [if_neg (by omega)]
  · rename_i h
    rw [List.getElem?_eq_none (by simpa using h)]
    rfl
theorem rtF_0 {n : Nat} : (List.replicate n (fv .f32 0)).map (AV.f .f32) = (tab n (rtF n 0)).map (AV.f .f32) := by
  congr 1
  refine List.ext_getElem? fun i => ?_
  unfold tab
  rw [List.getElem?_map, List.getElem?_replicate]
  split
  · rename_i h
    rw [List.getElem?_range h]
    show _ = some (rtF n 0 i)
    unfold rtF
    rw [if_neg (by omega)]
  · rename_i h
    rw [List.getElem?_eq_none (by simpa using h)]
    rfl
theorem rtP_set {n k : Nat} {P : Nat → CV} (hk : k < n) : ((tabC n (rtP n P k)).map cA).set (((n - 1 - k : Nat) : Int).toNat * 1) (cA (hrow P k ((n - 1 - k : Nat) : Int).toNat)) = (tabC n (rtP n P (k + 1))).map cA := by
  rw [show ((n - 1 - k : Nat) : Int).toNat = n - 1 - k from rfl, Nat.mul_one]
  refine entC_storeC (by omega) ?_ (fun t ht h => ?_)
  · unfold rtP
    rw [if_pos (by omega), show n - 1 - (n - 1 - k) = k by omega]
  · unfold rtP
    by_cases h1 : n ≤ t + k
    · rw [if_pos h1, if_pos (by omega)]
    · rw [if_neg h1, if_neg (by omega)]
theorem rtF_set {n k : Nat} (hk : k < n) : ((tab n (rtF n k)).map (AV.f .f32)).set (((n - 1 - k : Nat) : Int).toNat * 1) (.f .f32 (oneF ((n - 1 - k : Nat) : Int))) = (tab n (rtF n (k + 1))).map (AV.f .f32) := by
  rw [show ((n - 1 - k : Nat) : Int).toNat = n - 1 - k from rfl, Nat.mul_one, ← List.map_set]
  congr 1
  refine tab_set (by omega) ?_ (fun t h0 ht h => ?_)
  · unfold rtF
    rw [if_pos (by omega)]
    rfl
  · unfold rtF
    by_cases h1 : (n : Int) ≤ t + k
    · rw [if_pos h1, if_pos (by omega)]
    · rw [if_neg h1, if_neg (by omega)]
theorem rtP_n {n : Nat} {P : Nat → CV} {g c : Nat} : entC g n (rtP n P n) c = entC g n (rightP n P) c := entC_congr fun t ht => by
  unfold rtP rightP
  rw [if_pos (by omega)]
theorem rtF_n {n g c : Nat} {T : TypeId} : entF g T n (rtF n n) c = entF g T n oneF c := by
  unfold entF
  congr 2
  unfold tab
  refine List.map_congr_left fun i hi => ?_
  unfold rtF
  rw [if_pos (by omega)]
  rfl
def cutSd (T Tc : TypeId) (w0 : World) (g4 g5 g7 g8 g9 a2 b2 n : Nat) (P : Nat → CV) (y : Ct) : World → Prop := match y.k with
  | 0 => St w0 [] [⟨g7, Tc, [.raw (.slice none 0 0), .raw (.slice none 0 0)], 2⟩, ⟨g9, Tc, [slC w0 (tabC n P), AV.sl w0 1 ((tab n oneF).map (AV.f .f32))], 2⟩, ⟨g8, Tc, [.raw (.slice (some ⟨a2, 0, none⟩) (n) n), .raw (.slice (some ⟨b2, 0, none⟩) (n) n)], 2⟩, ⟨g5, Tc, [.raw (.slice none 0 0), .raw (.slice none 0 0)], 2⟩, ⟨g4, Tc, [.raw (.slice none 0 0), .raw (.slice none 0 0)], 2⟩, entC a2 n (rtP n P 0) n, entF b2 T n (rtF n 0) n]
  | i + 1 => if i + 1 < n then St w0 [] [⟨g7, Tc, [.raw (.slice (some ⟨y.a, 0, none⟩) (i + 1) y.ca), .raw (.slice (some ⟨y.b, 0, none⟩) (i + 1) y.cb)], 2⟩, ⟨g9, Tc, [.raw (.slice (some ⟨y.ra, 0, none⟩) (n - (i + 1)) y.rca), .raw (.slice (some ⟨y.rb, 0, none⟩) (n - (i + 1)) y.rcb)], 2⟩, ⟨g8, Tc, [.raw (.slice (some ⟨a2, 0, none⟩) (n) n), .raw (.slice (some ⟨b2, 0, none⟩) (n) n)], 2⟩, ⟨g5, Tc, [.raw (.slice none 0 0), .raw (.slice none 0 0)], 2⟩, ⟨g4, Tc, [.raw (.slice none 0 0), .raw (.slice none 0 0)], 2⟩, entC y.ra (n - (i + 1)) (hrow P (i + 1)) y.rca, entF y.rb T (n - (i + 1)) oneF y.rcb, entC a2 n (rtP n P (i + 1)) n, entF b2 T n (rtF n (i + 1)) n, entC y.a (i + 1) (leftP P) y.ca, entF y.b T (i + 1) oneF y.cb]
    else St w0 [] [⟨g7, Tc, [.raw (.slice (some ⟨y.a, 0, none⟩) (i + 1) y.ca), .raw (.slice (some ⟨y.b, 0, none⟩) (i + 1) y.cb)], 2⟩, ⟨g9, Tc, [.raw (.slice none 0 0), .raw (.slice none 0 0)], 2⟩, ⟨g8, Tc, [.raw (.slice (some ⟨a2, 0, none⟩) (n) n), .raw (.slice (some ⟨b2, 0, none⟩) (n) n)], 2⟩, ⟨g5, Tc, [.raw (.slice none 0 0), .raw (.slice none 0 0)], 2⟩, ⟨g4, Tc, [.raw (.slice none 0 0), .raw (.slice none 0 0)], 2⟩, entC a2 n (rtP n P (i + 1)) n, entF b2 T n (rtF n (i + 1)) n, entC y.a (i + 1) (leftP P) y.ca, entF y.b T (i + 1) oneF y.cb]
attribute [local irreducible] WS RS Done OpJ Then InBlock Round Ret Env.sub FnH
attribute [local irreducible] tab tabC
theorem l02Row1_fn {P : Nat → CV} {f : Int → FV} {t : FV} :
    FnH (X := Unit) Try.prog 61 (fun w => [crvQ w 1 P f, .f .f32 t]) [] (fun _ => .agg [.raw (.slice none 0 0), .raw (.slice none 0 0)]) (fun _ => []) (fun _ => True) := by
  refine fn_intro Try.func61 rfl Try.ntmps61 (fun _ => Nat.le_of_ble_eq_true rfl) fun w0 => ?_
  repeat first | refine zaa rfl (zaz rfl) ?_ | refine zah ?_ | (refine zcr ?_; refine zcs ?_) | (refine zdb ?_; first | refine zdc ?_ | refine zdd ?_ | refine zde ?_) | (refine zal rfl rfl ?_; intro g) | (refine zag ?_; refine zan 0 rfl rfl rfl rfl rfl rfl rfl rfl rfl ?_) | refine zaa rfl opj_buildZ ?_
  rename_i g4
  obtain ⟨g5, hg5⟩ : ∃ x, x = g := ⟨g, rfl⟩
  subst hg5
  refine ws_loop (ι := Unit) (fun _ => [(0, crvQ w0 1 P f), (4, .raw (.pointer (some ⟨g4, 0, none⟩))), (5, .raw (.pointer (some ⟨g5, 0, none⟩))), (6, .raw (.int .i64 0))])
    (fun _ => St w0 [] [⟨g5, 27, [.raw (.slice none 0 0), .raw (.slice none 0 0)], 2⟩, ⟨g4, 27, [.raw (.slice none 0 0), .raw (.slice none 0 0)], 2⟩]) (fun _ => True) (fun _ => 0) () trivial ?_ (fun w h => h) (fun y _ => ?_)
  · (repeat (first | exact Env.sub_nil _ | refine Env.sub_cons rfl ?_))
  repeat first | refine zaa rfl (zay rfl) ?_ | (refine zac ?_; first | refine zaa rfl (zbb rfl rfl (by omega)) ?_ | refine zaa rfl (zbe rfl rfl) ?_) | (refine zad ?_; refine zaa rfl (opj_lenC rfl) ?_) | (refine zae ?_; refine zaa rfl (zcg rfl rfl (by (repeat (first | exact mh | refine mt ?_)); done) rfl rfl) ?_) | refine zah ?_ | (refine zcr ?_; first | refine zcs ?_ | refine zcu ?_ | refine zcx ?_ | refine zda ?_) | (refine zdb ?_; first | refine zdc ?_ | refine zdd ?_ | refine zdg ?_ | refine zdh ?_ | refine zdj rfl ?_) | (refine zag ?_; refine zan 1 rfl rfl rfl rfl rfl rfl rfl rfl rfl ?_) | refine zaa rfl (opj_nilZ rfl) ?_ | refine zaa rfl (opj_fieldZ rfl) ?_ | refine zaa rfl (opj_loadZ rfl rfl rfl) ?_
  exact done_retX rfl rfl () rfl (mt mh) rfl rfl rfl trivial (List.nil_sublist _)
set_option maxRecDepth 100000 in
set_option maxHeartbeats 40000000 in
theorem l02Cut_fn {n : Nat} {P : Nat → CV} (hn : 2 ≤ n ∧ n ≤ 8) :
    FnH (X := Ct) Try.prog 54 (fun w => [crvQ w n P oneF, .f .f32 hfT]) []
      (fun y => .tup [crvOc y.a y.b n y.ca y.cb, crvOc y.a2 y.b2 n y.ca2 y.cb2]) (fun y => [entF y.b2 31 n oneF y.cb2, entC y.a2 n (rightP n P) y.ca2, entC y.a n (leftP P) y.ca, entF y.b 31 n oneF y.cb]) (fun y => ((n ≤ y.ca ∧ y.ca ≤ maxLen) ∧ n ≤ y.cb ∧ y.cb ≤ maxLen) ∧ (n ≤ y.ca2 ∧ y.ca2 ≤ maxLen) ∧ n ≤ y.cb2 ∧ y.cb2 ≤ maxLen) := by
  have hR : ∀ j, j + 2 ≤ n → FnH (X := (Nat × Nat) × Nat × Nat) Try.prog 61 (fun w => [crvQ w (n - j) (hrow P j) oneF, .f .f32 hfT]) []
      (fun y => crvOc y.1.1 y.1.2 (n - (j + 1)) y.2.1 y.2.2) (fun y => [entC y.1.1 (n - (j + 1)) (hrow P (j + 1)) y.2.1, entF y.1.2 31 (n - (j + 1)) oneF y.2.2]) (fun y => (n - (j + 1) ≤ y.2.1 ∧ y.2.1 ≤ maxLen) ∧ n - (j + 1) ≤ y.2.2 ∧ y.2.2 ≤ maxLen) := fun j hj => by
    have := l02Row_fn (n := n - j) (P := (rowsP P (fun _ => one1) hfT j).1) (f := (rowsP P (fun _ => one1) hfT j).2) (t := hfT) (by omega)
    have e1 : rowP (rowsP P (fun _ => one1) hfT j).1 (rowsP P (fun _ => one1) hfT j).2 hfT = (rowsP P (fun _ => one1) hfT (j + 1)).1 := rfl
    have e2 : rowW (rowsP P (fun _ => one1) hfT j).2 hfT = (rowsP P (fun _ => one1) hfT (j + 1)).2 := rfl
    rw [show n - j - 1 = n - (j + 1) by omega, e1, e2, rows_half, rows_half] at this
    exact this
  refine fn_intro Try.func54 rfl Try.ntmps54 (fun _ => Nat.le_of_ble_eq_true rfl) fun w0 => ?_
  repeat first | refine zaa rfl (zay rfl) ?_ | refine zaa rfl (zaz rfl) ?_ | (refine zad ?_; refine zaa rfl (opj_lenC rfl) ?_) | refine zah ?_ | (refine zcr ?_; refine zcs ?_) | (refine zdb ?_; first | refine zdc ?_ | refine zdd ?_) | (refine zal rfl rfl ?_; intro g) | (refine zag ?_; refine zan 0 rfl rfl rfl rfl rfl rfl rfl rfl rfl ?_) | refine zaa rfl opj_buildZ ?_ | refine zaa rfl (opj_nilZ rfl) ?_ | refine zaa rfl (opj_fieldZ rfl) ?_ | refine zaa rfl (opj_loadZ rfl rfl rfl) ?_
  rename_i g4 g5
  obtain ⟨g7, hg7⟩ : ∃ x, x = g := ⟨g, rfl⟩
  subst hg7
  refine WS.weak (e' := [(6, .raw (.int .i64 (n : Nat))), (0, crvQ w0 n P oneF), (1, .f .f32 hfT), (7, .raw (.pointer (some ⟨g7, 0, none⟩))), (5, .raw (.pointer (some ⟨g5, 0, none⟩))), (4, .raw (.pointer (some ⟨g4, 0, none⟩)))]) (S' := St w0 [] [⟨g7, 27, [.raw (.slice none 0 0), .raw (.slice none 0 0)], 2⟩, ⟨g5, 27, [.raw (.slice none 0 0), .raw (.slice none 0 0)], 2⟩, ⟨g4, 27, [.raw (.slice none 0 0), .raw (.slice none 0 0)], 2⟩]) ?_ (by (repeat (first | exact Env.sub_nil _ | refine Env.sub_cons rfl ?_))) (fun w h => h)
  refine ws_K2 (Y := Nat × Nat × Nat) (E := fun ⟨a2, b2, g8⟩ => [(22, .agg [.raw (.slice (some ⟨a2, 0, none⟩) (n) n), .raw (.slice (some ⟨b2, 0, none⟩) (n) n)]), (8, .raw (.pointer (some ⟨g8, 0, none⟩))), (21, .raw (.slice (some ⟨b2, 0, none⟩) (n) n)), (19, .raw (.slice (some ⟨a2, 0, none⟩) (n) n)), (20, .raw (.int .i64 (n : Nat))), (18, .raw (.int .i64 (n : Nat))), (6, .raw (.int .i64 (n : Nat))), (0, crvQ w0 n P oneF), (1, .f .f32 hfT), (7, .raw (.pointer (some ⟨g7, 0, none⟩))), (5, .raw (.pointer (some ⟨g5, 0, none⟩))), (4, .raw (.pointer (some ⟨g4, 0, none⟩)))]) (SS := fun ⟨a2, b2, g8⟩ => St w0 [] [⟨g8, 27, [.raw (.slice (some ⟨a2, 0, none⟩) (n) n), .raw (.slice (some ⟨b2, 0, none⟩) (n) n)], 2⟩, ⟨b2, 31, (List.replicate n (fv .f32 0)).map (AV.f .f32), n⟩, ⟨a2, 30, (List.replicate n ((fv .f32 0, fv .f32 0) : CV)).map cA, n⟩, ⟨g7, 27, [.raw (.slice none 0 0), .raw (.slice none 0 0)], 2⟩, ⟨g5, 27, [.raw (.slice none 0 0), .raw (.slice none 0 0)], 2⟩, ⟨g4, 27, [.raw (.slice none 0 0), .raw (.slice none 0 0)], 2⟩]) (ok := fun _ => True) (fun hD0 => ?_) (fun y _ => ?_)
  · have hD := fun a2 b2 g8 => hD0 (a2, b2, g8) trivial
    refine ws_drawP (ix := [0, 2]) (W := St w0 [] []) mixed (by decide +kernel) (fun _ h => h.sel [] (by decide) rfl) ?_
    repeat first | refine zap rfl (zay rfl) ?_ | refine zav ?_
    refine ⟨rfl, ?_⟩
    refine gp_name fun o ho Q' hQ => ?_
    have hso : slotsOf o [0, 2] = [18, 6, 20, 6] := by rw [ho]; decide +kernel
    have q1 := op_at (i := 1) ho rfl
    have q3 := op_at (i := 3) ho rfl
    have q4 := op_at (i := 4) ho rfl
    have q5 := op_at (i := 5) ho rfl
    have q6 := op_at (i := 6) ho rfl
    have v1_3_4_5_6 : ∀ (a2 b2 g8 : Nat), GP Try.prog 75 o [0, 2] (St w0 [] []) [6, 5, 4, 3, 1] [(22, .agg [.raw (.slice (some ⟨a2, 0, none⟩) (n) n), .raw (.slice (some ⟨b2, 0, none⟩) (n) n)]), (8, .raw (.pointer (some ⟨g8, 0, none⟩))), (21, .raw (.slice (some ⟨b2, 0, none⟩) (n) n)), (19, .raw (.slice (some ⟨a2, 0, none⟩) (n) n)), (20, .raw (.int .i64 (n : Nat))), (18, .raw (.int .i64 (n : Nat))), (6, .raw (.int .i64 (n : Nat))), (0, crvQ w0 n P oneF), (1, .f .f32 hfT), (7, .raw (.pointer (some ⟨g7, 0, none⟩))), (5, .raw (.pointer (some ⟨g5, 0, none⟩))), (4, .raw (.pointer (some ⟨g4, 0, none⟩)))] (St w0 [] [⟨g8, 27, [.raw (.slice (some ⟨a2, 0, none⟩) (n) n), .raw (.slice (some ⟨b2, 0, none⟩) (n) n)], 2⟩, ⟨b2, 31, (List.replicate n (fv .f32 0)).map (AV.f .f32), n⟩, ⟨a2, 30, (List.replicate n ((fv .f32 0, fv .f32 0) : CV)).map cA, n⟩, ⟨g7, 27, [.raw (.slice none 0 0), .raw (.slice none 0 0)], 2⟩, ⟨g5, 27, [.raw (.slice none 0 0), .raw (.slice none 0 0)], 2⟩, ⟨g4, 27, [.raw (.slice none 0 0), .raw (.slice none 0 0)], 2⟩]) Q' := fun a2 b2 g8 => by
      exact gp_end (by rw [ho]; decide +kernel) (by rw [hQ]; exact hD a2 b2 g8)
    have v1_3_4_5 : ∀ (a2 b2 g8 : Nat), GP Try.prog 75 o [0, 2] (St w0 [] []) [5, 4, 3, 1] [(22, .agg [.raw (.slice (some ⟨a2, 0, none⟩) (n) n), .raw (.slice (some ⟨b2, 0, none⟩) (n) n)]), (8, .raw (.pointer (some ⟨g8, 0, none⟩))), (21, .raw (.slice (some ⟨b2, 0, none⟩) (n) n)), (19, .raw (.slice (some ⟨a2, 0, none⟩) (n) n)), (20, .raw (.int .i64 (n : Nat))), (18, .raw (.int .i64 (n : Nat))), (6, .raw (.int .i64 (n : Nat))), (0, crvQ w0 n P oneF), (1, .f .f32 hfT), (7, .raw (.pointer (some ⟨g7, 0, none⟩))), (5, .raw (.pointer (some ⟨g5, 0, none⟩))), (4, .raw (.pointer (some ⟨g4, 0, none⟩)))] (St w0 [] [⟨g8, 27, [.raw (.slice none 0 0), .raw (.slice none 0 0)], 2⟩, ⟨b2, 31, (List.replicate n (fv .f32 0)).map (AV.f .f32), n⟩, ⟨a2, 30, (List.replicate n ((fv .f32 0, fv .f32 0) : CV)).map cA, n⟩, ⟨g7, 27, [.raw (.slice none 0 0), .raw (.slice none 0 0)], 2⟩, ⟨g5, 27, [.raw (.slice none 0 0), .raw (.slice none 0 0)], 2⟩, ⟨g4, 27, [.raw (.slice none 0 0), .raw (.slice none 0 0)], 2⟩]) Q' := fun a2 b2 g8 => by
      refine gp_step [6] (by rw [ho]; decide +kernel) fun f hf => ?_
      obtain rfl : f = 6 := by simpa using hf
      exact sp_eff q6 (by rw [ho]; decide +kernel) (effj_storeAX 0 rfl rfl rfl rfl rfl rfl rfl rfl rfl) (cont_go (fun _ h => h.sel [] (by decide) rfl) (gp_to (v1_3_4_5_6 a2 b2 g8) rfl (by (repeat (first | exact Env.sub_nil _ | refine Env.sub_cons rfl ?_))) (by rw [hso]; exact ⟨rfl, rfl, rfl, rfl, trivial⟩) rfl (fun _ h => h.sel [0, 1, 2, 3, 4, 5] (by decide) rfl) (fun _ h => h.sel [] (by decide) rfl)))
    have v1_3_5 : ∀ (a2 b2 g8 : Nat), GP Try.prog 75 o [0, 2] (St w0 [] []) [5, 3, 1] [(8, .raw (.pointer (some ⟨g8, 0, none⟩))), (21, .raw (.slice (some ⟨b2, 0, none⟩) (n) n)), (19, .raw (.slice (some ⟨a2, 0, none⟩) (n) n)), (20, .raw (.int .i64 (n : Nat))), (18, .raw (.int .i64 (n : Nat))), (6, .raw (.int .i64 (n : Nat))), (0, crvQ w0 n P oneF), (1, .f .f32 hfT), (7, .raw (.pointer (some ⟨g7, 0, none⟩))), (5, .raw (.pointer (some ⟨g5, 0, none⟩))), (4, .raw (.pointer (some ⟨g4, 0, none⟩)))] (St w0 [] [⟨g8, 27, [.raw (.slice none 0 0), .raw (.slice none 0 0)], 2⟩, ⟨b2, 31, (List.replicate n (fv .f32 0)).map (AV.f .f32), n⟩, ⟨a2, 30, (List.replicate n ((fv .f32 0, fv .f32 0) : CV)).map cA, n⟩, ⟨g7, 27, [.raw (.slice none 0 0), .raw (.slice none 0 0)], 2⟩, ⟨g5, 27, [.raw (.slice none 0 0), .raw (.slice none 0 0)], 2⟩, ⟨g4, 27, [.raw (.slice none 0 0), .raw (.slice none 0 0)], 2⟩]) Q' := fun a2 b2 g8 => by
      refine gp_step [4] (by rw [ho]; decide +kernel) fun f hf => ?_
      obtain rfl : f = 4 := by simpa using hf
      exact sp_op q4 (by rw [ho]; decide +kernel) rfl (opj_buildV rfl rfl) rfl (cont_go (fun _ h => h.sel [] (by decide) rfl) (gp_to (v1_3_4_5 a2 b2 g8) rfl (by (repeat (first | exact Env.sub_nil _ | refine Env.sub_cons rfl ?_))) (by rw [hso]; exact ⟨rfl, rfl, rfl, rfl, trivial⟩) rfl (fun _ h => h.sel [0, 1, 2, 3, 4, 5] (by decide) rfl) (fun _ h => h.sel [] (by decide) rfl)))
    have v1_3_4 : ∀ (a2 b2 : Nat), GP Try.prog 75 o [0, 2] (St w0 [] []) [4, 3, 1] [(22, .agg [.raw (.slice (some ⟨a2, 0, none⟩) (n) n), .raw (.slice (some ⟨b2, 0, none⟩) (n) n)]), (21, .raw (.slice (some ⟨b2, 0, none⟩) (n) n)), (19, .raw (.slice (some ⟨a2, 0, none⟩) (n) n)), (20, .raw (.int .i64 (n : Nat))), (18, .raw (.int .i64 (n : Nat))), (6, .raw (.int .i64 (n : Nat))), (0, crvQ w0 n P oneF), (1, .f .f32 hfT), (7, .raw (.pointer (some ⟨g7, 0, none⟩))), (5, .raw (.pointer (some ⟨g5, 0, none⟩))), (4, .raw (.pointer (some ⟨g4, 0, none⟩)))] (St w0 [] [⟨b2, 31, (List.replicate n (fv .f32 0)).map (AV.f .f32), n⟩, ⟨a2, 30, (List.replicate n ((fv .f32 0, fv .f32 0) : CV)).map cA, n⟩, ⟨g7, 27, [.raw (.slice none 0 0), .raw (.slice none 0 0)], 2⟩, ⟨g5, 27, [.raw (.slice none 0 0), .raw (.slice none 0 0)], 2⟩, ⟨g4, 27, [.raw (.slice none 0 0), .raw (.slice none 0 0)], 2⟩]) Q' := fun a2 b2 => by
      refine gp_step [5] (by rw [ho]; decide +kernel) fun f hf => ?_
      obtain rfl : f = 5 := by simpa using hf
      exact sp_makes q5 rfl (by rw [ho]; decide +kernel) rfl (makesX_alloc rfl rfl rfl) fun g8 => cont_go (fun _ h => h.sel [] (by decide) rfl) (gp_to (v1_3_4_5 a2 b2 g8) rfl (by (repeat (first | exact Env.sub_nil _ | refine Env.sub_cons rfl ?_))) (by rw [hso]; exact ⟨rfl, rfl, rfl, rfl, trivial⟩) rfl (fun _ h => h.sel [0, 1, 2, 3, 4, 5] (by decide) rfl) (fun _ h => h.sel [] (by decide) rfl))
    have v1_3 : ∀ (a2 b2 : Nat), GP Try.prog 75 o [0, 2] (St w0 [] []) [3, 1] [(21, .raw (.slice (some ⟨b2, 0, none⟩) (n) n)), (19, .raw (.slice (some ⟨a2, 0, none⟩) (n) n)), (20, .raw (.int .i64 (n : Nat))), (18, .raw (.int .i64 (n : Nat))), (6, .raw (.int .i64 (n : Nat))), (0, crvQ w0 n P oneF), (1, .f .f32 hfT), (7, .raw (.pointer (some ⟨g7, 0, none⟩))), (5, .raw (.pointer (some ⟨g5, 0, none⟩))), (4, .raw (.pointer (some ⟨g4, 0, none⟩)))] (St w0 [] [⟨b2, 31, (List.replicate n (fv .f32 0)).map (AV.f .f32), n⟩, ⟨a2, 30, (List.replicate n ((fv .f32 0, fv .f32 0) : CV)).map cA, n⟩, ⟨g7, 27, [.raw (.slice none 0 0), .raw (.slice none 0 0)], 2⟩, ⟨g5, 27, [.raw (.slice none 0 0), .raw (.slice none 0 0)], 2⟩, ⟨g4, 27, [.raw (.slice none 0 0), .raw (.slice none 0 0)], 2⟩]) Q' := fun a2 b2 => by
      refine gp_step [5, 4] (by rw [ho]; decide +kernel) fun f hf => ?_
      have hf : f = 5 ∨ f = 4 := by simpa using hf
      rcases hf with rfl | rfl
      · exact sp_makes q5 rfl (by rw [ho]; decide +kernel) rfl (makesX_alloc rfl rfl rfl) fun g8 => cont_go (fun _ h => h.sel [] (by decide) rfl) (gp_to (v1_3_5 a2 b2 g8) rfl (by (repeat (first | exact Env.sub_nil _ | refine Env.sub_cons rfl ?_))) (by rw [hso]; exact ⟨rfl, rfl, rfl, rfl, trivial⟩) rfl (fun _ h => h.sel [0, 1, 2, 3, 4, 5] (by decide) rfl) (fun _ h => h.sel [] (by decide) rfl))
      · exact sp_op q4 (by rw [ho]; decide +kernel) rfl (opj_buildV rfl rfl) rfl (cont_go (fun _ h => h.sel [] (by decide) rfl) (gp_to (v1_3_4 a2 b2) rfl (by (repeat (first | exact Env.sub_nil _ | refine Env.sub_cons rfl ?_))) (by rw [hso]; exact ⟨rfl, rfl, rfl, rfl, trivial⟩) rfl (fun _ h => h.sel [0, 1, 2, 3, 4] (by decide) rfl) (fun _ h => h.sel [] (by decide) rfl)))
    have v1_5 : ∀ (a2 g8 : Nat), GP Try.prog 75 o [0, 2] (St w0 [] []) [5, 1] [(8, .raw (.pointer (some ⟨g8, 0, none⟩))), (19, .raw (.slice (some ⟨a2, 0, none⟩) (n) n)), (20, .raw (.int .i64 (n : Nat))), (18, .raw (.int .i64 (n : Nat))), (6, .raw (.int .i64 (n : Nat))), (0, crvQ w0 n P oneF), (1, .f .f32 hfT), (7, .raw (.pointer (some ⟨g7, 0, none⟩))), (5, .raw (.pointer (some ⟨g5, 0, none⟩))), (4, .raw (.pointer (some ⟨g4, 0, none⟩)))] (St w0 [] [⟨g8, 27, [.raw (.slice none 0 0), .raw (.slice none 0 0)], 2⟩, ⟨a2, 30, (List.replicate n ((fv .f32 0, fv .f32 0) : CV)).map cA, n⟩, ⟨g7, 27, [.raw (.slice none 0 0), .raw (.slice none 0 0)], 2⟩, ⟨g5, 27, [.raw (.slice none 0 0), .raw (.slice none 0 0)], 2⟩, ⟨g4, 27, [.raw (.slice none 0 0), .raw (.slice none 0 0)], 2⟩]) Q' := fun a2 g8 => by
      refine gp_step [3] (by rw [ho]; decide +kernel) fun f hf => ?_
      obtain rfl : f = 3 := by simpa using hf
      exact sp_make (zx := fv .f32 0) (m := AV.f .f32) q3 (by rw [ho]; decide +kernel) rfl rfl rfl rfl rfl rfl (by omega) (by simp only [maxLen]; omega) fun b2 => cont_go (fun _ h => h.sel [] (by decide) rfl) (gp_to (v1_3_5 a2 b2 g8) rfl (by (repeat (first | exact Env.sub_nil _ | refine Env.sub_cons rfl ?_))) (by rw [hso]; exact ⟨rfl, rfl, rfl, rfl, trivial⟩) rfl (fun _ h => h.sel [1, 0, 2, 3, 4, 5] (by decide) rfl) (fun _ h => h.sel [] (by decide) rfl))
    have v3_5 : ∀ (b2 g8 : Nat), GP Try.prog 75 o [0, 2] (St w0 [] []) [5, 3] [(8, .raw (.pointer (some ⟨g8, 0, none⟩))), (21, .raw (.slice (some ⟨b2, 0, none⟩) (n) n)), (20, .raw (.int .i64 (n : Nat))), (18, .raw (.int .i64 (n : Nat))), (6, .raw (.int .i64 (n : Nat))), (0, crvQ w0 n P oneF), (1, .f .f32 hfT), (7, .raw (.pointer (some ⟨g7, 0, none⟩))), (5, .raw (.pointer (some ⟨g5, 0, none⟩))), (4, .raw (.pointer (some ⟨g4, 0, none⟩)))] (St w0 [] [⟨g8, 27, [.raw (.slice none 0 0), .raw (.slice none 0 0)], 2⟩, ⟨b2, 31, (List.replicate n (fv .f32 0)).map (AV.f .f32), n⟩, ⟨g7, 27, [.raw (.slice none 0 0), .raw (.slice none 0 0)], 2⟩, ⟨g5, 27, [.raw (.slice none 0 0), .raw (.slice none 0 0)], 2⟩, ⟨g4, 27, [.raw (.slice none 0 0), .raw (.slice none 0 0)], 2⟩]) Q' := fun b2 g8 => by
      refine gp_step [1] (by rw [ho]; decide +kernel) fun f hf => ?_
      obtain rfl : f = 1 := by simpa using hf
      exact sp_make (zx := ((fv .f32 0, fv .f32 0) : CV)) (m := cA) q1 (by rw [ho]; decide +kernel) rfl rfl rfl rfl rfl rfl (by omega) (by simp only [maxLen]; omega) fun a2 => cont_go (fun _ h => h.sel [] (by decide) rfl) (gp_to (v1_3_5 a2 b2 g8) rfl (by (repeat (first | exact Env.sub_nil _ | refine Env.sub_cons rfl ?_))) (by rw [hso]; exact ⟨rfl, rfl, rfl, rfl, trivial⟩) rfl (fun _ h => h.sel [1, 2, 0, 3, 4, 5] (by decide) rfl) (fun _ h => h.sel [] (by decide) rfl))
    have v1 : ∀ (a2 : Nat), GP Try.prog 75 o [0, 2] (St w0 [] []) [1] [(19, .raw (.slice (some ⟨a2, 0, none⟩) (n) n)), (20, .raw (.int .i64 (n : Nat))), (18, .raw (.int .i64 (n : Nat))), (6, .raw (.int .i64 (n : Nat))), (0, crvQ w0 n P oneF), (1, .f .f32 hfT), (7, .raw (.pointer (some ⟨g7, 0, none⟩))), (5, .raw (.pointer (some ⟨g5, 0, none⟩))), (4, .raw (.pointer (some ⟨g4, 0, none⟩)))] (St w0 [] [⟨a2, 30, (List.replicate n ((fv .f32 0, fv .f32 0) : CV)).map cA, n⟩, ⟨g7, 27, [.raw (.slice none 0 0), .raw (.slice none 0 0)], 2⟩, ⟨g5, 27, [.raw (.slice none 0 0), .raw (.slice none 0 0)], 2⟩, ⟨g4, 27, [.raw (.slice none 0 0), .raw (.slice none 0 0)], 2⟩]) Q' := fun a2 => by
      refine gp_step [3, 5] (by rw [ho]; decide +kernel) fun f hf => ?_
      have hf : f = 3 ∨ f = 5 := by simpa using hf
      rcases hf with rfl | rfl
      · exact sp_make (zx := fv .f32 0) (m := AV.f .f32) q3 (by rw [ho]; decide +kernel) rfl rfl rfl rfl rfl rfl (by omega) (by simp only [maxLen]; omega) fun b2 => cont_go (fun _ h => h.sel [] (by decide) rfl) (gp_to (v1_3 a2 b2) rfl (by (repeat (first | exact Env.sub_nil _ | refine Env.sub_cons rfl ?_))) (by rw [hso]; exact ⟨rfl, rfl, rfl, rfl, trivial⟩) rfl (fun _ h => h.sel [0, 1, 2, 3, 4] (by decide) rfl) (fun _ h => h.sel [] (by decide) rfl))
      · exact sp_makes q5 rfl (by rw [ho]; decide +kernel) rfl (makesX_alloc rfl rfl rfl) fun g8 => cont_go (fun _ h => h.sel [] (by decide) rfl) (gp_to (v1_5 a2 g8) rfl (by (repeat (first | exact Env.sub_nil _ | refine Env.sub_cons rfl ?_))) (by rw [hso]; exact ⟨rfl, rfl, rfl, rfl, trivial⟩) rfl (fun _ h => h.sel [0, 1, 2, 3, 4] (by decide) rfl) (fun _ h => h.sel [] (by decide) rfl))
    have v3 : ∀ (b2 : Nat), GP Try.prog 75 o [0, 2] (St w0 [] []) [3] [(21, .raw (.slice (some ⟨b2, 0, none⟩) (n) n)), (20, .raw (.int .i64 (n : Nat))), (18, .raw (.int .i64 (n : Nat))), (6, .raw (.int .i64 (n : Nat))), (0, crvQ w0 n P oneF), (1, .f .f32 hfT), (7, .raw (.pointer (some ⟨g7, 0, none⟩))), (5, .raw (.pointer (some ⟨g5, 0, none⟩))), (4, .raw (.pointer (some ⟨g4, 0, none⟩)))] (St w0 [] [⟨b2, 31, (List.replicate n (fv .f32 0)).map (AV.f .f32), n⟩, ⟨g7, 27, [.raw (.slice none 0 0), .raw (.slice none 0 0)], 2⟩, ⟨g5, 27, [.raw (.slice none 0 0), .raw (.slice none 0 0)], 2⟩, ⟨g4, 27, [.raw (.slice none 0 0), .raw (.slice none 0 0)], 2⟩]) Q' := fun b2 => by
      refine gp_step [1, 5] (by rw [ho]; decide +kernel) fun f hf => ?_
      have hf : f = 1 ∨ f = 5 := by simpa using hf
      rcases hf with rfl | rfl
      · exact sp_make (zx := ((fv .f32 0, fv .f32 0) : CV)) (m := cA) q1 (by rw [ho]; decide +kernel) rfl rfl rfl rfl rfl rfl (by omega) (by simp only [maxLen]; omega) fun a2 => cont_go (fun _ h => h.sel [] (by decide) rfl) (gp_to (v1_3 a2 b2) rfl (by (repeat (first | exact Env.sub_nil _ | refine Env.sub_cons rfl ?_))) (by rw [hso]; exact ⟨rfl, rfl, rfl, rfl, trivial⟩) rfl (fun _ h => h.sel [1, 0, 2, 3, 4] (by decide) rfl) (fun _ h => h.sel [] (by decide) rfl))
      · exact sp_makes q5 rfl (by rw [ho]; decide +kernel) rfl (makesX_alloc rfl rfl rfl) fun g8 => cont_go (fun _ h => h.sel [] (by decide) rfl) (gp_to (v3_5 b2 g8) rfl (by (repeat (first | exact Env.sub_nil _ | refine Env.sub_cons rfl ?_))) (by rw [hso]; exact ⟨rfl, rfl, rfl, rfl, trivial⟩) rfl (fun _ h => h.sel [0, 1, 2, 3, 4] (by decide) rfl) (fun _ h => h.sel [] (by decide) rfl))
    have v5 : ∀ (g8 : Nat), GP Try.prog 75 o [0, 2] (St w0 [] []) [5] [(8, .raw (.pointer (some ⟨g8, 0, none⟩))), (20, .raw (.int .i64 (n : Nat))), (18, .raw (.int .i64 (n : Nat))), (6, .raw (.int .i64 (n : Nat))), (0, crvQ w0 n P oneF), (1, .f .f32 hfT), (7, .raw (.pointer (some ⟨g7, 0, none⟩))), (5, .raw (.pointer (some ⟨g5, 0, none⟩))), (4, .raw (.pointer (some ⟨g4, 0, none⟩)))] (St w0 [] [⟨g8, 27, [.raw (.slice none 0 0), .raw (.slice none 0 0)], 2⟩, ⟨g7, 27, [.raw (.slice none 0 0), .raw (.slice none 0 0)], 2⟩, ⟨g5, 27, [.raw (.slice none 0 0), .raw (.slice none 0 0)], 2⟩, ⟨g4, 27, [.raw (.slice none 0 0), .raw (.slice none 0 0)], 2⟩]) Q' := fun g8 => by
      refine gp_step [1, 3] (by rw [ho]; decide +kernel) fun f hf => ?_
      have hf : f = 1 ∨ f = 3 := by simpa using hf
      rcases hf with rfl | rfl
      · exact sp_make (zx := ((fv .f32 0, fv .f32 0) : CV)) (m := cA) q1 (by rw [ho]; decide +kernel) rfl rfl rfl rfl rfl rfl (by omega) (by simp only [maxLen]; omega) fun a2 => cont_go (fun _ h => h.sel [] (by decide) rfl) (gp_to (v1_5 a2 g8) rfl (by (repeat (first | exact Env.sub_nil _ | refine Env.sub_cons rfl ?_))) (by rw [hso]; exact ⟨rfl, rfl, rfl, rfl, trivial⟩) rfl (fun _ h => h.sel [1, 0, 2, 3, 4] (by decide) rfl) (fun _ h => h.sel [] (by decide) rfl))
      · exact sp_make (zx := fv .f32 0) (m := AV.f .f32) q3 (by rw [ho]; decide +kernel) rfl rfl rfl rfl rfl rfl (by omega) (by simp only [maxLen]; omega) fun b2 => cont_go (fun _ h => h.sel [] (by decide) rfl) (gp_to (v3_5 b2 g8) rfl (by (repeat (first | exact Env.sub_nil _ | refine Env.sub_cons rfl ?_))) (by rw [hso]; exact ⟨rfl, rfl, rfl, rfl, trivial⟩) rfl (fun _ h => h.sel [1, 0, 2, 3, 4] (by decide) rfl) (fun _ h => h.sel [] (by decide) rfl))
    have v_ : GP Try.prog 75 o [0, 2] (St w0 [] []) [] [(20, .raw (.int .i64 (n : Nat))), (18, .raw (.int .i64 (n : Nat))), (6, .raw (.int .i64 (n : Nat))), (0, crvQ w0 n P oneF), (1, .f .f32 hfT), (7, .raw (.pointer (some ⟨g7, 0, none⟩))), (5, .raw (.pointer (some ⟨g5, 0, none⟩))), (4, .raw (.pointer (some ⟨g4, 0, none⟩)))] (St w0 [] [⟨g7, 27, [.raw (.slice none 0 0), .raw (.slice none 0 0)], 2⟩, ⟨g5, 27, [.raw (.slice none 0 0), .raw (.slice none 0 0)], 2⟩, ⟨g4, 27, [.raw (.slice none 0 0), .raw (.slice none 0 0)], 2⟩]) Q' := by
      refine gp_step [1, 3, 5] (by rw [ho]; decide +kernel) fun f hf => ?_
      have hf : f = 1 ∨ f = 3 ∨ f = 5 := by simpa using hf
      rcases hf with rfl | rfl | rfl
      · exact sp_make (zx := ((fv .f32 0, fv .f32 0) : CV)) (m := cA) q1 (by rw [ho]; decide +kernel) rfl rfl rfl rfl rfl rfl (by omega) (by simp only [maxLen]; omega) fun a2 => cont_go (fun _ h => h.sel [] (by decide) rfl) (gp_to (v1 a2) rfl (by (repeat (first | exact Env.sub_nil _ | refine Env.sub_cons rfl ?_))) (by rw [hso]; exact ⟨rfl, rfl, rfl, rfl, trivial⟩) rfl (fun _ h => h.sel [0, 1, 2, 3] (by decide) rfl) (fun _ h => h.sel [] (by decide) rfl))
      · exact sp_make (zx := fv .f32 0) (m := AV.f .f32) q3 (by rw [ho]; decide +kernel) rfl rfl rfl rfl rfl rfl (by omega) (by simp only [maxLen]; omega) fun b2 => cont_go (fun _ h => h.sel [] (by decide) rfl) (gp_to (v3 b2) rfl (by (repeat (first | exact Env.sub_nil _ | refine Env.sub_cons rfl ?_))) (by rw [hso]; exact ⟨rfl, rfl, rfl, rfl, trivial⟩) rfl (fun _ h => h.sel [0, 1, 2, 3] (by decide) rfl) (fun _ h => h.sel [] (by decide) rfl))
      · exact sp_makes q5 rfl (by rw [ho]; decide +kernel) rfl (makesX_alloc rfl rfl rfl) fun g8 => cont_go (fun _ h => h.sel [] (by decide) rfl) (gp_to (v5 g8) rfl (by (repeat (first | exact Env.sub_nil _ | refine Env.sub_cons rfl ?_))) (by rw [hso]; exact ⟨rfl, rfl, rfl, rfl, trivial⟩) rfl (fun _ h => h.sel [0, 1, 2, 3] (by decide) rfl) (fun _ h => h.sel [] (by decide) rfl))
    exact v_
  obtain ⟨a2, b2, g8⟩ := y
  dsimp only
  rw [rtP_0 (P := P), rtF_0]
  repeat first | refine zaa rfl (zay rfl) ?_ | refine zaa rfl (zaz rfl) ?_ | refine zah ?_ | (refine zcr ?_; refine zcs ?_) | (refine zdb ?_; first | refine zdc ?_ | refine zdd ?_ | refine zde ?_) | (refine zal rfl rfl ?_; intro g) | refine zaa rfl (opj_nilZ rfl) ?_ | refine zaa rfl (opj_loadAZ rfl rfl rfl) ?_ | refine rs_storeA2 0 rfl rfl rfl rfl rfl rfl ?_
  obtain ⟨g9, hg9⟩ : ∃ x, x = g := ⟨g, rfl⟩
  subst hg9
  refine ws_loop (ι := Ct) (fun y => [(10, .raw (.int .i64 (y.k : Nat))), (6, .raw (.int .i64 (n : Nat))), (1, .f .f32 hfT), (7, .raw (.pointer (some ⟨g7, 0, none⟩))), (8, .raw (.pointer (some ⟨g8, 0, none⟩))), (9, .raw (.pointer (some ⟨g9, 0, none⟩))), (5, .raw (.pointer (some ⟨g5, 0, none⟩))), (4, .raw (.pointer (some ⟨g4, 0, none⟩)))])
    (cutSd 31 27 w0 g4 g5 g7 g8 g9 a2 b2 n P) (fun y => y.k ≤ n ∧ (y.k ≤ y.ca ∧ y.ca ≤ maxLen) ∧ (y.k ≤ y.cb ∧ y.cb ≤ maxLen) ∧ (n - y.k ≤ y.rca ∧ y.rca ≤ maxLen) ∧ n - y.k ≤ y.rcb ∧ y.rcb ≤ maxLen) (fun y => n - y.k) ⟨0, 0, 0, 0, 0, 0, 0, 0, 0, 0, 0, n, n⟩ ⟨Nat.zero_le _, ⟨Nat.le_refl _, Nat.zero_le _⟩, ⟨Nat.le_refl _, Nat.zero_le _⟩, ⟨by simp only; omega, by simp only [maxLen]; omega⟩, by simp only; omega, by simp only [maxLen]; omega⟩ ?_ (fun w h => h.sel [4, 0, 1, 5, 6, 3, 2] (by decide) rfl) (fun y hy => ?_)
  · (repeat (first | exact Env.sub_nil _ | refine Env.sub_cons rfl ?_))
  obtain ⟨k, a, b, ca, cb, _, _, _, _, ra, rb, rca, rcb⟩ := y
  dsimp only at hy ⊢
  obtain ⟨hk, hc1, hc2, hc5, hc6⟩ := hy
  cases k with
  | zero =>
    unfold cutSd
    dsimp only
    repeat first | refine zaa rfl (zay rfl) ?_ | (refine zac ?_; refine zaa rfl (zbe rfl rfl) ?_) | refine zah ?_ | (refine zcr ?_; refine zcs ?_) | (refine zdb ?_; first | refine zdc ?_ | refine zdd ?_)
    refine ws_cond rfl (fun hd => ?_) (fun hd => ?_)
    case' refine_2 =>
      exfalso
      have := of_decide_eq_false hd
      omega
    clear hd
    repeat first | refine zaa rfl (zaz rfl) ?_ | (refine zac ?_; refine zaa rfl (zbc rfl rfl (by omega)) ?_) | (refine zad ?_; refine zaa rfl (opj_lenC rfl) ?_) | (refine zae ?_; refine zaa rfl (zcf rfl rfl (by (repeat (first | exact mh | refine mt ?_)); done) rfl) ?_) | refine zaa rfl (zcd rfl) ?_ | refine zah ?_ | (refine zcr ?_; refine zcs ?_) | (refine zdb ?_; first | refine zdc ?_ | refine zdd ?_ | refine zde ?_ | refine zdf ?_)
    rw [show ((n : Int) : Int) - 1 = ((n - 1 - (0) : Nat) : Int) by omega]
    skip
    refine WS.weak (e' := [(11, .raw (.int .i64 ((n - 1 - (0) : Nat) : Int))), (10, .raw (.int .i64 ((0 : Nat) : Int))), (6, .raw (.int .i64 (n : Nat))), (1, .f .f32 hfT), (7, .raw (.pointer (some ⟨g7, 0, none⟩))), (8, .raw (.pointer (some ⟨g8, 0, none⟩))), (9, .raw (.pointer (some ⟨g9, 0, none⟩))), (5, .raw (.pointer (some ⟨g5, 0, none⟩))), (4, .raw (.pointer (some ⟨g4, 0, none⟩)))]) (S' := St w0 [] [⟨g7, 27, [.raw (.slice none 0 0), .raw (.slice none 0 0)], 2⟩, ⟨g9, 27, [slC w0 (tabC n P), AV.sl w0 1 ((tab n oneF).map (AV.f .f32))], 2⟩, ⟨g8, 27, [.raw (.slice (some ⟨a2, 0, none⟩) (n) n), .raw (.slice (some ⟨b2, 0, none⟩) (n) n)], 2⟩, ⟨g5, 27, [.raw (.slice none 0 0), .raw (.slice none 0 0)], 2⟩, ⟨g4, 27, [.raw (.slice none 0 0), .raw (.slice none 0 0)], 2⟩, entC a2 n (rtP n P (0)) n, entF b2 31 n (rtF n (0)) n]) ?_ (by (repeat (first | exact Env.sub_nil _ | refine Env.sub_cons rfl ?_))) (fun w h => h)
    refine ws_drawP (ix := [0, 1, 2, 3, 4, 5]) (W := St w0 [] [⟨g7, 27, [.raw (.slice none 0 0), .raw (.slice none 0 0)], 2⟩, ⟨g9, 27, [slC w0 (tabC n P), AV.sl w0 1 ((tab n oneF).map (AV.f .f32))], 2⟩]) mixed (by decide +kernel) (fun _ h => h.sel [0, 1] (by decide) rfl) ?_
    repeat first | (refine zat ?_; refine zap rfl (zcf rfl rfl (by (repeat (first | exact mh | refine mt ?_)); done) rfl) ?_) | (refine zau ?_; refine zap rfl (opj_indexQC rfl rfl (by omega) (by omega)) ?_) | refine zap rfl (zcd rfl) ?_ | refine zav ?_ | refine zap rfl (opj_loadZ rfl rfl rfl) ?_
    refine ⟨rfl, ?_⟩
    refine gp_name fun o ho Q' hQ => ?_
    have q6 := op_at (i := 6) ho rfl
    refine gp_step [6] (by rw [ho]; decide +kernel) fun x hx => ?_
    obtain rfl : x = 6 := by simpa using hx
    refine sp_lit q6 (by rw [ho]; decide +kernel) rfl rfl rfl rfl rfl rfl fun u1 => cont_go (fun _ h => h.sel [1, 2] (by decide) rfl) ?_
    have q7 := op_at (i := 7) ho rfl
    refine gp_step [7] (by rw [ho]; decide +kernel) fun x hx => ?_
    obtain rfl : x = 7 := by simpa using hx
    refine sp_appendNil (sz := 1) (m := 1) (ys := [cA (leftP P (0))]) q7 (by rw [ho]; decide +kernel) rfl (by omega) rfl ⟨_, rfl, fun w v hS hr => rd_ownM hS hr mh rfl ⟨Nat.le_refl _, by simp only [maxLen]; decide⟩⟩ rfl (by omega) rfl (by simp only [maxLen]; decide) (by decide) rfl fun p2 cp2 h1 h1b => ?_
    rw [entC_one]
    refine cont_set (by rw [ho]; decide +kernel) rfl ?_
    have q8 := op_at (i := 8) ho rfl
    refine gp_step [8] (by rw [ho]; decide +kernel) fun x hx => ?_
    obtain rfl : x = 8 := by simpa using hx
    refine sp_op q8 (by rw [ho]; decide +kernel) rfl (zcd rfl) rfl (cont_set rfl rfl ?_)
    have q9 := op_at (i := 9) ho rfl
    refine gp_step [9] (by rw [ho]; decide +kernel) fun x hx => ?_
    obtain rfl : x = 9 := by simpa using hx
    refine sp_eff q9 (by rw [ho]; decide +kernel) (effj_storeX 2 rfl rfl rfl rfl rfl rfl) (cont_set rfl rfl ?_)
    refine gp_end (by rw [ho]; decide +kernel) ?_
    rw [hQ]
    clear hQ ho
    repeat first | (refine zcr ?_; refine zcs ?_) | (refine zdb ?_; refine zdc ?_)
    refine WS.weak (e' := [(11, .raw (.int .i64 ((n - 1 - (0) : Nat) : Int))), (10, .raw (.int .i64 ((0 : Nat) : Int))), (6, .raw (.int .i64 (n : Nat))), (1, .f .f32 hfT), (7, .raw (.pointer (some ⟨g7, 0, none⟩))), (8, .raw (.pointer (some ⟨g8, 0, none⟩))), (9, .raw (.pointer (some ⟨g9, 0, none⟩))), (5, .raw (.pointer (some ⟨g5, 0, none⟩))), (4, .raw (.pointer (some ⟨g4, 0, none⟩)))]) (S' := St w0 [] [⟨g7, 27, [.raw (.slice (some ⟨p2, 0, none⟩) (0 + 1) cp2), .raw (.slice none 0 0)], 2⟩, ⟨g9, 27, [slC w0 (tabC n P), AV.sl w0 1 ((tab n oneF).map (AV.f .f32))], 2⟩, ⟨g8, 27, [.raw (.slice (some ⟨a2, 0, none⟩) (n) n), .raw (.slice (some ⟨b2, 0, none⟩) (n) n)], 2⟩, ⟨g5, 27, [.raw (.slice none 0 0), .raw (.slice none 0 0)], 2⟩, ⟨g4, 27, [.raw (.slice none 0 0), .raw (.slice none 0 0)], 2⟩, entC a2 n (rtP n P (0)) n, entF b2 31 n (rtF n (0)) n, entC p2 (0 + 1) (leftP P) cp2]) ?_ (by (repeat (first | exact Env.sub_nil _ | refine Env.sub_cons rfl ?_))) (fun w h => h.sel [2, 3, 4, 5, 6, 7, 8, 0] (by decide) rfl)
    refine ws_drawP (ix := [0, 1, 2, 3, 4, 5]) (W := St w0 [] [⟨g7, 27, [.raw (.slice (some ⟨p2, 0, none⟩) (0 + 1) cp2), .raw (.slice none 0 0)], 2⟩, ⟨g9, 27, [slC w0 (tabC n P), AV.sl w0 1 ((tab n oneF).map (AV.f .f32))], 2⟩]) mixed (by decide +kernel) (fun _ h => h.sel [0, 1] (by decide) rfl) ?_
    repeat first | (refine zat ?_; refine zap rfl (zcf rfl rfl (by (repeat (first | exact mh | refine mt ?_)); done) rfl) ?_) | (refine zau ?_; refine zap rfl (opj_indexQF rfl rfl (by omega) (by omega)) ?_) | refine zap rfl (zcd rfl) ?_ | refine zav ?_ | refine zap rfl (opj_loadZ rfl rfl rfl) ?_
    refine ⟨rfl, ?_⟩
    refine gp_name fun o ho Q' hQ => ?_
    have q6 := op_at (i := 6) ho rfl
    refine gp_step [6] (by rw [ho]; decide +kernel) fun x hx => ?_
    obtain rfl : x = 6 := by simpa using hx
    refine sp_lit q6 (by rw [ho]; decide +kernel) rfl rfl rfl rfl rfl rfl fun u1 => cont_go (fun _ h => h.sel [1, 2] (by decide) rfl) ?_
    have q7 := op_at (i := 7) ho rfl
    refine gp_step [7] (by rw [ho]; decide +kernel) fun x hx => ?_
    obtain rfl : x = 7 := by simpa using hx
    refine sp_appendNil (sz := 1) (m := 1) (ys := [.f .f32 (oneF ((0 : Nat) : Int))]) q7 (by rw [ho]; decide +kernel) rfl (by omega) rfl ⟨_, rfl, fun w v hS hr => rd_ownM hS hr mh rfl ⟨Nat.le_refl _, by simp only [maxLen]; decide⟩⟩ rfl (by omega) rfl (by simp only [maxLen]; decide) (by decide) rfl fun q2 cq2 h2 h2b => ?_
    rw [entF_one0]
    refine cont_set (by rw [ho]; decide +kernel) rfl ?_
    have q8 := op_at (i := 8) ho rfl
    refine gp_step [8] (by rw [ho]; decide +kernel) fun x hx => ?_
    obtain rfl : x = 8 := by simpa using hx
    refine sp_op q8 (by rw [ho]; decide +kernel) rfl (zcd rfl) rfl (cont_set rfl rfl ?_)
    have q9 := op_at (i := 9) ho rfl
    refine gp_step [9] (by rw [ho]; decide +kernel) fun x hx => ?_
    obtain rfl : x = 9 := by simpa using hx
    refine sp_eff q9 (by rw [ho]; decide +kernel) (effj_storeX 2 rfl rfl rfl rfl rfl rfl) (cont_set rfl rfl ?_)
    refine gp_end (by rw [ho]; decide +kernel) ?_
    rw [hQ]
    clear hQ ho
    repeat first | (refine zcr ?_; refine zcs ?_) | (refine zdb ?_; refine zdc ?_)
    refine WS.weak (e' := [(11, .raw (.int .i64 ((n - 1 - (0) : Nat) : Int))), (10, .raw (.int .i64 ((0 : Nat) : Int))), (6, .raw (.int .i64 (n : Nat))), (1, .f .f32 hfT), (7, .raw (.pointer (some ⟨g7, 0, none⟩))), (8, .raw (.pointer (some ⟨g8, 0, none⟩))), (9, .raw (.pointer (some ⟨g9, 0, none⟩))), (5, .raw (.pointer (some ⟨g5, 0, none⟩))), (4, .raw (.pointer (some ⟨g4, 0, none⟩)))]) (S' := St w0 [] [⟨g7, 27, [.raw (.slice (some ⟨p2, 0, none⟩) (0 + 1) cp2), .raw (.slice (some ⟨q2, 0, none⟩) (0 + 1) cq2)], 2⟩, ⟨g9, 27, [slC w0 (tabC n P), AV.sl w0 1 ((tab n oneF).map (AV.f .f32))], 2⟩, ⟨g8, 27, [.raw (.slice (some ⟨a2, 0, none⟩) (n) n), .raw (.slice (some ⟨b2, 0, none⟩) (n) n)], 2⟩, ⟨g5, 27, [.raw (.slice none 0 0), .raw (.slice none 0 0)], 2⟩, ⟨g4, 27, [.raw (.slice none 0 0), .raw (.slice none 0 0)], 2⟩, entC a2 n (rtP n P (0)) n, entF b2 31 n (rtF n (0)) n, entC p2 (0 + 1) (leftP P) cp2, entF q2 31 (0 + 1) oneF cq2]) ?_ (by (repeat (first | exact Env.sub_nil _ | refine Env.sub_cons rfl ?_))) (fun w h => h.sel [2, 3, 4, 5, 6, 7, 8, 9, 0] (by decide) rfl)
    refine ws_drawP (ix := [0, 1, 2, 3, 4, 5, 6, 7, 8]) (W := St w0 [] [⟨g8, 27, [.raw (.slice (some ⟨a2, 0, none⟩) (n) n), .raw (.slice (some ⟨b2, 0, none⟩) (n) n)], 2⟩, ⟨g9, 27, [slC w0 (tabC n P), AV.sl w0 1 ((tab n oneF).map (AV.f .f32))], 2⟩]) mixed (by decide +kernel) (fun _ h => h.sel [2, 1] (by decide) rfl) ?_
    repeat first | refine zap rfl (zay rfl) ?_ | (refine zat ?_; refine zap rfl (zcf rfl rfl (by (repeat (first | exact mh | refine mt ?_)); done) rfl) ?_) | (refine zau ?_; first | refine zap rfl (opj_indexQC rfl rfl (by omega) (by omega)) ?_ | refine zap rfl (zbw rfl rfl (by omega) (by omega)) ?_) | refine zap rfl (zcd rfl) ?_ | refine zav ?_ | refine zap rfl (opj_loadZ rfl rfl rfl) ?_
    refine ⟨rfl, ?_⟩
    refine gp_name fun o ho Q' hQ => ?_
    have q9 := op_at (i := 9) ho rfl
    refine gp_step [9] (by rw [ho]; decide +kernel) fun x hx => ?_
    obtain rfl : x = 9 := by simpa using hx
    refine sp_eff q9 (by rw [ho]; decide +kernel) (effj_storeX 5 rfl rfl rfl rfl (by rw [Nat.blt_eq]; omega) (rtP_set (k := 0) (by omega))) (cont_set (by rw [ho]; decide +kernel) rfl ?_)
    refine gp_end (by rw [ho]; decide +kernel) ?_
    rw [hQ]
    clear hQ ho
    repeat first | (refine zcr ?_; refine zcs ?_) | (refine zdb ?_; refine zdc ?_)
    refine WS.weak (e' := [(11, .raw (.int .i64 ((n - 1 - (0) : Nat) : Int))), (10, .raw (.int .i64 ((0 : Nat) : Int))), (6, .raw (.int .i64 (n : Nat))), (1, .f .f32 hfT), (7, .raw (.pointer (some ⟨g7, 0, none⟩))), (8, .raw (.pointer (some ⟨g8, 0, none⟩))), (9, .raw (.pointer (some ⟨g9, 0, none⟩))), (5, .raw (.pointer (some ⟨g5, 0, none⟩))), (4, .raw (.pointer (some ⟨g4, 0, none⟩)))]) (S' := St w0 [] [⟨g7, 27, [.raw (.slice (some ⟨p2, 0, none⟩) (0 + 1) cp2), .raw (.slice (some ⟨q2, 0, none⟩) (0 + 1) cq2)], 2⟩, ⟨g9, 27, [slC w0 (tabC n P), AV.sl w0 1 ((tab n oneF).map (AV.f .f32))], 2⟩, ⟨g8, 27, [.raw (.slice (some ⟨a2, 0, none⟩) (n) n), .raw (.slice (some ⟨b2, 0, none⟩) (n) n)], 2⟩, ⟨g5, 27, [.raw (.slice none 0 0), .raw (.slice none 0 0)], 2⟩, ⟨g4, 27, [.raw (.slice none 0 0), .raw (.slice none 0 0)], 2⟩, entC a2 n (rtP n P (0 + 1)) n, entF b2 31 n (rtF n (0)) n, entC p2 (0 + 1) (leftP P) cp2, entF q2 31 (0 + 1) oneF cq2]) ?_ (by (repeat (first | exact Env.sub_nil _ | refine Env.sub_cons rfl ?_))) (fun w h => h)
    refine ws_drawP (ix := [0, 1, 2, 3, 4, 5, 6, 7, 8]) (W := St w0 [] [⟨g8, 27, [.raw (.slice (some ⟨a2, 0, none⟩) (n) n), .raw (.slice (some ⟨b2, 0, none⟩) (n) n)], 2⟩, ⟨g9, 27, [slC w0 (tabC n P), AV.sl w0 1 ((tab n oneF).map (AV.f .f32))], 2⟩]) mixed (by decide +kernel) (fun _ h => h.sel [2, 1] (by decide) rfl) ?_
    repeat first | refine zap rfl (zay rfl) ?_ | (refine zat ?_; refine zap rfl (zcf rfl rfl (by (repeat (first | exact mh | refine mt ?_)); done) rfl) ?_) | (refine zau ?_; first | refine zap rfl (opj_indexQF rfl rfl (by omega) (by omega)) ?_ | refine zap rfl (zbw rfl rfl (by omega) (by omega)) ?_) | refine zap rfl (zcd rfl) ?_ | refine zav ?_ | refine zap rfl (opj_loadZ rfl rfl rfl) ?_
    refine ⟨rfl, ?_⟩
    refine gp_name fun o ho Q' hQ => ?_
    have q9 := op_at (i := 9) ho rfl
    refine gp_step [9] (by rw [ho]; decide +kernel) fun x hx => ?_
    obtain rfl : x = 9 := by simpa using hx
    refine sp_eff q9 (by rw [ho]; decide +kernel) (effj_storeX 6 rfl rfl rfl rfl (by rw [Nat.blt_eq]; omega) (rtF_set (k := 0) (by omega))) (cont_set (by rw [ho]; decide +kernel) rfl ?_)
    refine gp_end (by rw [ho]; decide +kernel) ?_
    rw [hQ]
    clear hQ ho
    repeat first | refine zaa rfl (zay rfl) ?_ | (refine zcr ?_; refine zcs ?_) | (refine zdb ?_; refine zdd ?_)
    have hR0 := hR 0 (by omega)
    skip
    refine rs_callM3 hR0 rfl rfl (Takes.crvZi (mt mh) (Takes.same Takes.nil)) rfl ?_
    rintro ⟨⟨xa, xb⟩, xca, xcb⟩ ⟨h5, h6⟩
    dsimp only at h5 h6 ⊢
    repeat first | refine zaa rfl (zay rfl) ?_ | refine zaa rfl (zaz rfl) ?_ | (refine zac ?_; refine zaa rfl (zbb rfl rfl (by omega)) ?_) | refine zah ?_ | (refine zcr ?_; first | refine zcs ?_ | refine zcv ?_) | (refine zdb ?_; refine zdd ?_) | (refine zag ?_; refine zan 3 rfl rfl rfl rfl rfl rfl rfl rfl rfl ?_)
    refine done_round ⟨0 + 1, p2, q2, cp2, cq2, 0, 0, 0, 0, xa, xb, xca, xcb⟩ ⟨by simp only; omega, ⟨h1, h1b⟩, ⟨h2, h2b⟩, h5, h6⟩ (by simp only; omega) ?_ (fun w h => ?_)
    · simp only
      rw [show ((0 + 1 : Nat) : Int) = ((0 : Nat) : Int) + 1 by omega]
      (repeat (first | exact Env.sub_nil _ | refine Env.sub_cons rfl ?_))
    · try unfold cutSd
      try dsimp only
      rw [if_pos (by omega)]
      exact h.sel [2, 3, 4, 5, 6, 0, 1, 7, 8, 9, 10] (by decide) rfl
  | succ j =>
    unfold cutSd
    dsimp only
    by_cases hjn : j + 1 < n
    case' pos =>
      rw [if_pos hjn]
      repeat first | refine zaa rfl (zay rfl) ?_ | (refine zac ?_; refine zaa rfl (zbe rfl rfl) ?_) | refine zah ?_ | (refine zcr ?_; refine zcs ?_) | (refine zdb ?_; first | refine zdc ?_ | refine zdd ?_)
      refine ws_cond rfl (fun hd => ?_) (fun hd => ?_)
      case' refine_2 =>
        exfalso
        have := of_decide_eq_false hd
        omega
      clear hd
      repeat first | refine zaa rfl (zaz rfl) ?_ | (refine zac ?_; refine zaa rfl (zbc rfl rfl (by omega)) ?_) | (refine zad ?_; refine zaa rfl (zbn rfl) ?_) | (refine zae ?_; refine zaa rfl (zcf rfl rfl (by (repeat (first | exact mh | refine mt ?_)); done) rfl) ?_) | refine zaa rfl (zcd rfl) ?_ | refine zah ?_ | (refine zcr ?_; refine zcs ?_) | (refine zdb ?_; first | refine zdc ?_ | refine zdd ?_ | refine zde ?_ | refine zdf ?_)
      rw [show (((n - (j + 1) : Nat) : Int) : Int) - 1 = ((n - 1 - (j + 1) : Nat) : Int) by omega]
      skip
      refine WS.weak (e' := [(11, .raw (.int .i64 ((n - 1 - (j + 1) : Nat) : Int))), (10, .raw (.int .i64 ((j + 1 : Nat) : Int))), (6, .raw (.int .i64 (n : Nat))), (1, .f .f32 hfT), (7, .raw (.pointer (some ⟨g7, 0, none⟩))), (8, .raw (.pointer (some ⟨g8, 0, none⟩))), (9, .raw (.pointer (some ⟨g9, 0, none⟩))), (5, .raw (.pointer (some ⟨g5, 0, none⟩))), (4, .raw (.pointer (some ⟨g4, 0, none⟩)))]) (S' := St w0 [] [⟨g7, 27, [.raw (.slice (some ⟨a, 0, none⟩) (j + 1) ca), .raw (.slice (some ⟨b, 0, none⟩) (j + 1) cb)], 2⟩, ⟨g9, 27, [.raw (.slice (some ⟨ra, 0, none⟩) (n - (j + 1)) rca), .raw (.slice (some ⟨rb, 0, none⟩) (n - (j + 1)) rcb)], 2⟩, ⟨g8, 27, [.raw (.slice (some ⟨a2, 0, none⟩) (n) n), .raw (.slice (some ⟨b2, 0, none⟩) (n) n)], 2⟩, ⟨g5, 27, [.raw (.slice none 0 0), .raw (.slice none 0 0)], 2⟩, ⟨g4, 27, [.raw (.slice none 0 0), .raw (.slice none 0 0)], 2⟩, entC ra (n - (j + 1)) (hrow P (j + 1)) rca, entF rb 31 (n - (j + 1)) oneF rcb, entC a2 n (rtP n P (j + 1)) n, entF b2 31 n (rtF n (j + 1)) n, entC a (j + 1) (leftP P) ca, entF b 31 (j + 1) oneF cb]) ?_ (by (repeat (first | exact Env.sub_nil _ | refine Env.sub_cons rfl ?_))) (fun w h => h)
      refine ws_drawP (ix := [0, 1, 2, 3, 4, 5]) (W := St w0 [] [⟨g7, 27, [.raw (.slice (some ⟨a, 0, none⟩) (j + 1) ca), .raw (.slice (some ⟨b, 0, none⟩) (j + 1) cb)], 2⟩, ⟨g9, 27, [.raw (.slice (some ⟨ra, 0, none⟩) (n - (j + 1)) rca), .raw (.slice (some ⟨rb, 0, none⟩) (n - (j + 1)) rcb)], 2⟩, entC ra (n - (j + 1)) (hrow P (j + 1)) rca]) mixed (by decide +kernel) (fun _ h => h.sel [0, 1, 5] (by decide) rfl) ?_
      repeat first | (refine zat ?_; first | refine zap rfl (opj_loadC rfl rfl (by (repeat (first | exact mh | refine mt ?_)); done) (by omega)) ?_ | refine zap rfl (zcf rfl rfl (by (repeat (first | exact mh | refine mt ?_)); done) rfl) ?_) | (refine zau ?_; refine zap rfl (zbw rfl rfl (by omega) (by omega)) ?_) | refine zap rfl (zcd rfl) ?_ | refine zav ?_
      refine ⟨rfl, ?_⟩
      refine gp_name fun o ho Q' hQ => ?_
      have q6 := op_at (i := 6) ho rfl
      refine gp_step [6] (by rw [ho]; decide +kernel) fun x hx => ?_
      obtain rfl : x = 6 := by simpa using hx
      refine sp_lit q6 (by rw [ho]; decide +kernel) rfl rfl rfl rfl rfl rfl fun u1 => cont_go (fun _ h => h.sel [1, 2, 6] (by decide) rfl) ?_
      have q7 := op_at (i := 7) ho rfl
      refine gp_step [7] (by rw [ho]; decide +kernel) fun x hx => ?_
      obtain rfl : x = 7 := by simpa using hx
      refine sp_append 10 (sz := 1) (m := 1) (n := (j + 1)) (xs := (tabC (j + 1) (leftP P)).map cA) (ys := [cA (leftP P (j + 1))]) q7 (by rw [ho]; decide +kernel) rfl (by omega) rfl ⟨_, rfl, fun w v hS hr => rd_ownM hS hr mh rfl ⟨Nat.le_refl _, by simp only [maxLen]; decide⟩⟩ (by rw [Nat.mul_one]; rfl) ⟨by simp, hc1.1, hc1.2⟩ rfl (by omega) rfl (by simp only [maxLen] at hc1 hc2 ⊢; omega) (by omega) rfl fun p2 cp2 h1 h1b => ?_
      rw [entC_snoc]
      refine cont_set (by rw [ho]; decide +kernel) rfl ?_
      have q8 := op_at (i := 8) ho rfl
      refine gp_step [8] (by rw [ho]; decide +kernel) fun x hx => ?_
      obtain rfl : x = 8 := by simpa using hx
      refine sp_op q8 (by rw [ho]; decide +kernel) rfl (zcd rfl) rfl (cont_set rfl rfl ?_)
      have q9 := op_at (i := 9) ho rfl
      refine gp_step [9] (by rw [ho]; decide +kernel) fun x hx => ?_
      obtain rfl : x = 9 := by simpa using hx
      refine sp_eff q9 (by rw [ho]; decide +kernel) (effj_storeX 1 rfl rfl rfl rfl rfl rfl) (cont_set rfl rfl ?_)
      refine gp_end (by rw [ho]; decide +kernel) ?_
      rw [hQ]
      clear hQ ho
      repeat first | (refine zcr ?_; refine zcs ?_) | (refine zdb ?_; refine zdc ?_)
      refine WS.weak (e' := [(11, .raw (.int .i64 ((n - 1 - (j + 1) : Nat) : Int))), (10, .raw (.int .i64 ((j + 1 : Nat) : Int))), (6, .raw (.int .i64 (n : Nat))), (1, .f .f32 hfT), (7, .raw (.pointer (some ⟨g7, 0, none⟩))), (8, .raw (.pointer (some ⟨g8, 0, none⟩))), (9, .raw (.pointer (some ⟨g9, 0, none⟩))), (5, .raw (.pointer (some ⟨g5, 0, none⟩))), (4, .raw (.pointer (some ⟨g4, 0, none⟩)))]) (S' := St w0 [] [⟨g7, 27, [.raw (.slice (some ⟨p2, 0, none⟩) (j + 1 + 1) cp2), .raw (.slice (some ⟨b, 0, none⟩) (j + 1) cb)], 2⟩, ⟨g9, 27, [.raw (.slice (some ⟨ra, 0, none⟩) (n - (j + 1)) rca), .raw (.slice (some ⟨rb, 0, none⟩) (n - (j + 1)) rcb)], 2⟩, ⟨g8, 27, [.raw (.slice (some ⟨a2, 0, none⟩) (n) n), .raw (.slice (some ⟨b2, 0, none⟩) (n) n)], 2⟩, ⟨g5, 27, [.raw (.slice none 0 0), .raw (.slice none 0 0)], 2⟩, ⟨g4, 27, [.raw (.slice none 0 0), .raw (.slice none 0 0)], 2⟩, entC ra (n - (j + 1)) (hrow P (j + 1)) rca, entF rb 31 (n - (j + 1)) oneF rcb, entC a2 n (rtP n P (j + 1)) n, entF b2 31 n (rtF n (j + 1)) n, entC p2 (j + 1 + 1) (leftP P) cp2, entF b 31 (j + 1) oneF cb]) ?_ (by (repeat (first | exact Env.sub_nil _ | refine Env.sub_cons rfl ?_))) (fun w h => h.sel [1, 2, 3, 4, 5, 6, 7, 8, 9, 10, 11] (by decide) rfl)
      refine ws_drawP (ix := [0, 1, 2, 3, 4, 5]) (W := St w0 [] [⟨g7, 27, [.raw (.slice (some ⟨p2, 0, none⟩) (j + 1 + 1) cp2), .raw (.slice (some ⟨b, 0, none⟩) (j + 1) cb)], 2⟩, ⟨g9, 27, [.raw (.slice (some ⟨ra, 0, none⟩) (n - (j + 1)) rca), .raw (.slice (some ⟨rb, 0, none⟩) (n - (j + 1)) rcb)], 2⟩, entF rb 31 (n - (j + 1)) oneF rcb]) mixed (by decide +kernel) (fun _ h => h.sel [0, 1, 6] (by decide) rfl) ?_
      repeat first | (refine zat ?_; first | refine zap rfl (zbt rfl rfl (by (repeat (first | exact mh | refine mt ?_)); done) (by omega)) ?_ | refine zap rfl (zcf rfl rfl (by (repeat (first | exact mh | refine mt ?_)); done) rfl) ?_) | (refine zau ?_; refine zap rfl (zbw rfl rfl (by omega) (by omega)) ?_) | refine zap rfl (zcd rfl) ?_ | refine zav ?_
      refine ⟨rfl, ?_⟩
      refine gp_name fun o ho Q' hQ => ?_
      have q6 := op_at (i := 6) ho rfl
      refine gp_step [6] (by rw [ho]; decide +kernel) fun x hx => ?_
      obtain rfl : x = 6 := by simpa using hx
      refine sp_lit q6 (by rw [ho]; decide +kernel) rfl rfl rfl rfl rfl rfl fun u1 => cont_go (fun _ h => h.sel [1, 2, 7] (by decide) rfl) ?_
      have q7 := op_at (i := 7) ho rfl
      refine gp_step [7] (by rw [ho]; decide +kernel) fun x hx => ?_
      obtain rfl : x = 7 := by simpa using hx
      refine sp_append 11 (sz := 1) (m := 1) (n := (j + 1)) (xs := (tab (j + 1) oneF).map (AV.f .f32)) (ys := [.f .f32 (oneF ((j + 1 : Nat) : Int))]) q7 (by rw [ho]; decide +kernel) rfl (by omega) rfl ⟨_, rfl, fun w v hS hr => rd_ownM hS hr mh rfl ⟨Nat.le_refl _, by simp only [maxLen]; decide⟩⟩ (by rw [Nat.mul_one]; rfl) ⟨by simp, hc2.1, hc2.2⟩ rfl (by omega) rfl (by simp only [maxLen] at hc1 hc2 ⊢; omega) (by omega) rfl fun q2 cq2 h2 h2b => ?_
      rw [entF_snoc]
      refine cont_set (by rw [ho]; decide +kernel) rfl ?_
      have q8 := op_at (i := 8) ho rfl
      refine gp_step [8] (by rw [ho]; decide +kernel) fun x hx => ?_
      obtain rfl : x = 8 := by simpa using hx
      refine sp_op q8 (by rw [ho]; decide +kernel) rfl (zcd rfl) rfl (cont_set rfl rfl ?_)
      have q9 := op_at (i := 9) ho rfl
      refine gp_step [9] (by rw [ho]; decide +kernel) fun x hx => ?_
      obtain rfl : x = 9 := by simpa using hx
      refine sp_eff q9 (by rw [ho]; decide +kernel) (effj_storeX 1 rfl rfl rfl rfl rfl rfl) (cont_set rfl rfl ?_)
      refine gp_end (by rw [ho]; decide +kernel) ?_
      rw [hQ]
      clear hQ ho
      repeat first | (refine zcr ?_; refine zcs ?_) | (refine zdb ?_; refine zdc ?_)
      refine WS.weak (e' := [(11, .raw (.int .i64 ((n - 1 - (j + 1) : Nat) : Int))), (10, .raw (.int .i64 ((j + 1 : Nat) : Int))), (6, .raw (.int .i64 (n : Nat))), (1, .f .f32 hfT), (7, .raw (.pointer (some ⟨g7, 0, none⟩))), (8, .raw (.pointer (some ⟨g8, 0, none⟩))), (9, .raw (.pointer (some ⟨g9, 0, none⟩))), (5, .raw (.pointer (some ⟨g5, 0, none⟩))), (4, .raw (.pointer (some ⟨g4, 0, none⟩)))]) (S' := St w0 [] [⟨g7, 27, [.raw (.slice (some ⟨p2, 0, none⟩) (j + 1 + 1) cp2), .raw (.slice (some ⟨q2, 0, none⟩) (j + 1 + 1) cq2)], 2⟩, ⟨g9, 27, [.raw (.slice (some ⟨ra, 0, none⟩) (n - (j + 1)) rca), .raw (.slice (some ⟨rb, 0, none⟩) (n - (j + 1)) rcb)], 2⟩, ⟨g8, 27, [.raw (.slice (some ⟨a2, 0, none⟩) (n) n), .raw (.slice (some ⟨b2, 0, none⟩) (n) n)], 2⟩, ⟨g5, 27, [.raw (.slice none 0 0), .raw (.slice none 0 0)], 2⟩, ⟨g4, 27, [.raw (.slice none 0 0), .raw (.slice none 0 0)], 2⟩, entC ra (n - (j + 1)) (hrow P (j + 1)) rca, entF rb 31 (n - (j + 1)) oneF rcb, entC a2 n (rtP n P (j + 1)) n, entF b2 31 n (rtF n (j + 1)) n, entC p2 (j + 1 + 1) (leftP P) cp2, entF q2 31 (j + 1 + 1) oneF cq2]) ?_ (by (repeat (first | exact Env.sub_nil _ | refine Env.sub_cons rfl ?_))) (fun w h => h.sel [1, 2, 3, 4, 5, 6, 7, 8, 9, 10, 11] (by decide) rfl)
      refine ws_drawP (ix := [0, 1, 2, 3, 4, 5, 6, 7, 8]) (W := St w0 [] [⟨g8, 27, [.raw (.slice (some ⟨a2, 0, none⟩) (n) n), .raw (.slice (some ⟨b2, 0, none⟩) (n) n)], 2⟩, ⟨g9, 27, [.raw (.slice (some ⟨ra, 0, none⟩) (n - (j + 1)) rca), .raw (.slice (some ⟨rb, 0, none⟩) (n - (j + 1)) rcb)], 2⟩, entC ra (n - (j + 1)) (hrow P (j + 1)) rca]) mixed (by decide +kernel) (fun _ h => h.sel [2, 1, 5] (by decide) rfl) ?_
      repeat first | refine zap rfl (zay rfl) ?_ | (refine zat ?_; first | refine zap rfl (opj_loadC rfl rfl (by (repeat (first | exact mh | refine mt ?_)); done) (by omega)) ?_ | refine zap rfl (zcf rfl rfl (by (repeat (first | exact mh | refine mt ?_)); done) rfl) ?_) | (refine zau ?_; refine zap rfl (zbw rfl rfl (by omega) (by omega)) ?_) | refine zap rfl (zcd rfl) ?_ | refine zav ?_
      refine ⟨rfl, ?_⟩
      refine gp_name fun o ho Q' hQ => ?_
      have q9 := op_at (i := 9) ho rfl
      refine gp_step [9] (by rw [ho]; decide +kernel) fun x hx => ?_
      obtain rfl : x = 9 := by simpa using hx
      refine sp_eff q9 (by rw [ho]; decide +kernel) (effj_storeX 7 rfl rfl rfl rfl (by rw [Nat.blt_eq]; omega) (rtP_set (k := j + 1) (by omega))) (cont_set (by rw [ho]; decide +kernel) rfl ?_)
      refine gp_end (by rw [ho]; decide +kernel) ?_
      rw [hQ]
      clear hQ ho
      repeat first | (refine zcr ?_; refine zcs ?_) | (refine zdb ?_; refine zdc ?_)
      refine WS.weak (e' := [(11, .raw (.int .i64 ((n - 1 - (j + 1) : Nat) : Int))), (10, .raw (.int .i64 ((j + 1 : Nat) : Int))), (6, .raw (.int .i64 (n : Nat))), (1, .f .f32 hfT), (7, .raw (.pointer (some ⟨g7, 0, none⟩))), (8, .raw (.pointer (some ⟨g8, 0, none⟩))), (9, .raw (.pointer (some ⟨g9, 0, none⟩))), (5, .raw (.pointer (some ⟨g5, 0, none⟩))), (4, .raw (.pointer (some ⟨g4, 0, none⟩)))]) (S' := St w0 [] [⟨g7, 27, [.raw (.slice (some ⟨p2, 0, none⟩) (j + 1 + 1) cp2), .raw (.slice (some ⟨q2, 0, none⟩) (j + 1 + 1) cq2)], 2⟩, ⟨g9, 27, [.raw (.slice (some ⟨ra, 0, none⟩) (n - (j + 1)) rca), .raw (.slice (some ⟨rb, 0, none⟩) (n - (j + 1)) rcb)], 2⟩, ⟨g8, 27, [.raw (.slice (some ⟨a2, 0, none⟩) (n) n), .raw (.slice (some ⟨b2, 0, none⟩) (n) n)], 2⟩, ⟨g5, 27, [.raw (.slice none 0 0), .raw (.slice none 0 0)], 2⟩, ⟨g4, 27, [.raw (.slice none 0 0), .raw (.slice none 0 0)], 2⟩, entC ra (n - (j + 1)) (hrow P (j + 1)) rca, entF rb 31 (n - (j + 1)) oneF rcb, entC a2 n (rtP n P (j + 1 + 1)) n, entF b2 31 n (rtF n (j + 1)) n, entC p2 (j + 1 + 1) (leftP P) cp2, entF q2 31 (j + 1 + 1) oneF cq2]) ?_ (by (repeat (first | exact Env.sub_nil _ | refine Env.sub_cons rfl ?_))) (fun w h => h)
      refine ws_drawP (ix := [0, 1, 2, 3, 4, 5, 6, 7, 8]) (W := St w0 [] [⟨g8, 27, [.raw (.slice (some ⟨a2, 0, none⟩) (n) n), .raw (.slice (some ⟨b2, 0, none⟩) (n) n)], 2⟩, ⟨g9, 27, [.raw (.slice (some ⟨ra, 0, none⟩) (n - (j + 1)) rca), .raw (.slice (some ⟨rb, 0, none⟩) (n - (j + 1)) rcb)], 2⟩, entF rb 31 (n - (j + 1)) oneF rcb]) mixed (by decide +kernel) (fun _ h => h.sel [2, 1, 6] (by decide) rfl) ?_
      repeat first | refine zap rfl (zay rfl) ?_ | (refine zat ?_; first | refine zap rfl (zbt rfl rfl (by (repeat (first | exact mh | refine mt ?_)); done) (by omega)) ?_ | refine zap rfl (zcf rfl rfl (by (repeat (first | exact mh | refine mt ?_)); done) rfl) ?_) | (refine zau ?_; refine zap rfl (zbw rfl rfl (by omega) (by omega)) ?_) | refine zap rfl (zcd rfl) ?_ | refine zav ?_
      refine ⟨rfl, ?_⟩
      refine gp_name fun o ho Q' hQ => ?_
      have q9 := op_at (i := 9) ho rfl
      refine gp_step [9] (by rw [ho]; decide +kernel) fun x hx => ?_
      obtain rfl : x = 9 := by simpa using hx
      refine sp_eff q9 (by rw [ho]; decide +kernel) (effj_storeX 8 rfl rfl rfl rfl (by rw [Nat.blt_eq]; omega) (rtF_set (k := j + 1) (by omega))) (cont_set (by rw [ho]; decide +kernel) rfl ?_)
      refine gp_end (by rw [ho]; decide +kernel) ?_
      rw [hQ]
      clear hQ ho
      repeat first | refine zaa rfl (zay rfl) ?_ | (refine zcr ?_; refine zcs ?_) | (refine zdb ?_; refine zdd ?_)
      by_cases hl : j + 1 + 2 ≤ n
      · have hR0 := hR (j + 1) hl
        skip
        refine rs_callM3 hR0 rfl rfl (Takes.crvZo (mt mh) (mt (mt (mt (mt (mt mh))))) (mt (mt (mt (mt (mt (mt mh)))))) hc5 hc6 (Takes.same Takes.nil)) rfl ?_
        rintro ⟨⟨xa, xb⟩, xca, xcb⟩ ⟨h5, h6⟩
        dsimp only at h5 h6 ⊢
        repeat first | refine zaa rfl (zay rfl) ?_ | refine zaa rfl (zaz rfl) ?_ | (refine zac ?_; refine zaa rfl (zbb rfl rfl (by omega)) ?_) | refine zah ?_ | (refine zcr ?_; first | refine zcs ?_ | refine zcv ?_) | (refine zdb ?_; refine zdd ?_) | (refine zag ?_; refine zan 3 rfl rfl rfl rfl rfl rfl rfl rfl rfl ?_)
        refine done_round ⟨j + 1 + 1, p2, q2, cp2, cq2, 0, 0, 0, 0, xa, xb, xca, xcb⟩ ⟨by simp only; omega, ⟨h1, h1b⟩, ⟨h2, h2b⟩, h5, h6⟩ (by simp only; omega) ?_ (fun w h => ?_)
        · simp only
          rw [show ((j + 1 + 1 : Nat) : Int) = ((j + 1 : Nat) : Int) + 1 by omega]
          (repeat (first | exact Env.sub_nil _ | refine Env.sub_cons rfl ?_))
        · try unfold cutSd
          try dsimp only
          rw [if_pos (by omega)]
          exact h.sel [2, 3, 4, 5, 6, 0, 1, 9, 10, 11, 12] (by decide) rfl
      · have h1n : n - (j + 1) = 1 := by omega
        rw [h1n] at hc5 hc6 ⊢
        skip
        refine rs_callM3 l02Row1_fn rfl rfl (Takes.crvZo (mt mh) (mt (mt (mt (mt (mt mh))))) (mt (mt (mt (mt (mt (mt mh)))))) hc5 hc6 (Takes.same Takes.nil)) rfl ?_
        intro _ _
        repeat first | refine zaa rfl (zay rfl) ?_ | refine zaa rfl (zaz rfl) ?_ | (refine zac ?_; refine zaa rfl (zbb rfl rfl (by omega)) ?_) | refine zah ?_ | (refine zcr ?_; first | refine zcs ?_ | refine zcv ?_) | (refine zdb ?_; refine zdd ?_) | (refine zag ?_; refine zan 1 rfl rfl rfl rfl rfl rfl rfl rfl rfl ?_)
        refine done_round ⟨j + 1 + 1, p2, q2, cp2, cq2, 0, 0, 0, 0, 0, 0, 0, 0⟩ ⟨by simp only; omega, ⟨h1, h1b⟩, ⟨h2, h2b⟩, ⟨by simp only; omega, Nat.zero_le _⟩, by simp only; omega, Nat.zero_le _⟩ (by simp only; omega) ?_ (fun w h => ?_)
        · simp only
          rw [show ((j + 1 + 1 : Nat) : Int) = ((j + 1 : Nat) : Int) + 1 by omega]
          (repeat (first | exact Env.sub_nil _ | refine Env.sub_cons rfl ?_))
        · try unfold cutSd
          try dsimp only
          rw [if_neg (by omega)]
          exact h.sel [0, 1, 2, 3, 4, 7, 8, 9, 10] (by decide) rfl
    have hne : n = j + 1 := by omega
    subst hne
    rw [if_neg (Nat.lt_irrefl _)]
    repeat first | refine zaa rfl (zay rfl) ?_ | (refine zac ?_; refine zaa rfl (zbe rfl rfl) ?_) | refine zah ?_ | (refine zcr ?_; refine zcs ?_) | (refine zdb ?_; first | refine zdc ?_ | refine zdd ?_)
    refine ws_cond rfl (fun hd => ?_) (fun hd => ?_)
    · exfalso
      have := of_decide_eq_true hd
      omega
    clear hd
    rw [rtP_n, rtF_n]
    repeat first | (refine zcr ?_; first | refine zcs ?_ | refine zcu ?_ | refine zcx ?_ | refine zda ?_) | (refine zdb ?_; first | refine zdc ?_ | refine zdh ?_)
    refine ws_drawP (ix := [0, 1]) (W := St w0 [] [⟨g7, 27, [.raw (.slice (some ⟨a, 0, none⟩) (j + 1) ca), .raw (.slice (some ⟨b, 0, none⟩) (j + 1) cb)], 2⟩, ⟨g8, 27, [.raw (.slice (some ⟨a2, 0, none⟩) (j + 1) (j + 1)), .raw (.slice (some ⟨b2, 0, none⟩) (j + 1) (j + 1))], 2⟩]) mixed (by decide +kernel) (fun _ h => h.sel [0, 2] (by decide) rfl) ?_
    repeat first | (refine zat ?_; refine zap rfl (zcg rfl rfl (by (repeat (first | exact mh | refine mt ?_)); done) rfl rfl) ?_) | refine zav ?_
    refine ⟨rfl, ?_⟩
    refine gp_name fun o ho Q' hQ => ?_
    have q2 := op_at (i := 2) ho rfl
    have q3 := op_at (i := 3) ho rfl
    refine gp_step [2] (by rw [ho]; decide +kernel) fun x hx => ?_
    obtain rfl : x = 2 := by simpa using hx
    refine sp_eff q2 (by rw [ho]; decide +kernel) (effj_storeAX 4 rfl rfl rfl rfl rfl rfl rfl rfl rfl) (cont_go (fun _ h => h.sel [0, 2] (by decide) rfl) ?_)
    refine gp_step [3] (by rw [ho]; decide +kernel) fun x hx => ?_
    obtain rfl : x = 3 := by simpa using hx
    refine sp_eff q3 (by rw [ho]; decide +kernel) (effj_storeAX 3 rfl rfl rfl rfl rfl rfl rfl rfl rfl) (cont_set (by rw [ho]; decide +kernel) rfl ?_)
    refine gp_end (by rw [ho]; decide +kernel) ?_
    rw [hQ]
    clear hQ ho
    repeat first | (refine zcr ?_; refine zcs ?_) | (refine zdb ?_; refine zdg ?_)
    refine Done.st (S' := StR (fun _ => True) w0 [] ([⟨g5, 27, [.raw (.slice (some ⟨a2, 0, none⟩) (j + 1) (j + 1)), .raw (.slice (some ⟨b2, 0, none⟩) (j + 1) (j + 1))], 2⟩, ⟨g4, 27, [.raw (.slice (some ⟨a, 0, none⟩) (j + 1) ca), .raw (.slice (some ⟨b, 0, none⟩) (j + 1) cb)], 2⟩, entF b2 31 (j + 1) oneF (j + 1), entC a2 (j + 1) (rightP (j + 1) P) (j + 1), entC a (j + 1) (leftP P) ca, entF b 31 (j + 1) oneF cb] : List Ent)) ?_ (fun w h => h.sel [3, 4, 6, 5, 7, 8] (by decide) rfl)
    exact done_retXX rfl rfl (⟨0, a, b, ca, cb, a2, b2, j + 1, j + 1, 0, 0, 0, 0⟩ : Ct) rfl rfl (mt mh) mh rfl rfl rfl rfl rfl ⟨⟨hc1, hc2⟩, ⟨Nat.le_refl _, by simp only [maxLen]; omega⟩, Nat.le_refl _, by simp only [maxLen]; omega⟩ (.cons _ (.cons _ (List.Sublist.refl _)))
end Go.Ab
