/- Part 12 of the texts on which the law leans, joined: What a fit divides by; its curve. No conditions. -/
import Derived.Test.YtljgokghchhjaaaGreatZak
namespace Go.Ab
open Go.Proofs
variable {R : World → Prop} [RStab R]
def LD (n m : Nat) (D : List Nat) : Array Bool := ((List.range n).map fun i => decide (i < m) || D.contains i).toArray
section
variable {P : Program} {t el : TypeId} {S S0 : World → Prop} {N : Nat} {e : Env} {Q : Exit → Env → World → Prop} {ops : Array Oper} {l : List Oper} {dst : Option Tmp} {ty : TypeId} {pos : String} {after : Array Edge} {guard : Option (Nat × Bool)}
variable {w0 : World} {gs : List Nat} {H : List Ent} {L : Array Bool} {fuel : Nat}
theorem raF_name {m f df : Nat} {S1 : Nat → World → Prop} (h : ∀ o, o = ops → ∀ Q', Q' = Q → (RA P N o (listA o.size m) (o.size - m) e S0 Q' ∧ ∀ g, RA P N o ((listA o.size m).setIfInBounds f true) (o.size - m - 1) ((df, .raw (.pointer (some ⟨g, 0, none⟩))) :: e) (S1 g) Q')) :
    RA P N ops (listA ops.size m) (ops.size - m) e S0 Q ∧ ∀ g, RA P N ops ((listA ops.size m).setIfInBounds f true) (ops.size - m - 1) ((df, .raw (.pointer (some ⟨g, 0, none⟩))) :: e) (S1 g) Q := h ops rfl Q rfl
theorem ws_K {Y : Type} {E : Y → Env} {SS : Y → World → Prop} {ok : Y → Prop} {c : Code} (h : (∀ y, ok y → Done .normal (E y) (SS y) Q) → WS P N c e S Q) (hD : ∀ y, ok y → Done .normal (E y) (SS y) Q) : WS P N c e S Q := h hD
theorem ra_fuel {f2 : Nat} (h : RA P N ops L f2 e S Q) (hf : fuel = f2) : RA P N ops L fuel e S Q := hf ▸ h
theorem rs_callM2 {X : Type} {A : World → List AV} {mk : X → AV} {post : X → List Ent} {good : X → Prop} {c : FuncId} {xs : List Operand} {F : Operand} {args : List AV} {d : Tmp} {ts : Array TypeId} [hb : HasBody P c]
    (hc : FnH P c A [] mk post good) (hF : e.ev F = some (.raw (.func (.func c) #[] #[]))) (hx : evL e xs = some args) (ht : Takes (StR R w0 gs H) args A) (hd : Nat.blt d N = true)
    (h : ∀ y, good y → RS P N ops l ((d, mk y) :: e.keep) (StR R w0 gs (post y ++ H)) Q) :
    RS P N ops (⟨some d, .call { callee := .value F, args := xs.toArray, argTypes := ts }, ty, pos, after, none⟩ :: l) e (StR R w0 gs H) Q := rs_call (pre := []) (H := H) hc hF hx ht hd h
omit [RStab R] in
theorem rd_ownN {w : World} {g n cap sz c : Nat} {T : TypeId} {xs : List AV} {v : Value} (hS : StR R w0 gs H w) (hr : Rel w (.raw (.slice (some ⟨g, 0, none⟩) n cap)) v) (hm : (⟨g, T, xs, c⟩ : Ent) ∈ H) (hn : xs.length = n * sz) (hc : n ≤ cap ∧ cap ≤ maxLen) : Rd w sz v xs := by
  have hv' := hr.inv_raw
  subst hv'
  refine ⟨_, n, cap, rfl, hn, hc.1, hc.2, fun i x hi => ⟨_, rfl, rfl, ?_⟩⟩
  obtain ⟨u, hu, hev⟩ := (hS.own _ hm).2.cell hi
  exact ⟨u, by simpa using hu, hev⟩
/-- A list of one curve. -/
theorem rs_litV1 [hb : CrvL P t el] {d : Tmp} {X : Operand} {a b : Option Addr} {n c n' c' : Nat} (hd : Nat.blt d N = true) (hx : e.ev X = some (.agg [.raw (.slice a n c), .raw (.slice b n' c')]))
    (hk : ∀ g, RS P N ops l ((d, .raw (.slice (some ⟨g, 0, none⟩) 1 1)) :: e) (StR R w0 gs (⟨g, el, [.raw (.slice a n c), .raw (.slice b n' c')], 2⟩ :: H)) Q) :
    RS P N ops (⟨some d, .buildSlice t 1 #[(0, X)], ty, pos, after, none⟩ :: l) e (StR R w0 gs H) Q := by
  refine rs_fresh (val := fun g => .raw (.slice (some ⟨g, 0, none⟩) 1 1)) (en := fun g => ⟨g, el, [.raw (.slice a n c), .raw (.slice b n' c')], 2⟩) hd (fun _ => rfl) (fun ac w hS hF => ?_) hk
  obtain ⟨vs, h1, hr⟩ := (hF.eval hx).inv_agg
  obtain ⟨u1, r1, rfl, hu1, hr⟩ := hr.inv_cons
  obtain ⟨u2, r2, rfl, hu2, hr⟩ := hr.inv_cons
  obtain rfl := hr.inv_nil
  obtain rfl := hu1.inv_raw
  obtain rfl := hu2.inv_raw
  refine ⟨w.heap.size, .slice (some ⟨w.heap.size, 0, none⟩) 1 1, w.alloc (.cells #[.slice a n c, .slice b n' c'] el), ?_, ev_raw _, Ext.alloc _ _, Nat.le_refl _, ?_⟩
  · simp only [execOp, List.map_toArray, List.map_cons, List.map_nil, h1, Sem.run_bind, hb.l1, Result.andThen_ok]
    rfl
  · exact ext_alloc_own (w := w) (T := el) (xs := [.raw (.slice a n c), .raw (.slice b n' c')]) (cs := #[.slice a n c, .slice b n' c']) (fun k x hk => by
      match k, hk with
      | 0, hk => cases hk; exact ⟨_, rfl, ev_raw _⟩
      | 1, hk => cases hk; exact ⟨_, rfl, ev_raw _⟩)
end
def p66 : Rat := 73786976294838206464
/-- Four points that are numbers, not too great. -/
def BdQ (Q : Nat → CV) : Prop := ∀ j, j < 4 → ∃ x y, Vl .f32 (Q j).1 x ∧ Vl .f32 (Q j).2 y ∧ (-p66 ≤ x ∧ x ≤ p66) ∧ -p66 ≤ y ∧ y ≤ p66
/-- A chain of pieces from the first to the last point of a path. -/
structure Chn (n : Nat) (P : Nat → CV) (k : Nat) (Q : Nat → Nat → CV) : Prop where
  hk : 1 ≤ k ∧ k + 1 ≤ n
  a : Q 0 0 = P 0
  z : Q (k - 1) 3 = P (n - 1)
  j : ∀ i, i + 1 < k → Q (i + 1) 0 = Q i 3
  b : ∀ i, i < k → BdQ (Q i)
def catN {α : Type} (k : Nat) (A B : Nat → α) (i : Nat) : α := if i < k then A i else B (i - k)
theorem crvCells_cat (A B A' B' : Nat → Nat) (k : Nat) : ∀ m, crvCells A B k ++ crvCells A' B' m = crvCells (catN k A A') (catN k B B') (k + m)
  | 0 => by
    unfold crvCells
    simp only [List.range_zero, List.flatMap_nil, List.append_nil, Nat.add_zero]
    unfold List.flatMap
    congr 1
    refine List.map_congr_left fun i hi => ?_
    have : i < k := by simpa using hi
    unfold catN
    rw [if_pos this, if_pos this]
  | m + 1 => by
    have h1 := crvCells_cat A B A' B' k m
    have h2 : crvCells A' B' (m + 1) = crvCells A' B' m ++ [.raw (.slice (some ⟨A' m, 0, none⟩) 4 4), .raw (.slice (some ⟨B' m, 0, none⟩) 4 4)] := by
      unfold crvCells
      rw [List.range_succ, List.flatMap_append]
      simp
    have h3 : crvCells (catN k A A') (catN k B B') (k + (m + 1)) = crvCells (catN k A A') (catN k B B') (k + m) ++ [.raw (.slice (some ⟨A' m, 0, none⟩) 4 4), .raw (.slice (some ⟨B' m, 0, none⟩) 4 4)] := by
      unfold crvCells
      rw [show k + (m + 1) = k + m + 1 from rfl, List.range_succ, List.flatMap_append]
      congr 1
      unfold catN
      simp only [List.flatMap_cons, List.flatMap_nil, List.append_nil]
      rw [if_neg (by omega), if_neg (by omega), show k + m - k = m by omega]
    rw [h2, h3, ← List.append_assoc, h1]
theorem rowsV_cat (A B A' B' : Nat → Nat) (Q Q' : Nat → Nat → CV) (k : Nat) : ∀ m, rowsV A B Q k ++ rowsV A' B' Q' m = rowsV (catN k A A') (catN k B B') (catN k Q Q') (k + m)
  | 0 => by
    unfold rowsV
    simp only [List.range_zero, List.flatMap_nil, List.append_nil, Nat.add_zero]
    unfold List.flatMap
    congr 1
    refine List.map_congr_left fun i hi => ?_
    have : i < k := by simpa using hi
    unfold catN
    rw [if_pos this, if_pos this, if_pos this]
  | m + 1 => by
    have h1 := rowsV_cat A B A' B' Q Q' k m
    have h2 : rowsV A' B' Q' (m + 1) = rowsV A' B' Q' m ++ [entF (B' m) 27 4 (fun _ => one1) 4, entC (A' m) 4 (Q' m) 4] := by
      unfold rowsV
      rw [List.range_succ, List.flatMap_append]
      simp
    have h3 : rowsV (catN k A A') (catN k B B') (catN k Q Q') (k + (m + 1)) = rowsV (catN k A A') (catN k B B') (catN k Q Q') (k + m) ++ [entF (B' m) 27 4 (fun _ => one1) 4, entC (A' m) 4 (Q' m) 4] := by
      unfold rowsV
      rw [show k + (m + 1) = k + m + 1 from rfl, List.range_succ, List.flatMap_append]
      congr 1
      unfold catN
      simp only [List.flatMap_cons, List.flatMap_nil, List.append_nil]
      rw [if_neg (by omega), if_neg (by omega), if_neg (by omega), show k + m - k = m by omega]
    rw [h2, h3, ← List.append_assoc, h1]
theorem Chn.cat {n k m c : Nat} {P : Nat → CV} {Q Q' : Nat → Nat → CV} (h : Chn (c + 1) P k Q) (h' : Chn (n - c) (fun i => P (i + c)) m Q') (hc : 1 ≤ c ∧ c + 1 < n) : Chn n P (k + m) (catN k Q Q') := by
  have h1 := h.hk
  have h2 := h'.hk
  refine ⟨by omega, ?_, ?_, fun i hi => ?_, fun i hi => ?_⟩
  · unfold catN
    rw [if_pos (by omega)]
    exact h.a
  · unfold catN
    rw [if_neg (by omega), show k + m - 1 - k = m - 1 by omega, h'.z]
    show P (n - c - 1 + c) = P (n - 1)
    rw [show n - c - 1 + c = n - 1 by omega]
  · unfold catN
    rcases Nat.lt_or_ge (i + 1) k with h3 | h3
    · rw [if_pos h3, if_pos (by omega)]
      exact h.j i h3
    · rcases Nat.eq_or_lt_of_le h3 with h4 | h4
      · rw [if_neg (by omega), if_pos (by omega), show i + 1 - k = 0 by omega, h'.a, show i = k - 1 by omega, h.z]
        show P (0 + c) = P (c + 1 - 1)
        rw [Nat.zero_add, Nat.add_sub_cancel]
      · rw [if_neg (by omega), if_neg (by omega), show i + 1 - k = i - k + 1 by omega]
        exact h'.j (i - k) (by omega)
  · unfold catN
    rcases Nat.lt_or_ge i k with h3 | h3
    · rw [if_pos h3]; exact h.b i h3
    · rw [if_neg (by omega)]; exact h'.b (i - k) (by omega)
theorem crv_one (A B : Nat → Nat) (k : Nat) : (crvCells A B k).all isOne = true := by
  rw [List.all_eq_true]
  intro x hx
  unfold crvCells at hx
  obtain ⟨i, _, hx⟩ := List.mem_flatMap.1 hx
  simp only [List.mem_cons, List.not_mem_nil, or_false] at hx
  rcases hx with rfl | rfl <;> rfl
/-- All that pieces near a path need of it. -/
structure FpOk (MF : Nat → (Nat → CV) → Int → FV) (n : Nat) (P : Nat → CV) : Prop where
  hn : 2 ≤ n ∧ n ≤ 48
  path : Fn Tryz.prog 19 (fun w => [slC w (tabC n P)]) (.raw (.bool true))
  fit : ∃ QQ, FnH (X := (Nat × Nat) × Nat × Nat) Tryz.prog 21 (fun W => [slC W (tabC n P), cA (subC2 (P 1) (P 0)), cA (subC2 (P (n - 1)) (P (n - 2)))]) []
      (fun y => .tup [crvO y.1.1 y.1.2 4, .raw (.slice (some ⟨y.2.1, 0, none⟩) n y.2.2), .raw (.bool true)])
      (fun y => [entF y.2.1 27 n (MF n P) y.2.2, entF y.1.2 27 4 (fun _ => one1) 4, entC y.1.1 4 QQ 4]) (fun y => n ≤ y.2.2 ∧ y.2.2 ≤ maxLen) ∧
    (∀ i : Nat, i < n → ∃ r, Vl .f32 (MF n P i) r) ∧ BdQ QQ ∧ QQ 0 = P 0 ∧ QQ 3 = P (n - 1)
def FpC (MF : Nat → (Nat → CV) → Int → FV) (n : Nat) (P : Nat → CV) (near : FV) : Prop :=
  FnH (X := Nat × Nat × (Nat → Nat) × (Nat → Nat) × Nat × (Nat → Nat → CV)) Tryz.prog 8 (fun W => [slC W (tabC n P), .f .f32 near]) []
    (fun y => .tup [.raw (.slice (some ⟨y.1, 0, none⟩) y.2.2.2.2.1 y.2.1), .raw (.bool true)]) (fun y => entV y.1 y.2.2.1 y.2.2.2.1 y.2.2.2.2.1 y.2.1 :: rowsV y.2.2.1 y.2.2.2.1 y.2.2.2.2.2 y.2.2.2.2.1)
    (fun y => (y.2.2.2.2.1 ≤ y.2.1 ∧ y.2.1 ≤ maxLen) ∧ Chn n P y.2.2.2.2.1 y.2.2.2.2.2 ∧ (cmpB .leq (fcmp .f32 (maxL (MF n P) (n - 1)) near) = true → y.2.2.2.2.1 = 1))
attribute [local irreducible] WS RS Done OpJ Then InBlock Round Ret Env.sub FnH
attribute [local irreducible] tab tabC
set_option maxRecDepth 100000 in
set_option maxHeartbeats 40000000 in
theorem fitPieces_step {MF : Nat → (Nat → CV) → Int → FV} {n : Nat} {P : Nat → CV} {near : FV} (h : FpOk MF n P) (hn1 : finB near = true) (hn2 : cmpB .geq (fcmp .f32 near (fv .f32 0)) = true)
    (ih : ∀ c, 1 ≤ c → c + 1 < n → FpC MF (c + 1) P near ∧ FpC MF (n - c) (fun i => P (i + c)) near) : FpC MF n P near := by
  obtain ⟨⟨hn3, hn48⟩, hp, QQ, hfit, hM, hB, hQ0, hQ3⟩ := h
  have hF := isFinite_fn near
  rw [hn1] at hF
  unfold FpC
  obtain ⟨M, hMe⟩ : ∃ M, M = MF n P := ⟨_, rfl⟩
  rw [← hMe] at hfit hM ⊢
  refine fn_intro Tryz.func8 rfl Tryz.ntmps8 (fun _ => Nat.le_of_ble_eq_true rfl) fun w0 => ?_
  repeat first | refine zai rfl rfl ?_ | refine zaa rfl (zay rfl) ?_ | refine zaa rfl (zaz rfl) ?_ | (refine zac ?_; refine zaa rfl (zbd rfl rfl rfl) ?_) | (refine zad ?_; first | (refine zaa rfl (zci rfl rfl (hp) ?_) ?_; (focus ((repeat (first | exact Takes.nil | refine Takes.sl ?_ | refine Takes.lit ?_ | refine Takes.fa ?_ | refine Takes.fc ?_ | refine Takes.net ?_ | (refine Takes.ownE ?_ ?_ ?_ ?_ ?_; (focus (exact ⟨_, _, (by (repeat (first | exact mh | refine mt ?_)); done)⟩)); (focus (simp; done)); (focus omega); (focus (simp only [maxLen]; omega))) | refine Takes.same ?_)); done))) | (refine zaa rfl (zci rfl rfl (hF) ?_) ?_; (focus ((repeat (first | exact Takes.nil | refine Takes.sl ?_ | refine Takes.lit ?_ | refine Takes.fa ?_ | refine Takes.fc ?_ | refine Takes.net ?_ | (refine Takes.ownE ?_ ?_ ?_ ?_ ?_; (focus (exact ⟨_, _, (by (repeat (first | exact mh | refine mt ?_)); done)⟩)); (focus (simp; done)); (focus omega); (focus (simp only [maxLen]; omega))) | refine Takes.same ?_)); done)))) | refine zaa rfl (zcb rfl rfl) ?_ | refine zaa rfl (zcc rfl) ?_ | refine zah ?_ | (refine zcr ?_; refine zcs ?_) | (refine zdb ?_; first | refine zdc ?_ | refine zdd ?_)
  rw [hn2]
  repeat first | refine zaa rfl (zay rfl) ?_ | refine zaa rfl (zaz rfl) ?_ | (refine zad ?_; refine zaa rfl (opj_lenC rfl) ?_) | refine zah ?_ | (refine zcr ?_; refine zcs ?_) | (refine zdb ?_; first | refine zdc ?_ | refine zdd ?_ | refine zdf ?_ | refine zdj rfl ?_)
  refine ws_K (Y := ((Nat × Nat) × Nat × Nat) × Nat) (E := fun y => [(9, .raw (.bool true)), (8, .raw (.slice (some ⟨y.1.2.1, 0, none⟩) n y.1.2.2)), (7, .raw (.pointer (some ⟨y.2, 0, none⟩))), (0, slC w0 (tabC n P)), (1, .f .f32 near), (6, .raw (.int .i64 n))])
    (SS := fun y => St w0 [] [⟨y.2, 35, [.raw (.slice (some ⟨y.1.1.1, 0, none⟩) 4 4), .raw (.slice (some ⟨y.1.1.2, 0, none⟩) 4 4)], 2⟩, entF y.1.2.1 27 n M y.1.2.2, entF y.1.1.2 27 4 (fun _ => one1) 4, entC y.1.1.1 4 QQ 4]) (ok := fun y => n ≤ y.1.2.2 ∧ y.1.2.2 ≤ maxLen) (fun hD => ?_) (fun y hy => ?_)
  · have hm1 := minus_fn (P 1) (P 0)
    have hm2 := minus_fn (P (n - 1)) (P (n - 2))
    have e0 : (0 : Int).toNat = 0 := rfl
    have e1 : (1 : Int).toNat = 1 := rfl
    have en1 : ((n : Int) - 1).toNat = n - 1 := by omega
    have en2 : ((n : Int) - 2).toNat = n - 2 := by omega
    refine ws_drawF (m := 19) (f := 24) (df := 7) (W := St w0 [] []) (S1 := fun g => St w0 [] [⟨g, 35, [.raw (.slice none 0 0), .raw (.slice none 0 0)], 2⟩]) mixed (by decide +kernel) rfl rfl (fun _ h => h) (fun _ _ h => h.weak (List.nil_sublist _)) (fun o ho => by cases ho; exact makesX_alloc rfl rfl rfl) ?_
    repeat first | refine zap rfl (zay rfl) ?_ | (refine zar ?_; refine zap rfl (zbc rfl rfl (by omega)) ?_) | (refine zas ?_; (refine zap rfl (zci rfl rfl (hm1) ?_) ?_; (focus ((repeat (first | exact Takes.nil | refine Takes.sl ?_ | refine Takes.lit ?_ | refine Takes.fa ?_ | refine Takes.fc ?_ | refine Takes.net ?_ | (refine Takes.ownE ?_ ?_ ?_ ?_ ?_; (focus (exact ⟨_, _, (by (repeat (first | exact mh | refine mt ?_)); done)⟩)); (focus (simp; done)); (focus omega); (focus (simp only [maxLen]; omega))) | refine Takes.same ?_)); done)))) | (refine zat ?_; refine zap rfl (zbu rfl rfl) ?_) | (refine zau ?_; refine zap rfl (opj_indexC rfl rfl (by omega) (by omega)) ?_)
    rw [en1]
    skip
    rw [en2]
    repeat first | (refine zas ?_; (refine zap rfl (zci rfl rfl (hm2) ?_) ?_; (focus ((repeat (first | exact Takes.nil | refine Takes.sl ?_ | refine Takes.lit ?_ | refine Takes.fa ?_ | refine Takes.fc ?_ | refine Takes.net ?_ | (refine Takes.ownE ?_ ?_ ?_ ?_ ?_; (focus (exact ⟨_, _, (by (repeat (first | exact mh | refine mt ?_)); done)⟩)); (focus (simp; done)); (focus omega); (focus (simp only [maxLen]; omega))) | refine Takes.same ?_)); done)))) | refine zav ?_
    refine raF_name fun o ho Q' hQ => ?_
    have r19_20_21_22_23_24_25_26_27 : ∀ (a b gm cm gq : Nat), (n ≤ cm ∧ cm ≤ maxLen) → RA Tryz.prog 109 o (LD 28 19 [19, 20, 21, 22, 23, 24, 25, 26, 27]) 0 [(9, .raw (.bool true)), (8, .raw (.slice (some ⟨gm, 0, none⟩) n cm)), (7, .raw (.pointer (some ⟨gq, 0, none⟩))), (0, slC w0 (tabC n P)), (1, .f .f32 near), (6, .raw (.int .i64 n))] (St w0 [] [⟨gq, 35, [.raw (.slice (some ⟨a, 0, none⟩) 4 4), .raw (.slice (some ⟨b, 0, none⟩) 4 4)], 2⟩, entF gm 27 n M cm, entF b 27 4 (fun _ => one1) 4, entC a 4 QQ 4]) Q' := fun a b gm cm gq hc => ra_end (by rw [ho]; decide +kernel) (by rw [hQ]; exact (hD (((a, b), gm, cm), gq) hc))
    have r19_20_21_22_23_24_25_26 : ∀ (a b gm cm gq : Nat), (n ≤ cm ∧ cm ≤ maxLen) → RA Tryz.prog 109 o (LD 28 19 [19, 20, 21, 22, 23, 24, 25, 26]) 1 [(8, .raw (.slice (some ⟨gm, 0, none⟩) n cm)), (7, .raw (.pointer (some ⟨gq, 0, none⟩))), (54, .raw (.bool true)), (53, .raw (.slice (some ⟨gm, 0, none⟩) n cm)), (52, crvO a b 4), (31, .tup [crvO a b 4, .raw (.slice (some ⟨gm, 0, none⟩) n cm), .raw (.bool true)]), (51, .tup [crvO a b 4, .raw (.slice (some ⟨gm, 0, none⟩) n cm), .raw (.bool true)]), (0, slC w0 (tabC n P)), (1, .f .f32 near), (6, .raw (.int .i64 n))] (St w0 [] [⟨gq, 35, [.raw (.slice (some ⟨a, 0, none⟩) 4 4), .raw (.slice (some ⟨b, 0, none⟩) 4 4)], 2⟩, entF gm 27 n M cm, entF b 27 4 (fun _ => one1) 4, entC a 4 QQ 4]) Q' := fun a b gm cm gq hc => by
      refine ra_list [27] (by rw [ho]; decide +kernel) rfl ⟨?_, trivial⟩
      · refine ro_op (by rw [ho]; rfl) rfl (zaz rfl) ?_
        exact RA.weak (RA.toL' (r19_20_21_22_23_24_25_26_27 a b gm cm gq hc) (by decide +kernel)) (by (repeat (first | exact Env.sub_nil _ | refine Env.sub_cons rfl ?_))) (fun _ h => h)
    have r19_20_21_22_23_24_25 : ∀ (a b gm cm gq : Nat), (n ≤ cm ∧ cm ≤ maxLen) → RA Tryz.prog 109 o (LD 28 19 [19, 20, 21, 22, 23, 24, 25]) 2 [(7, .raw (.pointer (some ⟨gq, 0, none⟩))), (54, .raw (.bool true)), (53, .raw (.slice (some ⟨gm, 0, none⟩) n cm)), (52, crvO a b 4), (31, .tup [crvO a b 4, .raw (.slice (some ⟨gm, 0, none⟩) n cm), .raw (.bool true)]), (51, .tup [crvO a b 4, .raw (.slice (some ⟨gm, 0, none⟩) n cm), .raw (.bool true)]), (0, slC w0 (tabC n P)), (1, .f .f32 near), (6, .raw (.int .i64 n))] (St w0 [] [⟨gq, 35, [.raw (.slice (some ⟨a, 0, none⟩) 4 4), .raw (.slice (some ⟨b, 0, none⟩) 4 4)], 2⟩, entF gm 27 n M cm, entF b 27 4 (fun _ => one1) 4, entC a 4 QQ 4]) Q' := fun a b gm cm gq hc => by
      refine ra_list [26] (by rw [ho]; decide +kernel) rfl ⟨?_, trivial⟩
      · refine ro_op (by rw [ho]; rfl) rfl (zaz rfl) ?_
        exact RA.weak (RA.toL' (r19_20_21_22_23_24_25_26 a b gm cm gq hc) (by decide +kernel)) (by (repeat (first | exact Env.sub_nil _ | refine Env.sub_cons rfl ?_))) (fun _ h => h)
    have r19_20_21_22_24_25_26 : ∀ (a b gm cm gq : Nat), (n ≤ cm ∧ cm ≤ maxLen) → RA Tryz.prog 109 o (LD 28 19 [19, 20, 21, 22, 24, 25, 26]) 2 [(8, .raw (.slice (some ⟨gm, 0, none⟩) n cm)), (7, .raw (.pointer (some ⟨gq, 0, none⟩))), (53, .raw (.slice (some ⟨gm, 0, none⟩) n cm)), (52, crvO a b 4), (31, .tup [crvO a b 4, .raw (.slice (some ⟨gm, 0, none⟩) n cm), .raw (.bool true)]), (51, .tup [crvO a b 4, .raw (.slice (some ⟨gm, 0, none⟩) n cm), .raw (.bool true)]), (0, slC w0 (tabC n P)), (1, .f .f32 near), (6, .raw (.int .i64 n))] (St w0 [] [⟨gq, 35, [.raw (.slice (some ⟨a, 0, none⟩) 4 4), .raw (.slice (some ⟨b, 0, none⟩) 4 4)], 2⟩, entF gm 27 n M cm, entF b 27 4 (fun _ => one1) 4, entC a 4 QQ 4]) Q' := fun a b gm cm gq hc => by
      refine ra_list [23] (by rw [ho]; decide +kernel) rfl ⟨?_, trivial⟩
      · refine ro_op (by rw [ho]; rfl) rfl (zbz rfl rfl) ?_
        exact RA.weak (RA.toL' (r19_20_21_22_23_24_25_26 a b gm cm gq hc) (by decide +kernel)) (by (repeat (first | exact Env.sub_nil _ | refine Env.sub_cons rfl ?_))) (fun _ h => h)
    have r19_20_21_22_23_24 : ∀ (a b gm cm gq : Nat), (n ≤ cm ∧ cm ≤ maxLen) → RA Tryz.prog 109 o (LD 28 19 [19, 20, 21, 22, 23, 24]) 3 [(7, .raw (.pointer (some ⟨gq, 0, none⟩))), (54, .raw (.bool true)), (53, .raw (.slice (some ⟨gm, 0, none⟩) n cm)), (52, crvO a b 4), (31, .tup [crvO a b 4, .raw (.slice (some ⟨gm, 0, none⟩) n cm), .raw (.bool true)]), (51, .tup [crvO a b 4, .raw (.slice (some ⟨gm, 0, none⟩) n cm), .raw (.bool true)]), (0, slC w0 (tabC n P)), (1, .f .f32 near), (6, .raw (.int .i64 n))] (St w0 [] [⟨gq, 35, [.raw (.slice none 0 0), .raw (.slice none 0 0)], 2⟩, entF gm 27 n M cm, entF b 27 4 (fun _ => one1) 4, entC a 4 QQ 4]) Q' := fun a b gm cm gq hc => by
      refine ra_list [25] (by rw [ho]; decide +kernel) rfl ⟨?_, trivial⟩
      · refine ro_effs (by rw [ho]; rfl) rfl (effs_storeAX (R := fun _ => True) (w0 := w0) (gs := []) 0 rfl rfl rfl rfl rfl rfl rfl rfl rfl) ?_
        exact RA.weak (RA.toL' (r19_20_21_22_23_24_25 a b gm cm gq hc) (by decide +kernel)) (by (repeat (first | exact Env.sub_nil _ | refine Env.sub_cons rfl ?_))) (fun _ h => h)
    have r19_20_21_22_24_25 : ∀ (a b gm cm gq : Nat), (n ≤ cm ∧ cm ≤ maxLen) → RA Tryz.prog 109 o (LD 28 19 [19, 20, 21, 22, 24, 25]) 3 [(7, .raw (.pointer (some ⟨gq, 0, none⟩))), (53, .raw (.slice (some ⟨gm, 0, none⟩) n cm)), (52, crvO a b 4), (31, .tup [crvO a b 4, .raw (.slice (some ⟨gm, 0, none⟩) n cm), .raw (.bool true)]), (51, .tup [crvO a b 4, .raw (.slice (some ⟨gm, 0, none⟩) n cm), .raw (.bool true)]), (0, slC w0 (tabC n P)), (1, .f .f32 near), (6, .raw (.int .i64 n))] (St w0 [] [⟨gq, 35, [.raw (.slice (some ⟨a, 0, none⟩) 4 4), .raw (.slice (some ⟨b, 0, none⟩) 4 4)], 2⟩, entF gm 27 n M cm, entF b 27 4 (fun _ => one1) 4, entC a 4 QQ 4]) Q' := fun a b gm cm gq hc => by
      refine ra_list [23, 26] (by rw [ho]; decide +kernel) rfl ⟨?_, ?_, trivial⟩
      · refine ro_op (by rw [ho]; rfl) rfl (zbz rfl rfl) ?_
        exact RA.weak (RA.toL' (r19_20_21_22_23_24_25 a b gm cm gq hc) (by decide +kernel)) (by (repeat (first | exact Env.sub_nil _ | refine Env.sub_cons rfl ?_))) (fun _ h => h)
      · refine ro_op (by rw [ho]; rfl) rfl (zaz rfl) ?_
        exact RA.weak (RA.toL' (r19_20_21_22_24_25_26 a b gm cm gq hc) (by decide +kernel)) (by (repeat (first | exact Env.sub_nil _ | refine Env.sub_cons rfl ?_))) (fun _ h => h)
    have r19_20_21_23_24_25 : ∀ (a b gm cm gq : Nat), (n ≤ cm ∧ cm ≤ maxLen) → RA Tryz.prog 109 o (LD 28 19 [19, 20, 21, 23, 24, 25]) 3 [(7, .raw (.pointer (some ⟨gq, 0, none⟩))), (54, .raw (.bool true)), (52, crvO a b 4), (31, .tup [crvO a b 4, .raw (.slice (some ⟨gm, 0, none⟩) n cm), .raw (.bool true)]), (51, .tup [crvO a b 4, .raw (.slice (some ⟨gm, 0, none⟩) n cm), .raw (.bool true)]), (0, slC w0 (tabC n P)), (1, .f .f32 near), (6, .raw (.int .i64 n))] (St w0 [] [⟨gq, 35, [.raw (.slice (some ⟨a, 0, none⟩) 4 4), .raw (.slice (some ⟨b, 0, none⟩) 4 4)], 2⟩, entF gm 27 n M cm, entF b 27 4 (fun _ => one1) 4, entC a 4 QQ 4]) Q' := fun a b gm cm gq hc => by
      refine ra_list [22] (by rw [ho]; decide +kernel) rfl ⟨?_, trivial⟩
      · refine ro_op (by rw [ho]; rfl) rfl (zbz rfl rfl) ?_
        exact RA.weak (RA.toL' (r19_20_21_22_23_24_25 a b gm cm gq hc) (by decide +kernel)) (by (repeat (first | exact Env.sub_nil _ | refine Env.sub_cons rfl ?_))) (fun _ h => h)
    have r19_20_21_22_23 : ∀ (a b gm cm : Nat), (n ≤ cm ∧ cm ≤ maxLen) → RA Tryz.prog 109 o (LD 28 19 [19, 20, 21, 22, 23]) 4 [(54, .raw (.bool true)), (53, .raw (.slice (some ⟨gm, 0, none⟩) n cm)), (52, crvO a b 4), (31, .tup [crvO a b 4, .raw (.slice (some ⟨gm, 0, none⟩) n cm), .raw (.bool true)]), (51, .tup [crvO a b 4, .raw (.slice (some ⟨gm, 0, none⟩) n cm), .raw (.bool true)]), (0, slC w0 (tabC n P)), (1, .f .f32 near), (6, .raw (.int .i64 n))] (St w0 [] [entF gm 27 n M cm, entF b 27 4 (fun _ => one1) 4, entC a 4 QQ 4]) Q' := fun a b gm cm hc => by
      refine ra_list [24] (by rw [ho]; decide +kernel) rfl ⟨?_, trivial⟩
      · refine ro_makes (by rw [ho]; rfl) rfl rfl rfl (makesX_alloc (R := fun _ => True) (w0 := w0) (gs := []) rfl rfl rfl) fun gq => ?_
        exact RA.weak (RA.toL' (r19_20_21_22_23_24 a b gm cm gq hc) (by decide +kernel)) (by (repeat (first | exact Env.sub_nil _ | refine Env.sub_cons rfl ?_))) (fun _ h => h)
    have r19_20_21_22_24 : ∀ (a b gm cm gq : Nat), (n ≤ cm ∧ cm ≤ maxLen) → RA Tryz.prog 109 o (LD 28 19 [19, 20, 21, 22, 24]) 4 [(7, .raw (.pointer (some ⟨gq, 0, none⟩))), (53, .raw (.slice (some ⟨gm, 0, none⟩) n cm)), (52, crvO a b 4), (31, .tup [crvO a b 4, .raw (.slice (some ⟨gm, 0, none⟩) n cm), .raw (.bool true)]), (51, .tup [crvO a b 4, .raw (.slice (some ⟨gm, 0, none⟩) n cm), .raw (.bool true)]), (0, slC w0 (tabC n P)), (1, .f .f32 near), (6, .raw (.int .i64 n))] (St w0 [] [⟨gq, 35, [.raw (.slice none 0 0), .raw (.slice none 0 0)], 2⟩, entF gm 27 n M cm, entF b 27 4 (fun _ => one1) 4, entC a 4 QQ 4]) Q' := fun a b gm cm gq hc => by
      refine ra_list [23, 25] (by rw [ho]; decide +kernel) rfl ⟨?_, ?_, trivial⟩
      · refine ro_op (by rw [ho]; rfl) rfl (zbz rfl rfl) ?_
        exact RA.weak (RA.toL' (r19_20_21_22_23_24 a b gm cm gq hc) (by decide +kernel)) (by (repeat (first | exact Env.sub_nil _ | refine Env.sub_cons rfl ?_))) (fun _ h => h)
      · refine ro_effs (by rw [ho]; rfl) rfl (effs_storeAX (R := fun _ => True) (w0 := w0) (gs := []) 0 rfl rfl rfl rfl rfl rfl rfl rfl rfl) ?_
        exact RA.weak (RA.toL' (r19_20_21_22_24_25 a b gm cm gq hc) (by decide +kernel)) (by (repeat (first | exact Env.sub_nil _ | refine Env.sub_cons rfl ?_))) (fun _ h => h)
    have r19_20_21_23_24 : ∀ (a b gm cm gq : Nat), (n ≤ cm ∧ cm ≤ maxLen) → RA Tryz.prog 109 o (LD 28 19 [19, 20, 21, 23, 24]) 4 [(7, .raw (.pointer (some ⟨gq, 0, none⟩))), (54, .raw (.bool true)), (52, crvO a b 4), (31, .tup [crvO a b 4, .raw (.slice (some ⟨gm, 0, none⟩) n cm), .raw (.bool true)]), (51, .tup [crvO a b 4, .raw (.slice (some ⟨gm, 0, none⟩) n cm), .raw (.bool true)]), (0, slC w0 (tabC n P)), (1, .f .f32 near), (6, .raw (.int .i64 n))] (St w0 [] [⟨gq, 35, [.raw (.slice none 0 0), .raw (.slice none 0 0)], 2⟩, entF gm 27 n M cm, entF b 27 4 (fun _ => one1) 4, entC a 4 QQ 4]) Q' := fun a b gm cm gq hc => by
      refine ra_list [22, 25] (by rw [ho]; decide +kernel) rfl ⟨?_, ?_, trivial⟩
      · refine ro_op (by rw [ho]; rfl) rfl (zbz rfl rfl) ?_
        exact RA.weak (RA.toL' (r19_20_21_22_23_24 a b gm cm gq hc) (by decide +kernel)) (by (repeat (first | exact Env.sub_nil _ | refine Env.sub_cons rfl ?_))) (fun _ h => h)
      · refine ro_effs (by rw [ho]; rfl) rfl (effs_storeAX (R := fun _ => True) (w0 := w0) (gs := []) 0 rfl rfl rfl rfl rfl rfl rfl rfl rfl) ?_
        exact RA.weak (RA.toL' (r19_20_21_23_24_25 a b gm cm gq hc) (by decide +kernel)) (by (repeat (first | exact Env.sub_nil _ | refine Env.sub_cons rfl ?_))) (fun _ h => h)
    have r19_20_21_24_25 : ∀ (a b gm cm gq : Nat), (n ≤ cm ∧ cm ≤ maxLen) → RA Tryz.prog 109 o (LD 28 19 [19, 20, 21, 24, 25]) 4 [(7, .raw (.pointer (some ⟨gq, 0, none⟩))), (52, crvO a b 4), (31, .tup [crvO a b 4, .raw (.slice (some ⟨gm, 0, none⟩) n cm), .raw (.bool true)]), (51, .tup [crvO a b 4, .raw (.slice (some ⟨gm, 0, none⟩) n cm), .raw (.bool true)]), (0, slC w0 (tabC n P)), (1, .f .f32 near), (6, .raw (.int .i64 n))] (St w0 [] [⟨gq, 35, [.raw (.slice (some ⟨a, 0, none⟩) 4 4), .raw (.slice (some ⟨b, 0, none⟩) 4 4)], 2⟩, entF gm 27 n M cm, entF b 27 4 (fun _ => one1) 4, entC a 4 QQ 4]) Q' := fun a b gm cm gq hc => by
      refine ra_list [22, 23] (by rw [ho]; decide +kernel) rfl ⟨?_, ?_, trivial⟩
      · refine ro_op (by rw [ho]; rfl) rfl (zbz rfl rfl) ?_
        exact RA.weak (RA.toL' (r19_20_21_22_24_25 a b gm cm gq hc) (by decide +kernel)) (by (repeat (first | exact Env.sub_nil _ | refine Env.sub_cons rfl ?_))) (fun _ h => h)
      · refine ro_op (by rw [ho]; rfl) rfl (zbz rfl rfl) ?_
        exact RA.weak (RA.toL' (r19_20_21_23_24_25 a b gm cm gq hc) (by decide +kernel)) (by (repeat (first | exact Env.sub_nil _ | refine Env.sub_cons rfl ?_))) (fun _ h => h)
    have r19_20_22_23_24 : ∀ (a b gm cm gq : Nat), (n ≤ cm ∧ cm ≤ maxLen) → RA Tryz.prog 109 o (LD 28 19 [19, 20, 22, 23, 24]) 4 [(7, .raw (.pointer (some ⟨gq, 0, none⟩))), (54, .raw (.bool true)), (53, .raw (.slice (some ⟨gm, 0, none⟩) n cm)), (31, .tup [crvO a b 4, .raw (.slice (some ⟨gm, 0, none⟩) n cm), .raw (.bool true)]), (51, .tup [crvO a b 4, .raw (.slice (some ⟨gm, 0, none⟩) n cm), .raw (.bool true)]), (0, slC w0 (tabC n P)), (1, .f .f32 near), (6, .raw (.int .i64 n))] (St w0 [] [⟨gq, 35, [.raw (.slice none 0 0), .raw (.slice none 0 0)], 2⟩, entF gm 27 n M cm, entF b 27 4 (fun _ => one1) 4, entC a 4 QQ 4]) Q' := fun a b gm cm gq hc => by
      refine ra_list [21] (by rw [ho]; decide +kernel) rfl ⟨?_, trivial⟩
      · refine ro_op (by rw [ho]; rfl) rfl (zbz rfl rfl) ?_
        exact RA.weak (RA.toL' (r19_20_21_22_23_24 a b gm cm gq hc) (by decide +kernel)) (by (repeat (first | exact Env.sub_nil _ | refine Env.sub_cons rfl ?_))) (fun _ h => h)
    have r19_20_21_22 : ∀ (a b gm cm : Nat), (n ≤ cm ∧ cm ≤ maxLen) → RA Tryz.prog 109 o (LD 28 19 [19, 20, 21, 22]) 5 [(53, .raw (.slice (some ⟨gm, 0, none⟩) n cm)), (52, crvO a b 4), (31, .tup [crvO a b 4, .raw (.slice (some ⟨gm, 0, none⟩) n cm), .raw (.bool true)]), (51, .tup [crvO a b 4, .raw (.slice (some ⟨gm, 0, none⟩) n cm), .raw (.bool true)]), (0, slC w0 (tabC n P)), (1, .f .f32 near), (6, .raw (.int .i64 n))] (St w0 [] [entF gm 27 n M cm, entF b 27 4 (fun _ => one1) 4, entC a 4 QQ 4]) Q' := fun a b gm cm hc => by
      refine ra_list [23, 24] (by rw [ho]; decide +kernel) rfl ⟨?_, ?_, trivial⟩
      · refine ro_op (by rw [ho]; rfl) rfl (zbz rfl rfl) ?_
        exact RA.weak (RA.toL' (r19_20_21_22_23 a b gm cm hc) (by decide +kernel)) (by (repeat (first | exact Env.sub_nil _ | refine Env.sub_cons rfl ?_))) (fun _ h => h)
      · refine ro_makes (by rw [ho]; rfl) rfl rfl rfl (makesX_alloc (R := fun _ => True) (w0 := w0) (gs := []) rfl rfl rfl) fun gq => ?_
        exact RA.weak (RA.toL' (r19_20_21_22_24 a b gm cm gq hc) (by decide +kernel)) (by (repeat (first | exact Env.sub_nil _ | refine Env.sub_cons rfl ?_))) (fun _ h => h)
    have r19_20_21_23 : ∀ (a b gm cm : Nat), (n ≤ cm ∧ cm ≤ maxLen) → RA Tryz.prog 109 o (LD 28 19 [19, 20, 21, 23]) 5 [(54, .raw (.bool true)), (52, crvO a b 4), (31, .tup [crvO a b 4, .raw (.slice (some ⟨gm, 0, none⟩) n cm), .raw (.bool true)]), (51, .tup [crvO a b 4, .raw (.slice (some ⟨gm, 0, none⟩) n cm), .raw (.bool true)]), (0, slC w0 (tabC n P)), (1, .f .f32 near), (6, .raw (.int .i64 n))] (St w0 [] [entF gm 27 n M cm, entF b 27 4 (fun _ => one1) 4, entC a 4 QQ 4]) Q' := fun a b gm cm hc => by
      refine ra_list [22, 24] (by rw [ho]; decide +kernel) rfl ⟨?_, ?_, trivial⟩
      · refine ro_op (by rw [ho]; rfl) rfl (zbz rfl rfl) ?_
        exact RA.weak (RA.toL' (r19_20_21_22_23 a b gm cm hc) (by decide +kernel)) (by (repeat (first | exact Env.sub_nil _ | refine Env.sub_cons rfl ?_))) (fun _ h => h)
      · refine ro_makes (by rw [ho]; rfl) rfl rfl rfl (makesX_alloc (R := fun _ => True) (w0 := w0) (gs := []) rfl rfl rfl) fun gq => ?_
        exact RA.weak (RA.toL' (r19_20_21_23_24 a b gm cm gq hc) (by decide +kernel)) (by (repeat (first | exact Env.sub_nil _ | refine Env.sub_cons rfl ?_))) (fun _ h => h)
    have r19_20_21_24 : ∀ (a b gm cm gq : Nat), (n ≤ cm ∧ cm ≤ maxLen) → RA Tryz.prog 109 o (LD 28 19 [19, 20, 21, 24]) 5 [(7, .raw (.pointer (some ⟨gq, 0, none⟩))), (52, crvO a b 4), (31, .tup [crvO a b 4, .raw (.slice (some ⟨gm, 0, none⟩) n cm), .raw (.bool true)]), (51, .tup [crvO a b 4, .raw (.slice (some ⟨gm, 0, none⟩) n cm), .raw (.bool true)]), (0, slC w0 (tabC n P)), (1, .f .f32 near), (6, .raw (.int .i64 n))] (St w0 [] [⟨gq, 35, [.raw (.slice none 0 0), .raw (.slice none 0 0)], 2⟩, entF gm 27 n M cm, entF b 27 4 (fun _ => one1) 4, entC a 4 QQ 4]) Q' := fun a b gm cm gq hc => by
      refine ra_list [22, 23, 25] (by rw [ho]; decide +kernel) rfl ⟨?_, ?_, ?_, trivial⟩
      · refine ro_op (by rw [ho]; rfl) rfl (zbz rfl rfl) ?_
        exact RA.weak (RA.toL' (r19_20_21_22_24 a b gm cm gq hc) (by decide +kernel)) (by (repeat (first | exact Env.sub_nil _ | refine Env.sub_cons rfl ?_))) (fun _ h => h)
      · refine ro_op (by rw [ho]; rfl) rfl (zbz rfl rfl) ?_
        exact RA.weak (RA.toL' (r19_20_21_23_24 a b gm cm gq hc) (by decide +kernel)) (by (repeat (first | exact Env.sub_nil _ | refine Env.sub_cons rfl ?_))) (fun _ h => h)
      · refine ro_effs (by rw [ho]; rfl) rfl (effs_storeAX (R := fun _ => True) (w0 := w0) (gs := []) 0 rfl rfl rfl rfl rfl rfl rfl rfl rfl) ?_
        exact RA.weak (RA.toL' (r19_20_21_24_25 a b gm cm gq hc) (by decide +kernel)) (by (repeat (first | exact Env.sub_nil _ | refine Env.sub_cons rfl ?_))) (fun _ h => h)
    have r19_20_22_23 : ∀ (a b gm cm : Nat), (n ≤ cm ∧ cm ≤ maxLen) → RA Tryz.prog 109 o (LD 28 19 [19, 20, 22, 23]) 5 [(54, .raw (.bool true)), (53, .raw (.slice (some ⟨gm, 0, none⟩) n cm)), (31, .tup [crvO a b 4, .raw (.slice (some ⟨gm, 0, none⟩) n cm), .raw (.bool true)]), (51, .tup [crvO a b 4, .raw (.slice (some ⟨gm, 0, none⟩) n cm), .raw (.bool true)]), (0, slC w0 (tabC n P)), (1, .f .f32 near), (6, .raw (.int .i64 n))] (St w0 [] [entF gm 27 n M cm, entF b 27 4 (fun _ => one1) 4, entC a 4 QQ 4]) Q' := fun a b gm cm hc => by
      refine ra_list [21, 24] (by rw [ho]; decide +kernel) rfl ⟨?_, ?_, trivial⟩
      · refine ro_op (by rw [ho]; rfl) rfl (zbz rfl rfl) ?_
        exact RA.weak (RA.toL' (r19_20_21_22_23 a b gm cm hc) (by decide +kernel)) (by (repeat (first | exact Env.sub_nil _ | refine Env.sub_cons rfl ?_))) (fun _ h => h)
      · refine ro_makes (by rw [ho]; rfl) rfl rfl rfl (makesX_alloc (R := fun _ => True) (w0 := w0) (gs := []) rfl rfl rfl) fun gq => ?_
        exact RA.weak (RA.toL' (r19_20_22_23_24 a b gm cm gq hc) (by decide +kernel)) (by (repeat (first | exact Env.sub_nil _ | refine Env.sub_cons rfl ?_))) (fun _ h => h)
    have r19_20_22_24 : ∀ (a b gm cm gq : Nat), (n ≤ cm ∧ cm ≤ maxLen) → RA Tryz.prog 109 o (LD 28 19 [19, 20, 22, 24]) 5 [(7, .raw (.pointer (some ⟨gq, 0, none⟩))), (53, .raw (.slice (some ⟨gm, 0, none⟩) n cm)), (31, .tup [crvO a b 4, .raw (.slice (some ⟨gm, 0, none⟩) n cm), .raw (.bool true)]), (51, .tup [crvO a b 4, .raw (.slice (some ⟨gm, 0, none⟩) n cm), .raw (.bool true)]), (0, slC w0 (tabC n P)), (1, .f .f32 near), (6, .raw (.int .i64 n))] (St w0 [] [⟨gq, 35, [.raw (.slice none 0 0), .raw (.slice none 0 0)], 2⟩, entF gm 27 n M cm, entF b 27 4 (fun _ => one1) 4, entC a 4 QQ 4]) Q' := fun a b gm cm gq hc => by
      refine ra_list [21, 23] (by rw [ho]; decide +kernel) rfl ⟨?_, ?_, trivial⟩
      · refine ro_op (by rw [ho]; rfl) rfl (zbz rfl rfl) ?_
        exact RA.weak (RA.toL' (r19_20_21_22_24 a b gm cm gq hc) (by decide +kernel)) (by (repeat (first | exact Env.sub_nil _ | refine Env.sub_cons rfl ?_))) (fun _ h => h)
      · refine ro_op (by rw [ho]; rfl) rfl (zbz rfl rfl) ?_
        exact RA.weak (RA.toL' (r19_20_22_23_24 a b gm cm gq hc) (by decide +kernel)) (by (repeat (first | exact Env.sub_nil _ | refine Env.sub_cons rfl ?_))) (fun _ h => h)
    have r19_20_23_24 : ∀ (a b gm cm gq : Nat), (n ≤ cm ∧ cm ≤ maxLen) → RA Tryz.prog 109 o (LD 28 19 [19, 20, 23, 24]) 5 [(7, .raw (.pointer (some ⟨gq, 0, none⟩))), (54, .raw (.bool true)), (31, .tup [crvO a b 4, .raw (.slice (some ⟨gm, 0, none⟩) n cm), .raw (.bool true)]), (51, .tup [crvO a b 4, .raw (.slice (some ⟨gm, 0, none⟩) n cm), .raw (.bool true)]), (0, slC w0 (tabC n P)), (1, .f .f32 near), (6, .raw (.int .i64 n))] (St w0 [] [⟨gq, 35, [.raw (.slice none 0 0), .raw (.slice none 0 0)], 2⟩, entF gm 27 n M cm, entF b 27 4 (fun _ => one1) 4, entC a 4 QQ 4]) Q' := fun a b gm cm gq hc => by
      refine ra_list [21, 22] (by rw [ho]; decide +kernel) rfl ⟨?_, ?_, trivial⟩
      · refine ro_op (by rw [ho]; rfl) rfl (zbz rfl rfl) ?_
        exact RA.weak (RA.toL' (r19_20_21_23_24 a b gm cm gq hc) (by decide +kernel)) (by (repeat (first | exact Env.sub_nil _ | refine Env.sub_cons rfl ?_))) (fun _ h => h)
      · refine ro_op (by rw [ho]; rfl) rfl (zbz rfl rfl) ?_
        exact RA.weak (RA.toL' (r19_20_22_23_24 a b gm cm gq hc) (by decide +kernel)) (by (repeat (first | exact Env.sub_nil _ | refine Env.sub_cons rfl ?_))) (fun _ h => h)
    have r19_20_21 : ∀ (a b gm cm : Nat), (n ≤ cm ∧ cm ≤ maxLen) → RA Tryz.prog 109 o (LD 28 19 [19, 20, 21]) 6 [(52, crvO a b 4), (31, .tup [crvO a b 4, .raw (.slice (some ⟨gm, 0, none⟩) n cm), .raw (.bool true)]), (51, .tup [crvO a b 4, .raw (.slice (some ⟨gm, 0, none⟩) n cm), .raw (.bool true)]), (0, slC w0 (tabC n P)), (1, .f .f32 near), (6, .raw (.int .i64 n))] (St w0 [] [entF gm 27 n M cm, entF b 27 4 (fun _ => one1) 4, entC a 4 QQ 4]) Q' := fun a b gm cm hc => by
      refine ra_list [22, 23, 24] (by rw [ho]; decide +kernel) rfl ⟨?_, ?_, ?_, trivial⟩
      · refine ro_op (by rw [ho]; rfl) rfl (zbz rfl rfl) ?_
        exact RA.weak (RA.toL' (r19_20_21_22 a b gm cm hc) (by decide +kernel)) (by (repeat (first | exact Env.sub_nil _ | refine Env.sub_cons rfl ?_))) (fun _ h => h)
      · refine ro_op (by rw [ho]; rfl) rfl (zbz rfl rfl) ?_
        exact RA.weak (RA.toL' (r19_20_21_23 a b gm cm hc) (by decide +kernel)) (by (repeat (first | exact Env.sub_nil _ | refine Env.sub_cons rfl ?_))) (fun _ h => h)
      · refine ro_makes (by rw [ho]; rfl) rfl rfl rfl (makesX_alloc (R := fun _ => True) (w0 := w0) (gs := []) rfl rfl rfl) fun gq => ?_
        exact RA.weak (RA.toL' (r19_20_21_24 a b gm cm gq hc) (by decide +kernel)) (by (repeat (first | exact Env.sub_nil _ | refine Env.sub_cons rfl ?_))) (fun _ h => h)
    have r19_20_22 : ∀ (a b gm cm : Nat), (n ≤ cm ∧ cm ≤ maxLen) → RA Tryz.prog 109 o (LD 28 19 [19, 20, 22]) 6 [(53, .raw (.slice (some ⟨gm, 0, none⟩) n cm)), (31, .tup [crvO a b 4, .raw (.slice (some ⟨gm, 0, none⟩) n cm), .raw (.bool true)]), (51, .tup [crvO a b 4, .raw (.slice (some ⟨gm, 0, none⟩) n cm), .raw (.bool true)]), (0, slC w0 (tabC n P)), (1, .f .f32 near), (6, .raw (.int .i64 n))] (St w0 [] [entF gm 27 n M cm, entF b 27 4 (fun _ => one1) 4, entC a 4 QQ 4]) Q' := fun a b gm cm hc => by
      refine ra_list [21, 23, 24] (by rw [ho]; decide +kernel) rfl ⟨?_, ?_, ?_, trivial⟩
      · refine ro_op (by rw [ho]; rfl) rfl (zbz rfl rfl) ?_
        exact RA.weak (RA.toL' (r19_20_21_22 a b gm cm hc) (by decide +kernel)) (by (repeat (first | exact Env.sub_nil _ | refine Env.sub_cons rfl ?_))) (fun _ h => h)
      · refine ro_op (by rw [ho]; rfl) rfl (zbz rfl rfl) ?_
        exact RA.weak (RA.toL' (r19_20_22_23 a b gm cm hc) (by decide +kernel)) (by (repeat (first | exact Env.sub_nil _ | refine Env.sub_cons rfl ?_))) (fun _ h => h)
      · refine ro_makes (by rw [ho]; rfl) rfl rfl rfl (makesX_alloc (R := fun _ => True) (w0 := w0) (gs := []) rfl rfl rfl) fun gq => ?_
        exact RA.weak (RA.toL' (r19_20_22_24 a b gm cm gq hc) (by decide +kernel)) (by (repeat (first | exact Env.sub_nil _ | refine Env.sub_cons rfl ?_))) (fun _ h => h)
    have r19_20_23 : ∀ (a b gm cm : Nat), (n ≤ cm ∧ cm ≤ maxLen) → RA Tryz.prog 109 o (LD 28 19 [19, 20, 23]) 6 [(54, .raw (.bool true)), (31, .tup [crvO a b 4, .raw (.slice (some ⟨gm, 0, none⟩) n cm), .raw (.bool true)]), (51, .tup [crvO a b 4, .raw (.slice (some ⟨gm, 0, none⟩) n cm), .raw (.bool true)]), (0, slC w0 (tabC n P)), (1, .f .f32 near), (6, .raw (.int .i64 n))] (St w0 [] [entF gm 27 n M cm, entF b 27 4 (fun _ => one1) 4, entC a 4 QQ 4]) Q' := fun a b gm cm hc => by
      refine ra_list [21, 22, 24] (by rw [ho]; decide +kernel) rfl ⟨?_, ?_, ?_, trivial⟩
      · refine ro_op (by rw [ho]; rfl) rfl (zbz rfl rfl) ?_
        exact RA.weak (RA.toL' (r19_20_21_23 a b gm cm hc) (by decide +kernel)) (by (repeat (first | exact Env.sub_nil _ | refine Env.sub_cons rfl ?_))) (fun _ h => h)
      · refine ro_op (by rw [ho]; rfl) rfl (zbz rfl rfl) ?_
        exact RA.weak (RA.toL' (r19_20_22_23 a b gm cm hc) (by decide +kernel)) (by (repeat (first | exact Env.sub_nil _ | refine Env.sub_cons rfl ?_))) (fun _ h => h)
      · refine ro_makes (by rw [ho]; rfl) rfl rfl rfl (makesX_alloc (R := fun _ => True) (w0 := w0) (gs := []) rfl rfl rfl) fun gq => ?_
        exact RA.weak (RA.toL' (r19_20_23_24 a b gm cm gq hc) (by decide +kernel)) (by (repeat (first | exact Env.sub_nil _ | refine Env.sub_cons rfl ?_))) (fun _ h => h)
    have r19_20_24 : ∀ (a b gm cm gq : Nat), (n ≤ cm ∧ cm ≤ maxLen) → RA Tryz.prog 109 o (LD 28 19 [19, 20, 24]) 6 [(7, .raw (.pointer (some ⟨gq, 0, none⟩))), (31, .tup [crvO a b 4, .raw (.slice (some ⟨gm, 0, none⟩) n cm), .raw (.bool true)]), (51, .tup [crvO a b 4, .raw (.slice (some ⟨gm, 0, none⟩) n cm), .raw (.bool true)]), (0, slC w0 (tabC n P)), (1, .f .f32 near), (6, .raw (.int .i64 n))] (St w0 [] [⟨gq, 35, [.raw (.slice none 0 0), .raw (.slice none 0 0)], 2⟩, entF gm 27 n M cm, entF b 27 4 (fun _ => one1) 4, entC a 4 QQ 4]) Q' := fun a b gm cm gq hc => by
      refine ra_list [21, 22, 23] (by rw [ho]; decide +kernel) rfl ⟨?_, ?_, ?_, trivial⟩
      · refine ro_op (by rw [ho]; rfl) rfl (zbz rfl rfl) ?_
        exact RA.weak (RA.toL' (r19_20_21_24 a b gm cm gq hc) (by decide +kernel)) (by (repeat (first | exact Env.sub_nil _ | refine Env.sub_cons rfl ?_))) (fun _ h => h)
      · refine ro_op (by rw [ho]; rfl) rfl (zbz rfl rfl) ?_
        exact RA.weak (RA.toL' (r19_20_22_24 a b gm cm gq hc) (by decide +kernel)) (by (repeat (first | exact Env.sub_nil _ | refine Env.sub_cons rfl ?_))) (fun _ h => h)
      · refine ro_op (by rw [ho]; rfl) rfl (zbz rfl rfl) ?_
        exact RA.weak (RA.toL' (r19_20_23_24 a b gm cm gq hc) (by decide +kernel)) (by (repeat (first | exact Env.sub_nil _ | refine Env.sub_cons rfl ?_))) (fun _ h => h)
    have r19_20 : ∀ (a b gm cm : Nat), (n ≤ cm ∧ cm ≤ maxLen) → RA Tryz.prog 109 o (LD 28 19 [19, 20]) 7 [(31, .tup [crvO a b 4, .raw (.slice (some ⟨gm, 0, none⟩) n cm), .raw (.bool true)]), (51, .tup [crvO a b 4, .raw (.slice (some ⟨gm, 0, none⟩) n cm), .raw (.bool true)]), (0, slC w0 (tabC n P)), (1, .f .f32 near), (6, .raw (.int .i64 n))] (St w0 [] [entF gm 27 n M cm, entF b 27 4 (fun _ => one1) 4, entC a 4 QQ 4]) Q' := fun a b gm cm hc => by
      refine ra_list [21, 22, 23, 24] (by rw [ho]; decide +kernel) rfl ⟨?_, ?_, ?_, ?_, trivial⟩
      · refine ro_op (by rw [ho]; rfl) rfl (zbz rfl rfl) ?_
        exact RA.weak (RA.toL' (r19_20_21 a b gm cm hc) (by decide +kernel)) (by (repeat (first | exact Env.sub_nil _ | refine Env.sub_cons rfl ?_))) (fun _ h => h)
      · refine ro_op (by rw [ho]; rfl) rfl (zbz rfl rfl) ?_
        exact RA.weak (RA.toL' (r19_20_22 a b gm cm hc) (by decide +kernel)) (by (repeat (first | exact Env.sub_nil _ | refine Env.sub_cons rfl ?_))) (fun _ h => h)
      · refine ro_op (by rw [ho]; rfl) rfl (zbz rfl rfl) ?_
        exact RA.weak (RA.toL' (r19_20_23 a b gm cm hc) (by decide +kernel)) (by (repeat (first | exact Env.sub_nil _ | refine Env.sub_cons rfl ?_))) (fun _ h => h)
      · refine ro_makes (by rw [ho]; rfl) rfl rfl rfl (makesX_alloc (R := fun _ => True) (w0 := w0) (gs := []) rfl rfl rfl) fun gq => ?_
        exact RA.weak (RA.toL' (r19_20_24 a b gm cm gq hc) (by decide +kernel)) (by (repeat (first | exact Env.sub_nil _ | refine Env.sub_cons rfl ?_))) (fun _ h => h)
    have r19_24 : ∀ (a b gm cm gq : Nat), (n ≤ cm ∧ cm ≤ maxLen) → RA Tryz.prog 109 o (LD 28 19 [19, 24]) 7 [(7, .raw (.pointer (some ⟨gq, 0, none⟩))), (51, .tup [crvO a b 4, .raw (.slice (some ⟨gm, 0, none⟩) n cm), .raw (.bool true)]), (0, slC w0 (tabC n P)), (1, .f .f32 near), (6, .raw (.int .i64 n))] (St w0 [] [⟨gq, 35, [.raw (.slice none 0 0), .raw (.slice none 0 0)], 2⟩, entF gm 27 n M cm, entF b 27 4 (fun _ => one1) 4, entC a 4 QQ 4]) Q' := fun a b gm cm gq hc => by
      refine ra_list [20] (by rw [ho]; decide +kernel) rfl ⟨?_, trivial⟩
      · refine ro_op (by rw [ho]; rfl) rfl (zay rfl) ?_
        exact RA.weak (RA.toL' (r19_20_24 a b gm cm gq hc) (by decide +kernel)) (by (repeat (first | exact Env.sub_nil _ | refine Env.sub_cons rfl ?_))) (fun _ h => h)
    have r19 : ∀ (a b gm cm : Nat), (n ≤ cm ∧ cm ≤ maxLen) → RA Tryz.prog 109 o (LD 28 19 [19]) 8 [(51, .tup [crvO a b 4, .raw (.slice (some ⟨gm, 0, none⟩) n cm), .raw (.bool true)]), (0, slC w0 (tabC n P)), (1, .f .f32 near), (6, .raw (.int .i64 n))] (St w0 [] [entF gm 27 n M cm, entF b 27 4 (fun _ => one1) 4, entC a 4 QQ 4]) Q' := fun a b gm cm hc => by
      refine ra_list [20, 24] (by rw [ho]; decide +kernel) rfl ⟨?_, ?_, trivial⟩
      · refine ro_op (by rw [ho]; rfl) rfl (zay rfl) ?_
        exact RA.weak (RA.toL' (r19_20 a b gm cm hc) (by decide +kernel)) (by (repeat (first | exact Env.sub_nil _ | refine Env.sub_cons rfl ?_))) (fun _ h => h)
      · refine ro_makes (by rw [ho]; rfl) rfl rfl rfl (makesX_alloc (R := fun _ => True) (w0 := w0) (gs := []) rfl rfl rfl) fun gq => ?_
        exact RA.weak (RA.toL' (r19_24 a b gm cm gq hc) (by decide +kernel)) (by (repeat (first | exact Env.sub_nil _ | refine Env.sub_cons rfl ?_))) (fun _ h => h)
    have r24 : ∀ (gq : Nat), RA Tryz.prog 109 o (LD 28 19 [24]) 8 [(7, .raw (.pointer (some ⟨gq, 0, none⟩))), (32, slC w0 (tabC n P)), (39, cA (subC2 (P 1) (P 0))), (50, cA (subC2 (P (n - 1)) (P (n - 2)))), (0, slC w0 (tabC n P)), (1, .f .f32 near), (6, .raw (.int .i64 n))] (St w0 [] [⟨gq, 35, [.raw (.slice none 0 0), .raw (.slice none 0 0)], 2⟩]) Q' := fun gq => by
      refine ra_list [19] (by rw [ho]; decide +kernel) rfl ⟨?_, trivial⟩
      · refine ro_callM (by rw [ho]; rfl) hfit rfl rfl (Takes.sl (Takes.same (Takes.same Takes.nil))) rfl ?_
        rintro ⟨⟨a, b⟩, gm, cm⟩ hc
        dsimp only at hc ⊢
        exact RA.weak (RA.toL' (r19_24 a b gm cm gq hc) (by decide +kernel)) (by (repeat (first | exact Env.sub_nil _ | refine Env.sub_cons rfl ?_))) (fun _ h => h.perm (List.perm_append_comm (l₁ := [(⟨gq, 35, [.raw (.slice none 0 0), .raw (.slice none 0 0)], 2⟩ : Ent)]) (l₂ := [entF gm 27 n M cm, entF b 27 4 (fun _ => one1) 4, entC a 4 QQ 4])))
    have r : RA Tryz.prog 109 o (LD 28 19 []) 9 [(32, slC w0 (tabC n P)), (39, cA (subC2 (P 1) (P 0))), (50, cA (subC2 (P (n - 1)) (P (n - 2)))), (0, slC w0 (tabC n P)), (1, .f .f32 near), (6, .raw (.int .i64 n))] (St w0 [] []) Q' := by
      refine ra_list [19, 24] (by rw [ho]; decide +kernel) rfl ⟨?_, ?_, trivial⟩
      · refine ro_callM (by rw [ho]; rfl) hfit rfl rfl (Takes.sl (Takes.same (Takes.same Takes.nil))) rfl ?_
        rintro ⟨⟨a, b⟩, gm, cm⟩ hc
        dsimp only at hc ⊢
        exact RA.weak (RA.toL' (r19 a b gm cm hc) (by decide +kernel)) (by (repeat (first | exact Env.sub_nil _ | refine Env.sub_cons rfl ?_))) (fun _ h => h)
      · refine ro_makes (by rw [ho]; rfl) rfl rfl rfl (makesX_alloc (R := fun _ => True) (w0 := w0) (gs := []) rfl rfl rfl) fun gq => ?_
        exact RA.weak (RA.toL' (r24 gq) (by decide +kernel)) (by (repeat (first | exact Env.sub_nil _ | refine Env.sub_cons rfl ?_))) (fun _ h => h)
    refine ⟨ra_fuel (RA.weak (RA.toL' r (by rw [ho]; decide +kernel)) (by (repeat (first | exact Env.sub_nil _ | refine Env.sub_cons rfl ?_))) (fun _ h => h)) (by rw [ho]; rfl), fun g => ra_fuel (RA.weak (RA.toL' (r24 g) (by rw [ho]; decide +kernel)) (by (repeat (first | exact Env.sub_nil _ | refine Env.sub_cons rfl ?_))) (fun _ h => h)) (by rw [ho]; rfl)⟩
  obtain ⟨⟨⟨a, b⟩, gm, cm⟩, gq⟩ := y
  simp only at hy ⊢
  obtain ⟨hc1, hc2⟩ := hy
  simp only [maxLen] at hc2
  have CU : ∀ (A B : Nat → Nat) (g : Nat), (⟨g, 35, [.raw (.slice (some ⟨A 0, 0, none⟩) 4 4), .raw (.slice (some ⟨B 0, 0, none⟩) 4 4)], 2⟩ : Ent) = entV g A B 1 1 := fun A B g => rfl
  have hRow : ∀ (A B : Nat → Nat) (Q : Nat → Nat → CV), rowsV A B Q 1 = [entF (B 0) 27 4 (fun _ => one1) 4, entC (A 0) 4 (Q 0) 4] := fun A B Q => rfl
  have hMax := max_fn (f := M) (n := n) (by omega) hM
  refine zcs ?_
  by_cases h2 : (n : Int) = 2
  · repeat first | refine zaa rfl (zay rfl) ?_ | (refine zac ?_; refine zaa rfl (zbi rfl rfl) ?_) | refine zaa rfl (zcc rfl) ?_ | refine zah ?_ | (refine zcr ?_; refine zcs ?_) | (refine zdb ?_; first | refine zdc ?_ | refine zdd ?_ | refine zdf ?_ | refine zdj rfl ?_)
    rw [decide_eq_true h2]
    repeat first | refine zaj rfl rfl rfl rfl ?_ | refine zaa rfl (zaz rfl) ?_ | (refine zae ?_; refine zaa rfl (zcg rfl rfl (by (repeat (first | exact mh | refine mt ?_)); done) rfl rfl) ?_) | refine zaa rfl (zca rfl rfl) ?_ | refine zah ?_ | (refine zcr ?_; first | refine zcs ?_ | refine zct ?_) | (refine zdb ?_; first | refine zdc ?_ | refine zdd ?_ | refine zdg ?_ | refine zdi rfl ?_) | (refine rs_litV1 rfl rfl ?_; intro gv)
    refine done_ret2 rfl (gv, 1, (fun _ => a), (fun _ => b), 1, (fun _ => QQ)) rfl rfl rfl ⟨⟨Nat.le_refl _, by simp only [maxLen]; decide⟩, ⟨by simp only; omega, hQ0, ?_, fun i hi => by simp only at hi; omega, fun i _ => hB⟩, fun _ => rfl⟩ (.cons_cons _ (.cons _ (.cons _ (List.Sublist.refl _))))
    exact hQ3
  repeat first | refine zaa rfl (zay rfl) ?_ | (refine zac ?_; refine zaa rfl (zbi rfl rfl) ?_) | refine zaa rfl (zcc rfl) ?_ | refine zah ?_ | (refine zcr ?_; refine zcs ?_) | (refine zdb ?_; first | refine zdc ?_ | refine zdd ?_ | refine zdf ?_ | refine zdj rfl ?_)
  rw [decide_eq_false h2]
  repeat first | refine zai rfl rfl ?_ | refine zaa rfl (zay rfl) ?_ | (refine zac ?_; refine zaa rfl (zbd rfl rfl rfl) ?_) | (refine zad ?_; (refine zaa rfl (zci rfl rfl (hMax) ?_) ?_; (focus ((repeat (first | exact Takes.nil | refine Takes.sl ?_ | refine Takes.lit ?_ | refine Takes.fa ?_ | refine Takes.fc ?_ | refine Takes.net ?_ | (refine Takes.ownE ?_ ?_ ?_ ?_ ?_; (focus (exact ⟨_, _, (by (repeat (first | exact mh | refine mt ?_)); done)⟩)); (focus (simp; done)); (focus omega); (focus (simp only [maxLen]; omega))) | refine Takes.same ?_)); done)))) | refine zaa rfl (zcb rfl rfl) ?_ | refine zah ?_ | (refine zcr ?_; refine zcs ?_)
  cases hle : cmpB .leq (fcmp .f32 (maxL M (n - 1)) near) with
  | true =>
    repeat first | refine zaa rfl (zaz rfl) ?_ | (refine zae ?_; refine zaa rfl (zcg rfl rfl (by (repeat (first | exact mh | refine mt ?_)); done) rfl rfl) ?_) | refine zah ?_ | (refine zcr ?_; first | refine zcs ?_ | refine zct ?_) | (refine zdb ?_; first | refine zdc ?_ | refine zdd ?_ | refine zdg ?_ | refine zdi rfl ?_) | (refine rs_litV1 rfl rfl ?_; intro gv)
    refine done_ret2 rfl (gv, 1, (fun _ => a), (fun _ => b), 1, (fun _ => QQ)) rfl rfl rfl ⟨⟨Nat.le_refl _, by simp only [maxLen]; decide⟩, ⟨by simp only; omega, hQ0, ?_, fun i hi => by simp only at hi; omega, fun i _ => hB⟩, fun _ => rfl⟩ (.cons_cons _ (.cons _ (.cons _ (List.Sublist.refl _))))
    exact hQ3
  | false =>
  repeat first | refine zaa rfl (zaz rfl) ?_ | refine zah ?_ | (refine zcr ?_; refine zcs ?_) | (refine zdb ?_; first | refine zdc ?_ | refine zdd ?_ | refine zde ?_ | refine zdf ?_ | refine zdj rfl ?_)
  refine ws_loop (ι := Nat × Nat) (fun y => [(0, slC w0 (tabC n P)), (1, .f .f32 near), (6, .raw (.int .i64 n)), (8, .raw (.slice (some ⟨gm, 0, none⟩) n cm)), (10, .raw (.int .i64 y.2)), (11, .raw (.int .i64 ((y.1 : Int) + 2)))])
    (fun _ => St w0 [] [entF gm 27 n M cm]) (fun y => y.1 + 3 ≤ n ∧ 1 ≤ y.2 ∧ y.2 + 1 < n) (fun y => n - y.1) (0, 1) ⟨by simp only; omega, Nat.le_refl _, by simp only; omega⟩ ?_ (fun _ h => h.weak (.cons _ (.cons_cons _ (List.nil_sublist _)))) (fun y hy => ?_)
  · (repeat (first | exact Env.sub_nil _ | refine Env.sub_cons rfl ?_))
  obtain ⟨i, c⟩ := y
  simp only at hy ⊢
  obtain ⟨hi, hc3, hc4⟩ := hy
  repeat first | refine zaa rfl (zay rfl) ?_ | (refine zac ?_; first | refine zaa rfl (zbc rfl rfl (by omega)) ?_ | refine zaa rfl (zbe rfl rfl) ?_) | refine zah ?_ | (refine zcr ?_; refine zcs ?_) | (refine zdb ?_; first | refine zdc ?_ | refine zdd ?_)
  refine ws_cond rfl (fun hd => ?_) (fun hd => ?_)
  case' refine_1 =>
    have hlt : (i : Int) + 2 < (n : Int) - 1 := of_decide_eq_true hd
    clear hd
    have hnext : ((i + 1 : Nat) : Int) + 2 = (i : Int) + 2 + 1 := by omega
    repeat first | (refine zcr ?_; refine zcs ?_) | (refine zdb ?_; first | refine zdc ?_ | refine zde ?_ | refine zdf ?_)
    refine ws_draw (n := 9) mixed (by decide +kernel) ?_
    repeat first | refine zap rfl (zay rfl) ?_ | (refine zar ?_; refine zap rfl (zbd rfl rfl rfl) ?_) | (refine zat ?_; refine zap rfl (zbt rfl rfl (by (repeat (first | exact mh | refine mt ?_)); done) (by omega)) ?_) | (refine zau ?_; refine zap rfl (zbw rfl rfl (by omega) (by omega)) ?_) | refine zav ?_
    cases hg : cmpB .gtr (fcmp .f32 (M ((i : Int) + 2)) (M c)) with
    | true =>
      repeat first | refine zaa rfl (zay rfl) ?_ | refine zaa rfl (zaz rfl) ?_ | (refine zac ?_; refine zaa rfl (zbb rfl rfl (by omega)) ?_) | refine zah ?_ | (refine zcr ?_; first | refine zcs ?_ | refine zcv ?_) | (refine zdb ?_; first | refine zdd ?_ | refine zdi rfl ?_)
      refine done_round (i + 1, i + 2) (by simp only; omega) (by simp only; omega) ?_ (fun _ h => h)
      simp only
      rw [hnext, show ((i + 2 : Nat) : Int) = (i : Int) + 2 by omega]
      (repeat (first | exact Env.sub_nil _ | refine Env.sub_cons rfl ?_))
    | false =>
      repeat first | refine zaa rfl (zay rfl) ?_ | refine zaa rfl (zaz rfl) ?_ | (refine zac ?_; refine zaa rfl (zbb rfl rfl (by omega)) ?_) | refine zah ?_ | (refine zcr ?_; first | refine zcs ?_ | refine zcv ?_) | (refine zdb ?_; first | refine zdd ?_ | refine zdf ?_ | refine zdj rfl ?_)
      refine done_round (i + 1, c) (by simp only; omega) (by simp only; omega) ?_ (fun _ h => h)
      simp only
      rw [hnext]
      (repeat (first | exact Env.sub_nil _ | refine Env.sub_cons rfl ?_))
  clear hd hi
  obtain ⟨ih1, ih2⟩ := ih c hc3 hc4
  unfold FpC at ih1 ih2
  have ec1 : ((c : Int) + 1).toNat = c + 1 := by omega
  have ec : (c : Int).toNat = c := rfl
  have ht := tabC_take P (n := n) (k := c + 1) (by omega)
  have hdp := tabC_drop P (n := n) (k := c) (by omega)
  repeat first | refine zaa rfl (zay rfl) ?_ | (refine zac ?_; refine zaa rfl (zbb rfl rfl (by omega)) ?_) | (refine zcr ?_; first | refine zcs ?_ | refine zcu ?_ | refine zcx ?_ | refine zda ?_) | (refine zdb ?_; first | refine zdc ?_ | refine zdd ?_ | refine zdh ?_) | refine zaa rfl (opj_slice_h rfl rfl (by omega) (by simp; omega)) ?_
  rw [ec1, ht]
  refine rs_callM2 ih1 rfl rfl (Takes.sl (Takes.same Takes.nil)) rfl ?_
  rintro ⟨g1, c1, A1, B1, k1, Q1⟩ ⟨⟨hk1, hk1'⟩, hch1, -⟩
  simp only [maxLen] at hk1 hk1' hch1
  refine RS.drop (H' := entV g1 A1 B1 k1 c1 :: rowsV A1 B1 Q1 k1) ?_ (.cons_cons _ (List.sublist_append_left _ _))
  repeat first | refine zaa rfl (zay rfl) ?_ | refine zaa rfl (zaz rfl) ?_ | refine zaa rfl (zbz rfl rfl) ?_ | refine zah ?_ | (refine zcr ?_; refine zcs ?_) | (refine zdb ?_; first | refine zdc ?_ | refine zdd ?_) | refine zaa rfl (opj_slice_l rfl rfl (by omega) (by simp; omega)) ?_
  rw [ec, hdp]
  refine rs_callM2 ih2 rfl rfl (Takes.sl (Takes.same Takes.nil)) rfl ?_
  rintro ⟨g2, c2, A2, B2, k2, Q2⟩ ⟨⟨hk2, hk2'⟩, hch2, -⟩
  simp only [maxLen] at hk2 hk2' hch2
  have hch := hch1.cat hch2 ⟨hc3, hc4⟩
  have q1 : 1 ≤ k1 ∧ k1 + 1 ≤ c + 1 := hch1.hk
  have q2 : 1 ≤ k2 ∧ k2 + 1 ≤ n - c := hch2.hk
  have hl1 := crvCells_length A1 B1 k1
  have hl2 := crvCells_length A2 B2 k2
  have ho2 := crv_one A2 B2 k2
  refine RS.perm (H' := entV g1 A1 B1 k1 c1 :: entV g2 A2 B2 k2 c2 :: (rowsV A1 B1 Q1 k1 ++ rowsV A2 B2 Q2 k2)) ?_ ((List.Perm.cons _ List.perm_middle.symm).trans (List.perm_append_comm (l₁ := entV g1 A1 B1 k1 c1 :: rowsV A1 B1 Q1 k1) (l₂ := entV g2 A2 B2 k2 c2 :: rowsV A2 B2 Q2 k2)))
  repeat first | refine zai rfl rfl ?_ | refine zaa rfl (zay rfl) ?_ | refine zaa rfl (zaz rfl) ?_ | refine zaa rfl (zbz rfl rfl) ?_ | refine zaa rfl (zcb rfl rfl) ?_ | refine zaa rfl (zcc rfl) ?_ | refine zah ?_ | (refine zcr ?_; refine zcs ?_) | (refine zdb ?_; first | refine zdc ?_ | refine zdd ?_ | refine zdf ?_ | refine zdj rfl ?_)
  refine rs_appendN 0 (sz := 2) (m := k2) (g := g1) (n := k1) (cap := c1) (xs := crvCells A1 B1 k1) (ys := crvCells A2 B2 k2) rfl (by omega) rfl ⟨_, rfl, fun w v hS hr => rd_ownN hS hr (mt mh) hl2 ⟨hk2, by simp only [maxLen]; omega⟩⟩ rfl ⟨hl1, hk1, by simp only [maxLen]; omega⟩ hl2 (by omega) ho2 (by simp only [maxLen]; omega) (by omega) rfl fun g' cap' h1 h2 => ?_
  rw [crvCells_cat]
  repeat first | refine zaa rfl (zaz rfl) ?_ | refine zah ?_ | (refine zcr ?_; refine zcs ?_) | (refine zdb ?_; refine zdg ?_)
  refine done_ret2 rfl (g', cap', catN k1 A1 A2, catN k1 B1 B2, k1 + k2, catN k1 Q1 Q2) rfl rfl rfl ⟨⟨h1, h2⟩, hch, fun h => Bool.noConfusion h⟩ ?_
  simp only
  rw [← rowsV_cat]
  exact .cons_cons _ (.cons _ (List.Sublist.refl _))
/-- Pieces near a path, for all its parts. -/
theorem fitPieces_fn {MF : Nat → (Nat → CV) → Int → FV} {G : Nat → (Nat → CV) → Prop} (hG : ∀ n P, G n P → FpOk MF n P) (hs : ∀ n P c, G n P → 1 ≤ c → c + 1 < n → G (c + 1) P ∧ G (n - c) (fun i => P (i + c)))
    {near : FV} (hn1 : finB near = true) (hn2 : cmpB .geq (fcmp .f32 near (fv .f32 0)) = true) : ∀ n P, G n P → FpC MF n P near := fun n => by
  induction n using Nat.strongRecOn with
  | _ n ih =>
    intro P h
    exact fitPieces_step (hG n P h) hn1 hn2 fun c h1 h2 => ⟨ih (c + 1) (by omega) P (hs n P c h h1 h2).1, ih (n - c) (by omega) _ (hs n P c h h1 h2).2⟩
end Go.Ab
namespace Go.Ab
open Go.Proofs
section
variable {x y : FV} {p q : Rat}
theorem rep_p2 {E : Int} (h : -149 ≤ E) : Rep .f32 (p2 E) := .inl ⟨1, E, Nat.one_le_two_pow, h, by rw [show ((1 : Nat) : Rat) = 1 from rfl, Rat.one_mul]⟩
theorem rep_neg {q : Rat} (h : Rep .f32 q) : Rep .f32 (-q) := h.elim (fun h => .inr (by rw [Rat.neg_neg]; exact h)) .inl
theorem fit_p2 {q : Rat} {E : Int} (hE : E ≤ 100) (h1 : -p2 E ≤ q) (h2 : q ≤ p2 E) : Fit .f32 q := by
  have h3 : p2 E ≤ p2 100 := p2_le hE
  have h4 : p2 100 < p2 (ftop .f32) := by decide +kernel
  constructor <;> grind
theorem addB (hx : Vl .f32 x p) (hy : Vl .f32 y q) {E : Int} (hE : E ≤ 100 ∧ -149 ≤ E) (h1 : -p2 E ≤ p + q) (h2 : p + q ≤ p2 E) : ∃ r, Vl .f32 (fbin .add .f32 x y) r ∧ -p2 E ≤ r ∧ r ≤ p2 E := by
  obtain ⟨r, v, h⟩ := vl_add hx hy (fit_p2 hE.1 h1 h2)
  exact ⟨r, v, rnd_btw h (rep_neg (rep_p2 hE.2)) (rep_p2 hE.2) h1 h2⟩
theorem subB (hx : Vl .f32 x p) (hy : Vl .f32 y q) {E : Int} (hE : E ≤ 100 ∧ -149 ≤ E) (h1 : -p2 E ≤ p - q) (h2 : p - q ≤ p2 E) : ∃ r, Vl .f32 (fbin .sub .f32 x y) r ∧ -p2 E ≤ r ∧ r ≤ p2 E := by
  obtain ⟨r, v, h⟩ := vl_sub hx hy (fit_p2 hE.1 h1 h2)
  exact ⟨r, v, rnd_btw h (rep_neg (rep_p2 hE.2)) (rep_p2 hE.2) h1 h2⟩
theorem mulB (hx : Vl .f32 x p) (hy : Vl .f32 y q) {E : Int} (hE : E ≤ 100 ∧ -149 ≤ E) (h1 : -p2 E ≤ p * q) (h2 : p * q ≤ p2 E) : ∃ r, Vl .f32 (fbin .mul .f32 x y) r ∧ -p2 E ≤ r ∧ r ≤ p2 E := by
  obtain ⟨r, v, h⟩ := vl_mul hx hy (fit_p2 hE.1 h1 h2)
  exact ⟨r, v, rnd_btw h (rep_neg (rep_p2 hE.2)) (rep_p2 hE.2) h1 h2⟩
/-- A word that is not small is a multiple of a small power of two. -/
theorem gran (h : Rep .f32 p) (hp : p2 (-25) ≤ p) : ∃ k : Int, p = (k : Rat) * p2 (-49) := by
  have h0 := p2_pos (-25)
  rcases h with ⟨M, E, hM, hE, hB⟩ | ⟨M, E, hM, hE, hB⟩
  · rcases (show -49 ≤ E ∨ E ≤ -50 by omega) with h1 | h1
    · refine ⟨(M : Int) * ((2 ^ (E - -49).toNat : Nat) : Int), ?_⟩
      rw [hB, p2_split h1, Rat.intCast_mul]
      have e1 : ((M : Int) : Rat) = (M : Rat) := rfl
      have e2 : (((2 ^ (E - -49).toNat : Nat) : Int) : Rat) = ((2 ^ (E - -49).toNat : Nat) : Rat) := rfl
      rw [e1, e2]
      grind
    · exfalso
      have hm : (M : Rat) ≤ ((2 ^ 24 : Nat) : Rat) := natLe hM
      have hp2 : p2 E ≤ p2 (-50) := p2_le h1
      have h3 := Rat.mul_le_mul_of_nonneg_right hm (Rat.le_of_lt (p2_pos E))
      have h4 := Rat.mul_le_mul_of_nonneg_left hp2 (show (0 : Rat) ≤ ((2 ^ 24 : Nat) : Rat) from Rat.natCast_nonneg)
      have h5 : ((2 ^ 24 : Nat) : Rat) * p2 (-50) < p2 (-25) := by decide +kernel
      grind
  · exfalso
    have h1 : 0 ≤ (M : Rat) * p2 E := Rat.mul_nonneg Rat.natCast_nonneg (Rat.le_of_lt (p2_pos E))
    grind
/-- The difference of two such is nothing, or not small. -/
theorem diff_gran {x y : FV} {p q : Rat} (hx : Vl .f32 x p) (hy : Vl .f32 y q) (hp : p2 (-24) ≤ p) (hq0 : 0 ≤ q) (hp1 : p ≤ 1000) (hq1 : q ≤ 1000) : ∃ m, Vl .f32 (fbin .sub .f32 x y) m ∧ (m = 0 ∨ p2 (-49) ≤ m ∨ m ≤ -p2 (-49)) := by
  have n24 := p2_pos (-24)
  obtain ⟨m, vm, h⟩ := vl_sub hx hy (fitk (by grind) (by grind))
  have e25 : p2 (-25) + p2 (-25) = p2 (-24) := by decide +kernel
  have e49 : p2 (-49) ≤ p2 (-25) := p2_le (by decide)
  have n49 := p2_pos (-49)
  have n25 := p2_pos (-25)
  have key : p - q = 0 ∨ p2 (-49) ≤ p - q ∨ p - q ≤ -p2 (-49) := by
    rcases Rat.le_total (a := p2 (-25)) (b := q) with h1 | h1
    · obtain ⟨k, hk⟩ := gran (vl_rep hx) (by grind)
      obtain ⟨j, hj⟩ := gran (vl_rep hy) h1
      have e : p - q = ((k - j : Int) : Rat) * p2 (-49) := by rw [hk, hj, Rat.intCast_sub]; grind
      rcases (show k - j = 0 ∨ 1 ≤ k - j ∨ k - j ≤ -1 by omega) with h2 | h2 | h2
      · left; rw [e, h2, show ((0 : Int) : Rat) = 0 from rfl, Rat.zero_mul]
      · right; left
        have h3 : ((1 : Int) : Rat) ≤ ((k - j : Int) : Rat) := Rat.intCast_le_intCast.2 h2
        rw [show ((1 : Int) : Rat) = 1 from rfl] at h3
        have := Rat.mul_le_mul_of_nonneg_right h3 (Rat.le_of_lt n49)
        rw [e]; grind
      · right; right
        have h3 : ((k - j : Int) : Rat) ≤ ((-1 : Int) : Rat) := Rat.intCast_le_intCast.2 h2
        rw [show ((-1 : Int) : Rat) = -1 from rfl] at h3
        have := Rat.mul_le_mul_of_nonneg_right h3 (Rat.le_of_lt n49)
        rw [e]; grind
    · right; left; grind
  refine ⟨m, vm, ?_⟩
  rcases key with h1 | h1 | h1
  · left; rw [h1] at h; exact rnd_rep h (rep_zero _)
  · right; left; exact (h.side _ (rep_p2 (by decide))).2 h1
  · right; right; exact (h.side _ (rep_neg (rep_p2 (by decide)))).1 h1
end
section
variable {t : FV} {τ : Rat}
/-- The shares of the points, at a time between 0 and 1. -/
theorem shr_vl (vt : Vl .f32 t τ) (h0 : 0 ≤ τ ∧ τ ≤ 1) : ∃ b0 b1 b2 b3, Vl .f32 (shr t 0) b0 ∧ Vl .f32 (shr t 1) b1 ∧ Vl .f32 (shr t 2) b2 ∧ Vl .f32 (shr t 3) b3 ∧ (0 ≤ b0 ∧ b0 ≤ 101 / 100) ∧ (0 ≤ b1 ∧ b1 ≤ 76 / 100) ∧ (0 ≤ b2 ∧ b2 ≤ 76 / 100) ∧ (0 ≤ b3 ∧ b3 ≤ 101 / 100) ∧
    (-(20 / 8388608) ≤ b1 - 3 * τ * (1 - τ) * (1 - τ) ∧ b1 - 3 * τ * (1 - τ) * (1 - τ) ≤ 20 / 8388608) ∧ (-(20 / 8388608) ≤ b2 - 3 * τ * τ * (1 - τ) ∧ b2 - 3 * τ * τ * (1 - τ) ≤ 20 / 8388608) := by
  have v3 : Vl .f32 thr3 3 := Vl.c (b := 1077936128) (by decide +kernel)
  obtain ⟨t0, t1⟩ := h0
  obtain ⟨r, vr, hr⟩ := vl_sub vl_one1 vt (fitk (by grind) (by grind))
  have r01 := rnd_btw hr (rep_zero _) (vl_rep vl_one1) (by grind) (by grind)
  have rn := rnd_abs hr 1 (by grind) (by grind)
  have pos : ∀ {x y : FV} {p q a : Rat}, Vl .f32 x p → Vl .f32 y q → 0 ≤ p → p ≤ a → 0 ≤ q → q ≤ 1 → a ≤ 4 → ∃ r, Vl .f32 (fbin .mul .f32 x y) r ∧ 0 ≤ r ∧ -((a + 1) / 8388608) ≤ r - p * q ∧ r - p * q ≤ (a + 1) / 8388608 := fun {x y p q a} vx vy p0 pa q0 q1 ha => by
    have h1 := Rat.mul_nonneg p0 q0
    have h2 := Rat.mul_le_mul_of_nonneg_left q1 p0
    obtain ⟨r, v, h⟩ := vl_mul vx vy (fitk (by grind) (by grind))
    have n := rnd_abs h a (by grind) (by grind)
    exact ⟨r, v, (h.side 0 (rep_zero _)).2 h1, by grind, by grind⟩
  have tr : τ * (1 - τ) ≤ 1 / 4 := by
    have := sqr_nonneg (τ - 1 / 2)
    grind
  have tr0 := Rat.mul_nonneg t0 (show 0 ≤ 1 - τ by grind)
  obtain ⟨s1, vs1, s10, s11, s12⟩ := pos (a := 1) vr vr r01.1 r01.2 r01.1 r01.2 (by decide +kernel)
  have m1 := Rat.mul_le_mul_of_nonneg_left r01.2 r01.1
  obtain ⟨b0, vb0, b00, b01, b02⟩ := pos (a := 101 / 100) vs1 vr s10 (by grind) r01.1 r01.2 (by decide +kernel)
  obtain ⟨u, vu, u0, u1, u2⟩ := pos (a := 3) v3 vt (by decide +kernel) (by grind) t0 t1 (by decide +kernel)
  obtain ⟨w1, vw1, w10, w11, w12⟩ := pos (a := 301 / 100) vu vr u0 (by grind) r01.1 r01.2 (by decide +kernel)
  have ρ1 : -(2 / 8388608) ≤ r - (1 - τ) := by grind
  have ρ2 : r - (1 - τ) ≤ 2 / 8388608 := by grind
  have k1 := mul_bnd (p := u - 3 * τ) (q := r) (a := 4 / 8388608) (b := 1) (by grind) (by grind) (by grind) (by grind)
  have k2 := mul_bnd (p := τ) (q := r - (1 - τ)) (a := 1) (b := 2 / 8388608) (by grind) t1 ρ1 ρ2
  have e1 : w1 - 3 * (τ * (1 - τ)) = (w1 - u * r) + (u - 3 * τ) * r + 3 * (τ * (r - (1 - τ))) := by grind
  have w13 : w1 ≤ 751 / 1000 := by grind
  obtain ⟨b1, vb1, b10, b11, b12⟩ := pos (a := 76 / 100) vw1 vr w10 (by grind) r01.1 r01.2 (by decide +kernel)
  have k3 := mul_bnd (p := w1 - 3 * (τ * (1 - τ))) (q := r) (a := 15 / 8388608) (b := 1) (by grind) (by grind) (by grind) (by grind)
  have k4 := mul_bnd (p := τ * (1 - τ)) (q := r - (1 - τ)) (a := 1 / 4) (b := 2 / 8388608) (by grind) tr ρ1 ρ2
  have e2 : b1 - 3 * τ * (1 - τ) * (1 - τ) = (b1 - w1 * r) + (w1 - 3 * (τ * (1 - τ))) * r + 3 * (τ * (1 - τ) * (r - (1 - τ))) := by grind
  have m2 := Rat.mul_le_mul_of_nonneg_left r01.2 w10
  obtain ⟨w2, vw2, w20, w21, w22⟩ := pos (a := 301 / 100) vu vt u0 (by grind) t0 t1 (by decide +kernel)
  have k5 := mul_bnd (p := u - 3 * τ) (q := τ) (a := 4 / 8388608) (b := 1) (by grind) (by grind) (by grind) t1
  have e3 : w2 - 3 * (τ * τ) = (w2 - u * τ) + (u - 3 * τ) * τ := by grind
  have tt1 := Rat.mul_le_mul_of_nonneg_left t1 t0
  have tt0 := Rat.mul_nonneg t0 t0
  obtain ⟨b2, vb2, b20, b21, b22⟩ := pos (a := 302 / 100) vw2 vr w20 (by grind) r01.1 r01.2 (by decide +kernel)
  have k6 := mul_bnd (p := w2 - 3 * (τ * τ)) (q := r) (a := 9 / 8388608) (b := 1) (by grind) (by grind) (by grind) (by grind)
  have k7 := mul_bnd (p := τ * τ) (q := r - (1 - τ)) (a := 1) (b := 2 / 8388608) (by grind) (by grind) ρ1 ρ2
  have e4 : b2 - 3 * τ * τ * (1 - τ) = (b2 - w2 * r) + (w2 - 3 * (τ * τ)) * r + 3 * (τ * τ * (r - (1 - τ))) := by grind
  have e5 : 3 * τ * τ * (1 - τ) ≤ 3 / 4 := by
    have := Rat.mul_le_mul_of_nonneg_left tr t0
    grind
  have e6 : 3 * τ * (1 - τ) * (1 - τ) ≤ 3 / 4 := by
    have := Rat.mul_le_mul_of_nonneg_left (show 1 - τ ≤ 1 by grind) tr0
    grind
  obtain ⟨s3, vs3, s30, s31, s32⟩ := pos (a := 1) vt vt t0 t1 t0 t1 (by decide +kernel)
  obtain ⟨b3, vb3, b30, b31, b32⟩ := pos (a := 101 / 100) vs3 vt s30 (by grind) t0 t1 (by decide +kernel)
  have m3 := Rat.mul_le_mul_of_nonneg_left t1 s30
  have m4 := Rat.mul_le_mul_of_nonneg_left r01.2 s10
  exact ⟨b0, b1, b2, b3, vb0, vb1, vb2, vb3, ⟨b00, by grind⟩, ⟨b10, by grind⟩, ⟨b20, by grind⟩, ⟨b30, by grind⟩, ⟨by grind, by grind⟩, by grind, by grind⟩
end
theorem unit_ok {p : CV} {x y : Rat} (vx : Vl .f32 p.1 x) (vy : Vl .f32 p.2 y) (hx : -2 ≤ x ∧ x ≤ 2) (hy : -2 ≤ y ∧ y ≤ 2) (hs : 1 / 4 ≤ x * x + y * y) :
    LongOk p ∧ cmpB .gtr (fcmp .f32 (longC p) (fv .f32 0)) = true ∧ finC (unitC p) = true ∧ ∃ u v, Vl .f32 (unitC p).1 u ∧ Vl .f32 (unitC p).2 v ∧ (-(101 / 100) ≤ u ∧ u ≤ 101 / 100) ∧ (-(101 / 100) ≤ v ∧ v ≤ 101 / 100) ∧ 98 / 100 ≤ u * u + v * v := by
  have p30 : (1000 : Rat) ≤ p2 30 := by decide +kernel
  obtain ⟨R, vR, ok, R0, hside, hrel⟩ := vl_long vx vy (by constructor <;> grind) (by constructor <;> grind)
  have e90 : p2 (-90) ≤ 1 / 4 := by decide +kernel
  have e20 : p2 (-20) = 1 / 1048576 := by decide +kernel
  obtain ⟨h1, h2⟩ := hrel (by grind)
  rw [e20] at h1 h2
  have RR := sqr_nonneg R
  have Rlo : 49 / 100 ≤ R := sq_le_of (by decide +kernel) R0 (by grind)
  have xx := sqr_nonneg x
  have yy := sqr_nonneg y
  have bnd : ∀ z : Rat, z * z ≤ R * R * (1 + 1 / 1048576) → -(1001 / 1000 * R) ≤ z ∧ z ≤ 1001 / 1000 * R := fun z hz => by
    have hR1 : 0 ≤ 1001 / 1000 * R := by grind
    constructor
    · rcases Rat.le_total (a := 0) (b := z) with g | g
      · grind
      · have := sq_le_of (a := -z) (b := 1001 / 1000 * R) (by grind) hR1 (by grind)
        grind
    · rcases Rat.le_total (a := 0) (b := z) with g | g
      · exact sq_le_of g hR1 (by grind)
      · grind
  have bx := bnd x (by grind)
  have by_ := bnd y (by grind)
  obtain ⟨u, U, vu, eU, ⟨U1, U2⟩, u1, u2⟩ := dvn vx vR (by grind) (1001 / 1000) bx.1 bx.2 (by decide +kernel)
  obtain ⟨v, V, vv, eV, ⟨V1, V2⟩, v1, v2⟩ := dvn vy vR (by grind) (1001 / 1000) by_.1 by_.2 (by decide +kernel)
  have hUV : 999 / 1000 ≤ U * U + V * V := by
    have hpos : 0 < R * R := by
      have := Rat.mul_pos (show 0 < R by grind) (show 0 < R by grind)
      exact this
    refine Rat.le_of_mul_le_mul_right (c := R * R) ?_ hpos
    have e : (U * U + V * V) * (R * R) = x * x + y * y := by rw [← eU, ← eV]; grind
    rw [e]
    grind
  have k1 := mul_bnd (p := u - U) (q := u + U) (a := 3 / 8388608) (b := 3) (by grind) (by grind) (by grind) (by grind)
  have k2 := mul_bnd (p := v - V) (q := v + V) (a := 3 / 8388608) (b := 3) (by grind) (by grind) (by grind) (by grind)
  have hsum : 98 / 100 ≤ u * u + v * v := by
    have e1 : u * u = U * U + (u - U) * (u + U) := by grind
    have e2 : v * v = V * V + (v - V) * (v + V) := by grind
    rw [e1, e2]
    grind
  have hg := vl_gtr vR (Vl.c (k := .f32) (b := 0) (q := 0) (by decide +kernel))
  refine ⟨ok, (show _ = decide (0 < R) from hg).trans (decide_eq_true (by grind)), finC_of (p := unitC p) vu vv, u, v, vu, vv, ⟨by grind, by grind⟩, ⟨by grind, by grind⟩, hsum⟩
theorem pow_vl {p : CV} {x y : Rat} (vx : Vl .f32 p.1 x) (vy : Vl .f32 p.2 y) (hx : -1 ≤ x ∧ x ≤ 1) (hy : -1 ≤ y ∧ y ≤ 1) : PowOk p ∧ ∃ r, Vl .f32 (powC p) r ∧ 0 ≤ r ∧ -(5 / 8388608) ≤ r - (x * x + y * y) ∧ r - (x * x + y * y) ≤ 5 / 8388608 := by
  have p70 : (1000 : Rat) ≤ p2 70 := by decide +kernel
  obtain ⟨P, vP, rP, _⟩ := vl_powB vx vy (by constructor <;> grind) (by constructor <;> grind)
  have xx := sqr_nonneg x
  have yy := sqr_nonneg y
  have bx := mul_bnd hx.1 hx.2 hx.1 hx.2
  have by_ := mul_bnd hy.1 hy.2 hy.1 hy.2
  have n := near64r rP 2 (by grind) (by grind) (by decide +kernel)
  have P0 := (rP.side 0 (rep_zero _)).2 (by grind)
  have fP : Fit .f32 P := fitk (by grind) (by grind)
  obtain ⟨r, vr, hr⟩ := vl_narrow vP fP
  have n2 := rnd_abs hr 3 (by grind) (by grind)
  exact ⟨vl_narrow_ok vP fP, r, vr, (hr.side 0 (rep_zero _)).2 P0, by grind, by grind⟩
theorem dot_vl {p q : CV} {x y u v A B : Rat} (vx : Vl .f32 p.1 x) (vy : Vl .f32 p.2 y) (vu : Vl .f32 q.1 u) (vv : Vl .f32 q.2 v) (hx : -B ≤ x ∧ x ≤ B) (hy : -B ≤ y ∧ y ≤ B) (hu : -A ≤ u ∧ u ≤ A) (hv : -A ≤ v ∧ v ≤ A) (hA : B * A ≤ 1000) :
    ∃ r, Vl .f32 (dotF p q) r ∧ -(2 * (B * A) + 1 / 100) ≤ r ∧ r ≤ 2 * (B * A) + 1 / 100 := by
  have b1 := mul_bnd hx.1 hx.2 hu.1 hu.2
  have b2 := mul_bnd hy.1 hy.2 hv.1 hv.2
  obtain ⟨a, va, a1, a2⟩ := mln vx vu (B * A) (by grind) (by grind) (by grind)
  obtain ⟨b, vb, b3, b4⟩ := mln vy vv (B * A) (by grind) (by grind) (by grind)
  obtain ⟨r, vr, r1, r2⟩ := adn va vb (2 * (B * A) + 1 / 1000) (by grind) (by grind) (by grind)
  exact ⟨r, vr, by grind, by grind⟩
theorem acc_bd {f d : Nat → FV} {B : Rat} {n : Nat} (h0 : f 0 = fv .f32 0) (hs : ∀ i, f (i + 1) = fbin .add .f32 (f i) (d i)) (hd : ∀ i, i < n → ∃ r, Vl .f32 (d i) r ∧ -B ≤ r ∧ r ≤ B) (hn : n ≤ 7) (hB : 0 ≤ B ∧ B ≤ 1000) :
    ∀ i, i ≤ n → ∃ r, Vl .f32 (f i) r ∧ -((B + 1 / 100) * (i : Rat)) ≤ r ∧ r ≤ (B + 1 / 100) * (i : Rat)
  | 0, _ => ⟨0, by rw [h0]; exact Vl.c (k := .f32) (b := 0) (q := 0) (by decide +kernel), by rw [show ((0 : Nat) : Rat) = 0 from rfl]; grind, by rw [show ((0 : Nat) : Rat) = 0 from rfl]; grind⟩
  | i + 1, hi => by
    obtain ⟨r, vr, r1, r2⟩ := acc_bd h0 hs hd hn hB i (by omega)
    obtain ⟨q, vq, q1, q2⟩ := hd i (by omega)
    have i6 : (i : Rat) ≤ 6 := natLe (j := 6) (by omega)
    have i0 : (0 : Rat) ≤ (i : Rat) := Rat.natCast_nonneg
    have m := Rat.mul_le_mul_of_nonneg_left i6 (show 0 ≤ B + 1 / 100 by grind)
    obtain ⟨s, vs, s1, s2⟩ := adn vr vq 8000 (by grind) (by grind) (by decide +kernel)
    have e : ((i + 1 : Nat) : Rat) = (i : Rat) + 1 := Rat.natCast_add i 1
    rw [hs]
    exact ⟨s, vs, by rw [e]; grind, by rw [e]; grind⟩
theorem acc_pos {f d : Nat → FV} {n : Nat} (h0 : f 0 = fv .f32 0) (hs : ∀ i, f (i + 1) = fbin .add .f32 (f i) (d i)) (hd : ∀ i, i < n → ∃ r, Vl .f32 (d i) r ∧ 0 ≤ r ∧ r ≤ 100) (hn : n ≤ 7) :
    ∀ i, i ≤ n → ∃ r, Vl .f32 (f i) r ∧ 0 ≤ r ∧ r ≤ 101 * (i : Rat) ∧ ∀ j q, j < i → Vl .f32 (d j) q → q ≤ r
  | 0, _ => ⟨0, by rw [h0]; exact Vl.c (k := .f32) (b := 0) (q := 0) (by decide +kernel), Rat.le_refl, by rw [show ((0 : Nat) : Rat) = 0 from rfl]; grind, fun j q hj => by omega⟩
  | i + 1, hi => by
    obtain ⟨r, vr, r0, r1, hr⟩ := acc_pos h0 hs hd hn i (by omega)
    obtain ⟨q, vq, q0, q1⟩ := hd i (by omega)
    have i6 : (i : Rat) ≤ 6 := natLe (j := 6) (by omega)
    have e : ((i + 1 : Nat) : Rat) = (i : Rat) + 1 := Rat.natCast_add i 1
    obtain ⟨s, vs, h⟩ := vl_add vr vq (fitk (by grind) (by grind))
    have n := rnd_abs h 1000 (by grind) (by grind)
    have k1 := (h.side r (vl_rep vr)).2 (by grind)
    have k2 := (h.side q (vl_rep vq)).2 (by grind)
    rw [hs]
    refine ⟨s, vs, by grind, by rw [e]; grind, fun j z hj vz => ?_⟩
    rcases Nat.lt_or_ge j i with g | g
    · have := hr j z g vz
      grind
    · obtain rfl : j = i := by omega
      rw [Vl.unique vz vq]
      exact k2
end Go.Ab
namespace Go.Ab
open Go.Proofs
/-- What a fit is made of. -/
structure FitV (s e : CV) (n : Nat) (P : Nat → CV) (tt : Int → FV) (su sv eu ev : Rat) (x y t : Nat → Rat) : Prop where
  hn : 2 ≤ n ∧ n ≤ 7
  s1 : Vl .f32 s.1 su ∧ -(101 / 100) ≤ su ∧ su ≤ 101 / 100
  s2 : Vl .f32 s.2 sv ∧ -(101 / 100) ≤ sv ∧ sv ≤ 101 / 100
  e1 : Vl .f32 e.1 eu ∧ -(101 / 100) ≤ eu ∧ eu ≤ 101 / 100
  e2 : Vl .f32 e.2 ev ∧ -(101 / 100) ≤ ev ∧ ev ≤ 101 / 100
  sn : 98 / 100 ≤ su * su + sv * sv
  en : 98 / 100 ≤ eu * eu + ev * ev
  px : ∀ i, i < n → Vl .f32 (P i).1 (x i) ∧ -12 ≤ x i ∧ x i ≤ 12
  py : ∀ i, i < n → Vl .f32 (P i).2 (y i) ∧ -12 ≤ y i ∧ y i ≤ 12
  tv : ∀ i : Nat, i < n → Vl .f32 (tt i) (t i) ∧ 0 ≤ t i ∧ t i ≤ 1
  ti : 3 ≤ n → 353 / 10000 ≤ t 1 ∧ t 1 ≤ 9647 / 10000
  te : t 0 = 0 ∧ t (n - 1) = 1
section
variable {s e : CV} {n : Nat} {P : Nat → CV} {tt : Int → FV} {su sv eu ev : Rat} {x y t : Nat → Rat}
theorem scl_vl {p h : FV} {q b : Rat} (vp : Vl .f32 p q) (vh : Vl .f32 h b) (hq : -(101 / 100) ≤ q ∧ q ≤ 101 / 100) (hb : 0 ≤ b ∧ b ≤ 76 / 100) : ∃ r, Vl .f32 (fbin .mul .f32 p h) r ∧ (-(78 / 100) ≤ r ∧ r ≤ 78 / 100) ∧ -(2 / 8388608) ≤ r - q * b ∧ r - q * b ≤ 2 / 8388608 := by
  have m := mul_bnd (p := q) (q := b) (a := 101 / 100) (b := 76 / 100) hq.1 hq.2 (by grind) hb.2
  obtain ⟨r, vr, r1, r2⟩ := mln vp vh (77 / 100) (by grind) (by grind) (by decide +kernel)
  exact ⟨r, vr, ⟨by grind, by grind⟩, by grind, by grind⟩
theorem wpt_vl {p p0 pn b01 b23 : FV} {q q0 qn c d : Rat} (vp : Vl .f32 p q) (v0 : Vl .f32 p0 q0) (vn : Vl .f32 pn qn) (vc : Vl .f32 b01 c) (vd : Vl .f32 b23 d) (h : -12 ≤ q ∧ q ≤ 12) (h0 : -12 ≤ q0 ∧ q0 ≤ 12) (hn : -12 ≤ qn ∧ qn ≤ 12) (hc : 0 ≤ c ∧ c ≤ 178 / 100) (hd : 0 ≤ d ∧ d ≤ 178 / 100) :
    ∃ r, Vl .f32 (fbin .sub .f32 (fbin .sub .f32 p (fbin .mul .f32 p0 b01)) (fbin .mul .f32 pn b23)) r ∧ -56 ≤ r ∧ r ≤ 56 := by
  have m1 := mul_bnd (p := q0) (q := c) (a := 12) (b := 178 / 100) h0.1 h0.2 (by grind) hc.2
  have m2 := mul_bnd (p := qn) (q := d) (a := 12) (b := 178 / 100) hn.1 hn.2 (by grind) hd.2
  obtain ⟨a, va, a1, a2⟩ := mln v0 vc 22 (by grind) (by grind) (by decide +kernel)
  obtain ⟨b, vb, b1, b2⟩ := sbn vp va 34 (by grind) (by grind) (by decide +kernel)
  obtain ⟨f, vf, f1, f2⟩ := mln vn vd 22 (by grind) (by grind) (by decide +kernel)
  obtain ⟨r, vr, r1, r2⟩ := sbn vb vf (558 / 10) (by grind) (by grind) (by decide +kernel)
  exact ⟨r, vr, by grind, by grind⟩
/-- All of one point. -/
theorem FitV.pt (F : FitV s e n P tt su sv eu ev x y t) {i : Nat} (hi : i < n) : ∃ ux uy vx vy wx wy, (Vl .f32 (fitU s tt i).1 ux ∧ -(78 / 100) ≤ ux ∧ ux ≤ 78 / 100) ∧ (Vl .f32 (fitU s tt i).2 uy ∧ -(78 / 100) ≤ uy ∧ uy ≤ 78 / 100) ∧
    (Vl .f32 (fitV e tt i).1 vx ∧ -(78 / 100) ≤ vx ∧ vx ≤ 78 / 100) ∧ (Vl .f32 (fitV e tt i).2 vy ∧ -(78 / 100) ≤ vy ∧ vy ≤ 78 / 100) ∧ (Vl .f32 (fitW n P tt i).1 wx ∧ -56 ≤ wx ∧ wx ≤ 56) ∧ (Vl .f32 (fitW n P tt i).2 wy ∧ -56 ≤ wy ∧ wy ≤ 56) ∧
    ∃ b1 b2, (-(20 / 8388608) ≤ b1 - 3 * t i * (1 - t i) * (1 - t i) ∧ b1 - 3 * t i * (1 - t i) * (1 - t i) ≤ 20 / 8388608) ∧ (-(20 / 8388608) ≤ b2 - 3 * t i * t i * (1 - t i) ∧ b2 - 3 * t i * t i * (1 - t i) ≤ 20 / 8388608) ∧ (0 ≤ b1 ∧ b1 ≤ 76 / 100) ∧ (0 ≤ b2 ∧ b2 ≤ 76 / 100) ∧
      (-(2 / 8388608) ≤ ux - su * b1 ∧ ux - su * b1 ≤ 2 / 8388608) ∧ (-(2 / 8388608) ≤ uy - sv * b1 ∧ uy - sv * b1 ≤ 2 / 8388608) ∧ (-(2 / 8388608) ≤ vx - eu * b2 ∧ vx - eu * b2 ≤ 2 / 8388608) ∧ (-(2 / 8388608) ≤ vy - ev * b2 ∧ vy - ev * b2 ≤ 2 / 8388608) := by
  have hn := F.hn
  obtain ⟨vt, t0, t1⟩ := F.tv i hi
  obtain ⟨b0, b1, b2, b3, vb0, vb1, vb2, vb3, k0, k1, k2, k3, k4, k5⟩ := shr_vl vt ⟨t0, t1⟩
  obtain ⟨ux, vux, bux, dux⟩ := scl_vl F.s1.1 vb1 F.s1.2 k1
  obtain ⟨uy, vuy, buy, duy⟩ := scl_vl F.s2.1 vb1 F.s2.2 k1
  obtain ⟨vx, vvx, bvx, dvx⟩ := scl_vl F.e1.1 vb2 F.e1.2 k2
  obtain ⟨vy, vvy, bvy, dvy⟩ := scl_vl F.e2.1 vb2 F.e2.2 k2
  obtain ⟨c, vc, c1, c2⟩ := adn vb0 vb1 (1775 / 1000) (by grind) (by grind) (by decide +kernel)
  obtain ⟨d, vd, d1, d2⟩ := adn vb2 vb3 (1775 / 1000) (by grind) (by grind) (by decide +kernel)
  have c0 : 0 ≤ c := by
    obtain ⟨r, vr, h⟩ := vl_add vb0 vb1 (fitk (by grind) (by grind))
    rw [Vl.unique vc vr]
    exact (h.side 0 (rep_zero _)).2 (by grind)
  have d0 : 0 ≤ d := by
    obtain ⟨r, vr, h⟩ := vl_add vb2 vb3 (fitk (by grind) (by grind))
    rw [Vl.unique vd vr]
    exact (h.side 0 (rep_zero _)).2 (by grind)
  obtain ⟨wx, vwx, bwx⟩ := wpt_vl (F.px i hi).1 (F.px 0 (by omega)).1 (F.px (n - 1) (by omega)).1 vc vd (F.px i hi).2 (F.px 0 (by omega)).2 (F.px (n - 1) (by omega)).2 ⟨c0, by grind⟩ ⟨d0, by grind⟩
  obtain ⟨wy, vwy, bwy⟩ := wpt_vl (F.py i hi).1 (F.py 0 (by omega)).1 (F.py (n - 1) (by omega)).1 vc vd (F.py i hi).2 (F.py 0 (by omega)).2 (F.py (n - 1) (by omega)).2 ⟨c0, by grind⟩ ⟨d0, by grind⟩
  exact ⟨ux, uy, vx, vy, wx, wy, ⟨vux, bux⟩, ⟨vuy, buy⟩, ⟨vvx, bvx⟩, ⟨vvy, bvy⟩, ⟨vwx, bwx⟩, ⟨vwy, bwy⟩, b1, b2, k4, k5, k1, k2, dux, duy, dvx, dvy⟩
/-- The sums. -/
theorem FitV.sums (F : FitV s e n P tt su sv eu ev x y t) : ∃ c d f g k, Vl .f32 (accC s tt n) c ∧ Vl .f32 (accD s e tt n) d ∧ Vl .f32 (accF e tt n) f ∧ Vl .f32 (accG s n P tt n) g ∧ Vl .f32 (accK e n P tt n) k ∧
    (0 ≤ c ∧ c ≤ 9) ∧ (-9 ≤ d ∧ d ≤ 9) ∧ (0 ≤ f ∧ f ≤ 9) ∧ (-620 ≤ g ∧ g ≤ 620) ∧ (-620 ≤ k ∧ k ≤ 620) ∧ (∀ i q, i < n → Vl .f32 (powC (fitU s tt i)) q → q ≤ c) ∧ (∀ i q, i < n → Vl .f32 (powC (fitV e tt i)) q → q ≤ f) := by
  have hn := F.hn
  have n7 : (n : Rat) ≤ 7 := natLe (j := 7) (by omega)
  have n0 : (0 : Rat) ≤ (n : Rat) := Rat.natCast_nonneg
  have pU : ∀ i, i < n → ∃ r, Vl .f32 (powC (fitU s tt i)) r ∧ 0 ≤ r ∧ r ≤ 122 / 100 := fun i hi => by
    obtain ⟨ux, uy, _, _, _, _, ⟨v1, b1⟩, ⟨v2, b2⟩, _⟩ := F.pt hi
    obtain ⟨_, r, vr, r0, _, r2⟩ := pow_vl v1 v2 (by constructor <;> grind) (by constructor <;> grind)
    have m1 := (mul_bnd b1.1 b1.2 b1.1 b1.2).2
    have m2 := (mul_bnd b2.1 b2.2 b2.1 b2.2).2
    exact ⟨r, vr, r0, by grind⟩
  have pV : ∀ i, i < n → ∃ r, Vl .f32 (powC (fitV e tt i)) r ∧ 0 ≤ r ∧ r ≤ 122 / 100 := fun i hi => by
    obtain ⟨_, _, ux, uy, _, _, _, _, ⟨v1, b1⟩, ⟨v2, b2⟩, _⟩ := F.pt hi
    obtain ⟨_, r, vr, r0, _, r2⟩ := pow_vl v1 v2 (by constructor <;> grind) (by constructor <;> grind)
    have m1 := (mul_bnd b1.1 b1.2 b1.1 b1.2).2
    have m2 := (mul_bnd b2.1 b2.2 b2.1 b2.2).2
    exact ⟨r, vr, r0, by grind⟩
  obtain ⟨c, vc, c0, _, cj⟩ := acc_pos (f := accC s tt) (d := fun i => powC (fitU s tt i)) rfl (fun _ => rfl) (fun i hi => let ⟨r, a, b, c⟩ := pU i hi; ⟨r, a, b, by grind⟩) hn.2 n (Nat.le_refl _)
  obtain ⟨c', vc', _, c1⟩ := acc_bd (f := accC s tt) (d := fun i => powC (fitU s tt i)) (B := 122 / 100) rfl (fun _ => rfl) (fun i hi => let ⟨r, a, b, c⟩ := pU i hi; ⟨r, a, by grind, c⟩) hn.2 (by decide +kernel) n (Nat.le_refl _)
  obtain rfl := Vl.unique vc vc'
  obtain ⟨f, vf, f0, _, fj⟩ := acc_pos (f := accF e tt) (d := fun i => powC (fitV e tt i)) rfl (fun _ => rfl) (fun i hi => let ⟨r, a, b, c⟩ := pV i hi; ⟨r, a, b, by grind⟩) hn.2 n (Nat.le_refl _)
  obtain ⟨f', vf', _, f1⟩ := acc_bd (f := accF e tt) (d := fun i => powC (fitV e tt i)) (B := 122 / 100) rfl (fun _ => rfl) (fun i hi => let ⟨r, a, b, c⟩ := pV i hi; ⟨r, a, by grind, c⟩) hn.2 (by decide +kernel) n (Nat.le_refl _)
  obtain rfl := Vl.unique vf vf'
  obtain ⟨d, vd, d0, d1⟩ := acc_bd (f := accD s e tt) (d := fun i => dotF (fitU s tt i) (fitV e tt i)) (B := 123 / 100) rfl (fun _ => rfl) (fun i hi => by
    obtain ⟨ux, uy, vx, vy, _, _, ⟨v1, b1⟩, ⟨v2, b2⟩, ⟨v3, b3⟩, ⟨v4, b4⟩, _⟩ := F.pt hi
    obtain ⟨r, vr, r1, r2⟩ := dot_vl v1 v2 v3 v4 b1 b2 b3 b4 (by decide +kernel)
    exact ⟨r, vr, by grind, by grind⟩) hn.2 (by decide +kernel) n (Nat.le_refl _)
  obtain ⟨g, vg, g0, g1⟩ := acc_bd (f := accG s n P tt) (d := fun i => dotF (fitU s tt i) (fitW n P tt i)) (B := 874 / 10) rfl (fun _ => rfl) (fun i hi => by
    obtain ⟨ux, uy, _, _, wx, wy, ⟨v1, b1⟩, ⟨v2, b2⟩, _, _, ⟨v3, b3⟩, ⟨v4, b4⟩, _⟩ := F.pt hi
    obtain ⟨r, vr, r1, r2⟩ := dot_vl v1 v2 v3 v4 b1 b2 b3 b4 (by decide +kernel)
    exact ⟨r, vr, by grind, by grind⟩) hn.2 (by decide +kernel) n (Nat.le_refl _)
  obtain ⟨k, vk, k0, k1⟩ := acc_bd (f := accK e n P tt) (d := fun i => dotF (fitV e tt i) (fitW n P tt i)) (B := 874 / 10) rfl (fun _ => rfl) (fun i hi => by
    obtain ⟨_, _, ux, uy, wx, wy, _, _, ⟨v1, b1⟩, ⟨v2, b2⟩, ⟨v3, b3⟩, ⟨v4, b4⟩, _⟩ := F.pt hi
    obtain ⟨r, vr, r1, r2⟩ := dot_vl v1 v2 v3 v4 b1 b2 b3 b4 (by decide +kernel)
    exact ⟨r, vr, by grind, by grind⟩) hn.2 (by decide +kernel) n (Nat.le_refl _)
  exact ⟨c, d, f, g, k, vc, vd, vf, vg, vk, ⟨c0, by grind⟩, ⟨by grind, by grind⟩, ⟨f0, by grind⟩, ⟨by grind, by grind⟩, ⟨by grind, by grind⟩, cj, fj⟩
end
end Go.Ab
namespace Go.Ab
open Go.Proofs
theorem mul_nil {x y : FV} {p q : Rat} (hx : Vl .f32 x p) (hy : Vl .f32 y q) (h : p = 0 ∨ q = 0) : Vl .f32 (fbin .mul .f32 x y) 0 := by
  have e : p * q = 0 := h.elim (fun h => by rw [h, Rat.zero_mul]) (fun h => by rw [h, Rat.mul_zero])
  obtain ⟨r, v, hr⟩ := vl_mul hx hy (by rw [e]; exact fitk (by decide +kernel) (by decide +kernel))
  rw [e] at hr
  rw [← rnd_rep hr (rep_zero _)]
  exact v
theorem add_nil {x y : FV} (hx : Vl .f32 x 0) (hy : Vl .f32 y 0) : Vl .f32 (fbin .add .f32 x y) 0 := by
  obtain ⟨r, v, hr⟩ := vl_add hx hy (fitk (by decide +kernel) (by decide +kernel))
  rw [show (0 : Rat) + 0 = 0 by grind] at hr
  rw [← rnd_rep hr (rep_zero _)]
  exact v
theorem pow_nil {p : CV} (hx : Vl .f32 p.1 0) (hy : Vl .f32 p.2 0) : Vl .f32 (powC p) 0 := by
  have h70 := p2_pos 70
  obtain ⟨P, vP, rP, _⟩ := vl_powB hx hy (by constructor <;> grind) (by constructor <;> grind)
  rw [show (0 : Rat) * 0 + 0 * 0 = 0 by grind] at rP
  have hP : P = 0 := rnd_rep rP (rep_zero _)
  subst hP
  obtain ⟨r, vr, hr⟩ := vl_narrow vP (fitk (by decide +kernel) (by decide +kernel))
  rw [← rnd_rep hr (rep_zero _)]
  exact vr
theorem acc_nil {f d : Nat → FV} {n : Nat} (h0 : f 0 = fv .f32 0) (hs : ∀ i, f (i + 1) = fbin .add .f32 (f i) (d i)) (hd : ∀ i, i < n → Vl .f32 (d i) 0) : ∀ i, i ≤ n → Vl .f32 (f i) 0
  | 0, _ => by rw [h0]; exact Vl.c (k := .f32) (b := 0) (q := 0) (by decide +kernel)
  | i + 1, hi => by
    rw [hs]
    exact add_nil (acc_nil h0 hs hd i (by omega)) (hd i (by omega))
/-- At the ends, nothing of the inner points is in it. -/
theorem shr_end {t : FV} {τ : Rat} (vt : Vl .f32 t τ) (h : τ = 0 ∨ τ = 1) : Vl .f32 (shr t 1) 0 ∧ Vl .f32 (shr t 2) 0 := by
  have v3 : Vl .f32 thr3 3 := Vl.c (b := 1077936128) (by decide +kernel)
  have k3 := p2_pos 2
  have e1 : shr t 1 = fbin .mul .f32 (fbin .mul .f32 (fbin .mul .f32 thr3 t) (fbin .sub .f32 one1 t)) (fbin .sub .f32 one1 t) := rfl
  have e2 : shr t 2 = fbin .mul .f32 (fbin .mul .f32 (fbin .mul .f32 thr3 t) t) (fbin .sub .f32 one1 t) := rfl
  obtain ⟨r, vr, hr⟩ := vl_sub vl_one1 vt (by rcases h with h | h <;> rw [h] <;> exact fitk (by decide +kernel) (by decide +kernel))
  rw [e1, e2]
  rcases h with h | h
  · have u := mul_nil v3 vt (.inr h)
    rw [h, show (1 : Rat) - 0 = 1 by grind] at hr
    have r1 : r = 1 := rnd_rep hr (vl_rep vl_one1)
    exact ⟨mul_nil (mul_nil u vr (.inl rfl)) vr (.inl rfl), mul_nil (mul_nil u vt (.inl rfl)) vr (.inl rfl)⟩
  · rw [h, show (1 : Rat) - 1 = 0 by grind] at hr
    have r0 : r = 0 := rnd_rep hr (rep_zero _)
    obtain ⟨u, vu, _⟩ := mln v3 vt 3 (by rw [h]; decide +kernel) (by rw [h]; decide +kernel) (by decide +kernel)
    obtain ⟨z, vz, z1, z2⟩ := mln vu vt 6 (by rw [h]; grind) (by rw [h]; grind) (by decide +kernel)
    exact ⟨mul_nil (mul_nil vu vr (.inr r0)) vr (.inr r0), mul_nil vz vr (.inr r0)⟩
section
variable {s e : CV} {n : Nat} {P : Nat → CV} {tt : Int → FV} {su sv eu ev : Rat} {x y t : Nat → Rat}
theorem cube_low {σ : Rat} (h : 34 / 1000 ≤ σ) : 353 / 1000000 ≤ 9 * (σ * σ * σ) := by
  have s2 := Rat.mul_le_mul_of_nonneg_right h (show (0 : Rat) ≤ σ by grind)
  have s3 : (34 / 1000) * (34 / 1000) ≤ σ * σ := by grind
  have s4 := Rat.mul_le_mul_of_nonneg_right s3 (show (0 : Rat) ≤ σ by grind)
  have s5 : (34 / 1000 : Rat) * (34 / 1000) * (34 / 1000) ≤ (34 / 1000) * (34 / 1000) * σ := Rat.mul_le_mul_of_nonneg_left h (by decide +kernel)
  have s6 : (353 / 1000000 : Rat) ≤ 9 * ((34 / 1000) * (34 / 1000) * (34 / 1000)) := by decide +kernel
  grind
theorem low_pow {s1 s2 b u v q : Rat} (hs : 98 / 100 ≤ s1 * s1 + s2 * s2) (h1 : -(101 / 100) ≤ s1 ∧ s1 ≤ 101 / 100) (h2 : -(101 / 100) ≤ s2 ∧ s2 ≤ 101 / 100) (hb : 35 / 10000 ≤ b ∧ b ≤ 76 / 100)
    (hu : -(2 / 8388608) ≤ u - s1 * b ∧ u - s1 * b ≤ 2 / 8388608) (hv : -(2 / 8388608) ≤ v - s2 * b ∧ v - s2 * b ≤ 2 / 8388608) (hq : -(5 / 8388608) ≤ q - (u * u + v * v)) : 9 / 10 * (b * b) ≤ q := by
  have k : ∀ s u : Rat, -(101 / 100) ≤ s ∧ s ≤ 101 / 100 → -(2 / 8388608) ≤ u - s * b ∧ u - s * b ≤ 2 / 8388608 → (s * s) * (b * b) - 5 / 8388608 * b ≤ u * u := fun s u hs hu => by
    have m1 := mul_bnd (p := u - s * b) (q := s) (a := 2 / 8388608) (b := 101 / 100) hu.1 hu.2 hs.1 hs.2
    have m2 := Rat.mul_le_mul_of_nonneg_right m1.1 (show 0 ≤ b by grind)
    have m3 := sqr_nonneg (u - s * b)
    have e : u * u = (s * s) * (b * b) + 2 * ((u - s * b) * s * b) + (u - s * b) * (u - s * b) := by grind
    rw [e]
    grind
  have k1 := k s1 u h1 hu
  have k2 := k s2 v h2 hv
  have bb : 0 ≤ b * b := sqr_nonneg b
  have m := Rat.mul_le_mul_of_nonneg_right hs bb
  have b1 := Rat.mul_le_mul_of_nonneg_right hb.1 (show 0 ≤ b by grind)
  have e : (s1 * s1 + s2 * s2) * (b * b) = (s1 * s1) * (b * b) + (s2 * s2) * (b * b) := by grind
  rw [e] at m
  grind
/-- What a fit divides by is nothing, or not small. -/
theorem FitV.M (F : FitV s e n P tt su sv eu ev x y t) : ∃ m, Vl .f32 (fitM s e n tt) m ∧ (m = 0 ∨ p2 (-49) ≤ m ∨ m ≤ -p2 (-49)) := by
  have hn := F.hn
  obtain ⟨c, d, f, g, k, vc, vd, vf, vg, vk, bc, bd, bf, bg, bk, jc, jf⟩ := F.sums
  rcases (show n = 2 ∨ 3 ≤ n by omega) with h2 | h3
  · have te := F.te
    have sh : ∀ i, i < n → Vl .f32 (shr (tt i) 1) 0 ∧ Vl .f32 (shr (tt i) 2) 0 := fun i hi => by
      rcases (show i = 0 ∨ i = n - 1 by omega) with h | h
      · subst h
        exact shr_end (F.tv 0 hi).1 (.inl te.1)
      · subst h
        exact shr_end (F.tv _ hi).1 (.inr te.2)
    have hc := acc_nil (f := accC s tt) (d := fun i => powC (fitU s tt i)) (n := n) rfl (fun _ => rfl) (fun i hi => pow_nil (mul_nil F.s1.1 (sh i hi).1 (.inr rfl)) (mul_nil F.s2.1 (sh i hi).1 (.inr rfl))) n (Nat.le_refl _)
    have hd := acc_nil (f := accD s e tt) (d := fun i => dotF (fitU s tt i) (fitV e tt i)) (n := n) rfl (fun _ => rfl) (fun i hi => add_nil (mul_nil (mul_nil F.s1.1 (sh i hi).1 (.inr rfl)) (mul_nil F.e1.1 (sh i hi).2 (.inr rfl)) (.inl rfl)) (mul_nil (mul_nil F.s2.1 (sh i hi).1 (.inr rfl)) (mul_nil F.e2.1 (sh i hi).2 (.inr rfl)) (.inl rfl))) n (Nat.le_refl _)
    obtain ⟨r, vr, hr⟩ := vl_sub (mul_nil hc vf (.inl rfl)) (mul_nil hd hd (.inl rfl)) (fitk (by decide +kernel) (by decide +kernel))
    rw [show (0 : Rat) - 0 = 0 by grind] at hr
    exact ⟨r, vr, .inl (rnd_rep hr (rep_zero _))⟩
  · obtain ⟨ux, uy, vx, vy, wx, wy, ⟨vux, bux⟩, ⟨vuy, buy⟩, ⟨vvx, bvx⟩, ⟨vvy, bvy⟩, _, _, b1, b2, e1, e2, r1, r2, dux, duy, dvx, dvy⟩ := F.pt (i := 1) (by omega)
    obtain ⟨τ1, τ2⟩ := F.ti h3
    have pr : (τ : Rat) → τ = t 1 → 34 / 1000 ≤ τ * (1 - τ) := fun τ hτ => by
      have h1 : 0 ≤ (τ - 353 / 10000) * (9647 / 10000 - τ) := Rat.mul_nonneg (by grind) (by grind)
      grind
    obtain ⟨τ, hτ⟩ : ∃ τ, τ = t 1 := ⟨_, rfl⟩
    have h4 := pr τ hτ
    rw [← hτ] at e1 e2 τ1 τ2
    have B1 : 36 / 10000 ≤ 3 * τ * (1 - τ) * (1 - τ) := by
      have := Rat.mul_le_mul_of_nonneg_right h4 (show 0 ≤ 1 - τ by grind)
      grind
    have B2 : 36 / 10000 ≤ 3 * τ * τ * (1 - τ) := by
      have := Rat.mul_le_mul_of_nonneg_right h4 (show 0 ≤ τ by grind)
      grind
    obtain ⟨_, q1, vq1, _, q10, _⟩ := pow_vl vux vuy (by constructor <;> grind) (by constructor <;> grind)
    obtain ⟨_, q2, vq2, _, q20, _⟩ := pow_vl vvx vvy (by constructor <;> grind) (by constructor <;> grind)
    have l1 := low_pow (b := b1) F.sn F.s1.2 F.s2.2 ⟨by grind, r1.2⟩ dux duy q10
    have l2 := low_pow (b := b2) F.en F.e1.2 F.e2.2 ⟨by grind, r2.2⟩ dvx dvy q20
    have c1 := jc 1 q1 (by omega) vq1
    have f1 := jf 1 q2 (by omega) vq2
    have hB : 353 / 1000000 ≤ (3 * τ * (1 - τ) * (1 - τ)) * (3 * τ * τ * (1 - τ)) := by
      obtain ⟨σ, hσ⟩ : ∃ σ, σ = τ * (1 - τ) := ⟨_, rfl⟩
      have e : (3 * τ * (1 - τ) * (1 - τ)) * (3 * τ * τ * (1 - τ)) = 9 * (σ * σ * σ) := by rw [hσ]; grind
      rw [← hσ] at h4
      rw [e]
      exact cube_low h4
    have hb : 345 / 1000000 ≤ b1 * b2 := by
      obtain ⟨Z1, hZ1⟩ : ∃ Z, Z = 3 * τ * (1 - τ) * (1 - τ) := ⟨_, rfl⟩
      obtain ⟨Z2, hZ2⟩ : ∃ Z, Z = 3 * τ * τ * (1 - τ) := ⟨_, rfl⟩
      rw [← hZ1] at e1 B1 hB
      rw [← hZ2] at e2 B2 hB
      have m1 := mul_bnd (p := b1 - Z1) (q := b2) (a := 20 / 8388608) (b := 76 / 100) e1.1 e1.2 (by grind) r2.2
      have m2 := mul_bnd (p := b2 - Z2) (q := Z1) (a := 20 / 8388608) (b := 77 / 100) e2.1 e2.2 (by grind) (by grind)
      have e : b1 * b2 = Z1 * Z2 + (b1 - Z1) * b2 + (b2 - Z2) * Z1 := by grind
      rw [e]
      grind
    have cf : p2 (-24) ≤ c * f := by
      obtain ⟨D, hD⟩ : ∃ D, D = b1 * b2 := ⟨_, rfl⟩
      have bb1 := sqr_nonneg b1
      have bb2 := sqr_nonneg b2
      have m1 := Rat.mul_le_mul_of_nonneg_right (show 9 / 10 * (b1 * b1) ≤ c by grind) (show 0 ≤ 9 / 10 * (b2 * b2) by grind)
      have m2 := Rat.mul_le_mul_of_nonneg_left (show 9 / 10 * (b2 * b2) ≤ f by grind) bc.1
      have e : 9 / 10 * (b1 * b1) * (9 / 10 * (b2 * b2)) = 81 / 100 * (D * D) := by rw [hD]; grind
      rw [← hD] at hb
      have m3 := Rat.mul_le_mul_of_nonneg_right hb (show 0 ≤ D by grind)
      have m4 := Rat.mul_le_mul_of_nonneg_left hb (show (0 : Rat) ≤ 345 / 1000000 by decide +kernel)
      have e24 : p2 (-24) = 1 / 16777216 := by decide +kernel
      rw [e24]
      rw [e] at m1
      grind
    have b81 := mul_bnd (p := c) (q := f) (a := 9) (b := 9) (by grind) bc.2 (by grind) bf.2
    have b82 := mul_bnd (p := d) (q := d) (a := 9) (b := 9) bd.1 bd.2 bd.1 bd.2
    obtain ⟨p, vp, hp⟩ := vl_mul vc vf (fitk (by grind) (by grind))
    obtain ⟨q, vq, hq⟩ := vl_mul vd vd (fitk (by grind) (by grind))
    have np := rnd_abs hp 100 (by grind) (by grind)
    have nq := rnd_abs hq 100 (by grind) (by grind)
    exact diff_gran vp vq ((hp.side _ (rep_p2 (by decide))).2 cf) ((hq.side 0 (rep_zero _)).2 (sqr_nonneg d)) (by grind) (by grind)
end
end Go.Ab
