/- The law FnProducts, as its row states it: whatever the input, it answers true; and the tied card. No conditions. -/
import Derived.Test.YtdgehhmeheagmaaGreatDoorTie
import Derived.Test.YtdgehhmeheagmaaGreatDoorCards
import Derived.SevenTiedAt
import Derived.Test.YtdgehhmeheagmaaGreatDoorZaj
namespace Go.Proofs.YtdgehhmeheagmaaGreatDoor
open Go.ChangeShapes Go.WideShapes Go.ChangeAt Go.RowKit Go.Ab
theorem own : ownKnob Tryz.prog.godebug = none := by kernel_rfl
/-- The library's table, out of what the row lists. -/
theorem tab_of_laid {W : World} (h : laidMetH Tryz.prog Rows.fnProductsRow.laid W) : Tab64 W := by
  rw [MakeChecks.laidMetH_plain _ _ _ (by kernel_rfl)] at h
  obtain ⟨ps, ⟨g0, t0, cs0, f0, p0, q0, _, _, _, _, ⟨g, t, cs, fuel, p, q, hg, ht, hv, hd, _, _⟩, _⟩, _, _⟩ := h
  obtain rfl := Option.some.inj ((show Tryz.prog.globalNamed "math/bits.deBruijn64tab" = some 6 by kernel_rfl).symm.trans hg)
  obtain rfl := Option.some.inj ((show (Tryz.prog.globals[6]?).map (·.type) = some 146 by kernel_rfl).symm.trans ht)
  obtain ⟨xs, m, _, ex, _, hl, hel⟩ := DataW.trod_array (show Tryz.prog.underlying 146 = some (.array 64 5) by kernel_rfl) hd
  have c5 : Tryz.prog.cellsOf 5 = 1 := by kernel_rfl
  have hE := hel 15 (by decide)
  rw [c5, Nat.mul_one, List.getElem?_eq_getElem (by omega)] at hE
  obtain ⟨z, e1, e2, _⟩ := DataW.trod_int (show Tryz.prog.underlying 5 = some (.int .u8) by kernel_rfl) hE
  have e3 : (Rows.laid_math_bits_deBruijn64tab : DataW Unit) = .agg (xs.map (·.1)) := (Prod.mk.inj ex).1
  unfold Rows.laid_math_bits_deBruijn64tab at e3
  have e4 := congrArg (fun l : List (DataW Unit) => l[15]?) (DataW.agg.inj e3)
  dsimp only at e4
  rw [List.getElem?_map, List.getElem?_eq_getElem (by omega : 15 < xs.length), Option.map_some, e2] at e4
  have hz : z = 4 := by
    have e5 := Option.some.inj (show some (DataW.lit (.int .u8 4) : DataW Unit) = some (.lit (.int .u8 z)) from e4)
    simpa using e5.symm
  subst hz
  show W.cell? ⟨6, 15, none⟩ = some (.int .u8 4)
  rw [World.var?_cell hg hv 15]
  have h0 : ((cs.toList.drop 15).take 1)[0]? = some (.int .u8 4) := by rw [e1]; rfl
  have : cs.toList[15]? = some (.int .u8 4) := by simpa using h0
  simpa using this

set_option maxRecDepth 100000 in
theorem products_lifted (os : Os) (started : os.Started) (H : Type) (enc : TypeId × Value → H) :
    ReturnsInHanded {} Tryz.checked os 3 .any (fun w args => (Rows.fnProductsSpec.pre enc Tryz.prog Tryz.f3 Rows.fnProductsRow.domain false w args ∧ laidMetH Tryz.prog Rows.fnProductsRow.laid w) ∧ sizedMet enc Tryz.prog Tryz.f3 (OpenSpec.ofChange Rows.fnProductsSpec) false w args)
      (Rows.fnProductsSpec.post enc Tryz.prog Tryz.f3 false true false false) := by
  refine law_liftX (C := Tryz.checked) (T := 4) (X := fun w => laidMetH Tryz.prog Rows.fnProductsRow.laid w) (fun _ _ hh h => h.of_heap hh) own started (by kernel_rfl) Tryz.func3
    (ChangeSpec.witness_shaped (enc := enc) (C := Tryz.checked) (os := os) (X := fun w _ => laidMetH Tryz.prog Rows.fnProductsRow.laid w) false (World.laidAll Tryz.prog os Rows.fnProductsRow.laid) #[.slice none 0 0, .slice none 0 0] 8 (World.laidAll_os _ _ _)
      (World.shaped_of_ZipB (by kernel_rfl) (by kernel_rfl)) (by kernel_rfl) (by kernel_rfl) (by kernel_rfl)
      (by rw [MakeChecks.laidMetH_plain _ _ _ (by kernel_rfl)]; exact laidMet_laidAll _ (by kernel_rfl) (by kernel_rfl)))
    rfl (fun ds hds => ?_) rfl (by kernel_rfl) (by kernel_rfl) (by decide +kernel) (fun W base args ds ps hX hval hA => ?_)
  · match ds, hds with
    | [d0, d1], _ => exact ⟨rfl, rfl, rfl⟩
  · have hT := tab_of_laid hX
    obtain ⟨v0, vs0, d0, ds0, p0, q0, hargs, rfl, rfl, h0, r0⟩ := trodAll_cons hA
    obtain ⟨v1, vs1, d1, ds1, p1, q1, hvs1, rfl, rfl, h1, r1⟩ := trodAll_cons r0
    obtain ⟨hvs2, rfl, rfl⟩ := trodAll_nil r1
    subst hvs2
    subst hvs1
    obtain rfl : args = #[v0, v1] := by cases args; simp_all
    obtain ⟨x0, e0⟩ := open_slB (P := Tryz.prog) (t := 22) (e := 5) (by kernel_rfl) (hval 0 _ v0 rfl rfl) h0
    obtain ⟨x1, e1⟩ := open_slB (P := Tryz.prog) (t := 22) (e := 5) (by kernel_rfl) (hval 1 _ v1 rfl rfl) h1
    refine (law_products x0 x1 W [v0, v1] (.cons (.q ⟨e0, hT⟩) (.cons e1 .nil)) (fun _ h => by cases h) List.Pairwise.nil).mono fun e W' ⟨v, y, he, _, hv, hm, _, _⟩ => ?_
    exact ⟨by rw [he, hv.inv_raw], hm.to_ext⟩

theorem products_closed : joinedFacts Tryz.prog 3 Tryz.f3 Rows.fnProductsSpec Rows.fnProductsRow = true := by
  unfold joinedFacts
  rw [k_enter]
  kernel_rfl

/-- Whatever the input, the law FnProducts answers true. -/
theorem products_holds : Rows.FnProductsSaid :=
  OpenClaim.holds_of_wide 3 Tryz.f3 rfl rfl rfl rfl rfl rfl rfl ⟨rfl, rfl, rfl, rfl, rfl⟩ rfl rfl rfl rfl rfl (by kernel_rfl) Tryz.func3 products_closed
    (of_decide_eq_true (by kernel_rfl)) (by unfold Func.isWrapper; first | (rw [if_pos (by decide +kernel)]; kernel_rfl) | (rw [if_neg (by decide +kernel)]; exact ⟨rfl, rfl⟩))
    (fun os started H enc _ => products_lifted os started H enc)
/-- The tied card. -/
theorem products_card : Rows.FnProductsCardSaid :=
  Claim7.holds_tied_plain_at .later [] [.data, .data, .data, .data, .sentinel, .sentinel, .pinned] true (true, "1dab36b6cee391e6335bda35b507ed1dcd9b62776e62397aa351339852e9f8cf") true
    products_holds (fun _ h => by cases h) (by kernel_rfl) (fun _ h => by cases h) fnProducts_row_tie rfl ⟨rfl, rfl⟩ (by kernel_rfl) rfl
    (fun f fn hf hfn => by
      obtain rfl : f = 3 := Option.some.inj ((show Tryz.prog.funcNamed "loop.example/g01328/laws.FnProducts" = some 3 by kernel_rfl).symm.trans hf) |>.symm
      obtain rfl : fn = Tryz.f3 := (Option.some.inj (Tryz.func3.symm.trans hfn)).symm
      exact ⟨by kernel_rfl, fun j t ht => by
        rw [show Tryz.f3.params = #[22, 22] from rfl] at ht
        have hm : t ∈ [22, 22] := by simpa using Array.mem_of_getElem? ht
        have hall : ([22, 22].all fun u => !Tryz.prog.wantsStandIn u) = true := by kernel_rfl
        exact (show Tryz.prog.wantsStandIn t = false by simpa using List.all_eq_true.1 hall t hm)⟩)
    (by kernel_rfl)
#print axioms products_card
end Go.Proofs.YtdgehhmeheagmaaGreatDoor
