/- Part 5 of the texts on which the law leans, joined: Curves in memory, and the rows of a cutting. No conditions. -/
import Derived.Test.YtijihljfpeajlaaZad
namespace Go.Ab
open Go.Proofs
variable {R : World → Prop} [RStab R]
/-- A curve that came in. -/
abbrev crvA (w : World) (n : Nat) (P : Nat → CV) (f : Int → FV) : AV := .agg [slC w (tabC n P), AV.sl w 1 ((tab n f).map (AV.f .f32))]
section
variable {w0 : World} {gs : List Nat} {H : List Ent} {n : Nat} {P : Nat → CV} {f : Int → FV} {args : List AV} {A : World → List AV}
theorem Takes.crv {R0 : World → Prop} (h : Takes (StR R0 w0 [] H) args A) : Takes (StR R0 w0 [] H) (crvA w0 n P f :: args) (fun w => crvA w n P f :: A w) := fun w vs hS hr => by
  obtain ⟨v, r, rfl, hv, hrr⟩ := hr.inv_cons
  obtain ⟨us, rfl, hu⟩ := hv.inv_agg
  obtain ⟨a, r1, rfl, ha, hu⟩ := hu.inv_cons
  obtain ⟨b, r2, rfl, hb, hu⟩ := hu.inv_cons
  obtain rfl := hu.inv_nil
  exact .cons (.agg (.cons (.q (hS.rd ha.inv_q)) (.cons (.q (hS.rd hb.inv_q)) .nil))) (h w r hS hrr)
theorem rd_ownC {m g c cap : Nat} {w : World} {v : Value} {R0 : World → Prop} (hS : StR R0 w0 gs H w) (hr : Rel w (.raw (.slice (some ⟨g, 0, none⟩) m cap)) v) (hm : (entC g n P c : Ent) ∈ H) (hn : m ≤ n) (hc : m ≤ cap ∧ cap ≤ maxLen) : Rd w 1 v ((tabC m P).map cA) := by
  have hv := hr.inv_raw
  subst hv
  refine ⟨_, m, cap, rfl, by simp, hc.1, hc.2, fun i x hi => ⟨_, rfl, rfl, ?_⟩⟩
  have hlt : i < m := by
    have := (List.getElem?_eq_some_iff.1 hi).1
    simpa using this
  have hx : (entC g n P c).xs[i]? = some x := by
    simp only [entC, List.getElem?_map] at hi ⊢
    rw [tabC_get P (by omega)]
    rw [tabC_get P hlt] at hi
    exact hi
  obtain ⟨u, hu, hev⟩ := (hS.own _ hm).2.cell hx
  exact ⟨u, by simpa [entC] using hu, hev⟩
end
section
variable {P : Program} {N : Nat} {S : World → Prop} {e : Env} {Q : Exit → Env → World → Prop}
variable {w0 : World} {gs : List Nat} {H : List Ent} {t : TypeId}
/-- A struct that lies in a block of its own, and one more value, are what is returned. -/
theorem done_retCX {R0 : World → Prop} {X : Type} {mk : X → AV} {post : X → List Ent} {good : X → Prop} {fn : Func} {p u : Tmp} {d : TypeDesc} {z : Value} {sz b g c : Nat} {T : TypeId} {xs ys : List AV} {x2 : AV} [hd : TyU P t d] [hi : TyI P t z sz b] (ha : aggD d = true) (hr : fn.results = #[.cell p t, .tmp u]) (y : X)
    (hp : e.look p = some (.raw (.pointer (some ⟨g, 0, none⟩)))) (h2 : e.look u = some x2) (hm : (⟨g, T, xs, c⟩ : Ent) ∈ H) (hl : Nat.beq xs.length sz = true) (hmk : mk y = .tup [.agg ys, x2]) (hxy : ys = xs) (hy : good y) (hs : (post y).Sublist H) :
    Done .ret e (StR R0 w0 gs H) (Ret P fn N w0 gs mk post good) := fun w hw =>
  ⟨.inl rfl, y, hy, hw.mod, fun x hx => ⟨(hw.own x (hs.subset hx)).2, (hw.own x (hs.subset hx)).1⟩, (hw.weak hs).nodup, fun a hF => by
    subst hxy
    obtain ⟨v, hv, hrv⟩ := hF.rel p _ hp
    have := hrv.inv_raw
    subst this
    obtain ⟨v2, hv2, hrv2⟩ := hF.rel u _ h2
    obtain ⟨cs, hrun, hrel⟩ := run_loadA (P := P) (t := t) (w := w) ha (bb := ⟨g, 0, none⟩) rfl (xs := ys) (Nat.eq_of_beq_eq_true hl) (fun j x hj => (hw.own _ hm).2.cell (by simpa using hj))
    refine ⟨.tuple #[.agg cs.toArray, v2], ?_, by rw [hmk]; exact .tup (vs := [_, _]) (.cons (.agg hrel) (.cons hrv2 .nil))⟩
    simp [results, hr, hv, hv2, asAddr, hrun]⟩
end
attribute [local irreducible] WS RS Done OpJ Then InBlock Round Ret Env.sub FnH
attribute [local irreducible] tab tabC
theorem degree_fn (n : Nat) (P : Nat → CV) (f : Int → FV) (hn : n ≤ 1000) : Fn Try.prog 58 (fun w => [crvA w n P f]) (.raw (.int .i64 ((n : Int) - 1))) := by
  refine fn_intro Try.func58 rfl Try.ntmps58 (fun _ => Nat.le_of_ble_eq_true rfl) fun w0 => ?_
  repeat first | refine zaa rfl (zaz rfl) ?_ | (refine zac ?_; refine zaa rfl (zbc rfl rfl (by omega)) ?_) | (refine zad ?_; refine zaa rfl (opj_lenC rfl) ?_) | (refine zae ?_; refine zaa rfl (zcf rfl rfl (by (repeat (first | exact mh | refine mt ?_)); done) rfl) ?_) | refine zaa rfl (zcd rfl) ?_ | refine zah ?_ | (refine zcr ?_; refine zcs ?_) | (refine zdb ?_; first | refine zdc ?_ | refine zdd ?_ | refine zdg ?_) | (refine zak rfl rfl rfl ?_; intro g)
  exact done_ret1 rfl () rfl trivial (List.nil_sublist _)
theorem isDegree_yes (n : Int) (hn : 1 ≤ n ∧ n ≤ 7) : Fn Try.prog 57 (fun _ => [.raw (.int .i64 n)]) (.raw (.bool true)) := by
  refine fn_intro Try.func57 rfl Try.ntmps57 (fun _ => Nat.le_of_ble_eq_true rfl) fun w0 => ?_
  repeat' first | refine zai rfl rfl ?_ | refine zaj rfl rfl rfl rfl ?_ | refine zaa rfl (zay rfl) ?_ | refine zaa rfl (zaz rfl) ?_ | (refine zac ?_; first | (refine zab rfl (zbf rfl rfl) ?_; intro c hc) | (refine zab rfl (zbh rfl rfl) ?_; intro c hc)) | refine zaa rfl (zca rfl rfl) ?_ | refine zaa rfl (zcb rfl rfl) ?_ | refine zah ?_ | (refine zcr ?_; refine zcs ?_) | (refine zdb ?_; first | refine zdc ?_ | refine zdd ?_ | refine zdg ?_) | cases c
  all_goals exact done_ret1B rfl () rfl rfl (by simp_all <;> omega) trivial (List.nil_sublist _)
theorem validCurve_yes {n : Nat} {P : Nat → CV} {f : Int → FV} (hn : 2 ≤ n ∧ n ≤ 8) (hP : (tabC n P).all finC = true) (hf : (tab n f).all aboveB = true) : Fn Try.prog 40 (fun w => [crvA w n P f]) (.raw (.bool true)) := by
  have hD := degree_fn n P f (by omega)
  have hI := isDegree_yes ((n : Int) - 1) (by omega)
  have hA := arePoints_fn (tabC n P) (by simp; omega)
  rw [hP] at hA
  have hM := areMore_fn (tab n f) (by simp; omega)
  rw [hf] at hM
  refine fn_intro Try.func40 rfl Try.ntmps40 (fun _ => Nat.le_of_ble_eq_true rfl) fun w0 => ?_
  repeat first | refine zai rfl rfl ?_ | refine zaa rfl (zay rfl) ?_ | refine zaa rfl (zaz rfl) ?_ | (refine zac ?_; refine zaa rfl (zbi rfl rfl) ?_) | (refine zad ?_; first | refine zaa rfl (opj_lenC rfl) ?_ | refine zaa rfl (zbo rfl) ?_ | (refine zaa rfl (zci rfl rfl (hI) ?_) ?_; (focus ((repeat (first | exact Takes.nil | refine Takes.sl ?_ | refine Takes.lit ?_ | refine Takes.fa ?_ | refine Takes.fc ?_ | refine Takes.net ?_ | (refine Takes.ownE ?_ ?_ ?_ ?_ ?_; (focus (exact ⟨_, _, (by (repeat (first | exact mh | refine mt ?_)); done)⟩)); (focus (simp; done)); (focus omega); (focus (simp only [maxLen]; omega))) | refine Takes.same ?_)); done)))) | (refine zae ?_; first | refine zaa rfl (zcf rfl rfl (by (repeat (first | exact mh | refine mt ?_)); done) rfl) ?_ | refine zaa rfl (zcg rfl rfl (by (repeat (first | exact mh | refine mt ?_)); done) rfl rfl) ?_) | refine zaa rfl (zcd rfl) ?_ | refine zaa rfl (zca rfl rfl) ?_ | refine zah ?_ | (refine zcr ?_; refine zcs ?_) | (refine zdb ?_; first | refine zdc ?_ | refine zdd ?_) | (refine zak rfl rfl rfl ?_; intro g) | refine zaa rfl (zci rfl rfl hD (Takes.crv Takes.nil)) ?_
  rw [show decide ((n : Int) = n) = true from decide_eq_true rfl]
  repeat first | refine zai rfl rfl ?_ | refine zaa rfl (zay rfl) ?_ | refine zaa rfl (zaz rfl) ?_ | (refine zad ?_; first | (refine zaa rfl (zci rfl rfl (hA) ?_) ?_; (focus ((repeat (first | exact Takes.nil | refine Takes.sl ?_ | refine Takes.lit ?_ | refine Takes.fa ?_ | refine Takes.fc ?_ | refine Takes.net ?_ | (refine Takes.ownE ?_ ?_ ?_ ?_ ?_; (focus (exact ⟨_, _, (by (repeat (first | exact mh | refine mt ?_)); done)⟩)); (focus (simp; done)); (focus omega); (focus (simp only [maxLen]; omega))) | refine Takes.same ?_)); done))) | (refine zaa rfl (zci rfl rfl (hM) ?_) ?_; (focus ((repeat (first | exact Takes.nil | refine Takes.sl ?_ | refine Takes.lit ?_ | refine Takes.fa ?_ | refine Takes.fc ?_ | refine Takes.net ?_ | (refine Takes.ownE ?_ ?_ ?_ ?_ ?_; (focus (exact ⟨_, _, (by (repeat (first | exact mh | refine mt ?_)); done)⟩)); (focus (simp; done)); (focus omega); (focus (simp only [maxLen]; omega))) | refine Takes.same ?_)); done)))) | (refine zae ?_; refine zaa rfl (zcf rfl rfl (by (repeat (first | exact mh | refine mt ?_)); done) rfl) ?_) | refine zaa rfl (zcd rfl) ?_ | refine zaa rfl (zca rfl rfl) ?_ | refine zah ?_ | (refine zcr ?_; refine zcs ?_) | (refine zdb ?_; refine zdg ?_)
  exact done_ret1 rfl () rfl trivial (List.nil_sublist _)
class CrvT (P : Program) (t : TypeId) : Prop where
  b2 : ∀ (w : World) (a b : Option Addr) (n c n' c' : Nat), (Instr.build t #[(0, .slice a n c), (1, .slice b n' c')]).run P w = .ok (.agg #[.slice a n c, .slice b n' c']) w
instance crvTi : CrvT Try.prog 50 := ⟨fun w a b n c n' c' => by kernel_rfl⟩
section
variable {P : Program} {S : World → Prop} {e : Env} {dst : Option Tmp} {ty : TypeId} {pos : String} {after : Array Edge} {guard : Option (Nat × Bool)} {t : TypeId}
theorem opj_buildV {X Y : Operand} {a b n c n' c' : _} [hb : CrvT P t] (hx : e.ev X = some (.raw (.slice a n c))) (hy : e.ev Y = some (.raw (.slice b n' c'))) :
    OpJ P S e ⟨dst, .build t #[(0, X), (1, Y)], ty, pos, after, guard⟩ (.agg [.raw (.slice a n c), .raw (.slice b n' c')]) :=
  opj_value fun ac w _ h => by
    have h1 := (h X (by simp [Op.operands]) _ hx).inv_raw
    have h2 := (h Y (by simp [Op.operands]) _ hy).inv_raw
    refine ⟨_, w, ?_, Ext.refl _, .agg (vs := [_, _]) (.cons .raw (.cons .raw .nil))⟩
    simp only [execOp, List.map_toArray, List.map_cons, List.map_nil, h1, h2, Sem.run_bind, hb.b2, Result.andThen_ok]
    rfl
end
end Go.Ab
namespace Go.Ab
open Go.Proofs
variable {R : World → Prop} [RStab R]
/-- A slice whose block is new, 'sz' cells an element. -/
def AV.litN (sz : Nat) (xs : List AV) : AV := .p fun w v => Rd w sz v xs
class CrvL (P : Program) (t : TypeId) (el : outParam TypeId) : Prop where
  l1 : ∀ (w : World) (a b : Option Addr) (n c n' c' : Nat), (Instr.buildSlice t 1 #[(0, .agg #[.slice a n c, .slice b n' c'])]).run P w = .ok (.slice (some ⟨w.heap.size, 0, none⟩) 1 1) (w.alloc (.cells #[.slice a n c, .slice b n' c'] el))
instance crvL : CrvL Try.prog 46 50 := ⟨fun w a b n c n' c' => by kernel_rfl⟩
section
variable {P : Program} {t el : TypeId} {S : World → Prop} {N : Nat} {e : Env} {Q : Exit → Env → World → Prop} {ops : Array Oper} {l : List Oper} {dst : Option Tmp} {ty : TypeId} {pos : String} {after : Array Edge} {guard : Option (Nat × Bool)}
variable {w0 : World} {gs : List Nat} {H : List Ent}
theorem opj_litV [hb : CrvL P t el] {X : Operand} {a b n c n' c' : _} (hx : e.ev X = some (.agg [.raw (.slice a n c), .raw (.slice b n' c')])) : OpJ P S e ⟨dst, .buildSlice t 1 #[(0, X)], ty, pos, after, guard⟩ (AV.litN 2 [.raw (.slice a n c), .raw (.slice b n' c')]) :=
  opj_value fun ac w _ h => by
    obtain ⟨vs, h1, hr⟩ := (h X (by simp [Op.operands]) _ hx).inv_agg
    obtain ⟨u1, r1, rfl, hu1, hr⟩ := hr.inv_cons
    obtain ⟨u2, r2, rfl, hu2, hr⟩ := hr.inv_cons
    obtain rfl := hr.inv_nil
    obtain rfl := hu1.inv_raw
    obtain rfl := hu2.inv_raw
    refine ⟨.slice (some ⟨w.heap.size, 0, none⟩) 1 1, w.alloc (.cells #[.slice a n c, .slice b n' c'] el), ?_, Ext.alloc w _, Rel.p (φ := fun w v => Rd w 2 v [.raw (.slice a n c), .raw (.slice b n' c')]) (fun _ _ _ hw h => Rd.ext h hw) ?_⟩
    · simp only [execOp, List.map_toArray, List.map_cons, List.map_nil, h1, Sem.run_bind, hb.l1, Result.andThen_ok]
      rfl
    · refine ⟨_, 1, 1, rfl, rfl, Nat.le_refl _, by simp [maxLen], fun i x hi => ⟨_, rfl, rfl, ?_⟩⟩
      have hcell : ∀ j u, #[Value.slice a n c, Value.slice b n' c'][j]? = some u → (w.alloc (.cells #[.slice a n c, .slice b n' c'] el)).cell? ⟨w.heap.size, 0 + j, none⟩ = some u := fun j u hu => by
        simp only [World.cell?, heap_alloc_new, Nat.zero_add]
        simpa using hu
      match i, hi with
      | 0, hi => cases hi; exact ⟨_, hcell 0 _ rfl, ev_raw _⟩
      | 1, hi => cases hi; exact ⟨_, hcell 1 _ rfl, ev_raw _⟩
/-- 'append' to a list of the call's own whose elements are of 'sz' cells. -/
theorem rs_appendN (k : Nat) {sz m : Nat} {d : Tmp} {A B : Operand} {g n cap : Nat} {xs ys : List AV} {z : Value} {b : Nat} [hu : TyU P t (.slice el)] [hi : TyI P el z sz b] (hd : Nat.blt d N = true) (hsz : 0 < sz)
    (hA : e.ev A = some (.raw (.slice (some ⟨g, 0, none⟩) n cap))) (hB : ∃ y, e.ev B = some y ∧ ∀ w v, StR R w0 gs H w → Rel w y v → Rd w sz v ys) (hH : H[k]? = some ⟨g, el, xs, cap * sz⟩) (hn : xs.length = n * sz ∧ n ≤ cap ∧ cap ≤ maxLen)
    (hy : ys.length = m * sz) (h0 : 1 ≤ m) (h1 : ys.all isOne = true) (hm : n + m ≤ maxLen) (hby : (n + m) * b ≤ 140737488355328) (hzc : z.cells.size = sz)
    (hk : ∀ g' cap', n + m ≤ cap' → cap' ≤ maxLen → RS P N ops l ((d, .raw (.slice (some ⟨g', 0, none⟩) (n + m) cap')) :: e.keep) (StR R w0 gs (H.set k ⟨g', el, xs ++ ys, cap' * sz⟩)) Q) :
    RS P N ops (⟨some d, .call { callee := .builtin .append, args := #[A, B], argTypes := #[t, t] }, ty, pos, after, none⟩ :: l) e (StR R w0 gs H) Q := by
  intro a w hS hF
  refine wpList_plain rfl fun K hK => ?_
  have hA' := (hF.eval hA).inv_raw
  obtain ⟨y, hy', hrd⟩ := hB
  obtain ⟨ad, m', c, hB', hl, _, _, hcells⟩ := hrd w _ hS (hF.eval hy')
  obtain rfl : m' = m := Nat.eq_of_mul_eq_mul_right hsz (by rw [← hl, hy])
  have hpos : 0 < ys.length := by rw [hy]; exact Nat.mul_pos h0 hsz
  obtain ⟨bb, had, hsp, _⟩ := hcells 0 _ (List.getElem?_eq_getElem hpos)
  subst had
  obtain ⟨i, hi1, hz1, hs1, hb1⟩ := hi.h
  have hmem : (⟨g, el, xs, cap * sz⟩ : Ent) ∈ H := List.mem_of_getElem? hH
  obtain ⟨cur, hcur, hcsz, hcx⟩ := (hS.own _ hmem).2
  obtain ⟨hxn, hnc, hcm⟩ := hn
  have hle : n * sz ≤ cap * sz := Nat.mul_le_mul_right _ hnc
  simp only at hcsz
  have hlt' : (cur.toList.take (n * sz)).length = n * sz := by simp only [List.length_take, Array.length_toList, hcsz]; omega
  have hown : w.ownsRow 0 el sz (.slice (some ⟨g, 0, none⟩) n cap) n (cur.toList.take (n * sz)) := by
    refine ⟨hlt', .inr ⟨g, cap, cur, rfl, Nat.zero_le _, hcur, hnc, hcm, hcsz, rfl⟩⟩
  have hnews : ∃ news : List Value, news.length = ys.length ∧ ∀ (j : Nat) (u : Value), news[j]? = some u → w.cell? (bb.add j) = some u ∧ ∃ y, ys[j]? = some y ∧ isOne y = true ∧ Ev y u := by
    have hex : ∀ k, k ≤ ys.length → ∃ news : List Value, news.length = k ∧ ∀ (j : Nat) (u : Value), news[j]? = some u → w.cell? (bb.add j) = some u ∧ ∃ y, ys[j]? = some y ∧ isOne y = true ∧ Ev y u := by
      intro k
      induction k with
      | zero => intro _; exact ⟨[], rfl, fun j u h => by simp at h⟩
      | succ k ih =>
        intro hk
        obtain ⟨news, hln, hall⟩ := ih (by omega)
        have hy'' : ys[k]? = some (ys[k]'(by omega)) := List.getElem?_eq_getElem (by omega)
        obtain ⟨b', hb', hsp', u, hu', hev⟩ := hcells k _ hy''
        cases hb'
        refine ⟨news ++ [u], by simp [hln], fun j v hj => ?_⟩
        rcases Nat.lt_or_ge j k with h | h
        · rw [List.getElem?_append_left (by omega)] at hj; exact hall j v hj
        · have hjk : j = k := by
            have := (List.getElem?_eq_some_iff.1 hj).1
            simp only [List.length_append, hln, List.length_cons, List.length_nil] at this
            omega
          subst hjk
          rw [List.getElem?_append_right (by omega), hln, Nat.sub_self] at hj
          cases hj
          exact ⟨by rw [addr_add bb hsp]; exact hu', _, hy'', List.all_eq_true.1 h1 _ (List.getElem_mem _), hev⟩
    exact hex _ (Nat.le_refl _)
  obtain ⟨news, hln, hnw⟩ := hnews
  have hone : ∀ u ∈ news, u.oneCell' = true := fun u hu => by
    obtain ⟨j, hj⟩ := List.mem_iff_getElem?.1 hu
    obtain ⟨_, y, _, hy1, hev⟩ := hnw j u hj
    exact (oneAV_spec hy1 (hev w)).2.1
  obtain ⟨g', cap', w', hr, hown', hgrow, hat, hlt⟩ := run_append_lies (P := P) w t ty 0 el i z sz b hu.h hi1 hz1 hs1 hb1 hzc hsz (.slice (some ⟨g, 0, none⟩) n cap) n (cur.toList.take (n * sz)) hown
    bb m' c news (by rw [hln, hy]) (fun j u hj => (hnw j u hj).1) hone (by omega) hm hby (Nat.zero_le _) _ rfl
  obtain ⟨hlx, hown'⟩ := hown'
  obtain ⟨g2, cap2, cur2, he2, _, hh2, hnc2, hcm2, hcs2, htk⟩ : ∃ g cap, ∃ X : Array Value, Value.slice (some ⟨g', 0, none⟩) (n + m') cap' = .slice (some ⟨g, 0, none⟩) (n + m') cap ∧ 0 ≤ g ∧ w'.heap[g]? = some (.cells X el (0, 0)) ∧ n + m' ≤ cap ∧ cap ≤ maxLen ∧ X.size = cap * sz ∧ X.toList.take ((n + m') * sz) = cur.toList.take (n * sz) ++ news := by
    rcases hown' with ⟨h, _⟩ | ⟨g, cap, cur, h1, h2, h3, h4, h5, h6, h7⟩
    · cases h
    · exact ⟨g, cap, cur, h1, h2, h3, h4, h5, h6, h7⟩
  cases he2
  have hmod : Mod w w' [g] := ⟨hgrow.os, hgrow.tape, hgrow.output, hgrow.size, fun k hk hne => hgrow.block k hk (by simp [Value.ownBlock]; simpa using hne)⟩
  have ho' : OwnE w' ⟨g', el, xs ++ ys, cap' * sz⟩ := by
    refine ⟨cur2, hh2, hcs2, fun j x hj => ?_⟩
    have htj : ∀ v, (cur.toList.take (n * sz) ++ news)[j]? = some v → cur2[j]? = some v := fun v hv => by
      rw [← htk, List.getElem?_take] at hv
      split at hv
      · simpa using hv
      · cases hv
    rcases Nat.lt_or_ge j (n * sz) with h | h
    · rw [List.getElem?_append_left (by omega)] at hj
      obtain ⟨u, hu', hev⟩ := hcx j x hj
      refine ⟨u, htj u ?_, hev⟩
      rw [List.getElem?_append_left (by omega), List.getElem?_take, if_pos h]
      simpa using hu'
    · rw [List.getElem?_append_right (by omega), hxn] at hj
      have hj' : j - n * sz < news.length := by rw [hln]; exact (List.getElem?_eq_some_iff.1 hj).1
      obtain ⟨_, y, hy', _, hev⟩ := hnw (j - n * sz) _ (List.getElem?_eq_getElem hj')
      rw [hj] at hy'
      cases hy'
      refine ⟨_, htj _ ?_, hev⟩
      rw [List.getElem?_append_right (by omega), hlt', List.getElem?_eq_getElem hj']
  unfold Oper.wp
  have hrun : (execOp a.eval ⟨some d, .call { callee := .builtin .append, args := #[A, B], argTypes := #[t, t] }, ty, pos, after, none⟩).run P w = .ok (.value (.slice (some ⟨g', 0, none⟩) (n + m') cap')) w' := by
    simp only [execOp, resolve, invoke, builtin, Sem.run_bind, Sem.run_pure, Result.andThen_ok, List.map_toArray, List.map_cons, List.map_nil, hA', hB', hr]
  rw [hrun]
  refine hK _ _ (hk g' cap' hnc2 hcm2 _ w' (hS.updAt hH hmod ?_ ho') (Fr.put (some d) hF.keep (fun _ h => by cases h; exact Nat.le_of_ble_eq_true hd) .raw))
  rcases hat with h | h
  · left
    have : g = g' := by simpa [Value.ownBlock] using h
    exact this.symm
  · right; simp only; omega
theorem rs_lit0 {d : Tmp} {sz : Nat} {z : Value} {b : Nat} [hu : TyU P t (.slice el)] [hi : TyI P el z sz b] (hd : Nat.blt d N = true)
    (hk : ∀ g, RS P N ops l ((d, .raw (.slice (some ⟨g, 0, none⟩) 0 0)) :: e) (StR R w0 gs (⟨g, el, [], 0⟩ :: H)) Q) :
    RS P N ops (⟨some d, .buildSlice t 0 #[], ty, pos, after, none⟩ :: l) e (StR R w0 gs H) Q := by
  refine rs_fresh (val := fun g => .raw (.slice (some ⟨g, 0, none⟩) 0 0)) (en := fun g => ⟨g, el, [], 0⟩) hd (fun _ => rfl) (fun a w hS hF => ?_) hk
  obtain ⟨i, hi1, hz1, hs1, hb1⟩ := hi.h
  have hr0 : (Array.range 0) = (#[] : Array Nat) := rfl
  refine ⟨w.heap.size, .slice (some ⟨w.heap.size, 0, none⟩) 0 0, w.alloc (.cells #[] el), ?_, ev_raw _, Ext.alloc _ _, Nat.le_refl _, ?_⟩
  · simp [execOp, Instr.buildSlice, run_underlying hu.h, sizeOf, typeInfo, hi1, newRow, Instr.fill, hr0]
  · exact ext_alloc_own (w := w) (T := el) (xs := []) (cs := #[]) (fun k x hk => by simp at hk)
end
end Go.Ab
namespace Go.Ab
variable {R : World → Prop} [RStab R]
def stillE : Env → Bool
  | [] => true
  | (_, v) :: r => v.still && stillE r
theorem stillE_look : ∀ {F : Env} {t : Nat} {v : AV}, stillE F = true → F.look t = some v → v.still = true
  | [], _, _, _, h => by cases h
  | (d, x) :: r, t, v, hs, h => by
    simp only [stillE, Bool.and_eq_true] at hs
    simp only [Env.look] at h
    cases hb : Nat.beq d t with
    | true => simp only [hb, Option.some.injEq] at h; subst h; exact hs.1
    | false => simp only [hb] at h; exact stillE_look hs.2 h
def pickOps (ops : Array Oper) (ix : List Nat) : List Oper := ix.map fun i => (ops[i]?).getD default
/-- The check on a region and on those of its operations that only tell. -/
def drawOkP (ops : Array Oper) (ix : List Nat) : Bool :=
  ix.all (fun i => match ops[i]? with
    | some o => o.dst.isSome && ix.all (fun j => j == i || gslot ops j != o.dst) &&
        (looks ops o).all (fun t => ix.all fun j => gslot ops j != some t || (decide (ix.idxOf j < ix.idxOf i) && (directs o).contains j))
    | none => false) && decide ix.Nodup &&
  (List.range ops.size).all (fun k => match ops[k]? with
    | some o => (directs o).all fun j => decide (j < k)
    | none => false)
/-- The check on a state: what may come next. -/
def gpOk (ops : Array Oper) (ix D cands : List Nat) : Bool :=
  (match cands with | [] => false | _ => true) && cands.all (fun f => decide (f < ops.size) && !(D.contains f) && !(ix.contains f)) &&
  (List.range ops.size).all (fun k => D.contains k || ix.contains k || cands.contains k || (match ops[k]? with
    | some o => (directs o).any (fun j => !(D.contains j) && !(ix.contains j))
    | none => false))
def endOk (ops : Array Oper) (ix D : List Nat) : Bool := (List.range ops.size).all fun k => D.contains k || ix.contains k
/-- The check on an operation that turns the world. -/
def tuOk (ops : Array Oper) (ix : List Nat) (N : Nat) (f : Nat) : Bool := match ops[f]? with
  | some o => o.guard.isNone && (match o.dst with | some d => Nat.blt d N && ix.all (fun i => gslot ops i != some d) | none => true) &&
      (looks ops o).all (fun t => ix.all fun i => gslot ops i != some t || ((Region.before ops).getD f 0).testBit i)
  | none => false
section
variable {P : Program} {N : Nat} {S S' W : World → Prop} {e F : Env} {Q : Exit → Env → World → Prop} {ops : Array Oper} {ix D : List Nat}
structure GI (N : Nat) (ops : Array Oper) (ix D : List Nat) (F : Env) (S : World → Prop) (L : Array Bool) (a : Act) (w : World) : Prop where
  hL : L.size = ops.size
  hd : Down ops L
  hS : S w
  df : a.defers = []
  sz : a.tmps.size = N
  only : ∀ k, Listed L k → k ∈ D ∨ k ∈ ix
  done : ∀ k ∈ D, Listed L k
  facts : ∀ t v, F.look t = some v → (∀ i ∈ ix, gslot ops i = some t → Listed L i) → ∃ u, a.tmps[t]? = some u ∧ Rel w v u
def PureAt (P : Program) (N : Nat) (W : World → Prop) (ops : Array Oper) (ix : List Nat) (F : Env) : Prop :=
  ∀ i ∈ ix, ∃ o d v F', ops[i]? = some o ∧ o.dst = some d ∧ d < N ∧ F.look d = some v ∧ OpG P W ops F' o v ∧ (∀ j ∈ ix, j ≠ i → gslot ops j ≠ some d) ∧
    ∀ t ∈ looks ops o, (∀ y, F'.look t = some y → F.look t = some y) ∧ ∀ j ∈ ix, gslot ops j = some t → j ∈ directs o
theorem PureAt.put {d : Nat} {v : AV} (h : PureAt P N W ops ix F) (hd : F.look d = none) : PureAt P N W ops ix ((d, v) :: F) := fun i hi => by
  obtain ⟨o, d', v', F', h1, h2, h3, h4, h5, h6, h7⟩ := h i hi
  have hl : ∀ t y, F.look t = some y → Env.look ((d, v) :: F) t = some y := fun t y hy => by
    simp only [Env.look]
    cases hb : Nat.beq d t with
    | true => rw [← Nat.eq_of_beq_eq_true hb, hd] at hy; cases hy
    | false => exact hy
  exact ⟨o, d', v', F', h1, h2, h3, hl _ _ h4, h5, h6, fun t ht => ⟨fun y hy => hl t y ((h7 t ht).1 y hy), (h7 t ht).2⟩⟩
/-- From a state on, whatever the order: all is well. -/
def GP (P : Program) (N : Nat) (ops : Array Oper) (ix : List Nat) (W : World → Prop) (D : List Nat) (F : Env) (S : World → Prop) (Q : Exit → Env → World → Prop) : Prop :=
  PureAt P N W ops ix F → (∀ k o, ops[k]? = some o → ∀ j ∈ directs o, j < k) → (∀ w, S w → W w) → stillE F = true →
  ∀ fuel L a w, GI N ops ix D F S L a w → unL L = fuel → wpAny P .any ops (fun x a' w' => ∃ e', Fr N e' a' w' ∧ Q x e' w') fuel L a w
theorem GI.pure [Cl S] {Q' : Exit → Act → World → Prop} {K : Act → World → Prop} (hp : PureAt P N W ops ix F) (hSW : ∀ w, S w → W w) (hst : stillE F = true) {L : Array Bool} {a : Act} {w : World} (hI : GI N ops ix D F S L a w) {i : Nat} (hi : i ∈ Region.ready .any ops L) (hix : i ∈ ix)
    (hK : ∀ a' w', GI N ops ix D F S (L.setIfInBounds i true) a' w' → K a' w') : wpOp P ops Q' i K a w := by
  obtain ⟨hL, hd, hSw, hdf, hsz, honly, hdone, hfacts⟩ := hI
  obtain ⟨h1, h2, h3⟩ := (ready_iff hL i).1 hi
  obtain ⟨o, d, v, F', ho, hdst, hdN, hv, hG, huniq, hlook⟩ := hp i hix
  have hiL : i < L.size := by omega
  have hgi : gslot ops i = some d := by simp [gslot, ho, hdst]
  have hlk : ∀ t, t ∈ looks ops o → ∀ y, F'.look t = some y → ∃ u, a.tmps[t]? = some u ∧ Rel w y u := fun t ht y hy =>
    hfacts t y ((hlook t ht).1 y hy) fun j hj hg => h3 o ho j ((hlook t ht).2 j hj hg)
  have hoper : ∀ x ∈ o.op.operands.toList, ∀ y, F'.ev x = some y → Rel w y (a.eval x) := fun x hx y hy => by
    cases x with
    | tmp t =>
      obtain ⟨u, hu, hr⟩ := hlk t (List.mem_append_left _ (List.mem_filterMap.2 ⟨_, hx, rfl⟩)) y hy
      have : a.eval (.tmp t) = u := by simp [Act.eval, hu]
      rw [this]; exact hr
    | const c =>
      simp only [Env.ev] at hy
      split at hy
      · rename_i hc; cases hy; exact rel_cv w c hc
      · cases hy
    | global g => cases hy; exact .raw
    | func f => cases hy; exact .raw
  have next : ∀ u w', Ext w w' → Rel w' v u → K (a.put o.dst u) w' := fun u w' hw hr => by
    refine hK _ _ ⟨by simpa using hL, fun k x hx hk j hj => ?_, Cl.ext hSw hw, by simp [hdst, Act.put, hdf], by simp [hdst, Act.put, hsz], fun k hk => ?_, fun k hk => (listed_set hiL).2 (.inr (hdone k hk)), fun t y ht hc => ?_⟩
    · rw [listed_set hiL]
      rcases (listed_set hiL).1 hk with rfl | hk
      · exact .inr (h3 x hx j hj)
      · exact .inr (hd k x hx hk j hj)
    · rcases (listed_set hiL).1 hk with rfl | hk
      · exact .inr hix
      · exact honly k hk
    · by_cases hdt : d = t
      · subst hdt
        rw [hv] at ht; cases ht
        exact ⟨u, by simp [hdst, Act.put, hsz, hdN], hr⟩
      · obtain ⟨x, hx, hrx⟩ := hfacts t y ht fun j hj hg => by
          refine ((listed_set hiL).1 (hc j hj hg)).resolve_left fun hji => ?_
          subst hji
          rw [hgi] at hg
          exact hdt (Option.some.inj hg)
        exact ⟨x, by simp [hdst, Act.put, Array.getElem?_setIfInBounds_ne hdt, hx], hrx.ext hw⟩
  unfold wpOp
  simp only [ho]
  have hWw := hSW w hSw
  unfold OpG at hG
  cases hgd : o.guard with
  | none =>
    simp only [hgd] at hG
    rw [if_pos (by simp [Region.wanted, hgd])]
    exact .inl (hG a w _ _ hWw hoper next)
  | some jb =>
    obtain ⟨j, b⟩ := jb
    simp only [hgd] at hG
    obtain ⟨y, c, hy, hc, hcase⟩ := hG
    obtain ⟨u, hu, hru⟩ := hlk y (List.mem_append_right _ (by simp [hgd, hy])) _ hc
    have hub := hru.inv_raw
    subst hub
    have hyield : yielded ops a.tmps j = some c := by
      unfold yielded
      rw [show ((ops[j]?).bind (·.dst)) = some y from hy]
      simp [hu]
    rcases hcase with ⟨rfl, hJ⟩ | ⟨hne, hv'⟩
    · rw [if_pos (by simp [Region.wanted, hgd, hyield])]
      exact .inl (hJ a w _ _ hWw hoper next)
    · rw [if_neg (by simpa [Region.wanted, hgd, hyield] using hne)]
      exact next undef w (Ext.refl _) (by rw [hv']; exact .raw)
/-- All that only tell are behind an operation. -/
def setOk (ops : Array Oper) (ix : List Nat) (f : Nat) : Bool := ix.all fun i => ((Region.before ops).getD f 0).testBit i
/-- What is to be shown of the state behind an operation. -/
def Cont (P : Program) (N : Nat) (ops : Array Oper) (ix : List Nat) (W : World → Prop) (D : List Nat) (Q : Exit → Env → World → Prop) (f : Nat) (F' : Env) (S' : World → Prop) : Prop :=
  ((∀ w, S' w → W w) ∧ GP P N ops ix W (f :: D) F' S' Q) ∨ (setOk ops ix f = true ∧ GP P N ops [] (fun _ => True) (f :: (ix ++ D)) F' S' Q)
theorem cont_go {f : Nat} {F' : Env} (hW : ∀ w, S' w → W w) (h : GP P N ops ix W (f :: D) F' S' Q) : Cont P N ops ix W D Q f F' S' := .inl ⟨hW, h⟩
theorem cont_set {f : Nat} {F' : Env} (hc : setOk ops ix f = true) {D' : List Nat} (hD : f :: (ix ++ D) = D') (h : GP P N ops [] (fun _ => True) D' F' S' Q) : Cont P N ops ix W D Q f F' S' := .inr ⟨hc, hD ▸ h⟩
/-- Where an operation that turns the world may lead. -/
def Nxt (P : Program) (N : Nat) (ops : Array Oper) (ix : List Nat) (W : World → Prop) (D : List Nat) (F : Env) (Q : Exit → Env → World → Prop) (f : Nat) (dst : Option Tmp) (a : Act) (a' : Act) (w' : World) : Prop :=
  ∃ F' S', S' w' ∧ Cont P N ops ix W D Q f F' S' ∧
    ((dst = none ∧ a' = a ∧ F' = F) ∨ ∃ d v u, dst = some d ∧ F.look d = none ∧ a' = a.put (some d) u ∧ Rel w' v u ∧ v.still = true ∧ F' = (d, v) :: F)
def SP (P : Program) (N : Nat) (ops : Array Oper) (ix : List Nat) (W : World → Prop) (D : List Nat) (F : Env) (S : World → Prop) (Q : Exit → Env → World → Prop) (f : Nat) : Prop :=
  ∃ o, ops[f]? = some o ∧ tuOk ops ix N f = true ∧ ∀ (a : Act) (w : World) (K : Act → World → Prop) (Q' : Exit → Act → World → Prop), S w →
    (∀ x ∈ o.op.operands.toList, ∀ y, F.ev x = some y → Rel w y (a.eval x)) → (∀ a' w', Nxt P N ops ix W D F Q f o.dst a a' w' → K a' w') → o.wp P a w K Q'
theorem gp_end [Cl S] (hchk : endOk ops ix D = true) (h : Done .normal F S Q) : GP P N ops ix W D F S Q := by
  intro hp hback hSW hst fuel
  unfold endOk at hchk
  simp only [List.all_eq_true, List.mem_range, Bool.or_eq_true, List.contains_iff_mem] at hchk
  induction fuel with
  | zero =>
    intro L a w hI hu
    refine ⟨?_, F, ⟨hI.df, hI.sz, fun t v ht => hI.facts t v ht fun i hi hg => unL_zero hu (by
      obtain ⟨o, _, _, _, ho, _⟩ := hp i hi
      rw [hI.hL]; exact (Array.getElem?_eq_some_iff.1 ho).1)⟩, h w hI.hS⟩
    refine List.eq_nil_iff_forall_not_mem.2 fun i hi => ?_
    obtain ⟨h1, h2, _⟩ := (ready_iff hI.hL i).1 hi
    exact h2 (unL_zero hu (by rw [hI.hL]; exact h1))
  | succ fuel ih =>
    intro L a w hI hu
    refine ⟨fun hnil => ?_, fun i hi => ?_⟩
    · have hex : ∃ i, i < ops.size ∧ ¬ Listed L i := by
        false_or_by_contra
        rename_i hc
        have hall : ∀ i, i < L.size → Listed L i := fun i hi => by
          false_or_by_contra
          rename_i hn
          exact hc ⟨i, by rw [← hI.hL]; exact hi, hn⟩
        have : unL L = 0 := by
          unfold unL
          rw [List.count_eq_zero]
          intro hm
          obtain ⟨i, hi⟩ := List.mem_iff_getElem?.1 hm
          have hi' : L[i]? = some false := by simpa using hi
          have hlt : i < L.size := (Array.getElem?_eq_some_iff.1 hi').1
          have := hall i hlt
          unfold Listed at this
          rw [Array.getD_eq_getD_getElem?, hi'] at this
          simp at this
        omega
      obtain ⟨i, hi, hn⟩ := hex
      exact absurd hnil (ready_ne hI.hL hback hi hn)
    · obtain ⟨h1, h2, _⟩ := (ready_iff hI.hL i).1 hi
      have hix : i ∈ ix := (hchk i h1).resolve_left fun hD => h2 (hI.done i hD)
      exact GI.pure hp hSW hst hI hi hix fun a' w' hI' => ih _ a' w' hI' (by have := unL_set (L := L) (i := i) (by rw [hI.hL]; exact h1) h2; omega)
theorem gp_step [Cl S] (cands : List Nat) (hchk : gpOk ops ix D cands = true) (h : ∀ f ∈ cands, SP P N ops ix W D F S Q f) : GP P N ops ix W D F S Q := by
  intro hp hback hSW hst fuel
  unfold gpOk at hchk
  simp only [Bool.and_eq_true, List.all_eq_true, List.mem_range, Bool.or_eq_true, List.contains_iff_mem, decide_eq_true_eq, Bool.not_eq_true', List.contains_eq_mem, decide_eq_false_iff_not] at hchk
  obtain ⟨⟨hne, hc⟩, hall⟩ := hchk
  obtain ⟨f0, hf0⟩ : ∃ f, f ∈ cands := by
    cases cands with
    | nil => cases hne
    | cons f r => exact ⟨f, by simp⟩
  induction fuel with
  | zero =>
    intro L a w hI hu
    have h1 := unL_zero hu (i := f0) (by rw [hI.hL]; exact (hc f0 hf0).1.1)
    rcases hI.only f0 h1 with h | h
    · exact absurd h (hc f0 hf0).1.2
    · exact absurd h (hc f0 hf0).2
  | succ fuel ih =>
    intro L a w hI hu
    refine ⟨fun hnil => absurd hnil (ready_ne hI.hL hback (hc f0 hf0).1.1 fun hl => ?_), fun i hi => ?_⟩
    · rcases hI.only f0 hl with h | h
      · exact absurd h (hc f0 hf0).1.2
      · exact absurd h (hc f0 hf0).2
    · obtain ⟨h1, h2, h3⟩ := (ready_iff hI.hL i).1 hi
      have hiL : i < L.size := by rw [hI.hL]; exact h1
      have hun := unL_set (L := L) (i := i) hiL h2
      by_cases hix : i ∈ ix
      · exact GI.pure hp hSW hst hI hi hix fun a' w' hI' => ih _ a' w' hI' (by omega)
      · have hic : i ∈ cands := by
          rcases hall i h1 with ((hD | hx) | hcc) | hb
          · exact absurd (hI.done i hD) h2
          · exact absurd hx hix
          · exact hcc
          · exfalso
            have ho : ops[i]? = some (ops[i]'h1) := by simp [h1]
            simp only [ho, List.any_eq_true, Bool.and_eq_true, Bool.not_eq_true', List.contains_eq_mem, decide_eq_false_iff_not] at hb
            obtain ⟨j, hj, hjD, hjx⟩ := hb
            rcases hI.only j (h3 _ ho j hj) with h | h
            · exact hjD h
            · exact hjx h
        obtain ⟨o, ho, hck, hE⟩ := h i hic
        unfold tuOk at hck
        simp only [ho, Bool.and_eq_true, List.all_eq_true, Option.isNone_iff_eq_none, Bool.or_eq_true, bne_iff_ne] at hck
        obtain ⟨⟨hgd, hdst⟩, hlooks⟩ := hck
        unfold wpOp
        simp only [ho]
        rw [if_pos (by simp [Region.wanted, hgd])]
        have hoper : ∀ x ∈ o.op.operands.toList, ∀ y, F.ev x = some y → Rel w y (a.eval x) := fun x hx y hy => by
          cases x with
          | tmp t =>
            have htl : t ∈ looks ops o := List.mem_append_left _ (List.mem_filterMap.2 ⟨_, hx, rfl⟩)
            obtain ⟨u, hu', hr⟩ := hI.facts t y hy fun j hj hg => (before_must ops i j ((hlooks t htl j hj).resolve_left fun hne => hne hg)).listed hI.hd h3
            have : a.eval (.tmp t) = u := by simp [Act.eval, hu']
            rw [this]; exact hr
          | const c =>
            simp only [Env.ev] at hy
            split at hy
            · rename_i hcc; cases hy; exact rel_cv w c hcc
            · cases hy
          | global g => cases hy; exact .raw
          | func f => cases hy; exact .raw
        refine .inl (hE a w _ _ hI.hS hoper fun a' w' hN => ?_)
        obtain ⟨F', S', hS', hG', hcase⟩ := hN
        have hdown : Down ops (L.setIfInBounds i true) := fun k x hx hk j hj => by
          rw [listed_set hiL]
          rcases (listed_set hiL).1 hk with rfl | hk
          · exact .inr (h3 x hx j hj)
          · exact .inr (hI.hd k x hx hk j hj)
        have honly : ∀ k, Listed (L.setIfInBounds i true) k → k ∈ i :: D ∨ k ∈ ix := fun k hk => by
          rcases (listed_set hiL).1 hk with rfl | hk
          · exact .inl (by simp)
          · exact (hI.only k hk).imp (fun h => by simp [h]) id
        have hdone : ∀ k ∈ i :: D, Listed (L.setIfInBounds i true) k := fun k hk => by
          rw [listed_set hiL]
          rcases List.mem_cons.1 hk with rfl | hk
          · exact .inl rfl
          · exact .inr (hI.done k hk)
        have hold : ∀ j ∈ ix, Listed (L.setIfInBounds i true) j → Listed L j := fun j hj hl => ((listed_set hiL).1 hl).resolve_left fun e => hix (e ▸ hj)
        -- the frame behind it
        have hframe : stillE F' = true ∧ PureAt P N W ops ix F' ∧ a'.defers = [] ∧ a'.tmps.size = N ∧ ∀ t v, F'.look t = some v → (∀ j ∈ ix, gslot ops j = some t → Listed L j) → ∃ u, a'.tmps[t]? = some u ∧ Rel w' v u := by
          rcases hcase with ⟨hd0, rfl, rfl⟩ | ⟨d, v, u, hd0, hfr, rfl, hr, hvs, rfl⟩
          · refine ⟨hst, hp, hI.df, hI.sz, fun t y ht hcond => ?_⟩
            obtain ⟨u, hu', hr⟩ := hI.facts t y ht hcond
            exact ⟨u, hu', hr.any (stillE_look hst ht)⟩
          · simp only [hd0, Bool.and_eq_true, List.all_eq_true, bne_iff_ne] at hdst
            have hdN : d < N := Nat.le_of_ble_eq_true hdst.1
            refine ⟨by simp only [stillE, hvs, hst, Bool.and_self], hp.put hfr, by simp [Act.put, hI.df], by simp [Act.put, hI.sz], fun t y ht hcond => ?_⟩
            simp only [Env.look] at ht
            cases hb : Nat.beq d t with
            | true =>
              simp only [hb, Option.some.injEq] at ht
              subst ht
              rw [← Nat.eq_of_beq_eq_true hb]
              exact ⟨u, by simp [Act.put, hI.sz, hdN], hr⟩
            | false =>
              simp only [hb] at ht
              have hdt : d ≠ t := fun e => by subst e; simp at hb
              obtain ⟨x, hx, hrx⟩ := hI.facts t y ht hcond
              exact ⟨x, by simp [Act.put, Array.getElem?_setIfInBounds_ne hdt, hx], hrx.any (stillE_look hst ht)⟩
        obtain ⟨f1, f2, f3, f4, f5⟩ := hframe
        rcases hG' with ⟨hW', hG'⟩ | ⟨hset, hG'⟩
        · exact hG' f2 hback hW' f1 _ _ _ _ ⟨by simpa using hI.hL, hdown, hS', f3, f4, honly, hdone, fun t y ht hcond => f5 t y ht fun j hj hg => hold j hj (hcond j hj hg)⟩ (by omega)
        · unfold setOk at hset
          simp only [List.all_eq_true] at hset
          have hall' : ∀ j ∈ ix, Listed L j := fun j hj => (before_must ops i j (hset j hj)).listed hI.hd h3
          refine hG' (fun j hj => by cases hj) hback (fun _ _ => trivial) f1 _ _ _ _ ⟨by simpa using hI.hL, hdown, hS', f3, f4, fun k hk => ?_, fun k hk => ?_, fun t y ht _ => f5 t y ht fun j hj _ => hall' j hj⟩ (by omega)
          · rcases honly k hk with h | h
            · rcases List.mem_cons.1 h with rfl | h
              · exact .inl (by simp)
              · exact .inl (by simp [h])
            · exact .inl (by simp [h])
          · rcases List.mem_cons.1 hk with rfl | h
            · exact hdone _ (by simp)
            · rcases List.mem_append.1 h with h | h
              · exact (listed_set hiL).2 (.inr (hall' k h))
              · exact hdone _ (by simp [h])
def slotsOf (ops : Array Oper) (ix : List Nat) : List Nat := ix.flatMap fun i => match ops[i]? with
  | some o => o.dst.toList ++ looks ops o
  | none => []
def AgreeOn (F G : Env) : List Nat → Prop
  | [] => True
  | t :: r => F.look t = G.look t ∧ AgreeOn F G r
theorem AgreeOn.at {F G : Env} : ∀ {l : List Nat}, AgreeOn F G l → ∀ t ∈ l, F.look t = G.look t
  | [], _, _, h => by cases h
  | x :: r, h, t, ht => by
    rcases List.mem_cons.1 ht with rfl | ht
    · exact h.1
    · exact h.2.at t ht
def sameD (D D' : List Nat) : Bool := D.all D'.contains && D'.all D.contains
/-- The same state, otherwise written; less is known. -/
theorem gp_to {D' : List Nat} {G : Env} {S2 : World → Prop} (h : GP P N ops ix W D' G S2 Q) (hD : sameD D D' = true) (hsub : Env.sub G F) (hag : AgreeOn F G (slotsOf ops ix)) (hs : stillE G = true) (h12 : ∀ w, S w → S2 w) (h2W : ∀ w, S2 w → W w) : GP P N ops ix W D F S Q := by
  intro hp hback _ _ fuel L a w hI hu
  unfold sameD at hD
  simp only [Bool.and_eq_true, List.all_eq_true, List.contains_iff_mem] at hD
  refine h (fun i hi => ?_) hback h2W hs fuel L a w ⟨hI.hL, hI.hd, h12 w hI.hS, hI.df, hI.sz, fun k hk => (hI.only k hk).imp (hD.1 k) id, fun k hk => hI.done k (hD.2 k hk), fun t v ht hc => hI.facts t v (hsub t v ht) hc⟩ hu
  obtain ⟨o, d, v, F', h1, h2, h3, h4, h5, h6, h7⟩ := hp i hi
  have hmem : ∀ t, t ∈ o.dst.toList ++ looks ops o → t ∈ slotsOf ops ix := fun t ht => List.mem_flatMap.2 ⟨i, hi, by simp only [h1]; exact ht⟩
  refine ⟨o, d, v, F', h1, h2, h3, by rw [← hag.at d (hmem d (by simp [h2]))]; exact h4, h5, h6, fun t ht => ⟨fun y hy => ?_, (h7 t ht).2⟩⟩
  rw [← hag.at t (hmem t (List.mem_append_right _ ht))]
  exact (h7 t ht).1 y hy
theorem op_at {o ops : Array Oper} {i : Nat} {x : Oper} (ho : o = ops) (h : ops[i]? = some x) : o[i]? = some x := ho ▸ h
theorem gp_name (h : ∀ o, o = ops → ∀ Q', Q' = Q → GP P N o ix W D F S Q') : GP P N ops ix W D F S Q := h ops rfl Q rfl
theorem nodup_idx : ∀ {l : List Nat} {n i : Nat}, l.Nodup → l[n]? = some i → l.idxOf i = n
  | [], _, _, _, h => by simp at h
  | a :: l, n, i, hn, h => by
    rw [List.nodup_cons] at hn
    cases n with
    | zero =>
      simp only [List.getElem?_cons_zero, Option.some.injEq] at h
      subst h
      simp
    | succ n =>
      simp only [List.getElem?_cons_succ] at h
      have hne : a ≠ i := fun e => hn.1 (e ▸ List.mem_of_getElem? h)
      have hb : (a == i) = false := by simpa using hne
      rw [List.idxOf_cons, hb, cond_false, nodup_idx hn.2 h]
theorem ws_drawP {rid : Nat} (ix : List Nat) [Cl W] [Cl S] (hm : P.follows .mixedOrders = true) (hchk : drawOkP ops ix = true) (hW : ∀ w, S w → W w)
    (h : Run1 P N W ops (pickOps ops ix) e.keep (fun F => stillE F = true ∧ GP P N ops ix W [] F S Q)) : WS P N (.region rid ops true) e S Q := by
  unfold drawOkP at hchk
  simp only [Bool.and_eq_true, List.all_eq_true, List.mem_range, decide_eq_true_eq] at hchk
  obtain ⟨⟨h1, hnd⟩, h2⟩ := hchk
  obtain ⟨ps, hlen, ⟨hst, hG⟩, hall⟩ := run1_spec h
  have hlen' : ps.length = ix.length := by rw [hlen]; simp [pickOps]
  have hback : ∀ k o, ops[k]? = some o → ∀ j ∈ directs o, j < k := fun k o ho j hj => by
    have hk : k < ops.size := (Array.getElem?_eq_some_iff.1 ho).1
    have := h2 k hk
    simp only [ho, List.all_eq_true, decide_eq_true_eq] at this
    exact this j hj
  have hat : ∀ n i, ix[n]? = some i → ∃ o p, ops[i]? = some o ∧ ps[n]? = some p ∧ o.dst = some p.1 ∧ p.1 < N ∧ OpG P W ops (after1 (ps.take n) e.keep) o p.2 ∧ (∀ j ∈ ix, j ≠ i → gslot ops j ≠ some p.1) ∧ ∀ t ∈ looks ops o, ∀ j ∈ ix, gslot ops j = some t → ix.idxOf j < n ∧ j ∈ directs o := fun n i hn => by
    have hi := h1 i (List.mem_of_getElem? hn)
    have hnl : n < ps.length := by rw [hlen']; exact (List.getElem?_eq_some_iff.1 hn).1
    cases ho : ops[i]? with
    | none => simp [ho] at hi
    | some o =>
      simp only [ho, Bool.and_eq_true, List.all_eq_true, Bool.or_eq_true, beq_iff_eq, bne_iff_ne, decide_eq_true_eq, List.contains_iff_mem] at hi
      obtain ⟨⟨_, hu⟩, hl⟩ := hi
      have hp : ps[n]? = some (ps[n]'hnl) := by simp
      obtain ⟨g1, g2, g3⟩ := hall n o _ (by simp [pickOps, hn, ho]) hp
      refine ⟨o, _, rfl, hp, g1, g2, g3, fun j hj hne hg => (hu j hj).resolve_left hne (by rw [hg, g1]), fun t ht j hj hg => ?_⟩
      have := (hl t ht j hj).resolve_left (fun hne => hne hg)
      rw [nodup_idx hnd hn] at this
      exact this
  have hslot : ∀ (n i : Nat) (p : Nat × AV), ix[n]? = some i → ps[n]? = some p → gslot ops i = some p.1 := fun n i p hn hp => by
    obtain ⟨o, p', ho, hp', hd, _⟩ := hat n i hn
    rw [hp'] at hp; cases hp
    simp [gslot, ho, hd]
  have hpsix : ∀ (n : Nat) (p : Nat × AV), ps[n]? = some p → ∃ i, ix[n]? = some i := fun n p hp => ⟨_, List.getElem?_eq_getElem (by rw [← hlen']; exact (List.getElem?_eq_some_iff.1 hp).1)⟩
  -- values by slots
  have hval : ∀ (n : Nat) (p : Nat × AV), ps[n]? = some p → Env.look (after1 ps e.keep) p.1 = some p.2 := fun n p hp => by
    unfold after1
    rw [look_append]
    obtain ⟨i, hi⟩ := hpsix n p hp
    have hgi := hslot n i p hi hp
    have hex : ∃ v, Env.look ps.reverse p.1 = some v := by
      cases hl : Env.look ps.reverse p.1 with
      | some v => exact ⟨v, rfl⟩
      | none =>
        exfalso
        refine (look_none_iff _ _).1 hl ?_
        rw [List.map_reverse, List.mem_reverse]
        exact List.mem_map.2 ⟨p, List.mem_of_getElem? hp, rfl⟩
    obtain ⟨v, hv⟩ := hex
    simp only [hv]
    have hmem := List.mem_reverse.1 (look_mem _ _ _ hv)
    obtain ⟨m, hm'⟩ := List.mem_iff_getElem?.1 hmem
    obtain ⟨j, hj⟩ := hpsix m _ hm'
    have hgj := hslot m j _ hj hm'
    have hij : j = i := by
      false_or_by_contra
      rename_i hne
      obtain ⟨o, p', ho, hp', hd, _, _, hu, _⟩ := hat n i hi
      rw [hp'] at hp; cases hp
      exact hu j (List.mem_of_getElem? hj) hne hgj
    subst hij
    have hmn : m = n := by rw [← nodup_idx hnd hj, ← nodup_idx hnd hi]
    subst hmn
    exact congrArg (fun q : Nat × AV => some q.2) (Option.some.inj (hm'.symm.trans hp))
  have hpure : PureAt P N W ops ix (after1 ps e.keep) := fun i hi => by
    obtain ⟨n, hn⟩ := List.mem_iff_getElem?.1 hi
    obtain ⟨o, p, ho, hp, hd, hN, hG', hu, hl⟩ := hat n i hn
    refine ⟨o, p.1, p.2, after1 (ps.take n) e.keep, ho, hd, hN, hval n p hp, hG', hu, fun t ht => ⟨fun y hy => ?_, fun j hj hg => (hl t ht j hj hg).2⟩⟩
    unfold after1 at hy
    rw [look_append] at hy
    cases hq : Env.look (ps.take n).reverse t with
    | some x =>
      simp only [hq, Option.some.injEq] at hy; subst hy
      obtain ⟨m, hm'⟩ := List.mem_iff_getElem?.1 (List.mem_reverse.1 (look_mem _ _ _ hq))
      rw [List.getElem?_take] at hm'
      split at hm'
      · exact hval m (t, x) hm'
      · cases hm'
    | none =>
      simp only [hq] at hy
      unfold after1
      rw [look_append]
      cases hq2 : Env.look ps.reverse t with
      | none => exact hy
      | some x =>
        exfalso
        obtain ⟨m, hm'⟩ := List.mem_iff_getElem?.1 (List.mem_reverse.1 (look_mem _ _ _ hq2))
        obtain ⟨j, hj⟩ := hpsix m _ hm'
        obtain ⟨hjn, _⟩ := hl t ht j (List.mem_of_getElem? hj) (hslot m j _ hj hm')
        rw [nodup_idx hnd hj] at hjn
        refine (look_none_iff _ _).1 hq ?_
        rw [List.map_reverse, List.mem_reverse]
        exact List.mem_map.2 ⟨(t, x), List.mem_iff_getElem?.2 ⟨m, by rw [List.getElem?_take, if_pos hjn]; exact hm'⟩, rfl⟩
  intro a w hS hF
  refine wp_region_any hm ?_
  have hw0 : Ext w { w with drawn := w.drawn + 1 } := Ext.of_quiet (.inr rfl)
  have hcount : unL (Array.replicate ops.size false) = ops.size := by simp [unL]
  have hnl : ∀ k, ¬ Listed (Array.replicate ops.size false) k := fun k hk => by
    unfold Listed at hk
    rw [Array.getD_eq_getD_getElem?, Array.getElem?_replicate] at hk
    split at hk <;> simp at hk
  have hF' := (hF.ext hw0).keep (w' := { w with drawn := w.drawn + 1 })
  refine hG hpure hback hW hst ops.size _ a _ ⟨by simp, fun k o ho hk => absurd hk (hnl k), Cl.ext hS hw0, hF.defers, hF.size, fun k hk => absurd hk (hnl k), fun k hk => (by cases hk), fun t v ht hc => ?_⟩ hcount
  unfold after1 at ht
  rw [look_append] at ht
  cases hq : Env.look ps.reverse t with
  | some x =>
    obtain ⟨m, hm'⟩ := List.mem_iff_getElem?.1 (List.mem_reverse.1 (look_mem _ _ _ hq))
    obtain ⟨j, hj⟩ := hpsix m _ hm'
    exact absurd (hc j (List.mem_of_getElem? hj) (hslot m j _ hj hm')) (hnl j)
  | none =>
    simp only [hq] at ht
    exact hF'.rel t v ht
end
section
variable {P : Program} {t el : TypeId} {S W : World → Prop} {N : Nat} {F : Env} {Q : Exit → Env → World → Prop} {ops : Array Oper} {ix D : List Nat} {ty : TypeId} {pos : String} {after : Array Edge}
variable {w0 : World} {gs : List Nat} {H : List Ent}
theorem append_run (k : Nat) {sz m : Nat} {d : Tmp} {A B : Operand} {a : Act} {w : World} {g n cap : Nat} {xs ys : List AV} {z : Value} {b : Nat} [hu : TyU P t (.slice el)] [hi : TyI P el z sz b] (hS : StR R w0 gs H w) (hsz : 0 < sz)
    (hA' : a.eval A = .slice (some ⟨g, 0, none⟩) n cap) (hrd : Rd w sz (a.eval B) ys) (hH : H[k]? = some ⟨g, el, xs, cap * sz⟩) (hn : xs.length = n * sz ∧ n ≤ cap ∧ cap ≤ maxLen)
    (hy : ys.length = m * sz) (h0 : 1 ≤ m) (h1 : ys.all isOne = true) (hm : n + m ≤ maxLen) (hby : (n + m) * b ≤ 140737488355328) (hzc : z.cells.size = sz) :
    ∃ g' cap' w', n + m ≤ cap' ∧ cap' ≤ maxLen ∧ (execOp a.eval ⟨some d, .call { callee := .builtin .append, args := #[A, B], argTypes := #[t, t] }, ty, pos, after, none⟩).run P w = .ok (.value (.slice (some ⟨g', 0, none⟩) (n + m) cap')) w' ∧ StR R w0 gs (H.set k ⟨g', el, xs ++ ys, cap' * sz⟩) w' := by
  obtain ⟨ad, m', c, hB', hl, _, _, hcells⟩ := hrd
  obtain rfl : m' = m := Nat.eq_of_mul_eq_mul_right hsz (by rw [← hl, hy])
  have hpos : 0 < ys.length := by rw [hy]; exact Nat.mul_pos h0 hsz
  obtain ⟨bb, had, hsp, _⟩ := hcells 0 _ (List.getElem?_eq_getElem hpos)
  subst had
  obtain ⟨i, hi1, hz1, hs1, hb1⟩ := hi.h
  have hmem : (⟨g, el, xs, cap * sz⟩ : Ent) ∈ H := List.mem_of_getElem? hH
  obtain ⟨cur, hcur, hcsz, hcx⟩ := (hS.own _ hmem).2
  obtain ⟨hxn, hnc, hcm⟩ := hn
  have hle : n * sz ≤ cap * sz := Nat.mul_le_mul_right _ hnc
  simp only at hcsz
  have hlt' : (cur.toList.take (n * sz)).length = n * sz := by simp only [List.length_take, Array.length_toList, hcsz]; omega
  have hown : w.ownsRow 0 el sz (.slice (some ⟨g, 0, none⟩) n cap) n (cur.toList.take (n * sz)) := by
    refine ⟨hlt', .inr ⟨g, cap, cur, rfl, Nat.zero_le _, hcur, hnc, hcm, hcsz, rfl⟩⟩
  have hnews : ∃ news : List Value, news.length = ys.length ∧ ∀ (j : Nat) (u : Value), news[j]? = some u → w.cell? (bb.add j) = some u ∧ ∃ y, ys[j]? = some y ∧ isOne y = true ∧ Ev y u := by
    have hex : ∀ k, k ≤ ys.length → ∃ news : List Value, news.length = k ∧ ∀ (j : Nat) (u : Value), news[j]? = some u → w.cell? (bb.add j) = some u ∧ ∃ y, ys[j]? = some y ∧ isOne y = true ∧ Ev y u := by
      intro k
      induction k with
      | zero => intro _; exact ⟨[], rfl, fun j u h => by simp at h⟩
      | succ k ih =>
        intro hk
        obtain ⟨news, hln, hall⟩ := ih (by omega)
        have hy'' : ys[k]? = some (ys[k]'(by omega)) := List.getElem?_eq_getElem (by omega)
        obtain ⟨b', hb', hsp', u, hu', hev⟩ := hcells k _ hy''
        cases hb'
        refine ⟨news ++ [u], by simp [hln], fun j v hj => ?_⟩
        rcases Nat.lt_or_ge j k with h | h
        · rw [List.getElem?_append_left (by omega)] at hj; exact hall j v hj
        · have hjk : j = k := by
            have := (List.getElem?_eq_some_iff.1 hj).1
            simp only [List.length_append, hln, List.length_cons, List.length_nil] at this
            omega
          subst hjk
          rw [List.getElem?_append_right (by omega), hln, Nat.sub_self] at hj
          cases hj
          exact ⟨by rw [addr_add bb hsp]; exact hu', _, hy'', List.all_eq_true.1 h1 _ (List.getElem_mem _), hev⟩
    exact hex _ (Nat.le_refl _)
  obtain ⟨news, hln, hnw⟩ := hnews
  have hone : ∀ u ∈ news, u.oneCell' = true := fun u hu => by
    obtain ⟨j, hj⟩ := List.mem_iff_getElem?.1 hu
    obtain ⟨_, y, _, hy1, hev⟩ := hnw j u hj
    exact (oneAV_spec hy1 (hev w)).2.1
  obtain ⟨g', cap', w', hr, hown', hgrow, hat, hlt⟩ := run_append_lies (P := P) w t ty 0 el i z sz b hu.h hi1 hz1 hs1 hb1 hzc hsz (.slice (some ⟨g, 0, none⟩) n cap) n (cur.toList.take (n * sz)) hown
    bb m' c news (by rw [hln, hy]) (fun j u hj => (hnw j u hj).1) hone (by omega) hm hby (Nat.zero_le _) _ rfl
  obtain ⟨hlx, hown'⟩ := hown'
  obtain ⟨g2, cap2, cur2, he2, _, hh2, hnc2, hcm2, hcs2, htk⟩ : ∃ g cap, ∃ X : Array Value, Value.slice (some ⟨g', 0, none⟩) (n + m') cap' = .slice (some ⟨g, 0, none⟩) (n + m') cap ∧ 0 ≤ g ∧ w'.heap[g]? = some (.cells X el (0, 0)) ∧ n + m' ≤ cap ∧ cap ≤ maxLen ∧ X.size = cap * sz ∧ X.toList.take ((n + m') * sz) = cur.toList.take (n * sz) ++ news := by
    rcases hown' with ⟨h, _⟩ | ⟨g, cap, cur, h1, h2, h3, h4, h5, h6, h7⟩
    · cases h
    · exact ⟨g, cap, cur, h1, h2, h3, h4, h5, h6, h7⟩
  cases he2
  have hmod : Mod w w' [g] := ⟨hgrow.os, hgrow.tape, hgrow.output, hgrow.size, fun k hk hne => hgrow.block k hk (by simp [Value.ownBlock]; simpa using hne)⟩
  have ho' : OwnE w' ⟨g', el, xs ++ ys, cap' * sz⟩ := by
    refine ⟨cur2, hh2, hcs2, fun j x hj => ?_⟩
    have htj : ∀ v, (cur.toList.take (n * sz) ++ news)[j]? = some v → cur2[j]? = some v := fun v hv => by
      rw [← htk, List.getElem?_take] at hv
      split at hv
      · simpa using hv
      · cases hv
    rcases Nat.lt_or_ge j (n * sz) with h | h
    · rw [List.getElem?_append_left (by omega)] at hj
      obtain ⟨u, hu', hev⟩ := hcx j x hj
      refine ⟨u, htj u ?_, hev⟩
      rw [List.getElem?_append_left (by omega), List.getElem?_take, if_pos h]
      simpa using hu'
    · rw [List.getElem?_append_right (by omega), hxn] at hj
      have hj' : j - n * sz < news.length := by rw [hln]; exact (List.getElem?_eq_some_iff.1 hj).1
      obtain ⟨_, y, hy', _, hev⟩ := hnw (j - n * sz) _ (List.getElem?_eq_getElem hj')
      rw [hj] at hy'
      cases hy'
      refine ⟨_, htj _ ?_, hev⟩
      rw [List.getElem?_append_right (by omega), hlt', List.getElem?_eq_getElem hj']
  have hrun : (execOp a.eval ⟨some d, .call { callee := .builtin .append, args := #[A, B], argTypes := #[t, t] }, ty, pos, after, none⟩).run P w = .ok (.value (.slice (some ⟨g', 0, none⟩) (n + m') cap')) w' := by
    simp only [execOp, resolve, invoke, builtin, Sem.run_bind, Sem.run_pure, Result.andThen_ok, List.map_toArray, List.map_cons, List.map_nil, hA', hB', hr]
  refine ⟨g', cap', w', hnc2, hcm2, hrun, hS.updAt hH hmod ?_ ho'⟩
  rcases hat with h | h
  · left
    have : g = g' := by simpa [Value.ownBlock] using h
    exact this.symm
  · right; simp only; omega
theorem appendNil_run {sz m : Nat} {d : Tmp} {A B : Operand} {a : Act} {w : World} {ys : List AV} {z : Value} {b : Nat} [hu : TyU P t (.slice el)] [hi : TyI P el z sz b] (hS : StR R w0 gs H w) (hsz : 0 < sz)
    (hA' : a.eval A = .slice none 0 0) (hrd : Rd w sz (a.eval B) ys)
    (hy : ys.length = m * sz) (h0 : 1 ≤ m) (h1 : ys.all isOne = true) (hm : m ≤ maxLen) (hby : m * b ≤ 140737488355328) (hzc : z.cells.size = sz) :
    ∃ g' cap' w', m ≤ cap' ∧ cap' ≤ maxLen ∧ (execOp a.eval ⟨some d, .call { callee := .builtin .append, args := #[A, B], argTypes := #[t, t] }, ty, pos, after, none⟩).run P w = .ok (.value (.slice (some ⟨g', 0, none⟩) m cap')) w' ∧ StR R w0 gs (⟨g', el, ys, cap' * sz⟩ :: H) w' := by
  obtain ⟨ad, m', c, hB', hl, _, _, hcells⟩ := hrd
  obtain rfl : m' = m := Nat.eq_of_mul_eq_mul_right hsz (by rw [← hl, hy])
  have hpos : 0 < ys.length := by rw [hy]; exact Nat.mul_pos h0 hsz
  obtain ⟨bb, had, hsp, _⟩ := hcells 0 _ (List.getElem?_eq_getElem hpos)
  subst had
  obtain ⟨i, hi1, hz1, hs1, hb1⟩ := hi.h
  have hnews : ∃ news : List Value, news.length = ys.length ∧ ∀ (j : Nat) (u : Value), news[j]? = some u → w.cell? (bb.add j) = some u ∧ ∃ y, ys[j]? = some y ∧ isOne y = true ∧ Ev y u := by
    have hex : ∀ k, k ≤ ys.length → ∃ news : List Value, news.length = k ∧ ∀ (j : Nat) (u : Value), news[j]? = some u → w.cell? (bb.add j) = some u ∧ ∃ y, ys[j]? = some y ∧ isOne y = true ∧ Ev y u := by
      intro k
      induction k with
      | zero => intro _; exact ⟨[], rfl, fun j u h => by simp at h⟩
      | succ k ih =>
        intro hk
        obtain ⟨news, hln, hall⟩ := ih (by omega)
        have hy'' : ys[k]? = some (ys[k]'(by omega)) := List.getElem?_eq_getElem (by omega)
        obtain ⟨b', hb', hsp', u, hu', hev⟩ := hcells k _ hy''
        cases hb'
        refine ⟨news ++ [u], by simp [hln], fun j v hj => ?_⟩
        rcases Nat.lt_or_ge j k with h | h
        · rw [List.getElem?_append_left (by omega)] at hj; exact hall j v hj
        · have hjk : j = k := by
            have := (List.getElem?_eq_some_iff.1 hj).1
            simp only [List.length_append, hln, List.length_cons, List.length_nil] at this
            omega
          subst hjk
          rw [List.getElem?_append_right (by omega), hln, Nat.sub_self] at hj
          cases hj
          exact ⟨by rw [addr_add bb hsp]; exact hu', _, hy'', List.all_eq_true.1 h1 _ (List.getElem_mem _), hev⟩
    exact hex _ (Nat.le_refl _)
  obtain ⟨news, hln, hnw⟩ := hnews
  have hone : ∀ u ∈ news, u.oneCell' = true := fun u hu => by
    obtain ⟨j, hj⟩ := List.mem_iff_getElem?.1 hu
    obtain ⟨_, y, _, hy1, hev⟩ := hnw j u hj
    exact (oneAV_spec hy1 (hev w)).2.1
  obtain ⟨g', cap', w', hr, hown', hgrow, hat, hlt⟩ := run_append_lies (P := P) w t ty 0 el i z sz b hu.h hi1 hz1 hs1 hb1 hzc hsz (.slice none 0 0) 0 [] ⟨by simp, .inl ⟨rfl, rfl⟩⟩
    bb m' c news (by rw [hln, hy]) (fun j u hj => (hnw j u hj).1) hone (by omega) (by omega) (by rw [Nat.zero_add]; exact hby) (Nat.zero_le _) _ rfl
  rw [Nat.zero_add, List.nil_append] at hown'
  rw [Nat.zero_add] at hr
  obtain ⟨hlx, hown'⟩ := hown'
  obtain ⟨g2, cap2, cur2, he2, _, hh2, hnc2, hcm2, hcs2, htk⟩ : ∃ g cap, ∃ X : Array Value, Value.slice (some ⟨g', 0, none⟩) m' cap' = .slice (some ⟨g, 0, none⟩) m' cap ∧ 0 ≤ g ∧ w'.heap[g]? = some (.cells X el (0, 0)) ∧ m' ≤ cap ∧ cap ≤ maxLen ∧ X.size = cap * sz ∧ X.toList.take (m' * sz) = news := by
    rcases hown' with ⟨h, _⟩ | ⟨g, cap, cur, h1, h2, h3, h4, h5, h6, h7⟩
    · cases h
    · exact ⟨g, cap, cur, h1, h2, h3, h4, h5, h6, h7⟩
  cases he2
  have hmod : Mod w w' [] := ⟨hgrow.os, hgrow.tape, hgrow.output, hgrow.size, fun k hk _ => hgrow.block k hk (by simp [Value.ownBlock])⟩
  have ho' : OwnE w' ⟨g', el, ys, cap' * sz⟩ := by
    refine ⟨cur2, hh2, hcs2, fun j x hj => ?_⟩
    have htj : ∀ v, news[j]? = some v → cur2[j]? = some v := fun v hv => by
      rw [← htk, List.getElem?_take] at hv
      split at hv
      · simpa using hv
      · cases hv
    have hj' : j < news.length := by rw [hln]; exact (List.getElem?_eq_some_iff.1 hj).1
    obtain ⟨_, y, hy', _, hev⟩ := hnw j _ (List.getElem?_eq_getElem hj')
    rw [hj] at hy'
    cases hy'
    exact ⟨_, htj _ (List.getElem?_eq_getElem hj'), hev⟩
  have hrun : (execOp a.eval ⟨some d, .call { callee := .builtin .append, args := #[A, B], argTypes := #[t, t] }, ty, pos, after, none⟩).run P w = .ok (.value (.slice (some ⟨g', 0, none⟩) m' cap')) w' := by
    simp only [execOp, resolve, invoke, builtin, Sem.run_bind, Sem.run_pure, Result.andThen_ok, List.map_toArray, List.map_cons, List.map_nil, hA', hB', hr]
  have hg : w.heap.size ≤ g' := by
    rcases hat with h | h
    · cases h
    · omega
  exact ⟨g', cap', w', hnc2, hcm2, hrun, hS.new hmod.to_ext hg ho'⟩
theorem lit_run {d : Tmp} {a : Act} {w : World} {z : Value} {b n : Nat} {parts : Array (Nat × Operand)} {Xs : List Operand} {xs : List AV} [hu : TyU P t (.slice el)] [hi : TyI P el z 1 b]
    (hp : parts.toList = (List.range' 0 Xs.length).zip Xs) (hn : n = Xs.length) (hrl : RelL w xs (Xs.map a.eval)) (h1 : xs.all isOne = true) (hb : Nat.ble n 1000 = true) :
    ∃ g u w', (execOp a.eval ⟨some d, .buildSlice t n parts, ty, pos, after, none⟩).run P w = .ok (.value u) w' ∧ u = .slice (some ⟨g, 0, none⟩) n n ∧ Ext w w' ∧ w.heap.size ≤ g ∧ OwnE w' ⟨g, el, xs, n⟩ := by
  subst hn
  have hb' := Nat.le_of_ble_eq_true hb
  obtain ⟨i, hi1, hz1, hs1, hb1⟩ := hi.h
  have hlen : (Xs.map a.eval).length = xs.length := hrl.length
  have hlx : xs.length = Xs.length := by simpa using hlen.symm
  have hcells : ∀ v ∈ Xs.map a.eval, v.cells = #[v] := fun v hv => by
    obtain ⟨k, hk, rfl⟩ := List.mem_iff_getElem.1 hv
    obtain ⟨u, hu', hr⟩ := hrl.get (i := k) (a := xs[k]'(by omega)) (by simp)
    rw [List.getElem?_eq_getElem hk] at hu'
    cases hu'
    exact isOne_cells (List.all_eq_true.1 h1 _ (List.getElem_mem _)) hr
  have hfill : ∀ zc : Array Value, Instr.fill (fun i => some (i * 1, 1)) ((Array.range (Xs.length * 1)).map (zc[· % zc.size]!)) (parts.map fun (i, x) => (i, a.eval x)).toList = some (Xs.map a.eval).toArray := fun zc => by
    rw [Array.toList_map, hp]
    have hf := fill_row (Xs.map a.eval) 0 ((Array.range (Xs.length * 1)).map (zc[· % zc.size]!)) hcells (by simp)
    have e1 : ((List.range' 0 Xs.length).zip Xs).map (fun (x : Nat × Operand) => (x.1, a.eval x.2)) = (List.range' 0 (Xs.map a.eval).length).zip (Xs.map a.eval) := by
      rw [List.length_map, List.zip_map_right]
      rfl
    rw [show (fun (x : Nat × Operand) => match x with | (i, x) => (i, a.eval x)) = fun (x : Nat × Operand) => (x.1, a.eval x.2) from rfl, e1, hf]
    simp
  have hrun : (Instr.buildSlice t Xs.length (parts.map fun (i, x) => (i, a.eval x))).run P w = .ok (.slice (some ⟨w.heap.size, 0, none⟩) Xs.length Xs.length) (w.alloc (.cells (Xs.map a.eval).toArray el)) := by
    rcases Nat.eq_zero_or_pos Xs.length with h0 | h0
    · have hX : Xs = [] := List.eq_nil_of_length_eq_zero h0
      subst hX
      have hpe : parts = #[] := by
        apply Array.toList_inj.1
        rw [hp]; rfl
      subst hpe
      have hr0 : (Array.range 0) = (#[] : Array Nat) := rfl
      simp [Instr.buildSlice, run_underlying hu.h, sizeOf, typeInfo, hi1, newRow, Instr.fill, hr0]
    · have := run_buildSlice (P := P) w t el Xs.length (parts.map fun (i, x) => (i, a.eval x)) (Xs.map a.eval).toArray i z hu.h hi1 hz1 (by rw [hs1]; omega) (by rw [hs1]; omega) (by rw [hs1]; exact hfill z.cells)
      exact this
  refine ⟨w.heap.size, _, _, by simp only [execOp, Sem.run_bind, hrun, Result.andThen_ok]; rfl, rfl, Ext.alloc _ _, Nat.le_refl _, ?_⟩
  have ho := ext_alloc_own (w := w) (T := el) (xs := xs) (cs := (Xs.map a.eval).toArray) (fun k x hk => by
    obtain ⟨u, hu', hr⟩ := hrl.get hk
    exact ⟨u, by simpa using hu', isOne_ev (List.all_eq_true.1 h1 _ (List.mem_of_getElem? hk)) hr⟩)
  have hsz : (Xs.map a.eval).toArray.size = Xs.length := by simp
  rw [hsz] at ho
  exact ho


theorem sp_append (k : Nat) {f sz m : Nat} {d : Tmp} {A B : Operand} {g n cap : Nat} {xs ys : List AV} {z : Value} {b : Nat} [hu : TyU P t (.slice el)] [hi : TyI P el z sz b] (ho : ops[f]? = some ⟨some d, .call { callee := .builtin .append, args := #[A, B], argTypes := #[t, t] }, ty, pos, after, none⟩) (hck : tuOk ops ix N f = true) (hfr : F.look d = none) (hsz : 0 < sz)
    (hA : F.ev A = some (.raw (.slice (some ⟨g, 0, none⟩) n cap))) (hB : ∃ y, F.ev B = some y ∧ ∀ w v, StR R w0 gs H w → Rel w y v → Rd w sz v ys) (hH : H[k]? = some ⟨g, el, xs, cap * sz⟩) (hn : xs.length = n * sz ∧ n ≤ cap ∧ cap ≤ maxLen)
    (hy : ys.length = m * sz) (h0 : 1 ≤ m) (h1 : ys.all isOne = true) (hm : n + m ≤ maxLen) (hby : (n + m) * b ≤ 140737488355328) (hzc : z.cells.size = sz)
    (hk : ∀ g' cap', n + m ≤ cap' → cap' ≤ maxLen → Cont P N ops ix W D Q f ((d, .raw (.slice (some ⟨g', 0, none⟩) (n + m) cap')) :: F) (StR R w0 gs (H.set k ⟨g', el, xs ++ ys, cap' * sz⟩))) :
    SP P N ops ix W D F (StR R w0 gs H) Q f := by
  refine ⟨_, ho, hck, fun a w K Q' hS hop hK => ?_⟩
  have hA' := (hop A (by simp [Op.operands, Call.operands]) _ hA).inv_raw
  obtain ⟨y, hy', hrd⟩ := hB
  obtain ⟨g', cap', w', h2, h3, hr, hS'⟩ := append_run (P := P) (t := t) (el := el) (d := d) (ty := ty) (pos := pos) (after := after) k hS hsz hA' (hrd w _ hS (hop B (by simp [Op.operands, Call.operands]) _ hy')) hH hn hy h0 h1 hm hby hzc
  unfold Oper.wp
  rw [hr]
  exact hK _ _ ⟨_, _, hS', hk g' cap' h2 h3, .inr ⟨d, _, _, rfl, hfr, rfl, .raw, rfl, rfl⟩⟩
theorem sp_appendNil {f sz m : Nat} {d : Tmp} {A B : Operand} {ys : List AV} {z : Value} {b : Nat} [hu : TyU P t (.slice el)] [hi : TyI P el z sz b] (ho : ops[f]? = some ⟨some d, .call { callee := .builtin .append, args := #[A, B], argTypes := #[t, t] }, ty, pos, after, none⟩) (hck : tuOk ops ix N f = true) (hfr : F.look d = none) (hsz : 0 < sz)
    (hA : F.ev A = some (.raw (.slice none 0 0))) (hB : ∃ y, F.ev B = some y ∧ ∀ w v, StR R w0 gs H w → Rel w y v → Rd w sz v ys)
    (hy : ys.length = m * sz) (h0 : 1 ≤ m) (h1 : ys.all isOne = true) (hm : m ≤ maxLen) (hby : m * b ≤ 140737488355328) (hzc : z.cells.size = sz)
    (hk : ∀ g' cap', m ≤ cap' → cap' ≤ maxLen → Cont P N ops ix W D Q f ((d, .raw (.slice (some ⟨g', 0, none⟩) m cap')) :: F) (StR R w0 gs (⟨g', el, ys, cap' * sz⟩ :: H))) :
    SP P N ops ix W D F (StR R w0 gs H) Q f := by
  refine ⟨_, ho, hck, fun a w K Q' hS hop hK => ?_⟩
  have hA' := (hop A (by simp [Op.operands, Call.operands]) _ hA).inv_raw
  obtain ⟨y, hy', hrd⟩ := hB
  obtain ⟨g', cap', w', h2, h3, hr, hS'⟩ := appendNil_run (P := P) (t := t) (el := el) (d := d) (ty := ty) (pos := pos) (after := after) hS hsz hA' (hrd w _ hS (hop B (by simp [Op.operands, Call.operands]) _ hy')) hy h0 h1 hm hby hzc
  unfold Oper.wp
  rw [hr]
  exact hK _ _ ⟨_, _, hS', hk g' cap' h2 h3, .inr ⟨d, _, _, rfl, hfr, rfl, .raw, rfl, rfl⟩⟩
/-- A literal of one-cell elements, in a block of its own. -/
theorem sp_lit {f : Nat} {d : Tmp} {z : Value} {b n : Nat} {parts : Array (Nat × Operand)} {xs : List AV} [hu : TyU P t (.slice el)] [hi : TyI P el z 1 b] (ho : ops[f]? = some ⟨some d, .buildSlice t n parts, ty, pos, after, none⟩) (hck : tuOk ops ix N f = true) (hfr : F.look d = none)
    (hx : evL F (parts.toList.map (·.2)) = some xs) (hp : parts.toList = (List.range' 0 (parts.toList.map (·.2)).length).zip (parts.toList.map (·.2))) (hn : n = (parts.toList.map (·.2)).length) (h1 : xs.all isOne = true) (hb : Nat.ble n 1000 = true)
    (hk : ∀ g, Cont P N ops ix W D Q f ((d, .raw (.slice (some ⟨g, 0, none⟩) n n)) :: F) (StR R w0 gs (⟨g, el, xs, n⟩ :: H))) : SP P N ops ix W D F (StR R w0 gs H) Q f := by
  refine ⟨_, ho, hck, fun a w K Q' hS hop hK => ?_⟩
  have hrl := evL_rel (w := w) (a := a) hx fun X hX y hy => hop X (by simpa [Op.operands] using hX) y hy
  obtain ⟨g, u, w', hr, rfl, hw, hg, hO⟩ := lit_run (P := P) (t := t) (el := el) (d := d) (ty := ty) (pos := pos) (after := after) hp hn hrl h1 hb
  unfold Oper.wp
  rw [hr]
  exact hK _ _ ⟨_, _, hS.new hw hg hO, hk g, .inr ⟨d, _, _, rfl, hfr, rfl, .raw, rfl, rfl⟩⟩
/-- Any operation that gives a value and writes nothing that was there. -/
theorem sp_op {f : Nat} {d : Tmp} {op : Op} {v : AV} [Cl S] (ho : ops[f]? = some ⟨some d, op, ty, pos, after, none⟩) (hck : tuOk ops ix N f = true) (hfr : F.look d = none) (hj : OpJ P S F ⟨some d, op, ty, pos, after, none⟩ v) (hv : v.still = true)
    (hk : Cont P N ops ix W D Q f ((d, v) :: F) S) : SP P N ops ix W D F S Q f :=
  ⟨_, ho, hck, fun a w K Q' hS hop hK => hj a w K Q' hS hop fun u w' hw hr => hK _ _ ⟨_, S, Cl.ext hS hw, hk, .inr ⟨d, v, u, rfl, hfr, rfl, hr, hv, rfl⟩⟩⟩
theorem sp_eff {f : Nat} {op : Op} {S1 : World → Prop} (ho : ops[f]? = some ⟨none, op, ty, pos, after, none⟩) (hck : tuOk ops ix N f = true) (hj : EffJ P S S1 F ⟨none, op, ty, pos, after, none⟩)
    (hk : Cont P N ops ix W D Q f F S1) : SP P N ops ix W D F S Q f :=
  ⟨_, ho, hck, fun a w K Q' hS hop hK => hj a w K Q' hS hop fun w' hS1 => hK _ _ ⟨F, S1, hS1, hk, .inl ⟨rfl, rfl, rfl⟩⟩⟩
theorem sp_makes {f : Nat} {o : Oper} {d : Tmp} {S1 : Nat → World → Prop} (ho : ops[f]? = some o) (hd : o.dst = some d) (hck : tuOk ops ix N f = true) (hfr : F.look d = none) (hm : MakesX P S S1 o)
    (hk : ∀ g, Cont P N ops ix W D Q f ((d, .raw (.pointer (some ⟨g, 0, none⟩))) :: F) (S1 g)) : SP P N ops ix W D F S Q f :=
  ⟨_, ho, hck, fun a w K Q' hS hop hK => hm a w K Q' hS fun g w' hx hS1 => hK _ _ ⟨_, S1 g, hS1, hk g, .inr ⟨d, _, _, hd, hfr, by rw [hd], .raw, rfl, rfl⟩⟩⟩
/-- A call that turns a block of the call's own. -/
theorem sp_callAt (k : Nat) {X : Type} {A : World → List AV} {mk : X → AV} {good : X → Prop} {f : Nat} {c : FuncId} {xs : List Operand} {Fo : Operand} {args : List AV} {d : Tmp} {ts : Array TypeId} [hb : HasBody P c] {en : Ent} {en' : X → Ent}
    (ho : ops[f]? = some ⟨some d, .call { callee := .value Fo, args := xs.toArray, argTypes := ts }, ty, pos, after, none⟩) (hck : tuOk ops ix N f = true) (hfr : F.look d = none)
    (hc : FnH P c A [en] mk (fun y => [en' y]) good) (hH : H[k]? = some en) (hF' : F.ev Fo = some (.raw (.func (.func c) #[] #[]))) (hx : evL F xs = some args) (ht : Takes (StR R w0 gs H) args A) (hs : ∀ y, good y → (mk y).still = true)
    (hk : ∀ y, good y → Cont P N ops ix W D Q f ((d, mk y) :: F) (StR R w0 gs (H.set k (en' y)))) : SP P N ops ix W D F (StR R w0 gs H) Q f := by
  refine ⟨_, ho, hck, fun a w K Q' hS hop hK => ?_⟩
  obtain ⟨fnc, hf, hbd, hn⟩ := hb.h
  have h1 := (hop Fo (by simp [Op.operands, Call.operands]) _ hF').inv_raw
  have hrl : RelL w (A w) (xs.map a.eval) := ht w _ hS (evL_rel hx fun x hxm => hop x (by simp [Op.operands, Call.operands, hxm]))
  obtain ⟨hlt, hen⟩ := List.getElem?_eq_some_iff.1 hH
  have hp : (en :: H.eraseIdx k).Perm H := by
    have := erase_perm hlt
    rw [hen] at this
    exact this
  have hS2 : StR R w0 gs ([en] ++ H.eraseIdx k) w := hS.perm hp
  have hcall := hc w _ hrl (fun x hx => (hS2.own x (by simpa using .inl (by simpa using hx))).2) (by simp)
  unfold Oper.wp
  have hrun : (execOp a.eval ⟨some d, .call { callee := .value Fo, args := xs.toArray, argTypes := ts }, ty, pos, after, none⟩).run P w = .ok (.enter c (xs.map a.eval).toArray) w := by
    simp [execOp, resolve, h1, Deferred.ofValue, invoke, run_callFn hf hbd hn]
  rw [hrun]
  refine Calls.mono hcall fun x w' ⟨v, y, hx', hy, hrv, hm, hpo, hpn⟩ => ?_
  subst hx'
  have hlt' : k < (H.set k (en' y)).length := by simpa using hlt
  have hp' := erase_perm hlt'
  rw [List.getElem_set_self, List.eraseIdx_set_eq] at hp'
  exact hK _ w' ⟨_, _, (hS2.call hm hpo hpn).perm hp'.symm, hk y hy, .inr ⟨d, mk y, v, rfl, hfr, rfl, hrv, hs y hy, rfl⟩⟩
theorem sp_call {X : Type} {A : World → List AV} {mk : X → AV} {post : X → List Ent} {good : X → Prop} {f : Nat} {c : FuncId} {xs : List Operand} {Fo : Operand} {args : List AV} {d : Tmp} {ts : Array TypeId} [hb : HasBody P c]
    (ho : ops[f]? = some ⟨some d, .call { callee := .value Fo, args := xs.toArray, argTypes := ts }, ty, pos, after, none⟩) (hck : tuOk ops ix N f = true) (hfr : F.look d = none)
    (hc : FnH P c A [] mk post good) (hF' : F.ev Fo = some (.raw (.func (.func c) #[] #[]))) (hx : evL F xs = some args) (ht : Takes (StR R w0 gs H) args A) (hs : ∀ y, good y → (mk y).still = true)
    (hk : ∀ y, good y → Cont P N ops ix W D Q f ((d, mk y) :: F) (StR R w0 gs (post y ++ H))) : SP P N ops ix W D F (StR R w0 gs H) Q f := by
  refine ⟨_, ho, hck, fun a w K Q' hS hop hK => ?_⟩
  obtain ⟨fnc, hf, hbd, hn⟩ := hb.h
  have h1 := (hop Fo (by simp [Op.operands, Call.operands]) _ hF').inv_raw
  have hrl : RelL w (A w) (xs.map a.eval) := ht w _ hS (evL_rel hx fun x hxm => hop x (by simp [Op.operands, Call.operands, hxm]))
  have hcall := hc w _ hrl (fun _ h => by cases h) List.Pairwise.nil
  unfold Oper.wp
  have hrun : (execOp a.eval ⟨some d, .call { callee := .value Fo, args := xs.toArray, argTypes := ts }, ty, pos, after, none⟩).run P w = .ok (.enter c (xs.map a.eval).toArray) w := by
    simp [execOp, resolve, h1, Deferred.ofValue, invoke, run_callFn hf hbd hn]
  rw [hrun]
  refine Calls.mono hcall fun x w' ⟨v, y, hx', hy, hrv, hm, hp, hpn⟩ => ?_
  subst hx'
  exact hK _ w' ⟨_, _, StR.call (A := []) (H := H) hS hm hp hpn, hk y hy, .inr ⟨d, mk y, v, rfl, hfr, rfl, hrv, hs y hy, rfl⟩⟩
end
end Go.Ab
namespace Go.Ab
open Go.Proofs
variable {R : World → Prop} [RStab R]
def putN (k x : Nat) (A : Nat → Nat) (i : Nat) : Nat := if i = k then x else A i
attribute [local irreducible] WS RS Done OpJ Then InBlock Round Ret Env.sub FnH
attribute [local irreducible] tab tabC
end Go.Ab
namespace Go.Ab
open Go.Proofs
variable {R : World → Prop} [RStab R]
theorem pairs_get (f h : Nat → AV) : ∀ (k i : Nat), ((List.range k).flatMap fun i => [f i, h i])[i]? = if i < k * 2 then some (if i % 2 = 0 then f (i / 2) else h (i / 2)) else none
  | 0, i => by simp
  | k + 1, i => by
    have hl : ∀ k, ((List.range k).flatMap fun i => [f i, h i]).length = k * 2 := fun k => by
      induction k with
      | zero => rfl
      | succ k ih =>
        rw [List.range_succ, List.flatMap_append, List.length_append, ih]
        simp only [List.flatMap_cons, List.flatMap_nil, List.append_nil, List.length_cons, List.length_nil]
        omega
    rw [List.range_succ, List.flatMap_append]
    rcases Nat.lt_or_ge i (k * 2) with h1 | h1
    · rw [List.getElem?_append_left (by rw [hl]; exact h1), pairs_get f h k i, if_pos h1, if_pos (show i < (k + 1) * 2 by omega)]
    · rw [List.getElem?_append_right (by rw [hl]; exact h1), hl]
      simp only [List.flatMap_cons, List.flatMap_nil, List.append_nil]
      obtain h2 | h2 | h2 : i = k * 2 ∨ i = k * 2 + 1 ∨ k * 2 + 2 ≤ i := by omega
      · subst h2
        rw [if_pos (by omega), if_pos (by omega), show k * 2 / 2 = k by omega, Nat.sub_self]
        rfl
      · subst h2
        rw [if_pos (by omega), if_neg (by omega), show (k * 2 + 1) / 2 = k by omega, show k * 2 + 1 - k * 2 = 1 by omega]
        rfl
      · rw [if_neg (by omega), List.getElem?_eq_none (by simp only [List.length_cons, List.length_nil]; omega)]
attribute [local irreducible] WS RS Done OpJ Then InBlock Round Ret Env.sub FnH
attribute [local irreducible] tab tabC
end Go.Ab
namespace Go.Ab
open Go.Proofs
variable {R : World → Prop} [RStab R]
section
variable {P : Program} {t el : TypeId} {S : World → Prop} {N : Nat} {e : Env} {Q : Exit → Env → World → Prop} {ops : Array Oper} {l : List Oper} {dst : Option Tmp} {ty : TypeId} {pos : String} {after : Array Edge} {guard : Option (Nat × Bool)}
variable {w0 : World} {gs : List Nat} {H : List Ent}
/-- 'append' to nothing. -/
theorem rs_appendNil2 {sz m : Nat} {d : Tmp} {A B : Operand} {ys : List AV} {z : Value} {b : Nat} [hu : TyU P t (.slice el)] [hi : TyI P el z sz b] (hd : Nat.blt d N = true) (hsz : 0 < sz)
    (hA : e.ev A = some (.raw (.slice none 0 0))) (hB : ∃ y, e.ev B = some y ∧ ∀ w v, StR R w0 gs H w → Rel w y v → Rd w sz v ys)
    (hy : ys.length = m * sz) (h0 : 1 ≤ m) (h1 : ys.all isOne = true) (hm : m ≤ maxLen) (hby : m * b ≤ 140737488355328) (hzc : z.cells.size = sz)
    (hk : ∀ g' cap', m ≤ cap' → cap' ≤ maxLen → RS P N ops l ((d, .raw (.slice (some ⟨g', 0, none⟩) m cap')) :: e) (StR R w0 gs (⟨g', el, ys, cap' * sz⟩ :: H)) Q) :
    RS P N ops (⟨some d, .call { callee := .builtin .append, args := #[A, B], argTypes := #[t, t] }, ty, pos, after, none⟩ :: l) e (StR R w0 gs H) Q := by
  intro a w hS hF
  refine wpList_plain rfl fun K hK => ?_
  have hA' := (hF.eval hA).inv_raw
  obtain ⟨y, hy', hrd⟩ := hB
  obtain ⟨ad, m', c, hB', hl, _, _, hcells⟩ := hrd w _ hS (hF.eval hy')
  obtain rfl : m' = m := Nat.eq_of_mul_eq_mul_right hsz (by rw [← hl, hy])
  have hpos : 0 < ys.length := by rw [hy]; exact Nat.mul_pos h0 hsz
  obtain ⟨bb, had, hsp, _⟩ := hcells 0 _ (List.getElem?_eq_getElem hpos)
  subst had
  obtain ⟨i, hi1, hz1, hs1, hb1⟩ := hi.h
  have hnews : ∃ news : List Value, news.length = ys.length ∧ ∀ (j : Nat) (u : Value), news[j]? = some u → w.cell? (bb.add j) = some u ∧ ∃ y, ys[j]? = some y ∧ isOne y = true ∧ Ev y u := by
    have hex : ∀ k, k ≤ ys.length → ∃ news : List Value, news.length = k ∧ ∀ (j : Nat) (u : Value), news[j]? = some u → w.cell? (bb.add j) = some u ∧ ∃ y, ys[j]? = some y ∧ isOne y = true ∧ Ev y u := by
      intro k
      induction k with
      | zero => intro _; exact ⟨[], rfl, fun j u h => by simp at h⟩
      | succ k ih =>
        intro hk
        obtain ⟨news, hln, hall⟩ := ih (by omega)
        have hy'' : ys[k]? = some (ys[k]'(by omega)) := List.getElem?_eq_getElem (by omega)
        obtain ⟨b', hb', hsp', u, hu', hev⟩ := hcells k _ hy''
        cases hb'
        refine ⟨news ++ [u], by simp [hln], fun j v hj => ?_⟩
        rcases Nat.lt_or_ge j k with h | h
        · rw [List.getElem?_append_left (by omega)] at hj; exact hall j v hj
        · have hjk : j = k := by
            have := (List.getElem?_eq_some_iff.1 hj).1
            simp only [List.length_append, hln, List.length_cons, List.length_nil] at this
            omega
          subst hjk
          rw [List.getElem?_append_right (by omega), hln, Nat.sub_self] at hj
          cases hj
          exact ⟨by rw [addr_add bb hsp]; exact hu', _, hy'', List.all_eq_true.1 h1 _ (List.getElem_mem _), hev⟩
    exact hex _ (Nat.le_refl _)
  obtain ⟨news, hln, hnw⟩ := hnews
  have hone : ∀ u ∈ news, u.oneCell' = true := fun u hu => by
    obtain ⟨j, hj⟩ := List.mem_iff_getElem?.1 hu
    obtain ⟨_, y, _, hy1, hev⟩ := hnw j u hj
    exact (oneAV_spec hy1 (hev w)).2.1
  obtain ⟨g', cap', w', hr, hown', hgrow, hat, hlt⟩ := run_append_lies (P := P) w t ty 0 el i z sz b hu.h hi1 hz1 hs1 hb1 hzc hsz (.slice none 0 0) 0 [] ⟨by simp, .inl ⟨rfl, rfl⟩⟩
    bb m' c news (by rw [hln, hy]) (fun j u hj => (hnw j u hj).1) hone (by omega) (by omega) (by rw [Nat.zero_add]; exact hby) (Nat.zero_le _) _ rfl
  rw [Nat.zero_add, List.nil_append] at hown'
  rw [Nat.zero_add] at hr
  obtain ⟨hlx, hown'⟩ := hown'
  obtain ⟨g2, cap2, cur2, he2, _, hh2, hnc2, hcm2, hcs2, htk⟩ : ∃ g cap, ∃ X : Array Value, Value.slice (some ⟨g', 0, none⟩) m' cap' = .slice (some ⟨g, 0, none⟩) m' cap ∧ 0 ≤ g ∧ w'.heap[g]? = some (.cells X el (0, 0)) ∧ m' ≤ cap ∧ cap ≤ maxLen ∧ X.size = cap * sz ∧ X.toList.take (m' * sz) = news := by
    rcases hown' with ⟨h, _⟩ | ⟨g, cap, cur, h1, h2, h3, h4, h5, h6, h7⟩
    · cases h
    · exact ⟨g, cap, cur, h1, h2, h3, h4, h5, h6, h7⟩
  cases he2
  have hmod : Mod w w' [] := ⟨hgrow.os, hgrow.tape, hgrow.output, hgrow.size, fun k hk _ => hgrow.block k hk (by simp [Value.ownBlock])⟩
  have ho' : OwnE w' ⟨g', el, ys, cap' * sz⟩ := by
    refine ⟨cur2, hh2, hcs2, fun j x hj => ?_⟩
    have htj : ∀ v, news[j]? = some v → cur2[j]? = some v := fun v hv => by
      rw [← htk, List.getElem?_take] at hv
      split at hv
      · simpa using hv
      · cases hv
    have hj' : j < news.length := by rw [hln]; exact (List.getElem?_eq_some_iff.1 hj).1
    obtain ⟨_, y, hy', _, hev⟩ := hnw j _ (List.getElem?_eq_getElem hj')
    rw [hj] at hy'
    cases hy'
    exact ⟨_, htj _ (List.getElem?_eq_getElem hj'), hev⟩
  unfold Oper.wp
  have hrun : (execOp a.eval ⟨some d, .call { callee := .builtin .append, args := #[A, B], argTypes := #[t, t] }, ty, pos, after, none⟩).run P w = .ok (.value (.slice (some ⟨g', 0, none⟩) m' cap')) w' := by
    simp only [execOp, resolve, invoke, builtin, Sem.run_bind, Sem.run_pure, Result.andThen_ok, List.map_toArray, List.map_cons, List.map_nil, hA', hB', hr]
  rw [hrun]
  have hg : w.heap.size ≤ g' := by
    rcases hat with h | h
    · cases h
    · omega
  exact hK _ _ (hk g' cap' hnc2 hcm2 _ w' (hS.new hmod.to_ext hg ho') (Fr.put (some d) (hF.ext hmod.to_ext) (fun _ h => by cases h; exact Nat.le_of_ble_eq_true hd) .raw))

theorem rs_callM3 {X : Type} {A : World → List AV} {mk : X → AV} {post : X → List Ent} {good : X → Prop} {c : FuncId} {xs : List Operand} {F : Operand} {args : List AV} {d : Tmp} {ts : Array TypeId} [hb : HasBody P c]
    (hc : FnH P c A [] mk post good) (hF : e.ev F = some (.raw (.func (.func c) #[] #[]))) (hx : evL e xs = some args) (ht : Takes (StR R w0 gs H) args A) (hd : Nat.blt d N = true)
    (h : ∀ y, good y → RS P N ops l ((d, mk y) :: e.keep) (StR R w0 gs (post y ++ H)) Q) :
    RS P N ops (⟨some d, .call { callee := .value F, args := xs.toArray, argTypes := ts }, ty, pos, after, none⟩ :: l) e (StR R w0 gs H) Q := rs_call (pre := []) (H := H) hc hF hx ht hd h
omit [RStab R] in
theorem rd_ownM {w : World} {g n cap sz c : Nat} {T : TypeId} {xs : List AV} {v : Value} (hS : StR R w0 gs H w) (hr : Rel w (.raw (.slice (some ⟨g, 0, none⟩) n cap)) v) (hm : (⟨g, T, xs, c⟩ : Ent) ∈ H) (hn : xs.length = n * sz) (hc : n ≤ cap ∧ cap ≤ maxLen) : Rd w sz v xs := by
  have hv' := hr.inv_raw
  subst hv'
  refine ⟨_, n, cap, rfl, hn, hc.1, hc.2, fun i x hi => ⟨_, rfl, rfl, ?_⟩⟩
  obtain ⟨u, hu, hev⟩ := (hS.own _ hm).2.cell hi
  exact ⟨u, by simpa using hu, hev⟩
/-- A store into a cell of a block of the call's own. -/
theorem effj_storeX (k : Nat) {g i c : Nat} {T : TypeId} {xs ys : List AV} {t : TypeId} {z : Value} {b : Nat} [hi : TyI P t z 1 b] {A X : Operand} {x : AV} (hA : e.ev A = some (.raw (.pointer (some ⟨g, i, none⟩)))) (hx : e.ev X = some x) (h1 : oneAV x = true) (hH : H[k]? = some ⟨g, T, xs, c⟩) (hi' : Nat.blt i c = true) (hy : xs.set i x = ys) :
    EffJ P (StR R w0 gs H) (StR R w0 gs (H.set k ⟨g, T, ys, c⟩)) e ⟨none, .store t A X, ty, pos, after, none⟩ := by
  subst hy
  intro a w K Q hS ho hK
  have h2 := (ho A (by simp [Op.operands]) _ hA).inv_raw
  have hr := ho X (by simp [Op.operands]) _ hx
  obtain ⟨hc, ho1, hst⟩ := oneAV_spec h1 hr
  have hi'' : i < c := Nat.le_of_ble_eq_true hi'
  have hmem : (⟨g, T, xs, c⟩ : Ent) ∈ H := List.mem_of_getElem? hH
  obtain ⟨cur, hb, hcs, _⟩ := (hS.own _ hmem).2
  have hic : i < cur.size := by rw [hcs]; exact hi''
  have hcell : w.cell? ⟨g, i, none⟩ = some cur[i] := by simp [World.cell?, hb, hic]
  have hfr : w.frozen? ⟨g, i, none⟩ = false := OwnE.frozen (hS.own _ hmem).2 i
  have hrun : (execOp a.eval ⟨none, .store t A X, ty, pos, after, none⟩).run P w = .ok .skip (w.setCell ⟨g, i, none⟩ (a.eval X)) := by
    have hst : (store ⟨g, i, none⟩ (a.eval X)).run P w = .ok () (w.setCell ⟨g, i, none⟩ (a.eval X)) := by
      rw [run_store P w _ _ _ ho1, hcell]; simp [hfr]
    have hadd : (⟨g, i, none⟩ : Addr).add 0 = ⟨g, i, none⟩ := rfl
    simp [execOp, h2, Instr.storeAt, Instr.sureAddr, storeVar, run_size hi, hc, storeCells, hadd, hst]
  unfold Oper.wp
  rw [hrun]
  exact hK _ (hS.updAt hH (mod_setCell w g i _) (.inl rfl) (own_setCell (e := ⟨g, T, xs, c⟩) (hS.own _ hmem).2 hi'' (hr.ev hst)))
/-- A curve of the call's own whose lists have room. -/
abbrev crvOc (a b n ca cb : Nat) : AV := .agg [.raw (.slice (some ⟨a, 0, none⟩) n ca), .raw (.slice (some ⟨b, 0, none⟩) n cb)]
end
def AV.ptrQ (w : World) (xs : List AV) : AV := .q fun v => PtrTo xs w v
section
variable {P : Program} {S : World → Prop} {e : Env} {dst : Option Tmp} {ty : TypeId} {pos : String} {after : Array Edge} {guard : Option (Nat × Bool)} {t : TypeId} {w0 : World} {gs : List Nat} {H : List Ent}
theorem opj_loadZ {R0 : World → Prop} {X : Operand} {x : AV} {xs : List AV} {t : TypeId} {d : TypeDesc} [hd : TyU P t d] (ha : aggD d = false) (hx : e.ev X = some (AV.ptrQ w0 xs)) (h0 : xs[0]? = some x) :
    OpJ P (StR R0 w0 [] H) e ⟨dst, .load t X, ty, pos, after, guard⟩ x :=
  opj_value fun a w hS h => by
    obtain ⟨bb, hv, hsp, hr⟩ := mono_ptrTo xs _ _ _ hS.ext0 (h X (by simp [Op.operands]) _ hx).inv_q
    obtain ⟨u, hu, hev⟩ := hr 0 x h0
    have hbb : (⟨bb.block, bb.off + 0, none⟩ : Addr) = bb := by cases bb; simp_all
    rw [hbb] at hu
    exact ⟨u, w, by simp [execOp, hv, Instr.loadAt, Instr.sureAddr, run_loadVar_cell hd.h ha hu], Ext.refl _, hev w⟩
end
class CrvZ (P : Program) (t : TypeId) : Prop where
  b0 : ∀ (w : World), (Instr.build t #[]).run P w = .ok (.agg #[.slice none 0 0, .slice none 0 0]) w
instance crvZi : CrvZ Try.prog 50 := ⟨fun w => by kernel_rfl⟩
section
variable {P : Program} {S : World → Prop} {e : Env} {dst : Option Tmp} {ty : TypeId} {pos : String} {after : Array Edge} {guard : Option (Nat × Bool)} {t : TypeId}
theorem opj_buildZ [hb : CrvZ P t] : OpJ P S e ⟨dst, .build t #[], ty, pos, after, guard⟩ (.agg [.raw (.slice none 0 0), .raw (.slice none 0 0)]) :=
  opj_value fun ac w _ h => by
    refine ⟨_, w, ?_, Ext.refl _, .agg (vs := [.slice none 0 0, .slice none 0 0]) (.cons .raw (.cons .raw .nil))⟩
    simp only [execOp, List.map_toArray, List.map_nil, Sem.run_bind, hb.b0, Result.andThen_ok]
    rfl
end
def blW (u v t : FV) : FV := fbin .add .f32 (fbin .mul .f32 u (fbin .sub .f32 one1 t)) (fbin .mul .f32 v t)
def blC (a b : CV) (u v t : FV) : CV := scaleC (addC2 (scaleC a (fbin .mul .f32 u (fbin .sub .f32 one1 t))) (scaleC b (fbin .mul .f32 v t))) (fbin .quo .f32 one1 (blW u v t))
def rowP (P : Nat → CV) (f : Int → FV) (t : FV) (i : Nat) : CV := blC (P i) (P (i + 1)) (f i) (f ((i : Int) + 1)) t
def rowW (f : Int → FV) (t : FV) (i : Int) : FV := blW (f i) (f (i + 1)) t
def rowsP (P : Nat → CV) (f : Int → FV) (t : FV) : Nat → (Nat → CV) × (Int → FV)
  | 0 => (P, f)
  | k + 1 => (rowP (rowsP P f t k).1 (rowsP P f t k).2 t, rowW (rowsP P f t k).2 t)
theorem entC_one (g c : Nat) (F : Nat → CV) : (⟨g, 31, [cA (F 0)], c * 1⟩ : Ent) = entC g 1 F c := by
  unfold entC tabC
  rw [Nat.mul_one]
  rfl
theorem entF_one (g c : Nat) (T : TypeId) (f : Int → FV) : (⟨g, T, [.f .f32 (f 0)], c * 1⟩ : Ent) = entF g T 1 f c := by
  unfold entF tab
  rw [Nat.mul_one]
  rfl
end Go.Ab
