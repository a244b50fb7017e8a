/- Maps whose keys are pairs of whole numbers, closures, and functions told by the states ahead of them and behind. No conditions. -/
import Derived.Test.YtnajffjobgeenaaStr
import Derived.WideKeyPair
import Derived.DeepKeys4
import Derived.ChangeMaps5
namespace Go.Ab
open Go.ChangeMaps (setBlock heap_setBlock_same heap_setBlock_other)
variable {R : World → Prop} [RStab R]

/-! Functions by the states ahead and behind. -/
def FnW (P : Program) (f : FuncId) (A : List AV) (S T : World → Prop) (r : AV) : Prop :=
  ∀ w vs, RelL w A vs → S w → Calls P f vs.toArray w fun x w' => ∃ v, x = .returned v ∧ Rel w' r v ∧ T w'
def RetW (P : Program) (fn : Func) (N : Nat) (T : World → Prop) (r : AV) (x : Exit) (e : Env) (w : World) : Prop :=
  (x = .ret ∨ x = .normal) ∧ T w ∧ ∀ a, Fr N e a w → ∃ v, (results fn a.tmps).run P w = .ok v w ∧ Rel w r v
section
variable {P : Program} {N : Nat} {S T : World → Prop} {e : Env} {Q : Exit → Env → World → Prop} {ops : Array Oper} {l : List Oper} {o : Oper} {f : FuncId} {fn : Func} {r : AV}
theorem fnw_intro {A : List AV} {c : Code} (hf : P.funcs[f]? = some fn) (hb : fn.body = some c) (hN : fn.ntmps = N) (hA : A.length ≤ N) (h : WS P N c (envOf 0 A) S (RetW P fn N T r)) : FnW P f A S T r := by
  intro w vs hr hS
  refine calls_of_wp hf hb (Code.wp_mono ?_ (h _ w hS ?_))
  · intro x a' w' ⟨e', hF, hx, hT, hres⟩
    obtain ⟨v, hv, hrv⟩ := hres a' hF
    have : a'.defers = [] ∧ ∃ v, (results fn a'.tmps).run P w' = .ok v w' ∧ (∃ v', Ending.returned v = .returned v' ∧ Rel w' r v' ∧ T w') := ⟨hF.defers, v, hv, v, rfl, hrv, hT⟩
    rcases hx with rfl | rfl <;> exact this
  · have hlen := hr.length
    refine ⟨rfl, ?_, fun t v ht => ?_⟩
    · simp [hN]; omega
    · obtain ⟨_, hv⟩ := envOf_look 0 A t v ht
      obtain ⟨u, hu, hru⟩ := hr.get hv
      refine ⟨u, ?_, hru⟩
      have hlt : t < vs.length := (List.getElem?_eq_some_iff.1 hu).1
      simp only [Nat.sub_zero] at hu
      simp [Array.getElem?_append, hlt]
      exact (List.getElem?_eq_some_iff.1 hu).2
theorem done_w0 {x : Exit} (hx : x = .ret ∨ x = .normal) (hr : fn.results = #[]) (h : ∀ w, S w → T w) : Done x e S (RetW P fn N T (.tup [])) := fun w hw =>
  ⟨hx, h w hw, fun a _ => ⟨.tuple #[], results_none hr _ _ _, .tup (vs := []) .nil⟩⟩
theorem done_w1 {t : Tmp} {r : AV} (hr : fn.results = #[.tmp t]) (ht : e.look t = some r) (h : ∀ w, S w → T w) : Done .ret e S (RetW P fn N T r) := fun w hw =>
  ⟨.inl rfl, h w hw, fun a hF => by
    obtain ⟨u, hu, hru⟩ := hF.rel t _ ht
    exact ⟨u, by rw [results_tmp hr]; simp [hu], hru⟩⟩
/-- A call of a function by name. -/
theorem rs_callW {c : FuncId} {A args : List AV} {xs : List Operand} {F : Operand} {dst : Tmp} {ts : Array TypeId} {ty : TypeId} {pos : String} {after : Array Edge} [hb : HasBody P c]
    (hc : FnW P c A S T r) (hF' : e.ev F = some (.raw (.func (.func c) #[] #[]))) (hx : evL e xs = some args) (ht : Takes S args (fun _ => A)) (hd : Nat.blt dst N = true)
    (h : RS P N ops l ((dst, r) :: e.keep) T Q) :
    RS P N ops (⟨some dst, .call { callee := .value F, args := xs.toArray, argTypes := ts }, ty, pos, after, none⟩ :: l) e S Q := by
  intro a w hS hF
  refine wpList_plain rfl fun K hK => ?_
  obtain ⟨fnc, hf, hbd, hn⟩ := hb.h
  have h1 := (hF.eval hF').inv_raw
  have hrl : RelL w A (xs.map a.eval) := ht w _ hS (evL_rel hx fun x _ y hy => hF.eval hy)
  have hcall := hc w _ hrl hS
  unfold Oper.wp
  have hrun : (execOp a.eval ⟨some dst, .call { callee := .value F, args := xs.toArray, argTypes := ts }, ty, pos, after, none⟩).run P w = .ok (.enter c (xs.map a.eval).toArray) w := by
    simp [execOp, resolve, h1, Deferred.ofValue, invoke, run_callFn hf hbd hn]
  rw [hrun]
  refine Calls.mono hcall fun x w' ⟨v, hx', hrv, hT⟩ => ?_
  subst hx'
  exact hK _ _ (h _ w' hT (Fr.put (some dst) hF.keep (fun _ h => by cases h; exact Nat.le_of_ble_eq_true hd) hrv))
theorem rell_raw (w : World) : ∀ l : List Value, RelL w (l.map .raw) l
  | [] => .nil
  | _ :: l => .cons .raw (rell_raw w l)
/-- A call of a closure. -/
theorem rs_callC {c : FuncId} {A args : List AV} {caps : List Value} {xs : List Operand} {F : Operand} {dst : Tmp} {ts : Array TypeId} {ty : TypeId} {pos : String} {after : Array Edge} [hb : HasBody P c]
    (hc : FnW P c (A ++ caps.map .raw) S T r) (hF' : e.ev F = some (.raw (.func (.func c) #[] caps.toArray))) (hx : evL e xs = some args) (ht : Takes S args (fun _ => A)) (hd : Nat.blt dst N = true)
    (h : RS P N ops l ((dst, r) :: e.keep) T Q) :
    RS P N ops (⟨some dst, .call { callee := .value F, args := xs.toArray, argTypes := ts }, ty, pos, after, none⟩ :: l) e S Q := by
  intro a w hS hF
  refine wpList_plain rfl fun K hK => ?_
  obtain ⟨fnc, hf, hbd, hn⟩ := hb.h
  have h1 := (hF.eval hF').inv_raw
  have hrl : RelL w A (xs.map a.eval) := ht w _ hS (evL_rel hx fun x _ y hy => hF.eval hy)
  have hcall := hc w _ (hrl.append (rell_raw w caps)) hS
  unfold Oper.wp
  have hrun : (execOp a.eval ⟨some dst, .call { callee := .value F, args := xs.toArray, argTypes := ts }, ty, pos, after, none⟩).run P w = .ok (.enter c (xs.map a.eval ++ caps).toArray) w := by
    simp [execOp, resolve, h1, Deferred.ofValue, invoke, run_callFn hf hbd hn]
  rw [hrun]
  refine Calls.mono hcall fun x w' ⟨v, hx', hrv, hT⟩ => ?_
  subst hx'
  exact hK _ _ (h _ w' hT (Fr.put (some dst) hF.keep (fun _ h => by cases h; exact Nat.le_of_ble_eq_true hd) hrv))
theorem opj_makeFunc2 {c : FuncId} {X Y : Operand} {x y : Value} {dst : Option Tmp} {ty : TypeId} {pos : String} {after : Array Edge} {guard : Option (Nat × Bool)} (hx : e.ev X = some (.raw x)) (hy : e.ev Y = some (.raw y)) :
    OpJ P S e ⟨dst, .makeFunc (.func c) #[] #[X, Y], ty, pos, after, guard⟩ (.raw (.func (.func c) #[] [x, y].toArray)) :=
  opj_value fun a w _ h => by
    have h1 := (h X (by simp [Op.operands]) _ hx).inv_raw
    have h2 := (h Y (by simp [Op.operands]) _ hy).inv_raw
    exact ⟨_, w, by simp [execOp, Instr.makeFunc, h1, h2], Ext.refl _, .raw⟩
/-- Two whole numbers as an array. -/
theorem opj_build2 {t el : TypeId} {z0 z1 : Value} {X Y : Operand} {a b : Int} {b0 b1 sz : Nat} {ze : Value} {dst : Option Tmp} {ty : TypeId} {pos : String} {after : Array Edge} {guard : Option (Nat × Bool)} [hu : TyU P t (.array 2 el)] [hi : TyI P t (.agg #[z0, z1]) sz b0] [he : TyI P el ze 1 b1]
    (hx : e.ev X = some (.raw (.int .i64 a))) (hy : e.ev Y = some (.raw (.int .i64 b))) :
    OpJ P S e ⟨dst, .build t #[(0, X), (1, Y)], ty, pos, after, guard⟩ (.agg [.raw (.int .i64 a), .raw (.int .i64 b)]) :=
  opj_value fun ac w _ h => by
    have h1 := (h X (by simp [Op.operands]) _ hx).inv_raw
    have h2 := (h Y (by simp [Op.operands]) _ hy).inv_raw
    refine ⟨.agg #[.int .i64 a, .int .i64 b], w, ?_, Ext.refl _, .agg (vs := [_, _]) (.cons .raw (.cons .raw .nil))⟩
    simp [execOp, Instr.build, run_zero hi, run_underlying hu.h, run_size he, h1, h2, Instr.fill, Value.cells]
end

/-! Maps. -/
abbrev kv (a b : Int) : Value := .agg #[.int .i64 a, .int .i64 b]
def In64 (a : Int) : Prop := -9223372036854775808 ≤ a ∧ a ≤ 9223372036854775807
theorem in64_wf {a : Int} (h : In64 a) : (Lit.int .i64 a).wf = true := by
  simp only [Lit.wf, Bool.and_eq_true, decide_eq_true_eq]
  exact h
theorem kv_inj {a b c d : Int} (h : kv a b = kv c d) : a = c ∧ b = d := by
  simp only [kv, Value.agg.injEq] at h
  have h1 := congrArg Array.toList h
  simp only [List.cons.injEq, Value.int.injEq, true_and, and_true] at h1
  exact h1
class MapT (P : Program) (t : TypeId) (k e : outParam TypeId) : Prop where
  hu : P.underlying t = some (.map k e)
  law : WideMaps.KeyLaw P k
  key : ∀ {a b : Int}, In64 a → In64 b → ∃ l, keyOf P k (kv a b) = some l
/-- Block g is a map: what it holds at pairs of whole numbers. -/
structure MapAt (g : Nat) (f : Int → Int → Option Value) (w : World) : Prop where
  ex : ∃ es clock, w.heap[g]? = some (.map es clock) ∧ (∀ x ∈ es.toList, ∃ a b, In64 a ∧ In64 b ∧ x.key = kv a b ∧ f a b = some x.val) ∧
    (∀ a b v, In64 a → In64 b → f a b = some v → ∃ x ∈ es.toList, x.key = kv a b) ∧ (es.toList.map (·.key)).Nodup
instance (g : Nat) (f : Int → Int → Option Value) : RStab (MapAt g f) where
  stab := fun ⟨es, clock, hb, r⟩ hm hc => ⟨es, clock, by
    have hlt := (Array.getElem?_eq_some_iff.1 hb).1
    rw [hm.block g hlt (fun hg => by obtain ⟨c, T, fr, h⟩ := hc g hg; rw [hb] at h; cases h)]
    exact hb, r⟩
def updK (f : Int → Int → Option Value) (a b : Int) (v : Value) (x y : Int) : Option Value := if x = a ∧ y = b then some v else f x y
section
variable {P : Program} {N : Nat} {e : Env} {Q : Exit → Env → World → Prop} {ops : Array Oper} {l : List Oper} {o : Oper} {w0 : World} {gs : List Nat} {H : List Ent} {g : Nat} {f : Int → Int → Option Value}
variable {t k el : TypeId} {pos : String} {ty : TypeId} {after : Array Edge} {guard : Option (Nat × Bool)}
theorem run_lookup [hm : MapT P t k el] {z : Value} {sz b0 : Nat} [hi : TyI P el z sz b0] {w : World} (h : MapAt g f w) {a b : Int} (ha : In64 a) (hb : In64 b) (c : Bool) :
    (Instr.lookup t (.map (some g)) (kv a b) c).run P w = .ok (if c then .tuple #[(f a b).getD z, .bool (f a b).isSome] else (f a b).getD z) w := by
  obtain ⟨es, clock, hg, h1, h2, _⟩ := h.ex
  obtain ⟨lk, hk⟩ := hm.key ha hb
  have hz := run_zero hi w
  rcases hm.law.find w hk es.toList (fun x hx => by obtain ⟨a', b', ha', hb', e', _⟩ := h1 x hx; rw [e']; exact hm.key ha' hb') with ⟨hf, hn⟩ | ⟨j, e0, hf, hj, he⟩
  · have hnone : f a b = none := by
      cases hv : f a b with
      | none => rfl
      | some v => obtain ⟨x, hx, hxe⟩ := h2 a b v ha hb hv; exact absurd hxe (hn x hx)
    simp [Instr.lookup, run_underlying hm.hu, MapKept.run_getObj_map hg, hm.law.check w _ hk, hf, hz, Result.andThen, hnone]
  · have hm0 : e0 ∈ es.toList := List.mem_of_getElem? hj
    obtain ⟨a', b', _, _, e', hv⟩ := h1 e0 hm0
    rw [he] at e'
    obtain ⟨rfl, rfl⟩ := kv_inj e'
    simp [Instr.lookup, run_underlying hm.hu, MapKept.run_getObj_map hg, hm.law.check w _ hk, hf, Result.andThen, hv]
theorem ev_kv {a : Act} {w : World} {x y : Int} {v : Value} (h : Rel w (.agg [.raw (.int .i64 x), .raw (.int .i64 y)]) v) : v = kv x y := by
  obtain ⟨vs, rfl, hr⟩ := h.inv_agg
  obtain ⟨p, r1, rfl, hp, hr⟩ := hr.inv_cons
  obtain ⟨q, r2, rfl, hq, hr⟩ := hr.inv_cons
  obtain rfl := hr.inv_nil
  rw [hp.inv_raw, hq.inv_raw]
theorem opj_lookup [hm : MapT P t k el] {z : Value} {sz b0 : Nat} [hi : TyI P el z sz b0] {dst : Option Tmp} {X K : Operand} {a b : Int} (hx : e.ev X = some (.raw (.map (some g)))) (hk : e.ev K = some (.agg [.raw (.int .i64 a), .raw (.int .i64 b)])) (ha : In64 a) (hb : In64 b) :
    OpJ P (StR (MapAt g f) w0 gs H) e ⟨dst, .lookup t X K false, ty, pos, after, guard⟩ (.raw ((f a b).getD z)) :=
  opj_value fun ac w hS h => by
    have h1 := (h X (by simp [Op.operands]) _ hx).inv_raw
    have h2 := ev_kv (a := ac) (h K (by simp [Op.operands]) _ hk)
    have hr := run_lookup (P := P) (t := t) hS.r ha hb false
    exact ⟨_, w, by simp only [execOp, h1, h2, Sem.run_bind, hr, Result.andThen_ok]; rfl, Ext.refl _, .raw⟩
theorem opj_lookupOk [hm : MapT P t k el] {z : Value} {sz b0 : Nat} [hi : TyI P el z sz b0] {dst : Option Tmp} {X K : Operand} {a b : Int} (hx : e.ev X = some (.raw (.map (some g)))) (hk : e.ev K = some (.agg [.raw (.int .i64 a), .raw (.int .i64 b)])) (ha : In64 a) (hb : In64 b) :
    OpJ P (StR (MapAt g f) w0 gs H) e ⟨dst, .lookup t X K true, ty, pos, after, guard⟩ (.tup [.raw ((f a b).getD z), .raw (.bool (f a b).isSome)]) :=
  opj_value fun ac w hS h => by
    have h1 := (h X (by simp [Op.operands]) _ hx).inv_raw
    have h2 := ev_kv (a := ac) (h K (by simp [Op.operands]) _ hk)
    have hr := run_lookup (P := P) (t := t) hS.r ha hb true
    exact ⟨_, w, by simp only [execOp, h1, h2, Sem.run_bind, hr, Result.andThen_ok]; rfl, Ext.refl _, .tup (vs := [_, _]) (.cons .raw (.cons .raw .nil))⟩
theorem rs_makeMap {R0 : World → Prop} {d : Tmp} (hd : Nat.blt d N = true) (hk : ∀ g, w0.heap.size ≤ g → RS P N ops l ((d, .raw (.map (some g))) :: e) (StR (MapAt g fun _ _ => none) w0 gs H) Q) :
    RS P N ops (⟨some d, .makeMap t none, ty, pos, after, none⟩ :: l) e (StR R0 w0 gs H) Q := by
  intro a w hS hF
  refine wpList_plain rfl fun K hK => ?_
  unfold Oper.wp
  have hrun : (execOp a.eval ⟨some d, .makeMap t none, ty, pos, after, none⟩).run P w = .ok (.value (.map (some w.heap.size))) (w.alloc (.map #[] 0)) := by
    simp [execOp, Instr.makeMap]
  rw [hrun]
  have hw : Ext w (w.alloc (.map #[] 0)) := Ext.alloc _ _
  refine hK _ _ (hk w.heap.size hS.mod.size _ _ ⟨hS.mod.ext hw, fun x hx => ⟨(hS.own x hx).1, (hS.own x hx).2.ext hw⟩, hS.nodup, ?_⟩ (Fr.put (some d) (hF.ext hw) (fun _ h => by cases h; exact Nat.le_of_ble_eq_true hd) .raw))
  exact ⟨#[], 0, heap_alloc_new w _, (fun x hx => by cases hx), (fun a b v _ _ h => by cases h), List.Pairwise.nil⟩
theorem rs_mapUpdate [hm : MapT P t k el] (hg : w0.heap.size ≤ g) {X K V : Operand} {a b : Int} {v : Value} (hx : e.ev X = some (.raw (.map (some g)))) (hk : e.ev K = some (.agg [.raw (.int .i64 a), .raw (.int .i64 b)])) (hv : e.ev V = some (.raw v)) (ha : In64 a) (hb : In64 b)
    (h : RS P N ops l e.keep (StR (MapAt g (updK f a b v)) w0 gs H) Q) :
    RS P N ops (⟨none, .mapUpdate t X K V, ty, pos, after, none⟩ :: l) e (StR (MapAt g f) w0 gs H) Q := by
  intro ac w hS hF
  refine wpList_plain rfl fun K' hK => ?_
  have e1 := (hF.eval hx).inv_raw
  have e2 := ev_kv (a := ac) (hF.eval hk)
  have e3 := (hF.eval hv).inv_raw
  obtain ⟨es, clock, hgb, h1, h2, h3⟩ := hS.r.ex
  obtain ⟨lk, hkey⟩ := hm.key ha hb
  have hfind := hm.law.find w hkey es.toList (fun x hx => by obtain ⟨a', b', ha', hb', e', _⟩ := h1 x hx; rw [e']; exact hm.key ha' hb')
  have hkeys : ∃ es' clock', (Instr.mapUpdate t (.map (some g)) (kv a b) v).run P w = .ok () (setBlock w g (.map es' clock')) ∧ (∀ x ∈ es'.toList, ∃ a' b', In64 a' ∧ In64 b' ∧ x.key = kv a' b' ∧ updK f a b v a' b' = some x.val) ∧
      (∀ a' b' v', In64 a' → In64 b' → updK f a b v a' b' = some v' → ∃ x ∈ es'.toList, x.key = kv a' b') ∧ (es'.toList.map (·.key)).Nodup := by
    rcases hfind with ⟨hf, hn⟩ | ⟨j, e0, hf, hj, he⟩
    · refine ⟨es.push ⟨kv a b, v, clock⟩, clock + 1, ?_, fun x hx' => ?_, fun a' b' v' ha' hb' hv' => ?_, ?_⟩
      · simp [Instr.mapUpdate, run_underlying hm.hu, MapKept.run_getObj_map hgb, hm.law.check w false hkey, hf, MapKept.run_setObj_map _ hgb, Result.andThen, setBlock]
      · simp only [Array.toList_push, List.mem_append, List.mem_singleton] at hx'
        rcases hx' with hx' | rfl
        · obtain ⟨a', b', ha', hb', e', hf'⟩ := h1 x hx'
          refine ⟨a', b', ha', hb', e', ?_⟩
          unfold updK
          rw [if_neg (fun hab => hn x hx' (by rw [e', hab.1, hab.2])), hf']
        · exact ⟨a, b, ha, hb, rfl, by unfold updK; rw [if_pos ⟨rfl, rfl⟩]⟩
      · unfold updK at hv'
        split at hv'
        · rename_i hab
          exact ⟨⟨kv a b, v, clock⟩, by simp, by rw [hab.1, hab.2]⟩
        · obtain ⟨x, hx', e'⟩ := h2 a' b' v' ha' hb' hv'
          exact ⟨x, by simp only [Array.toList_push, List.mem_append]; exact .inl hx', e'⟩
      · simp only [Array.toList_push, List.map_append, List.map_cons, List.map_nil]
        rw [List.nodup_append]
        refine ⟨h3, by simp, fun y hy z hz hyz => ?_⟩
        obtain ⟨x, hx', rfl⟩ := List.mem_map.1 hy
        simp only [List.mem_singleton] at hz
        exact hn x hx' (by rw [hyz, hz])
    · have hjlt : j < es.size := by have := (List.getElem?_eq_some_iff.1 hj).1; simpa using this
      have hj' : es[j]? = some e0 := by simpa using hj
      have hstay := hm.law.stays w hkey
      refine ⟨es.modify j fun x => { x with key := kv a b, val := v }, clock, ?_, ?_⟩
      · have hst : (Instr.keyThatStays (((es[j]?).map (·.key)).getD (kv a b)) (kv a b)).run P w = .ok (kv a b) w := by
          rw [hj']
          simp only [Option.map_some, Option.getD_some, he]
          exact hstay
        simp only [hj', Option.map_some, Option.getD_some] at hst
        simp [Instr.mapUpdate, run_underlying hm.hu, MapKept.run_getObj_map hgb, hm.law.check w false hkey, hf, MapKept.run_setObj_map _ hgb, Result.andThen, setBlock, hj', hst]
      · have hmod : ∀ i x, (es.modify j fun x => { x with key := kv a b, val := v }).toList[i]? = some x → (i = j ∧ x.key = kv a b ∧ x.val = v) ∨ (i ≠ j ∧ es.toList[i]? = some x) := fun i x hix => by
          simp only [Array.getElem?_toList, Array.getElem?_modify] at hix
          split at hix
          · rename_i hij
            subst hij
            rw [hj'] at hix
            simp only [Option.map_some, Option.some.injEq] at hix
            subst hix
            exact .inl ⟨rfl, rfl, rfl⟩
          · rename_i hij
            exact .inr ⟨fun h => hij h.symm, by simpa using hix⟩
        have hkeq : (es.modify j fun x => { x with key := kv a b, val := v }).toList.map (·.key) = es.toList.map (·.key) := by
          apply List.ext_getElem?
          intro i
          simp only [List.getElem?_map, Array.getElem?_toList, Array.getElem?_modify]
          split
          · rename_i hij
            subst hij
            rw [hj']
            simp [he]
          · rfl
        refine ⟨fun x hx' => ?_, fun a' b' v' ha' hb' hv' => ?_, by rw [hkeq]; exact h3⟩
        · obtain ⟨i, hi⟩ := List.mem_iff_getElem?.1 hx'
          rcases hmod i x hi with ⟨_, hk', hv'⟩ | ⟨hij, hi'⟩
          · exact ⟨a, b, ha, hb, hk', by unfold updK; rw [if_pos ⟨rfl, rfl⟩, hv']⟩
          · obtain ⟨a', b', ha', hb', e', hf'⟩ := h1 x (List.mem_of_getElem? hi')
            refine ⟨a', b', ha', hb', e', ?_⟩
            unfold updK
            rw [if_neg (fun hab => hij ?_), hf']
            have h4 : (es.toList.map (·.key))[i]? = some (kv a b) := by rw [List.getElem?_map, hi']; simp [e', hab.1, hab.2]
            have h5 : (es.toList.map (·.key))[j]? = some (kv a b) := by rw [List.getElem?_map, hj]; simp [he]
            obtain ⟨hi4, hi5⟩ := List.getElem?_eq_some_iff.1 h4
            obtain ⟨hj4, hj5⟩ := List.getElem?_eq_some_iff.1 h5
            have hpw := List.pairwise_iff_getElem.1 h3
            rcases Nat.lt_trichotomy i j with h | h | h
            · exact absurd (hi5.trans hj5.symm) (hpw i j hi4 hj4 h)
            · exact h
            · exact absurd (hj5.trans hi5.symm) (hpw j i hj4 hi4 h)
        · have : kv a' b' ∈ es.toList.map (·.key) := by
            unfold updK at hv'
            split at hv'
            · rename_i hab
              rw [hab.1, hab.2]
              exact List.mem_map.2 ⟨e0, List.mem_of_getElem? hj, he⟩
            · obtain ⟨x, hx', e'⟩ := h2 a' b' v' ha' hb' hv'
              exact List.mem_map.2 ⟨x, hx', e'⟩
          rw [← hkeq] at this
          obtain ⟨x, hx', e'⟩ := List.mem_map.1 this
          exact ⟨x, hx', e'⟩
  obtain ⟨es', clock', hrun, r1, r2, r3⟩ := hkeys
  unfold Oper.wp
  have hrun' : (execOp ac.eval ⟨none, .mapUpdate t X K V, ty, pos, after, none⟩).run P w = .ok .skip (setBlock w g (.map es' clock')) := by
    simp only [execOp, e1, e2, e3, Sem.run_bind, hrun, Result.andThen_ok]; rfl
  rw [hrun']
  have hlt := (Array.getElem?_eq_some_iff.1 hgb).1
  have hmod : Mod w (setBlock w g (.map es' clock')) [g] := ⟨rfl, rfl, rfl, by simp [setBlock], fun i _ hi => heap_setBlock_other hgb _ (fun h => hi (by simp [h]))⟩
  refine hK _ _ (h _ _ ⟨hS.mod.trans hmod (fun i hi => .inr ?_), fun x hx => ⟨(hS.own x hx).1, (hS.own x hx).2.of_heap (heap_setBlock_other hgb _ fun hxg => ?_)⟩, hS.nodup, ⟨es', clock', heap_setBlock_same hgb _, r1, r2, r3⟩⟩ hF.keep)
  · simp at hi; subst hi; exact hg
  · obtain ⟨cur, hc, _⟩ := (hS.own x hx).2
    rw [hxg, hgb] at hc
    cases hc
end
end Go.Ab
