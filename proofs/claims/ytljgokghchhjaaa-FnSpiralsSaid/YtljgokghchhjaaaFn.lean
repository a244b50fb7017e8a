/- Contracts of functions: what they take, what they own, what they give. No conditions. -/
import Derived.Test.YtljgokghchhjaaaRun
namespace Go.Ab
variable {R : World → Prop} [RStab R]

/-- Called with such arguments, owning 'pre', the function returns such a value ('mk y' for some good y), owning 'post y'; no other block that was there has turned. -/
def FnH {X : Type} (P : Program) (f : FuncId) (A : World → List AV) (pre : List Ent) (mk : X → AV) (post : X → List Ent) (good : X → Prop) : Prop :=
  ∀ w vs, RelL w (A w) vs → (∀ e ∈ pre, OwnE w e) → (pre.map (·.g)).Nodup → Calls P f vs.toArray w fun x w' =>
    ∃ v y, x = .returned v ∧ good y ∧ Rel w' (mk y) v ∧ Mod w w' (pre.map (·.g)) ∧ (∀ e ∈ post y, OwnE w' e ∧ (e.g ∈ pre.map (·.g) ∨ w.heap.size ≤ e.g)) ∧ ((post y).map (·.g)).Nodup
/-- A function that only computes. -/
def Fn (P : Program) (f : FuncId) (A : World → List AV) (r : AV) : Prop := FnH (X := Unit) P f A [] (fun _ => r) (fun _ => []) (fun _ => True)

section
variable {P : Program} {N : Nat} {S : World → Prop} {e : Env} {Q : Exit → Env → World → Prop} {ops : Array Oper} {l : List Oper} {o : Oper}
variable {X : Type} {f : FuncId} {A : World → List AV} {pre : List Ent} {mk : X → AV} {post : X → List Ent} {good : X → Prop} {fn : Func} {w0 : World} {gs : List Nat} {H : List Ent}

def envOf : Nat → List AV → Env
  | _, [] => []
  | k, a :: l => (k, a) :: envOf (k + 1) l
theorem envOf_look : ∀ (k : Nat) (l : List AV) (t : Nat) (v : AV), (envOf k l).look t = some v → k ≤ t ∧ l[t - k]? = some v
  | _, [], _, _, h => by cases h
  | k, a :: l, t, v, h => by
    simp only [envOf, Env.look] at h
    cases hb : Nat.beq k t with
    | true =>
      have := Nat.eq_of_beq_eq_true hb
      subst this
      simp only [hb, Option.some.injEq] at h
      subst h
      exact ⟨Nat.le_refl _, by simp⟩
    | false =>
      simp only [hb] at h
      have hne : k ≠ t := fun e => by subst e; simp at hb
      obtain ⟨h1, h2⟩ := envOf_look (k + 1) l t v h
      refine ⟨by omega, ?_⟩
      rw [show t - k = (t - (k + 1)) + 1 from by omega]
      simpa using h2

/-- What a body must come to. -/
def Ret (P : Program) (fn : Func) (N : Nat) (w0 : World) (gs : List Nat) (mk : X → AV) (post : X → List Ent) (good : X → Prop) (x : Exit) (e : Env) (w : World) : Prop :=
  (x = .ret ∨ x = .normal) ∧ ∃ y, good y ∧ Mod w0 w gs ∧ (∀ x ∈ post y, OwnE w x ∧ (x.g ∈ gs ∨ w0.heap.size ≤ x.g)) ∧ ((post y).map (·.g)).Nodup ∧
    ∀ a, Fr N e a w → ∃ v, (results fn a.tmps).run P w = .ok v w ∧ Rel w (mk y) v

theorem fn_intro {c : Code} (hf : P.funcs[f]? = some fn) (hb : fn.body = some c) (hN : fn.ntmps = N) (hA : ∀ w, (A w).length ≤ N)
    (h : ∀ w0, WS P N c (envOf 0 (A w0)) (St w0 (pre.map (·.g)) pre) (Ret P fn N w0 (pre.map (·.g)) mk post good)) : FnH P f A pre mk post good := by
  intro w vs hr ho hn
  refine calls_of_wp hf hb (Code.wp_mono ?_ (h w _ w (StR.start ho hn trivial) ?_))
  · intro x a' w' ⟨e', hF, hx, y, hy, hm, hp, hpn, hres⟩
    obtain ⟨v, hv, hrv⟩ := hres a' hF
    have : a'.defers = [] ∧ ∃ v, (results fn a'.tmps).run P w' = .ok v w' ∧
        (∃ v' y, Ending.returned v = .returned v' ∧ good y ∧ Rel w' (mk y) v' ∧ Mod w w' (pre.map (·.g)) ∧ (∀ e ∈ post y, OwnE w' e ∧ (e.g ∈ pre.map (·.g) ∨ w.heap.size ≤ e.g)) ∧ ((post y).map (·.g)).Nodup) :=
      ⟨hF.defers, v, hv, v, y, rfl, hy, hrv, hm, hp, hpn⟩
    rcases hx with rfl | rfl <;> exact this
  · have hlen := hr.length
    have hle := hA w
    refine ⟨rfl, ?_, fun t v ht => ?_⟩
    · simp [hN]; omega
    · obtain ⟨_, hv⟩ := envOf_look 0 (A w) t v ht
      obtain ⟨u, hu, hru⟩ := hr.get hv
      refine ⟨u, ?_, hru⟩
      have hlt : t < vs.length := (List.getElem?_eq_some_iff.1 hu).1
      simp only [Nat.sub_zero] at hu
      simp [Array.getElem?_append, hlt]
      exact (List.getElem?_eq_some_iff.1 hu).2

theorem done_ret1 {R0 : World → Prop} {t : Tmp} (hr : fn.results = #[.tmp t]) (y : X) (ht : e.look t = some (mk y)) (hy : good y) (hs : (post y).Sublist H) :
    Done .ret e (StR R0 w0 gs H) (Ret P fn N w0 gs mk post good) := fun w hw =>
  ⟨.inl rfl, y, hy, hw.mod, fun x hx => ⟨(hw.own x (hs.subset hx)).2, (hw.own x (hs.subset hx)).1⟩, (hw.weak hs).nodup, fun a hF => by
    obtain ⟨u, hu, hru⟩ := hF.rel t _ ht
    exact ⟨u, by rw [results_tmp hr]; simp [hu], hru⟩⟩
theorem done_ret2 {R0 : World → Prop} {t1 t2 : Tmp} {x1 x2 : AV} (hr : fn.results = #[.tmp t1, .tmp t2]) (y : X) (hmk : mk y = .tup [x1, x2]) (h1 : e.look t1 = some x1) (h2 : e.look t2 = some x2) (hy : good y) (hs : (post y).Sublist H) :
    Done .ret e (StR R0 w0 gs H) (Ret P fn N w0 gs mk post good) := fun w hw =>
  ⟨.inl rfl, y, hy, hw.mod, fun x hx => ⟨(hw.own x (hs.subset hx)).2, (hw.own x (hs.subset hx)).1⟩, (hw.weak hs).nodup, fun a hF => by
    obtain ⟨u1, hu1, hr1⟩ := hF.rel t1 _ h1
    obtain ⟨u2, hu2, hr2⟩ := hF.rel t2 _ h2
    refine ⟨.tuple #[u1, u2], by rw [results_tmp2 hr]; simp [hu1, hu2], ?_⟩
    rw [hmk]
    exact .tup (vs := [u1, u2]) (.cons hr1 (.cons hr2 .nil))⟩

/-! Calls. -/
/-- The arguments at the call are as the contract takes them. -/
def Takes (S : World → Prop) (args : List AV) (A : World → List AV) : Prop := ∀ w vs, S w → RelL w args vs → RelL w (A w) vs
theorem Takes.nil : Takes S [] (fun _ => []) := fun _ _ _ h => h
theorem Takes.same {x : AV} {args : List AV} {A : World → List AV} (h : Takes S args A) : Takes S (x :: args) (fun w => x :: A w) := fun w vs hS hr => by
  obtain ⟨v, r, rfl, hv, hr⟩ := hr.inv_cons
  exact .cons hv (h w r hS hr)
theorem Takes.sl {R0 : World → Prop} {sz : Nat} {xs : List AV} {args : List AV} {A : World → List AV} (h : Takes (StR R0 w0 [] H) args A) : Takes (StR R0 w0 [] H) (AV.sl w0 sz xs :: args) (fun w => AV.sl w sz xs :: A w) := fun w vs hS hr => by
  obtain ⟨v, r, rfl, hv, hr⟩ := hr.inv_cons
  exact .cons (.q (hS.rd hv.inv_q)) (h w r hS hr)

def evL (e : Env) : List Operand → Option (List AV)
  | [] => some []
  | x :: l => match e.ev x, evL e l with
    | some v, some r => some (v :: r)
    | _, _ => none
theorem evL_rel {w : World} {a : Act} : ∀ {xs : List Operand} {vs : List AV}, evL e xs = some vs → (∀ x ∈ xs, ∀ y, e.ev x = some y → Rel w y (a.eval x)) → RelL w vs (xs.map a.eval)
  | [], vs, h, _ => by cases h; exact .nil
  | x :: l, vs, h, hr => by
    simp only [evL] at h
    split at h
    · rename_i v r hv hrl
      cases h
      exact .cons (hr x (by simp) v hv) (evL_rel hrl fun y hy => hr y (by simp [hy]))
    · cases h

theorem run_callFn {fid : FuncId} {fnc : Func} {w : World} {args : Array Value} (hf : P.funcs[fid]? = some fnc) (hb : fnc.body.isSome = true) (hn : (fnc.name == "runtime.NumGoroutine") = false) :
    (callFunc fid args).run P w = .ok (.enter fid args) w := by
  have h1 : ¬ fnc.body = none := fun h => by rw [h] at hb; cases hb
  have h2 : ¬ fnc.name = "runtime.NumGoroutine" := by simpa using hn
  simp [callFunc, hf, h1, h2]

/-- That function number f has a body. -/
class HasBody (P : Program) (f : FuncId) : Prop where
  h : ∃ fn, P.funcs[f]? = some fn ∧ fn.body.isSome = true ∧ (fn.name == "runtime.NumGoroutine") = false

theorem zci {c : FuncId} {xs : List Operand} {F : Operand} {args : List AV} {r : AV} {dst : Option Tmp} {ts : Array TypeId} {ty : TypeId} {pos : String} {after : Array Edge} {guard : Option (Nat × Bool)} {A : World → List AV} [hb : HasBody P c]
    (hF : e.ev F = some (.raw (.func (.func c) #[] #[]))) (hx : evL e xs = some args) (hc : Fn P c A r) (ht : Takes S args A) :
    OpJ P S e ⟨dst, .call { callee := .value F, args := xs.toArray, argTypes := ts }, ty, pos, after, guard⟩ r := by
  intro a w K Q hS ho hK
  obtain ⟨fnc, hf, hbd, hn⟩ := hb.h
  have h1 := (ho F (by simp [Op.operands, Call.operands]) _ hF).inv_raw
  have hrl : RelL w (A w) (xs.map a.eval) := ht w _ hS (evL_rel hx fun x hxm => ho x (by simp [Op.operands, Call.operands, hxm]))
  have hcall := hc w _ hrl (fun _ h => by cases h) List.Pairwise.nil
  unfold Oper.wp
  have hrun : (execOp a.eval ⟨dst, .call { callee := .value F, args := xs.toArray, argTypes := ts }, ty, pos, after, guard⟩).run P w = .ok (.enter c (xs.map a.eval).toArray) w := by
    simp [execOp, resolve, h1, Deferred.ofValue, invoke, run_callFn hf hbd hn]
  rw [hrun]
  refine Calls.mono hcall fun x w' ⟨v, y, hx', _, hrv, hm, _, _⟩ => ?_
  subst hx'
  exact hK v w' hm.to_ext hrv

/-- What does not speak of a world. -/
def AV.unk : AV := .q fun _ => True
def AV.keep : AV → AV
  | .f k x => .f k x
  | .c k x y => .c k x y
  | .raw v => .raw v
  | .q φ => .q φ
  | .agg l => match AV.stillL l with
    | true => .agg l
    | false => AV.unk
  | .tup l => match AV.stillL l with
    | true => .tup l
    | false => AV.unk
  | .p _ => AV.unk
theorem AV.keep_still {v : AV} (h : v.still = true) : v.keep = v := by
  cases v <;> first | rfl | (simp [AV.still] at h; done) | (simp only [AV.still] at h; simp only [AV.keep, h])
theorem AV.keep_not {v : AV} (h : v.still = false) : v.keep = AV.unk := by
  cases v <;> first | (simp [AV.still] at h; done) | (simp only [AV.still] at h; simp only [AV.keep, h]) | rfl
def Env.keep : Env → Env
  | [] => []
  | (d, v) :: r => (d, v.keep) :: Env.keep r
theorem Env.look_keep : ∀ {e : Env} {t : Nat} {v : AV}, e.keep.look t = some v → v = AV.unk ∧ (∃ u, e.look t = some u) ∨ e.look t = some v ∧ v.still = true
  | [], _, _, h => by cases h
  | (d, u) :: r, t, v, h => by
    simp only [Env.keep, Env.look] at h ⊢
    cases hb : Nat.beq d t with
    | true =>
      simp only [hb, Option.some.injEq] at h ⊢
      cases hs : u.still with
      | true => rw [AV.keep_still hs] at h; subst h; exact .inr ⟨rfl, hs⟩
      | false => rw [AV.keep_not hs] at h; subst h; exact .inl ⟨rfl, u, rfl⟩
    | false => simp only [hb] at h ⊢; exact Env.look_keep h
theorem Fr.keep {a : Act} {w w' : World} (h : Fr N e a w) : Fr N e.keep a w' :=
  ⟨h.defers, h.size, fun t v ht => by
    rcases Env.look_keep ht with ⟨rfl, u, hu⟩ | ⟨h1, hs⟩
    · obtain ⟨x, hx, _⟩ := h.rel t u hu
      exact ⟨x, hx, .q trivial⟩
    · obtain ⟨u, hu, hr⟩ := h.rel t v h1
      exact ⟨u, hu, hr.any hs⟩⟩

/-- A call that makes or writes blocks. -/
theorem rs_call {c : FuncId} {xs : List Operand} {F : Operand} {args : List AV} {dst : Tmp} {ts : Array TypeId} {ty : TypeId} {pos : String} {after : Array Edge} [hb : HasBody P c] {A : World → List AV}
    (hc : FnH P c A pre mk post good) (hF' : e.ev F = some (.raw (.func (.func c) #[] #[]))) (hx : evL e xs = some args) (ht : Takes (StR R w0 gs (pre ++ H)) args A) (hd : Nat.blt dst N = true)
    (h : ∀ y, good y → RS P N ops l ((dst, mk y) :: e.keep) (StR R w0 gs (post y ++ H)) Q) :
    RS P N ops (⟨some dst, .call { callee := .value F, args := xs.toArray, argTypes := ts }, ty, pos, after, none⟩ :: l) e (StR R w0 gs (pre ++ H)) Q := by
  intro a w hS hF
  refine wpList_plain rfl fun K hK => ?_
  obtain ⟨fnc, hf, hbd, hn⟩ := hb.h
  have h1 := (hF.eval hF').inv_raw
  have hrl : RelL w (A w) (xs.map a.eval) := ht w _ hS (evL_rel hx fun x _ y hy => hF.eval hy)
  have hnd := hS.nodup
  rw [List.map_append, List.nodup_append] at hnd
  have hcall := hc w _ hrl (fun x hx => (hS.own x (by simp [hx])).2) hnd.1
  unfold Oper.wp
  have hrun : (execOp a.eval ⟨some dst, .call { callee := .value F, args := xs.toArray, argTypes := ts }, ty, pos, after, none⟩).run P w = .ok (.enter c (xs.map a.eval).toArray) w := by
    simp [execOp, resolve, h1, Deferred.ofValue, invoke, run_callFn hf hbd hn]
  rw [hrun]
  refine Calls.mono hcall fun x w' ⟨v, y, hx', hy, hrv, hm, hp, hpn⟩ => ?_
  subst hx'
  exact hK _ _ (h y hy _ w' (hS.call hm hp hpn) (Fr.put (some dst) hF.keep (fun _ h => by cases h; exact Nat.le_of_ble_eq_true hd) hrv))
end
end Go.Ab
