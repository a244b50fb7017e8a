/- Part 2 of the texts on which the law leans, joined: A region whose order is drawn: its first operations only tell, beside them one makes a block whenever it comes; behind them every order is looked at. No conditions. -/
import Derived.ArgAppend
import Derived.Great.BuildSlice
import Derived.Deep.AppendLies
import Derived.Test.YtijihljfpeajlaaZaa
namespace Go.Ab
variable {R : World → Prop} [RStab R]
/-- Called with such arguments, owning 'pre', the function returns such a value ('mk y' for some good y), owning 'post y'; no other block that was there has turned. -/
def FnH {X : Type} (P : Program) (f : FuncId) (A : World → List AV) (pre : List Ent) (mk : X → AV) (post : X → List Ent) (good : X → Prop) : Prop :=
  ∀ w vs, RelL w (A w) vs → (∀ e ∈ pre, OwnE w e) → (pre.map (·.g)).Nodup → Calls P f vs.toArray w fun x w' =>
    ∃ v y, x = .returned v ∧ good y ∧ Rel w' (mk y) v ∧ Mod w w' (pre.map (·.g)) ∧ (∀ e ∈ post y, OwnE w' e ∧ (e.g ∈ pre.map (·.g) ∨ w.heap.size ≤ e.g)) ∧ ((post y).map (·.g)).Nodup
/-- A function that only computes. -/
def Fn (P : Program) (f : FuncId) (A : World → List AV) (r : AV) : Prop := FnH (X := Unit) P f A [] (fun _ => r) (fun _ => []) (fun _ => True)

section
variable {P : Program} {N : Nat} {S : World → Prop} {e : Env} {Q : Exit → Env → World → Prop} {ops : Array Oper} {l : List Oper} {o : Oper}
variable {X : Type} {f : FuncId} {A : World → List AV} {pre : List Ent} {mk : X → AV} {post : X → List Ent} {good : X → Prop} {fn : Func} {w0 : World} {gs : List Nat} {H : List Ent}
def envOf : Nat → List AV → Env
  | _, [] => []
  | k, a :: l => (k, a) :: envOf (k + 1) l
theorem envOf_look : ∀ (k : Nat) (l : List AV) (t : Nat) (v : AV), (envOf k l).look t = some v → k ≤ t ∧ l[t - k]? = some v
  | _, [], _, _, h => by cases h
  | k, a :: l, t, v, h => by
    simp only [envOf, Env.look] at h
    cases hb : Nat.beq k t with
    | true =>
      have := Nat.eq_of_beq_eq_true hb
      subst this
      simp only [hb, Option.some.injEq] at h
      subst h
      exact ⟨Nat.le_refl _, by simp⟩
    | false =>
      simp only [hb] at h
      have hne : k ≠ t := fun e => by subst e; simp at hb
      obtain ⟨h1, h2⟩ := envOf_look (k + 1) l t v h
      refine ⟨by omega, ?_⟩
      rw [show t - k = (t - (k + 1)) + 1 from by omega]
      simpa using h2

/-- What a body must come to. -/
def Ret (P : Program) (fn : Func) (N : Nat) (w0 : World) (gs : List Nat) (mk : X → AV) (post : X → List Ent) (good : X → Prop) (x : Exit) (e : Env) (w : World) : Prop :=
  (x = .ret ∨ x = .normal) ∧ ∃ y, good y ∧ Mod w0 w gs ∧ (∀ x ∈ post y, OwnE w x ∧ (x.g ∈ gs ∨ w0.heap.size ≤ x.g)) ∧ ((post y).map (·.g)).Nodup ∧
    ∀ a, Fr N e a w → ∃ v, (results fn a.tmps).run P w = .ok v w ∧ Rel w (mk y) v

theorem fn_intro {c : Code} (hf : P.funcs[f]? = some fn) (hb : fn.body = some c) (hN : fn.ntmps = N) (hA : ∀ w, (A w).length ≤ N)
    (h : ∀ w0, WS P N c (envOf 0 (A w0)) (St w0 (pre.map (·.g)) pre) (Ret P fn N w0 (pre.map (·.g)) mk post good)) : FnH P f A pre mk post good := by
  intro w vs hr ho hn
  refine calls_of_wp hf hb (Code.wp_mono ?_ (h w _ w (StR.start ho hn trivial) ?_))
  · intro x a' w' ⟨e', hF, hx, y, hy, hm, hp, hpn, hres⟩
    obtain ⟨v, hv, hrv⟩ := hres a' hF
    have : a'.defers = [] ∧ ∃ v, (results fn a'.tmps).run P w' = .ok v w' ∧
        (∃ v' y, Ending.returned v = .returned v' ∧ good y ∧ Rel w' (mk y) v' ∧ Mod w w' (pre.map (·.g)) ∧ (∀ e ∈ post y, OwnE w' e ∧ (e.g ∈ pre.map (·.g) ∨ w.heap.size ≤ e.g)) ∧ ((post y).map (·.g)).Nodup) :=
      ⟨hF.defers, v, hv, v, y, rfl, hy, hrv, hm, hp, hpn⟩
    rcases hx with rfl | rfl <;> exact this
  · have hlen := hr.length
    have hle := hA w
    refine ⟨rfl, ?_, fun t v ht => ?_⟩
    · simp [hN]; omega
    · obtain ⟨_, hv⟩ := envOf_look 0 (A w) t v ht
      obtain ⟨u, hu, hru⟩ := hr.get hv
      refine ⟨u, ?_, hru⟩
      have hlt : t < vs.length := (List.getElem?_eq_some_iff.1 hu).1
      simp only [Nat.sub_zero] at hu
      simp [Array.getElem?_append, hlt]
      exact (List.getElem?_eq_some_iff.1 hu).2

theorem done_ret1 {R0 : World → Prop} {t : Tmp} (hr : fn.results = #[.tmp t]) (y : X) (ht : e.look t = some (mk y)) (hy : good y) (hs : (post y).Sublist H) :
    Done .ret e (StR R0 w0 gs H) (Ret P fn N w0 gs mk post good) := fun w hw =>
  ⟨.inl rfl, y, hy, hw.mod, fun x hx => ⟨(hw.own x (hs.subset hx)).2, (hw.own x (hs.subset hx)).1⟩, (hw.weak hs).nodup, fun a hF => by
    obtain ⟨u, hu, hru⟩ := hF.rel t _ ht
    exact ⟨u, by rw [results_tmp hr]; simp [hu], hru⟩⟩
theorem done_ret2 {R0 : World → Prop} {t1 t2 : Tmp} {x1 x2 : AV} (hr : fn.results = #[.tmp t1, .tmp t2]) (y : X) (hmk : mk y = .tup [x1, x2]) (h1 : e.look t1 = some x1) (h2 : e.look t2 = some x2) (hy : good y) (hs : (post y).Sublist H) :
    Done .ret e (StR R0 w0 gs H) (Ret P fn N w0 gs mk post good) := fun w hw =>
  ⟨.inl rfl, y, hy, hw.mod, fun x hx => ⟨(hw.own x (hs.subset hx)).2, (hw.own x (hs.subset hx)).1⟩, (hw.weak hs).nodup, fun a hF => by
    obtain ⟨u1, hu1, hr1⟩ := hF.rel t1 _ h1
    obtain ⟨u2, hu2, hr2⟩ := hF.rel t2 _ h2
    refine ⟨.tuple #[u1, u2], by rw [results_tmp2 hr]; simp [hu1, hu2], ?_⟩
    rw [hmk]
    exact .tup (vs := [u1, u2]) (.cons hr1 (.cons hr2 .nil))⟩

/-- The arguments at the call are as the contract takes them. -/
def Takes (S : World → Prop) (args : List AV) (A : World → List AV) : Prop := ∀ w vs, S w → RelL w args vs → RelL w (A w) vs
theorem Takes.nil : Takes S [] (fun _ => []) := fun _ _ _ h => h
theorem Takes.same {x : AV} {args : List AV} {A : World → List AV} (h : Takes S args A) : Takes S (x :: args) (fun w => x :: A w) := fun w vs hS hr => by
  obtain ⟨v, r, rfl, hv, hr⟩ := hr.inv_cons
  exact .cons hv (h w r hS hr)
theorem Takes.sl {R0 : World → Prop} {sz : Nat} {xs : List AV} {args : List AV} {A : World → List AV} (h : Takes (StR R0 w0 [] H) args A) : Takes (StR R0 w0 [] H) (AV.sl w0 sz xs :: args) (fun w => AV.sl w sz xs :: A w) := fun w vs hS hr => by
  obtain ⟨v, r, rfl, hv, hr⟩ := hr.inv_cons
  exact .cons (.q (hS.rd hv.inv_q)) (h w r hS hr)

def evL (e : Env) : List Operand → Option (List AV)
  | [] => some []
  | x :: l => match e.ev x, evL e l with
    | some v, some r => some (v :: r)
    | _, _ => none
theorem evL_rel {w : World} {a : Act} : ∀ {xs : List Operand} {vs : List AV}, evL e xs = some vs → (∀ x ∈ xs, ∀ y, e.ev x = some y → Rel w y (a.eval x)) → RelL w vs (xs.map a.eval)
  | [], vs, h, _ => by cases h; exact .nil
  | x :: l, vs, h, hr => by
    simp only [evL] at h
    split at h
    · rename_i v r hv hrl
      cases h
      exact .cons (hr x (by simp) v hv) (evL_rel hrl fun y hy => hr y (by simp [hy]))
    · cases h

theorem run_callFn {fid : FuncId} {fnc : Func} {w : World} {args : Array Value} (hf : P.funcs[fid]? = some fnc) (hb : fnc.body.isSome = true) (hn : (fnc.name == "runtime.NumGoroutine") = false) :
    (callFunc fid args).run P w = .ok (.enter fid args) w := by
  have h1 : ¬ fnc.body = none := fun h => by rw [h] at hb; cases hb
  have h2 : ¬ fnc.name = "runtime.NumGoroutine" := by simpa using hn
  simp [callFunc, hf, h1, h2]

/-- That function number f has a body. -/
class HasBody (P : Program) (f : FuncId) : Prop where
  h : ∃ fn, P.funcs[f]? = some fn ∧ fn.body.isSome = true ∧ (fn.name == "runtime.NumGoroutine") = false

theorem zci {c : FuncId} {xs : List Operand} {F : Operand} {args : List AV} {r : AV} {dst : Option Tmp} {ts : Array TypeId} {ty : TypeId} {pos : String} {after : Array Edge} {guard : Option (Nat × Bool)} {A : World → List AV} [hb : HasBody P c]
    (hF : e.ev F = some (.raw (.func (.func c) #[] #[]))) (hx : evL e xs = some args) (hc : Fn P c A r) (ht : Takes S args A) :
    OpJ P S e ⟨dst, .call { callee := .value F, args := xs.toArray, argTypes := ts }, ty, pos, after, guard⟩ r := by
  intro a w K Q hS ho hK
  obtain ⟨fnc, hf, hbd, hn⟩ := hb.h
  have h1 := (ho F (by simp [Op.operands, Call.operands]) _ hF).inv_raw
  have hrl : RelL w (A w) (xs.map a.eval) := ht w _ hS (evL_rel hx fun x hxm => ho x (by simp [Op.operands, Call.operands, hxm]))
  have hcall := hc w _ hrl (fun _ h => by cases h) List.Pairwise.nil
  unfold Oper.wp
  have hrun : (execOp a.eval ⟨dst, .call { callee := .value F, args := xs.toArray, argTypes := ts }, ty, pos, after, guard⟩).run P w = .ok (.enter c (xs.map a.eval).toArray) w := by
    simp [execOp, resolve, h1, Deferred.ofValue, invoke, run_callFn hf hbd hn]
  rw [hrun]
  refine Calls.mono hcall fun x w' ⟨v, y, hx', _, hrv, hm, _, _⟩ => ?_
  subst hx'
  exact hK v w' hm.to_ext hrv

/-- What does not speak of a world. -/
def AV.unk : AV := .q fun _ => True
def AV.keep : AV → AV
  | .f k x => .f k x
  | .c k x y => .c k x y
  | .raw v => .raw v
  | .q φ => .q φ
  | .agg l => match AV.stillL l with
    | true => .agg l
    | false => AV.unk
  | .tup l => match AV.stillL l with
    | true => .tup l
    | false => AV.unk
  | .p _ => AV.unk
theorem AV.keep_still {v : AV} (h : v.still = true) : v.keep = v := by
  cases v <;> first | rfl | (simp [AV.still] at h; done) | (simp only [AV.still] at h; simp only [AV.keep, h])
theorem AV.keep_not {v : AV} (h : v.still = false) : v.keep = AV.unk := by
  cases v <;> first | (simp [AV.still] at h; done) | (simp only [AV.still] at h; simp only [AV.keep, h]) | rfl
def Env.keep : Env → Env
  | [] => []
  | (d, v) :: r => (d, v.keep) :: Env.keep r
theorem Env.look_keep : ∀ {e : Env} {t : Nat} {v : AV}, e.keep.look t = some v → v = AV.unk ∧ (∃ u, e.look t = some u) ∨ e.look t = some v ∧ v.still = true
  | [], _, _, h => by cases h
  | (d, u) :: r, t, v, h => by
    simp only [Env.keep, Env.look] at h ⊢
    cases hb : Nat.beq d t with
    | true =>
      simp only [hb, Option.some.injEq] at h ⊢
      cases hs : u.still with
      | true => rw [AV.keep_still hs] at h; subst h; exact .inr ⟨rfl, hs⟩
      | false => rw [AV.keep_not hs] at h; subst h; exact .inl ⟨rfl, u, rfl⟩
    | false => simp only [hb] at h ⊢; exact Env.look_keep h
theorem Fr.keep {a : Act} {w w' : World} (h : Fr N e a w) : Fr N e.keep a w' :=
  ⟨h.defers, h.size, fun t v ht => by
    rcases Env.look_keep ht with ⟨rfl, u, hu⟩ | ⟨h1, hs⟩
    · obtain ⟨x, hx, _⟩ := h.rel t u hu
      exact ⟨x, hx, .q trivial⟩
    · obtain ⟨u, hu, hr⟩ := h.rel t v h1
      exact ⟨u, hu, hr.any hs⟩⟩

/-- A call that makes or writes blocks. -/
theorem rs_call {c : FuncId} {xs : List Operand} {F : Operand} {args : List AV} {dst : Tmp} {ts : Array TypeId} {ty : TypeId} {pos : String} {after : Array Edge} [hb : HasBody P c] {A : World → List AV}
    (hc : FnH P c A pre mk post good) (hF' : e.ev F = some (.raw (.func (.func c) #[] #[]))) (hx : evL e xs = some args) (ht : Takes (StR R w0 gs (pre ++ H)) args A) (hd : Nat.blt dst N = true)
    (h : ∀ y, good y → RS P N ops l ((dst, mk y) :: e.keep) (StR R w0 gs (post y ++ H)) Q) :
    RS P N ops (⟨some dst, .call { callee := .value F, args := xs.toArray, argTypes := ts }, ty, pos, after, none⟩ :: l) e (StR R w0 gs (pre ++ H)) Q := by
  intro a w hS hF
  refine wpList_plain rfl fun K hK => ?_
  obtain ⟨fnc, hf, hbd, hn⟩ := hb.h
  have h1 := (hF.eval hF').inv_raw
  have hrl : RelL w (A w) (xs.map a.eval) := ht w _ hS (evL_rel hx fun x _ y hy => hF.eval hy)
  have hnd := hS.nodup
  rw [List.map_append, List.nodup_append] at hnd
  have hcall := hc w _ hrl (fun x hx => (hS.own x (by simp [hx])).2) hnd.1
  unfold Oper.wp
  have hrun : (execOp a.eval ⟨some dst, .call { callee := .value F, args := xs.toArray, argTypes := ts }, ty, pos, after, none⟩).run P w = .ok (.enter c (xs.map a.eval).toArray) w := by
    simp [execOp, resolve, h1, Deferred.ofValue, invoke, run_callFn hf hbd hn]
  rw [hrun]
  refine Calls.mono hcall fun x w' ⟨v, y, hx', hy, hrv, hm, hp, hpn⟩ => ?_
  subst hx'
  exact hK _ _ (h y hy _ w' (hS.call hm hp hpn) (Fr.put (some dst) hF.keep (fun _ h => by cases h; exact Nat.le_of_ble_eq_true hd) hrv))
end
end Go.Ab
namespace Go.Ab
variable {R : World → Prop} [RStab R]
section
variable {P : Program} {N : Nat} {S : World → Prop} {e : Env} {Q : Exit → Env → World → Prop} {ops : Array Oper} {l : List Oper} {o : Oper}
variable {w0 : World} {gs : List Nat} {H : List Ent} {dst : Option Tmp} {ty : TypeId} {pos : String} {after : Array Edge} {guard : Option (Nat × Bool)}
theorem zbb {t t' : TypeId} {X Y : Operand} {x y : Int} (hx : e.ev X = some (.raw (.int .i64 x))) (hy : e.ev Y = some (.raw (.int .i64 y)))
    (hr : -9223372036854775808 ≤ x + y ∧ x + y ≤ 9223372036854775807) : OpJ P S e ⟨dst, .binOp .add t X Y t', ty, pos, after, guard⟩ (.raw (.int .i64 (x + y))) := opj_int (op := .add) rfl hx hy hr
theorem zbc {t t' : TypeId} {X Y : Operand} {x y : Int} (hx : e.ev X = some (.raw (.int .i64 x))) (hy : e.ev Y = some (.raw (.int .i64 y)))
    (hr : -9223372036854775808 ≤ x - y ∧ x - y ≤ 9223372036854775807) : OpJ P S e ⟨dst, .binOp .sub t X Y t', ty, pos, after, guard⟩ (.raw (.int .i64 (x - y))) := opj_int (op := .sub) rfl hx hy hr
theorem zbe {t t' : TypeId} {X Y : Operand} {k : IntKind} {x y : Int} (hx : e.ev X = some (.raw (.int k x))) (hy : e.ev Y = some (.raw (.int k y))) :
    OpJ P S e ⟨dst, .binOp .lss t X Y t', ty, pos, after, guard⟩ (.raw (.bool (decide (x < y)))) := opj_icmp (op := .lss) rfl hx hy
theorem zbf {t t' : TypeId} {X Y : Operand} {k : IntKind} {x y : Int} (hx : e.ev X = some (.raw (.int k x))) (hy : e.ev Y = some (.raw (.int k y))) :
    OpJ P S e ⟨dst, .binOp .leq t X Y t', ty, pos, after, guard⟩ (.raw (.bool (decide (x ≤ y)))) := opj_icmp (op := .leq) rfl hx hy
theorem zbg {t t' : TypeId} {X Y : Operand} {k : IntKind} {x y : Int} (hx : e.ev X = some (.raw (.int k x))) (hy : e.ev Y = some (.raw (.int k y))) :
    OpJ P S e ⟨dst, .binOp .gtr t X Y t', ty, pos, after, guard⟩ (.raw (.bool (decide (y < x)))) := opj_icmp (op := .gtr) rfl hx hy
theorem zbh {t t' : TypeId} {X Y : Operand} {k : IntKind} {x y : Int} (hx : e.ev X = some (.raw (.int k x))) (hy : e.ev Y = some (.raw (.int k y))) :
    OpJ P S e ⟨dst, .binOp .geq t X Y t', ty, pos, after, guard⟩ (.raw (.bool (decide (y ≤ x)))) := opj_icmp (op := .geq) rfl hx hy
theorem zbi {t t' : TypeId} {X Y : Operand} {k : IntKind} {x y : Int} (hx : e.ev X = some (.raw (.int k x))) (hy : e.ev Y = some (.raw (.int k y))) :
    OpJ P S e ⟨dst, .binOp .eql t X Y t', ty, pos, after, guard⟩ (.raw (.bool (decide (x = y)))) := by
  have h := opj_icmp (P := P) (S := S) (e := e) (dst := dst) (ty := ty) (pos := pos) (after := after) (guard := guard) (op := .eql) (t := t) (t' := t') rfl hx hy
  have hb : cmpI .eql x y = decide (x = y) := by simp only [cmpI]; by_cases h : x = y <;> simp [h]
  rw [hb] at h; exact h
theorem zbj {t t' : TypeId} {X Y : Operand} {k : IntKind} {x y : Int} (hx : e.ev X = some (.raw (.int k x))) (hy : e.ev Y = some (.raw (.int k y))) :
    OpJ P S e ⟨dst, .binOp .neq t X Y t', ty, pos, after, guard⟩ (.raw (.bool (decide (x ≠ y)))) := by
  have h := opj_icmp (P := P) (S := S) (e := e) (dst := dst) (ty := ty) (pos := pos) (after := after) (guard := guard) (op := .neq) (t := t) (t' := t') rfl hx hy
  have hb : cmpI .neq x y = decide (x ≠ y) := by simp only [cmpI]; by_cases h : x = y <;> simp [h]
  rw [hb] at h; exact h
/-- 'float64(x)' of a float32. -/
theorem zbx {src dt : TypeId} {X : Operand} {x : FV} [hs : TyU P src (.float .f32)] [hd : TyU P dt (.float .f64)] (hx : e.ev X = some (.f .f32 x)) :
    OpJ P S e ⟨dst, .convert src dt X, ty, pos, after, guard⟩ (.f .f64 (fconv .f32 .f64 x)) :=
  opj_value fun a w _ h => by
    obtain ⟨p, h1, e1, hb⟩ := (h X (by simp [Op.operands]) _ hx).inv_f
    obtain ⟨r, w', hr, hq, hv, hl⟩ := run_fconv P w .f32 .f64 p hb (conv_wide (is32_fv p))
    refine ⟨.float .f64 r, w', ?_, Ext.of_quiet hq, Rel.f' hl (by rw [hv, e1])⟩
    simp [execOp, h1, convert, run_underlying hs.h, run_underlying hd.h, hr]

theorem zbm {R0 : World → Prop} {α : Type} {m : α → AV} {L : List α} {X : Operand} {t t2 : TypeId} {b : Nat} {z : Value} {el : TypeId} [hu : TyU P t (.slice el)] [hi : TyI P el z 1 b] (hx : e.ev X = some (AV.sl w0 1 (L.map m))) :
    OpJ P (StR R0 w0 [] H) e ⟨dst, .call { callee := .builtin .len, args := #[X], argTypes := #[t] }, t2, pos, after, guard⟩ (.raw (.int .i64 (L.length : Int))) := by
  have h := opj_len_sl (P := P) (R0 := R0) (H := H) (dst := dst) (pos := pos) (after := after) (guard := guard) (t2 := t2) (hu := hu) (hi := hi) (by decide) hx
  simpa using h
theorem zbv {R0 : World → Prop} {α : Type} [Inhabited α] {m : α → AV} {L : List α} {X I : Operand} {i : Int} {t : TypeId} {b : Nat} {z : Value} {el : TypeId} [hu : TyU P t (.slice el)] [hi : TyI P el z 1 b]
    (hx : e.ev X = some (AV.sl w0 1 (L.map m))) (hI : e.ev I = some (.raw (.int .i64 i))) (h0 : 0 ≤ i) (hlt : i < (L.length : Int)) :
    OpJ P (StR R0 w0 [] H) e ⟨dst, .indexAddr t X I, ty, pos, after, guard⟩ (AV.ptr [m (L.getD i.toNat default)]) := by
  have h := opj_index_sl (P := P) (R0 := R0) (H := H) (dst := dst) (ty := ty) (pos := pos) (after := after) (guard := guard) (hu := hu) (hi := hi) hx hI h0 (by simp; omega) (by decide)
  intro a w K Q hS ho hK
  refine h a w K Q hS ho fun u w' hw hr => hK u w' hw ?_
  obtain ⟨_, bb, hv, hsp, hr⟩ := hr.inv_p
  refine .p (mono_ptrTo _) ⟨bb, hv, hsp, fun j x hj => ?_⟩
  cases j with
  | succ j => simp at hj
  | zero =>
    simp only [List.getElem?_cons_zero, Option.some.injEq] at hj
    subst hj
    refine hr 0 _ ?_
    have hlt' : i.toNat < L.length := by omega
    simp [List.getElem?_drop, List.getD, hlt']
theorem zbu {X : Operand} {x : AV} {t : TypeId} {d : TypeDesc} [hd : TyU P t d] (ha : aggD d = false) (hx : e.ev X = some (AV.ptr [x])) :
    OpJ P S e ⟨dst, .load t X, ty, pos, after, guard⟩ x := opj_load_ptr ha hx rfl
theorem rs_fresh {d : Tmp} {op : Op} {val : Nat → AV} {en : Nat → Ent} (hd : Nat.blt d N = true) (hen : ∀ g, (en g).g = g)
    (h : ∀ a w, StR R w0 gs H w → Fr N e a w → ∃ g u w', (execOp a.eval ⟨some d, op, ty, pos, after, none⟩).run P w = .ok (.value u) w' ∧ Ev (val g) u ∧ Ext w w' ∧ w.heap.size ≤ g ∧ OwnE w' (en g))
    (hk : ∀ g, RS P N ops l ((d, val g) :: e) (StR R w0 gs (en g :: H)) Q) : RS P N ops (⟨some d, op, ty, pos, after, none⟩ :: l) e (StR R w0 gs H) Q := by
  intro a w hS hF
  refine wpList_plain rfl fun K hK => ?_
  obtain ⟨g, u, w', hr, hu, hw, hlt, ho⟩ := h a w hS hF
  unfold Oper.wp
  rw [hr]
  exact hK _ _ (hk g _ w' (hS.new hw (by rw [hen]; exact hlt) ho) (Fr.put (some d) (hF.ext hw) (fun _ h => by cases h; exact Nat.le_of_ble_eq_true hd) (hu w')))
theorem ext_alloc_own {w : World} {T : TypeId} {xs : List AV} {cs : Array Value} (h : ∀ (i : Nat) (x : AV), xs[i]? = some x → ∃ u, cs[i]? = some u ∧ Ev x u) : OwnE (w.alloc (.cells cs T)) ⟨w.heap.size, T, xs, cs.size⟩ :=
  ⟨cs, heap_alloc_new w _, rfl, h⟩
theorem cv1_ev (v : Value) (h : okv1 v = true) : Ev (cv1 v) v := fun w => rel_cv1 w v h
/-- 'make([]T, n)'. -/
theorem rs_make {d : Tmp} {α : Type} {m : α → AV} {zx : α} {A B : Operand} {n : Nat} {t el : TypeId} {z : Value} {b : Nat} [hu : TyU P t (.slice el)] [hi : TyI P el z 1 b]
    (hA : e.ev A = some (.raw (.int .i64 (n : Int)))) (hB : e.ev B = some (.raw (.int .i64 (n : Int)))) (hd : Nat.blt d N = true) (hz : cv1 z = m zx) (hzo : okv1 z = true) (hzc : z.cells = #[z])
    (hb : b * n ≤ 281474976710656) (hm : n ≤ maxLen)
    (hk : ∀ g, RS P N ops l ((d, .raw (.slice (some ⟨g, 0, none⟩) n n)) :: e) (StR R w0 gs (⟨g, el, (List.replicate n zx).map m, n⟩ :: H)) Q) :
    RS P N ops (⟨some d, .makeSlice t A B, ty, pos, after, none⟩ :: l) e (StR R w0 gs H) Q := by
  refine rs_fresh (val := fun g => .raw (.slice (some ⟨g, 0, none⟩) n n)) (en := fun g => ⟨g, el, (List.replicate n zx).map m, n⟩) hd (fun _ => rfl) (fun a w hS hF => ?_) hk
  have h1 := (hF.eval hA).inv_raw
  have h2 := (hF.eval hB).inv_raw
  obtain ⟨i, hi1, hz1, hs1, hb1⟩ := hi.h
  have hm' : (n : Int) ≤ 9223372036854775807 := by simp only [maxLen] at hm; omega
  have hr := run_make (P := P) w t el i z hu.h hi1 hz1 .i64 .i64 n n (by omega) (Int.le_refl _) (by rw [hb1]; have h : ((b * n : Nat) : Int) ≤ 281474976710656 := (by omega); rwa [Int.natCast_mul] at h) hm'
  simp only [Int.toNat_natCast] at hr
  refine ⟨w.heap.size, .slice (some ⟨w.heap.size, 0, none⟩) n n, w.alloc (.cells (madeCells z.cells (n * i.size)) el), by simp [execOp, h1, h2, hr], ev_raw _, Ext.alloc _ _, Nat.le_refl _, ?_⟩
  have : (madeCells z.cells (n * i.size)).size = n := by rw [size_madeCells, hs1, Nat.mul_one]
  have ho := ext_alloc_own (w := w) (T := el) (xs := (List.replicate n zx).map m) (cs := madeCells z.cells (n * i.size)) (fun j x hj => ?_)
  · rw [this] at ho; exact ho
  · simp only [List.map_replicate, List.getElem?_replicate] at hj
    split at hj
    · rename_i hjn
      cases hj
      refine ⟨z, ?_, by rw [← hz]; exact cv1_ev z hzo⟩
      simp [madeCells, hs1, hzc, hjn, Nat.mod_one]
    · cases hj

/-- 'new(T)', a variable of its own. -/
theorem zal {d : Tmp} {el : TypeId} {z : Value} {sz b : Nat} [hi : TyI P el z sz b] (hd : Nat.blt d N = true) (hzo : z.cells.toList.all okv1 = true)
    (hk : ∀ g, RS P N ops l ((d, .raw (.pointer (some ⟨g, 0, none⟩))) :: e) (StR R w0 gs (⟨g, el, z.cells.toList.map cv1, z.cells.size⟩ :: H)) Q) :
    RS P N ops (⟨some d, .alloc el, ty, pos, after, none⟩ :: l) e (StR R w0 gs H) Q := by
  refine rs_fresh (val := fun g => .raw (.pointer (some ⟨g, 0, none⟩))) (en := fun g => ⟨g, el, z.cells.toList.map cv1, z.cells.size⟩) hd (fun _ => rfl) (fun a w hS hF => ?_) hk
  refine ⟨w.heap.size, _, w.alloc (.cells z.cells el), ?_, ev_raw _, Ext.alloc _ _, Nat.le_refl _, ext_alloc_own fun j x hj => ?_⟩
  · simp [execOp, Instr.alloc, run_zero hi, newVar, newRow]
  · simp only [List.getElem?_map, Option.map_eq_some_iff] at hj
    obtain ⟨v, hv, rfl⟩ := hj
    exact ⟨v, by simpa using hv, cv1_ev v (List.all_eq_true.1 hzo v (List.mem_of_getElem? hv))⟩
/-- A value into a variable of its own. -/
theorem rs_box1 {d : Tmp} {el : TypeId} {X : Operand} {x : AV} (hx : e.ev X = some x) (hs : x.still = true) (h1 : ∀ v w, Rel w x v → v.cells = #[v]) (hd : Nat.blt d N = true)
    (hk : ∀ g, RS P N ops l ((d, .raw (.pointer (some ⟨g, 0, none⟩))) :: e) (StR R w0 gs (⟨g, el, [x], 1⟩ :: H)) Q) :
    RS P N ops (⟨some d, .box el X, ty, pos, after, none⟩ :: l) e (StR R w0 gs H) Q := by
  refine rs_fresh (val := fun g => .raw (.pointer (some ⟨g, 0, none⟩))) (en := fun g => ⟨g, el, [x], 1⟩) hd (fun _ => rfl) (fun a w hS hF => ?_) hk
  have hr := hF.eval hx
  have hc := h1 _ _ hr
  refine ⟨w.heap.size, _, w.alloc (.cells (a.eval X).cells el), ?_, ev_raw _, Ext.alloc _ _, Nat.le_refl _, ?_⟩
  · simp [execOp, Instr.box, newVar, newRow]
  · have ho := ext_alloc_own (w := w) (T := el) (xs := [x]) (cs := (a.eval X).cells) (fun j y hj => ?_)
    · rw [hc] at ho ⊢; exact ho
    · cases j with
      | zero => simp at hj; subst hj; exact ⟨a.eval X, by simp [hc], hr.ev hs⟩
      | succ j => simp at hj
theorem zak {d : Tmp} {el : TypeId} {X : Operand} {xs : List AV} (hx : e.ev X = some (.agg xs)) (hs : AV.stillL xs = true) (hd : Nat.blt d N = true)
    (hk : ∀ g, RS P N ops l ((d, .raw (.pointer (some ⟨g, 0, none⟩))) :: e) (StR R w0 gs (⟨g, el, xs, xs.length⟩ :: H)) Q) :
    RS P N ops (⟨some d, .box el X, ty, pos, after, none⟩ :: l) e (StR R w0 gs H) Q := by
  refine rs_fresh (val := fun g => .raw (.pointer (some ⟨g, 0, none⟩))) (en := fun g => ⟨g, el, xs, xs.length⟩) hd (fun _ => rfl) (fun a w hS hF => ?_) hk
  obtain ⟨vs, hv, hr⟩ := (hF.eval hx).inv_agg
  refine ⟨w.heap.size, _, w.alloc (.cells (a.eval X).cells el), ?_, ev_raw _, Ext.alloc _ _, Nat.le_refl _, ?_⟩
  · simp [execOp, Instr.box, newVar, newRow]
  · have ho := ext_alloc_own (w := w) (T := el) (xs := xs) (cs := (a.eval X).cells) (fun j y hj => ?_)
    · have : (a.eval X).cells.size = xs.length := by rw [hv]; simp [Value.cells, hr.length]
      rw [this] at ho; exact ho
    · obtain ⟨v, hv', hrv⟩ := hr.get hj
      have hstill : y.still = true := by
        have : ∀ (l : List AV), AV.stillL l = true → ∀ x ∈ l, x.still = true := by
          intro l
          induction l with
          | nil => intro _ x hx; cases hx
          | cons a l ih => intro h x hx; simp only [AV.stillL, Bool.and_eq_true] at h; rcases List.mem_cons.1 hx with rfl | hx; exact h.1; exact ih h.2 x hx
        exact this xs hs y (List.mem_of_getElem? hj)
      exact ⟨v, by rw [hv]; simp [Value.cells, hv'], hrv.ev hstill⟩

def oneAV : AV → Bool
  | .f .. | .c .. => true
  | .raw (.agg _) | .raw (.tuple _) => false
  | .raw _ => true
  | _ => false
theorem oneAV_spec {x : AV} {w : World} {v : Value} (h : oneAV x = true) (hr : Rel w x v) : v.cells = #[v] ∧ v.oneCell' = true ∧ x.still = true := by
  cases hr <;> first | (simp [oneAV] at h; done) | exact ⟨rfl, rfl, rfl⟩ | skip
  cases v <;> first | (simp [oneAV] at h; done) | exact ⟨rfl, rfl, rfl⟩
/-- What is owned, in another order. -/
theorem RS.perm {R0 : World → Prop} {H' : List Ent} (h : RS P N ops l e (StR R0 w0 gs H') Q) (hp : H'.Perm H) : RS P N ops l e (StR R0 w0 gs H) Q := h.st fun _ hw => hw.perm hp
theorem zai {d : Option Tmp} {op : Op} {j y : Nat} {b : Bool} (hy : gslot ops j = some y) (he : e.look y = some (.raw (.bool b))) (h : RS P N ops (⟨d, op, ty, pos, after, none⟩ :: l) e S Q) :
    RS P N ops (⟨d, op, ty, pos, after, some (j, b)⟩ :: l) e S Q := by
  intro a w hS hF
  have := h a w hS hF
  unfold wpList at this ⊢
  rw [if_pos (by simp [Region.wanted])] at this
  rw [if_pos (by simp [Region.wanted, yielded_of hF hy he])]
  exact this
theorem zab {d : Tmp} {op : Op} {b : Bool} [Cl S] (hd : Nat.blt d N = true) (hj : OpJ P S e ⟨some d, op, ty, pos, after, none⟩ (.raw (.bool b))) (h : ∀ c, b = c → RS P N ops l ((d, .raw (.bool c)) :: e) S Q) :
    RS P N ops (⟨some d, op, ty, pos, after, none⟩ :: l) e S Q := zaa hd hj (h b rfl)
theorem done_ret1B {R0 : World → Prop} {X : Type} {mk : X → AV} {post : X → List Ent} {good : X → Prop} {fn : Func} {t : Tmp} {b b' : Bool} (hr : fn.results = #[.tmp t]) (y : X) (ht : e.look t = some (.raw (.bool b))) (hmk : mk y = .raw (.bool b')) (hb : b = b') (hy : good y) (hs : (post y).Sublist H) :
    Done .ret e (StR R0 w0 gs H) (Ret P fn N w0 gs mk post good) := done_ret1 hr y (by rw [ht, hmk, hb]) hy hs

/-- A slice of the call's own, as an argument. -/
theorem Takes.own {R0 : World → Prop} {g n cap sz c : Nat} {T : TypeId} {xs : List AV} {args : List AV} {A : World → List AV} (hm : (⟨g, T, xs, c⟩ : Ent) ∈ H) (hn : xs.length = n * sz) (hc : n ≤ cap) (hx : cap ≤ maxLen) (h : Takes (StR R0 w0 gs H) args A) :
    Takes (StR R0 w0 gs H) (.raw (.slice (some ⟨g, 0, none⟩) n cap) :: args) (fun w => AV.sl w sz xs :: A w) := fun w vs hS hr => by
  obtain ⟨v, r, rfl, hv, hrr⟩ := hr.inv_cons
  have hv' := hv.inv_raw
  subst hv'
  refine .cons (.q ⟨_, n, cap, rfl, hn, hc, hx, fun i x hi => ⟨_, rfl, rfl, ?_⟩⟩) (h w r hS hrr)
  obtain ⟨u, hu, hev⟩ := (hS.own _ hm).2.cell hi
  exact ⟨u, by simpa using hu, hev⟩

section
variable {X : Type} {A : World → List AV} {mk : X → AV} {good : X → Prop} {c : FuncId} {xs : List Operand} {F : Operand} {args : List AV} {d : Tmp} {ts : Array TypeId} [hb : HasBody P c]
theorem rs_call0 (hc : FnH P c A [] mk (fun _ => []) good) (hF : e.ev F = some (.raw (.func (.func c) #[] #[]))) (hx : evL e xs = some args) (ht : Takes (StR R w0 gs H) args A) (hd : Nat.blt d N = true)
    (h : ∀ y, good y → RS P N ops l ((d, mk y) :: e.keep) (StR R w0 gs H) Q) :
    RS P N ops (⟨some d, .call { callee := .value F, args := xs.toArray, argTypes := ts }, ty, pos, after, none⟩ :: l) e (StR R w0 gs H) Q := rs_call (H := H) hc hF hx ht hd h
theorem rs_call1 {en : X → Ent} (hc : FnH P c A [] mk (fun y => [en y]) good) (hF : e.ev F = some (.raw (.func (.func c) #[] #[]))) (hx : evL e xs = some args) (ht : Takes (StR R w0 gs H) args A) (hd : Nat.blt d N = true)
    (h : ∀ y, good y → RS P N ops l ((d, mk y) :: e.keep) (StR R w0 gs (en y :: H)) Q) :
    RS P N ops (⟨some d, .call { callee := .value F, args := xs.toArray, argTypes := ts }, ty, pos, after, none⟩ :: l) e (StR R w0 gs H) Q := rs_call (H := H) hc hF hx ht hd h
end
theorem zdb {c : Code} (h : WS P N c e S Q) : WS P N c e S Q := h
theorem zcr {x : Exit} (h : Done x e S Q) : Done x e S Q := h
theorem zac {op : BinOp} {t t' : TypeId} {X Y : Operand} (h : RS P N ops (⟨dst, .binOp op t X Y t', ty, pos, after, guard⟩ :: l) e S Q) : RS P N ops (⟨dst, .binOp op t X Y t', ty, pos, after, guard⟩ :: l) e S Q := h
theorem zad {c : Call} (h : RS P N ops (⟨dst, .call c, ty, pos, after, guard⟩ :: l) e S Q) : RS P N ops (⟨dst, .call c, ty, pos, after, guard⟩ :: l) e S Q := h
end
end Go.Ab
namespace Go.Ab
/-- The operations that must come ahead of one, by an edge. -/
def directs (o : Oper) : List Nat := (o.after.toList.filter (Region.binds .any)).map (·.on)
/-- The slots that an operation looks at. -/
def looks (ops : Array Oper) (o : Oper) : List Nat :=
  (o.op.operands.toList.filterMap fun | .tmp t => some t | _ => none) ++ (match o.guard with | some (j, _) => (gslot ops j).toList | none => [])
inductive Must (ops : Array Oper) : Nat → Nat → Prop
  | one {i k : Nat} {o : Oper} : ops[k]? = some o → i ∈ directs o → Must ops i k
  | far {i j k : Nat} {o : Oper} : ops[k]? = some o → j ∈ directs o → Must ops i j → Must ops i k

def Listed (L : Array Bool) (i : Nat) : Prop := L.getD i false = true
/-- What is listed has all that it needs. -/
def Down (ops : Array Oper) (L : Array Bool) : Prop := ∀ k o, ops[k]? = some o → Listed L k → ∀ i ∈ directs o, Listed L i
theorem Must.listed {ops : Array Oper} {L : Array Bool} (hd : Down ops L) {i k : Nat} (h : Must ops i k) : (∀ o, ops[k]? = some o → ∀ j ∈ directs o, Listed L j) → Listed L i := by
  induction h with
  | one hk hi => intro h; exact h _ hk _ hi
  | far hk hj _ ih => intro h; exact ih fun o ho j' hj' => hd _ o ho (h _ hk _ hj) j' hj'

/-- The bits of a mask are operations that must come ahead. -/
theorem before_fold {ops : Array Oper} {k : Nat} {o : Oper} (hk : ops[k]? = some o) (acc : Array Nat) (hacc : ∀ j i, (acc.getD j 0).testBit i = true → Must ops i j) :
    ∀ (es : List Edge) (s : Nat), (∀ e ∈ es, e ∈ o.after.toList) → (∀ i, s.testBit i = true → Must ops i k) → ∀ i, (es.foldl (fun s e => if Region.binds .any e then s ||| 2 ^ e.on ||| acc.getD e.on 0 else s) s).testBit i = true → Must ops i k
  | [], _, _, hs, i, h => hs i h
  | e :: es, s, he, hs, i, h => by
    refine before_fold hk acc hacc es _ (fun x hx => he x (by simp [hx])) (fun i hi => ?_) i h
    dsimp only at hi
    split at hi
    · rename_i hb
      have hmem : e.on ∈ directs o := List.mem_map.2 ⟨e, List.mem_filter.2 ⟨he e (by simp), hb⟩, rfl⟩
      simp only [Nat.testBit_or, Bool.or_eq_true] at hi
      rcases hi with (hi | hi) | hi
      · exact hs i hi
      · have : i = e.on := by simpa [Nat.testBit_two_pow, eq_comm] using hi
        subst this; exact .one hk hmem
      · exact .far hk hmem (hacc _ _ hi)
    · exact hs i hi
theorem before_must (ops : Array Oper) : ∀ k i, ((Region.before ops).getD k 0).testBit i = true → Must ops i k := by
  have key : ∀ (l : List Oper) (acc : Array Nat), (∀ j, l[j]? = ops[acc.size + j]?) → (∀ j i, (acc.getD j 0).testBit i = true → Must ops i j) →
      ∀ j i, ((l.foldl (fun acc o => acc.push (o.after.foldl (fun s e => if Region.binds .any e then s ||| 2 ^ e.on ||| acc.getD e.on 0 else s) 0)) acc).getD j 0).testBit i = true → Must ops i j := by
    intro l
    induction l with
    | nil => intro acc _ h; exact h
    | cons o l ih =>
      intro acc hl h
      have h0 : ops[acc.size]? = some o := by simpa using (hl 0).symm
      refine ih _ (fun j => by have := hl (j + 1); simp only [List.getElem?_cons_succ] at this; rw [this]; simp [Nat.add_assoc, Nat.add_comm 1 j]) (fun j i hj => ?_)
      by_cases hje : j = acc.size
      · subst hje
        rw [Array.getD_eq_getD_getElem?, Array.getElem?_push, if_pos rfl, Option.getD_some] at hj
        rw [← Array.foldl_toList] at hj
        exact before_fold h0 acc h o.after.toList 0 (fun _ h => h) (fun i hi => by simp at hi) i hj
      · rw [Array.getD_eq_getD_getElem?, Array.getElem?_push, if_neg hje, ← Array.getD_eq_getD_getElem?] at hj
        exact h j i hj
  intro k i h
  refine key ops.toList #[] (fun j => by simp) (fun j i hj => by simp at hj) k i ?_
  unfold Region.before at h
  rw [← Array.foldl_toList] at h
  exact h

/-- The check on a region: its first n operations may come in any order, the others come behind all ahead of them. -/
def drawOk (ops : Array Oper) (n : Nat) : Bool :=
  decide (n ≤ ops.size) &&
  (List.range n).all (fun i => match ops[i]? with
    | some o => o.dst.isSome && (List.range n).all (fun j => j == i || gslot ops j != o.dst) &&
        (looks ops o).all (fun t => (List.range n).all fun j => gslot ops j != some t || (decide (j < i) && (directs o).contains j))
    | none => false) &&
  (List.range ops.size).all (fun k => decide (k < n) || (List.range k).all fun i => ((Region.before ops).getD k 0).testBit i) &&
  (List.range ops.size).all (fun k => match ops[k]? with
    | some o => (directs o).all fun j => decide (j < k)
    | none => false)

section
variable {P : Program} {N : Nat} {S : World → Prop} {e : Env} {Q : Exit → Env → World → Prop} {ops : Array Oper} {l : List Oper} {o : Oper}
/-- What one operation gives, its guard looked at. -/
def OpG (P : Program) (S : World → Prop) (ops : Array Oper) (e : Env) (o : Oper) (v : AV) : Prop :=
  match o.guard with
  | none => OpJ P S e o v
  | some (j, b) => ∃ y c, gslot ops j = some y ∧ e.look y = some (.raw (.bool c)) ∧ ((c = b ∧ OpJ P S e o v) ∨ (c ≠ b ∧ v = .raw undef))
/-- Operations whose order is drawn, in the order of the text. -/
def Run1 (P : Program) (N : Nat) (S : World → Prop) (ops : Array Oper) : List Oper → Env → (Env → Prop) → Prop
  | [], e, K => K e
  | o :: l, e, K => ∃ d v, o.dst = some d ∧ d < N ∧ OpG P S ops e o v ∧ Run1 P N S ops l ((d, v) :: e) K
theorem zav {K : Env → Prop} (h : K e) : Run1 P N S ops [] e K := h
theorem opg_clear {dst : Option Tmp} {op : Op} {ty : TypeId} {pos : String} {after : Array Edge} {v : AV} {j y : Nat} {b : Bool} (hy : gslot ops j = some y) (he : e.look y = some (.raw (.bool b))) (h : OpG P S ops e ⟨dst, op, ty, pos, after, none⟩ v) : OpG P S ops e ⟨dst, op, ty, pos, after, some (j, b)⟩ v :=
  ⟨y, b, hy, he, .inl ⟨rfl, h⟩⟩
theorem zaw {K : Env → Prop} {dst : Option Tmp} {op : Op} {ty : TypeId} {pos : String} {after : Array Edge} {j y : Nat} {b : Bool} (hy : gslot ops j = some y) (he : e.look y = some (.raw (.bool b))) (h : Run1 P N S ops (⟨dst, op, ty, pos, after, none⟩ :: l) e K) : Run1 P N S ops (⟨dst, op, ty, pos, after, some (j, b)⟩ :: l) e K :=
  let ⟨d, v, h1, h2, h3, h4⟩ := h
  ⟨d, v, h1, h2, opg_clear hy he h3, h4⟩
theorem zap {K : Env → Prop} {d : Tmp} {op : Op} {ty : TypeId} {pos : String} {after : Array Edge} {v : AV} (hd : Nat.blt d N = true) (hj : OpJ P S e ⟨some d, op, ty, pos, after, none⟩ v) (h : Run1 P N S ops l ((d, v) :: e) K) :
    Run1 P N S ops (⟨some d, op, ty, pos, after, none⟩ :: l) e K := ⟨d, v, rfl, Nat.le_of_ble_eq_true hd, hj, h⟩
theorem zax {K : Env → Prop} {d : Tmp} {op : Op} {ty : TypeId} {pos : String} {after : Array Edge} {j y : Nat} {b c : Bool} (hd : Nat.blt d N = true) (hy : gslot ops j = some y) (he : e.look y = some (.raw (.bool c))) (hbc : (c == b) = false)
    (h : Run1 P N S ops l ((d, .raw undef) :: e) K) : Run1 P N S ops (⟨some d, op, ty, pos, after, some (j, b)⟩ :: l) e K :=
  ⟨d, .raw undef, rfl, Nat.le_of_ble_eq_true hd, ⟨y, c, hy, he, .inr ⟨by simpa using hbc, rfl⟩⟩, h⟩

theorem zar {K : Env → Prop} {dst : Option Tmp} {op : BinOp} {t t' : TypeId} {X Y : Operand} {ty : TypeId} {pos : String} {after : Array Edge} {guard : Option (Nat × Bool)} (h : Run1 P N S ops (⟨dst, .binOp op t X Y t', ty, pos, after, guard⟩ :: l) e K) : Run1 P N S ops (⟨dst, .binOp op t X Y t', ty, pos, after, guard⟩ :: l) e K := h
theorem zas {K : Env → Prop} {dst : Option Tmp} {c : Call} {ty : TypeId} {pos : String} {after : Array Edge} {guard : Option (Nat × Bool)} (h : Run1 P N S ops (⟨dst, .call c, ty, pos, after, guard⟩ :: l) e K) : Run1 P N S ops (⟨dst, .call c, ty, pos, after, guard⟩ :: l) e K := h

/-- The frame behind the first operations, in the order of the text. -/
def after1 (ps : List (Nat × AV)) (e : Env) : Env := ps.reverse ++ e
theorem look_append : ∀ (a b : Env) (t : Nat), (a ++ b).look t = match a.look t with | some v => some v | none => b.look t
  | [], _, _ => rfl
  | (d, v) :: a, b, t => by
    simp only [List.cons_append, Env.look]
    cases hb : Nat.beq d t with
    | true => rfl
    | false => exact look_append a b t
theorem look_none_iff : ∀ (a : Env) (t : Nat), a.look t = none ↔ t ∉ a.map (·.1)
  | [], _ => by simp [Env.look]
  | (d, v) :: a, t => by
    simp only [Env.look, List.map_cons, List.mem_cons, not_or]
    cases hb : Nat.beq d t with
    | true => have := Nat.eq_of_beq_eq_true hb; simp [this]
    | false =>
      have hne : t ≠ d := fun e => by subst e; simp at hb
      simp [hne, look_none_iff a t]
theorem look_mem : ∀ (a : Env) (t : Nat) (v : AV), a.look t = some v → (t, v) ∈ a
  | [], _, _, h => by cases h
  | (d, u) :: a, t, v, h => by
    simp only [Env.look] at h
    cases hb : Nat.beq d t with
    | true => have := Nat.eq_of_beq_eq_true hb; simp only [hb, Option.some.injEq] at h; subst this; subst h; simp
    | false => simp only [hb] at h; exact List.mem_cons_of_mem _ (look_mem a t v h)

theorem run1_spec {K : Env → Prop} : ∀ {l : List Oper} {e : Env}, Run1 P N S ops l e K → ∃ ps : List (Nat × AV), ps.length = l.length ∧ K (after1 ps e) ∧
    ∀ i o p, l[i]? = some o → ps[i]? = some p → o.dst = some p.1 ∧ p.1 < N ∧ OpG P S ops (after1 (ps.take i) e) o p.2
  | [], e, h => ⟨[], rfl, h, fun i o p hi => by simp at hi⟩
  | o :: l, e, ⟨d, v, hd, hN, hg, hr⟩ => by
    obtain ⟨ps, hlen, hK, hall⟩ := run1_spec hr
    have haft : ∀ qs : List (Nat × AV), after1 ((d, v) :: qs) e = after1 qs ((d, v) :: e) := fun qs => by simp [after1]
    refine ⟨(d, v) :: ps, by simp [hlen], by rw [haft]; exact hK, fun i x p hi hp => ?_⟩
    cases i with
    | zero => simp at hi hp; subst hi; subst hp; exact ⟨hd, hN, by simpa [after1] using hg⟩
    | succ i =>
      simp only [List.getElem?_cons_succ] at hi hp
      rw [List.take_succ_cons, haft]
      exact hall i x p hi hp

theorem ready_iff {L : Array Bool} (hL : L.size = ops.size) (i : Nat) : i ∈ Region.ready .any ops L ↔ i < ops.size ∧ ¬ Listed L i ∧ ∀ o, ops[i]? = some o → ∀ j ∈ directs o, Listed L j := by
  unfold Region.ready Listed
  simp only [List.mem_filter, List.mem_range, Bool.and_eq_true, Bool.not_eq_true']
  constructor
  · rintro ⟨h1, h2, h3⟩
    refine ⟨h1, ?_, fun o ho j hj => ?_⟩
    · have hlt : i < L.size := by omega
      simp [Array.getD, hlt] at h2 ⊢; exact h2
    · simp only [ho, Option.map_some, Option.getD_some] at h3
      obtain ⟨e, he, rfl⟩ := List.mem_map.1 hj
      obtain ⟨he1, he2⟩ := List.mem_filter.1 he
      rw [← Array.all_toList, List.all_eq_true] at h3
      have := h3 e he1
      simpa [he2] using this
  · rintro ⟨h1, h2, h3⟩
    refine ⟨h1, ?_, ?_⟩
    · have hlt : i < L.size := by omega
      simp [Array.getD, hlt] at h2 ⊢; exact h2
    · have ho : ops[i]? = some ops[i] := by simp [h1]
      simp only [ho, Option.map_some, Option.getD_some]
      rw [← Array.all_toList, List.all_eq_true]
      intro e he
      cases hb : Region.binds .any e with
      | false => rfl
      | true =>
        have := h3 _ ho e.on (List.mem_map.2 ⟨e, List.mem_filter.2 ⟨he, hb⟩, rfl⟩)
        simpa using this

theorem listed_set {L : Array Bool} {i j : Nat} (hi : i < L.size) : Listed (L.setIfInBounds i true) j ↔ j = i ∨ Listed L j := by
  unfold Listed
  rw [Array.getD_eq_getD_getElem?, Array.getD_eq_getD_getElem?]
  by_cases h : j = i
  · subst h; simp [hi]
  · rw [Array.getElem?_setIfInBounds_ne (fun e => h e.symm)]; simp [h]

def unL (L : Array Bool) : Nat := L.toList.count false
theorem unL_set {L : Array Bool} {i : Nat} (hi : i < L.size) (hn : ¬ Listed L i) : unL (L.setIfInBounds i true) + 1 = unL L := by
  unfold unL
  have hf : L.toList[i]'(by simpa using hi) = false := by
    unfold Listed at hn
    simp [Array.getD, hi] at hn
    simpa using hn
  have hpos : 0 < L.toList.count false := List.count_pos_iff.2 (by rw [← hf]; exact List.getElem_mem _)
  rw [Array.toList_setIfInBounds, List.count_set (by simpa using hi)]
  have h1 : (L.toList[i]'(by simpa using hi) == false) = true := by rw [hf]; rfl
  rw [if_pos h1, if_neg (by simp)]
  omega
theorem unL_zero {L : Array Bool} (h : unL L = 0) {i : Nat} (hi : i < L.size) : Listed L i := by
  unfold unL at h
  unfold Listed
  cases hb : L.getD i false with
  | true => rfl
  | false =>
    have hf : L.toList[i]'(by simpa using hi) = false := by simp [Array.getD, hi] at hb; simpa using hb
    have : 0 < L.toList.count false := List.count_pos_iff.2 (by rw [← hf]; exact List.getElem_mem _)
    omega

theorem drawOk_spec {n : Nat} (h : drawOk ops n = true) : n ≤ ops.size ∧
    (∀ i o, i < n → ops[i]? = some o → (∃ d, o.dst = some d) ∧ (∀ j, j < n → j ≠ i → gslot ops j ≠ o.dst) ∧ ∀ t ∈ looks ops o, ∀ j, j < n → gslot ops j = some t → j < i ∧ j ∈ directs o) ∧
    (∀ k i, n ≤ k → k < ops.size → i < k → Must ops i k) ∧ (∀ k o, ops[k]? = some o → ∀ j ∈ directs o, j < k) := by
  unfold drawOk at h
  simp only [Bool.and_eq_true, decide_eq_true_eq, List.all_eq_true, List.mem_range] at h
  obtain ⟨⟨⟨h1, h2⟩, h3⟩, h4⟩ := h
  refine ⟨h1, fun i o hi ho => ?_, fun k i hk hks hik => ?_, fun k o ho j hj => ?_⟩
  · have := h2 i hi
    simp only [ho, Bool.and_eq_true, List.all_eq_true, List.mem_range, Bool.or_eq_true, beq_iff_eq, bne_iff_ne, decide_eq_true_eq, List.contains_iff_mem] at this
    obtain ⟨⟨ha, hb⟩, hc⟩ := this
    refine ⟨Option.isSome_iff_exists.1 ha, fun j hj hji => (hb j hj).resolve_left hji, fun t ht j hj hg => ?_⟩
    exact (hc t ht j hj).resolve_left (fun hne => hne hg)
  · have := h3 k hks
    simp only [Bool.or_eq_true, decide_eq_true_eq, List.all_eq_true, List.mem_range] at this
    exact before_must ops k i ((this.resolve_left (by omega)) i hik)
  · have hk : k < ops.size := (Array.getElem?_eq_some_iff.1 ho).1
    have := h4 k hk
    simp only [ho, List.all_eq_true, decide_eq_true_eq] at this
    exact this j hj

/-- Behind the first m operations the others come one by one. -/
theorem wpAny_tail {Q' : Exit → Act → World → Prop} {n : Nat} (hmust : ∀ k i, n ≤ k → k < ops.size → i < k → Must ops i k) (hback : ∀ k o, ops[k]? = some o → ∀ j ∈ directs o, j < k) :
    ∀ (fuel m : Nat) (L : Array Bool) (a : Act) (w : World), n ≤ m → m ≤ ops.size → L.size = ops.size → (∀ i, Listed L i ↔ i < m) → ops.size ≤ m + fuel → wpList P ops Q' (ops.toList.drop m) a w → wpAny P .any ops Q' fuel L a w := by
  intro fuel
  induction fuel with
  | zero =>
    intro m L a w hnm hms hL hlist hf hw
    have hmm : m = ops.size := by omega
    subst hmm
    refine ⟨List.eq_nil_iff_forall_not_mem.2 fun i hi => ?_, ?_⟩
    · obtain ⟨h1, h2, _⟩ := (ready_iff hL i).1 hi
      exact h2 ((hlist i).2 h1)
    · rw [List.drop_of_length_le (by simp)] at hw
      exact hw
  | succ fuel ih =>
    intro m L a w hnm hms hL hlist hf hw
    by_cases hlt : m < ops.size
    · have hom : ops[m]? = some ops[m] := by simp [hlt]
      have hdrop : ops.toList.drop m = ops[m] :: ops.toList.drop (m + 1) := by rw [List.drop_eq_getElem_cons (by simpa using hlt)]; simp
      have hready : m ∈ Region.ready .any ops L := (ready_iff hL m).2 ⟨hlt, fun h => by have := (hlist m).1 h; omega, fun o ho j hj => (hlist j).2 (hback m o ho j hj)⟩
      refine ⟨fun h => by rw [h] at hready; simp at hready, fun i hi => ?_⟩
      obtain ⟨h1, h2, h3⟩ := (ready_iff hL i).1 hi
      have him : i = m := by
        have hge : ¬ i < m := fun h => h2 ((hlist i).2 h)
        by_cases hgt : m < i
        · have hd : Down ops L := fun k o ho hk j hj => (hlist j).2 (Nat.lt_trans (hback k o ho j hj) ((hlist k).1 hk))
          have := (hmust i m (by omega) h1 hgt).listed hd h3
          have := (hlist m).1 this
          omega
        · omega
      subst him
      rw [hdrop] at hw
      unfold wpOp
      simp only [hom]
      have hset : ∀ j, Listed (L.setIfInBounds i true) j ↔ j < i + 1 := fun j => by
        rw [listed_set (by omega), hlist j]; omega
      have next : ∀ a w, wpList P ops Q' (ops.toList.drop (i + 1)) a w → wpAny P .any ops Q' fuel (L.setIfInBounds i true) a w :=
        fun a w h => ih (i + 1) _ a w (by omega) (by omega) (by simpa using hL) hset (by omega) h
      simp only [wpList] at hw
      split
      · rename_i hwt
        rw [if_pos hwt] at hw
        exact hw.imp (Oper.wp_mono next) id
      · rename_i hwt
        rw [if_neg hwt] at hw
        exact next _ _ hw
    · have hmm : m = ops.size := by omega
      subst hmm
      refine ⟨fun _ => ?_, fun i hi => ?_⟩
      · rw [List.drop_of_length_le (by simp)] at hw
        exact hw
      · obtain ⟨h1, h2, _⟩ := (ready_iff hL i).1 hi
        exact absurd ((hlist i).2 h1) h2

theorem ws_draw {n id : Nat} [Cl S] (hm : P.follows .mixedOrders = true) (hchk : drawOk ops n = true) (h : Run1 P N S ops (ops.toList.take n) e (fun e' => RS P N ops (ops.toList.drop n) e' S Q)) : WS P N (.region id ops true) e S Q := by
  obtain ⟨hn, hfirst, hmust, hback⟩ := drawOk_spec hchk
  obtain ⟨ps, hlen, hR, hall⟩ := run1_spec h
  have hlen' : ps.length = n := by rw [hlen]; simp; omega
  have hop : ∀ i, i < n → ∃ o p, ops[i]? = some o ∧ ps[i]? = some p ∧ o.dst = some p.1 ∧ p.1 < N ∧ OpG P S ops (after1 (ps.take i) e) o p.2 := fun i hi => by
    have ho : ops[i]? = some (ops[i]'(by omega)) := by simp
    have hp : ps[i]? = some (ps[i]'(by omega)) := by simp
    obtain ⟨h1, h2, h3⟩ := hall i (ops[i]'(by omega)) (ps[i]'(by omega)) (by rw [List.getElem?_take, if_pos hi]; simp) hp
    exact ⟨_, _, ho, hp, h1, h2, h3⟩
  have hslot : ∀ i p, ps[i]? = some p → gslot ops i = some p.1 := fun i p hp => by
    have hi : i < n := by rw [← hlen']; exact (List.getElem?_eq_some_iff.1 hp).1
    obtain ⟨o, p', ho, hp', hd, _⟩ := hop i hi
    rw [hp'] at hp; cases hp
    simp [gslot, ho, hd]
  intro a w hS hF
  refine wp_region_any hm ?_
  have hw0 : Ext w { w with drawn := w.drawn + 1 } := Ext.of_quiet (.inr rfl)
  have hS0 : S { w with drawn := w.drawn + 1 } := Cl.ext hS hw0
  have hF0 := hF.ext hw0
  generalize ({ w with drawn := w.drawn + 1 } : World) = w1 at hS0 hF0
  clear hS hF hw0 w
  -- what holds while the first operations come
  have key : ∀ (fuel : Nat) (L : Array Bool) (a : Act) (w : World), L.size = ops.size → Down ops L → S w → a.defers = [] → a.tmps.size = N →
      (∀ i p, ps[i]? = some p → Listed L i → ∃ u, a.tmps[p.1]? = some u ∧ Rel w p.2 u) →
      (∀ t v, t ∉ ps.map (·.1) → e.look t = some v → ∃ u, a.tmps[t]? = some u ∧ Rel w v u) →
      (∀ k, n ≤ k → ¬ Listed L k) → unL L ≤ fuel →
      wpAny P .any ops (fun x a' w' => ∃ e', Fr N e' a' w' ∧ Q x e' w') fuel L a w := by
    intro fuel
    induction fuel with
    | zero =>
      intro L a w hL hd hSw hdf hsz hps hbase hno hu
      have hnn : n = ops.size := by
        rcases Nat.lt_or_ge n ops.size with hlt | hge
        · exact absurd (unL_zero (by omega) (by omega)) (hno n (Nat.le_refl _))
        · omega
      have hFr : Fr N (after1 ps e) a w := ⟨hdf, hsz, fun t v ht => by
        unfold after1 at ht
        rw [look_append] at ht
        cases hl : Env.look ps.reverse t with
        | some x =>
          simp only [hl, Option.some.injEq] at ht; subst ht
          obtain ⟨i, hi⟩ := List.mem_iff_getElem?.1 (List.mem_reverse.1 (look_mem _ _ _ hl))
          exact hps i _ hi (unL_zero (by omega) (by have := (List.getElem?_eq_some_iff.1 hi).1; omega))
        | none =>
          simp only [hl] at ht
          exact hbase t v (by have := (look_none_iff _ _).1 hl; simpa using this) ht⟩
      exact wpAny_tail (P := P) (n := n) hmust hback 0 n L a w (Nat.le_refl _) hn hL (fun i => ⟨fun h => by
        rcases Nat.lt_or_ge i n with h' | h'
        · exact h'
        · exact absurd h (hno i h'), fun h => unL_zero (by omega) (by omega)⟩) (by omega) (hR a w hSw hFr)
    | succ fuel ih =>
      intro L a w hL hd hSw hdf hsz hps hbase hno hu
      by_cases hall' : ∀ i, i < n → Listed L i
      · have hFr : Fr N (after1 ps e) a w := ⟨hdf, hsz, fun t v ht => by
          unfold after1 at ht
          rw [look_append] at ht
          cases hl : Env.look ps.reverse t with
          | some x =>
            simp only [hl, Option.some.injEq] at ht; subst ht
            obtain ⟨i, hi⟩ := List.mem_iff_getElem?.1 (List.mem_reverse.1 (look_mem _ _ _ hl))
            exact hps i _ hi (hall' i (by have := (List.getElem?_eq_some_iff.1 hi).1; omega))
          | none =>
            simp only [hl] at ht
            exact hbase t v (by have := (look_none_iff _ _).1 hl; simpa using this) ht⟩
        have hcount : ops.size ≤ n + (fuel + 1) := by
          -- at most the operations from n on are not listed
          have : ops.size - n ≤ unL L := by
            unfold unL
            have h1 : (L.toList.drop n).count false = ops.size - n := by
              have hall2 : ∀ x ∈ L.toList.drop n, x = false := fun x hx => by
                obtain ⟨j, hj⟩ := List.mem_iff_getElem?.1 hx
                rw [List.getElem?_drop] at hj
                have hnl := hno (n + j) (by omega)
                unfold Listed at hnl
                rw [Array.getD_eq_getD_getElem?] at hnl
                have hj' : L[n + j]? = some x := by simpa using hj
                rw [hj'] at hnl
                cases x <;> simp_all
              rw [List.count_eq_length.2 (fun b hb => (hall2 b hb).symm)]
              simp [hL]
            rw [← h1]
            exact (List.drop_sublist n L.toList).count_le false
          omega
        exact wpAny_tail (P := P) (n := n) hmust hback (fuel + 1) n L a w (Nat.le_refl _) hn hL (fun i => ⟨fun h => by
          rcases Nat.lt_or_ge i n with h' | h'
          · exact h'
          · exact absurd h (hno i h'), fun h => hall' i h⟩) hcount (hR a w hSw hFr)
      · refine ⟨fun hnil => ?_, fun i hi => ?_⟩
        · exfalso
          -- the least one that is not listed is ready
          have hex : ∃ i, i < n ∧ ¬ Listed L i := by
            false_or_by_contra
            rename_i hc
            exact hall' fun i hi => by
              false_or_by_contra
              rename_i hn'
              exact hc ⟨i, hi, hn'⟩
          have hmin : ∀ m, (∃ i, i < m ∧ i < n ∧ ¬ Listed L i) → ∃ i, i < n ∧ ¬ Listed L i ∧ ∀ j, j < i → Listed L j := by
            intro m
            induction m with
            | zero => rintro ⟨i, hi, _⟩; omega
            | succ m ihm =>
              rintro ⟨i, hi, hin, hil⟩
              by_cases h' : ∃ i, i < m ∧ i < n ∧ ¬ Listed L i
              · exact ihm h'
              · refine ⟨i, hin, hil, fun j hj => ?_⟩
                false_or_by_contra
                rename_i hjl
                exact h' ⟨j, by omega, by omega, hjl⟩
          obtain ⟨i, hin, hil⟩ := hex
          obtain ⟨i, hin, hil, hjs⟩ := hmin (i + 1) ⟨i, by omega, hin, hil⟩
          have : i ∈ Region.ready .any ops L := (ready_iff hL i).2 ⟨by omega, hil, fun o ho j hj => hjs j (hback i o ho j hj)⟩
          rw [hnil] at this
          simp at this
        · obtain ⟨h1, h2, h3⟩ := (ready_iff hL i).1 hi
          have hin : i < n := by
            rcases Nat.lt_or_ge i n with h' | h'
            · exact h'
            · exact absurd (fun j hj => (hmust i j h' h1 (by omega)).listed hd h3) hall'
          obtain ⟨o, p, ho, hp, hdst, hpN, hG⟩ := hop i hin
          obtain ⟨_, huniq, hlook⟩ := hfirst i o hin ho
          -- what the operation looks at is as the text's order has it
          have hlk : ∀ t, t ∈ looks ops o → ∀ v, (after1 (ps.take i) e).look t = some v → ∃ u, a.tmps[t]? = some u ∧ Rel w v u := fun t ht v hv => by
            unfold after1 at hv
            rw [look_append] at hv
            cases hl : Env.look (ps.take i).reverse t with
            | some x =>
              simp only [hl, Option.some.injEq] at hv; subst hv
              obtain ⟨j, hj⟩ := List.mem_iff_getElem?.1 (List.mem_reverse.1 (look_mem _ _ _ hl))
              rw [List.getElem?_take] at hj
              split at hj
              · rename_i hji
                obtain ⟨_, hjd⟩ := hlook t ht j (by omega) (hslot j _ hj)
                exact hps j _ hj (h3 o ho j hjd)
              · cases hj
            | none =>
              simp only [hl] at hv
              refine hbase t v (fun hm' => ?_) hv
              obtain ⟨q, hq, hqt⟩ := List.mem_map.1 hm'
              obtain ⟨j, hj⟩ := List.mem_iff_getElem?.1 hq
              have hjn : j < n := by rw [← hlen']; exact (List.getElem?_eq_some_iff.1 hj).1
              have hjt : gslot ops j = some t := by rw [hslot j q hj, ← hqt]
              obtain ⟨hji, _⟩ := hlook t ht j hjn hjt
              have hnone := (look_none_iff _ _).1 hl
              apply hnone
              rw [List.map_reverse, List.mem_reverse]
              exact List.mem_map.2 ⟨q, List.mem_iff_getElem?.2 ⟨j, by rw [List.getElem?_take, if_pos hji]; exact hj⟩, hqt⟩
          have hoper : ∀ x ∈ o.op.operands.toList, ∀ y, (after1 (ps.take i) e).ev x = some y → Rel w y (a.eval x) := fun x hx y hy => by
            cases x with
            | tmp t =>
              obtain ⟨u, hu, hr⟩ := hlk t (List.mem_append_left _ (List.mem_filterMap.2 ⟨_, hx, rfl⟩)) y hy
              have : a.eval (.tmp t) = u := by simp [Act.eval, hu]
              rw [this]; exact hr
            | const c =>
              simp only [Env.ev] at hy
              split at hy
              · rename_i hc; cases hy; exact rel_cv w c hc
              · cases hy
            | global g => cases hy; exact .raw
            | func f => cases hy; exact .raw
          -- behind it
          have next : ∀ u w', Ext w w' → Rel w' p.2 u → wpAny P .any ops (fun x a' w' => ∃ e', Fr N e' a' w' ∧ Q x e' w') fuel (L.setIfInBounds i true) (a.put o.dst u) w' := fun u w' hw hr => by
            have hiL : i < L.size := by omega
            refine ih _ _ _ (by simpa using hL) (fun k x hx hk j hj => ?_) (Cl.ext hSw hw) (by simp [hdst, Act.put, hdf]) (by simp [hdst, Act.put, hsz]) (fun j q hq hj => ?_) (fun t v ht hv => ?_) (fun k hk hk' => ?_) (by have := unL_set hiL h2; omega)
            · rw [listed_set hiL]
              rcases (listed_set hiL).1 hk with rfl | hk
              · exact .inr (h3 x hx j hj)
              · exact .inr (hd k x hx hk j hj)
            · by_cases hji : j = i
              · subst hji
                rw [hp] at hq; cases hq
                exact ⟨u, by simp [hdst, Act.put, hsz, hpN], hr⟩
              · have hjn : j < n := by rw [← hlen']; exact (List.getElem?_eq_some_iff.1 hq).1
                have hne : p.1 ≠ q.1 := fun he => huniq j hjn hji (by rw [hslot j q hq, hdst, he])
                obtain ⟨y, hy, hry⟩ := hps j q hq (((listed_set hiL).1 hj).resolve_left hji)
                exact ⟨y, by simp [hdst, Act.put, Array.getElem?_setIfInBounds_ne hne, hy], hry.ext hw⟩
            · have hne : p.1 ≠ t := fun he => ht (List.mem_map.2 ⟨p, List.mem_of_getElem? hp, he⟩)
              obtain ⟨y, hy, hry⟩ := hbase t v ht hv
              exact ⟨y, by simp [hdst, Act.put, Array.getElem?_setIfInBounds_ne hne, hy], hry.ext hw⟩
            · rcases (listed_set hiL).1 hk' with rfl | hk'
              · omega
              · exact hno k hk hk'
          unfold wpOp
          simp only [ho]
          unfold OpG at hG
          cases hgd : o.guard with
          | none =>
            simp only [hgd] at hG
            rw [if_pos (by simp [Region.wanted, hgd])]
            exact .inl (hG a w _ _ hSw hoper next)
          | some jb =>
            obtain ⟨j, b⟩ := jb
            simp only [hgd] at hG
            obtain ⟨y, c, hy, hc, hcase⟩ := hG
            obtain ⟨u, hu, hru⟩ := hlk y (List.mem_append_right _ (by simp [hgd, hy])) _ hc
            have hub := hru.inv_raw
            subst hub
            have hyield : yielded ops a.tmps j = some c := by
              unfold yielded
              rw [show ((ops[j]?).bind (·.dst)) = some y from hy]
              simp [hu]
            rcases hcase with ⟨rfl, hJ⟩ | ⟨hne, hv⟩
            · rw [if_pos (by simp [Region.wanted, hgd, hyield])]
              exact .inl (hJ a w _ _ hSw hoper next)
            · rw [if_neg (by simpa [Region.wanted, hgd, hyield] using hne)]
              exact next undef w (Ext.refl _) (by rw [hv]; exact .raw)
  refine key ops.size _ a w1 (by simp) (fun k o _ hk => ?_) hS0 hF0.defers hF0.size (fun i p _ hi => ?_) (fun t v _ ht => hF0.rel t v ht) (fun k _ hk => ?_) ?_
  · unfold Listed at hk; rw [Array.getD_eq_getD_getElem?, Array.getElem?_replicate] at hk; split at hk <;> simp at hk
  · unfold Listed at hi; rw [Array.getD_eq_getD_getElem?, Array.getElem?_replicate] at hi; split at hi <;> simp at hi
  · unfold Listed at hk; rw [Array.getD_eq_getD_getElem?, Array.getElem?_replicate] at hk; split at hk <;> simp at hk
  · unfold unL; simp
end
end Go.Ab
namespace Go.Ab
section
variable {P : Program} {S : World → Prop} {e : Env}
/-- A slice whose block is new. -/
def AV.lit (xs : List AV) : AV := .p fun w v => Rd w 1 v xs
theorem mono_lit (xs : List AV) : Mono fun w v => Rd w 1 v xs := fun _ _ _ hw h => h.ext hw
theorem Takes.lit {xs : List AV} {args : List AV} {A : World → List AV} (h : Takes S args A) : Takes S (AV.lit xs :: args) (fun w => AV.sl w 1 xs :: A w) := fun w vs hS hr => by
  obtain ⟨v, r, rfl, hv, hr⟩ := hr.inv_cons
  exact .cons (.q hv.inv_p.2) (h w r hS hr)

theorem fill_row : ∀ (vs : List Value) (k : Nat) (cs : Array Value), (∀ v ∈ vs, v.cells = #[v]) → k + vs.length ≤ cs.size →
    Instr.fill (fun i => some (i * 1, 1)) cs ((List.range' k vs.length).zip vs) = some (cs.toList.take k ++ vs ++ cs.toList.drop (k + vs.length)).toArray
  | [], k, cs, _, _ => by simp [Instr.fill]
  | v :: vs, k, cs, h, hk => by
    have h1 := h v (by simp)
    simp only [List.length_cons] at hk
    have hlt : k < cs.size := by omega
    rw [List.length_cons, List.range'_succ, List.zip_cons_cons]
    unfold Instr.fill
    simp only [h1, Nat.mul_one]
    have hc : (#[v] : Array Value).size ≠ 1 ∨ k + (#[v] : Array Value).size > cs.size ↔ False := by simp; omega
    rw [if_neg (by simp; omega)]
    have hz : (#[v] : Array Value).zipIdx.foldl (fun cs' (x : Value × Nat) => cs'.setIfInBounds (k + x.2) x.1) cs = cs.setIfInBounds k v := by simp
    have ih := fill_row vs (k + 1) (cs.setIfInBounds k v) (fun u hu => h u (by simp [hu])) (by simp; omega)
    simp only [Nat.mul_one] at ih
    show Instr.fill _ ((#[v] : Array Value).zipIdx.foldl (fun cs' (x : Value × Nat) => cs'.setIfInBounds (k + x.2) x.1) cs) _ = _
    rw [hz, ih]
    congr 1
    apply Array.toList_inj.1
    simp only [Array.toList_setIfInBounds]
    have hl : k < cs.toList.length := by simpa using hlt
    have a1 : (cs.toList.set k v).take (k + 1) = cs.toList.take k ++ [v] := by
      rw [List.set_eq_take_append_cons_drop, if_pos hl]
      have : (cs.toList.take k).length = k := by simp; omega
      rw [List.take_append, this]
      simp [List.take_of_length_le, this]
    have a2 : (cs.toList.set k v).drop (k + 1 + vs.length) = cs.toList.drop (k + (vs.length + 1)) := by
      rw [List.drop_set_of_lt (by omega)]
      congr 1; omega
    rw [a1, a2]
    simp
/-- It lies in one cell. -/
def isOne (x : AV) : Bool := oneAV x
theorem isOne_cells {w : World} {x : AV} {v : Value} (h : isOne x = true) (hr : Rel w x v) : v.cells = #[v] := (oneAV_spec h hr).1
theorem isOne_ev {w : World} {x : AV} {v : Value} (h : isOne x = true) (hr : Rel w x v) : Ev x v := hr.ev (oneAV_spec h hr).2.2
theorem opj_lit {t el : TypeId} {z : Value} {b n : Nat} {parts : Array (Nat × Operand)} {Xs : List Operand} {xs : List AV} {dst : Option Tmp} {ty : TypeId} {pos : String} {after : Array Edge} {guard : Option (Nat × Bool)} [hu : TyU P t (.slice el)] [hi : TyI P el z 1 b]
    (hp : parts.toList = (List.range' 0 Xs.length).zip Xs) (hn : n = Xs.length) (hx : evL e Xs = some xs) (h1 : xs.all isOne = true) (h0 : Nat.blt 0 n = true) (hb : Nat.ble n 1000 = true) :
    OpJ P S e ⟨dst, .buildSlice t n parts, ty, pos, after, guard⟩ (AV.lit xs) :=
  opj_value fun a w _ ho => by
    subst hn
    have h0' := Nat.le_of_ble_eq_true h0
    have hb' := Nat.le_of_ble_eq_true hb
    obtain ⟨i, hi1, hz1, hs1, hb1⟩ := hi.h
    have hops : ∀ X ∈ Xs, X ∈ (Op.operands (.buildSlice t Xs.length parts)).toList := fun X hX => by
      simp only [Op.operands, List.mem_map]
      rw [hp]
      obtain ⟨k, hk, rfl⟩ := List.mem_iff_getElem.1 hX
      refine ⟨(k, Xs[k]), ?_, rfl⟩
      rw [List.mem_iff_getElem]
      exact ⟨k, by simp; omega, by simp⟩
    have hrl : RelL w xs (Xs.map a.eval) := evL_rel hx fun X hX => ho X (hops X hX)
    have hlen : (Xs.map a.eval).length = xs.length := hrl.length
    have hlx : xs.length = Xs.length := by simpa using hlen.symm
    have hcells : ∀ v ∈ Xs.map a.eval, v.cells = #[v] := fun v hv => by
      obtain ⟨k, hk, rfl⟩ := List.mem_iff_getElem.1 hv
      obtain ⟨u, hu', hr⟩ := hrl.get (i := k) (a := xs[k]'(by omega)) (by simp)
      rw [List.getElem?_eq_getElem hk] at hu'
      cases hu'
      exact isOne_cells (List.all_eq_true.1 h1 _ (List.getElem_mem _)) hr
    have hrun := run_buildSlice (P := P) w t el Xs.length (parts.map fun (i, x) => (i, a.eval x)) (Xs.map a.eval).toArray i z hu.h hi1 hz1 (by rw [hs1]; omega) (by rw [hs1]; omega) (by
      rw [hs1, Array.toList_map, hp]
      have hf := fill_row (Xs.map a.eval) 0 ((Array.range (Xs.length * 1)).map (z.cells[· % z.cells.size]!)) hcells (by simp)
      have e1 : ((List.range' 0 Xs.length).zip Xs).map (fun (x : Nat × Operand) => (x.1, a.eval x.2)) = (List.range' 0 (Xs.map a.eval).length).zip (Xs.map a.eval) := by
        rw [List.length_map, List.zip_map_right]
        rfl
      rw [show (fun (x : Nat × Operand) => match x with | (i, x) => (i, a.eval x)) = fun (x : Nat × Operand) => (x.1, a.eval x.2) from rfl, e1, hf]
      simp)
    refine ⟨.slice (some ⟨w.heap.size, 0, none⟩) Xs.length Xs.length, w.alloc (.cells (Xs.map a.eval).toArray el), by simp [execOp, hrun], Ext.alloc _ _, .p (mono_lit xs) ?_⟩
    refine ⟨some ⟨w.heap.size, 0, none⟩, _, _, rfl, by omega, Nat.le_refl _, by simp only [maxLen]; omega, fun k x hk => ⟨_, rfl, rfl, ?_⟩⟩
    obtain ⟨u, hu', hr⟩ := hrl.get hk
    refine ⟨u, ?_, isOne_ev (List.all_eq_true.1 h1 _ (List.mem_of_getElem? hk)) hr⟩
    have hb := heap_alloc_new w (.cells (Xs.map a.eval).toArray el)
    unfold World.cell?
    simp only [hb, Nat.zero_add]
    rw [← hu']
    simp
end
end Go.Ab
namespace Go.Ab
variable {R : World → Prop} [RStab R]
def tab (n : Nat) (f : Int → FV) : List FV := (List.range n).map fun (i : Nat) => f i
def at_ (L : List FV) (i : Int) : FV := L.getD i.toNat default
@[simp] theorem tab_length (n : Nat) (f : Int → FV) : (tab n f).length = n := by simp [tab]
theorem tab_get {n : Nat} (f : Int → FV) {i : Nat} (h : i < n) : (tab n f)[i]? = some (f i) := by simp [tab, h]
theorem tab_ext {L : List FV} {n : Nat} {f : Int → FV} (hl : L.length = n) (h : ∀ i : Nat, i < n → L[i]? = some (f i)) : L = tab n f := by
  apply List.ext_getElem?
  intro i
  rcases Nat.lt_or_ge i n with hi | hi
  · rw [h i hi, tab_get f hi]
  · rw [List.getElem?_eq_none (by omega), List.getElem?_eq_none (by rw [tab_length]; exact hi)]
theorem tab_congr {n : Nat} {f g : Int → FV} (h : ∀ i : Int, 0 ≤ i → i < n → f i = g i) : tab n f = tab n g :=
  tab_ext (tab_length n f) fun i hi => by rw [tab_get f hi, h i (by omega) (by omega)]
theorem tab_rep (n : Nat) (x : FV) : List.replicate n x = tab n fun _ => x := tab_ext (by simp) fun i hi => by simp [hi]
theorem tab_set {n : Nat} {f g : Int → FV} {i : Nat} {x : FV} (hi : i < n) (hx : g i = x) (hg : ∀ t : Int, 0 ≤ t → t < n → t ≠ i → g t = f t) : (tab n f).set i x = tab n g :=
  tab_ext (by simp [tab_length]) fun t ht => by
    rw [List.getElem?_set]
    split
    · rename_i h
      subst h
      rw [if_pos (by rw [tab_length]; exact hi), hx]
    · rename_i h
      rw [tab_get f ht, hg t (by omega) (by omega) (by omega)]
theorem tab_snoc {n : Nat} {f g : Int → FV} {x : FV} (hx : g n = x) (hg : ∀ t : Int, 0 ≤ t → t < n → g t = f t) : tab n f ++ [x] = tab (n + 1) g :=
  tab_ext (by simp [tab_length]) fun t ht => by
    rcases Nat.lt_or_ge t n with h | h
    · rw [List.getElem?_append_left (by rw [tab_length]; exact h), tab_get f h, hg t (by omega) (by omega)]
    · have : t = n := by omega
      subst this
      rw [List.getElem?_append_right (by rw [tab_length]; exact h), tab_length, Nat.sub_self, hx]
      rfl
theorem at_tab {n : Nat} {f : Int → FV} {i : Int} (h0 : 0 ≤ i) (h : i < n) : at_ (tab n f) i = f i := by
  have hi : i.toNat < n := by omega
  have he : ((i.toNat : Nat) : Int) = i := by omega
  have hg : (tab n f)[i.toNat]? = some (f i) := by rw [tab_get f hi, he]
  simp [at_, List.getD, hg]
/-- A table in a block of its own. -/
abbrev entF (g : Nat) (T : TypeId) (n : Nat) (f : Int → FV) (c : Nat) : Ent := ⟨g, T, (tab n f).map (AV.f .f32), c⟩

theorem erase_perm {α : Type} : ∀ {l : List α} {i : Nat} (h : i < l.length), (l[i] :: l.eraseIdx i).Perm l
  | a :: l, 0, _ => List.Perm.refl _
  | a :: l, i + 1, h => (List.Perm.swap a (l[i]'(by simpa using h)) (l.eraseIdx i)).trans ((erase_perm (l := l) (i := i) (by simpa using h)).cons a)
/-- The block at some place has turned, no other. -/
theorem StR.updAt {w0 w w' : World} {gs : List Nat} {H : List Ent} {i : Nat} {e e' : Ent} (h : StR R w0 gs H w) (hi : H[i]? = some e) (hw : Mod w w' [e.g]) (hg : e'.g = e.g ∨ w.heap.size ≤ e'.g) (ho : OwnE w' e') : StR R w0 gs (H.set i e') w' := by
  obtain ⟨hlt, rfl⟩ := List.getElem?_eq_some_iff.1 hi
  have hp : (H[i] :: H.eraseIdx i).Perm H := erase_perm hlt
  have h1 : StR R w0 gs ([H[i]] ++ H.eraseIdx i) w := h.perm hp
  have h2 : StR R w0 gs ([e'] ++ H.eraseIdx i) w' := h1.call hw (fun x hx => by
    have : x = e' := by simpa using hx
    subst this
    exact ⟨ho, by rcases hg with hg | hg; exact .inl (by simp [hg]); exact .inr hg⟩) (by simp)
  refine h2.perm ?_
  have hlt' : i < (H.set i e').length := by simpa using hlt
  have hp' : ((H.set i e')[i] :: (H.set i e').eraseIdx i).Perm (H.set i e') := erase_perm hlt'
  rw [List.getElem_set_self, List.eraseIdx_set_eq] at hp'
  exact hp'.symm

section
variable {P : Program} {N : Nat} {S : World → Prop} {e : Env} {Q : Exit → Env → World → Prop} {ops : Array Oper} {l : List Oper} {o : Oper}
variable {w0 : World} {gs : List Nat} {H : List Ent} {dst : Option Tmp} {ty : TypeId} {pos : String} {after : Array Edge} {guard : Option (Nat × Bool)}
/-- A cell of a table. -/
theorem zbt {R0 : World → Prop} {X : Operand} {g n c : Nat} {i : Int} {f : Int → FV} {T : TypeId} {t : TypeId} {d : TypeDesc} [hd : TyU P t d] (ha : aggD d = false)
    (hx : e.ev X = some (.raw (.pointer (some ⟨g, i.toNat * 1, none⟩)))) (hm : entF g T n f c ∈ H) (h0 : 0 ≤ i ∧ i < n) : OpJ P (StR R0 w0 gs H) e ⟨dst, .load t X, ty, pos, after, guard⟩ (.f .f32 (f i)) := by
  refine opj_load_own (en := entF g T n f c) ha hx hm ?_
  have hi : i.toNat < n := by omega
  have he : ((i.toNat : Nat) : Int) = i := by omega
  rw [Nat.mul_one, List.getElem?_map, tab_get f hi, he]
  rfl

theorem rs_storeAt (k : Nat) {en : Ent} {i : Nat} {t : TypeId} {z : Value} {b : Nat} [hi : TyI P t z 1 b] {A X : Operand} {x : AV} (hA : e.ev A = some (.raw (.pointer (some ⟨en.g, i, none⟩)))) (hx : e.ev X = some x) (h1 : oneAV x = true) (hH : H[k]? = some en) (hi' : i < en.csz)
    (hk : RS P N ops l e.keep (StR R w0 gs (H.set k { en with xs := en.xs.set i x })) Q) :
    RS P N ops (⟨none, .store t A X, ty, pos, after, none⟩ :: l) e (StR R w0 gs H) Q := by
  intro a w hS hF
  refine wpList_plain rfl fun K hK => ?_
  have h2 := (hF.eval hA).inv_raw
  have hr := hF.eval hx
  obtain ⟨hc, ho, hst⟩ := oneAV_spec h1 hr
  have hmem : en ∈ H := List.mem_of_getElem? hH
  have hown := (hS.own en hmem).2
  obtain ⟨cur, hb, hcs, _⟩ := hown
  have hcell : w.cell? ⟨en.g, i, none⟩ = some (cur[i]'(by omega)) := by simp [World.cell?, hb, hcs, hi']
  have hfr := OwnE.frozen (hS.own en hmem).2 i
  have hrun : (execOp a.eval ⟨none, .store t A X, ty, pos, after, none⟩).run P w = .ok .skip (w.setCell ⟨en.g, i, none⟩ (a.eval X)) := by
    have hst : (store ⟨en.g, i, none⟩ (a.eval X)).run P w = .ok () (w.setCell ⟨en.g, i, none⟩ (a.eval X)) := by
      rw [run_store P w _ _ _ ho, hcell]; simp [hfr]
    have hadd : (⟨en.g, i, none⟩ : Addr).add 0 = ⟨en.g, i, none⟩ := rfl
    simp [execOp, h2, Instr.storeAt, Instr.sureAddr, storeVar, run_size hi, hc, storeCells, hadd, hst]
  unfold Oper.wp
  rw [hrun]
  exact hK _ _ (hk _ _ (hS.updAt hH (mod_setCell w en.g i _) (.inl rfl) (own_setCell (hS.own en hmem).2 hi' (hr.ev hst))) hF.keep)
/-- A store into a table. -/
theorem rs_storeT (k : Nat) (f' : Int → FV) {g n c : Nat} {i : Int} {f : Int → FV} {x : FV} {T t : TypeId} {z : Value} {b : Nat} [hi : TyI P t z 1 b] {A X : Operand}
    (hA : e.ev A = some (.raw (.pointer (some ⟨g, i.toNat * 1, none⟩)))) (hx : e.ev X = some (.f .f32 x)) (hH : H[k]? = some (entF g T n f c)) (h0 : 0 ≤ i ∧ i < n ∧ n ≤ c)
    (hf : f' i = x) (hf' : ∀ s : Int, 0 ≤ s → s < n → s ≠ i → f' s = f s)
    (hk : RS P N ops l e.keep (StR R w0 gs (H.set k (entF g T n f' c))) Q) :
    RS P N ops (⟨none, .store t A X, ty, pos, after, none⟩ :: l) e (StR R w0 gs H) Q := by
  have hn : i.toNat < n := by omega
  have he : ((i.toNat : Nat) : Int) = i := by omega
  refine rs_storeAt k (en := entF g T n f c) (i := i.toNat * 1) hA hx rfl hH (by simp only; omega) ?_
  have : ({ entF g T n f c with xs := (entF g T n f c).xs.set (i.toNat * 1) (.f .f32 x) } : Ent) = entF g T n f' c := by
    simp only [entF, Nat.mul_one]
    rw [← List.map_set, tab_set hn (by rw [he]; exact hf) (fun s h1 h2 h3 => hf' s h1 h2 (by rw [he] at h3; exact h3))]
  rw [this]
  exact hk

/-- A literal of one-cell elements in a block of its own. -/
theorem rs_litO {d : Tmp} {t el : TypeId} {z : Value} {b n : Nat} {parts : Array (Nat × Operand)} {Xs : List Operand} {xs : List AV} [hu : TyU P t (.slice el)] [hi : TyI P el z 1 b] (hd : Nat.blt d N = true)
    (hp : parts.toList = (List.range' 0 Xs.length).zip Xs) (hn : n = Xs.length) (hx : evL e Xs = some xs) (h1 : xs.all isOne = true) (hb : Nat.ble n 1000 = true)
    (hk : ∀ g, RS P N ops l ((d, .raw (.slice (some ⟨g, 0, none⟩) n n)) :: e) (StR R w0 gs (⟨g, el, xs, n⟩ :: H)) Q) :
    RS P N ops (⟨some d, .buildSlice t n parts, ty, pos, after, none⟩ :: l) e (StR R w0 gs H) Q := by
  refine rs_fresh (val := fun g => .raw (.slice (some ⟨g, 0, none⟩) n n)) (en := fun g => ⟨g, el, xs, n⟩) hd (fun _ => rfl) (fun a w hS hF => ?_) hk
  subst hn
  have hb' := Nat.le_of_ble_eq_true hb
  obtain ⟨i, hi1, hz1, hs1, hb1⟩ := hi.h
  have hrl : RelL w xs (Xs.map a.eval) := evL_rel hx fun X _ y hy => hF.eval hy
  have hlen : (Xs.map a.eval).length = xs.length := hrl.length
  have hlx : xs.length = Xs.length := by simpa using hlen.symm
  have hcells : ∀ v ∈ Xs.map a.eval, v.cells = #[v] := fun v hv => by
    obtain ⟨k, hk, rfl⟩ := List.mem_iff_getElem.1 hv
    obtain ⟨u, hu', hr⟩ := hrl.get (i := k) (a := xs[k]'(by omega)) (by simp)
    rw [List.getElem?_eq_getElem hk] at hu'
    cases hu'
    exact isOne_cells (List.all_eq_true.1 h1 _ (List.getElem_mem _)) hr
  have hfill : ∀ zc : Array Value, Instr.fill (fun i => some (i * 1, 1)) ((Array.range (Xs.length * 1)).map (zc[· % zc.size]!)) (parts.map fun (i, x) => (i, a.eval x)).toList = some (Xs.map a.eval).toArray := fun zc => by
    rw [Array.toList_map, hp]
    have hf := fill_row (Xs.map a.eval) 0 ((Array.range (Xs.length * 1)).map (zc[· % zc.size]!)) hcells (by simp)
    have e1 : ((List.range' 0 Xs.length).zip Xs).map (fun (x : Nat × Operand) => (x.1, a.eval x.2)) = (List.range' 0 (Xs.map a.eval).length).zip (Xs.map a.eval) := by
      rw [List.length_map, List.zip_map_right]
      rfl
    rw [show (fun (x : Nat × Operand) => match x with | (i, x) => (i, a.eval x)) = fun (x : Nat × Operand) => (x.1, a.eval x.2) from rfl, e1, hf]
    simp
  have hrun : (Instr.buildSlice t Xs.length (parts.map fun (i, x) => (i, a.eval x))).run P w = .ok (.slice (some ⟨w.heap.size, 0, none⟩) Xs.length Xs.length) (w.alloc (.cells (Xs.map a.eval).toArray el)) := by
    rcases Nat.eq_zero_or_pos Xs.length with h0 | h0
    · have hX : Xs = [] := List.eq_nil_of_length_eq_zero h0
      subst hX
      have hpe : parts = #[] := by
        apply Array.toList_inj.1
        rw [hp]; rfl
      subst hpe
      have hr0 : (Array.range 0) = (#[] : Array Nat) := rfl
      simp [Instr.buildSlice, run_underlying hu.h, sizeOf, typeInfo, hi1, newRow, Instr.fill, hr0]
    · have := run_buildSlice (P := P) w t el Xs.length (parts.map fun (i, x) => (i, a.eval x)) (Xs.map a.eval).toArray i z hu.h hi1 hz1 (by rw [hs1]; omega) (by rw [hs1]; omega) (by rw [hs1]; exact hfill z.cells)
      exact this
  refine ⟨w.heap.size, _, _, by simp only [execOp, Sem.run_bind, hrun, Result.andThen_ok]; rfl, ev_raw _, Ext.alloc _ _, Nat.le_refl _, ?_⟩
  have ho := ext_alloc_own (w := w) (T := el) (xs := xs) (cs := (Xs.map a.eval).toArray) (fun k x hk => by
    obtain ⟨u, hu', hr⟩ := hrl.get hk
    exact ⟨u, by simpa using hu', isOne_ev (List.all_eq_true.1 h1 _ (List.mem_of_getElem? hk)) hr⟩)
  have hsz : (Xs.map a.eval).toArray.size = Xs.length := by simp
  rw [hsz] at ho
  exact ho

theorem rs_litP {d : Tmp} {t el : TypeId} {z : Value} {b n : Nat} {parts : Array (Nat × Operand)} {xs : List AV} [hu : TyU P t (.slice el)] [hi : TyI P el z 1 b] (hd : Nat.blt d N = true)
    (hx : evL e (parts.toList.map (·.2)) = some xs) (hp : parts.toList = (List.range' 0 (parts.toList.map (·.2)).length).zip (parts.toList.map (·.2))) (hn : n = (parts.toList.map (·.2)).length) (h1 : xs.all isOne = true) (hb : Nat.ble n 1000 = true)
    (hk : ∀ g, RS P N ops l ((d, .raw (.slice (some ⟨g, 0, none⟩) n n)) :: e) (StR R w0 gs (⟨g, el, xs, n⟩ :: H)) Q) :
    RS P N ops (⟨some d, .buildSlice t n parts, ty, pos, after, none⟩ :: l) e (StR R w0 gs H) Q := rs_litO hd hp hn hx h1 hb hk

theorem zco {t el : TypeId} {z : Value} {b n : Nat} {parts : Array (Nat × Operand)} {xs : List AV} [hu : TyU P t (.slice el)] [hi : TyI P el z 1 b]
    (hx : evL e (parts.toList.map (·.2)) = some xs) (hp : parts.toList = (List.range' 0 (parts.toList.map (·.2)).length).zip (parts.toList.map (·.2))) (hn : n = (parts.toList.map (·.2)).length) (h1 : xs.all isOne = true) (h0 : Nat.blt 0 n = true) (hb : Nat.ble n 1000 = true) :
    OpJ P S e ⟨dst, .buildSlice t n parts, ty, pos, after, guard⟩ (AV.lit xs) := opj_lit hp hn hx h1 h0 hb

/-- 'append' of such elements to a list of the call's own. -/
theorem rs_append (k : Nat) {d : Tmp} {A B : Operand} {g n cap : Nat} {xs ys : List AV} {t el : TypeId} {z : Value} {b : Nat} [hu : TyU P t (.slice el)] [hi : TyI P el z 1 b] (hd : Nat.blt d N = true)
    (hA : e.ev A = some (.raw (.slice (some ⟨g, 0, none⟩) n cap))) (hB : ∃ y, e.ev B = some y ∧ ∀ w v, StR R w0 gs H w → Rel w y v → Rd w 1 v ys) (hH : H[k]? = some ⟨g, el, xs, cap⟩) (hn : xs.length = n ∧ n ≤ cap ∧ cap ≤ maxLen)
    (h0 : 1 ≤ ys.length) (h1 : ys.all isOne = true) (hm : n + ys.length ≤ maxLen) (hby : (n + ys.length) * b ≤ 140737488355328) (hzc : z.cells.size = 1)
    (hk : ∀ g' cap', n + ys.length ≤ cap' → cap' ≤ maxLen → RS P N ops l ((d, .raw (.slice (some ⟨g', 0, none⟩) (n + ys.length) cap')) :: e.keep) (StR R w0 gs (H.set k ⟨g', el, xs ++ ys, cap'⟩)) Q) :
    RS P N ops (⟨some d, .call { callee := .builtin .append, args := #[A, B], argTypes := #[t, t] }, ty, pos, after, none⟩ :: l) e (StR R w0 gs H) Q := by
  intro a w hS hF
  refine wpList_plain rfl fun K hK => ?_
  have hA' := (hF.eval hA).inv_raw
  obtain ⟨y, hy, hrd⟩ := hB
  obtain ⟨ad, m, c, hB', hl, _, _, hcells⟩ := hrd w _ hS (hF.eval hy)
  rw [Nat.mul_one] at hl
  obtain ⟨bb, had, hsp, _⟩ := hcells 0 _ (List.getElem?_eq_getElem (by omega))
  subst had
  obtain ⟨i, hi1, hz1, hs1, hb1⟩ := hi.h
  have hmem : (⟨g, el, xs, cap⟩ : Ent) ∈ H := List.mem_of_getElem? hH
  obtain ⟨cur, hcur, hcsz, hcx⟩ := (hS.own _ hmem).2
  obtain ⟨hxn, hnc, hcm⟩ := hn
  have hown : w.ownsRow 0 el 1 (.slice (some ⟨g, 0, none⟩) n cap) n (cur.toList.take n) := by
    refine ⟨by simp only [List.length_take, Array.length_toList, hcsz]; omega, .inr ⟨g, cap, cur, rfl, Nat.zero_le _, hcur, hnc, hcm, by simpa using hcsz, by simp⟩⟩
  -- what is to be appended
  have hnews : ∃ news : List Value, news.length = ys.length ∧ ∀ (j : Nat) (u : Value), news[j]? = some u → w.cell? (bb.add j) = some u ∧ ∃ y, ys[j]? = some y ∧ isOne y = true ∧ Ev y u := by
    have hex : ∀ k, k ≤ ys.length → ∃ news : List Value, news.length = k ∧ ∀ (j : Nat) (u : Value), news[j]? = some u → w.cell? (bb.add j) = some u ∧ ∃ y, ys[j]? = some y ∧ isOne y = true ∧ Ev y u := by
      intro k
      induction k with
      | zero => intro _; exact ⟨[], rfl, fun j u h => by simp at h⟩
      | succ k ih =>
        intro hk
        obtain ⟨news, hln, hall⟩ := ih (by omega)
        have hy' : ys[k]? = some (ys[k]'(by omega)) := List.getElem?_eq_getElem (by omega)
        obtain ⟨b', hb', hsp', u, hu', hev⟩ := hcells k _ hy'
        cases hb'
        refine ⟨news ++ [u], by simp [hln], fun j v hj => ?_⟩
        rcases Nat.lt_or_ge j k with h | h
        · rw [List.getElem?_append_left (by omega)] at hj; exact hall j v hj
        · have hjk : j = k := by
            have := (List.getElem?_eq_some_iff.1 hj).1
            simp only [List.length_append, hln, List.length_cons, List.length_nil] at this
            omega
          subst hjk
          rw [List.getElem?_append_right (by omega), hln, Nat.sub_self] at hj
          cases hj
          exact ⟨by rw [addr_add bb hsp]; exact hu', _, hy', List.all_eq_true.1 h1 _ (List.getElem_mem _), hev⟩
    exact hex _ (Nat.le_refl _)
  obtain ⟨news, hln, hnw⟩ := hnews
  have hone : ∀ u ∈ news, u.oneCell' = true := fun u hu => by
    obtain ⟨j, hj⟩ := List.mem_iff_getElem?.1 hu
    obtain ⟨_, y, _, hy1, hev⟩ := hnw j u hj
    exact (oneAV_spec hy1 (hev w)).2.1
  obtain ⟨g', cap', w', hr, hown', hgrow, hat, hlt⟩ := run_append_lies (P := P) w t ty 0 el i z 1 b hu.h hi1 hz1 hs1 hb1 hzc (by omega) (.slice (some ⟨g, 0, none⟩) n cap) n (cur.toList.take n) hown
    bb m c news (by omega) (fun j u hj => (hnw j u hj).1) hone (by omega) (by omega) (by rw [← hl]; exact hby) (Nat.zero_le _) _ rfl
  obtain ⟨hlx, hown'⟩ := hown'
  obtain ⟨g2, cap2, cur2, he2, _, hh2, hnc2, hcm2, hcs2, htk⟩ : ∃ g cap, ∃ X : Array Value, Value.slice (some ⟨g', 0, none⟩) (n + m) cap' = .slice (some ⟨g, 0, none⟩) (n + m) cap ∧ 0 ≤ g ∧ w'.heap[g]? = some (.cells X el (0, 0)) ∧ n + m ≤ cap ∧ cap ≤ maxLen ∧ X.size = cap * 1 ∧ X.toList.take ((n + m) * 1) = X.toList.take ((n + m) * 1) ∧ X.toList.take ((n + m) * 1) = cur.toList.take n ++ news := by
    rcases hown' with ⟨h, _⟩ | ⟨g, cap, cur, h1, h2, h3, h4, h5, h6, h7⟩
    · cases h
    · exact ⟨g, cap, cur, h1, h2, h3, h4, h5, h6, rfl, h7⟩
  obtain ⟨_, htk⟩ := htk
  cases he2
  have hmy : m = ys.length := hl.symm
  subst hmy
  have hmod : Mod w w' [g] := ⟨hgrow.os, hgrow.tape, hgrow.output, hgrow.size, fun k hk hne => hgrow.block k hk (by simp [Value.ownBlock]; simpa using hne)⟩
  have ho' : OwnE w' ⟨g', el, xs ++ ys, cap'⟩ := by
    refine ⟨cur2, hh2, by simpa using hcs2, fun j x hj => ?_⟩
    have htj : ∀ v, (cur.toList.take n ++ news)[j]? = some v → cur2[j]? = some v := fun v hv => by
      rw [← htk, List.getElem?_take] at hv
      split at hv
      · simpa using hv
      · cases hv
    have hlt' : (cur.toList.take n).length = n := by simp only [List.length_take, Array.length_toList, hcsz]; omega
    rcases Nat.lt_or_ge j n with h | h
    · rw [List.getElem?_append_left (by omega)] at hj
      obtain ⟨u, hu', hev⟩ := hcx j x hj
      refine ⟨u, htj u ?_, hev⟩
      rw [List.getElem?_append_left (by omega), List.getElem?_take, if_pos h]
      simpa using hu'
    · rw [List.getElem?_append_right (by omega), hxn] at hj
      have hj' : j - n < news.length := by rw [hln]; exact (List.getElem?_eq_some_iff.1 hj).1
      obtain ⟨_, y, hy', _, hev⟩ := hnw (j - n) _ (List.getElem?_eq_getElem hj')
      rw [hj] at hy'
      cases hy'
      refine ⟨_, htj _ ?_, hev⟩
      rw [List.getElem?_append_right (by omega), hlt', List.getElem?_eq_getElem hj']
  unfold Oper.wp
  have hrun : (execOp a.eval ⟨some d, .call { callee := .builtin .append, args := #[A, B], argTypes := #[t, t] }, ty, pos, after, none⟩).run P w = .ok (.value (.slice (some ⟨g', 0, none⟩) (n + ys.length) cap')) w' := by
    simp only [execOp, resolve, invoke, builtin, Sem.run_bind, Sem.run_pure, Result.andThen_ok, List.map_toArray, List.map_cons, List.map_nil, hA', hB', hr]
  rw [hrun]
  refine hK _ _ (hk g' cap' hnc2 hcm2 _ w' (hS.updAt hH hmod ?_ ho') (Fr.put (some d) hF.keep (fun _ h => by cases h; exact Nat.le_of_ble_eq_true hd) .raw))
  rcases hat with h | h
  · left
    have : g = g' := by simpa [Value.ownBlock] using h
    exact this.symm
  · right; simp only; omega
/-- 'append' of one float to a table of the call's own. -/
theorem rs_appendT (k : Nat) (f' : Int → FV) {d : Tmp} {A B : Operand} {g n cap : Nat} {f : Int → FV} {x : FV} {t el : TypeId} {z : Value} {b : Nat} [hu : TyU P t (.slice el)] [hi : TyI P el z 1 b] (hd : Nat.blt d N = true)
    (hA : e.ev A = some (.raw (.slice (some ⟨g, 0, none⟩) n cap))) (hB : e.ev B = some (AV.lit [.f .f32 x])) (hH : H[k]? = some (entF g el n f cap)) (hn : n ≤ cap ∧ cap ≤ maxLen)
    (hm : n < 2 ^ 40) (hby : Nat.ble b 64 = true) (hzc : z.cells.size = 1) (hf : f' n = x) (hf' : ∀ s : Int, 0 ≤ s → s < n → f' s = f s)
    (hk : ∀ g' cap', n + 1 ≤ cap' → cap' ≤ maxLen → RS P N ops l ((d, .raw (.slice (some ⟨g', 0, none⟩) (n + 1) cap')) :: e.keep) (StR R w0 gs (H.set k (entF g' el (n + 1) f' cap'))) Q) :
    RS P N ops (⟨some d, .call { callee := .builtin .append, args := #[A, B], argTypes := #[t, t] }, ty, pos, after, none⟩ :: l) e (StR R w0 gs H) Q := by
  have hb := Nat.le_of_ble_eq_true hby
  refine rs_append k (ys := [.f .f32 x]) hd hA ⟨_, hB, fun w v _ h => h.inv_p.2⟩ hH ⟨by simp [tab_length], hn.1, hn.2⟩ (by simp) rfl (by simp only [maxLen, List.length_cons, List.length_nil]; omega)
    (Nat.le_trans (Nat.mul_le_mul (show n + ([AV.f .f32 x] : List AV).length ≤ 2 ^ 40 from by simp only [List.length_cons, List.length_nil]; omega) hb) (by decide)) hzc fun g' cap' h1 h2 => ?_
  have : ((tab n f).map (AV.f .f32) ++ [.f .f32 x] : List AV) = (tab (n + 1) f').map (AV.f .f32) := by
    rw [← tab_snoc hf hf', List.map_append]; rfl
  rw [this]
  exact hk g' cap' h1 h2
/-- Tables that came in. -/
theorem zbo {R0 : World → Prop} {n : Nat} {f : Int → FV} {X : Operand} {t t2 : TypeId} {b : Nat} {z : Value} {el : TypeId} [hu : TyU P t (.slice el)] [hi : TyI P el z 1 b] (hx : e.ev X = some (AV.sl w0 1 ((tab n f).map (AV.f .f32)))) :
    OpJ P (StR R0 w0 [] H) e ⟨dst, .call { callee := .builtin .len, args := #[X], argTypes := #[t] }, t2, pos, after, guard⟩ (.raw (.int .i64 (n : Int))) := by
  have h := zbm (P := P) (R0 := R0) (H := H) (dst := dst) (pos := pos) (after := after) (guard := guard) (t2 := t2) (hu := hu) (hi := hi) hx
  rw [tab_length] at h
  exact h
theorem zbs {R0 : World → Prop} {n : Nat} {f : Int → FV} {X I : Operand} {i : Int} {t : TypeId} {b : Nat} {z : Value} {el : TypeId} [hu : TyU P t (.slice el)] [hi : TyI P el z 1 b]
    (hx : e.ev X = some (AV.sl w0 1 ((tab n f).map (AV.f .f32)))) (hI : e.ev I = some (.raw (.int .i64 i))) (h0 : 0 ≤ i) (hlt : i < (n : Int)) :
    OpJ P (StR R0 w0 [] H) e ⟨dst, .indexAddr t X I, ty, pos, after, guard⟩ (AV.ptr [.f .f32 (f i)]) := by
  have h := zbv (P := P) (R0 := R0) (H := H) (dst := dst) (ty := ty) (pos := pos) (after := after) (guard := guard) (hu := hu) (hi := hi) hx hI h0 (by rw [tab_length]; exact hlt)
  have hg : (tab n f).getD i.toNat default = f i := at_tab h0 hlt
  rw [hg] at h
  exact h
/-- A call that turns the owned block at some place. -/
theorem rs_callAt (k : Nat) {X : Type} {A : World → List AV} {mk : X → AV} {good : X → Prop} {c : FuncId} {xs : List Operand} {F : Operand} {args : List AV} {d : Tmp} {ts : Array TypeId} [hb : HasBody P c] {en : Ent} {en' : X → Ent}
    (hc : FnH P c A [en] mk (fun y => [en' y]) good) (hH : H[k]? = some en) (hF : e.ev F = some (.raw (.func (.func c) #[] #[]))) (hx : evL e xs = some args) (ht : Takes (StR R w0 gs H) args A) (hd : Nat.blt d N = true)
    (h : ∀ y, good y → RS P N ops l ((d, mk y) :: e.keep) (StR R w0 gs (H.set k (en' y))) Q) :
    RS P N ops (⟨some d, .call { callee := .value F, args := xs.toArray, argTypes := ts }, ty, pos, after, none⟩ :: l) e (StR R w0 gs H) Q := by
  obtain ⟨hlt, hen⟩ := List.getElem?_eq_some_iff.1 hH
  have hp : (en :: H.eraseIdx k).Perm H := by
    have := erase_perm hlt
    rw [hen] at this
    exact this
  refine RS.perm (rs_call (pre := [en]) (H := H.eraseIdx k) hc hF hx (fun w vs hS hr => ht w vs (hS.perm hp.symm) hr) hd fun y hy => ?_) hp
  refine RS.perm (h y hy) ?_
  have hlt' : k < (H.set k (en' y)).length := by simpa using hlt
  have hp' := erase_perm hlt'
  rw [List.getElem_set_self, List.eraseIdx_set_eq] at hp'
  exact hp'.symm
theorem zae {t : TypeId} {X : Operand} (h : RS P N ops (⟨dst, .load t X, ty, pos, after, guard⟩ :: l) e S Q) : RS P N ops (⟨dst, .load t X, ty, pos, after, guard⟩ :: l) e S Q := h
theorem zaf {t : TypeId} {X I : Operand} (h : RS P N ops (⟨dst, .indexAddr t X I, ty, pos, after, guard⟩ :: l) e S Q) : RS P N ops (⟨dst, .indexAddr t X I, ty, pos, after, guard⟩ :: l) e S Q := h
theorem zag {t : TypeId} {X Y : Operand} (h : RS P N ops (⟨dst, .store t X Y, ty, pos, after, guard⟩ :: l) e S Q) : RS P N ops (⟨dst, .store t X Y, ty, pos, after, guard⟩ :: l) e S Q := h
theorem zat {K : Env → Prop} {t : TypeId} {X : Operand} (h : Run1 P N S ops (⟨dst, .load t X, ty, pos, after, guard⟩ :: l) e K) : Run1 P N S ops (⟨dst, .load t X, ty, pos, after, guard⟩ :: l) e K := h
theorem zau {K : Env → Prop} {t : TypeId} {X I : Operand} (h : Run1 P N S ops (⟨dst, .indexAddr t X I, ty, pos, after, guard⟩ :: l) e K) : Run1 P N S ops (⟨dst, .indexAddr t X I, ty, pos, after, guard⟩ :: l) e K := h
theorem Takes.ownE {R0 : World → Prop} {g n cap sz : Nat} {xs : List AV} {args : List AV} {A : World → List AV} (hm : ∃ T c, (⟨g, T, xs, c⟩ : Ent) ∈ H) (hn : xs.length = n * sz) (hc : n ≤ cap) (hx : cap ≤ maxLen) (h : Takes (StR R0 w0 gs H) args A) :
    Takes (StR R0 w0 gs H) (.raw (.slice (some ⟨g, 0, none⟩) n cap) :: args) (fun w => AV.sl w sz xs :: A w) := by
  obtain ⟨T, c, hm⟩ := hm
  exact Takes.own hm hn hc hx h
end
end Go.Ab
namespace Go.Ab
def drawOk1 (ops : Array Oper) (n : Nat) : Bool :=
  (match ops[n]? with
    | some o => o.dst.isNone && o.guard.isNone && (looks ops o).all (fun t => (List.range n).all fun j => gslot ops j != some t || ((Region.before ops).getD n 0).testBit j)
    | none => false) &&
  (List.range n).all (fun i => match ops[i]? with
    | some o => o.dst.isSome && (List.range n).all (fun j => j == i || gslot ops j != o.dst) &&
        (looks ops o).all (fun t => (List.range n).all fun j => gslot ops j != some t || (decide (j < i) && (directs o).contains j))
    | none => false) &&
  (List.range ops.size).all (fun k => decide (k < n + 1) || (List.range k).all fun i => ((Region.before ops).getD k 0).testBit i) &&
  (List.range ops.size).all (fun k => match ops[k]? with
    | some o => (directs o).all fun j => decide (j < k)
    | none => false)
/-- What a late operation looks at is told without a world. -/
def stillAt (e : Env) (t : Nat) : Bool := match e.look t with
  | some v => v.still
  | none => true
def lateStill (ops : Array Oper) (n : Nat) (e : Env) : Bool :=
  (List.range n).all fun i => ((Region.before ops).getD n 0).testBit i || (match ops[i]? with
    | some o => (looks ops o).all (stillAt e)
    | none => true)
/-- An operation that turns the world and gives nothing. -/
def EffJ (P : Program) (S0 S1 : World → Prop) (e : Env) (o : Oper) : Prop :=
  ∀ (a : Act) (w : World) (K : Act → World → Prop) (Q : Exit → Act → World → Prop), S0 w →
    (∀ x ∈ o.op.operands.toList, ∀ y, e.ev x = some y → Rel w y (a.eval x)) →
    (∀ w', S1 w' → K a w') → o.wp P a w K Q

def kp (v : AV) : AV := v.keep
theorem kp_still {v : AV} (h : v.still = true) : kp v = v := AV.keep_still h
theorem rel_kp {w : World} {v : AV} {u : Value} (h : Rel w v u) : Rel w (kp v) u := by
  unfold kp
  cases hs : v.still with
  | true => rw [AV.keep_still hs]; exact h
  | false => rw [AV.keep_not hs]; exact .q trivial
theorem rel_kp_any {w w' : World} {v : AV} {u : Value} (h : Rel w v u) : Rel w' (kp v) u := by
  unfold kp
  cases hs : v.still with
  | true => rw [AV.keep_still hs]; exact h.any hs
  | false => rw [AV.keep_not hs]; exact .q trivial
theorem look_keep_kp : ∀ (e : Env) (t : Nat), e.keep.look t = (e.look t).map kp
  | [], _ => rfl
  | (d, v) :: r, t => by
    simp only [Env.keep, Env.look]
    cases Nat.beq d t with
    | true => rfl
    | false => exact look_keep_kp r t

section
variable {P : Program} {N : Nat} {S S0 S1 W : World → Prop} {e : Env} {Q : Exit → Env → World → Prop} {ops : Array Oper} {l : List Oper} {o : Oper}
/-- What holds while the operations of a region come. -/
structure DI (N : Nat) (ops : Array Oper) (ps : List (Nat × AV)) (e : Env) (S : World → Prop) (κ : AV → AV) (L : Array Bool) (a : Act) (w : World) : Prop where
  hL : L.size = ops.size
  hd : Down ops L
  hS : S w
  df : a.defers = []
  sz : a.tmps.size = N
  vals : ∀ i p, ps[i]? = some p → Listed L i → ∃ u, a.tmps[p.1]? = some u ∧ Rel w (κ p.2) u
  base : ∀ t v, t ∉ ps.map (·.1) → e.look t = some v → ∃ u, a.tmps[t]? = some u ∧ Rel w (κ v) u

theorem DI.pure_step {ps : List (Nat × AV)} {n : Nat} [Cl S] [Cl W] {κ : AV → AV} {Q' : Exit → Act → World → Prop} {K : Act → World → Prop} (hlen : ps.length = n) (hnops : n ≤ ops.size)
    (hκ : ∀ w v u, Rel w v u → Rel w (κ v) u) (hSW : ∀ w, S w → W w)
    (hop : ∀ i, i < n → ∃ o p, ops[i]? = some o ∧ ps[i]? = some p ∧ o.dst = some p.1 ∧ p.1 < N ∧ OpG P W ops (after1 (ps.take i) e) o p.2)
    (hslot : ∀ i p, ps[i]? = some p → gslot ops i = some p.1)
    (hfirst : ∀ i o, i < n → ops[i]? = some o → (∃ d, o.dst = some d) ∧ (∀ j, j < n → j ≠ i → gslot ops j ≠ o.dst) ∧ ∀ t ∈ looks ops o, ∀ j, j < n → gslot ops j = some t → j < i ∧ j ∈ directs o)
    {L : Array Bool} {a : Act} {w : World} (hI : DI N ops ps e S κ L a w) {i : Nat} (hi : i ∈ Region.ready .any ops L) (hin : i < n)
    (hk : ∀ o, ops[i]? = some o → ∀ t ∈ looks ops o, ∀ v, (after1 (ps.take i) e).look t = some v → κ v = v)
    (hK : ∀ a' w', DI N ops ps e S κ (L.setIfInBounds i true) a' w' → K a' w') : wpOp P ops Q' i K a w := by
  obtain ⟨hL, hd, hSw, hdf, hsz, hps, hbase⟩ := hI
  obtain ⟨h1, h2, h3⟩ := (ready_iff hL i).1 hi
  obtain ⟨o, p, ho, hp, hdst, hpN, hG⟩ := hop i hin
  obtain ⟨_, huniq, hlook⟩ := hfirst i o hin ho
  have hlk : ∀ t, t ∈ looks ops o → ∀ v, (after1 (ps.take i) e).look t = some v → ∃ u, a.tmps[t]? = some u ∧ Rel w v u := fun t ht v hv => by
    have hkv := hk o ho t ht v hv
    unfold after1 at hv
    rw [look_append] at hv
    cases hl : Env.look (ps.take i).reverse t with
    | some x =>
      simp only [hl, Option.some.injEq] at hv; subst hv
      obtain ⟨j, hj⟩ := List.mem_iff_getElem?.1 (List.mem_reverse.1 (look_mem _ _ _ hl))
      rw [List.getElem?_take] at hj
      split at hj
      · rename_i hji
        obtain ⟨_, hjd⟩ := hlook t ht j (by omega) (hslot j _ hj)
        obtain ⟨u, hu, hr⟩ := hps j _ hj (h3 o ho j hjd)
        exact ⟨u, hu, by simp only [hkv] at hr; exact hr⟩
      · cases hj
    | none =>
      simp only [hl] at hv
      obtain ⟨u, hu, hr⟩ := hbase t v (fun hm' => by
        obtain ⟨q, hq, hqt⟩ := List.mem_map.1 hm'
        obtain ⟨j, hj⟩ := List.mem_iff_getElem?.1 hq
        have hjn : j < n := by rw [← hlen]; exact (List.getElem?_eq_some_iff.1 hj).1
        have hjt : gslot ops j = some t := by rw [hslot j q hj, ← hqt]
        obtain ⟨hji, _⟩ := hlook t ht j hjn hjt
        have hnone := (look_none_iff _ _).1 hl
        apply hnone
        rw [List.map_reverse, List.mem_reverse]
        exact List.mem_map.2 ⟨q, List.mem_iff_getElem?.2 ⟨j, by rw [List.getElem?_take, if_pos hji]; exact hj⟩, hqt⟩) hv
      exact ⟨u, hu, by rw [hkv] at hr; exact hr⟩
  have hoper : ∀ x ∈ o.op.operands.toList, ∀ y, (after1 (ps.take i) e).ev x = some y → Rel w y (a.eval x) := fun x hx y hy => by
    cases x with
    | tmp t =>
      obtain ⟨u, hu, hr⟩ := hlk t (List.mem_append_left _ (List.mem_filterMap.2 ⟨_, hx, rfl⟩)) y hy
      have : a.eval (.tmp t) = u := by simp [Act.eval, hu]
      rw [this]; exact hr
    | const c =>
      simp only [Env.ev] at hy
      split at hy
      · rename_i hc; cases hy; exact rel_cv w c hc
      · cases hy
    | global g => cases hy; exact .raw
    | func f => cases hy; exact .raw
  have next : ∀ u w', Ext w w' → Rel w' p.2 u → K (a.put o.dst u) w' := fun u w' hw hr => by
    have hiL : i < L.size := by omega
    refine hK _ _ ⟨by simpa using hL, fun k x hx hk j hj => ?_, Cl.ext hSw hw, by simp [hdst, Act.put, hdf], by simp [hdst, Act.put, hsz], fun j q hq hj => ?_, fun t v ht hv => ?_⟩
    · rw [listed_set hiL]
      rcases (listed_set hiL).1 hk with rfl | hk
      · exact .inr (h3 x hx j hj)
      · exact .inr (hd k x hx hk j hj)
    · by_cases hji : j = i
      · subst hji
        rw [hp] at hq; cases hq
        exact ⟨u, by simp [hdst, Act.put, hsz, hpN], hκ _ _ _ hr⟩
      · have hjn : j < n := by rw [← hlen]; exact (List.getElem?_eq_some_iff.1 hq).1
        have hne : p.1 ≠ q.1 := fun he => huniq j hjn hji (by rw [hslot j q hq, hdst, he])
        obtain ⟨y, hy, hry⟩ := hps j q hq (((listed_set hiL).1 hj).resolve_left hji)
        exact ⟨y, by simp [hdst, Act.put, Array.getElem?_setIfInBounds_ne hne, hy], hry.ext hw⟩
    · have hne : p.1 ≠ t := fun he => ht (List.mem_map.2 ⟨p, List.mem_of_getElem? hp, he⟩)
      obtain ⟨y, hy, hry⟩ := hbase t v ht hv
      exact ⟨y, by simp [hdst, Act.put, Array.getElem?_setIfInBounds_ne hne, hy], hry.ext hw⟩
  unfold wpOp
  simp only [ho]
  have hWw := hSW w hSw
  unfold OpG at hG
  cases hgd : o.guard with
  | none =>
    simp only [hgd] at hG
    rw [if_pos (by simp [Region.wanted, hgd])]
    exact .inl (hG a w _ _ hWw hoper next)
  | some jb =>
    obtain ⟨j, b⟩ := jb
    simp only [hgd] at hG
    obtain ⟨y, c, hy, hc, hcase⟩ := hG
    obtain ⟨u, hu, hru⟩ := hlk y (List.mem_append_right _ (by simp [hgd, hy])) _ hc
    have hub := hru.inv_raw
    subst hub
    have hyield : yielded ops a.tmps j = some c := by
      unfold yielded
      rw [show ((ops[j]?).bind (·.dst)) = some y from hy]
      simp [hu]
    rcases hcase with ⟨rfl, hJ⟩ | ⟨hne, hv⟩
    · rw [if_pos (by simp [Region.wanted, hgd, hyield])]
      exact .inl (hJ a w _ _ hWw hoper next)
    · rw [if_neg (by simpa [Region.wanted, hgd, hyield] using hne)]
      exact next undef w (Ext.refl _) (by rw [hv]; exact .raw)

/-- The least that is not listed is ready. -/
theorem ready_ne {L : Array Bool} (hL : L.size = ops.size) (hback : ∀ k o, ops[k]? = some o → ∀ j ∈ directs o, j < k) {i : Nat} (hi : i < ops.size) (hn : ¬ Listed L i) : Region.ready .any ops L ≠ [] := by
  have hmin : ∀ m, (∃ i, i < m ∧ i < ops.size ∧ ¬ Listed L i) → ∃ i, i < ops.size ∧ ¬ Listed L i ∧ ∀ j, j < i → Listed L j := by
    intro m
    induction m with
    | zero => rintro ⟨i, hi, _⟩; omega
    | succ m ihm =>
      rintro ⟨i, hi, hin, hil⟩
      by_cases h' : ∃ i, i < m ∧ i < ops.size ∧ ¬ Listed L i
      · exact ihm h'
      · refine ⟨i, hin, hil, fun j hj => ?_⟩
        false_or_by_contra
        rename_i hjl
        exact h' ⟨j, by omega, by omega, hjl⟩
  obtain ⟨i, hin, hil, hjs⟩ := hmin (i + 1) ⟨i, by omega, hi, hn⟩
  have : i ∈ Region.ready .any ops L := (ready_iff hL i).2 ⟨hin, hil, fun o ho j hj => hjs j (hback i o ho j hj)⟩
  intro hnil
  rw [hnil] at this
  simp at this

theorem unL_tail {L : Array Bool} {n fuel : Nat} (hL : L.size = ops.size) (hno : ∀ k, n ≤ k → ¬ Listed L k) (hu : unL L ≤ fuel) : ops.size ≤ n + fuel := by
  have : ops.size - n ≤ unL L := by
    unfold unL
    have h1 : (L.toList.drop n).count false = ops.size - n := by
      have hall2 : ∀ x ∈ L.toList.drop n, x = false := fun x hx => by
        obtain ⟨j, hj⟩ := List.mem_iff_getElem?.1 hx
        rw [List.getElem?_drop] at hj
        have hnl := hno (n + j) (by omega)
        unfold Listed at hnl
        rw [Array.getD_eq_getD_getElem?] at hnl
        have hj' : L[n + j]? = some x := by simpa using hj
        rw [hj'] at hnl
        cases x <;> simp_all
      rw [List.count_eq_length.2 (fun b hb => (hall2 b hb).symm)]
      simp [hL]
    rw [← h1]
    exact (List.drop_sublist n L.toList).count_le false
  omega

end
end Go.Ab
namespace Go.Ab
def drawOkV (ops : Array Oper) (n d : Nat) : Bool :=
  (match ops[n]? with
    | some o => o.dst == some d && o.guard.isNone && (looks ops o).all (fun t => (List.range n).all fun j => gslot ops j != some t || ((Region.before ops).getD n 0).testBit j)
    | none => false) &&
  (List.range n).all (fun j => gslot ops j != some d) &&
  (List.range n).all (fun i => match ops[i]? with
    | some o => o.dst.isSome && (List.range n).all (fun j => j == i || gslot ops j != o.dst) &&
        (looks ops o).all (fun t => (List.range n).all fun j => gslot ops j != some t || (decide (j < i) && (directs o).contains j))
    | none => false) &&
  (List.range ops.size).all (fun k => decide (k < n + 1) || (List.range k).all fun i => ((Region.before ops).getD k 0).testBit i) &&
  (List.range ops.size).all (fun k => match ops[k]? with
    | some o => (directs o).all fun j => decide (j < k)
    | none => false)

/-- An operation that turns the world and gives a value. -/
def EffV (P : Program) (S0 S1 : World → Prop) (c : Value) (e : Env) (o : Oper) : Prop :=
  ∀ (a : Act) (w : World) (K : Act → World → Prop) (Q : Exit → Act → World → Prop), S0 w →
    (∀ x ∈ o.op.operands.toList, ∀ y, e.ev x = some y → Rel w y (a.eval x)) →
    (∀ w', S1 w' → K (a.put o.dst c) w') → o.wp P a w K Q
section
variable {P : Program} {N : Nat} {S S0 S1 W : World → Prop} {e : Env} {Q : Exit → Env → World → Prop} {ops : Array Oper} {l : List Oper} {o : Oper}
theorem ev_sub {e e' : Env} (h : Env.sub e e') {x : Operand} {y : AV} (hx : e.ev x = some y) : e'.ev x = some y := by
  cases x with
  | tmp t => exact h t y hx
  | const c => exact hx
  | global g => exact hx
  | func f => exact hx
theorem opJ_sub {e e' : Env} (h : Env.sub e e') {v : AV} (hj : OpJ P S e o v) : OpJ P S e' o v := fun a w K Q hS ho hK => hj a w K Q hS (fun x hx y hy => ho x hx y (ev_sub h hy)) hK
theorem opG_sub {e e' : Env} (h : Env.sub e e') {v : AV} (hj : OpG P S ops e o v) : OpG P S ops e' o v := by
  unfold OpG at hj ⊢
  cases hg : o.guard with
  | none => simp only [hg] at hj ⊢; exact opJ_sub h hj
  | some jb =>
    obtain ⟨j, b⟩ := jb
    simp only [hg] at hj ⊢
    obtain ⟨y, c, h1, h2, h3⟩ := hj
    refine ⟨y, c, h1, h y _ h2, ?_⟩
    rcases h3 with ⟨h3, h4⟩ | h3
    · exact .inl ⟨h3, opJ_sub h h4⟩
    · exact .inr h3
theorem drawOkV_spec {n d : Nat} (h : drawOkV ops n d = true) : (∃ o, ops[n]? = some o ∧ o.dst = some d ∧ o.guard = none ∧ ∀ t ∈ looks ops o, ∀ j, j < n → gslot ops j = some t → Must ops j n) ∧ (∀ j, j < n → gslot ops j ≠ some d) ∧
    (∀ i o, i < n → ops[i]? = some o → (∃ d, o.dst = some d) ∧ (∀ j, j < n → j ≠ i → gslot ops j ≠ o.dst) ∧ ∀ t ∈ looks ops o, ∀ j, j < n → gslot ops j = some t → j < i ∧ j ∈ directs o) ∧
    (∀ k i, n + 1 ≤ k → k < ops.size → i < k → Must ops i k) ∧ (∀ k o, ops[k]? = some o → ∀ j ∈ directs o, j < k) := by
  unfold drawOkV at h
  simp only [Bool.and_eq_true, List.all_eq_true, List.mem_range] at h
  obtain ⟨⟨⟨⟨h1, h0⟩, h2⟩, h3⟩, h4⟩ := h
  refine ⟨?_, fun j hj => by simpa using h0 j hj, fun i o hi ho => ?_, fun k i hk hks hik => ?_, fun k o ho j hj => ?_⟩
  · cases ho : ops[n]? with
    | none => simp [ho] at h1
    | some o =>
      simp only [ho, Bool.and_eq_true, List.all_eq_true, List.mem_range, Bool.or_eq_true, bne_iff_ne, Option.isNone_iff_eq_none, beq_iff_eq] at h1
      obtain ⟨⟨ha, hb⟩, hc⟩ := h1
      exact ⟨o, rfl, ha, hb, fun t ht j hj hg => before_must ops n j ((hc t ht j hj).resolve_left fun hne => hne hg)⟩
  · have := h2 i hi
    simp only [ho, Bool.and_eq_true, List.all_eq_true, List.mem_range, Bool.or_eq_true, beq_iff_eq, bne_iff_ne, decide_eq_true_eq, List.contains_iff_mem] at this
    obtain ⟨⟨ha, hb⟩, hc⟩ := this
    refine ⟨Option.isSome_iff_exists.1 ha, fun j hj hji => (hb j hj).resolve_left hji, fun t ht j hj hg => ?_⟩
    exact (hc t ht j hj).resolve_left (fun hne => hne hg)
  · have := h3 k hks
    simp only [Bool.or_eq_true, decide_eq_true_eq, List.all_eq_true, List.mem_range] at this
    exact before_must ops k i ((this.resolve_left (by omega)) i hik)
  · have hk : k < ops.size := (Array.getElem?_eq_some_iff.1 ho).1
    have := h4 k hk
    simp only [ho, List.all_eq_true, decide_eq_true_eq] at this
    exact this j hj

theorem ws_drawV {n rid d : Nat} (c : Value) [Cl W] [Cl S0] [Cl S1] (hm : P.follows .mixedOrders = true) (hchk : drawOkV ops n d = true) (hdN : Nat.blt d N = true) (hfr : e.look d = none) (hW0 : ∀ w, S0 w → W w) (hW1 : ∀ w, S1 w → W w)
    (h : Run1 P N W ops (ops.toList.take n) e (fun e' => lateStill ops n e' = true ∧ (∀ o, ops[n]? = some o → EffV P S0 S1 c e' o) ∧ RS P N ops (ops.toList.drop (n + 1)) ((d, .raw c) :: e'.keep) S1 Q)) : WS P N (.region rid ops true) e S0 Q := by
  obtain ⟨⟨on, hon, hodst, hogd, holk⟩, hnd, hfirst, hmust, hback⟩ := drawOkV_spec hchk
  have hn : n < ops.size := (Array.getElem?_eq_some_iff.1 hon).1
  obtain ⟨ps, hlen, ⟨hstill, hE, hR⟩, hall⟩ := run1_spec h
  have hlen' : ps.length = n := by rw [hlen]; simp; omega
  have hop : ∀ i, i < n → ∃ o p, ops[i]? = some o ∧ ps[i]? = some p ∧ o.dst = some p.1 ∧ p.1 < N ∧ OpG P W ops (after1 (ps.take i) e) o p.2 := fun i hi => by
    have ho : ops[i]? = some (ops[i]'(by omega)) := by simp
    have hp : ps[i]? = some (ps[i]'(by omega)) := by simp
    obtain ⟨h1, h2, h3⟩ := hall i (ops[i]'(by omega)) (ps[i]'(by omega)) (by rw [List.getElem?_take, if_pos hi]; simp) hp
    exact ⟨_, _, ho, hp, h1, h2, h3⟩
  have hslot : ∀ i p, ps[i]? = some p → gslot ops i = some p.1 := fun i p hp => by
    have hi : i < n := by rw [← hlen']; exact (List.getElem?_eq_some_iff.1 hp).1
    obtain ⟨o, p', ho, hp', hd, _⟩ := hop i hi
    rw [hp'] at hp; cases hp
    simp [gslot, ho, hd]
  have hdps : ∀ q ∈ ps, q.1 ≠ d := fun q hq he => by
    obtain ⟨j, hj⟩ := List.mem_iff_getElem?.1 hq
    exact hnd j (by rw [← hlen']; exact (List.getElem?_eq_some_iff.1 hj).1) (by rw [hslot j q hj, he])
  have hsubE : Env.sub e ((d, .raw c) :: e) := fun t v ht => by
    simp only [Env.look]
    cases hb : Nat.beq d t with
    | true => rw [← Nat.eq_of_beq_eq_true hb, hfr] at ht; cases ht
    | false => exact ht
  have hsubA : ∀ l : List (Nat × AV), Env.sub (after1 l e) (after1 l ((d, .raw c) :: e)) := fun l t v ht => by
    unfold after1 at ht ⊢
    rw [look_append] at ht ⊢
    cases hl : Env.look l.reverse t with
    | some x => simp only [hl] at ht ⊢; exact ht
    | none => simp only [hl] at ht ⊢; exact hsubE t v ht
  have hop1 : ∀ i, i < n → ∃ o p, ops[i]? = some o ∧ ps[i]? = some p ∧ o.dst = some p.1 ∧ p.1 < N ∧ OpG P W ops (after1 (ps.take i) ((d, .raw c) :: e)) o p.2 := fun i hi => by
    obtain ⟨o, p, h1, h2, h3, h4, h5⟩ := hop i hi
    exact ⟨o, p, h1, h2, h3, h4, opG_sub (hsubA _) h5⟩
  -- what a frame with all listed is
  have hfull : ∀ (S : World → Prop) (κ : AV → AV) (L : Array Bool) (a : Act) (w : World), DI N ops ps ((d, .raw c) :: e) S κ L a w → (∀ i, i < n → Listed L i) → ∀ t v, (after1 ps ((d, .raw c) :: e)).look t = some v → ∃ u, a.tmps[t]? = some u ∧ Rel w (κ v) u := fun S κ L a w hI hal t v ht => by
    unfold after1 at ht
    rw [look_append] at ht
    cases hl : Env.look ps.reverse t with
    | some x =>
      simp only [hl, Option.some.injEq] at ht; subst ht
      obtain ⟨i, hi⟩ := List.mem_iff_getElem?.1 (List.mem_reverse.1 (look_mem _ _ _ hl))
      exact hI.vals i _ hi (hal i (by have := (List.getElem?_eq_some_iff.1 hi).1; omega))
    | none =>
      simp only [hl] at ht
      exact hI.base t v (by have := (look_none_iff _ _).1 hl; simpa using this) ht
  have hfin : ∀ (L : Array Bool) (a : Act) (w : World), DI N ops ps ((d, .raw c) :: e) S1 kp L a w → (∀ i, i < n → Listed L i) → ∀ t v, Env.look ((d, .raw c) :: (after1 ps e).keep) t = some v → ∃ u, a.tmps[t]? = some u ∧ Rel w v u := fun L a w hI hal t v ht => by
    have hd1 : (after1 ps ((d, .raw c) :: e)).look d = some (.raw c) := by
      unfold after1
      rw [look_append]
      have : Env.look ps.reverse d = none := by
        rw [look_none_iff]
        intro hm'
        rw [List.map_reverse, List.mem_reverse] at hm'
        obtain ⟨q, hq, hqd⟩ := List.mem_map.1 hm'
        exact hdps q hq hqd
      rw [this]
      simp only [Env.look, Nat.beq_refl]
    simp only [Env.look] at ht
    cases hb : Nat.beq d t with
    | true =>
      simp only [hb, Option.some.injEq] at ht
      subst ht
      rw [← Nat.eq_of_beq_eq_true hb]
      obtain ⟨u, hu, hr⟩ := hfull _ _ _ _ _ hI hal d _ hd1
      exact ⟨u, hu, by rw [kp_still rfl] at hr; exact hr⟩
    | false =>
      simp only [hb] at ht
      rw [look_keep_kp] at ht
      obtain ⟨x, hx, rfl⟩ := Option.map_eq_some_iff.1 ht
      exact hfull _ _ _ _ _ hI hal t x (hsubA ps t x hx)
  -- behind the store
  have key1 : ∀ (fuel : Nat) (L : Array Bool) (a : Act) (w : World), DI N ops ps ((d, .raw c) :: e) S1 kp L a w → Listed L n → (∀ k, n + 1 ≤ k → ¬ Listed L k) → unL L ≤ fuel →
      wpAny P .any ops (fun x a' w' => ∃ e', Fr N e' a' w' ∧ Q x e' w') fuel L a w := by
    intro fuel
    induction fuel with
    | zero =>
      intro L a w hI hln hno hu
      have hal : ∀ i, i < n → Listed L i := fun i hi => unL_zero (by omega) (by rw [hI.hL]; omega)
      refine wpAny_tail (P := P) (n := n + 1) hmust hback 0 (n + 1) L a w (Nat.le_refl _) hn hI.hL (fun i => ⟨fun h => ?_, fun h => ?_⟩) (unL_tail hI.hL hno hu) (hR a w hI.hS ⟨hI.df, hI.sz, fun t v ht => ?_⟩)
      · rcases Nat.lt_or_ge i (n + 1) with h' | h'
        · exact h'
        · exact absurd h (hno i h')
      · rcases Nat.lt_or_ge i n with h' | h'
        · exact hal i h'
        · have : i = n := by omega
          subst this; exact hln
      · exact hfin _ _ _ hI hal t v ht
    | succ fuel ih =>
      intro L a w hI hln hno hu
      by_cases hal : ∀ i, i < n → Listed L i
      · refine wpAny_tail (P := P) (n := n + 1) hmust hback (fuel + 1) (n + 1) L a w (Nat.le_refl _) hn hI.hL (fun i => ⟨fun h => ?_, fun h => ?_⟩) (unL_tail hI.hL hno hu) (hR a w hI.hS ⟨hI.df, hI.sz, fun t v ht => ?_⟩)
        · rcases Nat.lt_or_ge i (n + 1) with h' | h'
          · exact h'
          · exact absurd h (hno i h')
        · rcases Nat.lt_or_ge i n with h' | h'
          · exact hal i h'
          · have : i = n := by omega
            subst this; exact hln
        · exact hfin _ _ _ hI hal t v ht
      · have hex : ∃ i, i < n ∧ ¬ Listed L i := by
          false_or_by_contra
          rename_i hc
          exact hal fun i hi => by
            false_or_by_contra
            rename_i hn'
            exact hc ⟨i, hi, hn'⟩
        obtain ⟨i0, hi0, hil0⟩ := hex
        refine ⟨fun hnil => absurd hnil (ready_ne hI.hL hback (by omega) hil0), fun i hi => ?_⟩
        obtain ⟨h1, h2, h3⟩ := (ready_iff hI.hL i).1 hi
        have hin : i < n := by
          rcases Nat.lt_or_ge i n with h' | h'
          · exact h'
          · rcases Nat.eq_or_lt_of_le h' with h' | h'
            · subst h'; exact absurd hln h2
            · exact absurd (fun j hj => (hmust i j (by omega) h1 (by omega)).listed hI.hd h3) hal
        have hlate : ((Region.before ops).getD n 0).testBit i = false := by
          cases hb : ((Region.before ops).getD n 0).testBit i with
          | false => rfl
          | true => exact absurd ((before_must ops n i hb).listed hI.hd fun o ho j hj => hI.hd n o ho hln j hj) h2
        refine DI.pure_step (n := n) hlen' (by omega) (fun _ _ _ h => rel_kp h) hW1 hop1 hslot hfirst hI hi hin (fun o ho t ht v hv => ?_) (fun a' w' hI' => ?_)
        · unfold lateStill at hstill
          simp only [List.all_eq_true, List.mem_range, Bool.or_eq_true] at hstill
          have := (hstill i hin).resolve_left (by rw [hlate]; simp)
          simp only [ho, List.all_eq_true] at this
          have hs := this t ht
          -- later operations do not write what is looked at
          have hl2 : (after1 ps ((d, .raw c) :: e)).look t = some v := by
            unfold after1 at hv ⊢
            rw [look_append] at hv ⊢
            have hsame : Env.look ps.reverse t = Env.look (ps.take i).reverse t := by
              have hsplit : ps.reverse = (ps.drop i).reverse ++ (ps.take i).reverse := by rw [← List.reverse_append, List.take_append_drop]
              rw [hsplit, look_append]
              have : Env.look (ps.drop i).reverse t = none := by
                rw [look_none_iff]
                intro hm'
                rw [List.map_reverse, List.mem_reverse] at hm'
                obtain ⟨q, hq, hqt⟩ := List.mem_map.1 hm'
                obtain ⟨j, hj⟩ := List.mem_iff_getElem?.1 hq
                rw [List.getElem?_drop] at hj
                have hjn : i + j < n := by rw [← hlen']; exact (List.getElem?_eq_some_iff.1 hj).1
                have := ((hfirst i o hin ho).2.2 t ht (i + j) hjn (by rw [hslot _ q hj, ← hqt])).1
                omega
              rw [this]
            rw [hsame]
            exact hv
          unfold after1 at hl2
          rw [look_append] at hl2
          unfold stillAt after1 at hs
          rw [look_append] at hs
          cases hl : Env.look ps.reverse t with
          | some x =>
            simp only [hl] at hl2 hs
            cases hl2
            exact kp_still hs
          | none =>
            simp only [hl, Env.look] at hl2 hs
            cases hb : Nat.beq d t with
            | true =>
              simp only [hb, Option.some.injEq] at hl2
              subst hl2
              exact kp_still rfl
            | false =>
              simp only [hb] at hl2
              rw [hl2] at hs
              exact kp_still hs
        · have hiL : i < L.size := by rw [hI.hL]; omega
          refine ih _ a' w' hI' ((listed_set hiL).2 (.inr hln)) (fun k hk hk' => ?_) (by have := unL_set hiL h2; omega)
          rcases (listed_set hiL).1 hk' with rfl | hk'
          · omega
          · exact hno k hk hk'
  -- ahead of the store
  have key0 : ∀ (fuel : Nat) (L : Array Bool) (a : Act) (w : World), DI N ops ps e S0 id L a w → (∀ k, n ≤ k → ¬ Listed L k) → unL L ≤ fuel →
      wpAny P .any ops (fun x a' w' => ∃ e', Fr N e' a' w' ∧ Q x e' w') fuel L a w := by
    intro fuel
    induction fuel with
    | zero =>
      intro L a w hI hno hu
      exact absurd (unL_zero (by omega) (by rw [hI.hL]; exact hn)) (hno n (Nat.le_refl _))
    | succ fuel ih =>
      intro L a w hI hno hu
      refine ⟨fun hnil => absurd hnil (ready_ne hI.hL hback hn (hno n (Nat.le_refl _))), fun i hi => ?_⟩
      obtain ⟨h1, h2, h3⟩ := (ready_iff hI.hL i).1 hi
      have hiL : i < L.size := by rw [hI.hL]; omega
      rcases Nat.lt_or_ge i n with hin | hin
      · refine DI.pure_step (n := n) hlen' (by omega) (fun _ _ _ h => h) hW0 hop hslot hfirst hI hi hin (fun _ _ _ _ _ _ => rfl) (fun a' w' hI' => ?_)
        refine ih _ a' w' hI' (fun k hk hk' => ?_) (by have := unL_set hiL h2; omega)
        rcases (listed_set hiL).1 hk' with rfl | hk'
        · omega
        · exact hno k hk hk'
      · rcases Nat.eq_or_lt_of_le hin with h' | h'
        · subst h'
          unfold wpOp
          simp only [hon]
          rw [if_pos (by simp [Region.wanted, hogd])]
          refine .inl (hE on hon a w _ _ hI.hS (fun x hx y hy => ?_) (fun w' hS1 => ?_))
          · cases x with
            | tmp t =>
              have ht : t ∈ looks ops on := List.mem_append_left _ (List.mem_filterMap.2 ⟨_, hx, rfl⟩)
              have : ∃ u, a.tmps[t]? = some u ∧ Rel w y u := by
                have hy' : (after1 ps e).look t = some y := hy
                unfold after1 at hy'
                rw [look_append] at hy'
                cases hl : Env.look ps.reverse t with
                | some x =>
                  simp only [hl, Option.some.injEq] at hy'; subst hy'
                  obtain ⟨j, hj⟩ := List.mem_iff_getElem?.1 (List.mem_reverse.1 (look_mem _ _ _ hl))
                  have hjn : j < n := by rw [← hlen']; exact (List.getElem?_eq_some_iff.1 hj).1
                  exact hI.vals j _ hj ((holk t ht j hjn (hslot j _ hj)).listed hI.hd h3)
                | none =>
                  simp only [hl] at hy'
                  exact hI.base t y (by have := (look_none_iff _ _).1 hl; simpa using this) hy'
              obtain ⟨u, hu', hr⟩ := this
              have : a.eval (.tmp t) = u := by simp [Act.eval, hu']
              rw [this]; exact hr
            | const c =>
              simp only [Env.ev] at hy
              split at hy
              · rename_i hc; cases hy; exact rel_cv w c hc
              · cases hy
            | global g => cases hy; exact .raw
            | func f => cases hy; exact .raw
          · have hdN' : d < a.tmps.size := by rw [hI.sz]; exact Nat.le_of_ble_eq_true hdN
            have hother : ∀ t u, t ≠ d → a.tmps[t]? = some u → (a.put on.dst c).tmps[t]? = some u := fun t u hne hu => by
              simp [hodst, Act.put, Array.getElem?_setIfInBounds_ne (Ne.symm hne), hu]
            refine key1 fuel _ (a.put on.dst c) w' ⟨by simpa using hI.hL, fun k x hx hk j hj => ?_, hS1, by simp [hodst, Act.put, hI.df], by simp [hodst, Act.put, hI.sz], fun j q hq hj => ?_, fun t v ht hv => ?_⟩ ((listed_set hiL).2 (.inl rfl)) (fun k hk hk' => ?_) (by have := unL_set hiL h2; omega)
            · rw [listed_set hiL]
              rcases (listed_set hiL).1 hk with rfl | hk
              · exact .inr (h3 x hx j hj)
              · exact .inr (hI.hd k x hx hk j hj)
            · have hjn : j < n := by rw [← hlen']; exact (List.getElem?_eq_some_iff.1 hq).1
              obtain ⟨u, hu', hr⟩ := hI.vals j q hq (((listed_set hiL).1 hj).resolve_left (by omega))
              exact ⟨u, hother _ _ (hdps q (List.mem_of_getElem? hq)) hu', rel_kp_any hr⟩
            · simp only [Env.look] at hv
              cases hb : Nat.beq d t with
              | true =>
                simp only [hb, Option.some.injEq] at hv
                subst hv
                rw [← Nat.eq_of_beq_eq_true hb]
                exact ⟨c, by simp [hodst, Act.put, hdN'], rel_kp .raw⟩
              | false =>
                simp only [hb] at hv
                obtain ⟨u, hu', hr⟩ := hI.base t v ht hv
                have hne : t ≠ d := fun he => by rw [he, Nat.beq_refl] at hb; cases hb
                exact ⟨u, hother _ _ hne hu', rel_kp_any hr⟩
            · rcases (listed_set hiL).1 hk' with rfl | hk'
              · omega
              · exact hno k (by omega) hk'
        · exact absurd ((hmust i n (by omega) h1 h').listed hI.hd h3) (hno n (Nat.le_refl _))
  intro a w hS hF
  refine wp_region_any hm ?_
  have hw0 : Ext w { w with drawn := w.drawn + 1 } := Ext.of_quiet (.inr rfl)
  have hS0 : S0 { w with drawn := w.drawn + 1 } := Cl.ext hS hw0
  have hF0 := hF.ext hw0
  generalize ({ w with drawn := w.drawn + 1 } : World) = w1 at hS0 hF0
  have hnl : ∀ k, ¬ Listed (Array.replicate ops.size false) k := fun k hk => by
    unfold Listed at hk; rw [Array.getD_eq_getD_getElem?, Array.getElem?_replicate] at hk; split at hk <;> simp at hk
  exact key0 ops.size _ a w1 ⟨by simp, fun k o _ hk => absurd hk (hnl k), hS0, hF0.defers, hF0.size, fun i p _ hi => absurd hi (hnl i), fun t v _ ht => hF0.rel t v ht⟩ (fun k _ => hnl k) (by unfold unL; simp)

end
end Go.Ab
namespace Go.Ab
variable {R : World → Prop} [RStab R]
/-- Field k of a struct lies at cell off. -/
class TyF (P : Program) (t : TypeId) (k : Nat) (off : outParam Nat) : Prop where
  h : ∃ fs f i, P.underlying t = some (.struct fs) ∧ fs[k]? = some f ∧ f.offset = off ∧ P.info? f.type = some i ∧ (i.size == 0) = false

section
variable {P : Program} {N : Nat} {S : World → Prop} {e : Env} {Q : Exit → Env → World → Prop} {ops : Array Oper} {l : List Oper} {o : Oper}
variable {w0 : World} {gs : List Nat} {H : List Ent} {dst : Option Tmp} {ty : TypeId} {pos : String} {after : Array Edge} {guard : Option (Nat × Bool)}
theorem run_fieldAt {t : TypeId} {k off : Nat} [hf : TyF P t k off] (w : World) (a : Addr) : (Instr.fieldAt t (.pointer (some a)) k).run P w = .ok (.pointer (some (a.add off))) w := by
  obtain ⟨fs, f, i, h1, h2, h3, h4, h5⟩ := hf.h
  have h5' : ¬ i.size = 0 := by simpa using h5
  simp [Instr.fieldAt, run_underlying h1, h2, Instr.sureAddr, fieldPlace, sizeOf, typeInfo, h4, h5', h3]
theorem zcd {t : TypeId} {X : Operand} {k off g i : Nat} [hf : TyF P t k off] (hx : e.ev X = some (.raw (.pointer (some ⟨g, i, none⟩)))) :
    OpJ P S e ⟨dst, .fieldAddr t X k, ty, pos, after, guard⟩ (.raw (.pointer (some ⟨g, i + off, none⟩))) :=
  opj_value fun a w _ h => by
    have h1 := (h X (by simp [Op.operands]) _ hx).inv_raw
    refine ⟨_, w, ?_, Ext.refl _, .raw⟩
    have hr := run_fieldAt (P := P) (t := t) (k := k) w ⟨g, i, none⟩
    rw [addr_add _ rfl] at hr
    simp [execOp, h1, hr]
/-- The cells of a struct at a place. -/
theorem run_loadA {w : World} {t : TypeId} {d : TypeDesc} {z : Value} {sz b : Nat} [hd : TyU P t d] [hi : TyI P t z sz b] (ha : aggD d = true) {bb : Addr} (hsp : bb.spot = none) {xs : List AV} (hl : xs.length = sz)
    (hr : ∀ (i : Nat) (x : AV), xs[i]? = some x → ∃ u, w.cell? ⟨bb.block, bb.off + i, none⟩ = some u ∧ Ev x u) : ∃ cs : List Value, (loadVar t bb).run P w = .ok (.agg cs.toArray) w ∧ RelL w xs cs := by
  have hex : ∀ k, k ≤ sz → ∃ cs : List Value, cs.length = k ∧ (∀ (j : Nat) (v : Value), cs[j]? = some v → w.cell? (bb.add j) = some v) ∧ ∀ (j : Nat) (v : Value) (x : AV), cs[j]? = some v → xs[j]? = some x → Ev x v := by
    intro k
    induction k with
    | zero => intro _; exact ⟨[], rfl, fun j v h => by simp at h, fun j v x h => by simp at h⟩
    | succ k ih =>
      intro hk
      obtain ⟨cs, hlc, h1, h2⟩ := ih (by omega)
      have hx : xs[k]? = some (xs[k]'(by omega)) := List.getElem?_eq_getElem (by omega)
      obtain ⟨u, hu, hev⟩ := hr k _ hx
      refine ⟨cs ++ [u], by simp [hlc], fun j v hj => ?_, fun j v x hj hxj => ?_⟩
      · rcases Nat.lt_or_ge j k with h | h
        · rw [List.getElem?_append_left (by omega)] at hj; exact h1 j v hj
        · have : j = k := by
            have := (List.getElem?_eq_some_iff.1 hj).1
            simp only [List.length_append, hlc, List.length_cons, List.length_nil] at this
            omega
          subst this
          rw [List.getElem?_append_right (by omega), hlc, Nat.sub_self] at hj
          cases hj
          rw [addr_add bb hsp]; exact hu
      · rcases Nat.lt_or_ge j k with h | h
        · rw [List.getElem?_append_left (by omega)] at hj; exact h2 j v x hj hxj
        · have : j = k := by
            have := (List.getElem?_eq_some_iff.1 hj).1
            simp only [List.length_append, hlc, List.length_cons, List.length_nil] at this
            omega
          subst this
          rw [List.getElem?_append_right (by omega), hlc, Nat.sub_self] at hj
          cases hj
          rw [hx] at hxj; cases hxj
          exact hev
  obtain ⟨cs, hlc, h1, h2⟩ := hex sz (Nat.le_refl _)
  refine ⟨cs, ?_, RelL.of_get (by omega) fun j x v hx hv => h2 j v x hv hx w⟩
  have := run_loadCells_list (P := P) w bb cs h1
  rw [hlc] at this
  simp [loadVar, run_isAgg hd.h, ha, run_size hi, this]
theorem opj_loadAO {R0 : World → Prop} {t : TypeId} {d : TypeDesc} {z : Value} {sz b : Nat} {X : Operand} {en : Ent} {i : Nat} [hd : TyU P t d] [hi : TyI P t z sz b] (ha : aggD d = true) (hx : e.ev X = some (.raw (.pointer (some ⟨en.g, i, none⟩)))) (hm : en ∈ H) (hl : i + sz ≤ en.xs.length) :
    OpJ P (StR R0 w0 gs H) e ⟨dst, .load t X, ty, pos, after, guard⟩ (.agg ((en.xs.drop i).take sz)) :=
  opj_value fun a w hS h => by
    have hv := (h X (by simp [Op.operands]) _ hx).inv_raw
    obtain ⟨cs, hrun, hrel⟩ := run_loadA (P := P) (t := t) (w := w) ha (bb := ⟨en.g, i, none⟩) rfl (xs := (en.xs.drop i).take sz) (by simp; omega) (fun j x hj => by
      have hj' : en.xs[i + j]? = some x := by rw [List.getElem?_take] at hj; split at hj <;> simp_all
      exact (hS.own en hm).2.cell hj')
    exact ⟨_, w, by simp [execOp, hv, Instr.loadAt, Instr.sureAddr, hrun], Ext.refl _, .agg hrel⟩

/-- A list of cells written from a place on. -/
def splice (i : Nat) (ys xs : List AV) : List AV := xs.take i ++ ys ++ xs.drop (i + ys.length)
theorem still_mem : ∀ {ys : List AV}, AV.stillL ys = true → ∀ y ∈ ys, y.still = true
  | [], _, y, hy => by cases hy
  | a :: l, h, y, hy => by
    simp only [AV.stillL, Bool.and_eq_true] at h
    rcases List.mem_cons.1 hy with rfl | hy
    · exact h.1
    · exact still_mem h.2 y hy
/-- One cell, whatever it is: not a struct, not a tuple, not unknown. -/
def AV.one : AV → Bool
  | .f .. | .c .. => true
  | .raw (.agg _) | .raw (.tuple _) => false
  | .raw _ => true
  | _ => false
theorem one_cell {x : AV} {w : World} {v : Value} (h : x.one = true) (hr : Rel w x v) : v.oneCell' = true := by
  cases hr <;> first | (simp [AV.one] at h; done) | rfl | skip
  cases v <;> first | (simp [AV.one] at h; done) | rfl
/-- Each lies in one cell. -/
def OneL (ys : List AV) : Prop := ∀ y ∈ ys, ∀ w v, Rel w y v → v.oneCell' = true
theorem oneL_of {ys : List AV} (h : ys.all AV.one = true) : OneL ys := fun y hy _ _ hr => one_cell (List.all_eq_true.1 h y hy) hr
theorem rs_storeAG (k : Nat) {en : Ent} {i : Nat} {t : TypeId} {z : Value} {sz b : Nat} [hi : TyI P t z sz b] {A X : Operand} {ys : List AV} (hA : e.ev A = some (.raw (.pointer (some ⟨en.g, i, none⟩)))) (hx : e.ev X = some (.agg ys)) (h1 : OneL ys) (hs : AV.stillL ys = true)
    (hH : H[k]? = some en) (hl : ys.length = sz) (hi' : i + sz ≤ en.xs.length) (hc : en.xs.length = en.csz)
    (hk : RS P N ops l e.keep (StR R w0 gs (H.set k { en with xs := splice i ys en.xs })) Q) :
    RS P N ops (⟨none, .store t A X, ty, pos, after, none⟩ :: l) e (StR R w0 gs H) Q := by
  intro a w hS hF
  refine wpList_plain rfl fun K hK => ?_
  have h2 := (hF.eval hA).inv_raw
  obtain ⟨vs, hv, hr⟩ := (hF.eval hx).inv_agg
  have hvl : vs.length = sz := by rw [hr.length, hl]
  have hmem : en ∈ H := List.mem_of_getElem? hH
  obtain ⟨cur, hb, hcs, hcx⟩ := (hS.own en hmem).2
  have hone : ∀ v ∈ vs, v.oneCell' = true := fun v hv' => by
    obtain ⟨j, hj⟩ := List.mem_iff_getElem?.1 hv'
    have hjl : j < ys.length := by rw [← hr.length]; exact (List.getElem?_eq_some_iff.1 hj).1
    obtain ⟨u, hu, hru⟩ := hr.get (List.getElem?_eq_getElem hjl)
    rw [hj] at hu; cases hu
    exact h1 _ (List.getElem_mem _) _ _ hru
  have hst := run_storeCells_at (P := P) en.g i en.T vs 0 cur w hb (by omega) hone
  have hrun : (execOp a.eval ⟨none, .store t A X, ty, pos, after, none⟩).run P w = .ok .skip (w.setRow en.g (cur.toList.take (i + 0) ++ vs ++ cur.toList.drop (i + 0 + vs.length)).toArray) := by
    have hcs' : (Value.agg vs.toArray).cells = vs.toArray := rfl
    simp [execOp, h2, hv, Instr.storeAt, Instr.sureAddr, storeVar, run_size hi, hcs', hvl, hst]
  simp only [Nat.add_zero] at hrun
  unfold Oper.wp
  rw [hrun]
  have hrow : ((w.setRow en.g (cur.toList.take i ++ vs ++ cur.toList.drop (i + vs.length)).toArray)).heap[en.g]? = some (.cells (cur.toList.take i ++ vs ++ cur.toList.drop (i + vs.length)).toArray en.T (0, 0)) := setRow_heap w en.g cur _ en.T _ hb
  have hto : (cur.toList.take i).length = i := by simp; omega
  have hto' : (en.xs.take i).length = i := by simp; omega
  refine hK _ _ (hk _ _ (hS.updAt (e' := { en with xs := splice i ys en.xs }) hH ?_ (.inl rfl) ?_) hF.keep)
  · refine ⟨rfl, rfl, rfl, by simp, fun k _ hk => setRow_other w en.g k _ (fun e => hk (by simp [e]))⟩
  · refine ⟨_, hrow, ?_, fun j x hj => ?_⟩
    · simp only [List.size_toArray, List.length_append, List.length_drop, hto, Array.length_toList, hvl]; omega
    · simp only [splice] at hj
      simp only [List.getElem?_toArray]
      rcases Nat.lt_or_ge j i with h | h
      · rw [List.append_assoc, List.getElem?_append_left (by omega), List.getElem?_take, if_pos h] at hj
        obtain ⟨u, hu, hev⟩ := hcx j x hj
        exact ⟨u, by rw [List.append_assoc, List.getElem?_append_left (by omega), List.getElem?_take, if_pos h]; simpa using hu, hev⟩
      · rcases Nat.lt_or_ge j (i + sz) with h' | h'
        · rw [List.append_assoc, List.getElem?_append_right (by omega), hto', List.getElem?_append_left (by omega)] at hj
          obtain ⟨u, hu, hru⟩ := hr.get hj
          refine ⟨u, ?_, hru.ev (still_mem hs x (List.mem_of_getElem? hj))⟩
          rw [List.append_assoc, List.getElem?_append_right (by omega), hto, List.getElem?_append_left (by omega)]
          exact hu
        · rw [List.getElem?_append_right (by simp; omega), List.getElem?_drop] at hj
          have e1 : i + ys.length + (j - (en.xs.take i ++ ys).length) = j := by simp; omega
          rw [e1] at hj
          obtain ⟨u, hu, hev⟩ := hcx j x hj
          refine ⟨u, ?_, hev⟩
          rw [List.getElem?_append_right (by simp; omega), List.getElem?_drop]
          have e2 : i + vs.length + (j - (cur.toList.take i ++ vs).length) = j := by simp; omega
          rw [e2]
          simpa using hu

theorem rs_storeA (k : Nat) {en : Ent} {i : Nat} {t : TypeId} {z : Value} {sz b : Nat} [hi : TyI P t z sz b] {A X : Operand} {ys : List AV} (hA : e.ev A = some (.raw (.pointer (some ⟨en.g, i, none⟩)))) (hx : e.ev X = some (.agg ys)) (h1 : ys.all AV.one = true) (hs : AV.stillL ys = true)
    (hH : H[k]? = some en) (hl : ys.length = sz) (hi' : i + sz ≤ en.xs.length) (hc : en.xs.length = en.csz)
    (hk : RS P N ops l e.keep (StR R w0 gs (H.set k { en with xs := splice i ys en.xs })) Q) :
    RS P N ops (⟨none, .store t A X, ty, pos, after, none⟩ :: l) e (StR R w0 gs H) Q := rs_storeAG k hA hx (oneL_of h1) hs hH hl hi' hc hk
theorem zcf {R0 : World → Prop} {X : Operand} {x : AV} {g i c : Nat} {T : TypeId} {xs : List AV} {t : TypeId} {d : TypeDesc} [hd : TyU P t d] (ha : aggD d = false)
    (hx : e.ev X = some (.raw (.pointer (some ⟨g, i, none⟩)))) (hm : (⟨g, T, xs, c⟩ : Ent) ∈ H) (h0 : xs[i]? = some x) : OpJ P (StR R0 w0 gs H) e ⟨dst, .load t X, ty, pos, after, guard⟩ x :=
  opj_load_own (en := ⟨g, T, xs, c⟩) ha hx hm h0
theorem zcg {R0 : World → Prop} {t : TypeId} {d : TypeDesc} {z : Value} {sz b : Nat} {X : Operand} {g i c : Nat} {T : TypeId} {xs ys : List AV} [hd : TyU P t d] [hi : TyI P t z sz b] (ha : aggD d = true) (hx : e.ev X = some (.raw (.pointer (some ⟨g, i, none⟩)))) (hm : (⟨g, T, xs, c⟩ : Ent) ∈ H) (hl : Nat.ble (i + sz) xs.length = true) (hy : (xs.drop i).take sz = ys) :
    OpJ P (StR R0 w0 gs H) e ⟨dst, .load t X, ty, pos, after, guard⟩ (.agg ys) := by
  subst hy
  exact opj_loadAO (en := ⟨g, T, xs, c⟩) ha hx hm (Nat.le_of_ble_eq_true hl)
theorem zam (k : Nat) {g i c : Nat} {T : TypeId} {xs ys : List AV} {t : TypeId} {z : Value} {b : Nat} [hi : TyI P t z 1 b] {A X : Operand} {x : AV} (hA : e.ev A = some (.raw (.pointer (some ⟨g, i, none⟩)))) (hx : e.ev X = some x) (h1 : oneAV x = true) (hH : H[k]? = some ⟨g, T, xs, c⟩) (hi' : Nat.blt i c = true) (hy : xs.set i x = ys)
    (hk : RS P N ops l e.keep (StR R w0 gs (H.set k ⟨g, T, ys, c⟩)) Q) :
    RS P N ops (⟨none, .store t A X, ty, pos, after, none⟩ :: l) e (StR R w0 gs H) Q := by
  subst hy
  exact rs_storeAt k (en := ⟨g, T, xs, c⟩) hA hx h1 hH (Nat.le_of_ble_eq_true hi') hk
theorem zan (k : Nat) {g i c : Nat} {T : TypeId} {xs zs : List AV} {t : TypeId} {z : Value} {sz b : Nat} [hi : TyI P t z sz b] {A X : Operand} {ys : List AV} (hA : e.ev A = some (.raw (.pointer (some ⟨g, i, none⟩)))) (hx : e.ev X = some (.agg ys)) (h1 : ys.all AV.one = true) (hs : AV.stillL ys = true)
    (hH : H[k]? = some ⟨g, T, xs, c⟩) (hl : ys.length = sz) (hi' : Nat.ble (i + sz) xs.length = true) (hc : xs.length = c) (hz : splice i ys xs = zs)
    (hk : RS P N ops l e.keep (StR R w0 gs (H.set k ⟨g, T, zs, c⟩)) Q) :
    RS P N ops (⟨none, .store t A X, ty, pos, after, none⟩ :: l) e (StR R w0 gs H) Q := by
  subst hz
  exact rs_storeA k (en := ⟨g, T, xs, c⟩) hA hx h1 hs hH hl (Nat.le_of_ble_eq_true hi') hc hk
/-- A struct that lies in a block of its own is what is returned. -/
theorem done_retC {R0 : World → Prop} {X : Type} {mk : X → AV} {post : X → List Ent} {good : X → Prop} {fn : Func} {p : Tmp} {t : TypeId} {d : TypeDesc} {z : Value} {sz b : Nat} {en : Ent} [hd : TyU P t d] [hi : TyI P t z sz b] (ha : aggD d = true) (hr : fn.results = #[.cell p t]) (y : X)
    (hp : e.look p = some (.raw (.pointer (some ⟨en.g, 0, none⟩)))) (hm : en ∈ H) (hl : en.xs.length = sz) (hmk : mk y = .agg en.xs) (hy : good y) (hs : (post y).Sublist H) :
    Done .ret e (StR R0 w0 gs H) (Ret P fn N w0 gs mk post good) := fun w hw =>
  ⟨.inl rfl, y, hy, hw.mod, fun x hx => ⟨(hw.own x (hs.subset hx)).2, (hw.own x (hs.subset hx)).1⟩, (hw.weak hs).nodup, fun a hF => by
    obtain ⟨u, hu, hru⟩ := hF.rel p _ hp
    have := hru.inv_raw
    subst this
    obtain ⟨cs, hrun, hrel⟩ := run_loadA (P := P) (t := t) (w := w) ha (bb := ⟨en.g, 0, none⟩) rfl (xs := en.xs) hl (fun j x hj => (hw.own en hm).2.cell (by simpa using hj))
    refine ⟨.agg cs.toArray, ?_, by rw [hmk]; exact .agg hrel⟩
    simp [results, hr, hu, asAddr, hrun]⟩
theorem done_retX {R0 : World → Prop} {X : Type} {mk : X → AV} {post : X → List Ent} {good : X → Prop} {fn : Func} {p : Tmp} {t : TypeId} {d : TypeDesc} {z : Value} {sz b g c : Nat} {T : TypeId} {xs ys : List AV} [hd : TyU P t d] [hi : TyI P t z sz b] (ha : aggD d = true) (hr : fn.results = #[.cell p t]) (y : X)
    (hp : e.look p = some (.raw (.pointer (some ⟨g, 0, none⟩)))) (hm : (⟨g, T, xs, c⟩ : Ent) ∈ H) (hl : Nat.beq xs.length sz = true) (hmk : mk y = .agg ys) (hxy : ys = xs) (hy : good y) (hs : (post y).Sublist H) :
    Done .ret e (StR R0 w0 gs H) (Ret P fn N w0 gs mk post good) := by
  subst hxy
  exact done_retC (en := ⟨g, T, ys, c⟩) ha hr y hp hm (Nat.eq_of_beq_eq_true hl) hmk hy hs
end
end Go.Ab
namespace Go.Ab
section
variable {P : Program} {N : Nat} {S S0 W : World → Prop} {e : Env} {Q : Exit → Env → World → Prop} {ops : Array Oper} {l : List Oper} {o : Oper}
/-- An operation that makes a block. -/
def MakesX (P : Program) (S0 : World → Prop) (S1 : Nat → World → Prop) (o : Oper) : Prop :=
  ∀ (a : Act) (w : World) (K : Act → World → Prop) (Q : Exit → Act → World → Prop), S0 w → (∀ g w', Ext w w' → S1 g w' → K (a.put o.dst (.pointer (some ⟨g, 0, none⟩))) w') → o.wp P a w K Q
/-- A variable of its own. -/
theorem makesX_alloc {R : World → Prop} [RStab R] {w0 : World} {gs : List Nat} {H : List Ent} {d : Tmp} {ty : TypeId} {pos : String} {after : Array Edge} {el : TypeId} {z : Value} {sz b : Nat} [hi : TyI P el z sz b] (hzo : z.cells.toList.all okv1 = true) {xs : List AV} {c : Nat} (hxs : z.cells.toList.map cv1 = xs) (hc : z.cells.size = c) :
    MakesX P (StR R w0 gs H) (fun g => StR R w0 gs (⟨g, el, xs, c⟩ :: H)) ⟨some d, .alloc el, ty, pos, after, none⟩ := by
  subst hxs hc
  intro a w K Q hS hK
  unfold Oper.wp
  have hex : (execOp a.eval ⟨some d, .alloc el, ty, pos, after, none⟩).run P w = .ok (.value (.pointer (some ⟨w.heap.size, 0, none⟩))) (w.alloc (.cells z.cells el)) := by
    simp [execOp, Instr.alloc, run_zero hi, newVar, newRow]
  rw [hex]
  refine hK _ _ (Ext.alloc _ _) ?_
  refine hS.new (e := ⟨w.heap.size, el, z.cells.toList.map cv1, z.cells.size⟩) (Ext.alloc _ _) (Nat.le_refl _) (ext_alloc_own fun j x hj => ?_)
  simp only [List.getElem?_map, Option.map_eq_some_iff] at hj
  obtain ⟨v, hv, rfl⟩ := hj
  exact ⟨v, by simpa using hv, cv1_ev v (List.all_eq_true.1 hzo v (List.mem_of_getElem? hv))⟩
end
end Go.Ab
