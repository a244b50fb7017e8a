/- Statements, loops and calls in the calculus. No conditions. -/
import Derived.Test.YtljgokghchhjaaaOp
namespace Go.Ab

section
variable {P : Program} {N : Nat} {S : World → Prop} {e : Env} {Q : Exit → Env → World → Prop} {ops : Array Oper} {l : List Oper} {o : Oper}

/-- The code, from a frame that is known as e in a world of S, comes to Q. -/
def WS (P : Program) (N : Nat) (c : Code) (e : Env) (S : World → Prop) (Q : Exit → Env → World → Prop) : Prop :=
  ∀ a w, S w → Fr N e a w → c.wp P (fun x a' w' => ∃ e', Fr N e' a' w' ∧ Q x e' w') a w
/-- What is left of a region whose order is that of the text. -/
def RS (P : Program) (N : Nat) (ops : Array Oper) (l : List Oper) (e : Env) (S : World → Prop) (Q : Exit → Env → World → Prop) : Prop :=
  ∀ a w, S w → Fr N e a w → wpList P ops (fun x a' w' => ∃ e', Fr N e' a' w' ∧ Q x e' w') l a w
/-- Control has come to x. -/
def Done (x : Exit) (e : Env) (S : World → Prop) (Q : Exit → Env → World → Prop) : Prop := ∀ w, S w → Q x e w
/-- What is to come behind a statement. -/
def Then (P : Program) (N : Nat) (c : Code) (Q : Exit → Env → World → Prop) : Exit → Env → World → Prop
  | .normal, e, w => WS P N c e (fun x => x = w) Q
  | x, e, w => Q x e w
def InBlock (id : Nat) (Q : Exit → Env → World → Prop) : Exit → Env → World → Prop
  | .exit j, e, w => if j = id then Q .normal e w else Q (.exit j) e w
  | x, e, w => Q x e w

theorem WS.mono {c : Code} {Q' : Exit → Env → World → Prop} (h : WS P N c e S Q) (hq : ∀ x e w, Q x e w → Q' x e w) : WS P N c e S Q' :=
  fun a w hS hF => Code.wp_mono (fun _ _ _ ⟨e', hF', hq'⟩ => ⟨e', hF', hq _ _ _ hq'⟩) (h a w hS hF)
theorem WS.weak {c : Code} {S' : World → Prop} {e' : Env} (h : WS P N c e' S' Q) (he : Env.sub e' e) (hS : ∀ w, S w → S' w) : WS P N c e S Q :=
  fun a w hw hF => h a w (hS w hw) (hF.sub he)
theorem WS.st {c : Code} {S' : World → Prop} (h : WS P N c e S' Q) (hS : ∀ w, S w → S' w) : WS P N c e S Q := fun a w hw hF => h a w (hS w hw) hF
theorem RS.st {S' : World → Prop} (h : RS P N ops l e S' Q) (hS : ∀ w, S w → S' w) : RS P N ops l e S Q := fun a w hw hF => h a w (hS w hw) hF
theorem Done.st {x : Exit} {S' : World → Prop} (h : Done x e S' Q) (hS : ∀ w, S w → S' w) : Done x e S Q := fun w hw => h w (hS w hw)

theorem zdc {c d : Code} (h : WS P N c e S (Then P N d Q)) : WS P N (.seq c d) e S Q := by
  intro a w hS hF
  refine wp_seq (Code.wp_mono (fun x a' w' ⟨e', hF', hq⟩ => ?_) (h a w hS hF))
  cases x <;> first | exact hq a' w' rfl hF' | exact ⟨e', hF', hq⟩
theorem zdd {id : Nat} (h : RS P N ops ops.toList e S Q) : WS P N (.region id ops false) e S Q :=
  fun a w hS hF => wp_region_list (h a w hS hF)
theorem zdf (h : Done .normal e S Q) : WS P N .skip e S Q := fun _ w hS hF => wp_skip ⟨e, hF, h w hS⟩
theorem zdg (h : Done .ret e S Q) : WS P N .ret e S Q := fun _ w hS hF => wp_ret ⟨e, hF, h w hS⟩
theorem zdh {id : Nat} (h : Done (.exit id) e S Q) : WS P N (.exit id) e S Q := fun _ w hS hF => wp_exit ⟨e, hF, h w hS⟩
theorem zde {id : Nat} {c : Code} (h : WS P N c e S (InBlock id Q)) : WS P N (.block id c) e S Q := by
  intro a w hS hF
  refine wp_block (Code.wp_mono (fun x a' w' ⟨e', hF', hq⟩ => ?_) (h a w hS hF))
  cases x <;> first | exact ⟨e', hF', hq⟩ | skip
  rename_i j
  simp only [InBlock] at hq
  simp only [Exit.inBlock]
  split
  · rename_i hj; rw [if_pos hj] at hq; exact ⟨e', hF', hq⟩
  · rename_i hj; rw [if_neg hj] at hq; exact ⟨e', hF', hq⟩
theorem ws_cond {c : Operand} {x y : Code} {b : Bool} (hc : e.ev c = some (.raw (.bool b))) (ht : b = true → WS P N x e S Q) (hf : b = false → WS P N y e S Q) : WS P N (.cond c x y) e S Q :=
  fun a w hS hF => wp_cond_split (hF.eval hc).inv_raw (fun h => ht h a w hS hF) (fun h => hf h a w hS hF)
theorem zdi {c : Operand} {x y : Code} (hc : e.ev c = some (.raw (.bool true))) (h : WS P N x e S Q) : WS P N (.cond c x y) e S Q := ws_cond hc (fun _ => h) (fun h => by cases h)
theorem zdj {c : Operand} {x y : Code} (hc : e.ev c = some (.raw (.bool false))) (h : WS P N y e S Q) : WS P N (.cond c x y) e S Q := ws_cond hc (fun h => by cases h) (fun _ => h)

/-- The end of a loop's round. -/
def Round {ι : Type} (E : ι → Env) (SI : ι → World → Prop) (ok : ι → Prop) (μ : ι → Nat) (i : ι) (Q : Exit → Env → World → Prop) : Exit → Env → World → Prop
  | .normal, e, w => ∃ j, ok j ∧ μ j < μ i ∧ Env.sub (E j) e ∧ SI j w
  | x, e, w => Q x e w
theorem ws_loop {ι : Type} (E : ι → Env) (SI : ι → World → Prop) (ok : ι → Prop) (μ : ι → Nat) (i0 : ι) {c : Code} (h0 : ok i0) (he : Env.sub (E i0) e) (hS : ∀ w, S w → SI i0 w)
    (hr : ∀ i, ok i → WS P N c (E i) (SI i) (Round E SI ok μ i Q)) : WS P N (.loop c) e S Q := by
  intro a w hw hF b k cs
  have key : ∀ n i, μ i ≤ n → ok i → ∀ a w, SI i w → Fr N (E i) a w →
      ∃ x a' w', (∃ e', Fr N e' a' w' ∧ Q x e' w') ∧ Arrives P (lone (b.at a (.code c :: .inLoop c :: k)) cs w) b k cs x a' w' := by
    intro n
    induction n using Nat.strongRecOn with
    | _ n ih =>
      intro i hi hok a w hs hf
      obtain ⟨x, a1, w1, ⟨e1, hF1, hq⟩, harr⟩ := hr i hok a w hs hf b (.inLoop c :: k) cs
      cases x with
      | normal =>
        obtain ⟨j, hj, hlt, hsub, hsj⟩ := hq
        obtain ⟨x2, a2, w2, hq2, harr2⟩ := ih (μ j) (by omega) j (Nat.le_refl _) hj a1 w1 hsj (hF1.sub hsub)
        exact ⟨x2, a2, w2, hq2, .of_steps (Steps.trans harr (.one step_inLoop)) harr2⟩
      | exit id => exact ⟨_, a1, w1, ⟨e1, hF1, hq⟩, .pass (x := .inLoop c) rfl (fun _ _ => .inl (by simp)) harr⟩
      | goto id => exact ⟨_, a1, w1, ⟨e1, hF1, hq⟩, .pass (x := .inLoop c) rfl (fun _ _ => .inl (by simp)) harr⟩
      | ret => exact ⟨_, a1, w1, ⟨e1, hF1, hq⟩, .pass (x := .inLoop c) rfl (fun _ _ => .inl (by simp)) harr⟩
      | panic ch => exact ⟨_, a1, w1, ⟨e1, hF1, hq⟩, .pass (x := .inLoop c) rfl (fun _ _ => .inl (by simp)) harr⟩
      | outgrown => exact ⟨_, a1, w1, ⟨e1, hF1, hq⟩, .pass (x := .inLoop c) rfl (fun _ _ => .inl (by simp)) harr⟩
  obtain ⟨x, a', w', hq, harr⟩ := key (μ i0) i0 (Nat.le_refl _) h0 a w (hS w hw) (hF.sub he)
  exact ⟨x, a', w', hq, .of_steps (.one step_loop) harr⟩

/-! What comes to an end. -/
theorem zcs {d : Code} (h : WS P N d e S Q) : Done .normal e S (Then P N d Q) := fun _ hw => h.st fun _ hx => hx ▸ hw
theorem zct {d : Code} (h : Done .ret e S Q) : Done .ret e S (Then P N d Q) := fun w hw => h w hw
theorem zcu {d : Code} {id : Nat} (h : Done (.exit id) e S Q) : Done (.exit id) e S (Then P N d Q) := fun w hw => h w hw
theorem zcv {id : Nat} (h : Done .normal e S Q) : Done .normal e S (InBlock id Q) := fun w hw => h w hw
theorem zcw {id : Nat} (h : Done .ret e S Q) : Done .ret e S (InBlock id Q) := fun w hw => h w hw
theorem zcx {id : Nat} (h : Done .normal e S Q) : Done (.exit id) e S (InBlock id Q) := fun w hw => by
  show if id = id then _ else _
  rw [if_pos rfl]; exact h w hw
theorem zcy {j id : Nat} (hne : (j == id) = false) (h : Done (.exit j) e S Q) : Done (.exit j) e S (InBlock id Q) := fun w hw => by
  show if j = id then _ else _
  rw [if_neg (by simpa using hne)]; exact h w hw
theorem zcz {ι : Type} {E : ι → Env} {SI : ι → World → Prop} {ok : ι → Prop} {μ : ι → Nat} {i : ι} (h : Done .ret e S Q) : Done .ret e S (Round E SI ok μ i Q) := fun w hw => h w hw
theorem zda {ι : Type} {E : ι → Env} {SI : ι → World → Prop} {ok : ι → Prop} {μ : ι → Nat} {i : ι} {id : Nat} (h : Done (.exit id) e S Q) : Done (.exit id) e S (Round E SI ok μ i Q) := fun w hw => h w hw
theorem done_round {ι : Type} {E : ι → Env} {SI : ι → World → Prop} {ok : ι → Prop} {μ : ι → Nat} {i : ι} (j : ι) (hj : ok j) (hlt : μ j < μ i) (hs : Env.sub (E j) e) (hS : ∀ w, S w → SI j w) :
    Done .normal e S (Round E SI ok μ i Q) := fun w hw => ⟨j, hj, hlt, hs, hS w hw⟩

/-! Operations in the order of the text. -/
theorem zah (h : Done .normal e S Q) : RS P N ops [] e S Q := fun _ w hS hF => ⟨e, hF, h w hS⟩
def dstOk (dst : Option Tmp) (N : Nat) : Bool := match dst with
  | some d => decide (d < N)
  | none => true
theorem dstOk_spec {dst : Option Tmp} (h : dstOk dst N = true) : ∀ d, dst = some d → d < N := by
  intro d hd; subst hd; simpa [dstOk] using h
theorem Fr.operands {N : Nat} {e : Env} {a : Act} {w : World} (h : Fr N e a w) (o : Oper) : ∀ x ∈ o.op.operands.toList, ∀ y, e.ev x = some y → Rel w y (a.eval x) := fun _ _ _ hy => h.eval hy
theorem zaa {d : Tmp} {op : Op} {ty : TypeId} {pos : String} {after : Array Edge} {v : AV} [Cl S] (hd : Nat.blt d N = true) (hj : OpJ P S e ⟨some d, op, ty, pos, after, none⟩ v) (h : RS P N ops l ((d, v) :: e) S Q) :
    RS P N ops (⟨some d, op, ty, pos, after, none⟩ :: l) e S Q := by
  intro a w hS hF
  refine wpList_plain rfl fun K hK => ?_
  refine hj a w K _ hS (hF.operands _) fun u w' hw hr => hK _ _ ?_
  exact h _ w' (Cl.ext hS hw) (Fr.put (some d) (hF.ext hw) (fun _ h => by cases h; exact Nat.le_of_ble_eq_true hd) hr)
/-- The slot that a guard looks at. -/
def gslot (ops : Array Oper) (j : Nat) : Option Tmp := (ops[j]?).bind (·.dst)
theorem yielded_of {N : Nat} {e : Env} {a : Act} {w : World} (hF : Fr N e a w) {j d : Nat} {b : Bool} (hy : gslot ops j = some d) (he : e.look d = some (.raw (.bool b))) : yielded ops a.tmps j = some b := by
  obtain ⟨u, hu, hr⟩ := hF.rel d _ he
  have := hr.inv_raw
  subst this
  unfold yielded
  rw [show ((ops[j]?).bind (·.dst)) = some d from hy]
  simp [hu]
theorem rs_yes {d : Tmp} {op : Op} {ty : TypeId} {pos : String} {after : Array Edge} {v : AV} [Cl S] {j y : Nat} {b : Bool} (hd : Nat.blt d N = true) (hy : gslot ops j = some y) (he : e.look y = some (.raw (.bool b)))
    (hj : OpJ P S e ⟨some d, op, ty, pos, after, some (j, b)⟩ v) (h : RS P N ops l ((d, v) :: e) S Q) : RS P N ops (⟨some d, op, ty, pos, after, some (j, b)⟩ :: l) e S Q := by
  intro a w hS hF
  refine wpList_step fun K hK => ?_
  rw [if_pos (by simp [Region.wanted, yielded_of hF hy he])]
  refine hj a w K _ hS (hF.operands _) fun u w' hw hr => hK _ _ ?_
  exact h _ w' (Cl.ext hS hw) (Fr.put (some d) (hF.ext hw) (fun _ h => by cases h; exact Nat.le_of_ble_eq_true hd) hr)
theorem zaj {d : Tmp} {op : Op} {ty : TypeId} {pos : String} {after : Array Edge} {j y : Nat} {b c : Bool} (hd : Nat.blt d N = true) (hy : gslot ops j = some y) (he : e.look y = some (.raw (.bool c))) (hbc : (c == b) = false)
    (h : RS P N ops l ((d, .raw undef) :: e) S Q) : RS P N ops (⟨some d, op, ty, pos, after, some (j, b)⟩ :: l) e S Q := by
  intro a w hS hF
  refine wpList_step fun K hK => ?_
  rw [if_neg (by simpa [Region.wanted, yielded_of hF hy he] using hbc)]
  exact hK _ _ (h _ w hS (Fr.put (some d) hF (fun _ h => by cases h; exact Nat.le_of_ble_eq_true hd) .raw))
end
end Go.Ab
