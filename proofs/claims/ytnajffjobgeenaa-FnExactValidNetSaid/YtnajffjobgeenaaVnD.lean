/- Nets: the maps by pairs of corners, and what ValidNet does at a side. No conditions. -/
import Derived.Test.YtnajffjobgeenaaVnC
import Derived.KernelRfl
namespace Go.Ab
open Go.Proofs

theorem k_laid : laidOutB Try.prog = true := by kernel_rfl
theorem k_pairLaw : WideMaps.KeyLaw Try.prog 118 := deep_law_laid k_laid (m := 2) (by decide) (of_decide_eq_true (by kernel_rfl)) (by kernel_rfl) (by kernel_rfl)
theorem k_pairKey {a b : Int} (ha : In64 a) (hb : In64 b) : ∃ l, keyOf Try.prog 118 (kv a b) = some l :=
  ⟨_, WideMaps.keyOf_pair (e := 2) (q := .i64) ⟨by kernel_rfl, by kernel_rfl, by kernel_rfl, by kernel_rfl⟩ (by kernel_rfl) ⟨Try.prog.types.size - 1, by kernel_rfl⟩ (in64_wf ha) (in64_wf hb)⟩
instance mapT_bool : MapT Try.prog 116 118 4 := ⟨by kernel_rfl, k_pairLaw, k_pairKey⟩
instance mapT_int : MapT Try.prog 164 118 3 := ⟨by kernel_rfl, k_pairLaw, k_pairKey⟩
section
variable {P : Program} {e : Env} {w0 : World} {gs : List Nat} {H : List Ent} {g : Nat} {f : Int → Int → Option Value} {t k el : TypeId} {pos : String} {ty : TypeId} {after : Array Edge} {guard : Option (Nat × Bool)}
theorem opj_lookupV [hm : MapT P t k el] {z v : Value} {sz b0 : Nat} [hi : TyI P el z sz b0] {dst : Option Tmp} {X K : Operand} {a b : Int} (hv : (f a b).getD z = v) (hx : e.ev X = some (.raw (.map (some g)))) (hk : e.ev K = some (.agg [.raw (.int .i64 a), .raw (.int .i64 b)])) (ha : In64 a) (hb : In64 b) :
    OpJ P (StR (MapAt g f) w0 gs H) e ⟨dst, .lookup t X K false, ty, pos, after, guard⟩ (.raw v) := by
  subst hv; exact opj_lookup hx hk ha hb
end
attribute [local irreducible] WS RS Done OpJ Then InBlock Round Ret Env.sub FnH
attribute [local irreducible] tab tabA corners

def abS (x : Sd) : Int × Int := (x.2.1, x.2.2)
def onceB (l : List Sd) : Bool := decide ((l.map abS).Nodup)
def seenF (l : List Sd) (a b : Int) : Option Value := if (a, b) ∈ l.map abS then some (.bool true) else none
theorem onceB_snoc (l : List Sd) (x : Sd) : onceB (l ++ [x]) = (onceB l && !(decide (abS x ∈ l.map abS))) := by
  unfold onceB
  rw [List.map_append, Bool.eq_iff_iff]
  simp only [decide_eq_true_eq, Bool.and_eq_true, Bool.not_eq_true', decide_eq_false_iff_not, List.map_cons, List.map_nil]
  rw [List.nodup_append]
  constructor
  · intro ⟨h1, _, h3⟩
    exact ⟨h1, fun hm => h3 _ hm _ (by simp) rfl⟩
  · intro ⟨h1, h2⟩
    exact ⟨h1, by simp, fun a ha b hb hab => by simp at hb; subst hb; subst hab; exact h2 ha⟩
theorem seenF_snoc (l : List Sd) (x : Sd) : seenF (l ++ [x]) = updK (seenF l) x.2.1 x.2.2 (.bool true) := by
  funext a b
  unfold seenF updK
  rw [List.map_append]
  by_cases h : a = x.2.1 ∧ b = x.2.2
  · rw [if_pos h, if_pos]
    simp [abS, h.1, h.2]
  · rw [if_neg h]
    have : ((a, b) ∈ l.map abS ++ [x].map abS) = ((a, b) ∈ l.map abS) := by
      simp only [List.map_cons, List.map_nil, List.mem_append, List.mem_singleton, abS, Prod.mk.injEq, eq_iff_iff]
      exact ⟨fun h' => h'.resolve_right h, .inl⟩
    simp only [this]
abbrev entOnce (g : Nat) (l : List Sd) : Ent := ⟨g, 4, [boolA (onceB l)], 1⟩
abbrev entSeen (g gm : Nat) : Ent := ⟨g, 116, [.raw (.map (some gm))], 1⟩

set_option maxHeartbeats 2000000 in
theorem validSide_fn (w0 : World) (gm gO gS : Nat) (hg : w0.heap.size ≤ gm) (l : List Sd) (x : Sd) (K : List Ent) (ha : In64 x.2.1) (hb : In64 x.2.2) :
    FnW Try.prog 115 ([intA x.1, intA x.2.1, intA x.2.2] ++ [Value.pointer (some ⟨gO, 0, none⟩), Value.pointer (some ⟨gS, 0, none⟩)].map .raw)
      (StR (MapAt gm (seenF l)) w0 [] ([entOnce gO l, entSeen gS gm] ++ K)) (StR (MapAt gm (seenF (l ++ [x]))) w0 [] ([entOnce gO (l ++ [x]), entSeen gS gm] ++ K)) (.tup []) := by
  obtain ⟨fc, a, b⟩ := x
  have hv : (seenF l a b).getD (.bool false) = .bool (decide (abS (fc, a, b) ∈ l.map abS)) := by
    unfold seenF
    by_cases h : (a, b) ∈ l.map abS
    · rw [if_pos h, decide_eq_true (show abS (fc, a, b) ∈ l.map abS from h)]; rfl
    · rw [if_neg h, decide_eq_false (show ¬ abS (fc, a, b) ∈ l.map abS from h)]; rfl
  have hs := seenF_snoc l (fc, a, b)
  have ho := onceB_snoc l (fc, a, b)
  unfold entOnce
  rw [hs, ho]
  generalize decide (abS (fc, a, b) ∈ l.map abS) = p at *
  generalize onceB l = q at *
  generalize seenF l = f at *
  clear hs ho
  simp only at ha hb ⊢
  refine fnw_intro Try.func115 rfl Try.ntmps115 (Nat.le_of_ble_eq_true rfl) ?_
  cases q <;> cases p
  all_goals
    repeat
      first
          | refine rs_op rfl (opj_move rfl) ?_
          | refine rs_op rfl (opj_assign rfl) ?_
          | (refine rs_idb ?_; first | refine rs_op rfl (opj_fbin rfl rfl rfl) ?_ | refine rs_op rfl (opj_add rfl rfl (by omega)) ?_ | refine rs_op rfl (opj_sub rfl rfl (by omega)) ?_ | refine rs_op rfl (opj_fcmp rfl rfl rfl) ?_ | refine rs_op rfl (opj_lss rfl rfl) ?_ | refine rs_op rfl (opj_leq rfl rfl) ?_ | refine rs_op rfl (opj_gtr rfl rfl) ?_ | refine rs_op rfl (opj_geq rfl rfl) ?_ | refine rs_op rfl (opj_ieq rfl rfl) ?_ | refine rs_op rfl (opj_ine rfl rfl) ?_ | refine rs_op rfl (opj_beq rfl rfl) ?_ | refine rs_op rfl (opj_bne rfl rfl) ?_)
          | (refine rs_idc ?_; first | refine rs_op rfl (opj_len_m rfl) ?_ | refine rs_op rfl (opj_len_raw rfl) ?_ | refine rs_op rfl (opj_real rfl) ?_ | refine rs_op rfl (opj_imag rfl) ?_ | refine rs_op rfl (opj_complex rfl rfl) ?_)
          | (refine rs_idl ?_; first | refine rs_op rfl (opj_loadX rfl rfl (by (repeat (first | exact List.Mem.head _ | refine List.Mem.tail _ ?_)); done) rfl) ?_ | refine rs_op rfl (opj_loadAX rfl rfl (by (repeat (first | exact List.Mem.head _ | refine List.Mem.tail _ ?_)); done) rfl rfl) ?_ | refine rs_op rfl (opj_loadAP rfl rfl rfl rfl) ?_ | refine rs_op rfl (opj_load1 rfl rfl) ?_)
          | (refine rs_ida ?_; first | refine rs_op rfl (opj_index_m rfl rfl (by omega) (by omega)) ?_ | refine rs_op rfl (opj_index_own rfl rfl (by omega) (by omega)) ?_)
          | refine rs_op rfl (opj_field_own rfl) ?_
          | refine rs_op rfl (opj_field_ptr rfl) ?_
          | refine rs_op rfl (opj_wide rfl) ?_
          | refine rs_op rfl (opj_iconv rfl) ?_
          | refine rs_op rfl (opj_extract rfl rfl) ?_
          | refine rs_op rfl (opj_pick_t rfl rfl) ?_
          | refine rs_op rfl (opj_pick_f rfl rfl) ?_
          | refine rs_op rfl (opj_not rfl) ?_
          | refine rs_nil ?_
          | (refine done_id ?_; first | refine done_normal_then ?_ | refine done_ret_then ?_ | refine done_exit_then ?_ | refine done_normal_block ?_ | refine done_ret_block ?_ | refine done_exit_here ?_ | refine done_exit_on rfl ?_ | refine done_ret_round ?_ | refine done_exit_round ?_)
          | (refine ws_id ?_; first | refine ws_seq ?_ | refine ws_region ?_ | refine ws_block ?_ | refine ws_skip ?_ | refine ws_ret ?_ | refine ws_exit ?_ | refine ws_cond_t rfl ?_ | refine ws_cond_f rfl ?_)
          | refine rs_gy rfl rfl ?_
          | refine rs_no rfl rfl rfl rfl ?_
          | (refine rs_boxA rfl rfl rfl ?_; intro g)
          | (refine rs_alloc rfl rfl ?_; intro g)
          | (refine rs_idst ?_; first | refine rs_storeX 0 rfl rfl rfl rfl rfl rfl ?_ | refine rs_storeX 1 rfl rfl rfl rfl rfl rfl ?_ | refine rs_storeX 2 rfl rfl rfl rfl rfl rfl ?_ | refine rs_storeX 3 rfl rfl rfl rfl rfl rfl ?_ | refine rs_storeX 4 rfl rfl rfl rfl rfl rfl ?_ | refine rs_storeX 5 rfl rfl rfl rfl rfl rfl ?_ | refine rs_storeAX 0 rfl rfl rfl rfl rfl rfl rfl rfl rfl ?_ | refine rs_storeAX 1 rfl rfl rfl rfl rfl rfl rfl rfl rfl ?_ | refine rs_storeAX 2 rfl rfl rfl rfl rfl rfl rfl rfl rfl ?_ | refine rs_storeAX 3 rfl rfl rfl rfl rfl rfl rfl rfl rfl ?_ | refine rs_storeAX 4 rfl rfl rfl rfl rfl rfl rfl rfl rfl ?_ | refine rs_storeAX 5 rfl rfl rfl rfl rfl rfl rfl rfl rfl ?_ | refine rs_storeAS 0 rfl rfl rfl rfl rfl rfl ?_ | refine rs_storeAS 1 rfl rfl rfl rfl rfl rfl ?_ | refine rs_storeAS 2 rfl rfl rfl rfl rfl rfl ?_ | refine rs_storeAS 3 rfl rfl rfl rfl rfl rfl ?_)
          | refine rs_op rfl (opj_build2 rfl rfl) ?_
          | refine rs_op rfl (opj_lookupV hv rfl rfl ha hb) ?_
          | refine rs_mapUpdate hg rfl rfl rfl ha hb ?_
    exact done_w0 (.inr rfl) rfl (fun _ h => h)
end Go.Ab
