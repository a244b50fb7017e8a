/- Functions that give a list of numbers, or none. No conditions. -/
import Derived.Test.YtljgokghchhjaaaMark
import Derived.Test.YtljgokghchhjaaaSpan
namespace Go.Ab
open Go.Proofs

theorem fnh_drop {X : Type} {P : Program} {f : FuncId} {A : World → List AV} {mk : X → AV} {post : X → List Ent} {good : X → Prop} {r : AV} (h : FnH P f A [] mk post good) (hr : ∀ y, mk y = r) : FnH (X := Unit) P f A [] (fun _ => r) (fun _ => []) (fun _ => True) :=
  fun w vs h1 h2 h3 => (h w vs h1 h2 h3).mono fun x w' ⟨v, y, e, _, hv, hm, _, _⟩ => ⟨v, (), e, trivial, by rw [← hr y]; exact hv, hm, (fun _ h => by cases h), List.Pairwise.nil⟩
attribute [local irreducible] WS RS Done OpJ Then InBlock Round Ret Env.sub FnH

theorem ifNumbers_yes (n c g : Nat) (f : Int → FV) (hn : n < 2 ^ 40 ∧ n ≤ c ∧ c ≤ maxLen) (hf : (tab n f).all finB = true) : FnH (X := Unit) Try.prog 41 (fun _ => [.raw (.slice (some ⟨g, 0, none⟩) n c)]) [entF g 24 n f c]
    (fun _ => .tup [.raw (.slice (some ⟨g, 0, none⟩) n c), .raw (.bool true)]) (fun _ => [entF g 24 n f c]) (fun _ => True) := by
  have hA : Fn Try.prog 20 (fun w => [slF w (tab n f)]) (.raw (.bool true)) := hf ▸ areFinite_fn (tab n f) (by simp; omega)
  refine fn_intro Try.func41 rfl Try.ntmps41 (fun _ => Nat.le_of_ble_eq_true rfl) fun w0 => ?_
  repeat first | refine zaa rfl (zay rfl) ?_ | refine zaa rfl (zaz rfl) ?_ | (refine zac ?_; first | refine zaa rfl (zba rfl rfl rfl) ?_ | refine zaa rfl (zbb rfl rfl (by omega)) ?_ | refine zaa rfl (zbc rfl rfl (by omega)) ?_ | refine zaa rfl (zbd rfl rfl rfl) ?_ | refine zaa rfl (zbe rfl rfl) ?_ | refine zaa rfl (zbf rfl rfl) ?_ | refine zaa rfl (zbg rfl rfl) ?_ | refine zaa rfl (zbh rfl rfl) ?_ | refine zaa rfl (zbi rfl rfl) ?_ | refine zaa rfl (zbj rfl rfl) ?_ | refine zaa rfl (zbk rfl rfl) ?_ | refine zaa rfl (zbl rfl rfl) ?_) | (refine zad ?_; first | refine zaa rfl (zbo rfl) ?_ | refine zaa rfl (zbm rfl) ?_ | refine zaa rfl (zbn rfl) ?_ | refine zaa rfl (zbp rfl) ?_ | refine zaa rfl (zbq rfl) ?_ | refine zaa rfl (zbr rfl rfl) ?_) | (refine zae ?_; first | refine zaa rfl (zbt rfl rfl (by (repeat (first | exact mh | refine mt ?_)); done) (by omega)) ?_ | refine zaa rfl (zbu rfl rfl) ?_) | (refine zaf ?_; first | refine zaa rfl (zbs rfl rfl (by omega) (by omega)) ?_ | refine zaa rfl (zbv rfl rfl (by omega) (by omega)) ?_ | refine zaa rfl (zbw rfl rfl (by omega) (by omega)) ?_) | refine zaa rfl (zbx rfl) ?_ | refine zaa rfl (zby rfl) ?_ | refine zaa rfl (zbz rfl rfl) ?_ | refine zaa rfl (zca rfl rfl) ?_ | refine zaa rfl (zcb rfl rfl) ?_ | refine zaa rfl (zcc rfl) ?_ | refine zah ?_ | (refine zcr ?_; first | refine zcs ?_ | refine zct ?_ | refine zcu ?_ | refine zcv ?_ | refine zcw ?_ | refine zcx ?_ | refine zcy rfl ?_ | refine zcz ?_ | refine zda ?_) | (refine zdb ?_; first | refine zdc ?_ | refine zdd ?_ | refine zde ?_ | refine zdf ?_ | refine zdg ?_ | refine zdh ?_ | refine zdi rfl ?_ | refine zdj rfl ?_) | refine zai rfl rfl ?_ | refine zaj rfl rfl rfl rfl ?_ | (refine zaa rfl (zci rfl rfl hA ?_) ?_; (focus (exact Takes.own (List.Mem.head _) (by simp) hn.2.1 hn.2.2 Takes.nil)))
  exact done_ret2 rfl () rfl rfl rfl trivial (List.Sublist.refl _)
theorem ifNumbers_no (n c g : Nat) (f : Int → FV) (hn : n < 2 ^ 40 ∧ n ≤ c ∧ c ≤ maxLen) (hf : (tab n f).all finB = false) : FnH (X := Unit) Try.prog 41 (fun _ => [.raw (.slice (some ⟨g, 0, none⟩) n c)]) [entF g 24 n f c]
    (fun _ => .tup [.raw (.slice none 0 0), .raw (.bool false)]) (fun _ => [entF g 24 n f c]) (fun _ => True) := by
  have hA : Fn Try.prog 20 (fun w => [slF w (tab n f)]) (.raw (.bool false)) := hf ▸ areFinite_fn (tab n f) (by simp; omega)
  refine fn_intro Try.func41 rfl Try.ntmps41 (fun _ => Nat.le_of_ble_eq_true rfl) fun w0 => ?_
  repeat first | refine zaa rfl (zay rfl) ?_ | refine zaa rfl (zaz rfl) ?_ | (refine zac ?_; first | refine zaa rfl (zba rfl rfl rfl) ?_ | refine zaa rfl (zbb rfl rfl (by omega)) ?_ | refine zaa rfl (zbc rfl rfl (by omega)) ?_ | refine zaa rfl (zbd rfl rfl rfl) ?_ | refine zaa rfl (zbe rfl rfl) ?_ | refine zaa rfl (zbf rfl rfl) ?_ | refine zaa rfl (zbg rfl rfl) ?_ | refine zaa rfl (zbh rfl rfl) ?_ | refine zaa rfl (zbi rfl rfl) ?_ | refine zaa rfl (zbj rfl rfl) ?_ | refine zaa rfl (zbk rfl rfl) ?_ | refine zaa rfl (zbl rfl rfl) ?_) | (refine zad ?_; first | refine zaa rfl (zbo rfl) ?_ | refine zaa rfl (zbm rfl) ?_ | refine zaa rfl (zbn rfl) ?_ | refine zaa rfl (zbp rfl) ?_ | refine zaa rfl (zbq rfl) ?_ | refine zaa rfl (zbr rfl rfl) ?_) | (refine zae ?_; first | refine zaa rfl (zbt rfl rfl (by (repeat (first | exact mh | refine mt ?_)); done) (by omega)) ?_ | refine zaa rfl (zbu rfl rfl) ?_) | (refine zaf ?_; first | refine zaa rfl (zbs rfl rfl (by omega) (by omega)) ?_ | refine zaa rfl (zbv rfl rfl (by omega) (by omega)) ?_ | refine zaa rfl (zbw rfl rfl (by omega) (by omega)) ?_) | refine zaa rfl (zbx rfl) ?_ | refine zaa rfl (zby rfl) ?_ | refine zaa rfl (zbz rfl rfl) ?_ | refine zaa rfl (zca rfl rfl) ?_ | refine zaa rfl (zcb rfl rfl) ?_ | refine zaa rfl (zcc rfl) ?_ | refine zah ?_ | (refine zcr ?_; first | refine zcs ?_ | refine zct ?_ | refine zcu ?_ | refine zcv ?_ | refine zcw ?_ | refine zcx ?_ | refine zcy rfl ?_ | refine zcz ?_ | refine zda ?_) | (refine zdb ?_; first | refine zdc ?_ | refine zdd ?_ | refine zde ?_ | refine zdf ?_ | refine zdg ?_ | refine zdh ?_ | refine zdi rfl ?_ | refine zdj rfl ?_) | refine zai rfl rfl ?_ | refine zaj rfl rfl rfl rfl ?_ | (refine zaa rfl (zci rfl rfl hA ?_) ?_; (focus (exact Takes.own (List.Mem.head _) (by simp) hn.2.1 hn.2.2 Takes.nil)))
  exact done_ret2 rfl () rfl rfl rfl trivial (List.Sublist.refl _)

/-- What a function that makes a list tells: the list, or none. -/
def lstT (g n : Nat) : AV := .tup [.raw (.slice (some ⟨g, 0, none⟩) n n), .raw (.bool true)]
def noT : AV := .tup [.raw (.slice none 0 0), .raw (.bool false)]

theorem graph_tab {n m : Nat} {f g : Int → FV} (h : graphB (tab n f) (tab m g) = true) : 2 ≤ n ∧ n ≤ 48 ∧ m = n := by
  have := graph_len h
  simpa using this
/-- The list if it is finite, else none. -/
def numsT (b : Bool) (g n : Nat) : AV := .tup [.raw (match b with | true => .slice (some ⟨g, 0, none⟩) n n | false => .slice none 0 0), .raw (.bool b)]
theorem ifNumbers_any (n g : Nat) (f : Int → FV) (b : Bool) (hn : n < 2 ^ 40) (hf : (tab n f).all finB = b) : FnH (X := Unit) Try.prog 41 (fun _ => [.raw (.slice (some ⟨g, 0, none⟩) n n)]) [entF g 24 n f n]
    (fun _ => numsT b g n) (fun _ => [entF g 24 n f n]) (fun _ => True) := by
  cases b
  · exact ifNumbers_no n n g f (by simp only [maxLen]; omega) hf
  · exact ifNumbers_yes n n g f (by simp only [maxLen]; omega) hf
end Go.Ab
