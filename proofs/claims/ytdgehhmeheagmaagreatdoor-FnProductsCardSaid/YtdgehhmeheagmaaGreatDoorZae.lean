/- Part 5 of the texts on which the law leans, joined: Lists of complex numbers as texts, written and read back; walked. No conditions. -/
import Derived.Shelf.Strings.OnBuilder
import Derived.Shelf.Strings.Repeat
import Derived.Shelf.Strings.SplitCore
import Derived.Shelf.Strings.Search3
import Derived.Shelf.Strings.Count
import Derived.Lib.SplitLaws
import Derived.Lib.IndexBytes
import Derived.Lib.SliceRun
import Derived.Test.YtdgehhmeheagmaaGreatDoorZad
namespace Go.Ab
open Go.Proofs Go.Shelf
def lays156_ren : Go.Shelf.Ren := ⟨fun | 156 => 58 | 165 => 68 | 166 => 69 | 169 => 71 | 240 => 83 | 241 => 84 | 276 => 99 | 277 => 100 | n => n, fun | 31 => 61 | 9 => 9 | 3 => 3 | 4 => 4 | 0 => 0 | 20 => 20 | 72 => 96 | 76 => 98 | 70 => 94 | 37 => 22 | 75 => 84 | 127 => 115 | 164 => 130 | 5 => 5 | 80 => 101 | n => n, fun | n => n⟩
theorem lays156 : Go.Proofs.Lays.n156 Tryz.prog lays156_ren := {
  mixed := by kernel_rfl
  f156 := Tryz.func58.trans (congrArg some (by kernel_rfl))
  f165 := Tryz.func68.trans (congrArg some (by kernel_rfl))
  f166 := Tryz.func69.trans (congrArg some (by kernel_rfl))
  f169 := Tryz.func71.trans (congrArg some (by kernel_rfl))
  f240 := Tryz.func83.trans (congrArg some (by kernel_rfl))
  f241 := Tryz.func84.trans (congrArg some (by kernel_rfl))
  f276 := Tryz.func99.trans (congrArg some (by kernel_rfl))
  f277 := Tryz.func100.trans (congrArg some (by kernel_rfl))
  t0 := Tryz.underlying0
  a0 := Tryz.isAgg0
  z0 := Tryz.sizeOf0
  v0 := Tryz.zeroValue0
  t3 := Tryz.underlying3
  a3 := Tryz.isAgg3
  z3 := Tryz.sizeOf3
  v3 := Tryz.zeroValue3
  t4 := Tryz.underlying4
  a4 := Tryz.isAgg4
  z4 := Tryz.sizeOf4
  v4 := Tryz.zeroValue4
  t9 := Tryz.underlying9
  a9 := Tryz.isAgg9
  z9 := Tryz.sizeOf9
  v9 := Tryz.zeroValue9
  t20 := Tryz.underlying20
  a20 := Tryz.isAgg20
  z20 := Tryz.sizeOf20
  v20 := Tryz.zeroValue20
  t31 := Tryz.underlying61
  a31 := Tryz.isAgg61
  z31 := Tryz.sizeOf61
  v31 := Tryz.zeroValue61
  t37 := Tryz.underlying22
  a37 := Tryz.isAgg22
  z37 := Tryz.sizeOf22
  v37 := Tryz.zeroValue22
  t70 := Tryz.underlying94
  a70 := Tryz.isAgg94
  z70 := Tryz.sizeOf94
  v70 := Tryz.zeroValue94
  t72 := Tryz.underlying96
  a72 := Tryz.isAgg96
  z72 := Tryz.sizeOf96
  v72 := Tryz.zeroValue96
  t75 := Tryz.underlying84
  a75 := Tryz.isAgg84
  z75 := Tryz.sizeOf84
  v75 := Tryz.zeroValue84
  t76 := Tryz.underlying98
  a76 := Tryz.isAgg98
  z76 := Tryz.sizeOf98
  v76 := Tryz.zeroValue98
  t127 := Tryz.underlying115
  a127 := Tryz.isAgg115
  z127 := Tryz.sizeOf115
  v127 := Tryz.zeroValue115
  t164 := Tryz.underlying130
  a164 := Tryz.isAgg130
  z164 := Tryz.sizeOf130
  v164 := Tryz.zeroValue130 }
theorem Builder_Extra_156 : Builder.Extra Tryz.prog lays156_ren := {
  sizeBuilder := by kernel_rfl
  liesBuilder := by kernel_rfl
  t5 := Tryz.underlying5
  a5 := Tryz.isAgg5
  z5 := Tryz.sizeOf5
  v5 := Tryz.zeroValue5
  infoByte := by kernel_rfl
  cellsByte := by kernel_rfl
  sizeByte := by kernel_rfl
  neB5 := by decide }
def lays105_ren : Go.Shelf.Ren := ⟨fun | 105 => 57 | 212 => 66 | 99 => 67 | 165 => 68 | 166 => 69 | 170 => 70 | 169 => 71 | 263 => 80 | 264 => 81 | 206 => 82 | 240 => 83 | 241 => 84 | 276 => 99 | 277 => 100 | n => n, fun | 9 => 9 | 3 => 3 | 4 => 4 | 20 => 20 | 0 => 0 | 46 => 90 | 109 => 91 | 5 => 5 | 72 => 96 | 76 => 98 | 51 => 71 | 146 => 111 | 53 => 74 | 148 => 113 | 70 => 94 | 37 => 22 | 75 => 84 | 127 => 115 | 164 => 130 | 80 => 101 | n => n, fun | n => n⟩
theorem lays105 : Go.Proofs.Lays.n105 Tryz.prog lays105_ren := {
  mixed := by kernel_rfl
  f99 := Tryz.func67.trans (congrArg some (by kernel_rfl))
  f105 := Tryz.func57.trans (congrArg some (by kernel_rfl))
  f165 := Tryz.func68.trans (congrArg some (by kernel_rfl))
  f166 := Tryz.func69.trans (congrArg some (by kernel_rfl))
  f169 := Tryz.func71.trans (congrArg some (by kernel_rfl))
  f170 := Tryz.func70.trans (congrArg some (by kernel_rfl))
  f206 := Tryz.func82.trans (congrArg some (by kernel_rfl))
  f212 := Tryz.func66.trans (congrArg some (by kernel_rfl))
  f240 := Tryz.func83.trans (congrArg some (by kernel_rfl))
  f241 := Tryz.func84.trans (congrArg some (by kernel_rfl))
  f263 := Tryz.func80.trans (congrArg some (by kernel_rfl))
  f264 := Tryz.func81.trans (congrArg some (by kernel_rfl))
  f276 := Tryz.func99.trans (congrArg some (by kernel_rfl))
  f277 := Tryz.func100.trans (congrArg some (by kernel_rfl))
  t0 := Tryz.underlying0
  a0 := Tryz.isAgg0
  z0 := Tryz.sizeOf0
  v0 := Tryz.zeroValue0
  t3 := Tryz.underlying3
  a3 := Tryz.isAgg3
  z3 := Tryz.sizeOf3
  v3 := Tryz.zeroValue3
  t4 := Tryz.underlying4
  a4 := Tryz.isAgg4
  z4 := Tryz.sizeOf4
  v4 := Tryz.zeroValue4
  t5 := Tryz.underlying5
  a5 := Tryz.isAgg5
  z5 := Tryz.sizeOf5
  v5 := Tryz.zeroValue5
  t9 := Tryz.underlying9
  a9 := Tryz.isAgg9
  z9 := Tryz.sizeOf9
  v9 := Tryz.zeroValue9
  t20 := Tryz.underlying20
  a20 := Tryz.isAgg20
  z20 := Tryz.sizeOf20
  v20 := Tryz.zeroValue20
  t37 := Tryz.underlying22
  a37 := Tryz.isAgg22
  z37 := Tryz.sizeOf22
  v37 := Tryz.zeroValue22
  t46 := Tryz.underlying90
  a46 := Tryz.isAgg90
  z46 := Tryz.sizeOf90
  v46 := Tryz.zeroValue90
  t51 := Tryz.underlying71
  a51 := Tryz.isAgg71
  z51 := Tryz.sizeOf71
  v51 := Tryz.zeroValue71
  t53 := Tryz.underlying74
  a53 := Tryz.isAgg74
  z53 := Tryz.sizeOf74
  v53 := Tryz.zeroValue74
  t70 := Tryz.underlying94
  a70 := Tryz.isAgg94
  z70 := Tryz.sizeOf94
  v70 := Tryz.zeroValue94
  t72 := Tryz.underlying96
  a72 := Tryz.isAgg96
  z72 := Tryz.sizeOf96
  v72 := Tryz.zeroValue96
  t75 := Tryz.underlying84
  a75 := Tryz.isAgg84
  z75 := Tryz.sizeOf84
  v75 := Tryz.zeroValue84
  t76 := Tryz.underlying98
  a76 := Tryz.isAgg98
  z76 := Tryz.sizeOf98
  v76 := Tryz.zeroValue98
  t109 := Tryz.underlying91
  a109 := Tryz.isAgg91
  z109 := Tryz.sizeOf91
  v109 := Tryz.zeroValue91
  t127 := Tryz.underlying115
  a127 := Tryz.isAgg115
  z127 := Tryz.sizeOf115
  v127 := Tryz.zeroValue115
  t146 := Tryz.underlying111
  a146 := Tryz.isAgg111
  z146 := Tryz.sizeOf111
  v146 := Tryz.zeroValue111
  t148 := Tryz.underlying113
  a148 := Tryz.isAgg113
  z148 := Tryz.sizeOf113
  v148 := Tryz.zeroValue113
  t164 := Tryz.underlying130
  a164 := Tryz.isAgg130
  z164 := Tryz.sizeOf130
  v164 := Tryz.zeroValue130 }
theorem Builder_Extra_105 : Builder.Extra Tryz.prog lays105_ren := {
  sizeBuilder := by kernel_rfl
  liesBuilder := by kernel_rfl
  t5 := Tryz.underlying5
  a5 := Tryz.isAgg5
  z5 := Tryz.sizeOf5
  v5 := Tryz.zeroValue5
  infoByte := by kernel_rfl
  cellsByte := by kernel_rfl
  sizeByte := by kernel_rfl
  neB5 := by decide }
def lays221_ren : Go.Shelf.Ren := ⟨fun | 221 => 72 | 268 => 85 | 138 => 86 | 143 => 87 | 195 => 101 | 197 => 102 | 218 => 103 | 219 => 104 | 260 => 110 | 217 => 111 | 225 => 112 | 224 => 113 | 267 => 114 | 266 => 116 | 314 => 117 | n => n, fun | 9 => 9 | 3 => 3 | 31 => 61 | 4 => 4 | 0 => 0 | 105 => 134 | 21 => 21 | 5 => 5 | 46 => 90 | 119 => 147 | 139 => 150 | 138 => 149 | 146 => 111 | 51 => 71 | n => n, fun | 1 => 4 | 3 => 7 | 4 => 8 | n => n⟩
theorem lays221 : Go.Proofs.Lays.n221 Tryz.prog lays221_ren := {
  mixed := by kernel_rfl
  f138 := Tryz.func86.trans (congrArg some (by kernel_rfl))
  f143 := Tryz.func87.trans (congrArg some (by kernel_rfl))
  f195 := Tryz.func101.trans (congrArg some (by kernel_rfl))
  f197 := Tryz.func102.trans (congrArg some (by kernel_rfl))
  f217 := Tryz.func111.trans (congrArg some (by kernel_rfl))
  f218 := Tryz.func103.trans (congrArg some (by kernel_rfl))
  f219 := Tryz.func104.trans (congrArg some (by kernel_rfl))
  f221 := Tryz.func72.trans (congrArg some (by kernel_rfl))
  f224 := Tryz.func113.trans (congrArg some (by kernel_rfl))
  f225 := Tryz.func112.trans (congrArg some (by kernel_rfl))
  f260 := Tryz.func110.trans (congrArg some (by kernel_rfl))
  f266 := Tryz.func116.trans (congrArg some (by kernel_rfl))
  f267 := Tryz.func114.trans (congrArg some (by kernel_rfl))
  f268 := Tryz.func85.trans (congrArg some (by kernel_rfl))
  f314 := Tryz.func117.trans (congrArg some (by kernel_rfl))
  t0 := Tryz.underlying0
  a0 := Tryz.isAgg0
  z0 := Tryz.sizeOf0
  v0 := Tryz.zeroValue0
  t3 := Tryz.underlying3
  a3 := Tryz.isAgg3
  z3 := Tryz.sizeOf3
  v3 := Tryz.zeroValue3
  t4 := Tryz.underlying4
  a4 := Tryz.isAgg4
  z4 := Tryz.sizeOf4
  v4 := Tryz.zeroValue4
  t5 := Tryz.underlying5
  a5 := Tryz.isAgg5
  z5 := Tryz.sizeOf5
  v5 := Tryz.zeroValue5
  t9 := Tryz.underlying9
  a9 := Tryz.isAgg9
  z9 := Tryz.sizeOf9
  v9 := Tryz.zeroValue9
  t21 := Tryz.underlying21
  a21 := Tryz.isAgg21
  z21 := Tryz.sizeOf21
  v21 := Tryz.zeroValue21
  t31 := Tryz.underlying61
  a31 := Tryz.isAgg61
  z31 := Tryz.sizeOf61
  v31 := Tryz.zeroValue61
  t46 := Tryz.underlying90
  a46 := Tryz.isAgg90
  z46 := Tryz.sizeOf90
  v46 := Tryz.zeroValue90
  t51 := Tryz.underlying71
  a51 := Tryz.isAgg71
  z51 := Tryz.sizeOf71
  v51 := Tryz.zeroValue71
  t105 := Tryz.underlying134
  a105 := Tryz.isAgg134
  z105 := Tryz.sizeOf134
  v105 := Tryz.zeroValue134
  t119 := Tryz.underlying147
  a119 := Tryz.isAgg147
  z119 := Tryz.sizeOf147
  t138 := Tryz.underlying149
  a138 := Tryz.isAgg149
  z138 := Tryz.sizeOf149
  v138 := Tryz.zeroValue149
  t139 := Tryz.underlying150
  a139 := Tryz.isAgg150
  z139 := Tryz.sizeOf150
  v139 := Tryz.zeroValue150
  t146 := Tryz.underlying111
  a146 := Tryz.isAgg111
  z146 := Tryz.sizeOf111
  v146 := Tryz.zeroValue111
  g1 := by kernel_rfl
  g3 := by kernel_rfl
  g4 := by kernel_rfl }
variable {R : World → Prop} [RStab R]
/-- A text, as an element of a list. -/
def strA (s : ByteArray) : AV := .raw (.string s)
theorem repeat_fn (c : Nat) (hc : c ≤ 1000) : Fn Tryz.prog 57 (fun _ => [.raw (.string (bstr [48])), .raw (.int .i64 (c : Int))]) (.raw (.string (bstr (List.replicate c 48)))) := by
  intro w vs hr _ _
  obtain ⟨v0, r0, rfl, h0, hr⟩ := hr.inv_cons
  obtain ⟨v1, r1, rfl, h1, hr⟩ := hr.inv_cons
  obtain rfl := hr.inv_nil
  rw [h0.inv_raw, h1.inv_raw]
  have hcall := Any.strings_Repeat lays105 Builder_Extra_105 (bstr [48]) c w (by omega) (by rw [bstr_size]; simp only [List.length_singleton]; omega)
  refine Calls.mono hcall fun x w' ⟨he, hw⟩ => ⟨_, (), he, trivial, ?_, Mod.of_ext hw [], (fun _ h => nomatch h), List.Pairwise.nil⟩
  rw [show (bstr [48]).data.toList = List.replicate 1 48 from rfl, Lib.repeatL_replicate, Nat.mul_one]
  exact .raw
theorem join_fn (xs : List ByteArray) (h0 : xs ≠ []) (hn : xs.length ≤ 1000) (hl : (Lib.join (xs.map (·.data.toList)) [44]).length ≤ 1000000) :
    Fn Tryz.prog 58 (fun w => [AV.sl w 1 (xs.map strA), .raw (.string (bstr [44]))]) (.raw (.string (bstr (Lib.join (xs.map (·.data.toList)) [44])))) := by
  intro w vs hr _ _
  obtain ⟨v0, r0, rfl, h0', hr⟩ := hr.inv_cons
  obtain ⟨v1, r1, rfl, h1, hr⟩ := hr.inv_cons
  obtain rfl := hr.inv_nil
  obtain ⟨a, len, cap, rfl, hlen, hcap, hmax, hx⟩ := (h0'.inv_q : Rd w 1 _ _)
  rw [h1.inv_raw]
  have hlen' : len = xs.length := by simpa using hlen.symm
  subst hlen'
  obtain ⟨x0, hx0⟩ : ∃ x0, xs[0]? = some x0 := by
    cases xs with
    | nil => exact absurd rfl h0
    | cons x r => exact ⟨x, rfl⟩
  have hcell : ∀ (b : Addr), a = some b → ∀ (j : Nat) x, xs[j]? = some x → w.cell? ⟨b.block, b.off + j, none⟩ = some (.string x) := fun b hb j x hj => by
    obtain ⟨b', hb', hs, u, hu, hev⟩ := hx j (strA x) (by simp [hj])
    rw [hb] at hb'
    cases hb'
    rw [hu, (hev w).inv_raw]
  obtain ⟨b, hb, hs, -⟩ := hx 0 (strA x0) (by simp [hx0])
  subst hb
  have hbk : b.block < w.heap.size := World.block_lt_of_cell? w ⟨b.block, b.off + 0, none⟩ (hcell b rfl 0 x0 hx0)
  have hcall := Any.strings_Join lays156 Builder_Extra_156 b.block b.off cap xs (bstr [44]) w (hcell b rfl) hbk (by omega) hcap (by rw [show (bstr [44]).data.toList = [44] from rfl]; omega)
  have eb : (⟨b.block, b.off, none⟩ : Addr) = b := by cases b; cases hs; rfl
  rw [eb] at hcall
  exact Calls.mono hcall fun x w' ⟨he, hw⟩ => ⟨_, (), he, trivial, .raw, Mod.of_ext hw [], (fun _ h => nomatch h), List.Pairwise.nil⟩
theorem indexByte_at : ∀ {l : List UInt8} {r : List UInt8} {c : UInt8}, c ∉ l → Lib.indexByte (l ++ c :: r) c = (l.length : Int)
  | [], r, c, _ => by simp [Lib.indexByte]
  | b :: l, r, c, h => by
    have hb : ¬ b = c := fun e => h (by rw [e]; exact List.mem_cons_self)
    have ih := indexByte_at (l := l) (r := r) (c := c) (fun hm => h (List.mem_cons_of_mem _ hm))
    rw [List.cons_append, Lib.indexByte, if_neg (by simpa using hb), ih, if_neg (by simp), List.length_cons]
    omega
theorem join_two (x y : List UInt8) (r : List (List UInt8)) : Lib.join (x :: y :: r) [44] = x ++ 44 :: Lib.join (y :: r) [44] := by
  rw [Lib.join_cons, Lib.join_cons]
  simp [Lib.joinTail]
theorem split_join : ∀ (L : List (List UInt8)), L ≠ [] → (∀ l ∈ L, (44 : UInt8) ∉ l) → Lib.splitK [44] 0 (L.length - 1) (Lib.join L [44]) = L
  | [], h, _ => absurd rfl h
  | [x], _, _ => by
    rw [Lib.join_one]
    rfl
  | x :: y :: r, _, h => by
    have ih := split_join (y :: r) (by simp) (fun l hl => h l (List.mem_cons_of_mem _ hl))
    have hx := h x List.mem_cons_self
    have hi : Lib.index (x ++ 44 :: Lib.join (y :: r) [44]) [44] = (x.length : Int) := by rw [Lib.index_one]; exact indexByte_at hx
    rw [join_two, show (x :: y :: r).length - 1 = (y :: r).length - 1 + 1 by simp]
    unfold Lib.splitK
    rw [hi, if_neg (by simp)]
    have e1 : (x ++ 44 :: Lib.join (y :: r) [44]).take ((x.length : Int).toNat + 0) = x := by simp
    have e2 : (x ++ 44 :: Lib.join (y :: r) [44]).drop ((x.length : Int).toNat + [(44 : UInt8)].length) = Lib.join (y :: r) [44] := by
      rw [show (x.length : Int).toNat + [(44 : UInt8)].length = x.length + 1 from rfl, List.drop_append]
      simp
    rw [e1, e2, ih]
theorem count_join : ∀ (L : List (List UInt8)), L ≠ [] → (∀ l ∈ L, (44 : UInt8) ∉ l) → (Lib.join L [44]).count 44 = L.length - 1
  | [], h, _ => absurd rfl h
  | [x], _, h => by
    rw [Lib.join_one, List.count_eq_zero_of_not_mem (h x List.mem_cons_self)]
    rfl
  | x :: y :: r, _, h => by
    have ih := count_join (y :: r) (by simp) (fun l hl => h l (List.mem_cons_of_mem _ hl))
    rw [join_two, List.count_append, List.count_cons_self, ih, List.count_eq_zero_of_not_mem (h x List.mem_cons_self)]
    simp
theorem bstr_inj {s : ByteArray} : s = bstr s.data.toList := by cases s; simp
theorem splitB_join (L : List (List UInt8)) (h0 : L ≠ []) (h : ∀ l ∈ L, (44 : UInt8) ∉ l) : Lib.splitB (bstr [44]) 0 (L.length - 1) (bstr (Lib.join L [44])) = L.map bstr := by
  have h1 := Lib.splitB_data (bstr [44]) 0 (L.length - 1) (bstr (Lib.join L [44]))
  have h2 : Lib.splitK (bstr [44]).data.toList 0 (L.length - 1) (bstr (Lib.join L [44])).data.toList = L := split_join L h0 h
  rw [h2] at h1
  have key : ∀ X : List ByteArray, X = (X.map (·.data.toList)).map bstr := fun X => by
    induction X with
    | nil => rfl
    | cons x r ih => rw [List.map_cons, List.map_cons, ← ih, ← bstr_inj]
  have e := key (Lib.splitB (bstr [44]) 0 (L.length - 1) (bstr (Lib.join L [44])))
  rw [h1] at e
  exact e
theorem countB_join (L : List (List UInt8)) (h0 : L ≠ []) (h : ∀ l ∈ L, (44 : UInt8) ∉ l) : Lib.countB (bstr (Lib.join L [44])) (bstr [44]) = L.length - 1 := by
  show Lib.count (Lib.join L [44]) [44] = _
  rw [Lib.count_one, count_join L h0 h]
theorem len_join : ∀ (L : List (List UInt8)), L ≠ [] → L.length ≤ (Lib.join L [44]).length + 1
  | [], h => absurd rfl h
  | [x], _ => by simp
  | x :: y :: r, _ => by
    have ih := len_join (y :: r) (by simp)
    rw [join_two]
    simp only [List.length_append, List.length_cons] at ih ⊢
    omega
theorem cellsOf_all (L : List ByteArray) : Lib.cellsOf L L.length = (L.map Value.string).toArray := by
  unfold Lib.cellsOf
  rw [Nat.sub_self]
  simp
theorem genSplit_fn (L : List (List UInt8)) (h0 : L ≠ []) (h : ∀ l ∈ L, (44 : UInt8) ∉ l) (hn : (Lib.join L [44]).length ≤ 1000000) :
    FnH (X := Nat) Tryz.prog 72 (fun _ => [.raw (.string (bstr (Lib.join L [44]))), .raw (.string (bstr [44])), .raw (.int .i64 0), .raw (.int .i64 (-1))]) []
      (fun g => .raw (.slice (some ⟨g, 0, none⟩) L.length L.length)) (fun g => [⟨g, 9, L.map (fun l => strA (bstr l)), L.length⟩]) (fun _ => True) := by
  intro w vs hr _ _
  obtain ⟨v0, r0, rfl, k0, hr⟩ := hr.inv_cons
  obtain ⟨v1, r1, rfl, k1, hr⟩ := hr.inv_cons
  obtain ⟨v2, r2, rfl, k2, hr⟩ := hr.inv_cons
  obtain ⟨v3, r3, rfl, k3, hr⟩ := hr.inv_cons
  obtain rfl := hr.inv_nil
  rw [k0.inv_raw, k1.inv_raw, k2.inv_raw, k3.inv_raw]
  have hpos : 1 ≤ L.length := by cases L with | nil => exact absurd rfl h0 | cons _ _ => simp
  have hlj := len_join L h0
  have hcb := countB_join L h0 h
  have hcall := Any.strings_genSplit_core lays221 (by kernel_rfl) (bstr (Lib.join L [44])) (bstr [44]) 0 (-1) L.length w (by rw [bstr_size]; omega) (by rw [bstr_size]; simp) (Nat.zero_le _)
    (fun x c _ => Calls.mono (Any.strings_Index_one { lays221 with } x 44 _) fun e w' ⟨he, hw⟩ => ⟨by rw [he, ← Lib.index_one], hw⟩)
    (Calls.mono (Any.strings_Count_one { lays221 with } (bstr (Lib.join L [44])) 44 w) fun e w' ⟨he, hw⟩ => ⟨by rw [he]; show _ = Ending.returned (Value.int .i64 ((Lib.count _ [44] : Nat) : Int)); rw [Lib.count_one]; rfl, hw⟩)
    (by decide) (by decide) (by rw [if_pos (by decide), hcb, bstr_size]; omega)
  rw [splitB_join L h0 h] at hcall
  have e1 : (L.map bstr).length = L.length := List.length_map ..
  have e2 : Lib.cellsOf (L.map bstr) L.length = ((L.map bstr).map Value.string).toArray := by rw [← cellsOf_all, e1]
  rw [e1, e2] at hcall
  refine Calls.mono hcall fun x w' ⟨he, hw⟩ => ⟨_, w.heap.size, he, trivial, .raw, ?_, ?_, ?_⟩
  · subst hw
    exact Mod.of_ext (Ext.alloc _ _) []
  · intro e hm
    obtain rfl := List.mem_singleton.1 hm
    subst hw
    refine ⟨?_, .inr (Nat.le_refl _)⟩
    have := ext_alloc_own (w := w) (T := 9) (xs := L.map (fun l => strA (bstr l))) (cs := ((L.map bstr).map Value.string).toArray) (fun k y hk => by
      rw [List.getElem?_map, Option.map_eq_some_iff] at hk
      obtain ⟨l, hl, rfl⟩ := hk
      exact ⟨.string (bstr l), by simp [hl], fun _ => .raw⟩)
    have hsz : (((L.map bstr).map Value.string).toArray).size = L.length := by simp
    rw [hsz] at this
    exact this
  · simp
attribute [local irreducible] WS RS Done OpJ Then InBlock Round Ret Env.sub FnH
theorem split_fn (L : List (List UInt8)) (h0 : L ≠ []) (h : ∀ l ∈ L, (44 : UInt8) ∉ l) (hn : (Lib.join L [44]).length ≤ 1000000) :
    FnH (X := Nat) Tryz.prog 59 (fun _ => [.raw (.string (bstr (Lib.join L [44]))), .raw (.string (bstr [44]))]) []
      (fun g => .raw (.slice (some ⟨g, 0, none⟩) L.length L.length)) (fun g => [⟨g, 9, L.map (fun l => strA (bstr l)), L.length⟩]) (fun _ => True) := by
  have hG := genSplit_fn L h0 h hn
  refine fn_intro Tryz.func59 rfl Tryz.ntmps59 (fun _ => Nat.le_of_ble_eq_true rfl) fun w0 => ?_
  repeat first | refine zai rfl rfl ?_ | refine zaj rfl rfl rfl rfl ?_ | refine zaa rfl (zay rfl) ?_ | refine zaa rfl (zaz rfl) ?_ | (refine zac ?_; first | refine zaa rfl (zba rfl rfl rfl) ?_ | refine zaa rfl (zbb rfl rfl (by omega)) ?_ | refine zaa rfl (zbc rfl rfl (by omega)) ?_ | refine zaa rfl (zbd rfl rfl rfl) ?_ | refine zaa rfl (zbe rfl rfl) ?_ | refine zaa rfl (zbf rfl rfl) ?_ | refine zaa rfl (zbg rfl rfl) ?_ | refine zaa rfl (zbh rfl rfl) ?_ | refine zaa rfl (zbi rfl rfl) ?_ | refine zaa rfl (zbj rfl rfl) ?_ | refine zaa rfl (zbk rfl rfl) ?_ | refine zaa rfl (zbl rfl rfl) ?_) | (refine zad ?_; first | refine zaa rfl (zbo rfl) ?_ | refine zaa rfl (zbm rfl) ?_ | refine zaa rfl (zbn rfl) ?_ | refine zaa rfl (zbp rfl) ?_ | refine zaa rfl (zbq rfl) ?_ | refine zaa rfl (zbr rfl rfl) ?_) | (refine zae ?_; first | refine zaa rfl (zbt rfl rfl (by (repeat (first | exact mh | refine mt ?_)); done) (by omega)) ?_ | refine zaa rfl (zcf rfl rfl (by (repeat (first | exact mh | refine mt ?_)); done) rfl) ?_ | refine zaa rfl (zcg rfl rfl (by (repeat (first | exact mh | refine mt ?_)); done) rfl rfl) ?_ | refine zaa rfl (zch rfl rfl rfl rfl) ?_ | refine zaa rfl (zbu rfl rfl) ?_) | (refine zaf ?_; first | refine zaa rfl (zbs rfl rfl (by omega) (by omega)) ?_ | refine zaa rfl (zbv rfl rfl (by omega) (by omega)) ?_ | refine zaa rfl (zbw rfl rfl (by omega) (by omega)) ?_) | refine zaa rfl (zcd rfl) ?_ | refine zaa rfl (zce rfl) ?_ | refine zaa rfl (zbx rfl) ?_ | refine zaa rfl (zby rfl) ?_ | refine zaa rfl (zbz rfl rfl) ?_ | refine zaa rfl (zca rfl rfl) ?_ | refine zaa rfl (zcb rfl rfl) ?_ | refine zaa rfl (zcc rfl) ?_ | refine zah ?_ | (refine zcr ?_; first | refine zcs ?_ | refine zct ?_ | refine zcu ?_ | refine zcv ?_ | refine zcw ?_ | refine zcx ?_ | refine zcy rfl ?_ | refine zcz ?_ | refine zda ?_) | (refine zdb ?_; first | refine zdc ?_ | refine zdd ?_ | refine zde ?_ | refine zdf ?_ | refine zdg ?_ | refine zdh ?_ | refine zdi rfl ?_ | refine zdj rfl ?_) | (refine zak rfl rfl rfl ?_; intro g) | (refine zal rfl rfl ?_; intro g) | (refine zag ?_; first | refine zam 0 rfl rfl rfl rfl rfl rfl ?_ | refine zam 1 rfl rfl rfl rfl rfl rfl ?_ | refine zan 0 rfl rfl rfl rfl rfl rfl rfl rfl rfl ?_ | refine zan 1 rfl rfl rfl rfl rfl rfl rfl rfl rfl ?_ | refine zao 0 rfl rfl rfl rfl rfl rfl ?_ | refine zao 1 rfl rfl rfl rfl rfl rfl ?_)
  refine rs_callM3 hG rfl rfl (Takes.same (Takes.same (Takes.same (Takes.same Takes.nil)))) rfl ?_
  rintro g -
  repeat first | refine zai rfl rfl ?_ | refine zaj rfl rfl rfl rfl ?_ | refine zaa rfl (zay rfl) ?_ | refine zaa rfl (zaz rfl) ?_ | (refine zac ?_; first | refine zaa rfl (zba rfl rfl rfl) ?_ | refine zaa rfl (zbb rfl rfl (by omega)) ?_ | refine zaa rfl (zbc rfl rfl (by omega)) ?_ | refine zaa rfl (zbd rfl rfl rfl) ?_ | refine zaa rfl (zbe rfl rfl) ?_ | refine zaa rfl (zbf rfl rfl) ?_ | refine zaa rfl (zbg rfl rfl) ?_ | refine zaa rfl (zbh rfl rfl) ?_ | refine zaa rfl (zbi rfl rfl) ?_ | refine zaa rfl (zbj rfl rfl) ?_ | refine zaa rfl (zbk rfl rfl) ?_ | refine zaa rfl (zbl rfl rfl) ?_) | (refine zad ?_; first | refine zaa rfl (zbo rfl) ?_ | refine zaa rfl (zbm rfl) ?_ | refine zaa rfl (zbn rfl) ?_ | refine zaa rfl (zbp rfl) ?_ | refine zaa rfl (zbq rfl) ?_ | refine zaa rfl (zbr rfl rfl) ?_) | (refine zae ?_; first | refine zaa rfl (zbt rfl rfl (by (repeat (first | exact mh | refine mt ?_)); done) (by omega)) ?_ | refine zaa rfl (zcf rfl rfl (by (repeat (first | exact mh | refine mt ?_)); done) rfl) ?_ | refine zaa rfl (zcg rfl rfl (by (repeat (first | exact mh | refine mt ?_)); done) rfl rfl) ?_ | refine zaa rfl (zch rfl rfl rfl rfl) ?_ | refine zaa rfl (zbu rfl rfl) ?_) | (refine zaf ?_; first | refine zaa rfl (zbs rfl rfl (by omega) (by omega)) ?_ | refine zaa rfl (zbv rfl rfl (by omega) (by omega)) ?_ | refine zaa rfl (zbw rfl rfl (by omega) (by omega)) ?_) | refine zaa rfl (zcd rfl) ?_ | refine zaa rfl (zce rfl) ?_ | refine zaa rfl (zbx rfl) ?_ | refine zaa rfl (zby rfl) ?_ | refine zaa rfl (zbz rfl rfl) ?_ | refine zaa rfl (zca rfl rfl) ?_ | refine zaa rfl (zcb rfl rfl) ?_ | refine zaa rfl (zcc rfl) ?_ | refine zah ?_ | (refine zcr ?_; first | refine zcs ?_ | refine zct ?_ | refine zcu ?_ | refine zcv ?_ | refine zcw ?_ | refine zcx ?_ | refine zcy rfl ?_ | refine zcz ?_ | refine zda ?_) | (refine zdb ?_; first | refine zdc ?_ | refine zdd ?_ | refine zde ?_ | refine zdf ?_ | refine zdg ?_ | refine zdh ?_ | refine zdi rfl ?_ | refine zdj rfl ?_) | (refine zak rfl rfl rfl ?_; intro g) | (refine zal rfl rfl ?_; intro g) | (refine zag ?_; first | refine zam 0 rfl rfl rfl rfl rfl rfl ?_ | refine zam 1 rfl rfl rfl rfl rfl rfl ?_ | refine zan 0 rfl rfl rfl rfl rfl rfl rfl rfl rfl ?_ | refine zan 1 rfl rfl rfl rfl rfl rfl rfl rfl rfl ?_ | refine zao 0 rfl rfl rfl rfl rfl rfl ?_ | refine zao 1 rfl rfl rfl rfl rfl rfl ?_)
  exact done_ret1 rfl g rfl trivial (List.Sublist.refl _)
end Go.Ab
namespace Go.Ab
open Go.Proofs
variable {R : World → Prop} [RStab R]
def bitN (x : FV) : Nat := (bitsF x).toNat
theorem bitN_ok {x : FV} (h : Ok32 x) : bitN x < 4294967296 ∧ bitsF x = (bitN x : Int) ∧ fv .f32 (bitN x) = x := by
  cases x with
  | none => exact ⟨by decide, by decide, by decide +kernel⟩
  | some a =>
    obtain ⟨h1, h2⟩ := h.some
    exact ⟨h1, rfl, fv_some h2⟩
theorem lowD_succ (n k : Nat) : lowD n (k + 1) = dgt n k :: lowD n k := by
  unfold lowD
  rw [List.range_succ_eq_map, List.map_cons, List.map_map]
  have e : (List.range k).map ((fun i => dgt n (k + 1 - 1 - i)) ∘ Nat.succ) = (List.range k).map fun i => dgt n (k - 1 - i) := List.map_congr_left fun i hi => by
    show dgt n (k + 1 - 1 - (i + 1)) = _
    rw [show k + 1 - 1 - (i + 1) = k - 1 - i by omega]
  rw [e]
  rfl
theorem dgt_zero {n k : Nat} (h : n < 16 ^ k) : dgt n k = 48 := by
  unfold dgt
  rw [Nat.div_eq_of_lt h]
  decide
theorem lowD_pad {n m : Nat} (h : n < 16 ^ m) : ∀ d, List.replicate d 48 ++ lowD n m = lowD n (m + d)
  | 0 => rfl
  | d + 1 => by
    have ih := lowD_pad h d
    rw [List.replicate_succ, List.cons_append, ih, ← Nat.add_assoc, lowD_succ, dgt_zero (Nat.lt_of_lt_of_le h (Nat.pow_le_pow_right (by decide) (by omega)))]
theorem hexD_no (d : Nat) (h : d < 16) : hexD d ≠ 44 := by
  have : ∀ d : Fin 16, hexD d.1 ≠ 44 := by decide
  exact this ⟨d, h⟩
theorem lowD_no (n m : Nat) : (44 : UInt8) ∉ lowD n m := fun h => by
  unfold lowD at h
  obtain ⟨i, _, hi⟩ := List.mem_map.1 h
  exact hexD_no _ (Nat.mod_lt _ (by decide)) hi
attribute [local irreducible] WS RS Done OpJ Then InBlock Round Ret Env.sub FnH
theorem bitsOf_fn (x : FV) (hx : Ok32 x) : Fn Tryz.prog 20 (fun _ => [.f .f32 x]) (.raw (.int .i64 (bitsF x))) := by
  cases x with
  | none =>
    refine fn_intro Tryz.func20 rfl Tryz.ntmps20 (fun _ => Nat.le_of_ble_eq_true rfl) fun w0 => ?_
    repeat first | refine zai rfl rfl ?_ | refine zaj rfl rfl rfl rfl ?_ | refine zaa rfl (zay rfl) ?_ | refine zaa rfl (zaz rfl) ?_ | (refine zac ?_; first | refine zaa rfl (zba rfl rfl rfl) ?_ | refine zaa rfl (zbb rfl rfl (by omega)) ?_ | refine zaa rfl (zbc rfl rfl (by omega)) ?_ | refine zaa rfl (zbd rfl rfl rfl) ?_ | refine zaa rfl (zbe rfl rfl) ?_ | refine zaa rfl (zbf rfl rfl) ?_ | refine zaa rfl (zbg rfl rfl) ?_ | refine zaa rfl (zbh rfl rfl) ?_ | refine zaa rfl (zbi rfl rfl) ?_ | refine zaa rfl (zbj rfl rfl) ?_ | refine zaa rfl (zbk rfl rfl) ?_ | refine zaa rfl (zbl rfl rfl) ?_) | (refine zad ?_; first | refine zaa rfl (opj_lenC rfl) ?_ | refine zaa rfl (zbo rfl) ?_ | refine zaa rfl (zbm rfl) ?_ | refine zaa rfl (zbn rfl) ?_ | refine zaa rfl (zbp rfl) ?_ | refine zaa rfl (zbq rfl) ?_ | refine zaa rfl (zbr rfl rfl) ?_) | (refine zae ?_; first | refine zaa rfl (opj_loadC rfl rfl (by (repeat (first | exact mh | refine mt ?_)); done) (by omega)) ?_ | refine zaa rfl (zbt rfl rfl (by (repeat (first | exact mh | refine mt ?_)); done) (by omega)) ?_ | refine zaa rfl (zcf rfl rfl (by (repeat (first | exact mh | refine mt ?_)); done) rfl) ?_ | refine zaa rfl (zcg rfl rfl (by (repeat (first | exact mh | refine mt ?_)); done) rfl rfl) ?_ | refine zaa rfl (zch rfl rfl rfl rfl) ?_ | refine zaa rfl (zbu rfl rfl) ?_) | (refine zaf ?_; first | refine zaa rfl (opj_indexC rfl rfl (by omega) (by omega)) ?_ | refine zaa rfl (zbs rfl rfl (by omega) (by omega)) ?_ | refine zaa rfl (zbv rfl rfl (by omega) (by omega)) ?_ | refine zaa rfl (zbw rfl rfl (by omega) (by omega)) ?_) | refine zaa rfl (zcd rfl) ?_ | refine zaa rfl (zce rfl) ?_ | refine zaa rfl (zbx rfl) ?_ | refine zaa rfl (zby rfl) ?_ | refine zaa rfl (zbz rfl rfl) ?_ | refine zaa rfl (zca rfl rfl) ?_ | refine zaa rfl (zcb rfl rfl) ?_ | refine zaa rfl (zcc rfl) ?_ | refine zah ?_ | (refine zcr ?_; first | refine zcs ?_ | refine zct ?_ | refine zcu ?_ | refine zcv ?_ | refine zcw ?_ | refine zcx ?_ | refine zcy rfl ?_ | refine zcz ?_ | refine zda ?_) | (refine zdb ?_; first | refine zdc ?_ | refine zdd ?_ | refine zde ?_ | refine zdf ?_ | refine zdg ?_ | refine zdh ?_ | refine zdi rfl ?_ | refine zdj rfl ?_) | (refine zak rfl rfl rfl ?_; intro g) | (refine zal rfl rfl ?_; intro g) | (refine zag ?_; first | refine zam 0 rfl rfl rfl rfl rfl rfl ?_ | refine zam 1 rfl rfl rfl rfl rfl rfl ?_ | refine zam 2 rfl rfl rfl rfl rfl rfl ?_ | refine zam 3 rfl rfl rfl rfl rfl rfl ?_ | refine zam 4 rfl rfl rfl rfl rfl rfl ?_ | refine zam 5 rfl rfl rfl rfl rfl rfl ?_ | refine zan 0 rfl rfl rfl rfl rfl rfl rfl rfl rfl ?_ | refine zan 1 rfl rfl rfl rfl rfl rfl rfl rfl rfl ?_ | refine zan 2 rfl rfl rfl rfl rfl rfl rfl rfl rfl ?_ | refine zan 3 rfl rfl rfl rfl rfl rfl rfl rfl rfl ?_ | refine zan 4 rfl rfl rfl rfl rfl rfl rfl rfl rfl ?_ | refine zan 5 rfl rfl rfl rfl rfl rfl rfl rfl rfl ?_ | refine zao 0 rfl rfl rfl rfl rfl rfl ?_ | refine zao 1 rfl rfl rfl rfl rfl rfl ?_ | refine zao 2 rfl rfl rfl rfl rfl rfl ?_ | refine zao 3 rfl rfl rfl rfl rfl rfl ?_)
    exact done_ret1 rfl () rfl trivial (List.nil_sublist _)
  | some a =>
    have hs : cmpB .neq (fcmp .f32 (some a) (some a)) = false := by rw [self_eq hx.some.2]; rfl
    refine fn_intro Tryz.func20 rfl Tryz.ntmps20 (fun _ => Nat.le_of_ble_eq_true rfl) fun w0 => ?_
    repeat first | refine zai rfl rfl ?_ | refine zaj rfl rfl rfl rfl ?_ | refine zaa rfl (zay rfl) ?_ | refine zaa rfl (zaz rfl) ?_ | (refine zac ?_; first | refine zaa rfl (zba rfl rfl rfl) ?_ | refine zaa rfl (zbb rfl rfl (by omega)) ?_ | refine zaa rfl (zbc rfl rfl (by omega)) ?_ | refine zaa rfl (zbd rfl rfl rfl) ?_ | refine zaa rfl (zbe rfl rfl) ?_ | refine zaa rfl (zbf rfl rfl) ?_ | refine zaa rfl (zbg rfl rfl) ?_ | refine zaa rfl (zbh rfl rfl) ?_ | refine zaa rfl (zbi rfl rfl) ?_ | refine zaa rfl (zbj rfl rfl) ?_ | refine zaa rfl (zbk rfl rfl) ?_ | refine zaa rfl (zbl rfl rfl) ?_) | (refine zad ?_; first | refine zaa rfl (opj_lenC rfl) ?_ | refine zaa rfl (zbo rfl) ?_ | refine zaa rfl (zbm rfl) ?_ | refine zaa rfl (zbn rfl) ?_ | refine zaa rfl (zbp rfl) ?_ | refine zaa rfl (zbq rfl) ?_ | refine zaa rfl (zbr rfl rfl) ?_) | (refine zae ?_; first | refine zaa rfl (opj_loadC rfl rfl (by (repeat (first | exact mh | refine mt ?_)); done) (by omega)) ?_ | refine zaa rfl (zbt rfl rfl (by (repeat (first | exact mh | refine mt ?_)); done) (by omega)) ?_ | refine zaa rfl (zcf rfl rfl (by (repeat (first | exact mh | refine mt ?_)); done) rfl) ?_ | refine zaa rfl (zcg rfl rfl (by (repeat (first | exact mh | refine mt ?_)); done) rfl rfl) ?_ | refine zaa rfl (zch rfl rfl rfl rfl) ?_ | refine zaa rfl (zbu rfl rfl) ?_) | (refine zaf ?_; first | refine zaa rfl (opj_indexC rfl rfl (by omega) (by omega)) ?_ | refine zaa rfl (zbs rfl rfl (by omega) (by omega)) ?_ | refine zaa rfl (zbv rfl rfl (by omega) (by omega)) ?_ | refine zaa rfl (zbw rfl rfl (by omega) (by omega)) ?_) | refine zaa rfl (zcd rfl) ?_ | refine zaa rfl (zce rfl) ?_ | refine zaa rfl (zbx rfl) ?_ | refine zaa rfl (zby rfl) ?_ | refine zaa rfl (zbz rfl rfl) ?_ | refine zaa rfl (zca rfl rfl) ?_ | refine zaa rfl (zcb rfl rfl) ?_ | refine zaa rfl (zcc rfl) ?_ | refine zah ?_ | (refine zcr ?_; first | refine zcs ?_ | refine zct ?_ | refine zcu ?_ | refine zcv ?_ | refine zcw ?_ | refine zcx ?_ | refine zcy rfl ?_ | refine zcz ?_ | refine zda ?_) | (refine zdb ?_; first | refine zdc ?_ | refine zdd ?_ | refine zde ?_ | refine zdf ?_ | refine zdg ?_ | refine zdh ?_ | refine zdi rfl ?_ | refine zdj rfl ?_) | (refine zak rfl rfl rfl ?_; intro g) | (refine zal rfl rfl ?_; intro g) | (refine zag ?_; first | refine zam 0 rfl rfl rfl rfl rfl rfl ?_ | refine zam 1 rfl rfl rfl rfl rfl rfl ?_ | refine zam 2 rfl rfl rfl rfl rfl rfl ?_ | refine zam 3 rfl rfl rfl rfl rfl rfl ?_ | refine zam 4 rfl rfl rfl rfl rfl rfl ?_ | refine zam 5 rfl rfl rfl rfl rfl rfl ?_ | refine zan 0 rfl rfl rfl rfl rfl rfl rfl rfl rfl ?_ | refine zan 1 rfl rfl rfl rfl rfl rfl rfl rfl rfl ?_ | refine zan 2 rfl rfl rfl rfl rfl rfl rfl rfl rfl ?_ | refine zan 3 rfl rfl rfl rfl rfl rfl rfl rfl rfl ?_ | refine zan 4 rfl rfl rfl rfl rfl rfl rfl rfl rfl ?_ | refine zan 5 rfl rfl rfl rfl rfl rfl rfl rfl rfl ?_ | refine zao 0 rfl rfl rfl rfl rfl rfl ?_ | refine zao 1 rfl rfl rfl rfl rfl rfl ?_ | refine zao 2 rfl rfl rfl rfl rfl rfl ?_ | refine zao 3 rfl rfl rfl rfl rfl rfl ?_)
    refine ws_cond rfl (fun hc => by rw [hs] at hc; cases hc) (fun _ => ?_)
    repeat first | refine zai rfl rfl ?_ | refine zaj rfl rfl rfl rfl ?_ | refine zaa rfl (zay rfl) ?_ | refine zaa rfl (zaz rfl) ?_ | (refine zac ?_; first | refine zaa rfl (zba rfl rfl rfl) ?_ | refine zaa rfl (zbb rfl rfl (by omega)) ?_ | refine zaa rfl (zbc rfl rfl (by omega)) ?_ | refine zaa rfl (zbd rfl rfl rfl) ?_ | refine zaa rfl (zbe rfl rfl) ?_ | refine zaa rfl (zbf rfl rfl) ?_ | refine zaa rfl (zbg rfl rfl) ?_ | refine zaa rfl (zbh rfl rfl) ?_ | refine zaa rfl (zbi rfl rfl) ?_ | refine zaa rfl (zbj rfl rfl) ?_ | refine zaa rfl (zbk rfl rfl) ?_ | refine zaa rfl (zbl rfl rfl) ?_) | (refine zad ?_; first | refine zaa rfl (opj_lenC rfl) ?_ | refine zaa rfl (zbo rfl) ?_ | refine zaa rfl (zbm rfl) ?_ | refine zaa rfl (zbn rfl) ?_ | refine zaa rfl (zbp rfl) ?_ | refine zaa rfl (zbq rfl) ?_ | refine zaa rfl (zbr rfl rfl) ?_) | (refine zae ?_; first | refine zaa rfl (opj_loadC rfl rfl (by (repeat (first | exact mh | refine mt ?_)); done) (by omega)) ?_ | refine zaa rfl (zbt rfl rfl (by (repeat (first | exact mh | refine mt ?_)); done) (by omega)) ?_ | refine zaa rfl (zcf rfl rfl (by (repeat (first | exact mh | refine mt ?_)); done) rfl) ?_ | refine zaa rfl (zcg rfl rfl (by (repeat (first | exact mh | refine mt ?_)); done) rfl rfl) ?_ | refine zaa rfl (zch rfl rfl rfl rfl) ?_ | refine zaa rfl (zbu rfl rfl) ?_) | (refine zaf ?_; first | refine zaa rfl (opj_indexC rfl rfl (by omega) (by omega)) ?_ | refine zaa rfl (zbs rfl rfl (by omega) (by omega)) ?_ | refine zaa rfl (zbv rfl rfl (by omega) (by omega)) ?_ | refine zaa rfl (zbw rfl rfl (by omega) (by omega)) ?_) | refine zaa rfl (zcd rfl) ?_ | refine zaa rfl (zce rfl) ?_ | refine zaa rfl (zbx rfl) ?_ | refine zaa rfl (zby rfl) ?_ | refine zaa rfl (zbz rfl rfl) ?_ | refine zaa rfl (zca rfl rfl) ?_ | refine zaa rfl (zcb rfl rfl) ?_ | refine zaa rfl (zcc rfl) ?_ | refine zah ?_ | (refine zcr ?_; first | refine zcs ?_ | refine zct ?_ | refine zcu ?_ | refine zcv ?_ | refine zcw ?_ | refine zcx ?_ | refine zcy rfl ?_ | refine zcz ?_ | refine zda ?_) | (refine zdb ?_; first | refine zdc ?_ | refine zdd ?_ | refine zde ?_ | refine zdf ?_ | refine zdg ?_ | refine zdh ?_ | refine zdi rfl ?_ | refine zdj rfl ?_) | (refine zak rfl rfl rfl ?_; intro g) | (refine zal rfl rfl ?_; intro g) | (refine zag ?_; first | refine zam 0 rfl rfl rfl rfl rfl rfl ?_ | refine zam 1 rfl rfl rfl rfl rfl rfl ?_ | refine zam 2 rfl rfl rfl rfl rfl rfl ?_ | refine zam 3 rfl rfl rfl rfl rfl rfl ?_ | refine zam 4 rfl rfl rfl rfl rfl rfl ?_ | refine zam 5 rfl rfl rfl rfl rfl rfl ?_ | refine zan 0 rfl rfl rfl rfl rfl rfl rfl rfl rfl ?_ | refine zan 1 rfl rfl rfl rfl rfl rfl rfl rfl rfl ?_ | refine zan 2 rfl rfl rfl rfl rfl rfl rfl rfl rfl ?_ | refine zan 3 rfl rfl rfl rfl rfl rfl rfl rfl rfl ?_ | refine zan 4 rfl rfl rfl rfl rfl rfl rfl rfl rfl ?_ | refine zan 5 rfl rfl rfl rfl rfl rfl rfl rfl rfl ?_ | refine zao 0 rfl rfl rfl rfl rfl rfl ?_ | refine zao 1 rfl rfl rfl rfl rfl rfl ?_ | refine zao 2 rfl rfl rfl rfl rfl rfl ?_ | refine zao 3 rfl rfl rfl rfl rfl rfl ?_) | refine zaa rfl (opj_bits32 rfl rfl) ?_ | refine zaa rfl (opj_iint rfl) ?_
    rw [wrap_small hx.some.1]
    exact done_ret1 rfl () rfl trivial (List.nil_sublist _)
theorem fromBits_fn (n : Nat) (hn : n < 4294967296) : Fn Tryz.prog 19 (fun _ => [.raw (.int .i64 (n : Int))]) (.tup [.f .f32 (fv .f32 n), .raw (.bool true)]) := by
  have hW := within_fn (n : Int) 0 4294967295
  rw [decide_eq_true (show (0 : Int) ≤ (n : Int) by omega), decide_eq_true (show (n : Int) ≤ 4294967295 by omega)] at hW
  refine fn_intro Tryz.func19 rfl Tryz.ntmps19 (fun _ => Nat.le_of_ble_eq_true rfl) fun w0 => ?_
  repeat first | refine zai rfl rfl ?_ | refine zaj rfl rfl rfl rfl ?_ | refine zaa rfl (zay rfl) ?_ | refine zaa rfl (zaz rfl) ?_ | (refine zac ?_; first | refine zaa rfl (zba rfl rfl rfl) ?_ | refine zaa rfl (zbb rfl rfl (by omega)) ?_ | refine zaa rfl (zbc rfl rfl (by omega)) ?_ | refine zaa rfl (zbd rfl rfl rfl) ?_ | refine zaa rfl (zbe rfl rfl) ?_ | refine zaa rfl (zbf rfl rfl) ?_ | refine zaa rfl (zbg rfl rfl) ?_ | refine zaa rfl (zbh rfl rfl) ?_ | refine zaa rfl (zbi rfl rfl) ?_ | refine zaa rfl (zbj rfl rfl) ?_ | refine zaa rfl (zbk rfl rfl) ?_ | refine zaa rfl (zbl rfl rfl) ?_) | (refine zad ?_; first | refine zaa rfl (opj_lenC rfl) ?_ | refine zaa rfl (zbo rfl) ?_ | refine zaa rfl (zbm rfl) ?_ | refine zaa rfl (zbn rfl) ?_ | refine zaa rfl (zbp rfl) ?_ | refine zaa rfl (zbq rfl) ?_ | refine zaa rfl (zbr rfl rfl) ?_ | (refine zaa rfl (zci rfl rfl (hW) ?_) ?_; (focus ((repeat (first | exact Takes.nil | refine Takes.sl ?_ | refine Takes.lit ?_ | refine Takes.fa ?_ | refine Takes.fc ?_ | refine Takes.net ?_ | (refine Takes.ownE ?_ ?_ ?_ ?_ ?_; (focus (exact ⟨_, _, (by (repeat (first | exact mh | refine mt ?_)); done)⟩)); (focus (simp; done)); (focus omega); (focus (simp only [maxLen]; omega))) | refine Takes.same ?_)); done)))) | (refine zae ?_; first | refine zaa rfl (opj_loadC rfl rfl (by (repeat (first | exact mh | refine mt ?_)); done) (by omega)) ?_ | refine zaa rfl (zbt rfl rfl (by (repeat (first | exact mh | refine mt ?_)); done) (by omega)) ?_ | refine zaa rfl (zcf rfl rfl (by (repeat (first | exact mh | refine mt ?_)); done) rfl) ?_ | refine zaa rfl (zcg rfl rfl (by (repeat (first | exact mh | refine mt ?_)); done) rfl rfl) ?_ | refine zaa rfl (zch rfl rfl rfl rfl) ?_ | refine zaa rfl (zbu rfl rfl) ?_) | (refine zaf ?_; first | refine zaa rfl (opj_indexC rfl rfl (by omega) (by omega)) ?_ | refine zaa rfl (zbs rfl rfl (by omega) (by omega)) ?_ | refine zaa rfl (zbv rfl rfl (by omega) (by omega)) ?_ | refine zaa rfl (zbw rfl rfl (by omega) (by omega)) ?_) | refine zaa rfl (zcd rfl) ?_ | refine zaa rfl (zce rfl) ?_ | refine zaa rfl (zbx rfl) ?_ | refine zaa rfl (zby rfl) ?_ | refine zaa rfl (zbz rfl rfl) ?_ | refine zaa rfl (zca rfl rfl) ?_ | refine zaa rfl (zcb rfl rfl) ?_ | refine zaa rfl (zcc rfl) ?_ | refine zah ?_ | (refine zcr ?_; first | refine zcs ?_ | refine zct ?_ | refine zcu ?_ | refine zcv ?_ | refine zcw ?_ | refine zcx ?_ | refine zcy rfl ?_ | refine zcz ?_ | refine zda ?_) | (refine zdb ?_; first | refine zdc ?_ | refine zdd ?_ | refine zde ?_ | refine zdf ?_ | refine zdg ?_ | refine zdh ?_ | refine zdi rfl ?_ | refine zdj rfl ?_) | (refine zak rfl rfl rfl ?_; intro g) | (refine zal rfl rfl ?_; intro g) | (refine zag ?_; first | refine zam 0 rfl rfl rfl rfl rfl rfl ?_ | refine zam 1 rfl rfl rfl rfl rfl rfl ?_ | refine zam 2 rfl rfl rfl rfl rfl rfl ?_ | refine zam 3 rfl rfl rfl rfl rfl rfl ?_ | refine zam 4 rfl rfl rfl rfl rfl rfl ?_ | refine zam 5 rfl rfl rfl rfl rfl rfl ?_ | refine zan 0 rfl rfl rfl rfl rfl rfl rfl rfl rfl ?_ | refine zan 1 rfl rfl rfl rfl rfl rfl rfl rfl rfl ?_ | refine zan 2 rfl rfl rfl rfl rfl rfl rfl rfl rfl ?_ | refine zan 3 rfl rfl rfl rfl rfl rfl rfl rfl rfl ?_ | refine zan 4 rfl rfl rfl rfl rfl rfl rfl rfl rfl ?_ | refine zan 5 rfl rfl rfl rfl rfl rfl rfl rfl rfl ?_ | refine zao 0 rfl rfl rfl rfl rfl rfl ?_ | refine zao 1 rfl rfl rfl rfl rfl rfl ?_ | refine zao 2 rfl rfl rfl rfl rfl rfl ?_ | refine zao 3 rfl rfl rfl rfl rfl rfl ?_) | refine zaa rfl (opj_to32 rfl (by omega)) ?_ | refine zaa rfl (opj_from32 rfl rfl hn) ?_
  exact done_ret2 rfl () rfl rfl rfl trivial (List.nil_sublist _)
theorem hexOf_fn (x : FV) (hx : Ok32 x) : Fn Tryz.prog 36 (fun w => [AV.w w Tab64 (.f .f32 x)]) (.raw (.string (bstr (lowD (bitN x) 8)))) := by
  have hb := bitsOf_fn x hx
  obtain ⟨hn, e1, -⟩ := bitN_ok hx
  rw [e1] at hb
  have hF := strFormatInt_fn (bitN x) hn
  refine fn_intro Tryz.func36 rfl Tryz.ntmps36 (fun _ => Nat.le_of_ble_eq_true rfl) fun w0 => ?_
  refine ws_w 0 rfl rfl fun hT => ?_
  repeat first | refine zai rfl rfl ?_ | refine zaj rfl rfl rfl rfl ?_ | refine zaa rfl (zay rfl) ?_ | refine zaa rfl (zaz rfl) ?_ | (refine zac ?_; first | refine zaa rfl (zba rfl rfl rfl) ?_ | refine zaa rfl (zbb rfl rfl (by omega)) ?_ | refine zaa rfl (zbc rfl rfl (by omega)) ?_ | refine zaa rfl (zbd rfl rfl rfl) ?_ | refine zaa rfl (zbe rfl rfl) ?_ | refine zaa rfl (zbf rfl rfl) ?_ | refine zaa rfl (zbg rfl rfl) ?_ | refine zaa rfl (zbh rfl rfl) ?_ | refine zaa rfl (zbi rfl rfl) ?_ | refine zaa rfl (zbj rfl rfl) ?_ | refine zaa rfl (zbk rfl rfl) ?_ | refine zaa rfl (zbl rfl rfl) ?_) | (refine zad ?_; first | refine zaa rfl (opj_lenC rfl) ?_ | refine zaa rfl (zbo rfl) ?_ | refine zaa rfl (zbm rfl) ?_ | refine zaa rfl (zbn rfl) ?_ | refine zaa rfl (zbp rfl) ?_ | refine zaa rfl (zbq rfl) ?_ | refine zaa rfl (zbr rfl rfl) ?_ | (refine zaa rfl (zci rfl rfl (hb) ?_) ?_; (focus ((repeat (first | exact Takes.nil | refine Takes.sl ?_ | refine Takes.lit ?_ | refine Takes.fa ?_ | refine Takes.fc ?_ | refine Takes.net ?_ | (refine Takes.ownE ?_ ?_ ?_ ?_ ?_; (focus (exact ⟨_, _, (by (repeat (first | exact mh | refine mt ?_)); done)⟩)); (focus (simp; done)); (focus omega); (focus (simp only [maxLen]; omega))) | refine Takes.same ?_)); done)))) | (refine zae ?_; first | refine zaa rfl (opj_loadC rfl rfl (by (repeat (first | exact mh | refine mt ?_)); done) (by omega)) ?_ | refine zaa rfl (zbt rfl rfl (by (repeat (first | exact mh | refine mt ?_)); done) (by omega)) ?_ | refine zaa rfl (zcf rfl rfl (by (repeat (first | exact mh | refine mt ?_)); done) rfl) ?_ | refine zaa rfl (zcg rfl rfl (by (repeat (first | exact mh | refine mt ?_)); done) rfl rfl) ?_ | refine zaa rfl (zch rfl rfl rfl rfl) ?_ | refine zaa rfl (zbu rfl rfl) ?_) | (refine zaf ?_; first | refine zaa rfl (opj_indexC rfl rfl (by omega) (by omega)) ?_ | refine zaa rfl (zbs rfl rfl (by omega) (by omega)) ?_ | refine zaa rfl (zbv rfl rfl (by omega) (by omega)) ?_ | refine zaa rfl (zbw rfl rfl (by omega) (by omega)) ?_) | refine zaa rfl (zcd rfl) ?_ | refine zaa rfl (zce rfl) ?_ | refine zaa rfl (zbx rfl) ?_ | refine zaa rfl (zby rfl) ?_ | refine zaa rfl (zbz rfl rfl) ?_ | refine zaa rfl (zca rfl rfl) ?_ | refine zaa rfl (zcb rfl rfl) ?_ | refine zaa rfl (zcc rfl) ?_ | refine zah ?_ | (refine zcr ?_; first | refine zcs ?_ | refine zct ?_ | refine zcu ?_ | refine zcv ?_ | refine zcw ?_ | refine zcx ?_ | refine zcy rfl ?_ | refine zcz ?_ | refine zda ?_) | (refine zdb ?_; first | refine zdc ?_ | refine zdd ?_ | refine zde ?_ | refine zdf ?_ | refine zdg ?_ | refine zdh ?_ | refine zdi rfl ?_ | refine zdj rfl ?_) | (refine zak rfl rfl rfl ?_; intro g) | (refine zal rfl rfl ?_; intro g) | (refine zag ?_; first | refine zam 0 rfl rfl rfl rfl rfl rfl ?_ | refine zam 1 rfl rfl rfl rfl rfl rfl ?_ | refine zam 2 rfl rfl rfl rfl rfl rfl ?_ | refine zam 3 rfl rfl rfl rfl rfl rfl ?_ | refine zam 4 rfl rfl rfl rfl rfl rfl ?_ | refine zam 5 rfl rfl rfl rfl rfl rfl ?_ | refine zan 0 rfl rfl rfl rfl rfl rfl rfl rfl rfl ?_ | refine zan 1 rfl rfl rfl rfl rfl rfl rfl rfl rfl ?_ | refine zan 2 rfl rfl rfl rfl rfl rfl rfl rfl rfl ?_ | refine zan 3 rfl rfl rfl rfl rfl rfl rfl rfl rfl ?_ | refine zan 4 rfl rfl rfl rfl rfl rfl rfl rfl rfl ?_ | refine zan 5 rfl rfl rfl rfl rfl rfl rfl rfl rfl ?_ | refine zao 0 rfl rfl rfl rfl rfl rfl ?_ | refine zao 1 rfl rfl rfl rfl rfl rfl ?_ | refine zao 2 rfl rfl rfl rfl rfl rfl ?_ | refine zao 3 rfl rfl rfl rfl rfl rfl ?_)
  refine rs_callM3 hF rfl rfl (Takes.w hT.at (Takes.same (Takes.same Takes.nil))) rfl ?_
  rintro m ⟨h1, h8, hlt⟩
  have hR := repeat_fn (8 - m) (by omega)
  have hsz : (bstr (lowD (bitN x) m)).size = m := by rw [bstr_size, lowD_len]
  repeat first | refine zai rfl rfl ?_ | refine zaj rfl rfl rfl rfl ?_ | refine zaa rfl (zay rfl) ?_ | refine zaa rfl (zaz rfl) ?_ | (refine zac ?_; first | refine zaa rfl (zba rfl rfl rfl) ?_ | refine zaa rfl (zbb rfl rfl (by omega)) ?_ | refine zaa rfl (zbc rfl rfl (by omega)) ?_ | refine zaa rfl (zbd rfl rfl rfl) ?_ | refine zaa rfl (zbe rfl rfl) ?_ | refine zaa rfl (zbf rfl rfl) ?_ | refine zaa rfl (zbg rfl rfl) ?_ | refine zaa rfl (zbh rfl rfl) ?_ | refine zaa rfl (zbi rfl rfl) ?_ | refine zaa rfl (zbj rfl rfl) ?_ | refine zaa rfl (zbk rfl rfl) ?_ | refine zaa rfl (zbl rfl rfl) ?_) | (refine zad ?_; first | refine zaa rfl (opj_lenC rfl) ?_ | refine zaa rfl (zbo rfl) ?_ | refine zaa rfl (zbm rfl) ?_ | refine zaa rfl (zbn rfl) ?_ | refine zaa rfl (zbp rfl) ?_ | refine zaa rfl (zbq rfl) ?_ | refine zaa rfl (zbr rfl rfl) ?_) | (refine zae ?_; first | refine zaa rfl (opj_loadC rfl rfl (by (repeat (first | exact mh | refine mt ?_)); done) (by omega)) ?_ | refine zaa rfl (zbt rfl rfl (by (repeat (first | exact mh | refine mt ?_)); done) (by omega)) ?_ | refine zaa rfl (zcf rfl rfl (by (repeat (first | exact mh | refine mt ?_)); done) rfl) ?_ | refine zaa rfl (zcg rfl rfl (by (repeat (first | exact mh | refine mt ?_)); done) rfl rfl) ?_ | refine zaa rfl (zch rfl rfl rfl rfl) ?_ | refine zaa rfl (zbu rfl rfl) ?_) | (refine zaf ?_; first | refine zaa rfl (opj_indexC rfl rfl (by omega) (by omega)) ?_ | refine zaa rfl (zbs rfl rfl (by omega) (by omega)) ?_ | refine zaa rfl (zbv rfl rfl (by omega) (by omega)) ?_ | refine zaa rfl (zbw rfl rfl (by omega) (by omega)) ?_) | refine zaa rfl (zcd rfl) ?_ | refine zaa rfl (zce rfl) ?_ | refine zaa rfl (zbx rfl) ?_ | refine zaa rfl (zby rfl) ?_ | refine zaa rfl (zbz rfl rfl) ?_ | refine zaa rfl (zca rfl rfl) ?_ | refine zaa rfl (zcb rfl rfl) ?_ | refine zaa rfl (zcc rfl) ?_ | refine zah ?_ | (refine zcr ?_; first | refine zcs ?_ | refine zct ?_ | refine zcu ?_ | refine zcv ?_ | refine zcw ?_ | refine zcx ?_ | refine zcy rfl ?_ | refine zcz ?_ | refine zda ?_) | (refine zdb ?_; first | refine zdc ?_ | refine zdd ?_ | refine zde ?_ | refine zdf ?_ | refine zdg ?_ | refine zdh ?_ | refine zdi rfl ?_ | refine zdj rfl ?_) | (refine zak rfl rfl rfl ?_; intro g) | (refine zal rfl rfl ?_; intro g) | (refine zag ?_; first | refine zam 0 rfl rfl rfl rfl rfl rfl ?_ | refine zam 1 rfl rfl rfl rfl rfl rfl ?_ | refine zam 2 rfl rfl rfl rfl rfl rfl ?_ | refine zam 3 rfl rfl rfl rfl rfl rfl ?_ | refine zam 4 rfl rfl rfl rfl rfl rfl ?_ | refine zam 5 rfl rfl rfl rfl rfl rfl ?_ | refine zan 0 rfl rfl rfl rfl rfl rfl rfl rfl rfl ?_ | refine zan 1 rfl rfl rfl rfl rfl rfl rfl rfl rfl ?_ | refine zan 2 rfl rfl rfl rfl rfl rfl rfl rfl rfl ?_ | refine zan 3 rfl rfl rfl rfl rfl rfl rfl rfl rfl ?_ | refine zan 4 rfl rfl rfl rfl rfl rfl rfl rfl rfl ?_ | refine zan 5 rfl rfl rfl rfl rfl rfl rfl rfl rfl ?_ | refine zao 0 rfl rfl rfl rfl rfl rfl ?_ | refine zao 1 rfl rfl rfl rfl rfl rfl ?_ | refine zao 2 rfl rfl rfl rfl rfl rfl ?_ | refine zao 3 rfl rfl rfl rfl rfl rfl ?_) | refine zaa rfl (opj_slen rfl) ?_
  rw [hsz]
  repeat first | refine zai rfl rfl ?_ | refine zaj rfl rfl rfl rfl ?_ | refine zaa rfl (zay rfl) ?_ | refine zaa rfl (zaz rfl) ?_ | (refine zac ?_; first | refine zaa rfl (zba rfl rfl rfl) ?_ | refine zaa rfl (zbb rfl rfl (by omega)) ?_ | refine zaa rfl (zbc rfl rfl (by omega)) ?_ | refine zaa rfl (zbd rfl rfl rfl) ?_ | refine zaa rfl (zbe rfl rfl) ?_ | refine zaa rfl (zbf rfl rfl) ?_ | refine zaa rfl (zbg rfl rfl) ?_ | refine zaa rfl (zbh rfl rfl) ?_ | refine zaa rfl (zbi rfl rfl) ?_ | refine zaa rfl (zbj rfl rfl) ?_ | refine zaa rfl (zbk rfl rfl) ?_ | refine zaa rfl (zbl rfl rfl) ?_) | (refine zad ?_; first | refine zaa rfl (opj_lenC rfl) ?_ | refine zaa rfl (zbo rfl) ?_ | refine zaa rfl (zbm rfl) ?_ | refine zaa rfl (zbn rfl) ?_ | refine zaa rfl (zbp rfl) ?_ | refine zaa rfl (zbq rfl) ?_ | refine zaa rfl (zbr rfl rfl) ?_) | (refine zae ?_; first | refine zaa rfl (opj_loadC rfl rfl (by (repeat (first | exact mh | refine mt ?_)); done) (by omega)) ?_ | refine zaa rfl (zbt rfl rfl (by (repeat (first | exact mh | refine mt ?_)); done) (by omega)) ?_ | refine zaa rfl (zcf rfl rfl (by (repeat (first | exact mh | refine mt ?_)); done) rfl) ?_ | refine zaa rfl (zcg rfl rfl (by (repeat (first | exact mh | refine mt ?_)); done) rfl rfl) ?_ | refine zaa rfl (zch rfl rfl rfl rfl) ?_ | refine zaa rfl (zbu rfl rfl) ?_) | (refine zaf ?_; first | refine zaa rfl (opj_indexC rfl rfl (by omega) (by omega)) ?_ | refine zaa rfl (zbs rfl rfl (by omega) (by omega)) ?_ | refine zaa rfl (zbv rfl rfl (by omega) (by omega)) ?_ | refine zaa rfl (zbw rfl rfl (by omega) (by omega)) ?_) | refine zaa rfl (zcd rfl) ?_ | refine zaa rfl (zce rfl) ?_ | refine zaa rfl (zbx rfl) ?_ | refine zaa rfl (zby rfl) ?_ | refine zaa rfl (zbz rfl rfl) ?_ | refine zaa rfl (zca rfl rfl) ?_ | refine zaa rfl (zcb rfl rfl) ?_ | refine zaa rfl (zcc rfl) ?_ | refine zah ?_ | (refine zcr ?_; first | refine zcs ?_ | refine zct ?_ | refine zcu ?_ | refine zcv ?_ | refine zcw ?_ | refine zcx ?_ | refine zcy rfl ?_ | refine zcz ?_ | refine zda ?_) | (refine zdb ?_; first | refine zdc ?_ | refine zdd ?_ | refine zde ?_ | refine zdf ?_ | refine zdg ?_ | refine zdh ?_ | refine zdi rfl ?_ | refine zdj rfl ?_) | (refine zak rfl rfl rfl ?_; intro g) | (refine zal rfl rfl ?_; intro g) | (refine zag ?_; first | refine zam 0 rfl rfl rfl rfl rfl rfl ?_ | refine zam 1 rfl rfl rfl rfl rfl rfl ?_ | refine zam 2 rfl rfl rfl rfl rfl rfl ?_ | refine zam 3 rfl rfl rfl rfl rfl rfl ?_ | refine zam 4 rfl rfl rfl rfl rfl rfl ?_ | refine zam 5 rfl rfl rfl rfl rfl rfl ?_ | refine zan 0 rfl rfl rfl rfl rfl rfl rfl rfl rfl ?_ | refine zan 1 rfl rfl rfl rfl rfl rfl rfl rfl rfl ?_ | refine zan 2 rfl rfl rfl rfl rfl rfl rfl rfl rfl ?_ | refine zan 3 rfl rfl rfl rfl rfl rfl rfl rfl rfl ?_ | refine zan 4 rfl rfl rfl rfl rfl rfl rfl rfl rfl ?_ | refine zan 5 rfl rfl rfl rfl rfl rfl rfl rfl rfl ?_ | refine zao 0 rfl rfl rfl rfl rfl rfl ?_ | refine zao 1 rfl rfl rfl rfl rfl rfl ?_ | refine zao 2 rfl rfl rfl rfl rfl rfl ?_ | refine zao 3 rfl rfl rfl rfl rfl rfl ?_)
  rw [show (8 : Int) - (m : Int) = ((8 - m : Nat) : Int) by omega]
  repeat first | refine zai rfl rfl ?_ | refine zaj rfl rfl rfl rfl ?_ | refine zaa rfl (zay rfl) ?_ | refine zaa rfl (zaz rfl) ?_ | (refine zac ?_; first | refine zaa rfl (zba rfl rfl rfl) ?_ | refine zaa rfl (zbb rfl rfl (by omega)) ?_ | refine zaa rfl (zbc rfl rfl (by omega)) ?_ | refine zaa rfl (zbd rfl rfl rfl) ?_ | refine zaa rfl (zbe rfl rfl) ?_ | refine zaa rfl (zbf rfl rfl) ?_ | refine zaa rfl (zbg rfl rfl) ?_ | refine zaa rfl (zbh rfl rfl) ?_ | refine zaa rfl (zbi rfl rfl) ?_ | refine zaa rfl (zbj rfl rfl) ?_ | refine zaa rfl (zbk rfl rfl) ?_ | refine zaa rfl (zbl rfl rfl) ?_ | refine zaa rfl (opj_sadd rfl rfl (by rw [hsz, bstr_size, List.length_replicate]; omega)) ?_) | (refine zad ?_; first | refine zaa rfl (opj_lenC rfl) ?_ | refine zaa rfl (zbo rfl) ?_ | refine zaa rfl (zbm rfl) ?_ | refine zaa rfl (zbn rfl) ?_ | refine zaa rfl (zbp rfl) ?_ | refine zaa rfl (zbq rfl) ?_ | refine zaa rfl (zbr rfl rfl) ?_ | (refine zaa rfl (zci rfl rfl (hR) ?_) ?_; (focus ((repeat (first | exact Takes.nil | refine Takes.sl ?_ | refine Takes.lit ?_ | refine Takes.fa ?_ | refine Takes.fc ?_ | refine Takes.net ?_ | (refine Takes.ownE ?_ ?_ ?_ ?_ ?_; (focus (exact ⟨_, _, (by (repeat (first | exact mh | refine mt ?_)); done)⟩)); (focus (simp; done)); (focus omega); (focus (simp only [maxLen]; omega))) | refine Takes.same ?_)); done)))) | (refine zae ?_; first | refine zaa rfl (opj_loadC rfl rfl (by (repeat (first | exact mh | refine mt ?_)); done) (by omega)) ?_ | refine zaa rfl (zbt rfl rfl (by (repeat (first | exact mh | refine mt ?_)); done) (by omega)) ?_ | refine zaa rfl (zcf rfl rfl (by (repeat (first | exact mh | refine mt ?_)); done) rfl) ?_ | refine zaa rfl (zcg rfl rfl (by (repeat (first | exact mh | refine mt ?_)); done) rfl rfl) ?_ | refine zaa rfl (zch rfl rfl rfl rfl) ?_ | refine zaa rfl (zbu rfl rfl) ?_) | (refine zaf ?_; first | refine zaa rfl (opj_indexC rfl rfl (by omega) (by omega)) ?_ | refine zaa rfl (zbs rfl rfl (by omega) (by omega)) ?_ | refine zaa rfl (zbv rfl rfl (by omega) (by omega)) ?_ | refine zaa rfl (zbw rfl rfl (by omega) (by omega)) ?_) | refine zaa rfl (zcd rfl) ?_ | refine zaa rfl (zce rfl) ?_ | refine zaa rfl (zbx rfl) ?_ | refine zaa rfl (zby rfl) ?_ | refine zaa rfl (zbz rfl rfl) ?_ | refine zaa rfl (zca rfl rfl) ?_ | refine zaa rfl (zcb rfl rfl) ?_ | refine zaa rfl (zcc rfl) ?_ | refine zah ?_ | (refine zcr ?_; first | refine zcs ?_ | refine zct ?_ | refine zcu ?_ | refine zcv ?_ | refine zcw ?_ | refine zcx ?_ | refine zcy rfl ?_ | refine zcz ?_ | refine zda ?_) | (refine zdb ?_; first | refine zdc ?_ | refine zdd ?_ | refine zde ?_ | refine zdf ?_ | refine zdg ?_ | refine zdh ?_ | refine zdi rfl ?_ | refine zdj rfl ?_) | (refine zak rfl rfl rfl ?_; intro g) | (refine zal rfl rfl ?_; intro g) | (refine zag ?_; first | refine zam 0 rfl rfl rfl rfl rfl rfl ?_ | refine zam 1 rfl rfl rfl rfl rfl rfl ?_ | refine zam 2 rfl rfl rfl rfl rfl rfl ?_ | refine zam 3 rfl rfl rfl rfl rfl rfl ?_ | refine zam 4 rfl rfl rfl rfl rfl rfl ?_ | refine zam 5 rfl rfl rfl rfl rfl rfl ?_ | refine zan 0 rfl rfl rfl rfl rfl rfl rfl rfl rfl ?_ | refine zan 1 rfl rfl rfl rfl rfl rfl rfl rfl rfl ?_ | refine zan 2 rfl rfl rfl rfl rfl rfl rfl rfl rfl ?_ | refine zan 3 rfl rfl rfl rfl rfl rfl rfl rfl rfl ?_ | refine zan 4 rfl rfl rfl rfl rfl rfl rfl rfl rfl ?_ | refine zan 5 rfl rfl rfl rfl rfl rfl rfl rfl rfl ?_ | refine zao 0 rfl rfl rfl rfl rfl rfl ?_ | refine zao 1 rfl rfl rfl rfl rfl rfl ?_ | refine zao 2 rfl rfl rfl rfl rfl rfl ?_ | refine zao 3 rfl rfl rfl rfl rfl rfl ?_)
  rw [bstr_add, lowD_pad hlt, show m + (8 - m) = 8 by omega]
  exact done_ret1 rfl () rfl trivial (List.nil_sublist _)
end Go.Ab
namespace Go.Ab
open Go.Proofs
variable {R : World → Prop} [RStab R]
attribute [local irreducible] WS RS Done OpJ Then InBlock Round Ret Env.sub FnH
attribute [local irreducible] tabC
def mulE (p q : CV) : FV := fbin .sub .f64 (fbin .mul .f64 (fconv .f32 .f64 p.1) (fconv .f32 .f64 q.1)) (fbin .mul .f64 (fconv .f32 .f64 p.2) (fconv .f32 .f64 q.2))
def mulF (p q : CV) : FV := fbin .add .f64 (fbin .mul .f64 (fconv .f32 .f64 p.1) (fconv .f32 .f64 q.2)) (fbin .mul .f64 (fconv .f32 .f64 p.2) (fconv .f32 .f64 q.1))
def mulC (p q : CV) : CV := (fconv .f64 .f32 (mulE p q), fconv .f64 .f32 (mulF p q))
def MulOk (p q : CV) : Prop := ConvOk .f64 .f32 (mulE p q) ∧ ConvOk .f64 .f32 (mulF p q)
theorem times_fn (a b c d : FV) : Fn Tryz.prog 30 (fun _ => [.f .f64 a, .f .f64 b, .f .f64 c, .f .f64 d]) (.tup [.f .f64 (fbin .sub .f64 (fbin .mul .f64 a c) (fbin .mul .f64 b d)), .f .f64 (fbin .add .f64 (fbin .mul .f64 a d) (fbin .mul .f64 b c))]) := by
  refine fn_intro Tryz.func30 rfl Tryz.ntmps30 (fun _ => Nat.le_of_ble_eq_true rfl) fun w0 => ?_
  repeat first | refine zai rfl rfl ?_ | refine zaj rfl rfl rfl rfl ?_ | refine zaa rfl (zay rfl) ?_ | refine zaa rfl (zaz rfl) ?_ | (refine zac ?_; first | refine zaa rfl (zba rfl rfl rfl) ?_ | refine zaa rfl (zbb rfl rfl (by omega)) ?_ | refine zaa rfl (zbc rfl rfl (by omega)) ?_ | refine zaa rfl (zbd rfl rfl rfl) ?_ | refine zaa rfl (zbe rfl rfl) ?_ | refine zaa rfl (zbf rfl rfl) ?_ | refine zaa rfl (zbg rfl rfl) ?_ | refine zaa rfl (zbh rfl rfl) ?_ | refine zaa rfl (zbi rfl rfl) ?_ | refine zaa rfl (zbj rfl rfl) ?_ | refine zaa rfl (zbk rfl rfl) ?_ | refine zaa rfl (zbl rfl rfl) ?_) | (refine zad ?_; first | refine zaa rfl (opj_lenC rfl) ?_ | refine zaa rfl (zbo rfl) ?_ | refine zaa rfl (zbm rfl) ?_ | refine zaa rfl (zbn rfl) ?_ | refine zaa rfl (zbp rfl) ?_ | refine zaa rfl (zbq rfl) ?_ | refine zaa rfl (zbr rfl rfl) ?_) | (refine zae ?_; first | refine zaa rfl (opj_loadC rfl rfl (by (repeat (first | exact mh | refine mt ?_)); done) (by omega)) ?_ | refine zaa rfl (zbt rfl rfl (by (repeat (first | exact mh | refine mt ?_)); done) (by omega)) ?_ | refine zaa rfl (zcf rfl rfl (by (repeat (first | exact mh | refine mt ?_)); done) rfl) ?_ | refine zaa rfl (zcg rfl rfl (by (repeat (first | exact mh | refine mt ?_)); done) rfl rfl) ?_ | refine zaa rfl (zch rfl rfl rfl rfl) ?_ | refine zaa rfl (zbu rfl rfl) ?_) | (refine zaf ?_; first | refine zaa rfl (opj_indexC rfl rfl (by omega) (by omega)) ?_ | refine zaa rfl (zbs rfl rfl (by omega) (by omega)) ?_ | refine zaa rfl (zbv rfl rfl (by omega) (by omega)) ?_ | refine zaa rfl (zbw rfl rfl (by omega) (by omega)) ?_) | refine zaa rfl (zcd rfl) ?_ | refine zaa rfl (zce rfl) ?_ | refine zaa rfl (zbx rfl) ?_ | refine zaa rfl (zby rfl) ?_ | refine zaa rfl (zbz rfl rfl) ?_ | refine zaa rfl (zca rfl rfl) ?_ | refine zaa rfl (zcb rfl rfl) ?_ | refine zaa rfl (zcc rfl) ?_ | refine zah ?_ | (refine zcr ?_; first | refine zcs ?_ | refine zct ?_ | refine zcu ?_ | refine zcv ?_ | refine zcw ?_ | refine zcx ?_ | refine zcy rfl ?_ | refine zcz ?_ | refine zda ?_) | (refine zdb ?_; first | refine zdc ?_ | refine zdd ?_ | refine zde ?_ | refine zdf ?_ | refine zdg ?_ | refine zdh ?_ | refine zdi rfl ?_ | refine zdj rfl ?_) | (refine zak rfl rfl rfl ?_; intro g) | (refine zal rfl rfl ?_; intro g) | (refine zag ?_; first | refine zam 0 rfl rfl rfl rfl rfl rfl ?_ | refine zam 1 rfl rfl rfl rfl rfl rfl ?_ | refine zam 2 rfl rfl rfl rfl rfl rfl ?_ | refine zam 3 rfl rfl rfl rfl rfl rfl ?_ | refine zam 4 rfl rfl rfl rfl rfl rfl ?_ | refine zam 5 rfl rfl rfl rfl rfl rfl ?_ | refine zan 0 rfl rfl rfl rfl rfl rfl rfl rfl rfl ?_ | refine zan 1 rfl rfl rfl rfl rfl rfl rfl rfl rfl ?_ | refine zan 2 rfl rfl rfl rfl rfl rfl rfl rfl rfl ?_ | refine zan 3 rfl rfl rfl rfl rfl rfl rfl rfl rfl ?_ | refine zan 4 rfl rfl rfl rfl rfl rfl rfl rfl rfl ?_ | refine zan 5 rfl rfl rfl rfl rfl rfl rfl rfl rfl ?_ | refine zao 0 rfl rfl rfl rfl rfl rfl ?_ | refine zao 1 rfl rfl rfl rfl rfl rfl ?_ | refine zao 2 rfl rfl rfl rfl rfl rfl ?_ | refine zao 3 rfl rfl rfl rfl rfl rfl ?_)
  exact done_ret2 rfl () rfl rfl rfl trivial (List.nil_sublist _)
theorem mulComplex_fn (p q : CV) (h : MulOk p q) : Fn Tryz.prog 6 (fun _ => [cA p, cA q]) (cA (mulC p q)) := by
  have h1 := parts_fn p
  have h2 := parts_fn q
  have h3 := times_fn (fconv .f32 .f64 p.1) (fconv .f32 .f64 p.2) (fconv .f32 .f64 q.1) (fconv .f32 .f64 q.2)
  obtain ⟨o1, o2⟩ := h
  unfold mulE at o1
  unfold mulF at o2
  refine fn_intro Tryz.func6 rfl Tryz.ntmps6 (fun _ => Nat.le_of_ble_eq_true rfl) fun w0 => ?_
  repeat first | refine zai rfl rfl ?_ | refine zaj rfl rfl rfl rfl ?_ | refine zaa rfl (zay rfl) ?_ | refine zaa rfl (zaz rfl) ?_ | (refine zac ?_; first | refine zaa rfl (zba rfl rfl rfl) ?_ | refine zaa rfl (zbb rfl rfl (by omega)) ?_ | refine zaa rfl (zbc rfl rfl (by omega)) ?_ | refine zaa rfl (zbd rfl rfl rfl) ?_ | refine zaa rfl (zbe rfl rfl) ?_ | refine zaa rfl (zbf rfl rfl) ?_ | refine zaa rfl (zbg rfl rfl) ?_ | refine zaa rfl (zbh rfl rfl) ?_ | refine zaa rfl (zbi rfl rfl) ?_ | refine zaa rfl (zbj rfl rfl) ?_ | refine zaa rfl (zbk rfl rfl) ?_ | refine zaa rfl (zbl rfl rfl) ?_) | (refine zad ?_; first | refine zaa rfl (opj_lenC rfl) ?_ | refine zaa rfl (zbo rfl) ?_ | refine zaa rfl (zbm rfl) ?_ | refine zaa rfl (zbn rfl) ?_ | refine zaa rfl (zbp rfl) ?_ | refine zaa rfl (zbq rfl) ?_ | refine zaa rfl (zbr rfl rfl) ?_ | (refine zaa rfl (zci rfl rfl (h1) ?_) ?_; (focus ((repeat (first | exact Takes.nil | refine Takes.sl ?_ | refine Takes.lit ?_ | refine Takes.fa ?_ | refine Takes.fc ?_ | refine Takes.net ?_ | (refine Takes.ownE ?_ ?_ ?_ ?_ ?_; (focus (exact ⟨_, _, (by (repeat (first | exact mh | refine mt ?_)); done)⟩)); (focus (simp; done)); (focus omega); (focus (simp only [maxLen]; omega))) | refine Takes.same ?_)); done))) | (refine zaa rfl (zci rfl rfl (h2) ?_) ?_; (focus ((repeat (first | exact Takes.nil | refine Takes.sl ?_ | refine Takes.lit ?_ | refine Takes.fa ?_ | refine Takes.fc ?_ | refine Takes.net ?_ | (refine Takes.ownE ?_ ?_ ?_ ?_ ?_; (focus (exact ⟨_, _, (by (repeat (first | exact mh | refine mt ?_)); done)⟩)); (focus (simp; done)); (focus omega); (focus (simp only [maxLen]; omega))) | refine Takes.same ?_)); done))) | (refine zaa rfl (zci rfl rfl (h3) ?_) ?_; (focus ((repeat (first | exact Takes.nil | refine Takes.sl ?_ | refine Takes.lit ?_ | refine Takes.fa ?_ | refine Takes.fc ?_ | refine Takes.net ?_ | (refine Takes.ownE ?_ ?_ ?_ ?_ ?_; (focus (exact ⟨_, _, (by (repeat (first | exact mh | refine mt ?_)); done)⟩)); (focus (simp; done)); (focus omega); (focus (simp only [maxLen]; omega))) | refine Takes.same ?_)); done)))) | (refine zae ?_; first | refine zaa rfl (opj_loadC rfl rfl (by (repeat (first | exact mh | refine mt ?_)); done) (by omega)) ?_ | refine zaa rfl (zbt rfl rfl (by (repeat (first | exact mh | refine mt ?_)); done) (by omega)) ?_ | refine zaa rfl (zcf rfl rfl (by (repeat (first | exact mh | refine mt ?_)); done) rfl) ?_ | refine zaa rfl (zcg rfl rfl (by (repeat (first | exact mh | refine mt ?_)); done) rfl rfl) ?_ | refine zaa rfl (zch rfl rfl rfl rfl) ?_ | refine zaa rfl (zbu rfl rfl) ?_) | (refine zaf ?_; first | refine zaa rfl (opj_indexC rfl rfl (by omega) (by omega)) ?_ | refine zaa rfl (zbs rfl rfl (by omega) (by omega)) ?_ | refine zaa rfl (zbv rfl rfl (by omega) (by omega)) ?_ | refine zaa rfl (zbw rfl rfl (by omega) (by omega)) ?_) | refine zaa rfl (zcd rfl) ?_ | refine zaa rfl (zce rfl) ?_ | refine zaa rfl (zbx rfl) ?_ | refine zaa rfl (zby rfl) ?_ | refine zaa rfl (zbz rfl rfl) ?_ | refine zaa rfl (zca rfl rfl) ?_ | refine zaa rfl (zcb rfl rfl) ?_ | refine zaa rfl (zcc rfl) ?_ | refine zah ?_ | (refine zcr ?_; first | refine zcs ?_ | refine zct ?_ | refine zcu ?_ | refine zcv ?_ | refine zcw ?_ | refine zcx ?_ | refine zcy rfl ?_ | refine zcz ?_ | refine zda ?_) | (refine zdb ?_; first | refine zdc ?_ | refine zdd ?_ | refine zde ?_ | refine zdf ?_ | refine zdg ?_ | refine zdh ?_ | refine zdi rfl ?_ | refine zdj rfl ?_) | (refine zak rfl rfl rfl ?_; intro g) | (refine zal rfl rfl ?_; intro g) | (refine zag ?_; first | refine zam 0 rfl rfl rfl rfl rfl rfl ?_ | refine zam 1 rfl rfl rfl rfl rfl rfl ?_ | refine zam 2 rfl rfl rfl rfl rfl rfl ?_ | refine zam 3 rfl rfl rfl rfl rfl rfl ?_ | refine zam 4 rfl rfl rfl rfl rfl rfl ?_ | refine zam 5 rfl rfl rfl rfl rfl rfl ?_ | refine zan 0 rfl rfl rfl rfl rfl rfl rfl rfl rfl ?_ | refine zan 1 rfl rfl rfl rfl rfl rfl rfl rfl rfl ?_ | refine zan 2 rfl rfl rfl rfl rfl rfl rfl rfl rfl ?_ | refine zan 3 rfl rfl rfl rfl rfl rfl rfl rfl rfl ?_ | refine zan 4 rfl rfl rfl rfl rfl rfl rfl rfl rfl ?_ | refine zan 5 rfl rfl rfl rfl rfl rfl rfl rfl rfl ?_ | refine zao 0 rfl rfl rfl rfl rfl rfl ?_ | refine zao 1 rfl rfl rfl rfl rfl rfl ?_ | refine zao 2 rfl rfl rfl rfl rfl rfl ?_ | refine zao 3 rfl rfl rfl rfl rfl rfl ?_) | refine zaa rfl (opj_fconv rfl o1) ?_ | refine zaa rfl (opj_fconv rfl o2) ?_
  exact done_ret1 rfl () rfl trivial (List.nil_sublist _)
end Go.Ab
namespace Go.Ab
open Go.Proofs
variable {R : World → Prop} [RStab R]
theorem entC_nilU (g c : Nat) (F : Nat → CV) : (⟨g, 24, [], c⟩ : Ent) = entC g 0 F c := by
  unfold entC tabC
  rfl
attribute [local irreducible] WS RS Done OpJ Then InBlock Round Ret Env.sub FnH
attribute [local irreducible] tabC
end Go.Ab
namespace Go.Ab
open Go.Proofs
variable {R : World → Prop} [RStab R]
def putU {α : Type} (i : Nat) (x : α) (f : Nat → α) (t : Nat) : α := if t = i then x else f t
theorem putU_at {α : Type} (i : Nat) (x : α) (f : Nat → α) : putU i x f i = x := if_pos rfl
theorem putU_ne {α : Type} {i t : Nat} (x : α) (f : Nat → α) (h : t ≠ i) : putU i x f t = f t := if_neg h
attribute [local irreducible] WS RS Done OpJ Then InBlock Round Ret Env.sub FnH
attribute [local irreducible] tabC
theorem one_fn (w1 : World) (g : Nat) (L : List By) (at_ seed : Int) (n : Int) (hn : 2 ≤ n ∧ n ≤ 200) (hat : 0 ≤ at_ ∧ at_ < 2 ^ 40) (hL : L.length < 2 ^ 40) :
    FnH (X := Bool × Dr) Tryz.prog 40 (fun w => [srcP w1 g w, .raw (.int .i64 n)]) [srcE w1 g L at_ seed] (fun y => .raw (.bool y.1)) (fun y => [srcE w1 g L y.2.at_ y.2.seed]) (fun y => y.2.at_ = at_ + 1) := by
  have hp := pick_fn w1 g L at_ seed n hn hat hL
  refine fn_intro Tryz.func40 rfl Tryz.ntmps40 (fun _ => Nat.le_of_ble_eq_true rfl) fun w0 => ?_
  refine ws_q (t := 0) rfl fun v hv => ?_
  obtain ⟨rfl, hx, hg⟩ := hv
  have hk : KeepW w1 w0 [g] := ⟨hx, fun x hx => by simp at hx; omega⟩
  repeat first | refine zai rfl rfl ?_ | refine zaj rfl rfl rfl rfl ?_ | refine zaa rfl (zay rfl) ?_ | refine zaa rfl (zaz rfl) ?_ | (refine zac ?_; first | refine zaa rfl (zba rfl rfl rfl) ?_ | refine zaa rfl (zbb rfl rfl (by omega)) ?_ | refine zaa rfl (zbc rfl rfl (by omega)) ?_ | refine zaa rfl (zbd rfl rfl rfl) ?_ | refine zaa rfl (zbe rfl rfl) ?_ | refine zaa rfl (zbf rfl rfl) ?_ | refine zaa rfl (zbg rfl rfl) ?_ | refine zaa rfl (zbh rfl rfl) ?_ | refine zaa rfl (zbi rfl rfl) ?_ | refine zaa rfl (zbj rfl rfl) ?_ | refine zaa rfl (zbk rfl rfl) ?_ | refine zaa rfl (zbl rfl rfl) ?_) | (refine zad ?_; first | refine zaa rfl (opj_lenC rfl) ?_ | refine zaa rfl (zbo rfl) ?_ | refine zaa rfl (zbm rfl) ?_ | refine zaa rfl (zbn rfl) ?_ | refine zaa rfl (zbp rfl) ?_ | refine zaa rfl (zbq rfl) ?_ | refine zaa rfl (zbr rfl rfl) ?_) | (refine zae ?_; first | refine zaa rfl (opj_loadC rfl rfl (by (repeat (first | exact mh | refine mt ?_)); done) (by omega)) ?_ | refine zaa rfl (zbt rfl rfl (by (repeat (first | exact mh | refine mt ?_)); done) (by omega)) ?_ | refine zaa rfl (zcf rfl rfl (by (repeat (first | exact mh | refine mt ?_)); done) rfl) ?_ | refine zaa rfl (zcg rfl rfl (by (repeat (first | exact mh | refine mt ?_)); done) rfl rfl) ?_ | refine zaa rfl (zch rfl rfl rfl rfl) ?_ | refine zaa rfl (zbu rfl rfl) ?_) | (refine zaf ?_; first | refine zaa rfl (opj_indexC rfl rfl (by omega) (by omega)) ?_ | refine zaa rfl (zbs rfl rfl (by omega) (by omega)) ?_ | refine zaa rfl (zbv rfl rfl (by omega) (by omega)) ?_ | refine zaa rfl (zbw rfl rfl (by omega) (by omega)) ?_) | refine zaa rfl (zcd rfl) ?_ | refine zaa rfl (zce rfl) ?_ | refine zaa rfl (zbx rfl) ?_ | refine zaa rfl (zby rfl) ?_ | refine zaa rfl (zbz rfl rfl) ?_ | refine zaa rfl (zca rfl rfl) ?_ | refine zaa rfl (zcb rfl rfl) ?_ | refine zaa rfl (zcc rfl) ?_ | refine zah ?_ | (refine zcr ?_; first | refine zcs ?_ | refine zct ?_ | refine zcu ?_ | refine zcv ?_ | refine zcw ?_ | refine zcx ?_ | refine zcy rfl ?_ | refine zcz ?_ | refine zda ?_) | (refine zdb ?_; first | refine zdc ?_ | refine zdd ?_ | refine zde ?_ | refine zdf ?_ | refine zdg ?_ | refine zdh ?_ | refine zdi rfl ?_ | refine zdj rfl ?_) | (refine zak rfl rfl rfl ?_; intro g) | (refine zal rfl rfl ?_; intro g) | (refine zag ?_; first | refine zam 0 rfl rfl rfl rfl rfl rfl ?_ | refine zam 1 rfl rfl rfl rfl rfl rfl ?_ | refine zam 2 rfl rfl rfl rfl rfl rfl ?_ | refine zam 3 rfl rfl rfl rfl rfl rfl ?_ | refine zam 4 rfl rfl rfl rfl rfl rfl ?_ | refine zam 5 rfl rfl rfl rfl rfl rfl ?_ | refine zan 0 rfl rfl rfl rfl rfl rfl rfl rfl rfl ?_ | refine zan 1 rfl rfl rfl rfl rfl rfl rfl rfl rfl ?_ | refine zan 2 rfl rfl rfl rfl rfl rfl rfl rfl rfl ?_ | refine zan 3 rfl rfl rfl rfl rfl rfl rfl rfl rfl ?_ | refine zan 4 rfl rfl rfl rfl rfl rfl rfl rfl rfl ?_ | refine zan 5 rfl rfl rfl rfl rfl rfl rfl rfl rfl ?_ | refine zao 0 rfl rfl rfl rfl rfl rfl ?_ | refine zao 1 rfl rfl rfl rfl rfl rfl ?_ | refine zao 2 rfl rfl rfl rfl rfl rfl ?_ | refine zao 3 rfl rfl rfl rfl rfl rfl ?_) | (refine rs_callAt 0 hp rfl rfl rfl (Takes.srcP hk hg (Takes.same Takes.nil)) rfl ?_; rintro ⟨r, a2, s2⟩ ⟨hr1, hr2, hr3⟩; simp only at hr1 hr2 hr3)
  exact done_ret1 rfl ((decide (r = 0), (⟨r, a2, s2⟩ : Dr)) : Bool × Dr) rfl hr3 (List.Sublist.refl _)
end Go.Ab
namespace Go.Ab
open Go.Proofs
variable {R : World → Prop} [RStab R]
/-- The pieces of a list, and its text. -/
def pieceL (p : CV) : List UInt8 := lowD (bitN p.1) 8 ++ lowD (bitN p.2) 8
def piecesL (P : Nat → CV) (n : Nat) : List (List UInt8) := (List.range n).map fun i => pieceL (P i)
def textL (L : List (List UInt8)) : List UInt8 := match L with
  | [] => [110, 111, 110, 101]
  | x :: r => Lib.join (x :: r) [44]
theorem piecesL_len (P : Nat → CV) (n : Nat) : (piecesL P n).length = n := by simp [piecesL]
theorem pieceL_len (p : CV) : (pieceL p).length = 16 := by simp [pieceL, lowD_len]
theorem pieceL_no (p : CV) : (44 : UInt8) ∉ pieceL p := fun h => by
  rcases List.mem_append.1 h with h | h
  · exact lowD_no _ _ h
  · exact lowD_no _ _ h
theorem piecesL_no (P : Nat → CV) (n : Nat) : ∀ l ∈ piecesL P n, (44 : UInt8) ∉ l := fun l hl => by
  obtain ⟨i, _, rfl⟩ := List.mem_map.1 hl
  exact pieceL_no _
theorem piecesL_snoc (P : Nat → CV) (n : Nat) : piecesL P n ++ [pieceL (P n)] = piecesL P (n + 1) := by
  unfold piecesL
  rw [List.range_succ, List.map_append]
  rfl
theorem piecesL_get (P : Nat → CV) {n k : Nat} (h : k < n) : (piecesL P n).getD k default = pieceL (P k) := by
  unfold piecesL
  simp [List.getD, h]
theorem join_len : ∀ (L : List (List UInt8)), (∀ l ∈ L, l.length = 16) → (Lib.join L [44]).length ≤ 17 * L.length
  | [], _ => by simp [Lib.join_nil]
  | [x], h => by rw [Lib.join_one, h x List.mem_cons_self]; simp
  | x :: y :: r, h => by
    have ih := join_len (y :: r) (fun l hl => h l (List.mem_cons_of_mem _ hl))
    have hx := h x List.mem_cons_self
    rw [join_two]
    simp only [List.length_append, List.length_cons] at ih ⊢
    omega
theorem piecesL_16 (P : Nat → CV) (n : Nat) : ∀ l ∈ piecesL P n, l.length = 16 := fun l hl => by
  obtain ⟨i, _, rfl⟩ := List.mem_map.1 hl
  exact pieceL_len _
theorem map_data (L : List (List UInt8)) : ((L.map bstr).map (·.data.toList)) = L := by
  rw [List.map_map]
  conv => rhs; rw [← List.map_id L]
  exact List.map_congr_left fun _ _ => rfl
attribute [local irreducible] WS RS Done OpJ Then InBlock Round Ret Env.sub FnH
attribute [local irreducible] tabC
theorem joined_fn (L : List (List UInt8)) (hn : L.length ≤ 1000) (hl : ∀ l ∈ L, l.length = 16) : Fn Tryz.prog 37 (fun w => [AV.sl w 1 ((L.map bstr).map strA)]) (.raw (.string (bstr (textL L)))) := by
  have hlen : (L.map bstr).length = L.length := List.length_map ..
  cases L with
  | nil =>
    refine fn_intro Tryz.func37 rfl Tryz.ntmps37 (fun _ => Nat.le_of_ble_eq_true rfl) fun w0 => ?_
    repeat first | refine zai rfl rfl ?_ | refine zaj rfl rfl rfl rfl ?_ | refine zaa rfl (zay rfl) ?_ | refine zaa rfl (zaz rfl) ?_ | (refine zac ?_; first | refine zaa rfl (zba rfl rfl rfl) ?_ | refine zaa rfl (zbb rfl rfl (by omega)) ?_ | refine zaa rfl (zbc rfl rfl (by omega)) ?_ | refine zaa rfl (zbd rfl rfl rfl) ?_ | refine zaa rfl (zbe rfl rfl) ?_ | refine zaa rfl (zbf rfl rfl) ?_ | refine zaa rfl (zbg rfl rfl) ?_ | refine zaa rfl (zbh rfl rfl) ?_ | refine zaa rfl (zbi rfl rfl) ?_ | refine zaa rfl (zbj rfl rfl) ?_ | refine zaa rfl (zbk rfl rfl) ?_ | refine zaa rfl (zbl rfl rfl) ?_) | (refine zad ?_; first | refine zaa rfl (opj_lenC rfl) ?_ | refine zaa rfl (zbo rfl) ?_ | refine zaa rfl (zbm rfl) ?_ | refine zaa rfl (zbn rfl) ?_ | refine zaa rfl (zbp rfl) ?_ | refine zaa rfl (zbq rfl) ?_ | refine zaa rfl (zbr rfl rfl) ?_) | (refine zae ?_; first | refine zaa rfl (opj_loadC rfl rfl (by (repeat (first | exact mh | refine mt ?_)); done) (by omega)) ?_ | refine zaa rfl (zbt rfl rfl (by (repeat (first | exact mh | refine mt ?_)); done) (by omega)) ?_ | refine zaa rfl (zcf rfl rfl (by (repeat (first | exact mh | refine mt ?_)); done) rfl) ?_ | refine zaa rfl (zcg rfl rfl (by (repeat (first | exact mh | refine mt ?_)); done) rfl rfl) ?_ | refine zaa rfl (zch rfl rfl rfl rfl) ?_ | refine zaa rfl (zbu rfl rfl) ?_) | (refine zaf ?_; first | refine zaa rfl (opj_indexC rfl rfl (by omega) (by omega)) ?_ | refine zaa rfl (zbs rfl rfl (by omega) (by omega)) ?_ | refine zaa rfl (zbv rfl rfl (by omega) (by omega)) ?_ | refine zaa rfl (zbw rfl rfl (by omega) (by omega)) ?_) | refine zaa rfl (zcd rfl) ?_ | refine zaa rfl (zce rfl) ?_ | refine zaa rfl (zbx rfl) ?_ | refine zaa rfl (zby rfl) ?_ | refine zaa rfl (zbz rfl rfl) ?_ | refine zaa rfl (zca rfl rfl) ?_ | refine zaa rfl (zcb rfl rfl) ?_ | refine zaa rfl (zcc rfl) ?_ | refine zah ?_ | (refine zcr ?_; first | refine zcs ?_ | refine zct ?_ | refine zcu ?_ | refine zcv ?_ | refine zcw ?_ | refine zcx ?_ | refine zcy rfl ?_ | refine zcz ?_ | refine zda ?_) | (refine zdb ?_; first | refine zdc ?_ | refine zdd ?_ | refine zde ?_ | refine zdf ?_ | refine zdg ?_ | refine zdh ?_ | refine zdi rfl ?_ | refine zdj rfl ?_) | (refine zak rfl rfl rfl ?_; intro g) | (refine zal rfl rfl ?_; intro g) | (refine zag ?_; first | refine zam 0 rfl rfl rfl rfl rfl rfl ?_ | refine zam 1 rfl rfl rfl rfl rfl rfl ?_ | refine zam 2 rfl rfl rfl rfl rfl rfl ?_ | refine zam 3 rfl rfl rfl rfl rfl rfl ?_ | refine zam 4 rfl rfl rfl rfl rfl rfl ?_ | refine zam 5 rfl rfl rfl rfl rfl rfl ?_ | refine zan 0 rfl rfl rfl rfl rfl rfl rfl rfl rfl ?_ | refine zan 1 rfl rfl rfl rfl rfl rfl rfl rfl rfl ?_ | refine zan 2 rfl rfl rfl rfl rfl rfl rfl rfl rfl ?_ | refine zan 3 rfl rfl rfl rfl rfl rfl rfl rfl rfl ?_ | refine zan 4 rfl rfl rfl rfl rfl rfl rfl rfl rfl ?_ | refine zan 5 rfl rfl rfl rfl rfl rfl rfl rfl rfl ?_ | refine zao 0 rfl rfl rfl rfl rfl rfl ?_ | refine zao 1 rfl rfl rfl rfl rfl rfl ?_ | refine zao 2 rfl rfl rfl rfl rfl rfl ?_ | refine zao 3 rfl rfl rfl rfl rfl rfl ?_)
    exact done_ret1 rfl () rfl trivial (List.nil_sublist _)
  | cons x r =>
    have hj := join_len (x :: r) hl
    have hJ := join_fn ((x :: r).map bstr) (by simp) (by rw [hlen]; exact hn) (by rw [map_data]; omega)
    rw [map_data] at hJ
    refine fn_intro Tryz.func37 rfl Tryz.ntmps37 (fun _ => Nat.le_of_ble_eq_true rfl) fun w0 => ?_
    repeat first | refine zai rfl rfl ?_ | refine zaj rfl rfl rfl rfl ?_ | refine zaa rfl (zay rfl) ?_ | refine zaa rfl (zaz rfl) ?_ | (refine zac ?_; first | refine zaa rfl (zba rfl rfl rfl) ?_ | refine zaa rfl (zbb rfl rfl (by omega)) ?_ | refine zaa rfl (zbc rfl rfl (by omega)) ?_ | refine zaa rfl (zbd rfl rfl rfl) ?_ | refine zaa rfl (zbe rfl rfl) ?_ | refine zaa rfl (zbf rfl rfl) ?_ | refine zaa rfl (zbg rfl rfl) ?_ | refine zaa rfl (zbh rfl rfl) ?_ | refine zaa rfl (zbi rfl rfl) ?_ | refine zaa rfl (zbj rfl rfl) ?_ | refine zaa rfl (zbk rfl rfl) ?_ | refine zaa rfl (zbl rfl rfl) ?_) | (refine zad ?_; first | refine zaa rfl (opj_lenC rfl) ?_ | refine zaa rfl (zbo rfl) ?_ | refine zaa rfl (zbm rfl) ?_ | refine zaa rfl (zbn rfl) ?_ | refine zaa rfl (zbp rfl) ?_ | refine zaa rfl (zbq rfl) ?_ | refine zaa rfl (zbr rfl rfl) ?_) | (refine zae ?_; first | refine zaa rfl (opj_loadC rfl rfl (by (repeat (first | exact mh | refine mt ?_)); done) (by omega)) ?_ | refine zaa rfl (zbt rfl rfl (by (repeat (first | exact mh | refine mt ?_)); done) (by omega)) ?_ | refine zaa rfl (zcf rfl rfl (by (repeat (first | exact mh | refine mt ?_)); done) rfl) ?_ | refine zaa rfl (zcg rfl rfl (by (repeat (first | exact mh | refine mt ?_)); done) rfl rfl) ?_ | refine zaa rfl (zch rfl rfl rfl rfl) ?_ | refine zaa rfl (zbu rfl rfl) ?_) | (refine zaf ?_; first | refine zaa rfl (opj_indexC rfl rfl (by omega) (by omega)) ?_ | refine zaa rfl (zbs rfl rfl (by omega) (by omega)) ?_ | refine zaa rfl (zbv rfl rfl (by omega) (by omega)) ?_ | refine zaa rfl (zbw rfl rfl (by omega) (by omega)) ?_) | refine zaa rfl (zcd rfl) ?_ | refine zaa rfl (zce rfl) ?_ | refine zaa rfl (zbx rfl) ?_ | refine zaa rfl (zby rfl) ?_ | refine zaa rfl (zbz rfl rfl) ?_ | refine zaa rfl (zca rfl rfl) ?_ | refine zaa rfl (zcb rfl rfl) ?_ | refine zaa rfl (zcc rfl) ?_ | refine zah ?_ | (refine zcr ?_; first | refine zcs ?_ | refine zct ?_ | refine zcu ?_ | refine zcv ?_ | refine zcw ?_ | refine zcx ?_ | refine zcy rfl ?_ | refine zcz ?_ | refine zda ?_) | (refine zdb ?_; first | refine zdc ?_ | refine zdd ?_ | refine zde ?_ | refine zdf ?_ | refine zdg ?_ | refine zdh ?_ | refine zdi rfl ?_ | refine zdj rfl ?_) | (refine zak rfl rfl rfl ?_; intro g) | (refine zal rfl rfl ?_; intro g) | (refine zag ?_; first | refine zam 0 rfl rfl rfl rfl rfl rfl ?_ | refine zam 1 rfl rfl rfl rfl rfl rfl ?_ | refine zam 2 rfl rfl rfl rfl rfl rfl ?_ | refine zam 3 rfl rfl rfl rfl rfl rfl ?_ | refine zam 4 rfl rfl rfl rfl rfl rfl ?_ | refine zam 5 rfl rfl rfl rfl rfl rfl ?_ | refine zan 0 rfl rfl rfl rfl rfl rfl rfl rfl rfl ?_ | refine zan 1 rfl rfl rfl rfl rfl rfl rfl rfl rfl ?_ | refine zan 2 rfl rfl rfl rfl rfl rfl rfl rfl rfl ?_ | refine zan 3 rfl rfl rfl rfl rfl rfl rfl rfl rfl ?_ | refine zan 4 rfl rfl rfl rfl rfl rfl rfl rfl rfl ?_ | refine zan 5 rfl rfl rfl rfl rfl rfl rfl rfl rfl ?_ | refine zao 0 rfl rfl rfl rfl rfl rfl ?_ | refine zao 1 rfl rfl rfl rfl rfl rfl ?_ | refine zao 2 rfl rfl rfl rfl rfl rfl ?_ | refine zao 3 rfl rfl rfl rfl rfl rfl ?_)
    rw [hlen, decide_eq_false (show ¬ (((x :: r).length : Nat) : Int) = 0 by simp only [List.length_cons]; omega)]
    repeat first | refine zai rfl rfl ?_ | refine zaj rfl rfl rfl rfl ?_ | refine zaa rfl (zay rfl) ?_ | refine zaa rfl (zaz rfl) ?_ | (refine zac ?_; first | refine zaa rfl (zba rfl rfl rfl) ?_ | refine zaa rfl (zbb rfl rfl (by omega)) ?_ | refine zaa rfl (zbc rfl rfl (by omega)) ?_ | refine zaa rfl (zbd rfl rfl rfl) ?_ | refine zaa rfl (zbe rfl rfl) ?_ | refine zaa rfl (zbf rfl rfl) ?_ | refine zaa rfl (zbg rfl rfl) ?_ | refine zaa rfl (zbh rfl rfl) ?_ | refine zaa rfl (zbi rfl rfl) ?_ | refine zaa rfl (zbj rfl rfl) ?_ | refine zaa rfl (zbk rfl rfl) ?_ | refine zaa rfl (zbl rfl rfl) ?_) | (refine zad ?_; first | refine zaa rfl (opj_lenC rfl) ?_ | refine zaa rfl (zbo rfl) ?_ | refine zaa rfl (zbm rfl) ?_ | refine zaa rfl (zbn rfl) ?_ | refine zaa rfl (zbp rfl) ?_ | refine zaa rfl (zbq rfl) ?_ | refine zaa rfl (zbr rfl rfl) ?_ | (refine zaa rfl (zci rfl rfl (hJ) ?_) ?_; (focus ((repeat (first | exact Takes.nil | refine Takes.sl ?_ | refine Takes.lit ?_ | refine Takes.fa ?_ | refine Takes.fc ?_ | refine Takes.net ?_ | (refine Takes.ownE ?_ ?_ ?_ ?_ ?_; (focus (exact ⟨_, _, (by (repeat (first | exact mh | refine mt ?_)); done)⟩)); (focus (simp; done)); (focus omega); (focus (simp only [maxLen]; omega))) | refine Takes.same ?_)); done)))) | (refine zae ?_; first | refine zaa rfl (opj_loadC rfl rfl (by (repeat (first | exact mh | refine mt ?_)); done) (by omega)) ?_ | refine zaa rfl (zbt rfl rfl (by (repeat (first | exact mh | refine mt ?_)); done) (by omega)) ?_ | refine zaa rfl (zcf rfl rfl (by (repeat (first | exact mh | refine mt ?_)); done) rfl) ?_ | refine zaa rfl (zcg rfl rfl (by (repeat (first | exact mh | refine mt ?_)); done) rfl rfl) ?_ | refine zaa rfl (zch rfl rfl rfl rfl) ?_ | refine zaa rfl (zbu rfl rfl) ?_) | (refine zaf ?_; first | refine zaa rfl (opj_indexC rfl rfl (by omega) (by omega)) ?_ | refine zaa rfl (zbs rfl rfl (by omega) (by omega)) ?_ | refine zaa rfl (zbv rfl rfl (by omega) (by omega)) ?_ | refine zaa rfl (zbw rfl rfl (by omega) (by omega)) ?_) | refine zaa rfl (zcd rfl) ?_ | refine zaa rfl (zce rfl) ?_ | refine zaa rfl (zbx rfl) ?_ | refine zaa rfl (zby rfl) ?_ | refine zaa rfl (zbz rfl rfl) ?_ | refine zaa rfl (zca rfl rfl) ?_ | refine zaa rfl (zcb rfl rfl) ?_ | refine zaa rfl (zcc rfl) ?_ | refine zah ?_ | (refine zcr ?_; first | refine zcs ?_ | refine zct ?_ | refine zcu ?_ | refine zcv ?_ | refine zcw ?_ | refine zcx ?_ | refine zcy rfl ?_ | refine zcz ?_ | refine zda ?_) | (refine zdb ?_; first | refine zdc ?_ | refine zdd ?_ | refine zde ?_ | refine zdf ?_ | refine zdg ?_ | refine zdh ?_ | refine zdi rfl ?_ | refine zdj rfl ?_) | (refine zak rfl rfl rfl ?_; intro g) | (refine zal rfl rfl ?_; intro g) | (refine zag ?_; first | refine zam 0 rfl rfl rfl rfl rfl rfl ?_ | refine zam 1 rfl rfl rfl rfl rfl rfl ?_ | refine zam 2 rfl rfl rfl rfl rfl rfl ?_ | refine zam 3 rfl rfl rfl rfl rfl rfl ?_ | refine zam 4 rfl rfl rfl rfl rfl rfl ?_ | refine zam 5 rfl rfl rfl rfl rfl rfl ?_ | refine zan 0 rfl rfl rfl rfl rfl rfl rfl rfl rfl ?_ | refine zan 1 rfl rfl rfl rfl rfl rfl rfl rfl rfl ?_ | refine zan 2 rfl rfl rfl rfl rfl rfl rfl rfl rfl ?_ | refine zan 3 rfl rfl rfl rfl rfl rfl rfl rfl rfl ?_ | refine zan 4 rfl rfl rfl rfl rfl rfl rfl rfl rfl ?_ | refine zan 5 rfl rfl rfl rfl rfl rfl rfl rfl rfl ?_ | refine zao 0 rfl rfl rfl rfl rfl rfl ?_ | refine zao 1 rfl rfl rfl rfl rfl rfl ?_ | refine zao 2 rfl rfl rfl rfl rfl rfl ?_ | refine zao 3 rfl rfl rfl rfl rfl rfl ?_)
    exact done_ret1 rfl () rfl trivial (List.nil_sublist _)
theorem textL_ne (x : List UInt8) (r : List (List UInt8)) (hx : x.length = 16) : ((bstr (textL (x :: r))).toList == (ByteArray.mk #[110, 111, 110, 101]).toList) = false := by
  rw [bstr_list, show (ByteArray.mk #[110, 111, 110, 101]).toList = [110, 111, 110, 101] from bstr_list _]
  refine beq_eq_false_iff_ne.2 fun h => ?_
  have h1 := congrArg List.length h
  have : 16 ≤ (textL (x :: r)).length := by
    show 16 ≤ (Lib.join (x :: r) [44]).length
    rw [Lib.join_cons, List.length_append]
    omega
  simp only [List.length_cons, List.length_nil] at h1
  omega
theorem pieces_none : Fn Tryz.prog 38 (fun _ => [.raw (.string (bstr (textL [])))]) (.raw (.slice none 0 0)) := by
  have he : ((bstr (textL [])).toList == (ByteArray.mk #[110, 111, 110, 101]).toList) = true := beq_iff_eq.2 rfl
  refine fn_intro Tryz.func38 rfl Tryz.ntmps38 (fun _ => Nat.le_of_ble_eq_true rfl) fun w0 => ?_
  repeat first | refine zai rfl rfl ?_ | refine zaj rfl rfl rfl rfl ?_ | refine zaa rfl (zay rfl) ?_ | refine zaa rfl (zaz rfl) ?_ | (refine zac ?_; first | refine zaa rfl (zba rfl rfl rfl) ?_ | refine zaa rfl (zbb rfl rfl (by omega)) ?_ | refine zaa rfl (zbc rfl rfl (by omega)) ?_ | refine zaa rfl (zbd rfl rfl rfl) ?_ | refine zaa rfl (zbe rfl rfl) ?_ | refine zaa rfl (zbf rfl rfl) ?_ | refine zaa rfl (zbg rfl rfl) ?_ | refine zaa rfl (zbh rfl rfl) ?_ | refine zaa rfl (zbi rfl rfl) ?_ | refine zaa rfl (zbj rfl rfl) ?_ | refine zaa rfl (zbk rfl rfl) ?_ | refine zaa rfl (zbl rfl rfl) ?_ | refine zaa rfl (opj_seq rfl rfl) ?_) | (refine zad ?_; first | refine zaa rfl (opj_lenC rfl) ?_ | refine zaa rfl (zbo rfl) ?_ | refine zaa rfl (zbm rfl) ?_ | refine zaa rfl (zbn rfl) ?_ | refine zaa rfl (zbp rfl) ?_ | refine zaa rfl (zbq rfl) ?_ | refine zaa rfl (zbr rfl rfl) ?_) | (refine zae ?_; first | refine zaa rfl (opj_loadC rfl rfl (by (repeat (first | exact mh | refine mt ?_)); done) (by omega)) ?_ | refine zaa rfl (zbt rfl rfl (by (repeat (first | exact mh | refine mt ?_)); done) (by omega)) ?_ | refine zaa rfl (zcf rfl rfl (by (repeat (first | exact mh | refine mt ?_)); done) rfl) ?_ | refine zaa rfl (zcg rfl rfl (by (repeat (first | exact mh | refine mt ?_)); done) rfl rfl) ?_ | refine zaa rfl (zch rfl rfl rfl rfl) ?_ | refine zaa rfl (zbu rfl rfl) ?_) | (refine zaf ?_; first | refine zaa rfl (opj_indexC rfl rfl (by omega) (by omega)) ?_ | refine zaa rfl (zbs rfl rfl (by omega) (by omega)) ?_ | refine zaa rfl (zbv rfl rfl (by omega) (by omega)) ?_ | refine zaa rfl (zbw rfl rfl (by omega) (by omega)) ?_) | refine zaa rfl (zcd rfl) ?_ | refine zaa rfl (zce rfl) ?_ | refine zaa rfl (zbx rfl) ?_ | refine zaa rfl (zby rfl) ?_ | refine zaa rfl (zbz rfl rfl) ?_ | refine zaa rfl (zca rfl rfl) ?_ | refine zaa rfl (zcb rfl rfl) ?_ | refine zaa rfl (zcc rfl) ?_ | refine zah ?_ | (refine zcr ?_; first | refine zcs ?_ | refine zct ?_ | refine zcu ?_ | refine zcv ?_ | refine zcw ?_ | refine zcx ?_ | refine zcy rfl ?_ | refine zcz ?_ | refine zda ?_) | (refine zdb ?_; first | refine zdc ?_ | refine zdd ?_ | refine zde ?_ | refine zdf ?_ | refine zdg ?_ | refine zdh ?_ | refine zdi rfl ?_ | refine zdj rfl ?_) | (refine zak rfl rfl rfl ?_; intro g) | (refine zal rfl rfl ?_; intro g) | (refine zag ?_; first | refine zam 0 rfl rfl rfl rfl rfl rfl ?_ | refine zam 1 rfl rfl rfl rfl rfl rfl ?_ | refine zam 2 rfl rfl rfl rfl rfl rfl ?_ | refine zam 3 rfl rfl rfl rfl rfl rfl ?_ | refine zam 4 rfl rfl rfl rfl rfl rfl ?_ | refine zam 5 rfl rfl rfl rfl rfl rfl ?_ | refine zan 0 rfl rfl rfl rfl rfl rfl rfl rfl rfl ?_ | refine zan 1 rfl rfl rfl rfl rfl rfl rfl rfl rfl ?_ | refine zan 2 rfl rfl rfl rfl rfl rfl rfl rfl rfl ?_ | refine zan 3 rfl rfl rfl rfl rfl rfl rfl rfl rfl ?_ | refine zan 4 rfl rfl rfl rfl rfl rfl rfl rfl rfl ?_ | refine zan 5 rfl rfl rfl rfl rfl rfl rfl rfl rfl ?_ | refine zao 0 rfl rfl rfl rfl rfl rfl ?_ | refine zao 1 rfl rfl rfl rfl rfl rfl ?_ | refine zao 2 rfl rfl rfl rfl rfl rfl ?_ | refine zao 3 rfl rfl rfl rfl rfl rfl ?_)
  rw [he]
  repeat first | refine zai rfl rfl ?_ | refine zaj rfl rfl rfl rfl ?_ | refine zaa rfl (zay rfl) ?_ | refine zaa rfl (zaz rfl) ?_ | (refine zac ?_; first | refine zaa rfl (zba rfl rfl rfl) ?_ | refine zaa rfl (zbb rfl rfl (by omega)) ?_ | refine zaa rfl (zbc rfl rfl (by omega)) ?_ | refine zaa rfl (zbd rfl rfl rfl) ?_ | refine zaa rfl (zbe rfl rfl) ?_ | refine zaa rfl (zbf rfl rfl) ?_ | refine zaa rfl (zbg rfl rfl) ?_ | refine zaa rfl (zbh rfl rfl) ?_ | refine zaa rfl (zbi rfl rfl) ?_ | refine zaa rfl (zbj rfl rfl) ?_ | refine zaa rfl (zbk rfl rfl) ?_ | refine zaa rfl (zbl rfl rfl) ?_) | (refine zad ?_; first | refine zaa rfl (opj_lenC rfl) ?_ | refine zaa rfl (zbo rfl) ?_ | refine zaa rfl (zbm rfl) ?_ | refine zaa rfl (zbn rfl) ?_ | refine zaa rfl (zbp rfl) ?_ | refine zaa rfl (zbq rfl) ?_ | refine zaa rfl (zbr rfl rfl) ?_) | (refine zae ?_; first | refine zaa rfl (opj_loadC rfl rfl (by (repeat (first | exact mh | refine mt ?_)); done) (by omega)) ?_ | refine zaa rfl (zbt rfl rfl (by (repeat (first | exact mh | refine mt ?_)); done) (by omega)) ?_ | refine zaa rfl (zcf rfl rfl (by (repeat (first | exact mh | refine mt ?_)); done) rfl) ?_ | refine zaa rfl (zcg rfl rfl (by (repeat (first | exact mh | refine mt ?_)); done) rfl rfl) ?_ | refine zaa rfl (zch rfl rfl rfl rfl) ?_ | refine zaa rfl (zbu rfl rfl) ?_) | (refine zaf ?_; first | refine zaa rfl (opj_indexC rfl rfl (by omega) (by omega)) ?_ | refine zaa rfl (zbs rfl rfl (by omega) (by omega)) ?_ | refine zaa rfl (zbv rfl rfl (by omega) (by omega)) ?_ | refine zaa rfl (zbw rfl rfl (by omega) (by omega)) ?_) | refine zaa rfl (zcd rfl) ?_ | refine zaa rfl (zce rfl) ?_ | refine zaa rfl (zbx rfl) ?_ | refine zaa rfl (zby rfl) ?_ | refine zaa rfl (zbz rfl rfl) ?_ | refine zaa rfl (zca rfl rfl) ?_ | refine zaa rfl (zcb rfl rfl) ?_ | refine zaa rfl (zcc rfl) ?_ | refine zah ?_ | (refine zcr ?_; first | refine zcs ?_ | refine zct ?_ | refine zcu ?_ | refine zcv ?_ | refine zcw ?_ | refine zcx ?_ | refine zcy rfl ?_ | refine zcz ?_ | refine zda ?_) | (refine zdb ?_; first | refine zdc ?_ | refine zdd ?_ | refine zde ?_ | refine zdf ?_ | refine zdg ?_ | refine zdh ?_ | refine zdi rfl ?_ | refine zdj rfl ?_) | (refine zak rfl rfl rfl ?_; intro g) | (refine zal rfl rfl ?_; intro g) | (refine zag ?_; first | refine zam 0 rfl rfl rfl rfl rfl rfl ?_ | refine zam 1 rfl rfl rfl rfl rfl rfl ?_ | refine zam 2 rfl rfl rfl rfl rfl rfl ?_ | refine zam 3 rfl rfl rfl rfl rfl rfl ?_ | refine zam 4 rfl rfl rfl rfl rfl rfl ?_ | refine zam 5 rfl rfl rfl rfl rfl rfl ?_ | refine zan 0 rfl rfl rfl rfl rfl rfl rfl rfl rfl ?_ | refine zan 1 rfl rfl rfl rfl rfl rfl rfl rfl rfl ?_ | refine zan 2 rfl rfl rfl rfl rfl rfl rfl rfl rfl ?_ | refine zan 3 rfl rfl rfl rfl rfl rfl rfl rfl rfl ?_ | refine zan 4 rfl rfl rfl rfl rfl rfl rfl rfl rfl ?_ | refine zan 5 rfl rfl rfl rfl rfl rfl rfl rfl rfl ?_ | refine zao 0 rfl rfl rfl rfl rfl rfl ?_ | refine zao 1 rfl rfl rfl rfl rfl rfl ?_ | refine zao 2 rfl rfl rfl rfl rfl rfl ?_ | refine zao 3 rfl rfl rfl rfl rfl rfl ?_)
  exact done_ret1 rfl () rfl trivial (List.nil_sublist _)
theorem pieces_some (x : List UInt8) (r : List (List UInt8)) (hn : (x :: r).length ≤ 1000) (hl : ∀ l ∈ x :: r, l.length = 16) (hno : ∀ l ∈ x :: r, (44 : UInt8) ∉ l) :
    FnH (X := Nat) Tryz.prog 38 (fun _ => [.raw (.string (bstr (textL (x :: r))))]) [] (fun g => .raw (.slice (some ⟨g, 0, none⟩) (x :: r).length (x :: r).length)) (fun g => [⟨g, 9, (x :: r).map (fun l => strA (bstr l)), (x :: r).length⟩]) (fun _ => True) := by
  have he := textL_ne x r (hl x List.mem_cons_self)
  have hj := join_len (x :: r) hl
  have hS := split_fn (x :: r) (by simp) hno (by omega)
  refine fn_intro Tryz.func38 rfl Tryz.ntmps38 (fun _ => Nat.le_of_ble_eq_true rfl) fun w0 => ?_
  repeat first | refine zai rfl rfl ?_ | refine zaj rfl rfl rfl rfl ?_ | refine zaa rfl (zay rfl) ?_ | refine zaa rfl (zaz rfl) ?_ | (refine zac ?_; first | refine zaa rfl (zba rfl rfl rfl) ?_ | refine zaa rfl (zbb rfl rfl (by omega)) ?_ | refine zaa rfl (zbc rfl rfl (by omega)) ?_ | refine zaa rfl (zbd rfl rfl rfl) ?_ | refine zaa rfl (zbe rfl rfl) ?_ | refine zaa rfl (zbf rfl rfl) ?_ | refine zaa rfl (zbg rfl rfl) ?_ | refine zaa rfl (zbh rfl rfl) ?_ | refine zaa rfl (zbi rfl rfl) ?_ | refine zaa rfl (zbj rfl rfl) ?_ | refine zaa rfl (zbk rfl rfl) ?_ | refine zaa rfl (zbl rfl rfl) ?_ | refine zaa rfl (opj_seq rfl rfl) ?_) | (refine zad ?_; first | refine zaa rfl (opj_lenC rfl) ?_ | refine zaa rfl (zbo rfl) ?_ | refine zaa rfl (zbm rfl) ?_ | refine zaa rfl (zbn rfl) ?_ | refine zaa rfl (zbp rfl) ?_ | refine zaa rfl (zbq rfl) ?_ | refine zaa rfl (zbr rfl rfl) ?_) | (refine zae ?_; first | refine zaa rfl (opj_loadC rfl rfl (by (repeat (first | exact mh | refine mt ?_)); done) (by omega)) ?_ | refine zaa rfl (zbt rfl rfl (by (repeat (first | exact mh | refine mt ?_)); done) (by omega)) ?_ | refine zaa rfl (zcf rfl rfl (by (repeat (first | exact mh | refine mt ?_)); done) rfl) ?_ | refine zaa rfl (zcg rfl rfl (by (repeat (first | exact mh | refine mt ?_)); done) rfl rfl) ?_ | refine zaa rfl (zch rfl rfl rfl rfl) ?_ | refine zaa rfl (zbu rfl rfl) ?_) | (refine zaf ?_; first | refine zaa rfl (opj_indexC rfl rfl (by omega) (by omega)) ?_ | refine zaa rfl (zbs rfl rfl (by omega) (by omega)) ?_ | refine zaa rfl (zbv rfl rfl (by omega) (by omega)) ?_ | refine zaa rfl (zbw rfl rfl (by omega) (by omega)) ?_) | refine zaa rfl (zcd rfl) ?_ | refine zaa rfl (zce rfl) ?_ | refine zaa rfl (zbx rfl) ?_ | refine zaa rfl (zby rfl) ?_ | refine zaa rfl (zbz rfl rfl) ?_ | refine zaa rfl (zca rfl rfl) ?_ | refine zaa rfl (zcb rfl rfl) ?_ | refine zaa rfl (zcc rfl) ?_ | refine zah ?_ | (refine zcr ?_; first | refine zcs ?_ | refine zct ?_ | refine zcu ?_ | refine zcv ?_ | refine zcw ?_ | refine zcx ?_ | refine zcy rfl ?_ | refine zcz ?_ | refine zda ?_) | (refine zdb ?_; first | refine zdc ?_ | refine zdd ?_ | refine zde ?_ | refine zdf ?_ | refine zdg ?_ | refine zdh ?_ | refine zdi rfl ?_ | refine zdj rfl ?_) | (refine zak rfl rfl rfl ?_; intro g) | (refine zal rfl rfl ?_; intro g) | (refine zag ?_; first | refine zam 0 rfl rfl rfl rfl rfl rfl ?_ | refine zam 1 rfl rfl rfl rfl rfl rfl ?_ | refine zam 2 rfl rfl rfl rfl rfl rfl ?_ | refine zam 3 rfl rfl rfl rfl rfl rfl ?_ | refine zam 4 rfl rfl rfl rfl rfl rfl ?_ | refine zam 5 rfl rfl rfl rfl rfl rfl ?_ | refine zan 0 rfl rfl rfl rfl rfl rfl rfl rfl rfl ?_ | refine zan 1 rfl rfl rfl rfl rfl rfl rfl rfl rfl ?_ | refine zan 2 rfl rfl rfl rfl rfl rfl rfl rfl rfl ?_ | refine zan 3 rfl rfl rfl rfl rfl rfl rfl rfl rfl ?_ | refine zan 4 rfl rfl rfl rfl rfl rfl rfl rfl rfl ?_ | refine zan 5 rfl rfl rfl rfl rfl rfl rfl rfl rfl ?_ | refine zao 0 rfl rfl rfl rfl rfl rfl ?_ | refine zao 1 rfl rfl rfl rfl rfl rfl ?_ | refine zao 2 rfl rfl rfl rfl rfl rfl ?_ | refine zao 3 rfl rfl rfl rfl rfl rfl ?_)
  rw [he]
  repeat first | refine zai rfl rfl ?_ | refine zaj rfl rfl rfl rfl ?_ | refine zaa rfl (zay rfl) ?_ | refine zaa rfl (zaz rfl) ?_ | (refine zac ?_; first | refine zaa rfl (zba rfl rfl rfl) ?_ | refine zaa rfl (zbb rfl rfl (by omega)) ?_ | refine zaa rfl (zbc rfl rfl (by omega)) ?_ | refine zaa rfl (zbd rfl rfl rfl) ?_ | refine zaa rfl (zbe rfl rfl) ?_ | refine zaa rfl (zbf rfl rfl) ?_ | refine zaa rfl (zbg rfl rfl) ?_ | refine zaa rfl (zbh rfl rfl) ?_ | refine zaa rfl (zbi rfl rfl) ?_ | refine zaa rfl (zbj rfl rfl) ?_ | refine zaa rfl (zbk rfl rfl) ?_ | refine zaa rfl (zbl rfl rfl) ?_) | (refine zad ?_; first | refine zaa rfl (opj_lenC rfl) ?_ | refine zaa rfl (zbo rfl) ?_ | refine zaa rfl (zbm rfl) ?_ | refine zaa rfl (zbn rfl) ?_ | refine zaa rfl (zbp rfl) ?_ | refine zaa rfl (zbq rfl) ?_ | refine zaa rfl (zbr rfl rfl) ?_) | (refine zae ?_; first | refine zaa rfl (opj_loadC rfl rfl (by (repeat (first | exact mh | refine mt ?_)); done) (by omega)) ?_ | refine zaa rfl (zbt rfl rfl (by (repeat (first | exact mh | refine mt ?_)); done) (by omega)) ?_ | refine zaa rfl (zcf rfl rfl (by (repeat (first | exact mh | refine mt ?_)); done) rfl) ?_ | refine zaa rfl (zcg rfl rfl (by (repeat (first | exact mh | refine mt ?_)); done) rfl rfl) ?_ | refine zaa rfl (zch rfl rfl rfl rfl) ?_ | refine zaa rfl (zbu rfl rfl) ?_) | (refine zaf ?_; first | refine zaa rfl (opj_indexC rfl rfl (by omega) (by omega)) ?_ | refine zaa rfl (zbs rfl rfl (by omega) (by omega)) ?_ | refine zaa rfl (zbv rfl rfl (by omega) (by omega)) ?_ | refine zaa rfl (zbw rfl rfl (by omega) (by omega)) ?_) | refine zaa rfl (zcd rfl) ?_ | refine zaa rfl (zce rfl) ?_ | refine zaa rfl (zbx rfl) ?_ | refine zaa rfl (zby rfl) ?_ | refine zaa rfl (zbz rfl rfl) ?_ | refine zaa rfl (zca rfl rfl) ?_ | refine zaa rfl (zcb rfl rfl) ?_ | refine zaa rfl (zcc rfl) ?_ | refine zah ?_ | (refine zcr ?_; first | refine zcs ?_ | refine zct ?_ | refine zcu ?_ | refine zcv ?_ | refine zcw ?_ | refine zcx ?_ | refine zcy rfl ?_ | refine zcz ?_ | refine zda ?_) | (refine zdb ?_; first | refine zdc ?_ | refine zdd ?_ | refine zde ?_ | refine zdf ?_ | refine zdg ?_ | refine zdh ?_ | refine zdi rfl ?_ | refine zdj rfl ?_) | (refine zak rfl rfl rfl ?_; intro g) | (refine zal rfl rfl ?_; intro g) | (refine zag ?_; first | refine zam 0 rfl rfl rfl rfl rfl rfl ?_ | refine zam 1 rfl rfl rfl rfl rfl rfl ?_ | refine zam 2 rfl rfl rfl rfl rfl rfl ?_ | refine zam 3 rfl rfl rfl rfl rfl rfl ?_ | refine zam 4 rfl rfl rfl rfl rfl rfl ?_ | refine zam 5 rfl rfl rfl rfl rfl rfl ?_ | refine zan 0 rfl rfl rfl rfl rfl rfl rfl rfl rfl ?_ | refine zan 1 rfl rfl rfl rfl rfl rfl rfl rfl rfl ?_ | refine zan 2 rfl rfl rfl rfl rfl rfl rfl rfl rfl ?_ | refine zan 3 rfl rfl rfl rfl rfl rfl rfl rfl rfl ?_ | refine zan 4 rfl rfl rfl rfl rfl rfl rfl rfl rfl ?_ | refine zan 5 rfl rfl rfl rfl rfl rfl rfl rfl rfl ?_ | refine zao 0 rfl rfl rfl rfl rfl rfl ?_ | refine zao 1 rfl rfl rfl rfl rfl rfl ?_ | refine zao 2 rfl rfl rfl rfl rfl rfl ?_ | refine zao 3 rfl rfl rfl rfl rfl rfl ?_)
  refine rs_callM3 hS rfl rfl (Takes.same (Takes.same Takes.nil)) rfl ?_
  rintro g -
  repeat first | refine zai rfl rfl ?_ | refine zaj rfl rfl rfl rfl ?_ | refine zaa rfl (zay rfl) ?_ | refine zaa rfl (zaz rfl) ?_ | (refine zac ?_; first | refine zaa rfl (zba rfl rfl rfl) ?_ | refine zaa rfl (zbb rfl rfl (by omega)) ?_ | refine zaa rfl (zbc rfl rfl (by omega)) ?_ | refine zaa rfl (zbd rfl rfl rfl) ?_ | refine zaa rfl (zbe rfl rfl) ?_ | refine zaa rfl (zbf rfl rfl) ?_ | refine zaa rfl (zbg rfl rfl) ?_ | refine zaa rfl (zbh rfl rfl) ?_ | refine zaa rfl (zbi rfl rfl) ?_ | refine zaa rfl (zbj rfl rfl) ?_ | refine zaa rfl (zbk rfl rfl) ?_ | refine zaa rfl (zbl rfl rfl) ?_) | (refine zad ?_; first | refine zaa rfl (opj_lenC rfl) ?_ | refine zaa rfl (zbo rfl) ?_ | refine zaa rfl (zbm rfl) ?_ | refine zaa rfl (zbn rfl) ?_ | refine zaa rfl (zbp rfl) ?_ | refine zaa rfl (zbq rfl) ?_ | refine zaa rfl (zbr rfl rfl) ?_) | (refine zae ?_; first | refine zaa rfl (opj_loadC rfl rfl (by (repeat (first | exact mh | refine mt ?_)); done) (by omega)) ?_ | refine zaa rfl (zbt rfl rfl (by (repeat (first | exact mh | refine mt ?_)); done) (by omega)) ?_ | refine zaa rfl (zcf rfl rfl (by (repeat (first | exact mh | refine mt ?_)); done) rfl) ?_ | refine zaa rfl (zcg rfl rfl (by (repeat (first | exact mh | refine mt ?_)); done) rfl rfl) ?_ | refine zaa rfl (zch rfl rfl rfl rfl) ?_ | refine zaa rfl (zbu rfl rfl) ?_) | (refine zaf ?_; first | refine zaa rfl (opj_indexC rfl rfl (by omega) (by omega)) ?_ | refine zaa rfl (zbs rfl rfl (by omega) (by omega)) ?_ | refine zaa rfl (zbv rfl rfl (by omega) (by omega)) ?_ | refine zaa rfl (zbw rfl rfl (by omega) (by omega)) ?_) | refine zaa rfl (zcd rfl) ?_ | refine zaa rfl (zce rfl) ?_ | refine zaa rfl (zbx rfl) ?_ | refine zaa rfl (zby rfl) ?_ | refine zaa rfl (zbz rfl rfl) ?_ | refine zaa rfl (zca rfl rfl) ?_ | refine zaa rfl (zcb rfl rfl) ?_ | refine zaa rfl (zcc rfl) ?_ | refine zah ?_ | (refine zcr ?_; first | refine zcs ?_ | refine zct ?_ | refine zcu ?_ | refine zcv ?_ | refine zcw ?_ | refine zcx ?_ | refine zcy rfl ?_ | refine zcz ?_ | refine zda ?_) | (refine zdb ?_; first | refine zdc ?_ | refine zdd ?_ | refine zde ?_ | refine zdf ?_ | refine zdg ?_ | refine zdh ?_ | refine zdi rfl ?_ | refine zdj rfl ?_) | (refine zak rfl rfl rfl ?_; intro g) | (refine zal rfl rfl ?_; intro g) | (refine zag ?_; first | refine zam 0 rfl rfl rfl rfl rfl rfl ?_ | refine zam 1 rfl rfl rfl rfl rfl rfl ?_ | refine zam 2 rfl rfl rfl rfl rfl rfl ?_ | refine zam 3 rfl rfl rfl rfl rfl rfl ?_ | refine zam 4 rfl rfl rfl rfl rfl rfl ?_ | refine zam 5 rfl rfl rfl rfl rfl rfl ?_ | refine zan 0 rfl rfl rfl rfl rfl rfl rfl rfl rfl ?_ | refine zan 1 rfl rfl rfl rfl rfl rfl rfl rfl rfl ?_ | refine zan 2 rfl rfl rfl rfl rfl rfl rfl rfl rfl ?_ | refine zan 3 rfl rfl rfl rfl rfl rfl rfl rfl rfl ?_ | refine zan 4 rfl rfl rfl rfl rfl rfl rfl rfl rfl ?_ | refine zan 5 rfl rfl rfl rfl rfl rfl rfl rfl rfl ?_ | refine zao 0 rfl rfl rfl rfl rfl rfl ?_ | refine zao 1 rfl rfl rfl rfl rfl rfl ?_ | refine zao 2 rfl rfl rfl rfl rfl rfl ?_ | refine zao 3 rfl rfl rfl rfl rfl rfl ?_)
  exact done_ret1 rfl g rfl trivial (List.Sublist.refl _)
theorem sadd_bstr (l m : List UInt8) : strA (bstr l ++ bstr m) = strA (bstr (l ++ m)) := by rw [bstr_add]
set_option maxRecDepth 100000 in
theorem complexText_fn (n : Nat) (P : Nat → CV) (hn : n ≤ 200) (hP : ∀ i, Ok32 (P i).1 ∧ Ok32 (P i).2) :
    Fn Tryz.prog 16 (fun w => [AV.w w Tab64 (slC w (tabC n P))]) (.tup [.raw (.string (bstr (textL (piecesL P n)))), .raw (.bool true)]) := by
  have hJ := joined_fn (piecesL P n) (by rw [piecesL_len]; omega) (piecesL_16 P n)
  refine fn_intro Tryz.func16 rfl Tryz.ntmps16 (fun _ => Nat.le_of_ble_eq_true rfl) fun w0 => ?_
  refine ws_w 0 rfl rfl fun hT => ?_
  repeat first | refine zai rfl rfl ?_ | refine zaj rfl rfl rfl rfl ?_ | refine zaa rfl (zay rfl) ?_ | refine zaa rfl (zaz rfl) ?_ | (refine zac ?_; first | refine zaa rfl (zba rfl rfl rfl) ?_ | refine zaa rfl (zbb rfl rfl (by omega)) ?_ | refine zaa rfl (zbc rfl rfl (by omega)) ?_ | refine zaa rfl (zbd rfl rfl rfl) ?_ | refine zaa rfl (zbe rfl rfl) ?_ | refine zaa rfl (zbf rfl rfl) ?_ | refine zaa rfl (zbg rfl rfl) ?_ | refine zaa rfl (zbh rfl rfl) ?_ | refine zaa rfl (zbi rfl rfl) ?_ | refine zaa rfl (zbj rfl rfl) ?_ | refine zaa rfl (zbk rfl rfl) ?_ | refine zaa rfl (zbl rfl rfl) ?_) | (refine zad ?_; first | refine zaa rfl (opj_lenC rfl) ?_ | refine zaa rfl (zbo rfl) ?_ | refine zaa rfl (zbm rfl) ?_ | refine zaa rfl (zbn rfl) ?_ | refine zaa rfl (zbp rfl) ?_ | refine zaa rfl (zbq rfl) ?_ | refine zaa rfl (zbr rfl rfl) ?_) | (refine zae ?_; first | refine zaa rfl (opj_loadC rfl rfl (by (repeat (first | exact mh | refine mt ?_)); done) (by omega)) ?_ | refine zaa rfl (zbt rfl rfl (by (repeat (first | exact mh | refine mt ?_)); done) (by omega)) ?_ | refine zaa rfl (zcf rfl rfl (by (repeat (first | exact mh | refine mt ?_)); done) rfl) ?_ | refine zaa rfl (zcg rfl rfl (by (repeat (first | exact mh | refine mt ?_)); done) rfl rfl) ?_ | refine zaa rfl (zch rfl rfl rfl rfl) ?_ | refine zaa rfl (zbu rfl rfl) ?_) | (refine zaf ?_; first | refine zaa rfl (opj_indexC rfl rfl (by omega) (by omega)) ?_ | refine zaa rfl (zbs rfl rfl (by omega) (by omega)) ?_ | refine zaa rfl (zbv rfl rfl (by omega) (by omega)) ?_ | refine zaa rfl (zbw rfl rfl (by omega) (by omega)) ?_) | refine zaa rfl (zcd rfl) ?_ | refine zaa rfl (zce rfl) ?_ | refine zaa rfl (zbx rfl) ?_ | refine zaa rfl (zby rfl) ?_ | refine zaa rfl (zbz rfl rfl) ?_ | refine zaa rfl (zca rfl rfl) ?_ | refine zaa rfl (zcb rfl rfl) ?_ | refine zaa rfl (zcc rfl) ?_ | refine zah ?_ | (refine zcr ?_; first | refine zcs ?_ | refine zct ?_ | refine zcu ?_ | refine zcv ?_ | refine zcw ?_ | refine zcx ?_ | refine zcy rfl ?_ | refine zcz ?_ | refine zda ?_) | (refine zdb ?_; first | refine zdc ?_ | refine zdd ?_ | refine zde ?_ | refine zdf ?_ | refine zdg ?_ | refine zdh ?_ | refine zdi rfl ?_ | refine zdj rfl ?_) | (refine zak rfl rfl rfl ?_; intro g) | (refine zal rfl rfl ?_; intro g) | (refine zag ?_; first | refine zam 0 rfl rfl rfl rfl rfl rfl ?_ | refine zam 1 rfl rfl rfl rfl rfl rfl ?_ | refine zam 2 rfl rfl rfl rfl rfl rfl ?_ | refine zam 3 rfl rfl rfl rfl rfl rfl ?_ | refine zam 4 rfl rfl rfl rfl rfl rfl ?_ | refine zam 5 rfl rfl rfl rfl rfl rfl ?_ | refine zan 0 rfl rfl rfl rfl rfl rfl rfl rfl rfl ?_ | refine zan 1 rfl rfl rfl rfl rfl rfl rfl rfl rfl ?_ | refine zan 2 rfl rfl rfl rfl rfl rfl rfl rfl rfl ?_ | refine zan 3 rfl rfl rfl rfl rfl rfl rfl rfl rfl ?_ | refine zan 4 rfl rfl rfl rfl rfl rfl rfl rfl rfl ?_ | refine zan 5 rfl rfl rfl rfl rfl rfl rfl rfl rfl ?_ | refine zao 0 rfl rfl rfl rfl rfl rfl ?_ | refine zao 1 rfl rfl rfl rfl rfl rfl ?_ | refine zao 2 rfl rfl rfl rfl rfl rfl ?_ | refine zao 3 rfl rfl rfl rfl rfl rfl ?_)
  rw [decide_eq_false (show ¬ (256 : Int) < (n : Int) by omega)]
  repeat first | refine zai rfl rfl ?_ | refine zaj rfl rfl rfl rfl ?_ | refine zaa rfl (zay rfl) ?_ | refine zaa rfl (zaz rfl) ?_ | (refine zac ?_; first | refine zaa rfl (zba rfl rfl rfl) ?_ | refine zaa rfl (zbb rfl rfl (by omega)) ?_ | refine zaa rfl (zbc rfl rfl (by omega)) ?_ | refine zaa rfl (zbd rfl rfl rfl) ?_ | refine zaa rfl (zbe rfl rfl) ?_ | refine zaa rfl (zbf rfl rfl) ?_ | refine zaa rfl (zbg rfl rfl) ?_ | refine zaa rfl (zbh rfl rfl) ?_ | refine zaa rfl (zbi rfl rfl) ?_ | refine zaa rfl (zbj rfl rfl) ?_ | refine zaa rfl (zbk rfl rfl) ?_ | refine zaa rfl (zbl rfl rfl) ?_) | (refine zad ?_; first | refine zaa rfl (opj_lenC rfl) ?_ | refine zaa rfl (zbo rfl) ?_ | refine zaa rfl (zbm rfl) ?_ | refine zaa rfl (zbn rfl) ?_ | refine zaa rfl (zbp rfl) ?_ | refine zaa rfl (zbq rfl) ?_ | refine zaa rfl (zbr rfl rfl) ?_) | (refine zae ?_; first | refine zaa rfl (opj_loadC rfl rfl (by (repeat (first | exact mh | refine mt ?_)); done) (by omega)) ?_ | refine zaa rfl (zbt rfl rfl (by (repeat (first | exact mh | refine mt ?_)); done) (by omega)) ?_ | refine zaa rfl (zcf rfl rfl (by (repeat (first | exact mh | refine mt ?_)); done) rfl) ?_ | refine zaa rfl (zcg rfl rfl (by (repeat (first | exact mh | refine mt ?_)); done) rfl rfl) ?_ | refine zaa rfl (zch rfl rfl rfl rfl) ?_ | refine zaa rfl (zbu rfl rfl) ?_) | (refine zaf ?_; first | refine zaa rfl (opj_indexC rfl rfl (by omega) (by omega)) ?_ | refine zaa rfl (zbs rfl rfl (by omega) (by omega)) ?_ | refine zaa rfl (zbv rfl rfl (by omega) (by omega)) ?_ | refine zaa rfl (zbw rfl rfl (by omega) (by omega)) ?_) | refine zaa rfl (zcd rfl) ?_ | refine zaa rfl (zce rfl) ?_ | refine zaa rfl (zbx rfl) ?_ | refine zaa rfl (zby rfl) ?_ | refine zaa rfl (zbz rfl rfl) ?_ | refine zaa rfl (zca rfl rfl) ?_ | refine zaa rfl (zcb rfl rfl) ?_ | refine zaa rfl (zcc rfl) ?_ | refine zah ?_ | (refine zcr ?_; first | refine zcs ?_ | refine zct ?_ | refine zcu ?_ | refine zcv ?_ | refine zcw ?_ | refine zcx ?_ | refine zcy rfl ?_ | refine zcz ?_ | refine zda ?_) | (refine zdb ?_; first | refine zdc ?_ | refine zdd ?_ | refine zde ?_ | refine zdf ?_ | refine zdg ?_ | refine zdh ?_ | refine zdi rfl ?_ | refine zdj rfl ?_) | (refine zak rfl rfl rfl ?_; intro g) | (refine zal rfl rfl ?_; intro g) | (refine zag ?_; first | refine zam 0 rfl rfl rfl rfl rfl rfl ?_ | refine zam 1 rfl rfl rfl rfl rfl rfl ?_ | refine zam 2 rfl rfl rfl rfl rfl rfl ?_ | refine zam 3 rfl rfl rfl rfl rfl rfl ?_ | refine zam 4 rfl rfl rfl rfl rfl rfl ?_ | refine zam 5 rfl rfl rfl rfl rfl rfl ?_ | refine zan 0 rfl rfl rfl rfl rfl rfl rfl rfl rfl ?_ | refine zan 1 rfl rfl rfl rfl rfl rfl rfl rfl rfl ?_ | refine zan 2 rfl rfl rfl rfl rfl rfl rfl rfl rfl ?_ | refine zan 3 rfl rfl rfl rfl rfl rfl rfl rfl rfl ?_ | refine zan 4 rfl rfl rfl rfl rfl rfl rfl rfl rfl ?_ | refine zan 5 rfl rfl rfl rfl rfl rfl rfl rfl rfl ?_ | refine zao 0 rfl rfl rfl rfl rfl rfl ?_ | refine zao 1 rfl rfl rfl rfl rfl rfl ?_ | refine zao 2 rfl rfl rfl rfl rfl rfl ?_ | refine zao 3 rfl rfl rfl rfl rfl rfl ?_) | (refine rs_lit0 (t := 61) rfl ?_; intro g0)
  refine ws_loop (ι := Nat × Nat × Nat) (fun y => [(0, slC w0 (tabC n P)), (4, .raw (.slice (some ⟨y.2.1, 0, none⟩) y.1 y.2.2)), (11, slC w0 (tabC n P)), (12, .raw (.int .i64 (n : Nat))), (13, .raw (.int .i64 (y.1 : Nat)))])
    (fun y => St w0 [] [⟨y.2.1, 9, (piecesL P y.1).map (fun l => strA (bstr l)), y.2.2⟩]) (fun y => y.1 ≤ n ∧ y.1 ≤ y.2.2 ∧ y.2.2 ≤ maxLen) (fun y => n - y.1) (0, g0, 0) ⟨Nat.zero_le _, Nat.le_refl _, Nat.zero_le _⟩ ?_ (fun _ h => h) (fun y hy => ?_)
  · (repeat (first | exact Env.sub_nil _ | refine Env.sub_cons rfl ?_))
  obtain ⟨k, g, c⟩ := y
  dsimp only at hy ⊢
  obtain ⟨hk, hc1, hc2⟩ := hy
  repeat first | refine zai rfl rfl ?_ | refine zaj rfl rfl rfl rfl ?_ | refine zaa rfl (zay rfl) ?_ | refine zaa rfl (zaz rfl) ?_ | (refine zac ?_; first | refine zaa rfl (zba rfl rfl rfl) ?_ | refine zaa rfl (zbb rfl rfl (by omega)) ?_ | refine zaa rfl (zbc rfl rfl (by omega)) ?_ | refine zaa rfl (zbd rfl rfl rfl) ?_ | refine zaa rfl (zbe rfl rfl) ?_ | refine zaa rfl (zbf rfl rfl) ?_ | refine zaa rfl (zbg rfl rfl) ?_ | refine zaa rfl (zbh rfl rfl) ?_ | refine zaa rfl (zbi rfl rfl) ?_ | refine zaa rfl (zbj rfl rfl) ?_ | refine zaa rfl (zbk rfl rfl) ?_ | refine zaa rfl (zbl rfl rfl) ?_) | (refine zad ?_; first | refine zaa rfl (opj_lenC rfl) ?_ | refine zaa rfl (zbo rfl) ?_ | refine zaa rfl (zbm rfl) ?_ | refine zaa rfl (zbn rfl) ?_ | refine zaa rfl (zbp rfl) ?_ | refine zaa rfl (zbq rfl) ?_ | refine zaa rfl (zbr rfl rfl) ?_) | (refine zae ?_; first | refine zaa rfl (opj_loadC rfl rfl (by (repeat (first | exact mh | refine mt ?_)); done) (by omega)) ?_ | refine zaa rfl (zbt rfl rfl (by (repeat (first | exact mh | refine mt ?_)); done) (by omega)) ?_ | refine zaa rfl (zcf rfl rfl (by (repeat (first | exact mh | refine mt ?_)); done) rfl) ?_ | refine zaa rfl (zcg rfl rfl (by (repeat (first | exact mh | refine mt ?_)); done) rfl rfl) ?_ | refine zaa rfl (zch rfl rfl rfl rfl) ?_ | refine zaa rfl (zbu rfl rfl) ?_) | (refine zaf ?_; first | refine zaa rfl (opj_indexC rfl rfl (by omega) (by omega)) ?_ | refine zaa rfl (zbs rfl rfl (by omega) (by omega)) ?_ | refine zaa rfl (zbv rfl rfl (by omega) (by omega)) ?_ | refine zaa rfl (zbw rfl rfl (by omega) (by omega)) ?_) | refine zaa rfl (zcd rfl) ?_ | refine zaa rfl (zce rfl) ?_ | refine zaa rfl (zbx rfl) ?_ | refine zaa rfl (zby rfl) ?_ | refine zaa rfl (zbz rfl rfl) ?_ | refine zaa rfl (zca rfl rfl) ?_ | refine zaa rfl (zcb rfl rfl) ?_ | refine zaa rfl (zcc rfl) ?_ | refine zah ?_ | (refine zcr ?_; first | refine zcs ?_ | refine zct ?_ | refine zcu ?_ | refine zcv ?_ | refine zcw ?_ | refine zcx ?_ | refine zcy rfl ?_ | refine zcz ?_ | refine zda ?_) | (refine zdb ?_; first | refine zdc ?_ | refine zdd ?_ | refine zde ?_ | refine zdf ?_ | refine zdg ?_ | refine zdh ?_ | refine zdi rfl ?_ | refine zdj rfl ?_) | (refine zak rfl rfl rfl ?_; intro g) | (refine zal rfl rfl ?_; intro g) | (refine zag ?_; first | refine zam 0 rfl rfl rfl rfl rfl rfl ?_ | refine zam 1 rfl rfl rfl rfl rfl rfl ?_ | refine zam 2 rfl rfl rfl rfl rfl rfl ?_ | refine zam 3 rfl rfl rfl rfl rfl rfl ?_ | refine zam 4 rfl rfl rfl rfl rfl rfl ?_ | refine zam 5 rfl rfl rfl rfl rfl rfl ?_ | refine zan 0 rfl rfl rfl rfl rfl rfl rfl rfl rfl ?_ | refine zan 1 rfl rfl rfl rfl rfl rfl rfl rfl rfl ?_ | refine zan 2 rfl rfl rfl rfl rfl rfl rfl rfl rfl ?_ | refine zan 3 rfl rfl rfl rfl rfl rfl rfl rfl rfl ?_ | refine zan 4 rfl rfl rfl rfl rfl rfl rfl rfl rfl ?_ | refine zan 5 rfl rfl rfl rfl rfl rfl rfl rfl rfl ?_ | refine zao 0 rfl rfl rfl rfl rfl rfl ?_ | refine zao 1 rfl rfl rfl rfl rfl rfl ?_ | refine zao 2 rfl rfl rfl rfl rfl rfl ?_ | refine zao 3 rfl rfl rfl rfl rfl rfl ?_)
  refine ws_cond rfl (fun hd => ?_) (fun hd => ?_)
  case' refine_2 =>
    obtain rfl : k = n := by have := of_decide_eq_false hd; omega
    have hmm : ((piecesL P k).map bstr).map strA = (piecesL P k).map (fun l => strA (bstr l)) := List.map_map ..
    have hlk := piecesL_len P k
    repeat first | refine zai rfl rfl ?_ | refine zaj rfl rfl rfl rfl ?_ | refine zaa rfl (zay rfl) ?_ | refine zaa rfl (zaz rfl) ?_ | (refine zac ?_; first | refine zaa rfl (zba rfl rfl rfl) ?_ | refine zaa rfl (zbb rfl rfl (by omega)) ?_ | refine zaa rfl (zbc rfl rfl (by omega)) ?_ | refine zaa rfl (zbd rfl rfl rfl) ?_ | refine zaa rfl (zbe rfl rfl) ?_ | refine zaa rfl (zbf rfl rfl) ?_ | refine zaa rfl (zbg rfl rfl) ?_ | refine zaa rfl (zbh rfl rfl) ?_ | refine zaa rfl (zbi rfl rfl) ?_ | refine zaa rfl (zbj rfl rfl) ?_ | refine zaa rfl (zbk rfl rfl) ?_ | refine zaa rfl (zbl rfl rfl) ?_) | (refine zad ?_; first | refine zaa rfl (opj_lenC rfl) ?_ | refine zaa rfl (zbo rfl) ?_ | refine zaa rfl (zbm rfl) ?_ | refine zaa rfl (zbn rfl) ?_ | refine zaa rfl (zbp rfl) ?_ | refine zaa rfl (zbq rfl) ?_ | refine zaa rfl (zbr rfl rfl) ?_) | (refine zae ?_; first | refine zaa rfl (opj_loadC rfl rfl (by (repeat (first | exact mh | refine mt ?_)); done) (by omega)) ?_ | refine zaa rfl (zbt rfl rfl (by (repeat (first | exact mh | refine mt ?_)); done) (by omega)) ?_ | refine zaa rfl (zcf rfl rfl (by (repeat (first | exact mh | refine mt ?_)); done) rfl) ?_ | refine zaa rfl (zcg rfl rfl (by (repeat (first | exact mh | refine mt ?_)); done) rfl rfl) ?_ | refine zaa rfl (zch rfl rfl rfl rfl) ?_ | refine zaa rfl (zbu rfl rfl) ?_) | (refine zaf ?_; first | refine zaa rfl (opj_indexC rfl rfl (by omega) (by omega)) ?_ | refine zaa rfl (zbs rfl rfl (by omega) (by omega)) ?_ | refine zaa rfl (zbv rfl rfl (by omega) (by omega)) ?_ | refine zaa rfl (zbw rfl rfl (by omega) (by omega)) ?_) | refine zaa rfl (zcd rfl) ?_ | refine zaa rfl (zce rfl) ?_ | refine zaa rfl (zbx rfl) ?_ | refine zaa rfl (zby rfl) ?_ | refine zaa rfl (zbz rfl rfl) ?_ | refine zaa rfl (zca rfl rfl) ?_ | refine zaa rfl (zcb rfl rfl) ?_ | refine zaa rfl (zcc rfl) ?_ | refine zah ?_ | (refine zcr ?_; first | refine zcs ?_ | refine zct ?_ | refine zcu ?_ | refine zcv ?_ | refine zcw ?_ | refine zcx ?_ | refine zcy rfl ?_ | refine zcz ?_ | refine zda ?_) | (refine zdb ?_; first | refine zdc ?_ | refine zdd ?_ | refine zde ?_ | refine zdf ?_ | refine zdg ?_ | refine zdh ?_ | refine zdi rfl ?_ | refine zdj rfl ?_) | (refine zak rfl rfl rfl ?_; intro g) | (refine zal rfl rfl ?_; intro g) | (refine zag ?_; first | refine zam 0 rfl rfl rfl rfl rfl rfl ?_ | refine zam 1 rfl rfl rfl rfl rfl rfl ?_ | refine zam 2 rfl rfl rfl rfl rfl rfl ?_ | refine zam 3 rfl rfl rfl rfl rfl rfl ?_ | refine zam 4 rfl rfl rfl rfl rfl rfl ?_ | refine zam 5 rfl rfl rfl rfl rfl rfl ?_ | refine zan 0 rfl rfl rfl rfl rfl rfl rfl rfl rfl ?_ | refine zan 1 rfl rfl rfl rfl rfl rfl rfl rfl rfl ?_ | refine zan 2 rfl rfl rfl rfl rfl rfl rfl rfl rfl ?_ | refine zan 3 rfl rfl rfl rfl rfl rfl rfl rfl rfl ?_ | refine zan 4 rfl rfl rfl rfl rfl rfl rfl rfl rfl ?_ | refine zan 5 rfl rfl rfl rfl rfl rfl rfl rfl rfl ?_ | refine zao 0 rfl rfl rfl rfl rfl rfl ?_ | refine zao 1 rfl rfl rfl rfl rfl rfl ?_ | refine zao 2 rfl rfl rfl rfl rfl rfl ?_ | refine zao 3 rfl rfl rfl rfl rfl rfl ?_) | refine zaa rfl (zci rfl rfl hJ (Takes.ownE ⟨_, _, by rw [hmm]; exact mh⟩ (by rw [List.length_map, List.length_map, hlk, Nat.mul_one]) hc1 hc2 Takes.nil)) ?_
    exact done_ret2 rfl () rfl rfl rfl trivial (List.nil_sublist _)
  have hlt : (k : Int) < (n : Int) := of_decide_eq_true hd
  clear hd
  have h1 := hexOf_fn (P k).1 (hP k).1
  have h2 := hexOf_fn (P k).2 (hP k).2
  simp only [maxLen] at hc2
  repeat first | refine zai rfl rfl ?_ | refine zaj rfl rfl rfl rfl ?_ | refine zaa rfl (zay rfl) ?_ | refine zaa rfl (zaz rfl) ?_ | (refine zac ?_; first | refine zaa rfl (zba rfl rfl rfl) ?_ | refine zaa rfl (zbb rfl rfl (by omega)) ?_ | refine zaa rfl (zbc rfl rfl (by omega)) ?_ | refine zaa rfl (zbd rfl rfl rfl) ?_ | refine zaa rfl (zbe rfl rfl) ?_ | refine zaa rfl (zbf rfl rfl) ?_ | refine zaa rfl (zbg rfl rfl) ?_ | refine zaa rfl (zbh rfl rfl) ?_ | refine zaa rfl (zbi rfl rfl) ?_ | refine zaa rfl (zbj rfl rfl) ?_ | refine zaa rfl (zbk rfl rfl) ?_ | refine zaa rfl (zbl rfl rfl) ?_ | refine zaa rfl (opj_sadd rfl rfl (by rw [bstr_size, bstr_size, lowD_len, lowD_len]; decide)) ?_) | (refine zad ?_; first | refine zaa rfl (opj_lenC rfl) ?_ | refine zaa rfl (zbo rfl) ?_ | refine zaa rfl (zbm rfl) ?_ | refine zaa rfl (zbn rfl) ?_ | refine zaa rfl (zbp rfl) ?_ | refine zaa rfl (zbq rfl) ?_ | refine zaa rfl (zbr rfl rfl) ?_) | (refine zae ?_; first | refine zaa rfl (opj_loadC rfl rfl (by (repeat (first | exact mh | refine mt ?_)); done) (by omega)) ?_ | refine zaa rfl (zbt rfl rfl (by (repeat (first | exact mh | refine mt ?_)); done) (by omega)) ?_ | refine zaa rfl (zcf rfl rfl (by (repeat (first | exact mh | refine mt ?_)); done) rfl) ?_ | refine zaa rfl (zcg rfl rfl (by (repeat (first | exact mh | refine mt ?_)); done) rfl rfl) ?_ | refine zaa rfl (zch rfl rfl rfl rfl) ?_ | refine zaa rfl (zbu rfl rfl) ?_) | (refine zaf ?_; first | refine zaa rfl (opj_indexC rfl rfl (by omega) (by omega)) ?_ | refine zaa rfl (zbs rfl rfl (by omega) (by omega)) ?_ | refine zaa rfl (zbv rfl rfl (by omega) (by omega)) ?_ | refine zaa rfl (zbw rfl rfl (by omega) (by omega)) ?_) | refine zaa rfl (zcd rfl) ?_ | refine zaa rfl (zce rfl) ?_ | refine zaa rfl (zbx rfl) ?_ | refine zaa rfl (zby rfl) ?_ | refine zaa rfl (zbz rfl rfl) ?_ | refine zaa rfl (zca rfl rfl) ?_ | refine zaa rfl (zcb rfl rfl) ?_ | refine zaa rfl (zcc rfl) ?_ | refine zah ?_ | (refine zcr ?_; first | refine zcs ?_ | refine zct ?_ | refine zcu ?_ | refine zcv ?_ | refine zcw ?_ | refine zcx ?_ | refine zcy rfl ?_ | refine zcz ?_ | refine zda ?_) | (refine zdb ?_; first | refine zdc ?_ | refine zdd ?_ | refine zde ?_ | refine zdf ?_ | refine zdg ?_ | refine zdh ?_ | refine zdi rfl ?_ | refine zdj rfl ?_) | (refine zak rfl rfl rfl ?_; intro g) | (refine zal rfl rfl ?_; intro g) | (refine zag ?_; first | refine zam 0 rfl rfl rfl rfl rfl rfl ?_ | refine zam 1 rfl rfl rfl rfl rfl rfl ?_ | refine zam 2 rfl rfl rfl rfl rfl rfl ?_ | refine zam 3 rfl rfl rfl rfl rfl rfl ?_ | refine zam 4 rfl rfl rfl rfl rfl rfl ?_ | refine zam 5 rfl rfl rfl rfl rfl rfl ?_ | refine zan 0 rfl rfl rfl rfl rfl rfl rfl rfl rfl ?_ | refine zan 1 rfl rfl rfl rfl rfl rfl rfl rfl rfl ?_ | refine zan 2 rfl rfl rfl rfl rfl rfl rfl rfl rfl ?_ | refine zan 3 rfl rfl rfl rfl rfl rfl rfl rfl rfl ?_ | refine zan 4 rfl rfl rfl rfl rfl rfl rfl rfl rfl ?_ | refine zan 5 rfl rfl rfl rfl rfl rfl rfl rfl rfl ?_ | refine zao 0 rfl rfl rfl rfl rfl rfl ?_ | refine zao 1 rfl rfl rfl rfl rfl rfl ?_ | refine zao 2 rfl rfl rfl rfl rfl rfl ?_ | refine zao 3 rfl rfl rfl rfl rfl rfl ?_) | refine zaa rfl (zci rfl rfl h1 (Takes.w hT.at (Takes.same Takes.nil))) ?_ | refine zaa rfl (zci rfl rfl h2 (Takes.w hT.at (Takes.same Takes.nil))) ?_ | refine zaa rfl (zco (xs := [strA (bstr (lowD (bitN (P k).1) 8) ++ bstr (lowD (bitN (P k).2) 8))]) rfl rfl rfl rfl rfl rfl) ?_
  refine rs_append 0 (xs := (piecesL P k).map (fun l => strA (bstr l))) (ys := [strA (bstr (lowD (bitN (P k).1) 8) ++ bstr (lowD (bitN (P k).2) 8))]) (n := k) (cap := c) rfl rfl ⟨_, rfl, fun w v _ h => h.inv_p.2⟩ rfl ⟨by rw [List.length_map, piecesL_len], hc1, by simp only [maxLen]; omega⟩ (by simp) rfl (by simp only [maxLen, List.length_singleton]; omega) (by simp only [List.length_singleton]; omega) rfl fun g' c' h5 h6 => ?_
  repeat first | refine zai rfl rfl ?_ | refine zaj rfl rfl rfl rfl ?_ | refine zaa rfl (zay rfl) ?_ | refine zaa rfl (zaz rfl) ?_ | (refine zac ?_; first | refine zaa rfl (zba rfl rfl rfl) ?_ | refine zaa rfl (zbb rfl rfl (by omega)) ?_ | refine zaa rfl (zbc rfl rfl (by omega)) ?_ | refine zaa rfl (zbd rfl rfl rfl) ?_ | refine zaa rfl (zbe rfl rfl) ?_ | refine zaa rfl (zbf rfl rfl) ?_ | refine zaa rfl (zbg rfl rfl) ?_ | refine zaa rfl (zbh rfl rfl) ?_ | refine zaa rfl (zbi rfl rfl) ?_ | refine zaa rfl (zbj rfl rfl) ?_ | refine zaa rfl (zbk rfl rfl) ?_ | refine zaa rfl (zbl rfl rfl) ?_) | (refine zad ?_; first | refine zaa rfl (opj_lenC rfl) ?_ | refine zaa rfl (zbo rfl) ?_ | refine zaa rfl (zbm rfl) ?_ | refine zaa rfl (zbn rfl) ?_ | refine zaa rfl (zbp rfl) ?_ | refine zaa rfl (zbq rfl) ?_ | refine zaa rfl (zbr rfl rfl) ?_) | (refine zae ?_; first | refine zaa rfl (opj_loadC rfl rfl (by (repeat (first | exact mh | refine mt ?_)); done) (by omega)) ?_ | refine zaa rfl (zbt rfl rfl (by (repeat (first | exact mh | refine mt ?_)); done) (by omega)) ?_ | refine zaa rfl (zcf rfl rfl (by (repeat (first | exact mh | refine mt ?_)); done) rfl) ?_ | refine zaa rfl (zcg rfl rfl (by (repeat (first | exact mh | refine mt ?_)); done) rfl rfl) ?_ | refine zaa rfl (zch rfl rfl rfl rfl) ?_ | refine zaa rfl (zbu rfl rfl) ?_) | (refine zaf ?_; first | refine zaa rfl (opj_indexC rfl rfl (by omega) (by omega)) ?_ | refine zaa rfl (zbs rfl rfl (by omega) (by omega)) ?_ | refine zaa rfl (zbv rfl rfl (by omega) (by omega)) ?_ | refine zaa rfl (zbw rfl rfl (by omega) (by omega)) ?_) | refine zaa rfl (zcd rfl) ?_ | refine zaa rfl (zce rfl) ?_ | refine zaa rfl (zbx rfl) ?_ | refine zaa rfl (zby rfl) ?_ | refine zaa rfl (zbz rfl rfl) ?_ | refine zaa rfl (zca rfl rfl) ?_ | refine zaa rfl (zcb rfl rfl) ?_ | refine zaa rfl (zcc rfl) ?_ | refine zah ?_ | (refine zcr ?_; first | refine zcs ?_ | refine zct ?_ | refine zcu ?_ | refine zcv ?_ | refine zcw ?_ | refine zcx ?_ | refine zcy rfl ?_ | refine zcz ?_ | refine zda ?_) | (refine zdb ?_; first | refine zdc ?_ | refine zdd ?_ | refine zde ?_ | refine zdf ?_ | refine zdg ?_ | refine zdh ?_ | refine zdi rfl ?_ | refine zdj rfl ?_) | (refine zak rfl rfl rfl ?_; intro g) | (refine zal rfl rfl ?_; intro g) | (refine zag ?_; first | refine zam 0 rfl rfl rfl rfl rfl rfl ?_ | refine zam 1 rfl rfl rfl rfl rfl rfl ?_ | refine zam 2 rfl rfl rfl rfl rfl rfl ?_ | refine zam 3 rfl rfl rfl rfl rfl rfl ?_ | refine zam 4 rfl rfl rfl rfl rfl rfl ?_ | refine zam 5 rfl rfl rfl rfl rfl rfl ?_ | refine zan 0 rfl rfl rfl rfl rfl rfl rfl rfl rfl ?_ | refine zan 1 rfl rfl rfl rfl rfl rfl rfl rfl rfl ?_ | refine zan 2 rfl rfl rfl rfl rfl rfl rfl rfl rfl ?_ | refine zan 3 rfl rfl rfl rfl rfl rfl rfl rfl rfl ?_ | refine zan 4 rfl rfl rfl rfl rfl rfl rfl rfl rfl ?_ | refine zan 5 rfl rfl rfl rfl rfl rfl rfl rfl rfl ?_ | refine zao 0 rfl rfl rfl rfl rfl rfl ?_ | refine zao 1 rfl rfl rfl rfl rfl rfl ?_ | refine zao 2 rfl rfl rfl rfl rfl rfl ?_ | refine zao 3 rfl rfl rfl rfl rfl rfl ?_)
  refine done_round (k + 1, g', c') ⟨by simp only; omega, h5, h6⟩ (by simp only; omega) ?_ (fun w h => ?_)
  · simp only
    rw [show ((k + 1 : Nat) : Int) = (k : Int) + 1 by omega]
    (repeat (first | exact Env.sub_nil _ | refine Env.sub_cons rfl ?_))
  · simp only
    rw [← piecesL_snoc, List.map_append]
    rw [sadd_bstr] at h
    exact h
end Go.Ab
