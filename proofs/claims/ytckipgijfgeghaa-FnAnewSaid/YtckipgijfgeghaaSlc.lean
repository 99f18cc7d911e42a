/- sort.Slice at this program, of no file or one. -/
import Derived.Test.YtckipgijfgeghaaFil
import Derived.Test.YtckipgijfgeghaaCore
import Derived.Shelf.GgSortFunc.Tiny
import Derived.Shelf.GgSortFunc.SmallK
namespace Go.Proofs.Ytckipgijfgeghaa
open Go.RowKit Go.Shelf Go.Sort

def sl6_ren : Go.Shelf.Ren := ⟨fun | 6 => 105 | 10 => 64 | 11 => 65 | 12 => 67 | 13 => 111 | 14 => 112 | 24 => 114 | 25 => 115 | 26 => 100 | 27 => 116 | 28 => 117 | 29 => 118 | 30 => 119 | 31 => 120 | 32 => 121 | 33 => 122 | 34 => 123 | 35 => 124 | 36 => 125 | 37 => 126 | 38 => 127 | 39 => 128 | n => n, fun | 20 => 20 | 26 => 63 | 35 => 97 | 0 => 0 | 37 => 99 | 3 => 3 | 41 => 116 | 44 => 103 | 49 => 110 | 51 => 134 | 4 => 4 | 54 => 136 | 53 => 135 | 58 => 140 | 5 => 5 | 9 => 9 | 60 => 142 | 64 => 146 | 66 => 148 | 67 => 149 | 17 => 17 | 32 => 94 | 33 => 95 | 82 => 164 | 12 => 12 | 75 => 157 | 76 => 158 | 77 => 159 | 78 => 160 | 79 => 161 | 80 => 162 | n => n, fun | n => n⟩
theorem sl6 : LaysGg.n6 Try.prog sl6_ren := {
  mixed := by kernel_rfl
  f6 := Try.func105.trans (congrArg some (by kernel_rfl))
  f10 := Try.func64.trans (congrArg some (by kernel_rfl))
  f11 := Try.func65.trans (congrArg some (by kernel_rfl))
  f12 := Try.func67.trans (congrArg some (by kernel_rfl))
  f13 := Try.func111.trans (congrArg some (by kernel_rfl))
  f14 := Try.func112.trans (congrArg some (by kernel_rfl))
  f24 := Try.func114.trans (congrArg some (by kernel_rfl))
  f25 := Try.func115.trans (congrArg some (by kernel_rfl))
  f26 := Try.func100.trans (congrArg some (by kernel_rfl))
  f27 := Try.func116.trans (congrArg some (by kernel_rfl))
  f28 := Try.func117.trans (congrArg some (by kernel_rfl))
  f29 := Try.func118.trans (congrArg some (by kernel_rfl))
  f30 := Try.func119.trans (congrArg some (by kernel_rfl))
  f31 := Try.func120.trans (congrArg some (by kernel_rfl))
  f32 := Try.func121.trans (congrArg some (by kernel_rfl))
  f33 := Try.func122.trans (congrArg some (by kernel_rfl))
  f34 := Try.func123.trans (congrArg some (by kernel_rfl))
  f35 := Try.func124.trans (congrArg some (by kernel_rfl))
  f36 := Try.func125.trans (congrArg some (by kernel_rfl))
  f37 := Try.func126.trans (congrArg some (by kernel_rfl))
  f38 := Try.func127.trans (congrArg some (by kernel_rfl))
  f39 := Try.func128.trans (congrArg some (by kernel_rfl))
  t0 := Try.underlying0
  a0 := Try.isAgg0
  z0 := Try.sizeOf0
  v0 := Try.zeroValue0
  i0 := by kernel_rfl
  t3 := Try.underlying3
  a3 := Try.isAgg3
  z3 := Try.sizeOf3
  v3 := Try.zeroValue3
  i3 := by kernel_rfl
  t4 := Try.underlying4
  a4 := Try.isAgg4
  z4 := Try.sizeOf4
  v4 := Try.zeroValue4
  i4 := by kernel_rfl
  t5 := Try.underlying5
  a5 := Try.isAgg5
  z5 := Try.sizeOf5
  v5 := Try.zeroValue5
  i5 := by kernel_rfl
  t9 := Try.underlying9
  a9 := Try.isAgg9
  z9 := Try.sizeOf9
  v9 := Try.zeroValue9
  i9 := by kernel_rfl
  t12 := Try.underlying12
  a12 := Try.isAgg12
  z12 := Try.sizeOf12
  v12 := Try.zeroValue12
  i12 := by kernel_rfl
  t17 := Try.underlying17
  a17 := Try.isAgg17
  z17 := Try.sizeOf17
  v17 := Try.zeroValue17
  i17 := by kernel_rfl
  t20 := Try.underlying20
  a20 := Try.isAgg20
  z20 := Try.sizeOf20
  v20 := Try.zeroValue20
  i20 := by kernel_rfl
  t26 := Try.underlying63
  a26 := Try.isAgg63
  z26 := Try.sizeOf63
  v26 := Try.zeroValue63
  i26 := by kernel_rfl
  t32 := Try.underlying94
  a32 := Try.isAgg94
  z32 := Try.sizeOf94
  v32 := Try.zeroValue94
  i32 := by kernel_rfl
  t33 := Try.underlying95
  a33 := Try.isAgg95
  z33 := Try.sizeOf95
  v33 := Try.zeroValue95
  i33 := by kernel_rfl
  t35 := Try.underlying97
  a35 := Try.isAgg97
  z35 := Try.sizeOf97
  v35 := Try.zeroValue97
  i35 := by kernel_rfl
  t37 := Try.underlying99
  a37 := Try.isAgg99
  z37 := Try.sizeOf99
  v37 := Try.zeroValue99
  i37 := by kernel_rfl
  t41 := Try.underlying116
  a41 := Try.isAgg116
  z41 := Try.sizeOf116
  v41 := Try.zeroValue116
  i41 := by kernel_rfl
  t44 := Try.underlying103
  a44 := Try.isAgg103
  z44 := Try.sizeOf103
  v44 := Try.zeroValue103
  i44 := by kernel_rfl
  t49 := Try.underlying110
  a49 := Try.isAgg110
  z49 := Try.sizeOf110
  v49 := Try.zeroValue110
  i49 := by kernel_rfl
  t51 := Try.underlying134
  a51 := Try.isAgg134
  z51 := Try.sizeOf134
  v51 := Try.zeroValue134
  i51 := by kernel_rfl
  t53 := Try.underlying135
  a53 := Try.isAgg135
  z53 := Try.sizeOf135
  v53 := Try.zeroValue135
  i53 := by kernel_rfl
  t54 := Try.underlying136
  a54 := Try.isAgg136
  z54 := Try.sizeOf136
  v54 := Try.zeroValue136
  i54 := by kernel_rfl
  t58 := Try.underlying140
  a58 := Try.isAgg140
  z58 := Try.sizeOf140
  v58 := Try.zeroValue140
  i58 := by kernel_rfl
  t60 := Try.underlying142
  a60 := Try.isAgg142
  z60 := Try.sizeOf142
  v60 := Try.zeroValue142
  i60 := by kernel_rfl
  t64 := Try.underlying146
  a64 := Try.isAgg146
  z64 := Try.sizeOf146
  v64 := Try.zeroValue146
  i64 := by kernel_rfl
  t66 := Try.underlying148
  a66 := Try.isAgg148
  z66 := Try.sizeOf148
  v66 := Try.zeroValue148
  i66 := by kernel_rfl
  t67 := Try.underlying149
  a67 := Try.isAgg149
  z67 := Try.sizeOf149
  v67 := Try.zeroValue149
  i67 := by kernel_rfl
  t75 := Try.underlying157
  a75 := Try.isAgg157
  z75 := Try.sizeOf157
  v75 := Try.zeroValue157
  i75 := by kernel_rfl
  t76 := Try.underlying158
  a76 := Try.isAgg158
  z76 := Try.sizeOf158
  v76 := Try.zeroValue158
  i76 := by kernel_rfl
  t77 := Try.underlying159
  a77 := Try.isAgg159
  z77 := Try.sizeOf159
  v77 := Try.zeroValue159
  i77 := by kernel_rfl
  t78 := Try.underlying160
  a78 := Try.isAgg160
  z78 := Try.sizeOf160
  v78 := Try.zeroValue160
  i78 := by kernel_rfl
  t79 := Try.underlying161
  a79 := Try.isAgg161
  z79 := Try.sizeOf161
  v79 := Try.zeroValue161
  i79 := by kernel_rfl
  t80 := Try.underlying162
  a80 := Try.isAgg162
  z80 := Try.sizeOf162
  v80 := Try.zeroValue162
  i80 := by kernel_rfl
  t82 := Try.underlying164
  a82 := Try.isAgg164
  z82 := Try.sizeOf164
  v82 := Try.zeroValue164
  i82 := by kernel_rfl }

noncomputable def slT : TypeInfo := (Try.prog.info? 36).get (by kernel_rfl)
noncomputable def slE : TypeInfo := (Try.prog.info? 113).get (by kernel_rfl)
theorem sort_tiny0 (p : Option Addr) (n c : Nat) (h1 : n ≤ 1) (lf : Fn) (la lb : Array Value) (w : World) :
    Calls Try.prog 105 #[.iface 36 (.slice p n c), .func lf la lb] w fun e w' => e = .returned (.tuple #[]) ∧ Ext w w' := by
  have hK : Lib.swapperK n slE 25 = n + 1 := by
    rcases Nat.eq_zero_or_pos n with h | h
    · subst h; simp [Lib.swapperK]
    · obtain rfl : n = 1 := by omega
      simp [Lib.swapperK]
  have hS := Any.sort_Slice_tiny sl6 36 113 slT slE (by kernel_rfl) (by kernel_rfl) (by kernel_rfl) (by kernel_rfl) 25 (fun _ => by kernel_rfl) p n c h1 (91 + n) (by
    rw [hK]
    rcases Nat.eq_zero_or_pos n with h | h
    · subst h; kernel_rfl
    · obtain rfl : n = 1 := by omega
      kernel_rfl) lf la lb w
  change Calls Try.prog 105 _ _ _ at hS
  refine hS.mono ?_
  rintro e w' ⟨rfl, os, rfl⟩
  exact ⟨rfl, rfl, rfl, rfl, by simp, fun k hk => heap_grow_old w os hk⟩
instance : Inhabited Fil := ⟨noFil⟩
def ltFil (x y : Fil) : Bool := Op.bytesLess x.name.toList y.name.toList
theorem bless_asym : ∀ a b : List UInt8, Op.bytesLess a b = true → Op.bytesLess b a = false
  | [], [], h => by cases h
  | [], _ :: _, _ => rfl
  | _ :: _, [], h => by cases h
  | x :: a, y :: b, h => by
    have h1 : (decide (x < y) || (x == y && Op.bytesLess a b)) = true := h
    show (decide (y < x) || (y == x && Op.bytesLess b a)) = false
    rw [Bool.or_eq_true, decide_eq_true_eq, Bool.and_eq_true, beq_iff_eq] at h1
    rw [Bool.or_eq_false_iff]
    rcases h1 with h1 | ⟨rfl, h1⟩
    · have n1 : x.toNat < y.toNat := UInt8.lt_iff_toNat_lt.1 h1
      refine ⟨decide_eq_false fun h2 => ?_, ?_⟩
      · have n2 : y.toNat < x.toNat := UInt8.lt_iff_toNat_lt.1 h2
        omega
      · rw [Bool.and_eq_false_iff]; left; rw [beq_eq_false_iff_ne]; intro e; subst e; omega
    · refine ⟨decide_eq_false fun h2 => ?_, ?_⟩
      · have n2 : x.toNat < x.toNat := UInt8.lt_iff_toNat_lt.1 h2
        omega
      · rw [bless_asym a b h1, Bool.and_false]
theorem ins_two (x y : Fil) (h : ltFil y x = false) : Sort.insertionSort ltFil #[x, y] 0 2 = #[x, y] := by
  unfold Sort.insertionSort
  unfold Sort.insOuter
  rw [if_pos (by omega)]
  unfold Sort.insOuter
  rw [if_neg (by omega)]
  show (if 0 + 1 > 0 && ltFil y x then _ else _) = _
  rw [h]
  rfl
set_option maxHeartbeats 2000000 in
/-- the order that DoAct sorts by -/
theorem less_files (g c b7 size : Nat) (W : World) (G : Nat → ByteArray) (hs : W.cell? ⟨b7, 0, none⟩ = some (.slice (some ⟨g, 0, none⟩) size c))
    (hc : ∀ t, t < size → W.cell? ⟨g, t * 3, none⟩ = some (.string (G t))) (i j : Nat) (hi : i < size) (hj : j < size) (_hz : size < 4611686018427387904) :
    Calls Try.prog 106 #[.int .i64 i, .int .i64 j, .pointer (some ⟨b7, 0, none⟩)] W fun e w' => e = .returned (.bool (Op.bytesLess (G i).toList (G j).toList)) ∧ ∃ q, w' = W.drewN q := by
  have ci := hc i hi
  have cj := hc j hj
  go_enter Try.func106, Try.ntmps106
  go_wp2
  go_quiet (fail)
  go_wp2
  go_ret
  exact ⟨rfl, nq, rfl⟩
theorem slK (n : Nat) (h2 : 2 ≤ n) : Lib.swapperK n slE 25 = 9 := by
  have a : slE.hasPointers = true := by kernel_rfl
  have b : slE.bytes = 40 := by kernel_rfl
  have c : (n == 0) = false := by simp; omega
  have d : (n == 1) = false := by simp; omega
  simp [Lib.swapperK, a, b, c, d]
set_option maxHeartbeats 2000000 in
/-- a right disk's files are in order: nothing turns -/
theorem sort_ok (g m c b7 B : Nat) (ys : List Fil) (w : World) (ow : w.ownsRow B 113 3 (.slice (some ⟨g, 0, none⟩) m c) m (ys.flatMap Fil.cells)) (ho : diskOk ys = true) (hm : ys.length = m) (hl : m ≤ 2) (hb : Bx w b7 [.slice (some ⟨g, 0, none⟩) m c]) (hg : g ≠ b7) :
    Calls Try.prog 105 #[.iface 36 (.slice (some ⟨g, 0, none⟩) m c), .func (.func 106) #[] #[.pointer (some ⟨b7, 0, none⟩)]] w fun e w' => e = .returned (.tuple #[]) ∧ Ext w w' := by
  by_cases h1 : m ≤ 1
  · exact sort_tiny0 _ m c h1 _ _ _ w
  obtain rfl : m = 2 := by omega
  match ys, hm with
  | [x, y], _ =>
    have hxy : Op.bytesLess x.name.toList y.name.toList = true := by
      rw [diskOk, Bool.and_eq_true, List.all_eq_true] at ho
      have := ho.2 1 (List.mem_range.2 (by simp))
      simp only [filAt, Bool.and_eq_true] at this
      exact this.2
    have hlt : ltFil y x = false := bless_asym _ _ hxy
    have hgl : g < w.heap.size := (ow.lt g rfl).2
    have hH : HoldsK Fil.cells 3 w g 0 #[x, y] := by
      intro j hj
      rw [size_flatK] at hj
      have hj6 : j < 6 := hj
      rw [get_flatK _ _ _ _ hj, Nat.zero_add]
      refine ⟨?_, ow.frozenAt j⟩
      rw [ow.cellAt j (by omega)]
      rcases (show j = 0 ∨ j = 1 ∨ j = 2 ∨ j = 3 ∨ j = 4 ∨ j = 5 by omega) with rfl | rfl | rfl | rfl | rfl | rfl <;> rfl
    have hless : LessReadsK Try.prog 106 #[.pointer (some ⟨b7, 0, none⟩)] Fil.cells 3 ltFil g 0 2 w := by
      intro m os dk hs i j hi hj
      have e : sortWorldK Fil.cells 3 w g 0 m dk os = putRowK Fil.cells 3 (grow (Sort.ahead w m) os) g 0 dk := by
        unfold sortWorldK; rw [putRowK_grow _ _ (Sort.ahead w m) _ g 0 _ hgl]
      have hHg : HoldsK Fil.cells 3 (grow (Sort.ahead w m) os) g 0 #[x, y] := holdsK_grow _ _ _ _ g 0 _ hgl (holdsK_ahead _ _ _ _ _ _ _ hH)
      refine less_files g c b7 2 _ (fun t => dk[t]!.name) ?_ (fun t ht => ?_) i j hi hj (by omega)
      · rw [e, cell?_putRowK_other _ _ _ g 0 dk _ (by exact fun q => hg q.symm), cell?_grow _ _ _ (by exact hb.1)]; exact hb.2.1 0 _ rfl
      · rw [e]
        have := ((holdsK_putRowK _ _ _ g 0 _ dk hHg hs).cell (i := t) (c := 0) (by rw [hs]; exact ht) (by omega)).1
        rw [Nat.zero_add, Nat.add_zero] at this
        rw [this]
        simp [Fil.cells]
    have hS := Any.sort_Slice_small_cells sl6 36 113 slT slE (by kernel_rfl) (by kernel_rfl) (by kernel_rfl) (by kernel_rfl) 25 (fun _ => by kernel_rfl) Fil.cells 3 (fun _ => rfl) (by kernel_rfl) (fun _ => by kernel_rfl)
      (fun x v hv => by simp [Fil.cells] at hv; rcases hv with rfl | rfl | rfl <;> rfl) ltFil 106 _
      (enters_of Try.func106 (by kernel_rfl) rfl) g 0 c #[x, y] (by simp) (by simp) 99 (by rw [slK _ (by simp)]; kernel_rfl) false
      (fun args W => run_callFunc_extern Try.func99 (by kernel_rfl) (by kernel_rfl) (by kernel_rfl) (e := Extern.ReflectliteSwapper.swap false) (by kernel_rfl) args W) w hless hH hgl
    change Calls Try.prog 105 _ _ _ at hS
    refine hS.mono ?_
    rintro e w' ⟨rfl, n, os, rfl⟩
    have e1 : putRowK Fil.cells 3 (Sort.ahead w n) g 0 (Sort.insertionSort ltFil #[x, y] 0 2) = Sort.ahead w n := by
      rw [ins_two x y hlt]; exact putRowK_self _ _ _ _ _ _ (holdsK_ahead _ _ _ _ _ _ _ hH)
    refine ⟨rfl, ?_⟩
    rw [show (#[x, y] : Array Fil).size = 2 from rfl, e1]
    exact ⟨rfl, rfl, rfl, by rw [size_grow]; exact Nat.le_add_right _ _, fun k hk => heap_grow_old (Sort.ahead w n) os hk⟩
end Go.Proofs.Ytckipgijfgeghaa
