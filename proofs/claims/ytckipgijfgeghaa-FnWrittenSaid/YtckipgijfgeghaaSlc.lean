/- sort.Slice at this program, of no file or one. -/
import Derived.Test.YtckipgijfgeghaaFil
import Derived.Test.YtckipgijfgeghaaCore
import Derived.Shelf.GgSortFunc.Tiny
namespace Go.Proofs.Ytckipgijfgeghaa
open Go.RowKit Go.Shelf Go.Sort

def sl6_ren : Go.Shelf.Ren := ⟨fun | 6 => 105 | 10 => 64 | 11 => 65 | 12 => 67 | 13 => 111 | 14 => 112 | 24 => 114 | 25 => 115 | 26 => 100 | 27 => 116 | 28 => 117 | 29 => 118 | 30 => 119 | 31 => 120 | 32 => 121 | 33 => 122 | 34 => 123 | 35 => 124 | 36 => 125 | 37 => 126 | 38 => 127 | 39 => 128 | n => n, fun | 20 => 20 | 26 => 63 | 35 => 97 | 0 => 0 | 37 => 99 | 3 => 3 | 41 => 116 | 44 => 103 | 49 => 110 | 51 => 134 | 4 => 4 | 54 => 136 | 53 => 135 | 58 => 140 | 5 => 5 | 9 => 9 | 60 => 142 | 64 => 146 | 66 => 148 | 67 => 149 | 17 => 17 | 32 => 94 | 33 => 95 | 82 => 164 | 12 => 12 | 75 => 157 | 76 => 158 | 77 => 159 | 78 => 160 | 79 => 161 | 80 => 162 | n => n, fun | n => n⟩
theorem sl6 : LaysGg.n6 Try.prog sl6_ren := {
  mixed := by kernel_rfl
  f6 := Try.func105.trans (congrArg some (by kernel_rfl))
  f10 := Try.func64.trans (congrArg some (by kernel_rfl))
  f11 := Try.func65.trans (congrArg some (by kernel_rfl))
  f12 := Try.func67.trans (congrArg some (by kernel_rfl))
  f13 := Try.func111.trans (congrArg some (by kernel_rfl))
  f14 := Try.func112.trans (congrArg some (by kernel_rfl))
  f24 := Try.func114.trans (congrArg some (by kernel_rfl))
  f25 := Try.func115.trans (congrArg some (by kernel_rfl))
  f26 := Try.func100.trans (congrArg some (by kernel_rfl))
  f27 := Try.func116.trans (congrArg some (by kernel_rfl))
  f28 := Try.func117.trans (congrArg some (by kernel_rfl))
  f29 := Try.func118.trans (congrArg some (by kernel_rfl))
  f30 := Try.func119.trans (congrArg some (by kernel_rfl))
  f31 := Try.func120.trans (congrArg some (by kernel_rfl))
  f32 := Try.func121.trans (congrArg some (by kernel_rfl))
  f33 := Try.func122.trans (congrArg some (by kernel_rfl))
  f34 := Try.func123.trans (congrArg some (by kernel_rfl))
  f35 := Try.func124.trans (congrArg some (by kernel_rfl))
  f36 := Try.func125.trans (congrArg some (by kernel_rfl))
  f37 := Try.func126.trans (congrArg some (by kernel_rfl))
  f38 := Try.func127.trans (congrArg some (by kernel_rfl))
  f39 := Try.func128.trans (congrArg some (by kernel_rfl))
  t0 := Try.underlying0
  a0 := Try.isAgg0
  z0 := Try.sizeOf0
  v0 := Try.zeroValue0
  i0 := by kernel_rfl
  t3 := Try.underlying3
  a3 := Try.isAgg3
  z3 := Try.sizeOf3
  v3 := Try.zeroValue3
  i3 := by kernel_rfl
  t4 := Try.underlying4
  a4 := Try.isAgg4
  z4 := Try.sizeOf4
  v4 := Try.zeroValue4
  i4 := by kernel_rfl
  t5 := Try.underlying5
  a5 := Try.isAgg5
  z5 := Try.sizeOf5
  v5 := Try.zeroValue5
  i5 := by kernel_rfl
  t9 := Try.underlying9
  a9 := Try.isAgg9
  z9 := Try.sizeOf9
  v9 := Try.zeroValue9
  i9 := by kernel_rfl
  t12 := Try.underlying12
  a12 := Try.isAgg12
  z12 := Try.sizeOf12
  v12 := Try.zeroValue12
  i12 := by kernel_rfl
  t17 := Try.underlying17
  a17 := Try.isAgg17
  z17 := Try.sizeOf17
  v17 := Try.zeroValue17
  i17 := by kernel_rfl
  t20 := Try.underlying20
  a20 := Try.isAgg20
  z20 := Try.sizeOf20
  v20 := Try.zeroValue20
  i20 := by kernel_rfl
  t26 := Try.underlying63
  a26 := Try.isAgg63
  z26 := Try.sizeOf63
  v26 := Try.zeroValue63
  i26 := by kernel_rfl
  t32 := Try.underlying94
  a32 := Try.isAgg94
  z32 := Try.sizeOf94
  v32 := Try.zeroValue94
  i32 := by kernel_rfl
  t33 := Try.underlying95
  a33 := Try.isAgg95
  z33 := Try.sizeOf95
  v33 := Try.zeroValue95
  i33 := by kernel_rfl
  t35 := Try.underlying97
  a35 := Try.isAgg97
  z35 := Try.sizeOf97
  v35 := Try.zeroValue97
  i35 := by kernel_rfl
  t37 := Try.underlying99
  a37 := Try.isAgg99
  z37 := Try.sizeOf99
  v37 := Try.zeroValue99
  i37 := by kernel_rfl
  t41 := Try.underlying116
  a41 := Try.isAgg116
  z41 := Try.sizeOf116
  v41 := Try.zeroValue116
  i41 := by kernel_rfl
  t44 := Try.underlying103
  a44 := Try.isAgg103
  z44 := Try.sizeOf103
  v44 := Try.zeroValue103
  i44 := by kernel_rfl
  t49 := Try.underlying110
  a49 := Try.isAgg110
  z49 := Try.sizeOf110
  v49 := Try.zeroValue110
  i49 := by kernel_rfl
  t51 := Try.underlying134
  a51 := Try.isAgg134
  z51 := Try.sizeOf134
  v51 := Try.zeroValue134
  i51 := by kernel_rfl
  t53 := Try.underlying135
  a53 := Try.isAgg135
  z53 := Try.sizeOf135
  v53 := Try.zeroValue135
  i53 := by kernel_rfl
  t54 := Try.underlying136
  a54 := Try.isAgg136
  z54 := Try.sizeOf136
  v54 := Try.zeroValue136
  i54 := by kernel_rfl
  t58 := Try.underlying140
  a58 := Try.isAgg140
  z58 := Try.sizeOf140
  v58 := Try.zeroValue140
  i58 := by kernel_rfl
  t60 := Try.underlying142
  a60 := Try.isAgg142
  z60 := Try.sizeOf142
  v60 := Try.zeroValue142
  i60 := by kernel_rfl
  t64 := Try.underlying146
  a64 := Try.isAgg146
  z64 := Try.sizeOf146
  v64 := Try.zeroValue146
  i64 := by kernel_rfl
  t66 := Try.underlying148
  a66 := Try.isAgg148
  z66 := Try.sizeOf148
  v66 := Try.zeroValue148
  i66 := by kernel_rfl
  t67 := Try.underlying149
  a67 := Try.isAgg149
  z67 := Try.sizeOf149
  v67 := Try.zeroValue149
  i67 := by kernel_rfl
  t75 := Try.underlying157
  a75 := Try.isAgg157
  z75 := Try.sizeOf157
  v75 := Try.zeroValue157
  i75 := by kernel_rfl
  t76 := Try.underlying158
  a76 := Try.isAgg158
  z76 := Try.sizeOf158
  v76 := Try.zeroValue158
  i76 := by kernel_rfl
  t77 := Try.underlying159
  a77 := Try.isAgg159
  z77 := Try.sizeOf159
  v77 := Try.zeroValue159
  i77 := by kernel_rfl
  t78 := Try.underlying160
  a78 := Try.isAgg160
  z78 := Try.sizeOf160
  v78 := Try.zeroValue160
  i78 := by kernel_rfl
  t79 := Try.underlying161
  a79 := Try.isAgg161
  z79 := Try.sizeOf161
  v79 := Try.zeroValue161
  i79 := by kernel_rfl
  t80 := Try.underlying162
  a80 := Try.isAgg162
  z80 := Try.sizeOf162
  v80 := Try.zeroValue162
  i80 := by kernel_rfl
  t82 := Try.underlying164
  a82 := Try.isAgg164
  z82 := Try.sizeOf164
  v82 := Try.zeroValue164
  i82 := by kernel_rfl }

noncomputable def slT : TypeInfo := (Try.prog.info? 36).get (by kernel_rfl)
noncomputable def slE : TypeInfo := (Try.prog.info? 113).get (by kernel_rfl)
theorem sort_tiny0 (p : Option Addr) (n c : Nat) (h1 : n ≤ 1) (lf : Fn) (la lb : Array Value) (w : World) :
    Calls Try.prog 105 #[.iface 36 (.slice p n c), .func lf la lb] w fun e w' => e = .returned (.tuple #[]) ∧ Ext w w' := by
  have hK : Lib.swapperK n slE 25 = n + 1 := by
    rcases Nat.eq_zero_or_pos n with h | h
    · subst h; simp [Lib.swapperK]
    · obtain rfl : n = 1 := by omega
      simp [Lib.swapperK]
  have hS := Any.sort_Slice_tiny sl6 36 113 slT slE (by kernel_rfl) (by kernel_rfl) (by kernel_rfl) (by kernel_rfl) 25 (fun _ => by kernel_rfl) p n c h1 (91 + n) (by
    rw [hK]
    rcases Nat.eq_zero_or_pos n with h | h
    · subst h; kernel_rfl
    · obtain rfl : n = 1 := by omega
      kernel_rfl) lf la lb w
  change Calls Try.prog 105 _ _ _ at hS
  refine hS.mono ?_
  rintro e w' ⟨rfl, os, rfl⟩
  exact ⟨rfl, rfl, rfl, rfl, by simp, fun k hk => heap_grow_old w os hk⟩
/-- a right disk's files are in order: nothing turns -/
theorem sort_ok (p : Option Addr) (m c b7 : Nat) (ys : List Fil) (w : World) (_h : Fls w (.slice p m c) ys) (_ho : diskOk ys = true) (hl : m ≤ 1) (_hb : Bx w b7 [.slice p m c]) :
    Calls Try.prog 105 #[.iface 36 (.slice p m c), .func (.func 106) #[] #[.pointer (some ⟨b7, 0, none⟩)]] w fun e w' => e = .returned (.tuple #[]) ∧ Ext w w' := sort_tiny0 p m c hl _ _ _ w
end Go.Proofs.Ytckipgijfgeghaa
