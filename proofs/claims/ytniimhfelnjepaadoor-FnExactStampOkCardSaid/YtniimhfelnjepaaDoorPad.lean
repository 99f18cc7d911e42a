/- The padding of both packages. -/
import Derived.Test.YtniimhfelnjepaaDoorArr
import Derived.Test.YtniimhfelnjepaaDoorOwnM
import Derived.Deep.RegionLaw
namespace Go.Proofs.YtniimhfelnjepaaDoor
open Go.RowKit

theorem Ext.grownM {a b c : World} {g : Nat} (h : Ext a b) (hg : b.grownBy c (some g)) (hr : a.heap.size ≤ g) : Ext a c := Below.grown h hg h.size (fun k hk => by injection hk with hk; omega)
theorem infoU8 : (Tryd.prog.info? 5).map (fun i => (i.zero, i.size, i.bytes)) = some (some (.int .u8 0), 1, 1) := by kernel_rfl

theorem zerosN_le (n : Nat) : zerosN n ≤ 63 := by unfold zerosN; omega
/-- the bytes laid when i bytes of the length are there -/
def padUpto (t : ByteArray) (i : Nat) : List Int := nums8 t ++ ([128] ++ List.replicate (zerosN t.size) 0 ++ (List.range i).map fun k => ((8 * t.size / 2 ^ (8 * (7 - k)) % 256 : Nat) : Int))
theorem padUpto_len (t : ByteArray) (i : Nat) : (padUpto t i).length = t.size + 1 + zerosN t.size + i := by
  simp only [padUpto, List.length_append, nums8_length, List.length_cons, List.length_nil, List.length_replicate, List.length_map, List.length_range]
  omega
theorem padUpto_succ (t : ByteArray) (i : Nat) : padUpto t (i + 1) = padUpto t i ++ [((8 * t.size / 2 ^ (8 * (7 - i)) % 256 : Nat) : Int)] := by
  simp [padUpto, List.range_succ]
theorem padUpto_all (t : ByteArray) : strOfNums (padUpto t 8) = padT t := by
  rw [padUpto, strOfNums_append, strOfNums_nums8]
  rfl
theorem padT_size (t : ByteArray) : (padT t).size = t.size + 9 + zerosN t.size := by
  rw [← padUpto_all, strOfNums_size, padUpto_len]
  omega
theorem padT_blocks (t : ByteArray) : (padT t).size % 64 = 0 ∧ 0 < (padT t).size := by
  rw [padT_size]
  unfold zerosN
  omega

theorem news1 (W : World) (u0 : Value) (T : TypeId) : ∀ j u, [u0][j]? = some u → (W.alloc (.cells #[u0] T)).cell? ((⟨W.heap.size, 0, none⟩ : Addr).add j) = some u := by
  intro j u h
  have hj : j = 0 := by
    have := (List.getElem?_eq_some_iff.1 h).1
    simpa using this
  subst hj
  have e : (⟨W.heap.size, 0, none⟩ : Addr).add 0 = ⟨W.heap.size, 0, none⟩ := by unfold Addr.add; rfl
  rw [e, World.cell?_alloc_new]
  simpa using h
theorem one1 (x : Int) : ∀ u ∈ [Value.int .u8 x], u.oneCell' = true := by
  intro u hu
  rw [List.mem_singleton] at hu
  rw [hu]
  rfl
theorem zeros_int (n : Nat) : (119 - (n : Int)) % 64 = (zerosN n : Int) := by
  unfold zerosN
  omega
theorem u8_of (a b : Int) (h : a = b) : [Value.int .u8 a] = [b].map (Value.int .u8) := by rw [h]; rfl

set_option maxRecDepth 100000 in
set_option maxHeartbeats 1600000 in
theorem impl_PadText (t : ByteArray) (w : World) (ht : t.size ≤ 1073741824) :
    Calls Tryd.prog 104 #[.string t] w fun e w' => e = .returned (.string (padT t)) ∧ Ext w w' := by
  obtain ⟨i0, hi, hz0, hz1, hz2⟩ := info_parts infoU8
  have hcv := fun W : World => Lib.run_convert_string_bytes (P := Tryd.prog) W 9 55 5 t Tryd.underlying9 Tryd.underlying55 Tryd.underlying5
  have hm : t.size ≤ maxLen := by unfold maxLen; omega
  have o1 := Lib.hid (bytes_own w t hm)
  have x1 := bytes_ext w t
  have l1 := x1.size
  have zl := zerosN_le t.size
  have hzn := Lib.hid (zeros_int t.size)
  clear hm
  go_enter Tryd.func104, Tryd.ntmps104
  go_wp2_with (at_builtin; refine wpList_append_m rfl (.tmp 12) (.tmp 13) 55 rfl w.heap.size i0 Tryd.underlying55 hi hz0 hz1 hz2 t.size _ w.heap.size (Lib.strCells t) rfl (o1.out.alloc _) ⟨(Lib.bytesWorld w 5 t).heap.size, 0, none⟩ 1 1 [.int .u8 128] rfl rfl (news1 _ _ _) (one1 _) (by omega) (by simp; omega) ?_)
  intro v1 w1 own1 g1
  obtain ⟨a1, c1, rfl, ha1, hb1, -, -⟩ := own1.form
  have x2 : Ext w w1 := (x1.alloc _).grownM g1 (Nat.le_refl _)
  have l2 := x2.size
  have O1 := Lib.hid own1
  clear own1 g1 o1 hcv x1 l1
  go_wp2_with (at_builtin; refine wpList_append_m_zeros rfl (.tmp 15) (.tmp 16) 55 3 rfl w.heap.size i0 Tryd.underlying55 Tryd.underlying3 hi hz0 hz1 hz2 (t.size + 1) _ a1 _ rfl O1.out (zerosN t.size) (congrArg (Value.int .i64) hzn.out) (by omega) (by omega) ?_)
  intro v2 w2 own2 g2
  obtain ⟨a2, c2, rfl, ha2, hb2, -, -⟩ := own2.form
  have x3 : Ext w w2 := x2.grownM g2 ha1
  have O2 := Lib.hid own2
  clear own2 g2 O1 x2 l2 ha1 hb1
  go_wp2
  go_loopw [4, 5] (fun v i wr => ∃ j : Nat, j ≤ 8 ∧ i = .int .i64 (7 - (j : Int)) ∧ OwnM wr w.heap.size v (t.size + 1 + zerosN t.size + j) ((padUpto t j).map (Value.int .u8)) ∧ Ext w wr) (fun _ i _ => (intOf i + 1).toNat)
  case atStart =>
    refine ⟨0, by omega, rfl, ?_, x3⟩
    have := O2.out
    simpa [padUpto, strCells_nums8] using this
  case round =>
    clear O2 x3 ha2 hb2
    obtain ⟨j, hj, rfl, own, hx⟩ := hrel
    obtain ⟨a, c, rfl, ha, hb, -, -⟩ := own.form
    have O := Lib.hid own
    have hl := hx.size
    clear own
    by_cases hlt : j < 8
    · have hs := Lib.hid (padUpto_succ t j)
      rcases lt8 hlt with rfl | rfl | rfl | rfl | rfl | rfl | rfl | rfl
      · go_wp2_with (at_builtin; refine wpList_append_m rfl (.tmp 22) (.tmp 30) 55 rfl w.heap.size i0 Tryd.underlying55 hi hz0 hz1 hz2 (t.size + 1 + zerosN t.size + 0) _ a _ rfl (O.out.alloc _) ⟨wr.heap.size, 0, none⟩ 1 1 [.int .u8 _] rfl rfl (news1 _ _ _) (one1 _) (by omega) (by simp; omega) ?_)
        intro v' w' own' g'
        have hx' : Ext w w' := (hx.alloc _).grownM g' ha
        have he : (2 : Nat) ^ (8 * (7 - 0)) = 72057594037927936 := by decide
        have O' : OwnM w' w.heap.size v' (t.size + 1 + zerosN t.size + 0 + 1) ((padUpto t (0 + 1)).map (Value.int .u8)) := by
          rw [hs.out, List.map_append, he]
          rw [u8_of _ ((8 * t.size / 72057594037927936 % 256 : Nat) : Int) (by omega)] at own'
          exact own'
        have HO := Lib.hid O'
        clear own' g' O' he
        go_wp2
        go_roundw
        case rel => exact ⟨1, by omega, rfl, HO.out, hx'⟩
        case measure => simp [intOf]
      · go_wp2_with (at_builtin; refine wpList_append_m rfl (.tmp 22) (.tmp 30) 55 rfl w.heap.size i0 Tryd.underlying55 hi hz0 hz1 hz2 (t.size + 1 + zerosN t.size + 1) _ a _ rfl (O.out.alloc _) ⟨wr.heap.size, 0, none⟩ 1 1 [.int .u8 _] rfl rfl (news1 _ _ _) (one1 _) (by omega) (by simp; omega) ?_)
        intro v' w' own' g'
        have hx' : Ext w w' := (hx.alloc _).grownM g' ha
        have he : (2 : Nat) ^ (8 * (7 - 1)) = 281474976710656 := by decide
        have O' : OwnM w' w.heap.size v' (t.size + 1 + zerosN t.size + 1 + 1) ((padUpto t (1 + 1)).map (Value.int .u8)) := by
          rw [hs.out, List.map_append, he]
          rw [u8_of _ ((8 * t.size / 281474976710656 % 256 : Nat) : Int) (by omega)] at own'
          exact own'
        have HO := Lib.hid O'
        clear own' g' O' he
        go_wp2
        go_roundw
        case rel => exact ⟨2, by omega, rfl, HO.out, hx'⟩
        case measure => simp [intOf]
      · go_wp2_with (at_builtin; refine wpList_append_m rfl (.tmp 22) (.tmp 30) 55 rfl w.heap.size i0 Tryd.underlying55 hi hz0 hz1 hz2 (t.size + 1 + zerosN t.size + 2) _ a _ rfl (O.out.alloc _) ⟨wr.heap.size, 0, none⟩ 1 1 [.int .u8 _] rfl rfl (news1 _ _ _) (one1 _) (by omega) (by simp; omega) ?_)
        intro v' w' own' g'
        have hx' : Ext w w' := (hx.alloc _).grownM g' ha
        have he : (2 : Nat) ^ (8 * (7 - 2)) = 1099511627776 := by decide
        have O' : OwnM w' w.heap.size v' (t.size + 1 + zerosN t.size + 2 + 1) ((padUpto t (2 + 1)).map (Value.int .u8)) := by
          rw [hs.out, List.map_append, he]
          rw [u8_of _ ((8 * t.size / 1099511627776 % 256 : Nat) : Int) (by omega)] at own'
          exact own'
        have HO := Lib.hid O'
        clear own' g' O' he
        go_wp2
        go_roundw
        case rel => exact ⟨3, by omega, rfl, HO.out, hx'⟩
        case measure => simp [intOf]
      · go_wp2_with (at_builtin; refine wpList_append_m rfl (.tmp 22) (.tmp 30) 55 rfl w.heap.size i0 Tryd.underlying55 hi hz0 hz1 hz2 (t.size + 1 + zerosN t.size + 3) _ a _ rfl (O.out.alloc _) ⟨wr.heap.size, 0, none⟩ 1 1 [.int .u8 _] rfl rfl (news1 _ _ _) (one1 _) (by omega) (by simp; omega) ?_)
        intro v' w' own' g'
        have hx' : Ext w w' := (hx.alloc _).grownM g' ha
        have he : (2 : Nat) ^ (8 * (7 - 3)) = 4294967296 := by decide
        have O' : OwnM w' w.heap.size v' (t.size + 1 + zerosN t.size + 3 + 1) ((padUpto t (3 + 1)).map (Value.int .u8)) := by
          rw [hs.out, List.map_append, he]
          rw [u8_of _ ((8 * t.size / 4294967296 % 256 : Nat) : Int) (by omega)] at own'
          exact own'
        have HO := Lib.hid O'
        clear own' g' O' he
        go_wp2
        go_roundw
        case rel => exact ⟨4, by omega, rfl, HO.out, hx'⟩
        case measure => simp [intOf]
      · go_wp2_with (at_builtin; refine wpList_append_m rfl (.tmp 22) (.tmp 30) 55 rfl w.heap.size i0 Tryd.underlying55 hi hz0 hz1 hz2 (t.size + 1 + zerosN t.size + 4) _ a _ rfl (O.out.alloc _) ⟨wr.heap.size, 0, none⟩ 1 1 [.int .u8 _] rfl rfl (news1 _ _ _) (one1 _) (by omega) (by simp; omega) ?_)
        intro v' w' own' g'
        have hx' : Ext w w' := (hx.alloc _).grownM g' ha
        have he : (2 : Nat) ^ (8 * (7 - 4)) = 16777216 := by decide
        have O' : OwnM w' w.heap.size v' (t.size + 1 + zerosN t.size + 4 + 1) ((padUpto t (4 + 1)).map (Value.int .u8)) := by
          rw [hs.out, List.map_append, he]
          rw [u8_of _ ((8 * t.size / 16777216 % 256 : Nat) : Int) (by omega)] at own'
          exact own'
        have HO := Lib.hid O'
        clear own' g' O' he
        go_wp2
        go_roundw
        case rel => exact ⟨5, by omega, rfl, HO.out, hx'⟩
        case measure => simp [intOf]
      · go_wp2_with (at_builtin; refine wpList_append_m rfl (.tmp 22) (.tmp 30) 55 rfl w.heap.size i0 Tryd.underlying55 hi hz0 hz1 hz2 (t.size + 1 + zerosN t.size + 5) _ a _ rfl (O.out.alloc _) ⟨wr.heap.size, 0, none⟩ 1 1 [.int .u8 _] rfl rfl (news1 _ _ _) (one1 _) (by omega) (by simp; omega) ?_)
        intro v' w' own' g'
        have hx' : Ext w w' := (hx.alloc _).grownM g' ha
        have he : (2 : Nat) ^ (8 * (7 - 5)) = 65536 := by decide
        have O' : OwnM w' w.heap.size v' (t.size + 1 + zerosN t.size + 5 + 1) ((padUpto t (5 + 1)).map (Value.int .u8)) := by
          rw [hs.out, List.map_append, he]
          rw [u8_of _ ((8 * t.size / 65536 % 256 : Nat) : Int) (by omega)] at own'
          exact own'
        have HO := Lib.hid O'
        clear own' g' O' he
        go_wp2
        go_roundw
        case rel => exact ⟨6, by omega, rfl, HO.out, hx'⟩
        case measure => simp [intOf]
      · go_wp2_with (at_builtin; refine wpList_append_m rfl (.tmp 22) (.tmp 30) 55 rfl w.heap.size i0 Tryd.underlying55 hi hz0 hz1 hz2 (t.size + 1 + zerosN t.size + 6) _ a _ rfl (O.out.alloc _) ⟨wr.heap.size, 0, none⟩ 1 1 [.int .u8 _] rfl rfl (news1 _ _ _) (one1 _) (by omega) (by simp; omega) ?_)
        intro v' w' own' g'
        have hx' : Ext w w' := (hx.alloc _).grownM g' ha
        have he : (2 : Nat) ^ (8 * (7 - 6)) = 256 := by decide
        have O' : OwnM w' w.heap.size v' (t.size + 1 + zerosN t.size + 6 + 1) ((padUpto t (6 + 1)).map (Value.int .u8)) := by
          rw [hs.out, List.map_append, he]
          rw [u8_of _ ((8 * t.size / 256 % 256 : Nat) : Int) (by omega)] at own'
          exact own'
        have HO := Lib.hid O'
        clear own' g' O' he
        go_wp2
        go_roundw
        case rel => exact ⟨7, by omega, rfl, HO.out, hx'⟩
        case measure => simp [intOf]
      · go_wp2_with (at_builtin; refine wpList_append_m rfl (.tmp 22) (.tmp 30) 55 rfl w.heap.size i0 Tryd.underlying55 hi hz0 hz1 hz2 (t.size + 1 + zerosN t.size + 7) _ a _ rfl (O.out.alloc _) ⟨wr.heap.size, 0, none⟩ 1 1 [.int .u8 _] rfl rfl (news1 _ _ _) (one1 _) (by omega) (by simp; omega) ?_)
        intro v' w' own' g'
        have hx' : Ext w w' := (hx.alloc _).grownM g' ha
        have he : (2 : Nat) ^ (8 * (7 - 7)) = 1 := by decide
        have O' : OwnM w' w.heap.size v' (t.size + 1 + zerosN t.size + 7 + 1) ((padUpto t (7 + 1)).map (Value.int .u8)) := by
          rw [hs.out, List.map_append, he]
          rw [u8_of _ ((8 * t.size / 1 % 256 : Nat) : Int) (by omega)] at own'
          exact own'
        have HO := Lib.hid O'
        clear own' g' O' he
        go_wp2
        go_roundw
        case rel => exact ⟨8, by omega, rfl, HO.out, hx'⟩
        case measure => simp [intOf]
    · obtain rfl : j = 8 := by omega
      have hs := O.out.str
      have hp := Lib.hid (padUpto_all t)
      go_wp2
      go_ret
      exact ⟨ret_str hp.out, hx⟩

set_option maxRecDepth 100000 in
set_option maxHeartbeats 1600000 in
theorem spec_PadText (t : ByteArray) (w : World) (ht : t.size ≤ 1073741824) :
    Calls Tryd.prog 110 #[.string t] w fun e w' => e = .returned (.string (padT t)) ∧ Ext w w' := by
  obtain ⟨i0, hi, hz0, hz1, hz2⟩ := info_parts infoU8
  have hcv := fun W : World => Lib.run_convert_string_bytes (P := Tryd.prog) W 9 55 5 t Tryd.underlying9 Tryd.underlying55 Tryd.underlying5
  have hm : t.size ≤ maxLen := by unfold maxLen; omega
  have o1 := Lib.hid (bytes_own w t hm)
  have x1 := bytes_ext w t
  have l1 := x1.size
  have zl := zerosN_le t.size
  clear hm
  go_enter Tryd.func110, Tryd.ntmps110
  go_wp2_with (at_builtin; refine wpList_append_m rfl (.tmp 8) (.tmp 9) 55 rfl w.heap.size i0 Tryd.underlying55 hi hz0 hz1 hz2 t.size _ w.heap.size (Lib.strCells t) rfl (o1.out.alloc _) ⟨(Lib.bytesWorld w 5 t).heap.size, 0, none⟩ 1 1 [.int .u8 128] rfl rfl (news1 _ _ _) (one1 _) (by omega) (by simp; omega) ?_)
  intro v1 w1 own1 g1
  have x2 : Ext w w1 := (x1.alloc _).grownM g1 (Nat.le_refl _)
  have O1 := Lib.hid own1
  clear own1 g1 o1 hcv x1 l1
  go_wp2
  go_loopw [3] (fun v wr => ∃ k L : Nat, k ≤ zerosN t.size ∧ Hid (L = t.size + 1 + k) ∧ OwnM wr w.heap.size v L (Lib.strCells t ++ [.int .u8 128] ++ List.replicate k (.int .u8 0)) ∧ Ext w wr) (fun v _ => match v with | .slice _ n _ => t.size + 1 + zerosN t.size - n | _ => 0)
  case atStart => exact ⟨0, t.size + 1, by omega, Lib.hid (by omega), by simpa using O1.out, x2⟩
  case round =>
    clear O1 x2
    obtain ⟨k, L, hk, HL, own, hx⟩ := hrel
    obtain ⟨a, c, rfl, ha, hb, -, -⟩ := own.form
    have O := Lib.hid own
    have hl := hx.size
    have hLb : L ≤ 1073741900 := by have := HL.out; omega
    clear own
    by_cases hlt : k < zerosN t.size
    · have hq : ((L : Int) % 64 != 56) = true := by
        have := HL.out
        rw [bne_iff_ne]
        unfold zerosN at hlt
        omega
      go_wp2_with (at_builtin; refine wpList_append_m rfl (.tmp 15) (.tmp 16) 55 rfl w.heap.size i0 Tryd.underlying55 hi hz0 hz1 hz2 L _ a _ rfl (O.out.alloc _) ⟨wr.heap.size, 0, none⟩ 1 1 [.int .u8 0] rfl rfl (news1 _ _ _) (one1 _) (by omega) (by simp; omega) ?_)
      intro v' w' own' g'
      have hx' : Ext w w' := (hx.alloc _).grownM g' ha
      have O' : OwnM w' w.heap.size v' (L + 1) (Lib.strCells t ++ [.int .u8 128] ++ List.replicate (k + 1) (.int .u8 0)) := by
        simpa [List.replicate_succ'] using own'
      obtain ⟨a', c', rfl, -, -, -, -⟩ := own'.form
      have HO := Lib.hid O'
      clear own' g' O'
      go_wp2
      go_roundw
      case rel => exact ⟨k + 1, L + 1, by omega, Lib.hid (by have := HL.out; omega), HO.out, hx'⟩
      case measure => have := HL.out; simp; omega
    · have hq : ((L : Int) % 64 != 56) = false := by
        have := HL.out
        rw [bne_eq_false_iff_eq]
        have hk2 : k = zerosN t.size := by omega
        rw [hk2] at this
        unfold zerosN at this
        omega
      have O2 : OwnM wr w.heap.size (.slice (some ⟨a, 0, none⟩) L c) (t.size + 1 + zerosN t.size + 0) ((padUpto t 0).map (Value.int .u8)) := by
        have e : k = zerosN t.size := by omega
        have e2 := HL.out
        have o := O.out
        rw [e] at o e2
        rw [Nat.add_zero, ← e2]
        simpa [padUpto, strCells_nums8] using o
      have HO2 := Lib.hid O2
      clear O O2
      go_wp2
      go_loopw [3, 5] (fun v i wr => ∃ j : Nat, j ≤ 8 ∧ i = .int .i64 (7 - (j : Int)) ∧ OwnM wr w.heap.size v (t.size + 1 + zerosN t.size + j) ((padUpto t j).map (Value.int .u8)) ∧ Ext w wr) (fun _ i _ => (intOf i + 1).toNat)
      case atStart => exact ⟨0, by omega, rfl, HO2.out, hx⟩
      case round =>
        clear HO2 hx ha hb hl hq
        rename_i wr0 wr
        obtain ⟨j, hj, rfl, own, hx⟩ := hrel
        obtain ⟨a, c, rfl, ha, hb, -, -⟩ := own.form
        have O := Lib.hid own
        have hl := hx.size
        clear own
        by_cases hlt : j < 8
        · have hs := Lib.hid (padUpto_succ t j)
          rcases lt8 hlt with rfl | rfl | rfl | rfl | rfl | rfl | rfl | rfl
          · go_wp2_with (at_builtin; refine wpList_append_m rfl (.tmp 25) (.tmp 32) 55 rfl w.heap.size i0 Tryd.underlying55 hi hz0 hz1 hz2 (t.size + 1 + zerosN t.size + 0) _ a _ rfl (O.out.alloc _) ⟨wr.heap.size, 0, none⟩ 1 1 [.int .u8 _] rfl rfl (news1 _ _ _) (one1 _) (by omega) (by simp; omega) ?_)
            intro v' w' own' g'
            have hx' : Ext w w' := (hx.alloc _).grownM g' ha
            have he : (2 : Nat) ^ (8 * (7 - 0)) = 72057594037927936 := by decide
            have O' : OwnM w' w.heap.size v' (t.size + 1 + zerosN t.size + 0 + 1) ((padUpto t (0 + 1)).map (Value.int .u8)) := by
              rw [hs.out, List.map_append, he]
              rw [u8_of _ ((8 * t.size / 72057594037927936 % 256 : Nat) : Int) (by omega)] at own'
              exact own'
            have HO := Lib.hid O'
            clear own' g' O' he
            go_wp2
            go_roundw
            case rel => exact ⟨1, by omega, rfl, HO.out, hx'⟩
            case measure => simp [intOf]
          · go_wp2_with (at_builtin; refine wpList_append_m rfl (.tmp 25) (.tmp 32) 55 rfl w.heap.size i0 Tryd.underlying55 hi hz0 hz1 hz2 (t.size + 1 + zerosN t.size + 1) _ a _ rfl (O.out.alloc _) ⟨wr.heap.size, 0, none⟩ 1 1 [.int .u8 _] rfl rfl (news1 _ _ _) (one1 _) (by omega) (by simp; omega) ?_)
            intro v' w' own' g'
            have hx' : Ext w w' := (hx.alloc _).grownM g' ha
            have he : (2 : Nat) ^ (8 * (7 - 1)) = 281474976710656 := by decide
            have O' : OwnM w' w.heap.size v' (t.size + 1 + zerosN t.size + 1 + 1) ((padUpto t (1 + 1)).map (Value.int .u8)) := by
              rw [hs.out, List.map_append, he]
              rw [u8_of _ ((8 * t.size / 281474976710656 % 256 : Nat) : Int) (by omega)] at own'
              exact own'
            have HO := Lib.hid O'
            clear own' g' O' he
            go_wp2
            go_roundw
            case rel => exact ⟨2, by omega, rfl, HO.out, hx'⟩
            case measure => simp [intOf]
          · go_wp2_with (at_builtin; refine wpList_append_m rfl (.tmp 25) (.tmp 32) 55 rfl w.heap.size i0 Tryd.underlying55 hi hz0 hz1 hz2 (t.size + 1 + zerosN t.size + 2) _ a _ rfl (O.out.alloc _) ⟨wr.heap.size, 0, none⟩ 1 1 [.int .u8 _] rfl rfl (news1 _ _ _) (one1 _) (by omega) (by simp; omega) ?_)
            intro v' w' own' g'
            have hx' : Ext w w' := (hx.alloc _).grownM g' ha
            have he : (2 : Nat) ^ (8 * (7 - 2)) = 1099511627776 := by decide
            have O' : OwnM w' w.heap.size v' (t.size + 1 + zerosN t.size + 2 + 1) ((padUpto t (2 + 1)).map (Value.int .u8)) := by
              rw [hs.out, List.map_append, he]
              rw [u8_of _ ((8 * t.size / 1099511627776 % 256 : Nat) : Int) (by omega)] at own'
              exact own'
            have HO := Lib.hid O'
            clear own' g' O' he
            go_wp2
            go_roundw
            case rel => exact ⟨3, by omega, rfl, HO.out, hx'⟩
            case measure => simp [intOf]
          · go_wp2_with (at_builtin; refine wpList_append_m rfl (.tmp 25) (.tmp 32) 55 rfl w.heap.size i0 Tryd.underlying55 hi hz0 hz1 hz2 (t.size + 1 + zerosN t.size + 3) _ a _ rfl (O.out.alloc _) ⟨wr.heap.size, 0, none⟩ 1 1 [.int .u8 _] rfl rfl (news1 _ _ _) (one1 _) (by omega) (by simp; omega) ?_)
            intro v' w' own' g'
            have hx' : Ext w w' := (hx.alloc _).grownM g' ha
            have he : (2 : Nat) ^ (8 * (7 - 3)) = 4294967296 := by decide
            have O' : OwnM w' w.heap.size v' (t.size + 1 + zerosN t.size + 3 + 1) ((padUpto t (3 + 1)).map (Value.int .u8)) := by
              rw [hs.out, List.map_append, he]
              rw [u8_of _ ((8 * t.size / 4294967296 % 256 : Nat) : Int) (by omega)] at own'
              exact own'
            have HO := Lib.hid O'
            clear own' g' O' he
            go_wp2
            go_roundw
            case rel => exact ⟨4, by omega, rfl, HO.out, hx'⟩
            case measure => simp [intOf]
          · go_wp2_with (at_builtin; refine wpList_append_m rfl (.tmp 25) (.tmp 32) 55 rfl w.heap.size i0 Tryd.underlying55 hi hz0 hz1 hz2 (t.size + 1 + zerosN t.size + 4) _ a _ rfl (O.out.alloc _) ⟨wr.heap.size, 0, none⟩ 1 1 [.int .u8 _] rfl rfl (news1 _ _ _) (one1 _) (by omega) (by simp; omega) ?_)
            intro v' w' own' g'
            have hx' : Ext w w' := (hx.alloc _).grownM g' ha
            have he : (2 : Nat) ^ (8 * (7 - 4)) = 16777216 := by decide
            have O' : OwnM w' w.heap.size v' (t.size + 1 + zerosN t.size + 4 + 1) ((padUpto t (4 + 1)).map (Value.int .u8)) := by
              rw [hs.out, List.map_append, he]
              rw [u8_of _ ((8 * t.size / 16777216 % 256 : Nat) : Int) (by omega)] at own'
              exact own'
            have HO := Lib.hid O'
            clear own' g' O' he
            go_wp2
            go_roundw
            case rel => exact ⟨5, by omega, rfl, HO.out, hx'⟩
            case measure => simp [intOf]
          · go_wp2_with (at_builtin; refine wpList_append_m rfl (.tmp 25) (.tmp 32) 55 rfl w.heap.size i0 Tryd.underlying55 hi hz0 hz1 hz2 (t.size + 1 + zerosN t.size + 5) _ a _ rfl (O.out.alloc _) ⟨wr.heap.size, 0, none⟩ 1 1 [.int .u8 _] rfl rfl (news1 _ _ _) (one1 _) (by omega) (by simp; omega) ?_)
            intro v' w' own' g'
            have hx' : Ext w w' := (hx.alloc _).grownM g' ha
            have he : (2 : Nat) ^ (8 * (7 - 5)) = 65536 := by decide
            have O' : OwnM w' w.heap.size v' (t.size + 1 + zerosN t.size + 5 + 1) ((padUpto t (5 + 1)).map (Value.int .u8)) := by
              rw [hs.out, List.map_append, he]
              rw [u8_of _ ((8 * t.size / 65536 % 256 : Nat) : Int) (by omega)] at own'
              exact own'
            have HO := Lib.hid O'
            clear own' g' O' he
            go_wp2
            go_roundw
            case rel => exact ⟨6, by omega, rfl, HO.out, hx'⟩
            case measure => simp [intOf]
          · go_wp2_with (at_builtin; refine wpList_append_m rfl (.tmp 25) (.tmp 32) 55 rfl w.heap.size i0 Tryd.underlying55 hi hz0 hz1 hz2 (t.size + 1 + zerosN t.size + 6) _ a _ rfl (O.out.alloc _) ⟨wr.heap.size, 0, none⟩ 1 1 [.int .u8 _] rfl rfl (news1 _ _ _) (one1 _) (by omega) (by simp; omega) ?_)
            intro v' w' own' g'
            have hx' : Ext w w' := (hx.alloc _).grownM g' ha
            have he : (2 : Nat) ^ (8 * (7 - 6)) = 256 := by decide
            have O' : OwnM w' w.heap.size v' (t.size + 1 + zerosN t.size + 6 + 1) ((padUpto t (6 + 1)).map (Value.int .u8)) := by
              rw [hs.out, List.map_append, he]
              rw [u8_of _ ((8 * t.size / 256 % 256 : Nat) : Int) (by omega)] at own'
              exact own'
            have HO := Lib.hid O'
            clear own' g' O' he
            go_wp2
            go_roundw
            case rel => exact ⟨7, by omega, rfl, HO.out, hx'⟩
            case measure => simp [intOf]
          · go_wp2_with (at_builtin; refine wpList_append_m rfl (.tmp 25) (.tmp 32) 55 rfl w.heap.size i0 Tryd.underlying55 hi hz0 hz1 hz2 (t.size + 1 + zerosN t.size + 7) _ a _ rfl (O.out.alloc _) ⟨wr.heap.size, 0, none⟩ 1 1 [.int .u8 _] rfl rfl (news1 _ _ _) (one1 _) (by omega) (by simp; omega) ?_)
            intro v' w' own' g'
            have hx' : Ext w w' := (hx.alloc _).grownM g' ha
            have he : (2 : Nat) ^ (8 * (7 - 7)) = 1 := by decide
            have O' : OwnM w' w.heap.size v' (t.size + 1 + zerosN t.size + 7 + 1) ((padUpto t (7 + 1)).map (Value.int .u8)) := by
              rw [hs.out, List.map_append, he]
              rw [u8_of _ ((8 * t.size / 1 % 256 : Nat) : Int) (by omega)] at own'
              exact own'
            have HO := Lib.hid O'
            clear own' g' O' he
            go_wp2
            go_roundw
            case rel => exact ⟨8, by omega, rfl, HO.out, hx'⟩
            case measure => simp [intOf]
        · obtain rfl : j = 8 := by omega
          have hs := O.out.str
          have hp := Lib.hid (padUpto_all t)
          go_wp2
          go_ret
          exact ⟨ret_str hp.out, hx⟩
end Go.Proofs.YtniimhfelnjepaaDoor
