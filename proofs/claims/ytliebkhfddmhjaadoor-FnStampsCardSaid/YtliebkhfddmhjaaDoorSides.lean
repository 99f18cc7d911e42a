/- CombineSides; the law. -/
import Derived.Test.YtliebkhfddmhjaaDoorRoots2
import Derived.Test.YtliebkhfddmhjaaDoorMarkS
import Derived.Test.YtliebkhfddmhjaaDoorStrA
import Derived.Maps.AppendAt
namespace Go.Proofs.YtliebkhfddmhjaaDoor
open Go.RowKit

/-- the place beside -/
def besideN (s : Nat) : Nat := if s % 2 = 0 then s + 1 else s - 1
theorem beside_lt {s p : Nat} (h : s < p * 2) : besideN s < p * 2 := by unfold besideN; split <;> omega
theorem beside_bits {s : Nat} (h : s ≤ 3) : bits .xor .i64 (s : Int) 1 = (besideN s : Int) := by
  rcases (by omega : s = 0 ∨ s = 1 ∨ s = 2 ∨ s = 3) with rfl | rfl | rfl | rfl <;> rfl
theorem half_bits {s : Nat} (h : s ≤ 3) : (s : Int).tdiv 2 = ((s / 2 : Nat) : Int) := by
  rcases (by omega : s = 0 ∨ s = 1 ∨ s = 2 ∨ s = 3) with rfl | rfl | rfl | rfl <;> rfl
def sideT (wd : Int) : Nat → Nat → List ByteArray → List ByteArray
  | 0, _, _ => []
  | n + 1, s, ys => ys.getD (besideN s) ⟨#[]⟩ :: sideT wd n (s / 2) (upL ys wd)
theorem sideT_length (wd : Int) : ∀ n s ys, (sideT wd n s ys).length = n
  | 0, _, _ => rfl
  | n + 1, s, ys => by rw [sideT, List.length_cons, sideT_length]
def sidesOk (xs : List ByteArray) (s wd : Int) : Bool := rootsOk xs wd && inB s 0 ((xs.length : Int) - 1)
def sidesL (xs : List ByteArray) (s wd : Int) : List ByteArray := if sidesOk xs s wd = true then sideT wd (lvl xs.length) s.toNat xs else []
theorem sidesL_length (xs : List ByteArray) (s wd : Int) : (sidesL xs s wd).length ≤ 2 := by
  unfold sidesL
  split
  · rw [sideT_length]; exact lvl_le _
  · exact Nat.zero_le _
/-- a string of a list -/
theorem strs_at {w : World} {a : Option Addr} {n c : Nat} {ys : List ByteArray} (h : Strs w (.slice a n c) ys) (t : Nat) (hn : t < ys.length) : ∃ b o, a = some ⟨b, o, none⟩ ∧ b < w.heap.size ∧ w.cell? ⟨b, o + t, none⟩ = some (.string (ys.getD t ⟨#[]⟩)) := by
  obtain ⟨-, a1, c1, hv, -, -, g⟩ := h
  injection hv with e1 e2 e3
  subst e1
  rcases g with g | ⟨b, o, rfl, hb, g⟩
  · omega
  · refine ⟨b, o, rfl, hb, ?_⟩
    exact g t (.string (ys.getD t ⟨#[]⟩)) (by rw [ba_getD _ _ hn]; simp [hn])
theorem ret_slb {a : Option Addr} {n m c : Nat} {p q : Bool} (h : n = m) (k : p = q) : Ending.returned (.tuple #[.slice a n c, .bool p]) = .returned (.tuple #[.slice a m c, .bool q]) := by rw [h, k]

set_option maxRecDepth 100000 in
set_option maxHeartbeats 1600000 in
theorem impl_CombineSides (v : Value) (xs : List ByteArray) (sh wd : Int) (w : World) (h : Strs w v xs) (hs : ∀ s ∈ xs, s.size ≤ maxLen) (hT : Tabs w) :
    Calls Tryd.prog 74 #[v, .int .i64 sh, .int .i64 wd] w fun e w' => ∃ a c, e = .returned (.tuple #[.slice a (sidesL xs sh wd).length c, .bool (sidesOk xs sh wd)]) ∧ OwnStrs w' w.heap.size (.slice a (sidesL xs sh wd).length c) (sidesL xs sh wd) ∧ Ext w w' := by
  have HT := Lib.hid hT
  clear hT
  obtain ⟨a, c, rfl⟩ := h.form
  obtain ⟨i0, hi, hz0, hz1, hz2⟩ := info_parts infoString
  cases hk : rootsOk xs wd
  · have R := Lib.hid (show sidesL xs sh wd = [] by rw [sidesL, sidesOk, hk]; rfl)
    have RB := Lib.hid (show sidesOk xs sh wd = false by rw [sidesOk, hk]; rfl)
    have HK := Lib.hid hk
    clear hk
    go_enter Tryd.func74, Tryd.ntmps74
    go_wp2_with (go_at_call 151; refine (impl_rootsOk _ xs _ _ (h.ext (by repeat (first | (with_reducible first | exact Ext.refl _ | assumption | apply Ext.alloc | apply Ext.drew | apply Ext.drewN | refine Ext.setCell ?_ ?_ _ | refine Ext.trans ?_ (by assumption)) | (show _ ≤ _; first | omega | (dsimp only; omega) | (simp; done) | (simp; omega))))) hs).mono ?_; rw [HK.out]; rintro e w' ⟨rfl, rfl⟩)
    go_ret2
    rw [RB.out]
    exact ⟨_, _, ret_slb (by rw [R.out]; rfl) rfl, by rw [R.out]; exact World.ownsRow_nil _ _ _ _, (by repeat (first | (with_reducible first | exact Ext.refl _ | assumption | apply Ext.alloc | apply Ext.drew | apply Ext.drewN | refine Ext.setCell ?_ ?_ _ | refine Ext.trans ?_ (by assumption)) | (show _ ≤ _; first | omega | (dsimp only; omega) | (simp; done) | (simp; omega))))⟩
  obtain ⟨hl, hin, hwi⟩ := rootsOk_true hk
  have hmax : xs.length ≤ 4 := by omega
  have hw1 : IntKind.i64.wrap ((xs.length : Int) - 1) = (xs.length : Int) - 1 := IntWalk.i64_in _ (by omega)
  cases hb : inB sh 0 ((xs.length : Int) - 1)
  · have R := Lib.hid (show sidesL xs sh wd = [] by rw [sidesL, sidesOk, hb]; simp)
    have RB := Lib.hid (show sidesOk xs sh wd = false by rw [sidesOk, hb]; simp)
    have HK := Lib.hid hk
    have HI := Lib.hid hb
    clear hk hb hl hin hwi
    go_enter Tryd.func74, Tryd.ntmps74
    go_wp2_with (first | (go_at_call 151; refine (impl_rootsOk _ xs _ _ (h.ext (by repeat (first | (with_reducible first | exact Ext.refl _ | assumption | apply Ext.alloc | apply Ext.drew | apply Ext.drewN | refine Ext.setCell ?_ ?_ _ | refine Ext.trans ?_ (by assumption)) | (show _ ≤ _; first | omega | (dsimp only; omega) | (simp; done) | (simp; omega))))) hs).mono ?_; rw [HK.out]; rintro e w' ⟨rfl, rfl⟩) | (go_at_call 152; refine (impl_in _ _ _ _).mono ?_; rw [HI.out]; rintro e w' ⟨rfl, rfl⟩))
    go_ret2
    rw [RB.out]
    exact ⟨_, _, ret_slb (by rw [R.out]; rfl) rfl, by rw [R.out]; exact World.ownsRow_nil _ _ _ _, (by repeat (first | (with_reducible first | exact Ext.refl _ | assumption | apply Ext.alloc | apply Ext.drew | apply Ext.drewN | refine Ext.setCell ?_ ?_ _ | refine Ext.trans ?_ (by assumption)) | (show _ ≤ _; first | omega | (dsimp only; omega) | (simp; done) | (simp; omega))))⟩
  have hsh := inB_true.1 hb
  obtain ⟨sn, rfl⟩ := Int.eq_ofNat_of_zero_le hsh.1
  have hfit := wide_fit hin hwi
  have hlv := lvl_le xs.length
  have HP := Lib.hid (lvl_pow hl)
  have hsn : sn < xs.length := by omega
  have R := Lib.hid (show sidesL xs (sn : Int) wd = sideT wd (lvl xs.length) sn xs by rw [sidesL, if_pos (by rw [sidesOk, hk, hb]; rfl), Int.toNat_natCast])
  have RB := Lib.hid (show sidesOk xs (sn : Int) wd = true by rw [sidesOk, hk, hb]; rfl)
  have HK := Lib.hid hk
  have HI := Lib.hid hb
  clear hk hb hin hwi hsh
  rw [RB.out]
  go_enter Tryd.func74, Tryd.ntmps74
  go_wp2_with (first | (go_at_call 151; refine (impl_rootsOk _ xs _ _ (h.ext (by repeat (first | (with_reducible first | exact Ext.refl _ | assumption | apply Ext.alloc | apply Ext.drew | apply Ext.drewN | refine Ext.setCell ?_ ?_ _ | refine Ext.trans ?_ (by assumption)) | (show _ ≤ _; first | omega | (dsimp only; omega) | (simp; done) | (simp; omega))))) hs).mono ?_; rw [HK.out]; rintro e w' ⟨rfl, rfl⟩) | (go_at_call 152; refine (impl_in _ _ _ _).mono ?_; rw [HI.out]; rintro e w' ⟨rfl, rfl⟩))
  go_loopw [1, 8, 9] (fun sv ov lv wr => ∃ (n s : Nat) (ys acc : List ByteArray), sv = .int .i64 (s : Nat) ∧ s < 2 ^ n ∧ ys.length = 2 ^ n ∧ acc.length + n ≤ 2 ∧ Strs wr lv ys ∧ wr.ownsRow w.heap.size 9 1 ov acc.length (acc.map Value.string) ∧ Off ov lv ∧ acc ++ sideT wd n s ys = sideT wd (lvl xs.length) sn xs ∧ (∀ s ∈ ys, s.size ≤ 32) ∧ Ext w wr) (fun _ _ lv _ => lenOf lv)
  case atStart =>
    refine ⟨lvl xs.length, sn, xs, [], rfl, by rw [← HP.out]; exact hsn, HP.out, by simpa using hlv, h.ext (by repeat (first | (with_reducible first | exact Ext.refl _ | assumption | apply Ext.alloc | apply Ext.drew | apply Ext.drewN | refine Ext.setCell ?_ ?_ _ | refine Ext.trans ?_ (by assumption)) | (show _ ≤ _; first | omega | (dsimp only; omega) | (simp; done) | (simp; omega)))), World.ownsRow_nil _ _ _ _, ?_, rfl, hfit, (by repeat (first | (with_reducible first | exact Ext.refl _ | assumption | apply Ext.alloc | apply Ext.drew | apply Ext.drewN | refine Ext.setCell ?_ ?_ _ | refine Ext.trans ?_ (by assumption)) | (show _ ≤ _; first | omega | (dsimp only; omega) | (simp; done) | (simp; omega))))⟩
    intro g hg
    cases hg
  case round =>
    obtain ⟨n, s, ys, acc, rfl, hs2, hyl, hac, hst, hown, hoff, htop, hfit, hx⟩ := hrel
    obtain ⟨a', c', rfl⟩ := hst.form
    obtain ⟨ao, co, rfl⟩ := own_any hown
    have hsz := hx.size
    cases n with
    | zero =>
      have hy1 : ys.length = 1 := hyl
      have hgt : ¬ ((1 : Int) < ys.length) := by omega
      have HH := Lib.hid (show acc = sidesL xs (sn : Int) wd by rw [R.out, ← htop]; simp [sideT])
      have HO := Lib.hid hown
      have HA := Lib.hid hac
      clear htop hown hoff hyl hy1 hs2 hac
      go_wp2
      go_ret2
      refine ⟨ao, co, ret_slb (by rw [HH.out]) rfl, ?_, hx⟩
      rw [← HH.out]
      exact HO.out
    | succ n =>
      have hp : 0 < 2 ^ n := Nat.pow_pos (by decide)
      have hp2 : 2 ^ n ≤ 2 ^ 1 := Nat.pow_le_pow_right (by decide) (by omega)
      rw [Nat.pow_succ] at hyl hs2
      have hgt : (1 : Int) < ys.length := by omega
      have hul : (upL ys wd).length = 2 ^ n := by rw [upL_length]; omega
      have hb : ys.length ≤ 1000 := by omega
      have hs3 : s ≤ 3 := by omega
      have hxor := beside_bits hs3
      have htl : besideN s < ys.length := by rw [hyl]; exact beside_lt hs2
      have hlt : (upL ys wd).length < ys.length := by omega
      have HU := Lib.hid hul
      have HH := Lib.hid htop
      have HS := Lib.hid (show s / 2 < 2 ^ n by omega)
      obtain ⟨b1, o1, rfl, hb1, e1⟩ := strs_at hst (besideN s) htl
      generalize hT : ys.getD (besideN s) ⟨#[]⟩ = T at *
      have HG := Lib.hid hT
      generalize hX : besideN s = x at *
      have HX := Lib.hid hX
      have j1 : (0 : Int) ≤ (x : Int) := by omega
      have j2 : (x : Int) < ys.length := by omega
      have jq := half_bits hs3
      have jw : IntKind.i64.wrap (((s / 2 : Nat) : Int)) = ((s / 2 : Nat) : Int) := IntWalk.i64_in _ (by omega)
      have hal : acc.length ≤ 2 := by omega
      clear htop hul hyl hp hp2 hs2 hT hX
      go_wp2_with (at_builtin; refine wpList_append_own_at _ rfl (.tmp 31) (.tmp 37) 22 rfl w.heap.size 9 i0 (.string ⟨#[]⟩) 1 16 Tryd.underlying22 hi hz0 hz1 hz2 rfl (by decide) _ _ _ rfl (hown.alloc _) ⟨wr.heap.size, 0, none⟩ 1 1 [.string T] rfl rfl ?c1 ?c2 ?c3 ?c4 ?c5 ?_)
      case c1 => exact World.news_of_block (heap_alloc_new wr (Obj.cells #[Value.string T] 9))
      case c2 => intro u hu; rw [List.mem_singleton] at hu; rw [hu]; rfl
      case c3 => unfold maxLen; omega
      case c4 => omega
      case c5 => simp; omega
      intro v' w3 own3 hgrow _ hat
      have hx3 : Ext w w3 := own_ext_of (hx.alloc _) (hown.alloc _) hgrow (Nat.le_refl _)
      have st3 : Strs w3 (.slice (some ⟨b1, o1, none⟩) ys.length c') ys := row_grown (hst.ext (show Ext wr (wr.alloc _) from (Ext.refl wr).alloc _)) hgrow hoff
      obtain ⟨an, cn, rfl⟩ := own_any own3
      have HO := Lib.hid own3
      clear own3 hgrow hown hoff hst hat
      go_wp2_with fail
      refine (impl_above _ ys wd _ st3 hfit hb (by exact HT.out.ext (by repeat (first | (with_reducible first | exact Ext.refl _ | assumption | apply Ext.alloc | apply Ext.drew | apply Ext.drewN | refine Ext.setCell ?_ ?_ _ | refine Ext.trans ?_ (by assumption)) | (show _ ≤ _; first | omega | (dsimp only; omega) | (simp; done) | (simp; omega)))))).mono ?_
      rintro e w4 ⟨a4, c4, rfl, o4, x4⟩
      have s4 := o4.strs
      have HOF := Lib.hid (show Off (.slice an (acc.length + 1) cn) (.slice a4 (upL ys wd).length c4) from off_new HO.out o4 (Nat.le_refl _))
      have HO4 := Lib.hid (own_ext HO.out x4)
      clear o4
      go_wp2
      go_roundw
      case rel => exact ⟨n, s / 2, upL ys wd, acc ++ [T], by go_num, HS.out, HU.out, by rw [List.length_append, List.length_singleton]; omega, s4, by rw [List.length_append, List.map_append]; exact HO4.out, HOF.out, by rw [← HH.out, sideT, HX.out, HG.out]; simp, upK_fit _ _ _, (by repeat (first | (with_reducible first | exact Ext.refl _ | assumption | apply Ext.alloc | apply Ext.drew | apply Ext.drewN | refine Ext.setCell ?_ ?_ _ | refine Ext.trans ?_ (by assumption)) | (show _ ≤ _; first | omega | (dsimp only; omega) | (simp; done) | (simp; omega))))⟩
      case measure => exact hlt

set_option maxRecDepth 100000 in
set_option maxHeartbeats 1600000 in
theorem spec_CombineSides (v : Value) (xs : List ByteArray) (sh wd : Int) (w : World) (h : Strs w v xs) (hs : ∀ s ∈ xs, s.size ≤ maxLen) :
    Calls Tryd.prog 77 #[v, .int .i64 sh, .int .i64 wd] w fun e w' => ∃ a c, e = .returned (.tuple #[.slice a (sidesL xs sh wd).length c, .bool (sidesOk xs sh wd)]) ∧ OwnStrs w' w.heap.size (.slice a (sidesL xs sh wd).length c) (sidesL xs sh wd) ∧ Ext w w' := by
  obtain ⟨a, c, rfl⟩ := h.form
  obtain ⟨i0, hi, hz0, hz1, hz2⟩ := info_parts infoString
  have HL := Lib.hid (show (w.alloc (Obj.cells #[] 9)).ownsRow w.heap.size 9 1 (.slice (some ⟨w.heap.size, 0, none⟩) 0 0) 0 [] from World.ownsRow_lit w #[] 0 (Nat.le_refl _) (Nat.zero_le _) rfl)
  cases hk : rootsOk xs wd
  · have R := Lib.hid (show sidesL xs sh wd = [] by rw [sidesL, sidesOk, hk]; rfl)
    have RB := Lib.hid (show sidesOk xs sh wd = false by rw [sidesOk, hk]; rfl)
    have HK := Lib.hid hk
    clear hk
    go_enter Tryd.func77, Tryd.ntmps77
    go_wp2_with (go_at_call 157; refine (spec_l12Roots _ xs _ _ (h.ext (by repeat (first | (with_reducible first | exact Ext.refl _ | assumption | apply Ext.alloc | apply Ext.drew | apply Ext.drewN | refine Ext.setCell ?_ ?_ _ | refine Ext.trans ?_ (by assumption)) | (show _ ≤ _; first | omega | (dsimp only; omega) | (simp; done) | (simp; omega))))) hs).mono ?_; rw [HK.out]; rintro e w' ⟨rfl, rfl⟩)
    go_ret2
    rw [RB.out]
    exact ⟨_, _, ret_slb (by rw [R.out]; rfl) rfl, by rw [R.out]; exact HL.out, (by repeat (first | (with_reducible first | exact Ext.refl _ | assumption | apply Ext.alloc | apply Ext.drew | apply Ext.drewN | refine Ext.setCell ?_ ?_ _ | refine Ext.trans ?_ (by assumption)) | (show _ ≤ _; first | omega | (dsimp only; omega) | (simp; done) | (simp; omega))))⟩
  obtain ⟨hl, hin, hwi⟩ := rootsOk_true hk
  have hmax : xs.length ≤ 4 := by omega
  have hw1 : IntKind.i64.wrap ((xs.length : Int) - 1) = (xs.length : Int) - 1 := IntWalk.i64_in _ (by omega)
  cases hb : inB sh 0 ((xs.length : Int) - 1)
  · have R := Lib.hid (show sidesL xs sh wd = [] by rw [sidesL, sidesOk, hb]; simp)
    have RB := Lib.hid (show sidesOk xs sh wd = false by rw [sidesOk, hb]; simp)
    have HK := Lib.hid hk
    have HI := Lib.hid hb
    clear hk hb hl hin hwi
    go_enter Tryd.func77, Tryd.ntmps77
    go_wp2_with (first | (go_at_call 157; refine (spec_l12Roots _ xs _ _ (h.ext (by repeat (first | (with_reducible first | exact Ext.refl _ | assumption | apply Ext.alloc | apply Ext.drew | apply Ext.drewN | refine Ext.setCell ?_ ?_ _ | refine Ext.trans ?_ (by assumption)) | (show _ ≤ _; first | omega | (dsimp only; omega) | (simp; done) | (simp; omega))))) hs).mono ?_; rw [HK.out]; rintro e w' ⟨rfl, rfl⟩) | (go_at_call 112; refine (spec_l01In _ _ _ _).mono ?_; rw [HI.out]; rintro e w' ⟨rfl, rfl⟩))
    go_ret2
    rw [RB.out]
    exact ⟨_, _, ret_slb (by rw [R.out]; rfl) rfl, by rw [R.out]; exact HL.out, (by repeat (first | (with_reducible first | exact Ext.refl _ | assumption | apply Ext.alloc | apply Ext.drew | apply Ext.drewN | refine Ext.setCell ?_ ?_ _ | refine Ext.trans ?_ (by assumption)) | (show _ ≤ _; first | omega | (dsimp only; omega) | (simp; done) | (simp; omega))))⟩
  have hsh := inB_true.1 hb
  obtain ⟨sn, rfl⟩ := Int.eq_ofNat_of_zero_le hsh.1
  have hfit := wide_fit hin hwi
  have hlv := lvl_le xs.length
  have HP := Lib.hid (lvl_pow hl)
  have hsn : sn < xs.length := by omega
  have R := Lib.hid (show sidesL xs (sn : Int) wd = sideT wd (lvl xs.length) sn xs by rw [sidesL, if_pos (by rw [sidesOk, hk, hb]; rfl), Int.toNat_natCast])
  have RB := Lib.hid (show sidesOk xs (sn : Int) wd = true by rw [sidesOk, hk, hb]; rfl)
  have HK := Lib.hid hk
  have HI := Lib.hid hb
  clear hk hb hin hwi hsh
  rw [RB.out]
  have hpos : 0 < xs.length := by omega
  obtain ⟨b1, o1, rfl, hb1, -⟩ := strs_first h hpos
  have hce := strs_cells (h.ext (show Ext w ((w.alloc (Obj.cells #[] 9)).alloc (Obj.cells #[] 9)) from (by repeat (first | (with_reducible first | exact Ext.refl _ | assumption | apply Ext.alloc | apply Ext.drew | apply Ext.drewN | refine Ext.setCell ?_ ?_ _ | refine Ext.trans ?_ (by assumption)) | (show _ ≤ _; first | omega | (dsimp only; omega) | (simp; done) | (simp; omega)))))) hpos
  have HL2 := Lib.hid (show ((w.alloc (Obj.cells #[] 9)).alloc (Obj.cells #[] 9)).ownsRow (w.heap.size + 1) 9 1 (.slice (some ⟨w.heap.size + 1, 0, none⟩) 0 0) 0 [] from by
    have := World.ownsRow_lit (w.alloc (Obj.cells #[] 9)) #[] (e := 9) (size := 1) 0 (Nat.le_refl _) (Nat.zero_le _) rfl
    rwa [World.size_alloc] at this)
  go_enter Tryd.func77, Tryd.ntmps77
  go_wp2_with (first | (go_at_call 157; refine (spec_l12Roots _ xs _ _ (h.ext (by repeat (first | (with_reducible first | exact Ext.refl _ | assumption | apply Ext.alloc | apply Ext.drew | apply Ext.drewN | refine Ext.setCell ?_ ?_ _ | refine Ext.trans ?_ (by assumption)) | (show _ ≤ _; first | omega | (dsimp only; omega) | (simp; done) | (simp; omega))))) hs).mono ?_; rw [HK.out]; rintro e w' ⟨rfl, rfl⟩) | (go_at_call 112; refine (spec_l01In _ _ _ _).mono ?_; rw [HI.out]; rintro e w' ⟨rfl, rfl⟩) | (at_builtin; refine wpList_append_own _ rfl (.tmp 24) (.tmp 25) 22 rfl (w.heap.size + 1) 9 i0 (.string ⟨#[]⟩) 1 16 Tryd.underlying22 hi hz0 hz1 hz2 rfl (by decide) _ _ _ rfl HL2.out ⟨b1, o1, none⟩ xs.length c (xs.map Value.string) rfl (by simp) hce ?c2 ?c3 ?c4 ?c5 ?_))
  case c2 => intro u hu; rw [List.mem_map] at hu; obtain ⟨t, -, rfl⟩ := hu; rfl
  case c3 => unfold maxLen; omega
  case c4 => omega
  case c5 => simp
  intro v' w3 own3 hgrow _
  have hx3 : Ext w w3 := own_ext_of (((Ext.refl w).alloc _).alloc _) HL2.out hgrow (by omega)
  have ow : w3.ownsRow w.heap.size 9 1 (.slice (some ⟨w.heap.size, 0, none⟩) 0 0) 0 [] := own_grown2 (own_alloc HL.out _) hgrow (fun k hk hr => by
    have h1 := (own_lt HL2.out k hk).1
    have h2 : w.heap.size = k := Option.some.inj hr
    omega)
  have o3 : OwnStrs w3 (w.heap.size + 1) v' xs := by simpa [OwnStrs] using own3
  have s3 := o3.strs
  have HOF := Lib.hid (show Off (.slice (some ⟨w.heap.size, 0, none⟩) 0 0) v' from fun g hg hr => by
    have h1 := (own_lt o3 g hr).1
    have h2 : w.heap.size = g := Option.some.inj hg
    omega)
  have HOW := Lib.hid ow
  clear own3 o3 hgrow hce ow
  obtain ⟨a3, c3, rfl⟩ := s3.form
  go_wp2
  go_loopw [1, 8, 9] (fun sv ov lv wr => ∃ (n s : Nat) (ys acc : List ByteArray), sv = .int .i64 (s : Nat) ∧ s < 2 ^ n ∧ ys.length = 2 ^ n ∧ acc.length + n ≤ 2 ∧ Strs wr lv ys ∧ wr.ownsRow w.heap.size 9 1 ov acc.length (acc.map Value.string) ∧ Off ov lv ∧ acc ++ sideT wd n s ys = sideT wd (lvl xs.length) sn xs ∧ (∀ s ∈ ys, s.size ≤ 32) ∧ Ext w wr) (fun _ _ lv _ => lenOf lv)
  case atStart =>
    exact ⟨lvl xs.length, sn, xs, [], rfl, by rw [← HP.out]; exact hsn, HP.out, by simpa using hlv, s3, HOW.out, HOF.out, rfl, hfit, hx3⟩
  case round =>
    obtain ⟨n, s, ys, acc, rfl, hs2, hyl, hac, hst, hown, hoff, htop, hfit, hx⟩ := hrel
    obtain ⟨a', c', rfl⟩ := hst.form
    obtain ⟨ao, co, rfl⟩ := own_any hown
    have hsz := hx.size
    cases n with
    | zero =>
      have hy1 : ys.length = 1 := hyl
      have hgt : ¬ ((1 : Int) < ys.length) := by omega
      have HH := Lib.hid (show acc = sidesL xs (sn : Int) wd by rw [R.out, ← htop]; simp [sideT])
      have HO := Lib.hid hown
      have HA := Lib.hid hac
      clear htop hown hoff hyl hy1 hs2 hac
      go_wp2
      go_ret2
      refine ⟨ao, co, ret_slb (by rw [HH.out]) rfl, ?_, hx⟩
      rw [← HH.out]
      exact HO.out
    | succ n =>
      have hp : 0 < 2 ^ n := Nat.pow_pos (by decide)
      have hp2 : 2 ^ n ≤ 2 ^ 1 := Nat.pow_le_pow_right (by decide) (by omega)
      rw [Nat.pow_succ] at hyl hs2
      have hgt : (1 : Int) < ys.length := by omega
      have hul : (upL ys wd).length = 2 ^ n := by rw [upL_length]; omega
      have hb : ys.length ≤ 1000 := by omega
      have hs3 : s ≤ 3 := by omega
      have hxor := beside_bits hs3
      have htl : besideN s < ys.length := by rw [hyl]; exact beside_lt hs2
      have hlt : (upL ys wd).length < ys.length := by omega
      have HU := Lib.hid hul
      have HH := Lib.hid htop
      have HS := Lib.hid (show s / 2 < 2 ^ n by omega)
      obtain ⟨b1, o1, rfl, hb1, e1⟩ := strs_at hst (besideN s) htl
      generalize hT : ys.getD (besideN s) ⟨#[]⟩ = T at *
      have HG := Lib.hid hT
      generalize hX : besideN s = x at *
      have HX := Lib.hid hX
      have j1 : (0 : Int) ≤ (x : Int) := by omega
      have j2 : (x : Int) < ys.length := by omega
      have jq := half_bits hs3
      have jw : IntKind.i64.wrap (((s / 2 : Nat) : Int)) = ((s / 2 : Nat) : Int) := IntWalk.i64_in _ (by omega)
      have hal : acc.length ≤ 2 := by omega
      clear htop hul hyl hp hp2 hs2 hT hX
      go_wp2_with (at_builtin; refine wpList_append_own_at _ rfl (.tmp 30) (.tmp 36) 22 rfl w.heap.size 9 i0 (.string ⟨#[]⟩) 1 16 Tryd.underlying22 hi hz0 hz1 hz2 rfl (by decide) _ _ _ rfl (hown.alloc _) ⟨wr.heap.size, 0, none⟩ 1 1 [.string T] rfl rfl ?c1 ?c2 ?c3 ?c4 ?c5 ?_)
      case c1 => exact World.news_of_block (heap_alloc_new wr (Obj.cells #[Value.string T] 9))
      case c2 => intro u hu; rw [List.mem_singleton] at hu; rw [hu]; rfl
      case c3 => unfold maxLen; omega
      case c4 => omega
      case c5 => simp; omega
      intro v' w3 own3 hgrow _ hat
      have hx3 : Ext w w3 := own_ext_of (hx.alloc _) (hown.alloc _) hgrow (Nat.le_refl _)
      have st3 : Strs w3 (.slice (some ⟨b1, o1, none⟩) ys.length c') ys := row_grown (hst.ext (show Ext wr (wr.alloc _) from (Ext.refl wr).alloc _)) hgrow hoff
      obtain ⟨an, cn, rfl⟩ := own_any own3
      have HO := Lib.hid own3
      clear own3 hgrow hown hoff hst hat
      go_wp2_with fail
      refine (spec_l12Up _ ys wd _ st3 hfit hb).mono ?_
      rintro e w4 ⟨a4, c4, rfl, o4, x4⟩
      have s4 := o4.strs
      have HOF := Lib.hid (show Off (.slice an (acc.length + 1) cn) (.slice a4 (upL ys wd).length c4) from off_new HO.out o4 (Nat.le_refl _))
      have HO4 := Lib.hid (own_ext HO.out x4)
      clear o4
      go_wp2
      go_roundw
      case rel => exact ⟨n, s / 2, upL ys wd, acc ++ [T], by go_num, HS.out, HU.out, by rw [List.length_append, List.length_singleton]; omega, s4, by rw [List.length_append, List.map_append]; exact HO4.out, HOF.out, by rw [← HH.out, sideT, HX.out, HG.out]; simp, upK_fit _ _ _, (by repeat (first | (with_reducible first | exact Ext.refl _ | assumption | apply Ext.alloc | apply Ext.drew | apply Ext.drewN | refine Ext.setCell ?_ ?_ _ | refine Ext.trans ?_ (by assumption)) | (show _ ≤ _; first | omega | (dsimp only; omega) | (simp; done) | (simp; omega))))⟩
      case measure => exact hlt

end Go.Proofs.YtliebkhfddmhjaaDoor
