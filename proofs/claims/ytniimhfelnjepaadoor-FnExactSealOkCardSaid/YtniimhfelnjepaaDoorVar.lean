/- Numbers as texts of bytes. -/
import Derived.Test.YtniimhfelnjepaaDoorStrs
import Derived.Test.YtniimhfelnjepaaDoorConv
namespace Go.Proofs.YtniimhfelnjepaaDoor
open Go.RowKit

def varL (n : Nat) : List Int := if 127 < n then (128 + (n : Int) % 128) :: varL (n / 128) else [(n : Int)]
termination_by n
theorem varL_more {n : Nat} (h : 127 < n) : varL n = (128 + (n : Int) % 128) :: varL (n / 128) := by rw [varL, if_pos h]
theorem varL_last {n : Nat} (h : ¬ 127 < n) : varL n = [(n : Int)] := by rw [varL, if_neg h]
theorem varL_le (n : Nat) : (varL n).length ≤ n + 1 := by
  induction n using Nat.strongRecOn with
  | ind n ih =>
    rw [varL]
    split
    · have := ih (n / 128) (by omega)
      simp only [List.length_cons]
      omega
    · simp
/-- a number's text -/
def varT (n : Nat) : ByteArray := strOfNums (varL n)
theorem varT_size (n : Nat) : (varT n).size ≤ n + 1 := by rw [varT, strOfNums_size]; exact varL_le n

theorem infoByte : (Tryd.prog.info? 5).map (fun i => (i.zero, i.size, i.bytes)) = some (some (.int .u8 0), 1, 1) := by kernel_rfl

theorem own_form {w : World} {base : Nat} {e : TypeId} {size n : Nat} {v : Value} {xs : List Value} (h : w.ownsRow base e size v n xs) (hn : 0 < n) : ∃ g cap, v = .slice (some ⟨g, 0, none⟩) n cap := by
  rcases h.2 with ⟨-, h0⟩ | ⟨g, cap, cur, hv, -⟩
  · omega
  · exact ⟨g, cap, hv⟩
theorem own_any {w : World} {base : Nat} {e : TypeId} {size n : Nat} {v : Value} {xs : List Value} (h : w.ownsRow base e size v n xs) : ∃ a cap, v = .slice a n cap := by
  rcases h.2 with ⟨rfl, rfl⟩ | ⟨g, cap, cur, rfl, -⟩
  · exact ⟨none, 0, rfl⟩
  · exact ⟨_, cap, rfl⟩
theorem conv_own {w : World} {base g cap n : Nat} {ys : List Int} (h : w.ownsRow base 5 1 (.slice (some ⟨g, 0, none⟩) n cap) n (ys.map (Value.int .u8))) :
    (convert 55 9 (.slice (some ⟨g, 0, none⟩) n cap)).run Tryd.prog w = .ok (.string (strOfNums ys)) w := by
  have hl : ys.length = n := by simpa using h.1
  refine run_convert_bytes_arg _ _ _ Tryd.underlying55 Tryd.underlying5 _ 0 _ _ ys hl (fun i hi => ?_) _ Tryd.underlying9
  rw [show (0 : Nat) + i = i by omega, h.cellAt i (by omega)]
  simp [List.getD, show i < ys.length by omega]
theorem own_ext_of {w0 w w' : World} {base : Nat} {e : TypeId} {size n : Nat} {v : Value} {xs : List Value} (hx : Ext w0 w) (hown : w.ownsRow base e size v n xs) (hg : w.grownBy w' v.ownBlock) (hb : w0.heap.size ≤ base) : Ext w0 w' :=
  hx.grown hg (fun k hk => Nat.le_trans hb (hown.lt k hk).1)

set_option maxRecDepth 100000 in
set_option maxHeartbeats 800000 in
theorem impl_varText (n : Nat) (w : World) (hn : n ≤ 1099511627776) :
    Calls Tryd.prog 112 #[.int .i64 n] w fun e w' => e = .returned (.string (varT n)) ∧ Ext w w' := by
  obtain ⟨i0, hi, hz0, hz1, hz2⟩ := info_parts infoByte
  go_enter Tryd.func112, Tryd.ntmps112
  go_wp2
  go_loopw [0, 3] (fun c v wr => ∃ (m : Nat) (ys : List Int), c = .int .i64 m ∧ wr.ownsRow w.heap.size 5 1 v ys.length (ys.map (Value.int .u8)) ∧ varL n = ys ++ varL m ∧ ys.length + m ≤ n ∧ Ext w wr) (fun c _ _ => (intOf c).toNat)
  case atStart => exact ⟨n, [], rfl, World.ownsRow_nil _ _ _ _, rfl, by simp, Ext.refl _⟩
  case round =>
    obtain ⟨m, ys, rfl, hown, hv, hle, hx⟩ := hrel
    have HV := Lib.hid hv
    obtain ⟨a, c, rfl⟩ := own_any hown
    have hsz := hx.size
    clear hv
    by_cases hm : 127 < m
    · go_wp2_with (at_builtin; refine wpList_append_own _ rfl (.tmp 6) (.tmp 11) 55 rfl w.heap.size 5 i0 (.int .u8 0) 1 1 Tryd.underlying55 hi hz0 hz1 hz2 rfl (by decide) _ _ _ rfl (hown.alloc _) ⟨wr.heap.size, 0, none⟩ 1 1 [.int .u8 (128 + (m : Int) % 128)] rfl rfl ?c1 ?c2 ?c3 ?c4 ?c5 ?_)
      case c1 =>
        intro j u hj
        match j, hj with
        | 0, hj => simp at hj; subst hj; simp [Addr.add]
      case c2 => intro u hu; simp at hu; subst hu; rfl
      case c3 => unfold maxLen; omega
      case c4 => omega
      case c5 => simp; omega
      intro v' w1 hown' hgrow _
      have hx1 : Ext w w1 := own_ext_of (hx.alloc _) (hown.alloc _) hgrow (Nat.le_refl _)
      obtain ⟨a', c', rfl⟩ := own_any hown'
      have HO := Lib.hid hown'
      clear hown' hgrow hown
      go_wp2
      go_roundw
      case rel => exact ⟨m / 128, ys ++ [128 + (m : Int) % 128], by go_num, by simpa using HO.out, by rw [HV.out, varL_more hm]; simp, by simp; omega, hx1⟩
      case measure => simp [intOf]; omega
    · go_wp2_with (at_builtin; refine wpList_append_own _ rfl (.tmp 15) (.tmp 18) 55 rfl w.heap.size 5 i0 (.int .u8 0) 1 1 Tryd.underlying55 hi hz0 hz1 hz2 rfl (by decide) _ _ _ rfl (hown.alloc _) ⟨wr.heap.size, 0, none⟩ 1 1 [.int .u8 (m : Int)] rfl rfl ?c1 ?c2 ?c3 ?c4 ?c5 ?_)
      case c1 =>
        intro j u hj
        match j, hj with
        | 0, hj => simp at hj; subst hj; simp [Addr.add]
      case c2 => intro u hu; simp at hu; subst hu; rfl
      case c3 => unfold maxLen; omega
      case c4 => omega
      case c5 => simp; omega
      intro v' w1 hown' hgrow _
      obtain ⟨g, cap, rfl⟩ := own_form hown' (by omega)
      have hx1 : Ext w w1 := own_ext_of (hx.alloc _) (hown.alloc _) hgrow (Nat.le_refl _)
      have hl : ys.map (Value.int .u8) ++ [Value.int .u8 (m : Int)] = (ys ++ [(m : Int)]).map (Value.int .u8) := by simp
      rw [hl] at hown'
      have hcv := conv_own hown'
      clear hown' hown hgrow hl
      go_wp2
      go_ret
      exact ⟨ret_str (by rw [varT, HV.out, varL_last hm]), hx1⟩
set_option maxRecDepth 100000 in
set_option maxHeartbeats 800000 in
theorem spec_l01Var (n : Nat) (w : World) (hn : n ≤ 1099511627776) :
    Calls Tryd.prog 100 #[.int .i64 n] w fun e w' => e = .returned (.string (varT n)) ∧ Ext w w' := by
  obtain ⟨i0, hi, hz0, hz1, hz2⟩ := info_parts infoByte
  go_enter Tryd.func100, Tryd.ntmps100
  go_wp2
  go_loopw [0, 3] (fun c v wr => ∃ (m : Nat) (ys : List Int), c = .int .i64 m ∧ wr.ownsRow w.heap.size 5 1 v ys.length (ys.map (Value.int .u8)) ∧ varL n = ys ++ varL m ∧ ys.length + m ≤ n ∧ Ext w wr) (fun c _ _ => (intOf c).toNat)
  case atStart => exact ⟨n, [], rfl, World.ownsRow_lit w #[] 0 (Nat.le_refl _) (Nat.zero_le _) rfl, rfl, by simp, (by repeat (first | (with_reducible first | exact Ext.refl _ | assumption | apply Ext.alloc | apply Ext.drew | apply Ext.drewN | refine Ext.setCell ?_ ?_ _ | refine Ext.trans ?_ (by assumption)) | (show _ ≤ _; first | omega | (dsimp only; omega) | (simp; done) | (simp; omega))))⟩
  case round =>
    obtain ⟨m, ys, rfl, hown, hv, hle, hx⟩ := hrel
    have HV := Lib.hid hv
    obtain ⟨a, c, rfl⟩ := own_any hown
    have hsz := hx.size
    clear hv
    by_cases hm : 127 < m
    · go_wp2_with (at_builtin; refine wpList_append_own _ rfl (.tmp 7) (.tmp 12) 55 rfl w.heap.size 5 i0 (.int .u8 0) 1 1 Tryd.underlying55 hi hz0 hz1 hz2 rfl (by decide) _ _ _ rfl (hown.alloc _) ⟨wr.heap.size, 0, none⟩ 1 1 [.int .u8 ((m : Int) % 128 + 128)] rfl rfl ?c1 ?c2 ?c3 ?c4 ?c5 ?_)
      case c1 =>
        intro j u hj
        match j, hj with
        | 0, hj => simp at hj; subst hj; simp [Addr.add]
      case c2 => intro u hu; simp at hu; subst hu; rfl
      case c3 => unfold maxLen; omega
      case c4 => omega
      case c5 => simp; omega
      intro v' w1 hown' hgrow _
      have hx1 : Ext w w1 := own_ext_of (hx.alloc _) (hown.alloc _) hgrow (Nat.le_refl _)
      obtain ⟨a', c', rfl⟩ := own_any hown'
      have HO := Lib.hid hown'
      clear hown' hgrow hown
      go_wp2
      go_roundw
      case rel => exact ⟨m / 128, ys ++ [(m : Int) % 128 + 128], by go_num, by simpa using HO.out, by rw [HV.out, varL_more hm]; simp; omega, by simp; omega, hx1⟩
      case measure => simp [intOf]; omega
    · go_wp2_with (at_builtin; refine wpList_append_own _ rfl (.tmp 16) (.tmp 19) 55 rfl w.heap.size 5 i0 (.int .u8 0) 1 1 Tryd.underlying55 hi hz0 hz1 hz2 rfl (by decide) _ _ _ rfl (hown.alloc _) ⟨wr.heap.size, 0, none⟩ 1 1 [.int .u8 (m : Int)] rfl rfl ?c1 ?c2 ?c3 ?c4 ?c5 ?_)
      case c1 =>
        intro j u hj
        match j, hj with
        | 0, hj => simp at hj; subst hj; simp [Addr.add]
      case c2 => intro u hu; simp at hu; subst hu; rfl
      case c3 => unfold maxLen; omega
      case c4 => omega
      case c5 => simp; omega
      intro v' w1 hown' hgrow _
      obtain ⟨g, cap, rfl⟩ := own_form hown' (by omega)
      have hx1 : Ext w w1 := own_ext_of (hx.alloc _) (hown.alloc _) hgrow (Nat.le_refl _)
      have hl : ys.map (Value.int .u8) ++ [Value.int .u8 (m : Int)] = (ys ++ [(m : Int)]).map (Value.int .u8) := by simp
      rw [hl] at hown'
      have hcv := conv_own hown'
      clear hown' hown hgrow hl
      go_wp2
      go_ret
      exact ⟨ret_str (by rw [varT, HV.out, varL_last hm]), hx1⟩

theorem impl_shortText (s : ByteArray) (w : World) (hs : s.size ≤ 1099511627776) :
    Calls Tryd.prog 103 #[.string s] w fun e w' => e = .returned (.string (varT s.size ++ s)) ∧ Ext w w' := by
  have hz := varT_size s.size
  go_enter Tryd.func103, Tryd.ntmps103
  go_wp2_with (go_at_call 112; refine (impl_varText _ _ hs).mono ?_; rintro e w1 ⟨rfl, x1⟩)
  go_ret
  exact ⟨rfl, (by repeat (first | (with_reducible first | exact Ext.refl _ | assumption | apply Ext.alloc | apply Ext.drew | apply Ext.drewN | refine Ext.setCell ?_ ?_ _ | refine Ext.trans ?_ (by assumption)) | (show _ ≤ _; first | omega | (dsimp only; omega) | (simp; done) | (simp; omega))))⟩
end Go.Proofs.YtniimhfelnjepaaDoor
