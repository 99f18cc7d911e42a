/- The hashes beside a place: the program. -/
import Derived.Test.YtagkcgbggeajkaaDoorNHash
namespace Go.Proofs.YtagkcgbggeajkaaDoor
open Go.RowKit

def bsdN (s : Nat) : Nat := if s % 2 = 0 then s + 1 else s - 1
theorem bsd_lt {s p : Nat} (h : s < p * 2) : bsdN s < p * 2 := by unfold bsdN; split <;> omega
theorem bsd_all : ∀ s : Fin 256, bits .xor .i64 ((s.val : Nat) : Int) 1 = (bsdN s.val : Int) := by decide +kernel
/-- the place beside that of an index, j levels above the buckets -/
def besT (i : Int) (j : Nat) : Int := bits .xor .i64 (i / 2 ^ j) 1
theorem besT_bd {i : Int} {j : Nat} (hi : 0 ≤ i ∧ i ≤ 255) (hj : j < 8) : 0 ≤ besT i j ∧ besT i j < 2 ^ (8 - j) := by
  obtain ⟨m, rfl⟩ := Int.eq_ofNat_of_zero_le hi.1
  have e : ((m : Int) / 2 ^ j) = ((m / 2 ^ j : Nat) : Int) := by push_cast; rfl
  have h1 : m / 2 ^ j < 2 ^ (8 - j) := by
    rw [Nat.div_lt_iff_lt_mul (Nat.pow_pos (by decide)), ← Nat.pow_add, show 8 - j + j = 8 by omega]
    have : (2 : Nat) ^ 8 = 256 := by decide
    omega
  have h2 : m / 2 ^ j < 256 := Nat.lt_of_le_of_lt (Nat.div_le_self _ _) (by omega)
  have hb := bsd_all ⟨m / 2 ^ j, h2⟩
  dsimp only at hb
  rw [besT, e, hb]
  have h3 : bsdN (m / 2 ^ j) < 2 ^ (8 - j) := by
    rw [show 8 - j = (7 - j) + 1 by omega, Nat.pow_succ] at h1 ⊢
    exact bsd_lt h1
  have h4 : ((2 ^ (8 - j) : Nat) : Int) = 2 ^ (8 - j) := by push_cast; rfl
  omega
/-- the first n hashes beside -/
def sdL (xs : List Leaf) (i wd : Int) (n : Nat) : List ByteArray := (List.range n).map fun j => nodeT xs wd j (besT i j)
theorem sdL_len (xs : List Leaf) (i wd : Int) (n : Nat) : (sdL xs i wd n).length = n := by simp [sdL]
theorem sdL_succ (xs : List Leaf) (i wd : Int) (n : Nat) : sdL xs i wd (n + 1) = sdL xs i wd n ++ [nodeT xs wd n (besT i n)] := by simp [sdL, List.range_succ]
def sdOk (xs : List Leaf) (i l wd : Int) : Bool := leavesOk xs && (inB i 0 255 && (inB l 0 8 && inB wd 1 32))
def sdF (xs : List Leaf) (i l wd : Int) : List ByteArray := if sdOk xs i l wd = true then sdL xs i wd (8 - l).toNat else []
theorem sdF_no1 {xs : List Leaf} {i l wd : Int} (h : leavesOk xs = false) : sdF xs i l wd = [] := by rw [sdF, sdOk, h]; rfl
theorem sdF_no2 {xs : List Leaf} {i l wd : Int} (h : inB i 0 255 = false) : sdF xs i l wd = [] := by rw [sdF, sdOk, h]; simp
theorem sdF_no3 {xs : List Leaf} {i l wd : Int} (h : inB l 0 8 = false) : sdF xs i l wd = [] := by rw [sdF, sdOk, h]; simp
theorem sdF_no4 {xs : List Leaf} {i l wd : Int} (h : inB wd 1 32 = false) : sdF xs i l wd = [] := by rw [sdF, sdOk, h]; simp
theorem sdF_yes {xs : List Leaf} {i l wd : Int} (h1 : leavesOk xs = true) (h2 : inB i 0 255 = true) (h3 : inB l 0 8 = true) (h4 : inB wd 1 32 = true) : sdF xs i l wd = sdL xs i wd (8 - l).toNat := by
  rw [sdF, sdOk, h1, h2, h3, h4]; rfl
theorem sdF_len (xs : List Leaf) (i l wd : Int) : (sdF xs i l wd).length ≤ 8 := by
  unfold sdF
  split
  · rename_i h
    simp only [sdOk, Bool.and_eq_true] at h
    have := inB_true.1 h.2.2.1
    rw [sdL_len]
    omega
  · exact Nat.zero_le _

set_option maxRecDepth 100000 in
set_option maxHeartbeats 3200000 in
theorem impl_sides (xs : List Leaf) (wd i : Int) (k : Nat) (v u : Value) (w : World) (hok : leavesOk xs = true) (hi : 0 ≤ i ∧ i ≤ 255) (hk : k ≤ 8) (h : Lvs w v xs) (hu : Row w 1 u xs.length (idxV xs xs.length)) (hT : Tabs w) :
    Calls Tryd.prog 69 #[.agg #[v, u, .int .i64 wd], .int .i64 i, .int .i64 k] w fun e w' => ∃ a c, e = .returned (.slice a (8 - k) c) ∧ OwnStrs w' w.heap.size (.slice a (8 - k) c) (sdL xs i wd (8 - k)) ∧ Ext w w' := by
  obtain ⟨i0, hi0, hz0, hz1, hz2⟩ := info_parts infoString
  obtain ⟨a1, c1, rfl⟩ := h.form
  obtain ⟨-, a2, c2, hv, -⟩ := id hu
  subst hv
  obtain ⟨hia, hib⟩ := hi
  have HT := Lib.hid hT
  clear hT
  go_enter Tryd.func69, Tryd.ntmps69
  go_wp2
  have q0 : (w.alloc (Obj.cells #[.slice a1 xs.length c1, .slice a2 xs.length c2, .int .i64 wd] 87)).cell? ⟨w.heap.size, 0, none⟩ = some (.slice a1 xs.length c1) := by simp [go_sem]
  have q1 : (w.alloc (Obj.cells #[.slice a1 xs.length c1, .slice a2 xs.length c2, .int .i64 wd] 87)).cell? ⟨w.heap.size, 1, none⟩ = some (.slice a2 xs.length c2) := by simp [go_sem]
  have q2 : (w.alloc (Obj.cells #[.slice a1 xs.length c1, .slice a2 xs.length c2, .int .i64 wd] 87)).cell? ⟨w.heap.size, 2, none⟩ = some (.int .i64 wd) := by simp [go_sem]
  have x0 : Ext w (w.alloc (Obj.cells #[.slice a1 xs.length c1, .slice a2 xs.length c2, .int .i64 wd] 87)) := (Ext.refl w).alloc _
  have l0 : w.heap.size + 1 = (w.alloc (Obj.cells #[.slice a1 xs.length c1, .slice a2 xs.length c2, .int .i64 wd] 87)).heap.size := by rw [World.size_alloc]
  generalize w.alloc (Obj.cells #[.slice a1 xs.length c1, .slice a2 xs.length c2, .int .i64 wd] 87) = W0 at *
  have lW : w.heap.size < W0.heap.size := by omega
  go_loopw [7, 8] (fun v i' wr => ∃ (j : Nat) (l : Int), j ≤ 8 - k ∧ l = 8 - (j : Int) ∧ i' = .int .i64 l ∧ wr.ownsRow W0.heap.size 9 1 v j ((sdL xs i wd j).map Value.string) ∧ Ext W0 wr) (fun _ i' _ => (intOf i').toNat)
  case atStart => exact ⟨0, 8, Nat.zero_le _, rfl, rfl, World.ownsRow_nil _ _ _ _, (by repeat (first | (with_reducible first | exact Ext.refl _ | assumption | apply Ext.alloc | apply Ext.drew | apply Ext.drewN | refine Ext.setCell ?_ ?_ _ | refine Ext.trans ?_ (by assumption)) | (show _ ≤ _; first | omega | (dsimp only; omega) | (simp; done) | (simp; omega))))⟩
  case round =>
    obtain ⟨j, l, hj, hl, rfl, hown, hx⟩ := hrel
    obtain ⟨a, c, rfl⟩ := own_any hown
    have hsz := hx.size
    have xw : Ext w wr := x0.trans hx
    have lr : w.heap.size < wr.heap.size := by omega
    have r0 := (hx.cell _ _ lW).trans q0
    have r1 := (hx.cell _ _ lW).trans q1
    have r2 := (hx.cell _ _ lW).trans q2
    have HL := Lib.hid hl
    have hl0 : 0 ≤ l := by omega
    have hl8 : l ≤ 8 := by omega
    by_cases hlt : j < 8 - k
    · have hgt : (k : Int) < l := by omega
      have hsub : IntKind.i64.wrap (8 - l) = (j : Int) := by rw [IntWalk.i64_in _ (by omega)]; omega
      have hdec : IntKind.i64.wrap (l - 1) = l - 1 := IntWalk.i64_in _ (by omega)
      have HB := Lib.hid (besT_bd ⟨hia, hib⟩ (show j < 8 by omega))
      have HU := Lib.hid (sdL_succ xs i wd j)
      have HO := Lib.hid hown
      have hnl := nodeT_le xs wd j (besT i j)
      clear hl hown
      go_wp2_with fail
      go_region_held3 (fun W => W.cell? ⟨w.heap.size, 0, none⟩ = some (.slice a1 xs.length c1) ∧ W.cell? ⟨w.heap.size, 1, none⟩ = some (.slice a2 xs.length c2) ∧ W.cell? ⟨w.heap.size, 2, none⟩ = some (.int .i64 wd)) (first | exact ⟨r0, r1, r2⟩ | exact ⟨(ya.cell _ _ lr).trans r0, (ya.cell _ _ lr).trans r1, (ya.cell _ _ lr).trans r2⟩ | exact ⟨cell_new1 ((ya.cell _ _ lr).trans r0) la, cell_new1 ((ya.cell _ _ lr).trans r1) la, cell_new1 ((ya.cell _ _ lr).trans r2) la⟩ | exact ⟨(y9.cell _ _ lW).trans q0, (y9.cell _ _ lW).trans q1, (y9.cell _ _ lW).trans q2⟩) (first | (go_at_call 66; refine (impl_node xs wd hok j l (besT i j) _ _ _ HL.out (by omega) HB.out (h.ext (by repeat (first | (with_reducible first | exact Ext.refl _ | assumption | apply Ext.alloc | apply Ext.drew | apply Ext.drewN | refine Ext.setCell ?_ ?_ _ | refine Ext.trans ?_ (by assumption)) | (show _ ≤ _; first | omega | (dsimp only; omega) | (simp; done) | (simp; omega))))) (Row.ext hu (by repeat (first | (with_reducible first | exact Ext.refl _ | assumption | apply Ext.alloc | apply Ext.drew | apply Ext.drewN | refine Ext.setCell ?_ ?_ _ | refine Ext.trans ?_ (by assumption)) | (show _ ≤ _; first | omega | (dsimp only; omega) | (simp; done) | (simp; omega))))) (by exact HT.out.ext (by repeat (first | (with_reducible first | exact Ext.refl _ | assumption | apply Ext.alloc | apply Ext.drew | apply Ext.drewN | refine Ext.setCell ?_ ?_ _ | refine Ext.trans ?_ (by assumption)) | (show _ ≤ _; first | omega | (dsimp only; omega) | (simp; done) | (simp; omega)))))).mono ?_; rintro e wa ⟨rfl, xa⟩; have ya : Ext wr wa := (by repeat (first | (with_reducible first | exact Ext.refl _ | assumption | apply Ext.alloc | apply Ext.drew | apply Ext.drewN | refine Ext.setCell ?_ ?_ _ | refine Ext.trans ?_ (by assumption)) | (show _ ≤ _; first | omega | (dsimp only; omega) | (simp; done) | (simp; omega)))); have la := Nat.lt_of_lt_of_le lr ya.size; have za := ya.size) | (refine step_append_lies _ rfl (.tmp 14) (.tmp 23) 44 (by rfl) W0.heap.size 9 i0 (.string ⟨#[]⟩) 1 16 Tryd.underlying44 hi0 hz0 hz1 hz2 rfl (by decide) _ _ _ (by rfl) (own_alloc (own_ext HO.out ya) _) ⟨wa.heap.size, 0, none⟩ 1 1 [.string (nodeT xs wd j (besT i j))] (by rfl) rfl (World.news_of_block (heap_alloc_new wa (Obj.cells #[Value.string (nodeT xs wd j (besT i j))] 9))) (by intro u hu; simp at hu; rcases hu with rfl; rfl) (by decide) (by unfold maxLen; omega) (by omega) (by simp; omega) _ rfl ?_; intro g cap w9 hown9 hgrow _ _; have y9 : Ext W0 w9 := own_ext_of ((hx.trans ya).alloc _) (own_alloc (own_ext HO.out ya) _) hgrow (Nat.le_refl _); have HO9 := Lib.hid hown9; clear hown9 hgrow))
      all_goals
        go_wp2
        go_roundw
        case rel => exact ⟨j + 1, l - 1, by omega, by have := HL.out; omega, by go_num, by rw [HU.out, List.map_append]; exact HO9.out, y9⟩
        case measure => simp [intOf]; omega
    · obtain rfl : j = 8 - k := by omega
      have hgt : ¬ (k : Int) < l := by omega
      have HO := Lib.hid hown
      clear hown hl
      go_wp2
      go_ret
      refine ⟨a, c, rfl, ?_, (by repeat (first | (with_reducible first | exact Ext.refl _ | assumption | apply Ext.alloc | apply Ext.drew | apply Ext.drewN | refine Ext.setCell ?_ ?_ _ | refine Ext.trans ?_ (by assumption)) | (show _ ≤ _; first | omega | (dsimp only; omega) | (simp; done) | (simp; omega))))⟩
      unfold OwnStrs
      rw [sdL_len]
      exact own_mono HO.out (by omega)
end Go.Proofs.YtagkcgbggeajkaaDoor
