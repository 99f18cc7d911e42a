/- Roots combined. -/
import Derived.Test.YtbgkeoidhfgmcaaDoorHash
import Derived.Test.YtbgkeoidhfgmcaaDoorLits
import Derived.Deep.RegionHeld3
import Derived.Deep.AppendLies
import Derived.Laws.AppendOwnNone
namespace Go.Proofs.YtbgkeoidhfgmcaaDoor
open Go.RowKit

/-- how many roots there may be -/
def cntOk (n : Nat) : Bool := (decide (n = 1) || decide (n = 2)) || decide (n = 4)
def rootsOk (xs : List ByteArray) (wd : Int) : Bool := cntOk xs.length && (inB wd 1 32 && wide xs wd)
theorem cnt_cases (n : Nat) : (cntOk n = true ∧ n = 1) ∨ (cntOk n = true ∧ n = 2) ∨ (cntOk n = true ∧ n = 4) ∨ (cntOk n = false ∧ n ≠ 1 ∧ n ≠ 2 ∧ n ≠ 4) := by
  unfold cntOk
  by_cases h1 : n = 1
  · subst h1; simp
  · by_cases h2 : n = 2
    · subst h2; simp
    · by_cases h4 : n = 4
      · subst h4; simp
      · simp [h1, h2, h4]
theorem rootsOk_true {xs : List ByteArray} {wd : Int} (h : rootsOk xs wd = true) : (xs.length = 1 ∨ xs.length = 2 ∨ xs.length = 4) ∧ inB wd 1 32 = true ∧ wide xs wd = true := by
  unfold rootsOk at h
  rw [Bool.and_eq_true, Bool.and_eq_true] at h
  refine ⟨?_, h.2⟩
  rcases cnt_cases xs.length with ⟨-, h1⟩ | ⟨-, h1⟩ | ⟨-, h1⟩ | ⟨h1, -⟩
  · exact Or.inl h1
  · exact Or.inr (Or.inl h1)
  · exact Or.inr (Or.inr h1)
  · rw [h1] at h; cases h.1
theorem wide_fit {xs : List ByteArray} {wd : Int} (h1 : inB wd 1 32 = true) (h2 : wide xs wd = true) : ∀ s ∈ xs, s.size ≤ 32 := by
  intro s hs
  rw [wide, List.all_eq_true] at h2
  have := of_decide_eq_true (h2 s hs)
  rw [inB_true] at h1
  omega

theorem cell_newp {w : World} {b o : Nat} {v : Value} {t : TypeId} {xs : Array Value} (h : w.cell? ⟨b, o, none⟩ = some v) (hb : b < w.heap.size) : (w.drew.alloc (.cells xs t)).cell? ⟨b, o, none⟩ = some v :=
  (World.cell?_alloc_past (w := w.drew) _ b o hb).trans h
/-- the hash of the pair at a place -/
def pairH (xs : List ByteArray) (wd : Int) (i : Nat) : ByteArray := tagH 3 [xs.getD (2 * i) ⟨#[]⟩, xs.getD (2 * i + 1) ⟨#[]⟩] wd
def upK (xs : List ByteArray) (wd : Int) (k : Nat) : List ByteArray := (List.range k).map (pairH xs wd)
/-- one level up -/
def upL (xs : List ByteArray) (wd : Int) : List ByteArray := upK xs wd (xs.length / 2)
theorem upK_length (xs : List ByteArray) (wd : Int) (k : Nat) : (upK xs wd k).length = k := by simp [upK]
theorem upL_length (xs : List ByteArray) (wd : Int) : (upL xs wd).length = xs.length / 2 := upK_length _ _ _
theorem ba_getD (xs : List ByteArray) (i : Nat) (h : i < xs.length) (d : ByteArray) : xs.getD i d = xs[i] := by simp [List.getD, h]
theorem upK_succ (xs : List ByteArray) (wd : Int) (k m : Nat) (hm : m = 2 * k) (h : m + 1 < xs.length) : upK xs wd (k + 1) = upK xs wd k ++ [tagH 3 [xs[m], xs[m + 1]] wd] := by
  subst hm
  unfold upK
  rw [List.range_succ, List.map_append]
  simp only [List.map_cons, List.map_nil, pairH]
  rw [ba_getD _ _ (by omega), ba_getD _ _ h]
theorem upK_fit (xs : List ByteArray) (wd : Int) (k : Nat) : ∀ s ∈ upK xs wd k, s.size ≤ 32 := by
  intro s hs
  unfold upK at hs
  rw [List.mem_map] at hs
  obtain ⟨i, -, rfl⟩ := hs
  exact tagH_le _ _ _
def topT (wd : Int) : Nat → List ByteArray → ByteArray
  | 0, xs => xs.getD 0 ⟨#[]⟩
  | n + 1, xs => topT wd n (upL xs wd)
def lvl (n : Nat) : Nat := if n = 4 then 2 else if n = 2 then 1 else 0
theorem lvl_pow {n : Nat} (h : n = 1 ∨ n = 2 ∨ n = 4) : n = 2 ^ lvl n := by rcases h with rfl | rfl | rfl <;> rfl
def combT (xs : List ByteArray) (wd : Int) : ByteArray := topT wd (lvl xs.length) xs
def combR (xs : List ByteArray) (wd : Int) : ByteArray := if rootsOk xs wd = true then combT xs wd else ⟨#[]⟩
def lenOf : Value → Nat
  | .slice _ n _ => n
  | _ => 0

set_option maxHeartbeats 800000 in
theorem impl_rootsOk (v : Value) (xs : List ByteArray) (wd : Int) (w : World) (h : Strs w v xs) (hs : ∀ s ∈ xs, s.size ≤ maxLen) :
    Calls Tryd.prog 74 #[v, .int .i64 wd] w fun e w' => e = .returned (.bool (rootsOk xs wd)) ∧ w = w' := by
  obtain ⟨a, c, rfl⟩ := h.form
  rcases cnt_cases xs.length with ⟨hc, hl⟩ | ⟨hc, hl⟩ | ⟨hc, hl⟩ | ⟨hc, n1, n2, n4⟩
  · have i1 : ((xs.length : Int) == 1) = true := by rw [hl]; rfl
    have d1 : decide ((xs.length : Int) = 1) = true := by rw [hl]; rfl
    clear hl
    cases h3 : inB wd 1 32
    · have R := Lib.hid (show rootsOk xs wd = false by rw [rootsOk, h3]; simp)
      have H3 := Lib.hid h3
      clear hc h3
      go_enter Tryd.func74, Tryd.ntmps74
      go_wp2_with (go_at_call 60; refine (impl_isWide wd _).mono ?_; rw [H3.out]; rintro e w' ⟨rfl, rfl⟩)
      go_ret
      exact ⟨ret_bool R.out.symm, rfl⟩
    · have R := Lib.hid (show rootsOk xs wd = wide xs wd by rw [rootsOk, h3, hc]; simp)
      have H4 := Lib.hid (show ∀ n : Int, n = xs.length → (wide xs wd && decide ((xs.length : Int) = n)) = wide xs wd by intro n hn; rw [hn]; simp)
      have H3 := Lib.hid h3
      clear hc h3
      go_enter Tryd.func74, Tryd.ntmps74
      go_wp2_with (first | (go_at_call 60; refine (impl_isWide wd _).mono ?_; rw [H3.out]; rintro e w' ⟨rfl, rfl⟩) | (go_at_call 89; refine (impl_haveWidth _ xs _ _ _ h hs).mono ?_; rw [H4.out _ rfl]; rintro e w' ⟨rfl, rfl⟩))
      go_ret
      exact ⟨ret_bool R.out.symm, rfl⟩
  · have i1 : ((xs.length : Int) == 1) = false := by rw [hl]; rfl
    have d1 : decide ((xs.length : Int) = 1) = false := by rw [hl]; rfl
    have i2 : ((xs.length : Int) == 2) = true := by rw [hl]; rfl
    have d2 : decide ((xs.length : Int) = 2) = true := by rw [hl]; rfl
    clear hl
    cases h3 : inB wd 1 32
    · have R := Lib.hid (show rootsOk xs wd = false by rw [rootsOk, h3]; simp)
      have H3 := Lib.hid h3
      clear hc h3
      go_enter Tryd.func74, Tryd.ntmps74
      go_wp2_with (go_at_call 60; refine (impl_isWide wd _).mono ?_; rw [H3.out]; rintro e w' ⟨rfl, rfl⟩)
      go_ret
      exact ⟨ret_bool R.out.symm, rfl⟩
    · have R := Lib.hid (show rootsOk xs wd = wide xs wd by rw [rootsOk, h3, hc]; simp)
      have H4 := Lib.hid (show ∀ n : Int, n = xs.length → (wide xs wd && decide ((xs.length : Int) = n)) = wide xs wd by intro n hn; rw [hn]; simp)
      have H3 := Lib.hid h3
      clear hc h3
      go_enter Tryd.func74, Tryd.ntmps74
      go_wp2_with (first | (go_at_call 60; refine (impl_isWide wd _).mono ?_; rw [H3.out]; rintro e w' ⟨rfl, rfl⟩) | (go_at_call 89; refine (impl_haveWidth _ xs _ _ _ h hs).mono ?_; rw [H4.out _ rfl]; rintro e w' ⟨rfl, rfl⟩))
      go_ret
      exact ⟨ret_bool R.out.symm, rfl⟩
  · have i1 : ((xs.length : Int) == 1) = false := by rw [hl]; rfl
    have d1 : decide ((xs.length : Int) = 1) = false := by rw [hl]; rfl
    have i2 : ((xs.length : Int) == 2) = false := by rw [hl]; rfl
    have d2 : decide ((xs.length : Int) = 2) = false := by rw [hl]; rfl
    have i4 : ((xs.length : Int) == 4) = true := by rw [hl]; rfl
    have d4 : decide ((xs.length : Int) = 4) = true := by rw [hl]; rfl
    clear hl
    cases h3 : inB wd 1 32
    · have R := Lib.hid (show rootsOk xs wd = false by rw [rootsOk, h3]; simp)
      have H3 := Lib.hid h3
      clear hc h3
      go_enter Tryd.func74, Tryd.ntmps74
      go_wp2_with (go_at_call 60; refine (impl_isWide wd _).mono ?_; rw [H3.out]; rintro e w' ⟨rfl, rfl⟩)
      go_ret
      exact ⟨ret_bool R.out.symm, rfl⟩
    · have R := Lib.hid (show rootsOk xs wd = wide xs wd by rw [rootsOk, h3, hc]; simp)
      have H4 := Lib.hid (show ∀ n : Int, n = xs.length → (wide xs wd && decide ((xs.length : Int) = n)) = wide xs wd by intro n hn; rw [hn]; simp)
      have H3 := Lib.hid h3
      clear hc h3
      go_enter Tryd.func74, Tryd.ntmps74
      go_wp2_with (first | (go_at_call 60; refine (impl_isWide wd _).mono ?_; rw [H3.out]; rintro e w' ⟨rfl, rfl⟩) | (go_at_call 89; refine (impl_haveWidth _ xs _ _ _ h hs).mono ?_; rw [H4.out _ rfl]; rintro e w' ⟨rfl, rfl⟩))
      go_ret
      exact ⟨ret_bool R.out.symm, rfl⟩
  · have i1 : ((xs.length : Int) == 1) = false := beq_eq_false_iff_ne.2 (by omega)
    have d1 : decide ((xs.length : Int) = 1) = false := decide_eq_false (by omega)
    have i2 : ((xs.length : Int) == 2) = false := beq_eq_false_iff_ne.2 (by omega)
    have d2 : decide ((xs.length : Int) = 2) = false := decide_eq_false (by omega)
    have i4 : ((xs.length : Int) == 4) = false := beq_eq_false_iff_ne.2 (by omega)
    have d4 : decide ((xs.length : Int) = 4) = false := decide_eq_false (by omega)
    have R := Lib.hid (show rootsOk xs wd = false by rw [rootsOk, hc]; rfl)
    clear hc n1 n2 n4
    go_enter Tryd.func74, Tryd.ntmps74
    go_wp2
    go_ret
    exact ⟨ret_bool R.out.symm, rfl⟩

set_option maxHeartbeats 800000 in
theorem spec_l12Roots (v : Value) (xs : List ByteArray) (wd : Int) (w : World) (h : Strs w v xs) (hs : ∀ s ∈ xs, s.size ≤ maxLen) :
    Calls Tryd.prog 72 #[v, .int .i64 wd] w fun e w' => e = .returned (.bool (rootsOk xs wd)) ∧ w = w' := by
  obtain ⟨a, c, rfl⟩ := h.form
  rcases cnt_cases xs.length with ⟨hc, hl⟩ | ⟨hc, hl⟩ | ⟨hc, hl⟩ | ⟨hc, n1, n2, n4⟩
  · have i1 : ((xs.length : Int) == 1) = true := by rw [hl]; rfl
    have d1 : decide ((xs.length : Int) = 1) = true := by rw [hl]; rfl
    clear hl
    have R := Lib.hid (show rootsOk xs wd = (wide xs wd && inB wd 1 32) by rw [rootsOk, hc, Bool.and_comm (wide xs wd)]; simp)
    clear hc
    go_enter Tryd.func72, Tryd.ntmps72
    go_wp2_with (go_at_call 86; refine (spec_l11Wide _ xs _ _ h hs).mono ?_; rintro e w' ⟨rfl, rfl⟩)
    go_ret
    exact ⟨ret_bool R.out.symm, rfl⟩
  · have i1 : ((xs.length : Int) == 1) = false := by rw [hl]; rfl
    have d1 : decide ((xs.length : Int) = 1) = false := by rw [hl]; rfl
    have i2 : ((xs.length : Int) == 2) = true := by rw [hl]; rfl
    have d2 : decide ((xs.length : Int) = 2) = true := by rw [hl]; rfl
    clear hl
    have R := Lib.hid (show rootsOk xs wd = (wide xs wd && inB wd 1 32) by rw [rootsOk, hc, Bool.and_comm (wide xs wd)]; simp)
    clear hc
    go_enter Tryd.func72, Tryd.ntmps72
    go_wp2_with (go_at_call 86; refine (spec_l11Wide _ xs _ _ h hs).mono ?_; rintro e w' ⟨rfl, rfl⟩)
    go_ret
    exact ⟨ret_bool R.out.symm, rfl⟩
  · have i1 : ((xs.length : Int) == 1) = false := by rw [hl]; rfl
    have d1 : decide ((xs.length : Int) = 1) = false := by rw [hl]; rfl
    have i2 : ((xs.length : Int) == 2) = false := by rw [hl]; rfl
    have d2 : decide ((xs.length : Int) = 2) = false := by rw [hl]; rfl
    have i4 : ((xs.length : Int) == 4) = true := by rw [hl]; rfl
    have d4 : decide ((xs.length : Int) = 4) = true := by rw [hl]; rfl
    clear hl
    have R := Lib.hid (show rootsOk xs wd = (wide xs wd && inB wd 1 32) by rw [rootsOk, hc, Bool.and_comm (wide xs wd)]; simp)
    clear hc
    go_enter Tryd.func72, Tryd.ntmps72
    go_wp2_with (go_at_call 86; refine (spec_l11Wide _ xs _ _ h hs).mono ?_; rintro e w' ⟨rfl, rfl⟩)
    go_ret
    exact ⟨ret_bool R.out.symm, rfl⟩
  · have i1 : ((xs.length : Int) == 1) = false := beq_eq_false_iff_ne.2 (by omega)
    have d1 : decide ((xs.length : Int) = 1) = false := decide_eq_false (by omega)
    have i2 : ((xs.length : Int) == 2) = false := beq_eq_false_iff_ne.2 (by omega)
    have d2 : decide ((xs.length : Int) = 2) = false := decide_eq_false (by omega)
    have i4 : ((xs.length : Int) == 4) = false := beq_eq_false_iff_ne.2 (by omega)
    have d4 : decide ((xs.length : Int) = 4) = false := decide_eq_false (by omega)
    have R := Lib.hid (show rootsOk xs wd = false by rw [rootsOk, hc]; rfl)
    clear hc n1 n2 n4
    go_enter Tryd.func72, Tryd.ntmps72
    go_wp2
    go_ret
    exact ⟨ret_bool R.out.symm, rfl⟩

set_option maxRecDepth 100000 in
set_option maxHeartbeats 1600000 in
theorem impl_above (v : Value) (xs : List ByteArray) (wd : Int) (w : World) (h : Strs w v xs) (hs : ∀ s ∈ xs, s.size ≤ 32) (hb : xs.length ≤ 1000) (hT : Tabs w) :
    Calls Tryd.prog 75 #[v, .int .i64 wd] w fun e w' => ∃ a c, e = .returned (.slice a (upL xs wd).length c) ∧ OwnStrs w' w.heap.size (.slice a (upL xs wd).length c) (upL xs wd) ∧ Ext w w' := by
  have HT := Lib.hid hT
  clear hT
  obtain ⟨i0, hi, hz0, hz1, hz2⟩ := info_parts infoString
  obtain ⟨-, a1, c1, rfl, hc1, hm1, g1⟩ := h
  unfold maxLen at hm1
  go_enter Tryd.func75, Tryd.ntmps75
  go_wp2
  go_loopw [5, 6] (fun v ii wr => ∃ k m : Nat, m = 2 * k ∧ m ≤ xs.length ∧ ii = .int .i64 m ∧ wr.ownsRow w.heap.size 9 1 v (upK xs wd k).length ((upK xs wd k).map Value.string) ∧ Ext w wr) (fun _ ii _ => xs.length - (intOf ii).toNat)
  case atStart => exact ⟨0, 0, rfl, Nat.zero_le _, rfl, World.ownsRow_nil _ _ _ _, (by repeat (first | (with_reducible first | exact Ext.refl _ | assumption | apply Ext.alloc | apply Ext.drew | apply Ext.drewN | refine Ext.setCell ?_ ?_ _ | refine Ext.trans ?_ (by assumption)) | (show _ ≤ _; first | omega | (dsimp only; omega) | (simp; done) | (simp; omega))))⟩
  case round =>
    obtain ⟨k, m, hm2, hk, rfl, hown, hx⟩ := hrel
    obtain ⟨a, c, rfl⟩ := own_any hown
    have hsz := hx.size
    have HM := Lib.hid hm2
    clear hm2
    have ws : IntKind.i64.wrap ((m : Int) + 1) = (m : Int) + 1 := IntWalk.i64_in _ (by omega)
    have HK := Lib.hid (upK_length xs wd k)
    by_cases hlt : m + 1 < xs.length
    · rcases g1 with g1 | ⟨b1, o1, rfl, hb1, g1⟩
      · omega
      have f1 := Lib.hid (g1 m (.string xs[m]) (by simp; try omega))
      have f2 := Lib.hid (g1 (m + 1) (.string xs[m + 1]) (by simp; try omega))
      have j0 : (0 : Int) ≤ (m : Int) := by omega
      have j1 : (m : Int) < xs.length := by omega
      have j2 : (0 : Int) ≤ (m : Int) + 1 := by omega
      have j3 : (m : Int) + 1 < xs.length := by omega
      have j4 : ((m : Int) + 1).toNat = m + 1 := by omega
      have e1 : wr.cell? ⟨b1, o1 + m, none⟩ = some (.string xs[m]) := (hx.cell b1 _ hb1).trans f1.out
      have e2 : wr.cell? ⟨b1, o1 + (m + 1), none⟩ = some (.string xs[m + 1]) := (hx.cell b1 _ hb1).trans f2.out
      have HU := Lib.hid (upK_succ xs wd k m HM.out hlt)
      have HO := Lib.hid hown
      have ff := fit2 (le_max (hs xs[m] (List.getElem_mem _)) (by omega)) (le_max (hs xs[m + 1] (List.getElem_mem _)) (by omega))
      have l1 : b1 < wr.heap.size := Nat.lt_of_lt_of_le hb1 hx.size
      clear g1 hown
      go_wp2_with fail
      generalize hA : xs[m] = A at *
      generalize hB : xs[m + 1] = B at *
      go_region_held3 (fun W => W.cell? ⟨b1, o1 + m, none⟩ = some (.string A) ∧ W.cell? ⟨b1, o1 + (m + 1), none⟩ = some (.string B)) (first | exact ⟨e1, e2⟩ | exact ⟨cell_newp e1 l1, cell_newp e2 l1⟩ | exact ⟨d1, d2⟩ | exact ⟨cell_newp d1 l2, cell_newp d2 l2⟩ | exact ⟨(y9.cell b1 _ hb1).trans f1.out, (y9.cell b1 _ hb1).trans f2.out⟩) (first | (go_at_call 69; refine (impl_hashOf 3 _ [A, B] wd _ (by exact strs_lit2 wr.drew _ _ _) ff (by exact HT.out.ext (by repeat (first | (with_reducible first | exact Ext.refl _ | assumption | apply Ext.alloc | apply Ext.drew | apply Ext.drewN | refine Ext.setCell ?_ ?_ _ | refine Ext.trans ?_ (by assumption)) | (show _ ≤ _; first | omega | (dsimp only; omega) | (simp; done) | (simp; omega)))))).mono ?_; rintro e w1 ⟨rfl, x1⟩; have y1 : Ext wr w1 := (by repeat (first | (with_reducible first | exact Ext.refl _ | assumption | apply Ext.alloc | apply Ext.drew | apply Ext.drewN | refine Ext.setCell ?_ ?_ _ | refine Ext.trans ?_ (by assumption)) | (show _ ≤ _; first | omega | (dsimp only; omega) | (simp; done) | (simp; omega)))); have l2 := Nat.lt_of_lt_of_le l1 y1.size; have d1 := (y1.cell _ _ l1).trans e1; have d2 := (y1.cell _ _ l1).trans e2) | (refine step_append_lies _ rfl (.tmp 14) (.tmp 27) 43 (by rfl) w.heap.size 9 i0 (.string ⟨#[]⟩) 1 16 Tryd.underlying43 hi hz0 hz1 hz2 rfl (by decide) _ _ _ (by rfl) (own_alloc (own_ext HO.out y1) _) ⟨w1.heap.size, 0, none⟩ 1 1 [.string (tagH 3 [A, B] wd)] (by rfl) rfl (World.news_of_block (heap_alloc_new w1 (Obj.cells #[Value.string (tagH 3 [A, B] wd)] 9))) (by intro u hu; simp at hu; rcases hu with rfl; rfl) (by decide) (by have := HM.out; have := HK.out; unfold maxLen; omega) (by have := HM.out; have := HK.out; omega) (by have := y1.size; simp; omega) _ rfl ?_; intro g cap w9 hown9 hgrow _ _; have y9 : Ext w w9 := own_ext_of ((hx.trans y1).alloc _) (own_alloc (own_ext HO.out y1) _) hgrow (Nat.le_refl _)))
      have HO9 := Lib.hid hown9
      clear hown9 hgrow
      go_wp2
      go_roundw
      case rel => exact ⟨k + 1, m + 2, by have := HM.out; omega, by omega, by go_num, by rw [HU.out, List.length_append, List.map_append]; simpa using HO9.out, y9⟩
      case measure => simp [intOf]; omega
    · have hkn : k = xs.length / 2 := by have := HM.out; omega
      have hL : upK xs wd k = upL xs wd := by rw [hkn]; rfl
      have HL := Lib.hid hL
      have HO := Lib.hid hown
      clear g1 hL hown
      go_wp2
      go_ret
      refine ⟨a, c, ?_, ?_, hx⟩
      · rw [← HL.out]; rfl
      · rw [← HL.out]; exact HO.out

set_option maxRecDepth 100000 in
set_option maxHeartbeats 1600000 in
theorem spec_l12Up (v : Value) (xs : List ByteArray) (wd : Int) (w : World) (h : Strs w v xs) (hs : ∀ s ∈ xs, s.size ≤ 32) (hb : xs.length ≤ 1000) :
    Calls Tryd.prog 73 #[v, .int .i64 wd] w fun e w' => ∃ a c, e = .returned (.slice a (upL xs wd).length c) ∧ OwnStrs w' w.heap.size (.slice a (upL xs wd).length c) (upL xs wd) ∧ Ext w w' := by
  obtain ⟨i0, hi, hz0, hz1, hz2⟩ := info_parts infoString
  obtain ⟨-, a1, c1, rfl, hc1, hm1, g1⟩ := h
  unfold maxLen at hm1
  go_enter Tryd.func73, Tryd.ntmps73
  go_wp2
  go_loopw [5, 6] (fun v ii wr => ∃ k m : Nat, m = 2 * k ∧ m ≤ xs.length ∧ ii = .int .i64 m ∧ wr.ownsRow w.heap.size 9 1 v (upK xs wd k).length ((upK xs wd k).map Value.string) ∧ Ext w wr) (fun _ ii _ => xs.length - (intOf ii).toNat)
  case atStart => exact ⟨0, 0, rfl, Nat.zero_le _, rfl, World.ownsRow_lit w #[] 0 (Nat.le_refl _) (Nat.zero_le _) rfl, (by repeat (first | (with_reducible first | exact Ext.refl _ | assumption | apply Ext.alloc | apply Ext.drew | apply Ext.drewN | refine Ext.setCell ?_ ?_ _ | refine Ext.trans ?_ (by assumption)) | (show _ ≤ _; first | omega | (dsimp only; omega) | (simp; done) | (simp; omega))))⟩
  case round =>
    obtain ⟨k, m, hm2, hk, rfl, hown, hx⟩ := hrel
    obtain ⟨a, c, rfl⟩ := own_any hown
    have hsz := hx.size
    have HM := Lib.hid hm2
    clear hm2
    have ws : IntKind.i64.wrap ((m : Int) + 1) = (m : Int) + 1 := IntWalk.i64_in _ (by omega)
    have HK := Lib.hid (upK_length xs wd k)
    by_cases hlt : m + 1 < xs.length
    · rcases g1 with g1 | ⟨b1, o1, rfl, hb1, g1⟩
      · omega
      have f1 := Lib.hid (g1 m (.string xs[m]) (by simp; try omega))
      have f2 := Lib.hid (g1 (m + 1) (.string xs[m + 1]) (by simp; try omega))
      have j0 : (0 : Int) ≤ (m : Int) := by omega
      have j1 : (m : Int) < xs.length := by omega
      have j2 : (0 : Int) ≤ (m : Int) + 1 := by omega
      have j3 : (m : Int) + 1 < xs.length := by omega
      have j4 : ((m : Int) + 1).toNat = m + 1 := by omega
      have e1 : wr.cell? ⟨b1, o1 + m, none⟩ = some (.string xs[m]) := (hx.cell b1 _ hb1).trans f1.out
      have e2 : wr.cell? ⟨b1, o1 + (m + 1), none⟩ = some (.string xs[m + 1]) := (hx.cell b1 _ hb1).trans f2.out
      have HU := Lib.hid (upK_succ xs wd k m HM.out hlt)
      have HO := Lib.hid hown
      have ff := fit2 (le_max (hs xs[m] (List.getElem_mem _)) (by omega)) (le_max (hs xs[m + 1] (List.getElem_mem _)) (by omega))
      have l1 : b1 < wr.heap.size := Nat.lt_of_lt_of_le hb1 hx.size
      clear g1 hown
      go_wp2_with fail
      generalize hA : xs[m] = A at *
      generalize hB : xs[m + 1] = B at *
      go_region_held3 (fun W => W.cell? ⟨b1, o1 + m, none⟩ = some (.string A) ∧ W.cell? ⟨b1, o1 + (m + 1), none⟩ = some (.string B)) (first | exact ⟨e1, e2⟩ | exact ⟨cell_newp e1 l1, cell_newp e2 l1⟩ | exact ⟨d1, d2⟩ | exact ⟨cell_newp d1 l2, cell_newp d2 l2⟩ | exact ⟨(y9.cell b1 _ hb1).trans f1.out, (y9.cell b1 _ hb1).trans f2.out⟩) (first | (go_at_call 67; refine (spec_TagHash 3 _ [A, B] wd _ (by exact strs_lit2 wr.drew _ _ _) ff).mono ?_; rintro e w1 ⟨rfl, x1⟩; have y1 : Ext wr w1 := (by repeat (first | (with_reducible first | exact Ext.refl _ | assumption | apply Ext.alloc | apply Ext.drew | apply Ext.drewN | refine Ext.setCell ?_ ?_ _ | refine Ext.trans ?_ (by assumption)) | (show _ ≤ _; first | omega | (dsimp only; omega) | (simp; done) | (simp; omega)))); have l2 := Nat.lt_of_lt_of_le l1 y1.size; have d1 := (y1.cell _ _ l1).trans e1; have d2 := (y1.cell _ _ l1).trans e2) | (refine step_append_lies _ rfl (.tmp 15) (.tmp 28) 43 (by rfl) w.heap.size 9 i0 (.string ⟨#[]⟩) 1 16 Tryd.underlying43 hi hz0 hz1 hz2 rfl (by decide) _ _ _ (by rfl) (own_alloc (own_ext HO.out y1) _) ⟨w1.heap.size, 0, none⟩ 1 1 [.string (tagH 3 [A, B] wd)] (by rfl) rfl (World.news_of_block (heap_alloc_new w1 (Obj.cells #[Value.string (tagH 3 [A, B] wd)] 9))) (by intro u hu; simp at hu; rcases hu with rfl; rfl) (by decide) (by have := HM.out; have := HK.out; unfold maxLen; omega) (by have := HM.out; have := HK.out; omega) (by have := y1.size; simp; omega) _ rfl ?_; intro g cap w9 hown9 hgrow _ _; have y9 : Ext w w9 := own_ext_of ((hx.trans y1).alloc _) (own_alloc (own_ext HO.out y1) _) hgrow (Nat.le_refl _)))
      have HO9 := Lib.hid hown9
      clear hown9 hgrow
      go_wp2
      go_roundw
      case rel => exact ⟨k + 1, m + 2, by have := HM.out; omega, by omega, by go_num, by rw [HU.out, List.length_append, List.map_append]; simpa using HO9.out, y9⟩
      case measure => simp [intOf]; omega
    · have hkn : k = xs.length / 2 := by have := HM.out; omega
      have hL : upK xs wd k = upL xs wd := by rw [hkn]; rfl
      have HL := Lib.hid hL
      have HO := Lib.hid hown
      clear g1 hL hown
      go_wp2
      go_ret
      refine ⟨a, c, ?_, ?_, hx⟩
      · rw [← HL.out]; rfl
      · rw [← HL.out]; exact HO.out
end Go.Proofs.YtbgkeoidhfgmcaaDoor
