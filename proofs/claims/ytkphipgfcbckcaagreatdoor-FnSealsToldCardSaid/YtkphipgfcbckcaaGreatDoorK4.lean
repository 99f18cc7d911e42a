/- Pub, Roots2, Sol, App, Pool, Names, LeafA, MarkA, MarkS, Sides, SgO, SgnP, SgnA, CurA, SgFt, MutL. -/
import Derived.Test.YtkphipgfcbckcaaGreatDoorK3
import Derived.Deep.AppendLies
import Derived.Laws.AppendOwnNone
import Derived.Maps.AppendAt
import Derived.IntWalk
import Derived.Deep.RegionHeld3
import Derived.Deep.RegionLaw
import Derived.Lib.BufferRead
namespace Go.Proofs.YtkphipgfcbckcaaGreatDoor
open Go.RowKit

/-- a secret -/
def secT (seed : ByteArray) (a b v : Int) : ByteArray := tagH 5 [seed, strOfNums [a, b, v]] 16
def pubOk (seed : ByteArray) (a : Int) : Bool := decide (seed.size ≤ 100) && inB a 0 15
def pubL (seed : ByteArray) (a : Int) (n : Nat) : List ByteArray := (List.range n).map fun j : Nat => lkH (secT seed a ((j / 2 : Nat) : Int) ((j % 2 : Nat) : Int))
/-- a public key -/
def pubT (seed : ByteArray) (a : Int) : ByteArray := if pubOk seed a = true then tagH 6 (pubL seed a 16) 16 else ⟨#[]⟩
/-- a pool -/
def poolK (seed : ByteArray) (n : Nat) : List ByteArray := (List.range n).map fun j : Nat => pubT seed (j : Int)
theorem pub_yes {seed : ByteArray} {a : Int} (h : pubOk seed a = true) : pubT seed a = tagH 6 (pubL seed a 16) 16 := by rw [pubT, if_pos h]
theorem pub_no {seed : ByteArray} {a : Int} (h : pubOk seed a = false) : pubT seed a = ⟨#[]⟩ := by rw [pubT, if_neg (by rw [h]; decide)]
theorem pubOk_true {seed : ByteArray} {a : Int} (h : pubOk seed a = true) : seed.size ≤ 100 ∧ 0 ≤ a ∧ a ≤ 15 := by
  rw [pubOk, Bool.and_eq_true, inB_true] at h
  exact ⟨of_decide_eq_true h.1, h.2⟩
theorem pubL_len (seed : ByteArray) (a : Int) (n : Nat) : (pubL seed a n).length = n := by simp [pubL]
theorem pubL_succ (seed : ByteArray) (a : Int) (n : Nat) : pubL seed a (n + 1) = pubL seed a n ++ [lkH (secT seed a ((n / 2 : Nat) : Int) ((n % 2 : Nat) : Int))] := by simp [pubL, List.range_succ]
theorem pubL_fit (seed : ByteArray) (a : Int) (n : Nat) : ∀ s ∈ pubL seed a n, s.size ≤ 32 := by
  intro s hs
  rw [pubL, List.mem_map] at hs
  obtain ⟨j, -, rfl⟩ := hs
  exact tagH_le _ _ _
theorem poolK_len (seed : ByteArray) (n : Nat) : (poolK seed n).length = n := by simp [poolK]
theorem poolK_succ (seed : ByteArray) (n : Nat) : poolK seed (n + 1) = poolK seed n ++ [pubT seed (n : Int)] := by simp [poolK, List.range_succ]
theorem pubT_le (seed : ByteArray) (a : Int) : (pubT seed a).size ≤ 32 := by
  rw [pubT]
  split
  · exact tagH_le _ _ _
  · decide
theorem poolK_fit (seed : ByteArray) (n : Nat) : ∀ s ∈ poolK seed n, s.size ≤ 32 := by
  intro s hs
  rw [poolK, List.mem_map] at hs
  obtain ⟨j, -, rfl⟩ := hs
  exact pubT_le _ _
theorem sec_16 {seed : ByteArray} (a b v : Int) (h : seed.size ≤ 100) : (secT seed a b v).size = 16 := by
  have hw : tagWell 5 [seed, strOfNums [a, b, v]] = true := tag_yes (by decide) (by simp) (fun p hp => by
    simp only [List.mem_cons, List.not_mem_nil, or_false] at hp
    have : (strOfNums [a, b, v]).size = 3 := strOfNums_size _
    rcases hp with rfl | rfl <;> omega)
  have := cutT_size (tagTx 5 [seed, strOfNums [a, b, v]]) 16 (by decide)
  rw [secT, tagH, if_pos hw]
  omega
theorem lk_16 {o : ByteArray} (h : o.size ≤ 200) : (lkH o).size = 16 := by
  have hw : tagWell 6 [o] = true := tag_yes (by decide) (by simp) (fun p hp => by simp at hp; rw [hp]; omega)
  have := cutT_size (tagTx 6 [o]) 16 (by decide)
  rw [lkH, tagH, if_pos hw]
  omega
theorem pub_16 {seed : ByteArray} {a : Int} (h : pubOk seed a = true) : (pubT seed a).size = 16 := by
  have hw : tagWell 6 (pubL seed a 16) = true := tag_yes (by decide) (by rw [pubL_len]; decide) (fun p hp => by have := pubL_fit seed a 16 p hp; omega)
  have := cutT_size (tagTx 6 (pubL seed a 16)) 16 (by decide)
  rw [pub_yes h, tagH, if_pos hw]
  omega
theorem not_empty {s : ByteArray} (h : s.size ≠ 0) : s.toList.isEmpty = false ∧ (s.toList == []) = false := by
  have h1 : s.toList.isEmpty = false := by rw [toList_empty]; exact decide_eq_false h
  exact ⟨h1, by simpa using h1⟩
theorem infoStrP : (Tryz.prog.info? 9).map (fun i => (i.zero, i.size, i.bytes)) = some (some (.string ⟨#[]⟩), 1, 16) := by kernel_rfl
theorem conv_lit3' (w : World) (x y z : Int) (b : Nat) (hb : b = w.heap.size) : (convert 22 9 (.slice (some ⟨b, 0, none⟩) 3 3)).run Tryz.prog (w.alloc (.cells #[.int .u8 x, .int .u8 y, .int .u8 z] 5)) = .ok (.string (strOfNums [x, y, z])) (w.alloc (.cells #[.int .u8 x, .int .u8 y, .int .u8 z] 5)) := conv_lit3 w x y z b hb
theorem impl_LockOf (o : ByteArray) (w : World) (ho : o.size ≤ maxLen) (hT : Tabs w) :
    Calls Tryz.prog 58 #[.string o] w fun e w' => e = .returned (.string (lkH o)) ∧ Ext w w' := by
  have ff := fit1 ho
  have HT := Lib.hid hT
  clear hT
  go_enter Tryz.func58, Tryz.ntmps58
  go_wp2_with (go_at_call 61; refine (impl_hashOf 6 _ [o] 16 _ (by exact strs_lit1 _ _ _) ff (by exact HT.out.ext (by repeat (first | (with_reducible first | exact Ext.refl _ | assumption | apply Ext.alloc | apply Ext.drew | apply Ext.drewN | refine Ext.setCell ?_ ?_ _ | refine Ext.trans ?_ (by assumption)) | (show _ ≤ _; first | omega | (dsimp only; omega) | (simp; done) | (simp; omega)))))).mono ?_; rintro e w1 ⟨rfl, x1⟩)
  go_ret
  exact ⟨rfl, (by repeat (first | (with_reducible first | exact Ext.refl _ | assumption | apply Ext.alloc | apply Ext.drew | apply Ext.drewN | refine Ext.setCell ?_ ?_ _ | refine Ext.trans ?_ (by assumption)) | (show _ ≤ _; first | omega | (dsimp only; omega) | (simp; done) | (simp; omega))))⟩

set_option maxHeartbeats 1600000 in
theorem spec_SecretOf (seed : ByteArray) (a b v : Int) (w : World) (hs : seed.size ≤ 100) (ha : inB a 0 15 = true) (hb : inB b 0 7 = true) (hv : inB v 0 1 = true) :
    Calls Tryz.prog 64 #[.string seed, .int .i64 a, .int .i64 b, .int .i64 v] w fun e w' => e = .returned (.string (secT seed a b v)) ∧ Ext w w' := by
  obtain ⟨a0, a1⟩ := inB_true.1 ha
  obtain ⟨b0, b1⟩ := inB_true.1 hb
  obtain ⟨v0, v1⟩ := inB_true.1 hv
  have hsi : ¬ (100 : Int) < seed.size := by omega
  have z3 : (strOfNums [a, b, v]).size = 3 := strOfNums_size _
  have ff := fit2 (a := seed) (b := strOfNums [a, b, v]) (by unfold maxLen; omega) (by unfold maxLen; omega)
  have e1 : a % 256 = a := by omega
  have e2 : b % 256 = b := by omega
  have e3 : v % 256 = v := by omega
  have hcv := conv_lit3'
  clear z3
  go_enter Tryz.func64, Tryz.ntmps64
  go_wp2_with (go_at_call 22; refine (spec_l01In _ _ _ _).mono ?_; rintro e w' ⟨rfl, rfl⟩)
  refine (spec_TagHash 5 _ [seed, strOfNums [a, b, v]] 16 _ (by exact strs_lit (w.alloc (Obj.cells #[.int .u8 a, .int .u8 b, .int .u8 v] 5)) [seed, strOfNums [a, b, v]] 2 _ _ rfl (by rw [World.size_alloc]) (by omega)) ff).mono ?_
  rintro e w1 ⟨rfl, x1⟩
  go_wp2
  go_ret
  exact ⟨rfl, (by repeat (first | (with_reducible first | exact Ext.refl _ | assumption | apply Ext.alloc | apply Ext.drew | apply Ext.drewN | refine Ext.setCell ?_ ?_ _ | refine Ext.trans ?_ (by assumption)) | (show _ ≤ _; first | omega | (dsimp only; omega) | (simp; done) | (simp; omega))))⟩
set_option maxHeartbeats 1600000 in
theorem spec_SecretNo (seed : ByteArray) (a b v : Int) (w : World) (h : pubOk seed a = false) :
    Calls Tryz.prog 64 #[.string seed, .int .i64 a, .int .i64 b, .int .i64 v] w fun e w' => e = .returned (.string ⟨#[]⟩) ∧ w = w' := by
  by_cases hs : seed.size ≤ 100
  · have hsi : ¬ (100 : Int) < seed.size := by omega
    have ha : inB a 0 15 = false := by rw [pubOk, decide_eq_true hs, Bool.true_and] at h; exact h
    clear h
    go_enter Tryz.func64, Tryz.ntmps64
    go_wp2_with (go_at_call 22; refine (spec_l01In _ _ _ _).mono ?_; rintro e w' ⟨rfl, rfl⟩)
    go_ret
    exact ⟨rfl, rfl⟩
  · have hsi : (100 : Int) < seed.size := by omega
    clear h
    go_enter Tryz.func64, Tryz.ntmps64
    go_wp2
    go_ret
    exact ⟨rfl, rfl⟩
set_option maxRecDepth 100000 in
set_option maxHeartbeats 3200000 in
theorem spec_PublicOf (seed : ByteArray) (a : Int) (w : World) :
    Calls Tryz.prog 51 #[.string seed, .int .i64 a] w fun e w' => e = .returned (.string (pubT seed a)) ∧ Ext w w' := by
  obtain ⟨i0, hi, hz0, hz1, hz2⟩ := info_parts infoStrP
  cases hok : pubOk seed a
  · have HR := Lib.hid (pub_no hok)
    have HOK := Lib.hid hok
    clear hok
    go_enter Tryz.func51, Tryz.ntmps51
    go_wp2
    go_loopw [6] (fun iv wr => iv = .int .i64 0 ∧ Ext w wr) (fun _ _ => 0)
    case atStart => exact ⟨rfl, (by repeat (first | (with_reducible first | exact Ext.refl _ | assumption | apply Ext.alloc | apply Ext.drew | apply Ext.drewN | refine Ext.setCell ?_ ?_ _ | refine Ext.trans ?_ (by assumption)) | (show _ ≤ _; first | omega | (dsimp only; omega) | (simp; done) | (simp; omega))))⟩
    case round =>
      obtain ⟨rfl, hx⟩ := hrel
      go_wp2
      go_loopw [7] (fun iv wr => iv = .int .i64 0 ∧ Ext w wr) (fun _ _ => 0)
      case atStart => exact ⟨rfl, hx⟩
      case round =>
        obtain ⟨rfl, hx⟩ := hrel
        go_wp2_with (go_at_call 64; refine (spec_SecretNo seed a 0 0 _ HOK.out).mono ?_; rintro e w' ⟨rfl, rfl⟩)
        go_ret
        exact ⟨ret_str HR.out.symm, (by repeat (first | (with_reducible first | exact Ext.refl _ | assumption | apply Ext.alloc | apply Ext.drew | apply Ext.drewN | refine Ext.setCell ?_ ?_ _ | refine Ext.trans ?_ (by assumption)) | (show _ ≤ _; first | omega | (dsimp only; omega) | (simp; done) | (simp; omega))))⟩
  · have HR := Lib.hid (pub_yes hok)
    obtain ⟨hs, ha0, ha1⟩ := pubOk_true hok
    have HA := Lib.hid (show inB a 0 15 = true from inB_true.2 ⟨ha0, ha1⟩)
    clear hok
    go_enter Tryz.func51, Tryz.ntmps51
    go_wp2
    go_loopw [5, 6] (fun lv iv wr => ∃ k : Nat, k ≤ 8 ∧ iv = .int .i64 k ∧ wr.ownsRow w.heap.size 9 1 lv (2 * k) ((pubL seed a (2 * k)).map Value.string) ∧ Ext w wr) (fun _ iv _ => 8 - (intOf iv).toNat)
    case atStart => exact ⟨0, by omega, rfl, World.ownsRow_lit w #[] 0 (Nat.le_refl _) (Nat.zero_le _) rfl, (by repeat (first | (with_reducible first | exact Ext.refl _ | assumption | apply Ext.alloc | apply Ext.drew | apply Ext.drewN | refine Ext.setCell ?_ ?_ _ | refine Ext.trans ?_ (by assumption)) | (show _ ≤ _; first | omega | (dsimp only; omega) | (simp; done) | (simp; omega))))⟩
    case round =>
      obtain ⟨k, hk, rfl, hown, hx⟩ := hrel
      by_cases hlt : k < 8
      · have hlt' : (k : Int) < 8 := by omega
        have HO := Lib.hid hown
        have hb : inB (k : Int) 0 7 = true := inB_true.2 (by omega)
        have HB := Lib.hid hb
        clear hown hb
        go_wp2
        go_loopw [5, 7] (fun lv iv wr => ∃ j : Nat, j ≤ 2 ∧ iv = .int .i64 j ∧ wr.ownsRow w.heap.size 9 1 lv (2 * k + j) ((pubL seed a (2 * k + j)).map Value.string) ∧ Ext w wr) (fun _ iv _ => 2 - (intOf iv).toNat)
        case atStart => exact ⟨0, by omega, rfl, HO.out, hx⟩
        case round =>
          obtain ⟨j, hj, rfl, hown, hx⟩ := hrel
          obtain ⟨ga, gc, rfl⟩ := own_any hown
          by_cases hj2 : j < 2
          · have hj2' : (j : Int) < 2 := by omega
            have HV := Lib.hid (show inB (j : Int) 0 1 = true from inB_true.2 (by omega))
            have HO := Lib.hid hown
            clear hown
            go_wp2_with fail
            refine (spec_SecretOf seed a k j _ hs HA.out HB.out HV.out).mono ?_
            have h16 := sec_16 (seed := seed) a k j hs
            have HSU := Lib.hid (pubL_succ seed a (2 * k + j))
            have HSE := Lib.hid (show lkH (secT seed a (((2 * k + j) / 2 : Nat) : Int) (((2 * k + j) % 2 : Nat) : Int)) = lkH (secT seed a k j) by rw [show (2 * k + j) / 2 = k by omega, show (2 * k + j) % 2 = j by omega])
            generalize secT seed a k j = sec at *
            obtain ⟨n1, n2⟩ := not_empty (s := sec) (by omega)
            rintro e w1 ⟨rfl, x1⟩
            have X1 : Ext w w1 := (by repeat (first | (with_reducible first | exact Ext.refl _ | assumption | apply Ext.alloc | apply Ext.drew | apply Ext.drewN | refine Ext.setCell ?_ ?_ _ | refine Ext.trans ?_ (by assumption)) | (show _ ≤ _; first | omega | (dsimp only; omega) | (simp; done) | (simp; omega))))
            have O1 := Lib.hid (own_ext HO.out x1)
            go_wp2_with fail
            refine (spec_LockOf sec _ (by unfold maxLen; omega)).mono ?_
            generalize lkH sec = lk at *
            rintro e w2 ⟨rfl, x2⟩
            have X2 : Ext w w2 := (by repeat (first | (with_reducible first | exact Ext.refl _ | assumption | apply Ext.alloc | apply Ext.drew | apply Ext.drewN | refine Ext.setCell ?_ ?_ _ | refine Ext.trans ?_ (by assumption)) | (show _ ≤ _; first | omega | (dsimp only; omega) | (simp; done) | (simp; omega))))
            have O2 := Lib.hid (own_ext O1.out x2)
            have s2 := X2.size
            clear HO O1
            go_wp2_with (at_builtin; refine wpList_append_own _ rfl (.tmp 25) (.tmp 28) 24 rfl w.heap.size 9 i0 (.string ⟨#[]⟩) 1 16 Tryz.underlying24 hi hz0 hz1 hz2 rfl (by decide) _ _ _ rfl (O2.out.alloc _) ⟨w2.heap.size, 0, none⟩ 1 1 [.string lk] rfl rfl (World.news_of_block (heap_alloc_new w2 _)) (by intro u hu; rw [List.mem_singleton] at hu; rw [hu]; rfl) (by unfold maxLen; omega) (by omega) (by simp; omega) ?_)
            intro v3 w3 own3 hgrow _
            have X3 : Ext w w3 := own_ext_of (X2.alloc _) (own_alloc O2.out _) hgrow (Nat.le_refl _)
            obtain ⟨a3, c3, rfl⟩ := own_any own3
            have O3 := Lib.hid own3
            clear own3 hgrow
            go_wp2
            go_roundw
            case rel => exact ⟨j + 1, by omega, by go_num, by rw [← Nat.add_assoc, HSU.out, HSE.out, List.map_append]; exact O3.out, X3⟩
            case measure => simp [intOf]; omega
          · obtain rfl : j = 2 := by omega
            have HO := Lib.hid hown
            clear hown
            go_wp2
            go_roundw
            case rel => exact ⟨k + 1, by omega, by go_num, by rw [show 2 * (k + 1) = 2 * k + 2 by omega]; exact HO.out, hx⟩
            case measure => simp [intOf]; omega
      · obtain rfl : k = 8 := by omega
        have st : Strs wr _ (pubL seed a 16) := Row.of_owns (show wr.ownsRow w.heap.size 9 1 _ 16 ((pubL seed a 16).map Value.string) from hown)
        have ST := Lib.hid st
        obtain ⟨ga, gc, rfl⟩ := own_any hown
        clear hown st
        go_wp2_with fail
        refine (spec_TagHash 6 _ (pubL seed a 16) 16 _ (by exact ST.out) (fun s hs => by have := pubL_fit seed a 16 s hs; unfold maxLen; omega)).mono ?_
        rintro e w1 ⟨rfl, x1⟩
        go_wp2
        go_ret
        exact ⟨ret_str HR.out.symm, (by repeat (first | (with_reducible first | exact Ext.refl _ | assumption | apply Ext.alloc | apply Ext.drew | apply Ext.drewN | refine Ext.setCell ?_ ?_ _ | refine Ext.trans ?_ (by assumption)) | (show _ ≤ _; first | omega | (dsimp only; omega) | (simp; done) | (simp; omega))))⟩
set_option maxRecDepth 100000 in
set_option maxHeartbeats 3200000 in
theorem spec_PoolOf (seed : ByteArray) (w : World) :
    Calls Tryz.prog 24 #[.string seed] w fun e w' => ∃ a c, e = .returned (.slice a 16 c) ∧ OwnStrs w' w.heap.size (.slice a 16 c) (poolK seed 16) ∧ Ext w w' := by
  obtain ⟨i0, hi, hz0, hz1, hz2⟩ := info_parts infoStrP
  go_enter Tryz.func24, Tryz.ntmps24
  go_wp2
  go_loopw [3, 4] (fun lv iv wr => ∃ k : Nat, k ≤ 16 ∧ iv = .int .i64 k ∧ wr.ownsRow w.heap.size 9 1 lv k ((poolK seed k).map Value.string) ∧ Ext w wr) (fun _ iv _ => 16 - (intOf iv).toNat)
  case atStart => exact ⟨0, by omega, rfl, World.ownsRow_lit w #[] 0 (Nat.le_refl _) (Nat.zero_le _) rfl, (by repeat (first | (with_reducible first | exact Ext.refl _ | assumption | apply Ext.alloc | apply Ext.drew | apply Ext.drewN | refine Ext.setCell ?_ ?_ _ | refine Ext.trans ?_ (by assumption)) | (show _ ≤ _; first | omega | (dsimp only; omega) | (simp; done) | (simp; omega))))⟩
  case round =>
    obtain ⟨k, hk, rfl, hown, hx⟩ := hrel
    obtain ⟨ga, gc, rfl⟩ := own_any hown
    by_cases hlt : k < 16
    · have hlt' : (k : Int) < 16 := by omega
      have HO := Lib.hid hown
      have HSU := Lib.hid (poolK_succ seed k)
      clear hown
      go_wp2_with fail
      refine (spec_PublicOf seed k _).mono ?_
      generalize pubT seed k = pk at *
      rintro e w2 ⟨rfl, x2⟩
      have X2 : Ext w w2 := (by repeat (first | (with_reducible first | exact Ext.refl _ | assumption | apply Ext.alloc | apply Ext.drew | apply Ext.drewN | refine Ext.setCell ?_ ?_ _ | refine Ext.trans ?_ (by assumption)) | (show _ ≤ _; first | omega | (dsimp only; omega) | (simp; done) | (simp; omega))))
      have O2 := Lib.hid (own_ext HO.out x2)
      have s2 := X2.size
      clear HO
      go_wp2_with (at_builtin; refine wpList_append_own _ rfl (.tmp 10) (.tmp 14) 24 rfl w.heap.size 9 i0 (.string ⟨#[]⟩) 1 16 Tryz.underlying24 hi hz0 hz1 hz2 rfl (by decide) _ _ _ rfl (O2.out.alloc _) ⟨w2.heap.size, 0, none⟩ 1 1 [.string pk] rfl rfl (World.news_of_block (heap_alloc_new w2 _)) (by intro u hu; rw [List.mem_singleton] at hu; rw [hu]; rfl) (by unfold maxLen; omega) (by omega) (by simp; omega) ?_)
      intro v3 w3 own3 hgrow _
      have X3 : Ext w w3 := own_ext_of (X2.alloc _) (own_alloc O2.out _) hgrow (Nat.le_refl _)
      obtain ⟨a3, c3, rfl⟩ := own_any own3
      have O3 := Lib.hid own3
      clear own3 hgrow
      go_wp2
      go_roundw
      case rel => exact ⟨k + 1, by omega, by go_num, by rw [HSU.out, List.map_append]; exact O3.out, X3⟩
      case measure => simp [intOf]; omega
    · obtain rfl : k = 16 := by omega
      have HO := Lib.hid hown
      clear hown
      go_wp2
      go_ret
      exact ⟨ga, gc, rfl, by unfold OwnStrs; rw [poolK_len]; exact HO.out, hx⟩

set_option maxHeartbeats 1600000 in
theorem impl_SecretOf (seed : ByteArray) (a b v : Int) (w : World) (hs : seed.size ≤ 100) (ha : inB a 0 15 = true) (hb : inB b 0 7 = true) (hv : inB v 0 1 = true) (hT : Tabs w) :
    Calls Tryz.prog 57 #[.string seed, .int .i64 a, .int .i64 b, .int .i64 v] w fun e w' => e = .returned (.string (secT seed a b v)) ∧ Ext w w' := by
  have HT := Lib.hid hT
  clear hT
  obtain ⟨a0, a1⟩ := inB_true.1 ha
  obtain ⟨b0, b1⟩ := inB_true.1 hb
  obtain ⟨v0, v1⟩ := inB_true.1 hv
  have hsi : ¬ (100 : Int) < seed.size := by omega
  have z3 : (strOfNums [a, b, v]).size = 3 := strOfNums_size _
  have ff := fit2 (a := seed) (b := strOfNums [a, b, v]) (by unfold maxLen; omega) (by unfold maxLen; omega)
  have e1 : a % 256 = a := by omega
  have e2 : b % 256 = b := by omega
  have e3 : v % 256 = v := by omega
  have hcv := conv_lit3'
  clear z3
  go_enter Tryz.func57, Tryz.ntmps57
  go_wp2_with (go_at_call 53; refine (impl_in _ _ _ _).mono ?_; rintro e w' ⟨rfl, rfl⟩)
  refine (impl_hashOf 5 _ [seed, strOfNums [a, b, v]] 16 _ (by exact strs_lit (w.alloc (Obj.cells #[.int .u8 a, .int .u8 b, .int .u8 v] 5)) [seed, strOfNums [a, b, v]] 2 _ _ rfl (by rw [World.size_alloc]) (by omega)) ff (by exact HT.out.ext (by repeat (first | (with_reducible first | exact Ext.refl _ | assumption | apply Ext.alloc | apply Ext.drew | apply Ext.drewN | refine Ext.setCell ?_ ?_ _ | refine Ext.trans ?_ (by assumption)) | (show _ ≤ _; first | omega | (dsimp only; omega) | (simp; done) | (simp; omega)))))).mono ?_
  rintro e w1 ⟨rfl, x1⟩
  go_wp2
  go_ret
  exact ⟨rfl, (by repeat (first | (with_reducible first | exact Ext.refl _ | assumption | apply Ext.alloc | apply Ext.drew | apply Ext.drewN | refine Ext.setCell ?_ ?_ _ | refine Ext.trans ?_ (by assumption)) | (show _ ≤ _; first | omega | (dsimp only; omega) | (simp; done) | (simp; omega))))⟩
set_option maxHeartbeats 1600000 in
theorem impl_SecretNo (seed : ByteArray) (a b v : Int) (w : World) (h : pubOk seed a = false) :
    Calls Tryz.prog 57 #[.string seed, .int .i64 a, .int .i64 b, .int .i64 v] w fun e w' => e = .returned (.string ⟨#[]⟩) ∧ w = w' := by
  by_cases hs : seed.size ≤ 100
  · have hsi : ¬ (100 : Int) < seed.size := by omega
    have ha : inB a 0 15 = false := by rw [pubOk, decide_eq_true hs, Bool.true_and] at h; exact h
    clear h
    go_enter Tryz.func57, Tryz.ntmps57
    go_wp2_with (go_at_call 53; refine (impl_in _ _ _ _).mono ?_; rintro e w' ⟨rfl, rfl⟩)
    go_ret
    exact ⟨rfl, rfl⟩
  · have hsi : (100 : Int) < seed.size := by omega
    clear h
    go_enter Tryz.func57, Tryz.ntmps57
    go_wp2
    go_ret
    exact ⟨rfl, rfl⟩
set_option maxRecDepth 100000 in
set_option maxHeartbeats 3200000 in
theorem impl_PublicOf (seed : ByteArray) (a : Int) (w : World) (hT : Tabs w) :
    Calls Tryz.prog 54 #[.string seed, .int .i64 a] w fun e w' => e = .returned (.string (pubT seed a)) ∧ Ext w w' := by
  have HT := Lib.hid hT
  clear hT
  obtain ⟨i0, hi, hz0, hz1, hz2⟩ := info_parts infoStrP
  cases hok : pubOk seed a
  · have HR := Lib.hid (pub_no hok)
    have HOK := Lib.hid hok
    clear hok
    go_enter Tryz.func54, Tryz.ntmps54
    go_wp2
    go_loopw [9] (fun iv wr => iv = .int .i64 0 ∧ Ext w wr) (fun _ _ => 0)
    case atStart => exact ⟨rfl, (by repeat (first | (with_reducible first | exact Ext.refl _ | assumption | apply Ext.alloc | apply Ext.drew | apply Ext.drewN | refine Ext.setCell ?_ ?_ _ | refine Ext.trans ?_ (by assumption)) | (show _ ≤ _; first | omega | (dsimp only; omega) | (simp; done) | (simp; omega))))⟩
    case round =>
      obtain ⟨rfl, hx⟩ := hrel
      go_wp2
      go_loopw [12] (fun iv wr => iv = .int .i64 0 ∧ Ext w wr) (fun _ _ => 0)
      case atStart => exact ⟨rfl, hx⟩
      case round =>
        obtain ⟨rfl, hx⟩ := hrel
        go_wp2_with (go_at_call 57; refine (impl_SecretNo seed a 0 0 _ HOK.out).mono ?_; rintro e w' ⟨rfl, rfl⟩)
        go_ret
        exact ⟨ret_str HR.out.symm, (by repeat (first | (with_reducible first | exact Ext.refl _ | assumption | apply Ext.alloc | apply Ext.drew | apply Ext.drewN | refine Ext.setCell ?_ ?_ _ | refine Ext.trans ?_ (by assumption)) | (show _ ≤ _; first | omega | (dsimp only; omega) | (simp; done) | (simp; omega))))⟩
  · have HR := Lib.hid (pub_yes hok)
    obtain ⟨hs, ha0, ha1⟩ := pubOk_true hok
    have HA := Lib.hid (show inB a 0 15 = true from inB_true.2 ⟨ha0, ha1⟩)
    clear hok
    go_enter Tryz.func54, Tryz.ntmps54
    go_wp2
    go_loopw [5, 9] (fun lv iv wr => ∃ k : Nat, k ≤ 8 ∧ iv = .int .i64 k ∧ wr.ownsRow w.heap.size 9 1 lv (2 * k) ((pubL seed a (2 * k)).map Value.string) ∧ Ext w wr) (fun _ iv _ => 8 - (intOf iv).toNat)
    case atStart => exact ⟨0, by omega, rfl, World.ownsRow_nil _ _ _ _, (by repeat (first | (with_reducible first | exact Ext.refl _ | assumption | apply Ext.alloc | apply Ext.drew | apply Ext.drewN | refine Ext.setCell ?_ ?_ _ | refine Ext.trans ?_ (by assumption)) | (show _ ≤ _; first | omega | (dsimp only; omega) | (simp; done) | (simp; omega))))⟩
    case round =>
      obtain ⟨k, hk, rfl, hown, hx⟩ := hrel
      by_cases hlt : k < 8
      · have hlt' : (k : Int) < 8 := by omega
        have HO := Lib.hid hown
        have hb : inB (k : Int) 0 7 = true := inB_true.2 (by omega)
        have HB := Lib.hid hb
        clear hown hb
        go_wp2
        go_loopw [5, 12] (fun lv iv wr => ∃ j : Nat, j ≤ 2 ∧ iv = .int .i64 j ∧ wr.ownsRow w.heap.size 9 1 lv (2 * k + j) ((pubL seed a (2 * k + j)).map Value.string) ∧ Ext w wr) (fun _ iv _ => 2 - (intOf iv).toNat)
        case atStart => exact ⟨0, by omega, rfl, HO.out, hx⟩
        case round =>
          obtain ⟨j, hj, rfl, hown, hx⟩ := hrel
          obtain ⟨ga, gc, rfl⟩ := own_any hown
          by_cases hj2 : j < 2
          · have hj2' : (j : Int) < 2 := by omega
            have HV := Lib.hid (show inB (j : Int) 0 1 = true from inB_true.2 (by omega))
            have HO := Lib.hid hown
            clear hown
            go_wp2_with fail
            refine (impl_SecretOf seed a k j _ hs HA.out HB.out HV.out (HT.out.ext hx)).mono ?_
            have h16 := sec_16 (seed := seed) a k j hs
            have HSU := Lib.hid (pubL_succ seed a (2 * k + j))
            have HSE := Lib.hid (show lkH (secT seed a (((2 * k + j) / 2 : Nat) : Int) (((2 * k + j) % 2 : Nat) : Int)) = lkH (secT seed a k j) by rw [show (2 * k + j) / 2 = k by omega, show (2 * k + j) % 2 = j by omega])
            generalize secT seed a k j = sec at *
            obtain ⟨n1, n2⟩ := not_empty (s := sec) (by omega)
            rintro e w1 ⟨rfl, x1⟩
            have X1 : Ext w w1 := (by repeat (first | (with_reducible first | exact Ext.refl _ | assumption | apply Ext.alloc | apply Ext.drew | apply Ext.drewN | refine Ext.setCell ?_ ?_ _ | refine Ext.trans ?_ (by assumption)) | (show _ ≤ _; first | omega | (dsimp only; omega) | (simp; done) | (simp; omega))))
            have O1 := Lib.hid (own_ext HO.out x1)
            go_wp2_with fail
            refine (impl_LockOf sec _ (by unfold maxLen; omega) (HT.out.ext X1)).mono ?_
            generalize lkH sec = lk at *
            rintro e w2 ⟨rfl, x2⟩
            have X2 : Ext w w2 := (by repeat (first | (with_reducible first | exact Ext.refl _ | assumption | apply Ext.alloc | apply Ext.drew | apply Ext.drewN | refine Ext.setCell ?_ ?_ _ | refine Ext.trans ?_ (by assumption)) | (show _ ≤ _; first | omega | (dsimp only; omega) | (simp; done) | (simp; omega))))
            have O2 := Lib.hid (own_ext O1.out x2)
            have s2 := X2.size
            clear HO O1
            go_wp2_with (at_builtin; refine wpList_append_own _ rfl (.tmp 22) (.tmp 25) 24 rfl w.heap.size 9 i0 (.string ⟨#[]⟩) 1 16 Tryz.underlying24 hi hz0 hz1 hz2 rfl (by decide) _ _ _ rfl (O2.out.alloc _) ⟨w2.heap.size, 0, none⟩ 1 1 [.string lk] rfl rfl (World.news_of_block (heap_alloc_new w2 _)) (by intro u hu; rw [List.mem_singleton] at hu; rw [hu]; rfl) (by unfold maxLen; omega) (by omega) (by simp; omega) ?_)
            intro v3 w3 own3 hgrow _
            have X3 : Ext w w3 := own_ext_of (X2.alloc _) (own_alloc O2.out _) hgrow (Nat.le_refl _)
            obtain ⟨a3, c3, rfl⟩ := own_any own3
            have O3 := Lib.hid own3
            clear own3 hgrow
            go_wp2
            go_roundw
            case rel => exact ⟨j + 1, by omega, by go_num, by rw [← Nat.add_assoc, HSU.out, HSE.out, List.map_append]; exact O3.out, X3⟩
            case measure => simp [intOf]; omega
          · obtain rfl : j = 2 := by omega
            have HO := Lib.hid hown
            clear hown
            go_wp2
            go_roundw
            case rel => exact ⟨k + 1, by omega, by go_num, by rw [show 2 * (k + 1) = 2 * k + 2 by omega]; exact HO.out, hx⟩
            case measure => simp [intOf]; omega
      · obtain rfl : k = 8 := by omega
        have st : Strs wr _ (pubL seed a 16) := Row.of_owns (show wr.ownsRow w.heap.size 9 1 _ 16 ((pubL seed a 16).map Value.string) from hown)
        have ST := Lib.hid st
        obtain ⟨ga, gc, rfl⟩ := own_any hown
        clear hown st
        go_wp2_with fail
        refine (impl_TagHash 6 _ (pubL seed a 16) 16 _ (by exact ST.out) (fun s hs => by have := pubL_fit seed a 16 s hs; unfold maxLen; omega) (HT.out.ext hx)).mono ?_
        rintro e w1 ⟨rfl, x1⟩
        go_wp2
        go_ret
        exact ⟨ret_str HR.out.symm, (by repeat (first | (with_reducible first | exact Ext.refl _ | assumption | apply Ext.alloc | apply Ext.drew | apply Ext.drewN | refine Ext.setCell ?_ ?_ _ | refine Ext.trans ?_ (by assumption)) | (show _ ≤ _; first | omega | (dsimp only; omega) | (simp; done) | (simp; omega))))⟩
end Go.Proofs.YtkphipgfcbckcaaGreatDoor

namespace Go.Proofs.YtkphipgfcbckcaaGreatDoor
open Go.RowKit

/-- the first string of a list of one -/
theorem strs_first {w : World} {a : Option Addr} {n c : Nat} {ys : List ByteArray} (h : Strs w (.slice a n c) ys) (hn : 0 < ys.length) : ∃ b o, a = some ⟨b, o, none⟩ ∧ b < w.heap.size ∧ w.cell? ⟨b, o, none⟩ = some (.string (ys.getD 0 ⟨#[]⟩)) := by
  obtain ⟨-, a1, c1, hv, -, -, g⟩ := h
  injection hv with e1 e2 e3
  subst e1
  rcases g with g | ⟨b, o, rfl, hb, g⟩
  · omega
  · refine ⟨b, o, rfl, hb, ?_⟩
    have := g 0 (.string (ys.getD 0 ⟨#[]⟩)) (by rw [ba_getD _ _ hn]; simp [hn])
    simpa using this
end Go.Proofs.YtkphipgfcbckcaaGreatDoor

namespace Go.Proofs.YtkphipgfcbckcaaGreatDoor
open Go.RowKit

/-- a slice that is nil outright, or lies somewhere -/
def Solid (v : Value) : Prop := v = .slice none 0 0 ∨ ∃ b o n c, v = .slice (some ⟨b, o, none⟩) n c
theorem own_solid {w : World} {base : Nat} {e : TypeId} {size n : Nat} {v : Value} {xs : List Value} (h : w.ownsRow base e size v n xs) : Solid v := by
  rcases h.2 with ⟨rfl, -⟩ | ⟨g, cap, cur, rfl, -⟩
  · exact Or.inl rfl
  · exact Or.inr ⟨g, 0, n, cap, rfl⟩
theorem cells_news {w : World} {b o : Nat} {flat : List Value} (h : ∀ j u, flat[j]? = some u → w.cell? ⟨b, o + j, none⟩ = some u) : ∀ j u, flat[j]? = some u → w.cell? ((⟨b, o, none⟩ : Addr).add j) = some u := by
  intro j u hj
  have hadd : (⟨b, o, none⟩ : Addr).add j = ⟨b, o + j, none⟩ := by unfold Addr.add; split <;> simp_all
  rw [hadd]
  exact h j u hj
end Go.Proofs.YtkphipgfcbckcaaGreatDoor

namespace Go.Proofs.YtkphipgfcbckcaaGreatDoor
open Go.RowKit

theorem wpList_append_any {P : Program} {w : World} {ops : Array Oper} {rest : List Oper} {o : Oper} {a : Act} {Q : Exit → Act → World → Prop} (hgd : o.guard = none) (s x : Operand) (t : TypeId)
    (ho : o.op = .call { callee := .builtin .append, args := #[s, x], argTypes := #[t, t] })
    (base : Nat) (e : TypeId) (i : TypeInfo) (z : Value) (size bytes : Nat) (ht : P.underlying t = some (.slice e)) (hi : P.info? e = some i) (hz : i.zero = some z)
    (hsize : i.size = size) (hby : i.bytes = bytes) (hzs : z.cells.size = size) (hsz : 0 < size)
    (v : Value) (n : Nat) (xs : List Value) (hs : a.eval s = v) (hown : w.ownsRow base e size v n xs)
    (r : Value) (m : Nat) (news : List Value) (hx : a.eval x = r) (hr : Row w size r m news) (hsol : Solid r) (h1 : ∀ u ∈ news, u.oneCell' = true)
    (h63 : n + m ≤ maxLen) (hbytes : (n + m) * bytes ≤ 140737488355328) (hbase : base ≤ w.heap.size)
    (h : ∀ v' w', w'.ownsRow base e size v' (n + m) (xs ++ news) → w.grownBy w' v.ownBlock → wpList P ops Q rest (a.put o.dst v') w') : wpList P ops Q (o :: rest) a w := by
  obtain ⟨hl, a0, c0, hv, hc, hm, hcase⟩ := hr
  rcases hsol with hv2 | ⟨b, o', n', c', hv2⟩
  · rw [hv2] at hv hx
    injection hv with e1 e2 e3
    subst e2
    have hnil : news = [] := List.eq_nil_of_length_eq_zero (by omega)
    subst hnil
    refine wpList_append_own_none hgd s x t ho base e i size ht hi v n xs hs hown hx ?_
    exact h v w (by simpa using hown) ⟨rfl, rfl, rfl, Nat.le_refl _, fun _ _ _ => rfl⟩
  · rw [hv2] at hv hx
    injection hv with e1 e2 e3
    subst e1 e2 e3
    have hnews : ∀ j u, news[j]? = some u → w.cell? ⟨b, o' + j, none⟩ = some u := by
      rcases hcase with h0 | ⟨b1, o1, he, hb1, g1⟩
      · subst h0
        have hnil : news = [] := List.eq_nil_of_length_eq_zero (by omega)
        subst hnil
        intro j u hj
        simp at hj
      · simp only [Option.some.injEq, Addr.mk.injEq, and_true] at he
        obtain ⟨rfl, rfl⟩ := he
        exact g1
    refine wpList_append_own w hgd s x t ho base e i z size bytes ht hi hz hsize hby hzs hsz v n xs hs hown ⟨b, o', none⟩ _ _ news hx hl (cells_news hnews) h1 h63 hbytes hbase ?_
    intro v' w' h2 h3 _
    exact h v' w' h2 h3
/-- one operation, append: whatever is appended -/
theorem wp_append_any {P : Program} {w : World} {o : Oper} {a : Act} {K : Act → World → Prop} {Q : Exit → Act → World → Prop} (s x : Operand) (t : TypeId)
    (ho : o.op = .call { callee := .builtin .append, args := #[s, x], argTypes := #[t, t] })
    (base : Nat) (e : TypeId) (i : TypeInfo) (z : Value) (size bytes : Nat) (ht : P.underlying t = some (.slice e)) (hi : P.info? e = some i) (hz : i.zero = some z)
    (hsize : i.size = size) (hby : i.bytes = bytes) (hzs : z.cells.size = size) (hsz : 0 < size)
    (v : Value) (n : Nat) (xs : List Value) (hs : a.eval s = v) (hown : w.ownsRow base e size v n xs)
    (r : Value) (m : Nat) (news : List Value) (hx : a.eval x = r) (hr : Row w size r m news) (hsol : Solid r) (h1 : ∀ u ∈ news, u.oneCell' = true)
    (h63 : n + m ≤ maxLen) (hbytes : (n + m) * bytes ≤ 140737488355328) (hbase : base ≤ w.heap.size)
    (h : ∀ a' c' w', w'.ownsRow base e size (.slice a' (n + m) c') (n + m) (xs ++ news) → w.grownBy w' v.ownBlock → ((Value.slice a' (n + m) c').ownBlock = v.ownBlock ∨ (Value.slice a' (n + m) c').ownBlock = some w.heap.size) → K (a.put o.dst (.slice a' (n + m) c')) w') : o.wp P a w K Q := by
  obtain ⟨hl, a0, c0, hv, hc, hm, hcase⟩ := hr
  rcases hsol with hv2 | ⟨b, o', n', c', hv2⟩
  · rw [hv2] at hv hx
    injection hv with e1 e2 e3
    subst e2
    have hnil : news = [] := List.eq_nil_of_length_eq_zero (by omega)
    subst hnil
    obtain ⟨va, vc, rfl⟩ := own_any hown
    have hr := run_append_owned_none (P := P) (w := w) base t o.type e i size ht hi _ n xs hown
    unfold Oper.wp execOp
    simp only [ho, resolve, invoke, builtin, Sem.run_bind, Sem.run_pure, Result.andThen_ok, List.map_toArray, List.map_cons, List.map_nil, hs, hx, hr]
    exact h va vc w (by simpa using hown) ⟨rfl, rfl, rfl, Nat.le_refl _, fun _ _ _ => rfl⟩ (Or.inl rfl)
  · rw [hv2] at hv hx
    injection hv with e1 e2 e3
    subst e1 e2 e3
    have hnews : ∀ j u, news[j]? = some u → w.cell? ⟨b, o' + j, none⟩ = some u := by
      rcases hcase with h0 | ⟨b1, o1, he, hb1, g1⟩
      · subst h0
        have hnil : news = [] := List.eq_nil_of_length_eq_zero (by omega)
        subst hnil
        intro j u hj
        simp at hj
      · simp only [Option.some.injEq, Addr.mk.injEq, and_true] at he
        obtain ⟨rfl, rfl⟩ := he
        exact g1
    obtain ⟨v', w', hr, h2, h3, _, h5⟩ := run_append_own_at (P := P) w base t o.type e i z size bytes ht hi hz hsize hby hzs hsz v n xs hown ⟨b, o', none⟩ n' c' news hl (cells_news hnews) h1 h63 hbytes hbase
    obtain ⟨va, vc, rfl⟩ := own_any h2
    unfold Oper.wp execOp
    simp only [ho, resolve, invoke, builtin, Sem.run_bind, Sem.run_pure, Result.andThen_ok, List.map_toArray, List.map_cons, List.map_nil, hs, hx, hr]
    exact h va vc w' h2 h3 h5
/-- the same, at a step of a region that draws its order -/
theorem step_append_any {P : Program} {w : World} {ops : Array Oper} {o : Oper} {a : Act} {K : Act → World → Prop} {Q : Exit → Act → World → Prop} {E : Prop} (s x : Operand) (t : TypeId)
    (ho : o.op = .call { callee := .builtin .append, args := #[s, x], argTypes := #[t, t] }) (hw : Region.wanted o (yielded ops a.tmps) = true)
    (base : Nat) (e : TypeId) (i : TypeInfo) (z : Value) (size bytes : Nat) (ht : P.underlying t = some (.slice e)) (hi : P.info? e = some i) (hz : i.zero = some z)
    (hsize : i.size = size) (hby : i.bytes = bytes) (hzs : z.cells.size = size) (hsz : 0 < size)
    (v : Value) (n : Nat) (xs : List Value) (hs : a.eval s = v) (hown : w.ownsRow base e size v n xs)
    (r : Value) (m : Nat) (news : List Value) (hx : a.eval x = r) (hr : Row w size r m news) (hsol : Solid r) (h1 : ∀ u ∈ news, u.oneCell' = true)
    (h63 : n + m ≤ maxLen) (hbytes : (n + m) * bytes ≤ 140737488355328) (hbase : base ≤ w.heap.size)
    (h : ∀ a' c' w', w'.ownsRow base e size (.slice a' (n + m) c') (n + m) (xs ++ news) → w.grownBy w' v.ownBlock → ((Value.slice a' (n + m) c').ownBlock = v.ownBlock ∨ (Value.slice a' (n + m) c').ownBlock = some w.heap.size) → K (a.put o.dst (.slice a' (n + m) c')) w') :
    if Region.wanted o (yielded ops a.tmps) = true then Oper.wp P o a w K Q else E := by
  rw [if_pos hw]
  exact wp_append_any s x t ho base e i z size bytes ht hi hz hsize hby hzs hsz v n xs hs hown r m news hx hr hsol h1 h63 hbytes hbase h
theorem Bx.grown {W W' : World} {b : Nat} {cs : List Value} (h : Bx W b cs) {row : Option Nat} (hg : W.grownBy W' row) (hr : row ≠ some b) : Bx W' b cs := by
  have hne : ∀ o, some (⟨b, o, none⟩ : Addr).block ≠ row := fun o e => hr e.symm
  exact ⟨Nat.lt_of_lt_of_le h.1 hg.size, fun j v hj => (hg.cell_far _ h.1 (hne j)).trans (h.2.1 j v hj), fun j => (hg.frozen_far _ h.1 (hne j)).trans (h.2.2 j)⟩
/-- a box, as a row of one or more elements -/
theorem Bx.row {W : World} {b m n c : Nat} {cs : List Value} (h : Bx W b cs) (hl : cs.length = m * n) (hc : m ≤ c) (hm : c ≤ maxLen) : Row W n (.slice (some ⟨b, 0, none⟩) m c) m cs :=
  ⟨hl, some ⟨b, 0, none⟩, c, rfl, hc, hm, Or.inr ⟨b, 0, rfl, h.1, fun j u hj => by rw [Nat.zero_add]; exact h.2.1 j u hj⟩⟩
theorem solid_some (b o n c : Nat) : Solid (.slice (some ⟨b, o, none⟩) n c) := Or.inr ⟨b, o, n, c, rfl⟩
end Go.Proofs.YtkphipgfcbckcaaGreatDoor

namespace Go.Proofs.YtkphipgfcbckcaaGreatDoor
open Go.RowKit

/-- the root of a pool -/
def poolRt (xs : List ByteArray) : ByteArray := if xs.length = 16 then topT 16 4 xs else ⟨#[]⟩
theorem poolRt_yes {xs : List ByteArray} (h : xs.length = 16) : poolRt xs = topT 16 4 xs := by rw [poolRt, if_pos h]
theorem poolRt_no {xs : List ByteArray} (h : ¬ xs.length = 16) : poolRt xs = ⟨#[]⟩ := by rw [poolRt, if_neg h]
theorem up_fit (xs : List ByteArray) (wd : Int) (k : Nat) : ∀ s ∈ upK xs wd k, s.size ≤ maxLen := fun s hs => by have := upK_fit xs wd k s hs; unfold maxLen; omega
set_option maxRecDepth 100000 in
set_option maxHeartbeats 1600000 in
theorem impl_above2 (v : Value) (xs : List ByteArray) (wd : Int) (w : World) (h : Strs w v xs) (hs : ∀ s ∈ xs, s.size ≤ maxLen) (hb : xs.length ≤ 1000) (hT : Tabs w) :
    Calls Tryz.prog 59 #[v, .int .i64 wd] w fun e w' => ∃ a c, e = .returned (.slice a (upL xs wd).length c) ∧ OwnStrs w' w.heap.size (.slice a (upL xs wd).length c) (upL xs wd) ∧ Ext w w' := by
  have HT := Lib.hid hT
  clear hT
  obtain ⟨i0, hi, hz0, hz1, hz2⟩ := info_parts infoString
  obtain ⟨-, a1, c1, rfl, hc1, hm1, g1⟩ := h
  unfold maxLen at hm1
  go_enter Tryz.func59, Tryz.ntmps59
  go_wp2
  go_loopw [5, 6] (fun v ii wr => ∃ k m : Nat, m = 2 * k ∧ m ≤ xs.length ∧ ii = .int .i64 m ∧ wr.ownsRow w.heap.size 9 1 v (upK xs wd k).length ((upK xs wd k).map Value.string) ∧ Ext w wr) (fun _ ii _ => xs.length - (intOf ii).toNat)
  case atStart => exact ⟨0, 0, rfl, Nat.zero_le _, rfl, World.ownsRow_nil _ _ _ _, (by repeat (first | (with_reducible first | exact Ext.refl _ | assumption | apply Ext.alloc | apply Ext.drew | apply Ext.drewN | refine Ext.setCell ?_ ?_ _ | refine Ext.trans ?_ (by assumption)) | (show _ ≤ _; first | omega | (dsimp only; omega) | (simp; done) | (simp; omega))))⟩
  case round =>
    obtain ⟨k, m, hm2, hk, rfl, hown, hx⟩ := hrel
    obtain ⟨a, c, rfl⟩ := own_any hown
    have hsz := hx.size
    have HM := Lib.hid hm2
    clear hm2
    have ws : IntKind.i64.wrap ((m : Int) + 1) = (m : Int) + 1 := IntWalk.i64_in _ (by omega)
    have HK := Lib.hid (upK_length xs wd k)
    by_cases hlt : m + 1 < xs.length
    · rcases g1 with g1 | ⟨b1, o1, rfl, hb1, g1⟩
      · omega
      have f1 := Lib.hid (g1 m (.string xs[m]) (by simp; try omega))
      have f2 := Lib.hid (g1 (m + 1) (.string xs[m + 1]) (by simp; try omega))
      have j0 : (0 : Int) ≤ (m : Int) := by omega
      have j1 : (m : Int) < xs.length := by omega
      have j2 : (0 : Int) ≤ (m : Int) + 1 := by omega
      have j3 : (m : Int) + 1 < xs.length := by omega
      have j4 : ((m : Int) + 1).toNat = m + 1 := by omega
      have e1 : wr.cell? ⟨b1, o1 + m, none⟩ = some (.string xs[m]) := (hx.cell b1 _ hb1).trans f1.out
      have e2 : wr.cell? ⟨b1, o1 + (m + 1), none⟩ = some (.string xs[m + 1]) := (hx.cell b1 _ hb1).trans f2.out
      have HU := Lib.hid (upK_succ xs wd k m HM.out hlt)
      have HO := Lib.hid hown
      have ff := fit2 (hs xs[m] (List.getElem_mem _)) (hs xs[m + 1] (List.getElem_mem _))
      have l1 : b1 < wr.heap.size := Nat.lt_of_lt_of_le hb1 hx.size
      clear g1 hown
      go_wp2_with fail
      generalize hA : xs[m] = A at *
      generalize hB : xs[m + 1] = B at *
      go_region_held3 (fun W => W.cell? ⟨b1, o1 + m, none⟩ = some (.string A) ∧ W.cell? ⟨b1, o1 + (m + 1), none⟩ = some (.string B)) (first | exact ⟨e1, e2⟩ | exact ⟨cell_newp e1 l1, cell_newp e2 l1⟩ | exact ⟨d1, d2⟩ | exact ⟨cell_newp d1 l2, cell_newp d2 l2⟩ | exact ⟨(y9.cell b1 _ hb1).trans f1.out, (y9.cell b1 _ hb1).trans f2.out⟩) (first | (go_at_call 61; refine (impl_hashOf 3 _ [A, B] wd _ (by exact strs_lit2 wr.drew _ _ _) ff (by exact HT.out.ext (by repeat (first | (with_reducible first | exact Ext.refl _ | assumption | apply Ext.alloc | apply Ext.drew | apply Ext.drewN | refine Ext.setCell ?_ ?_ _ | refine Ext.trans ?_ (by assumption)) | (show _ ≤ _; first | omega | (dsimp only; omega) | (simp; done) | (simp; omega)))))).mono ?_; rintro e w1 ⟨rfl, x1⟩; have y1 : Ext wr w1 := (by repeat (first | (with_reducible first | exact Ext.refl _ | assumption | apply Ext.alloc | apply Ext.drew | apply Ext.drewN | refine Ext.setCell ?_ ?_ _ | refine Ext.trans ?_ (by assumption)) | (show _ ≤ _; first | omega | (dsimp only; omega) | (simp; done) | (simp; omega)))); have l2 := Nat.lt_of_lt_of_le l1 y1.size; have d1 := (y1.cell _ _ l1).trans e1; have d2 := (y1.cell _ _ l1).trans e2) | (refine step_append_lies _ rfl (.tmp 14) (.tmp 27) 24 (by rfl) w.heap.size 9 i0 (.string ⟨#[]⟩) 1 16 Tryz.underlying24 hi hz0 hz1 hz2 rfl (by decide) _ _ _ (by rfl) (own_alloc (own_ext HO.out y1) _) ⟨w1.heap.size, 0, none⟩ 1 1 [.string (tagH 3 [A, B] wd)] (by rfl) rfl (World.news_of_block (heap_alloc_new w1 (Obj.cells #[Value.string (tagH 3 [A, B] wd)] 9))) (by intro u hu; simp at hu; rcases hu with rfl; rfl) (by decide) (by have := HM.out; have := HK.out; unfold maxLen; omega) (by have := HM.out; have := HK.out; omega) (by have := y1.size; simp; omega) _ rfl ?_; intro g cap w9 hown9 hgrow _ _; have y9 : Ext w w9 := own_ext_of ((hx.trans y1).alloc _) (own_alloc (own_ext HO.out y1) _) hgrow (Nat.le_refl _)))
      have HO9 := Lib.hid hown9
      clear hown9 hgrow
      go_wp2
      go_roundw
      case rel => exact ⟨k + 1, m + 2, by have := HM.out; omega, by omega, by go_num, by rw [HU.out, List.length_append, List.map_append]; simpa using HO9.out, y9⟩
      case measure => simp [intOf]; omega
    · have hkn : k = xs.length / 2 := by have := HM.out; omega
      have hL : upK xs wd k = upL xs wd := by rw [hkn]; rfl
      have HL := Lib.hid hL
      have HO := Lib.hid hown
      clear g1 hL hown
      go_wp2
      go_ret
      refine ⟨a, c, ?_, ?_, hx⟩
      · rw [← HL.out]; rfl
      · rw [← HL.out]; exact HO.out
set_option maxRecDepth 100000 in
set_option maxHeartbeats 1600000 in
theorem spec_l05Up (v : Value) (xs : List ByteArray) (w : World) (h : Strs w v xs) (hs : ∀ s ∈ xs, s.size ≤ maxLen) (hb : xs.length ≤ 1000) :
    Calls Tryz.prog 66 #[v] w fun e w' => ∃ a c, e = .returned (.slice a (upL xs 16).length c) ∧ OwnStrs w' w.heap.size (.slice a (upL xs 16).length c) (upL xs 16) ∧ Ext w w' := by
  obtain ⟨i0, hi, hz0, hz1, hz2⟩ := info_parts infoString
  obtain ⟨-, a1, c1, rfl, hc1, hm1, g1⟩ := h
  unfold maxLen at hm1
  go_enter Tryz.func66, Tryz.ntmps66
  go_wp2
  go_loopw [3, 4] (fun v ii wr => ∃ k m : Nat, m = 2 * k ∧ m ≤ xs.length ∧ ii = .int .i64 m ∧ wr.ownsRow w.heap.size 9 1 v (upK xs 16 k).length ((upK xs 16 k).map Value.string) ∧ Ext w wr) (fun _ ii _ => xs.length - (intOf ii).toNat)
  case atStart => exact ⟨0, 0, rfl, Nat.zero_le _, rfl, World.ownsRow_lit w #[] 0 (Nat.le_refl _) (Nat.zero_le _) rfl, (by repeat (first | (with_reducible first | exact Ext.refl _ | assumption | apply Ext.alloc | apply Ext.drew | apply Ext.drewN | refine Ext.setCell ?_ ?_ _ | refine Ext.trans ?_ (by assumption)) | (show _ ≤ _; first | omega | (dsimp only; omega) | (simp; done) | (simp; omega))))⟩
  case round =>
    obtain ⟨k, m, hm2, hk, rfl, hown, hx⟩ := hrel
    obtain ⟨a, c, rfl⟩ := own_any hown
    have hsz := hx.size
    have HM := Lib.hid hm2
    clear hm2
    have ws : IntKind.i64.wrap ((m : Int) + 1) = (m : Int) + 1 := IntWalk.i64_in _ (by omega)
    have HK := Lib.hid (upK_length xs 16 k)
    by_cases hlt : m + 1 < xs.length
    · rcases g1 with g1 | ⟨b1, o1, rfl, hb1, g1⟩
      · omega
      have f1 := Lib.hid (g1 m (.string xs[m]) (by simp; try omega))
      have f2 := Lib.hid (g1 (m + 1) (.string xs[m + 1]) (by simp; try omega))
      have j0 : (0 : Int) ≤ (m : Int) := by omega
      have j1 : (m : Int) < xs.length := by omega
      have j2 : (0 : Int) ≤ (m : Int) + 1 := by omega
      have j3 : (m : Int) + 1 < xs.length := by omega
      have j4 : ((m : Int) + 1).toNat = m + 1 := by omega
      have e1 : wr.cell? ⟨b1, o1 + m, none⟩ = some (.string xs[m]) := (hx.cell b1 _ hb1).trans f1.out
      have e2 : wr.cell? ⟨b1, o1 + (m + 1), none⟩ = some (.string xs[m + 1]) := (hx.cell b1 _ hb1).trans f2.out
      have HU := Lib.hid (upK_succ xs 16 k m HM.out hlt)
      have HO := Lib.hid hown
      have ff := fit2 (hs xs[m] (List.getElem_mem _)) (hs xs[m + 1] (List.getElem_mem _))
      have l1 : b1 < wr.heap.size := Nat.lt_of_lt_of_le hb1 hx.size
      clear g1 hown
      go_wp2_with fail
      generalize hA : xs[m] = A at *
      generalize hB : xs[m + 1] = B at *
      go_region_held3 (fun W => W.cell? ⟨b1, o1 + m, none⟩ = some (.string A) ∧ W.cell? ⟨b1, o1 + (m + 1), none⟩ = some (.string B)) (first | exact ⟨e1, e2⟩ | exact ⟨cell_newp e1 l1, cell_newp e2 l1⟩ | exact ⟨d1, d2⟩ | exact ⟨cell_newp d1 l2, cell_newp d2 l2⟩ | exact ⟨(y9.cell b1 _ hb1).trans f1.out, (y9.cell b1 _ hb1).trans f2.out⟩) (first | (go_at_call 68; refine (spec_TagHash 3 _ [A, B] 16 _ (by exact strs_lit2 wr.drew _ _ _) ff).mono ?_; rintro e w1 ⟨rfl, x1⟩; have y1 : Ext wr w1 := (by repeat (first | (with_reducible first | exact Ext.refl _ | assumption | apply Ext.alloc | apply Ext.drew | apply Ext.drewN | refine Ext.setCell ?_ ?_ _ | refine Ext.trans ?_ (by assumption)) | (show _ ≤ _; first | omega | (dsimp only; omega) | (simp; done) | (simp; omega)))); have l2 := Nat.lt_of_lt_of_le l1 y1.size; have d1 := (y1.cell _ _ l1).trans e1; have d2 := (y1.cell _ _ l1).trans e2) | (refine step_append_lies _ rfl (.tmp 13) (.tmp 25) 24 (by rfl) w.heap.size 9 i0 (.string ⟨#[]⟩) 1 16 Tryz.underlying24 hi hz0 hz1 hz2 rfl (by decide) _ _ _ (by rfl) (own_alloc (own_ext HO.out y1) _) ⟨w1.heap.size, 0, none⟩ 1 1 [.string (tagH 3 [A, B] 16)] (by rfl) rfl (World.news_of_block (heap_alloc_new w1 (Obj.cells #[Value.string (tagH 3 [A, B] 16)] 9))) (by intro u hu; simp at hu; rcases hu with rfl; rfl) (by decide) (by have := HM.out; have := HK.out; unfold maxLen; omega) (by have := HM.out; have := HK.out; omega) (by have := y1.size; simp; omega) _ rfl ?_; intro g cap w9 hown9 hgrow _ _; have y9 : Ext w w9 := own_ext_of ((hx.trans y1).alloc _) (own_alloc (own_ext HO.out y1) _) hgrow (Nat.le_refl _)))
      have HO9 := Lib.hid hown9
      clear hown9 hgrow
      go_wp2
      go_roundw
      case rel => exact ⟨k + 1, m + 2, by have := HM.out; omega, by omega, by go_num, by rw [HU.out, List.length_append, List.map_append]; simpa using HO9.out, y9⟩
      case measure => simp [intOf]; omega
    · have hkn : k = xs.length / 2 := by have := HM.out; omega
      have hL : upK xs 16 k = upL xs 16 := by rw [hkn]; rfl
      have HL := Lib.hid hL
      have HO := Lib.hid hown
      clear g1 hL hown
      go_wp2
      go_ret
      refine ⟨a, c, ?_, ?_, hx⟩
      · rw [← HL.out]; rfl
      · rw [← HL.out]; exact HO.out

set_option maxRecDepth 100000 in
set_option maxHeartbeats 1600000 in
theorem spec_PoolRoot (v : Value) (xs : List ByteArray) (w : World) (h : Strs w v xs) (hs : ∀ s ∈ xs, s.size ≤ maxLen) (hsol : Solid v) :
    Calls Tryz.prog 88 #[v] w fun e w' => e = .returned (.string (poolRt xs)) ∧ Ext w w' := by
  obtain ⟨i0, hi, hz0, hz1, hz2⟩ := info_parts infoString
  obtain ⟨a, c, rfl⟩ := h.form
  by_cases hl : ¬ xs.length = 16
  · have hn1 : ((xs.length : Int) != 16) = true := by simp; omega
    have hn2 : ¬ ((xs.length : Int) = 16) := by omega
    have HR := Lib.hid (poolRt_no hl)
    clear hl
    go_enter Tryz.func88, Tryz.ntmps88
    go_wp2
    go_ret
    exact ⟨ret_str HR.out.symm, (by repeat (first | (with_reducible first | exact Ext.refl _ | assumption | apply Ext.alloc | apply Ext.drew | apply Ext.drewN | refine Ext.setCell ?_ ?_ _ | refine Ext.trans ?_ (by assumption)) | (show _ ≤ _; first | omega | (dsimp only; omega) | (simp; done) | (simp; omega))))⟩
  replace hl : xs.length = 16 := by omega
  have hn1 : ((xs.length : Int) != 16) = false := by simp; omega
  have hmax : xs.length ≤ 16 := by omega
  have R := Lib.hid (poolRt_yes hl)
  have HLL := Lib.hid hl
  clear hl
  have HR := Lib.hid (h.ext (show Ext w (w.alloc (Obj.cells #[] 9)) from (by repeat (first | (with_reducible first | exact Ext.refl _ | assumption | apply Ext.alloc | apply Ext.drew | apply Ext.drewN | refine Ext.setCell ?_ ?_ _ | refine Ext.trans ?_ (by assumption)) | (show _ ≤ _; first | omega | (dsimp only; omega) | (simp; done) | (simp; omega))))))
  have OL := World.ownsRow_lit (base := w.heap.size) (e := 9) (size := 1) w #[] 0 (Nat.le_refl _) (Nat.zero_le _) rfl
  go_enter Tryz.func88, Tryz.ntmps88
  go_wp2_with (at_builtin; refine wpList_append_any rfl (.tmp 7) (.tmp 8) 24 rfl w.heap.size 9 i0 _ 1 16 Tryz.underlying24 hi hz0 hz1 hz2 rfl (by decide) _ _ _ rfl OL _ xs.length (xs.map Value.string) rfl HR.out hsol (by intro u hu; rw [List.mem_map] at hu; obtain ⟨t, -, rfl⟩ := hu; rfl) (by unfold maxLen; omega) (by omega) (by rw [World.size_alloc]; omega) ?_)
  intro v' w3 own3 hgrow
  have hx3 : Ext w w3 := own_ext_of ((Ext.refl w).alloc _) OL hgrow (Nat.le_refl _)
  have s3 : Strs w3 v' xs := by have := Row.of_owns own3; simpa [Strs] using this
  clear own3 hgrow OL HR
  obtain ⟨a3, c3, rfl⟩ := s3.form
  go_wp2
  go_loopw [3] (fun lv wr => ∃ n ys, Strs wr lv ys ∧ ys.length = 2 ^ n ∧ n ≤ 4 ∧ topT 16 n ys = topT 16 4 xs ∧ (∀ s ∈ ys, s.size ≤ maxLen) ∧ Ext w wr) (fun lv _ => lenOf lv)
  case atStart => exact ⟨4, xs, s3, HLL.out, Nat.le_refl _, rfl, hs, hx3⟩
  case round =>
    obtain ⟨n, ys, hst, hyl, hn2, htop, hfit, hx⟩ := hrel
    obtain ⟨a', c', rfl⟩ := hst.form
    cases n with
    | zero =>
      have hy1 : ys.length = 1 := hyl
      have hgt : ¬ ((1 : Int) < ys.length) := by omega
      have hin : (0 : Int) < ys.length := by omega
      obtain ⟨b1, o1, rfl, hb1, e0⟩ := strs_first hst (by omega)
      have HH := Lib.hid htop
      clear htop
      go_wp2
      go_ret
      exact ⟨ret_str (by rw [R.out, ← HH.out]; exact (ba_getD ys 0 (by omega) _).symm), hx⟩
    | succ n =>
      have hp : 0 < 2 ^ n := Nat.pow_pos (by decide)
      rw [Nat.pow_succ] at hyl
      have hgt : (1 : Int) < ys.length := by omega
      have hul : (upL ys 16).length = 2 ^ n := by rw [upL_length]; omega
      have hb : ys.length ≤ 1000 := by
        have : 2 ^ n ≤ 2 ^ 3 := Nat.pow_le_pow_right (by decide) (by omega)
        omega
      have HU := Lib.hid hul
      have HH := Lib.hid (show topT 16 n (upL ys 16) = topT 16 4 xs from htop)
      have hlt : (upL ys 16).length < ys.length := by omega
      clear htop hul hyl hp
      go_wp2_with fail
      refine (spec_l05Up _ ys _ hst hfit hb).mono ?_
      rintro e w2 ⟨a2, c2, rfl, o2, x2⟩
      have s2 := o2.strs
      clear o2
      have hx2 : Ext w w2 := (by repeat (first | (with_reducible first | exact Ext.refl _ | assumption | apply Ext.alloc | apply Ext.drew | apply Ext.drewN | refine Ext.setCell ?_ ?_ _ | refine Ext.trans ?_ (by assumption)) | (show _ ≤ _; first | omega | (dsimp only; omega) | (simp; done) | (simp; omega))))
      go_wp2
      go_roundw
      case rel => exact ⟨n, upL ys 16, s2, HU.out, by omega, HH.out, up_fit _ _ _, hx2⟩
      case measure => exact hlt
end Go.Proofs.YtkphipgfcbckcaaGreatDoor

namespace Go.Proofs.YtkphipgfcbckcaaGreatDoor
open Go.RowKit

end Go.Proofs.YtkphipgfcbckcaaGreatDoor

namespace Go.Proofs.YtkphipgfcbckcaaGreatDoor
open Go.RowKit

structure Leaf where
  name : ByteArray
  value : ByteArray
  deriving DecidableEq

def Leaf.cells (l : Leaf) : List Value := [.string l.name, .string l.value]
theorem Leaf.cells_len (l : Leaf) : l.cells.length = 2 := rfl
def Lvs (w : World) (v : Value) (xs : List Leaf) : Prop := Row w 2 v xs.length (xs.flatMap Leaf.cells)
theorem Lvs.ext {w w' : World} {v : Value} {xs : List Leaf} (h : Lvs w v xs) (hx : Ext w w') : Lvs w' v xs := Row.ext h hx
theorem Lvs.form {w : World} {v : Value} {xs : List Leaf} (h : Lvs w v xs) : ∃ a c, v = .slice a xs.length c := by
  obtain ⟨-, a, c, rfl, -⟩ := h
  exact ⟨a, c, rfl⟩
end Go.Proofs.YtkphipgfcbckcaaGreatDoor
namespace Go.Proofs.YtkphipgfcbckcaaGreatDoor
open Go.RowKit

end Go.Proofs.YtkphipgfcbckcaaGreatDoor
namespace Go.Proofs.YtkphipgfcbckcaaGreatDoor
open Go.RowKit

end Go.Proofs.YtkphipgfcbckcaaGreatDoor
namespace Go.Proofs.YtkphipgfcbckcaaGreatDoor
open Go.RowKit

end Go.Proofs.YtkphipgfcbckcaaGreatDoor
namespace Go.Proofs.YtkphipgfcbckcaaGreatDoor
open Go.RowKit

def lss (a b : ByteArray) : Bool := Op.bytesLess a.toList b.toList
def Srt (xs : List Leaf) : Prop := xs.Pairwise fun a b => lss a.name b.name = true
end Go.Proofs.YtkphipgfcbckcaaGreatDoor

namespace Go.Proofs.YtkphipgfcbckcaaGreatDoor
open Go.RowKit

end Go.Proofs.YtkphipgfcbckcaaGreatDoor
namespace Go.Proofs.YtkphipgfcbckcaaGreatDoor
open Go.RowKit

end Go.Proofs.YtkphipgfcbckcaaGreatDoor

namespace Go.Proofs.YtkphipgfcbckcaaGreatDoor
open Go.RowKit

end Go.Proofs.YtkphipgfcbckcaaGreatDoor

namespace Go.Proofs.YtkphipgfcbckcaaGreatDoor
open Go.RowKit

/-- the place beside -/
def besideN (s : Nat) : Nat := if s % 2 = 0 then s + 1 else s - 1
theorem beside_lt {s p : Nat} (h : s < p * 2) : besideN s < p * 2 := by unfold besideN; split <;> omega
def sideT (wd : Int) : Nat → Nat → List ByteArray → List ByteArray
  | 0, _, _ => []
  | n + 1, s, ys => ys.getD (besideN s) ⟨#[]⟩ :: sideT wd n (s / 2) (upL ys wd)
theorem sideT_length (wd : Int) : ∀ n s ys, (sideT wd n s ys).length = n
  | 0, _, _ => rfl
  | n + 1, s, ys => by rw [sideT, List.length_cons, sideT_length]
/-- a string of a list -/
theorem strs_at {w : World} {a : Option Addr} {n c : Nat} {ys : List ByteArray} (h : Strs w (.slice a n c) ys) (t : Nat) (hn : t < ys.length) : ∃ b o, a = some ⟨b, o, none⟩ ∧ b < w.heap.size ∧ w.cell? ⟨b, o + t, none⟩ = some (.string (ys.getD t ⟨#[]⟩)) := by
  obtain ⟨-, a1, c1, hv, -, -, g⟩ := h
  injection hv with e1 e2 e3
  subst e1
  rcases g with g | ⟨b, o, rfl, hb, g⟩
  · omega
  · refine ⟨b, o, rfl, hb, ?_⟩
    exact g t (.string (ys.getD t ⟨#[]⟩)) (by rw [ba_getD _ _ hn]; simp [hn])
end Go.Proofs.YtkphipgfcbckcaaGreatDoor

namespace Go.Proofs.YtkphipgfcbckcaaGreatDoor
open Go.RowKit

def SigOwn (w : World) (base : Nat) (v1 v2 v3 : Value) (s : SigV) : Prop := OwnStrs w base v1 s.op ∧ OwnStrs w base v2 s.sh ∧ OwnStrs w base v3 s.si ∧ Off v1 v2 ∧ Off v1 v3 ∧ Off v2 v3
theorem SigOwn.ext {w w' : World} {base : Nat} {v1 v2 v3 : Value} {s : SigV} (h : SigOwn w base v1 v2 v3 s) (hx : Ext w w') : SigOwn w' base v1 v2 v3 s := ⟨h.1.ext hx, h.2.1.ext hx, h.2.2.1.ext hx, h.2.2.2⟩
theorem SigOwn.mono {w : World} {base b' : Nat} {v1 v2 v3 : Value} {s : SigV} (h : SigOwn w base v1 v2 v3 s) (hb : b' ≤ base) : SigOwn w b' v1 v2 v3 s := ⟨h.1.mono hb, h.2.1.mono hb, h.2.2.1.mono hb, h.2.2.2⟩
theorem off_nil (v : Value) : Off v (.slice none 0 0) := fun g _ e => by cases e
theorem nil_off (v : Value) : Off (.slice none 0 0) v := fun g e => by cases e
theorem sigOwn_nil (w : World) (base : Nat) : SigOwn w base (.slice none 0 0) (.slice none 0 0) (.slice none 0 0) ⟨0, [], [], []⟩ := ⟨World.ownsRow_nil _ _ _ _, World.ownsRow_nil _ _ _ _, World.ownsRow_nil _ _ _ _, off_nil _, off_nil _, off_nil _⟩
theorem SigOwn.below4 {w : World} {base b : Nat} {v1 v2 v3 : Value} {s : SigV} (h : SigOwn w base v1 v2 v3 s) (hb : b < base) (x0 x1 x2 x3 : Value) : SigOwn ((((w.setCell ⟨b, 0, none⟩ x0).setCell ⟨b, 1, none⟩ x1).setCell ⟨b, 2, none⟩ x2).setCell ⟨b, 3, none⟩ x3) base v1 v2 v3 s := by
  have b4 := fun (e : List Value) (v : Value) (n : Nat) (ho : w.ownsRow base 9 1 v n e) => own_below (own_below (own_below (own_below ho (p := ⟨b, 0, none⟩) (u := x0) hb) (p := ⟨b, 1, none⟩) (u := x1) hb) (p := ⟨b, 2, none⟩) (u := x2) hb) (p := ⟨b, 3, none⟩) (u := x3) hb
  exact ⟨b4 _ _ _ h.1, b4 _ _ _ h.2.1, b4 _ _ _ h.2.2.1, h.2.2.2⟩
theorem own_set {w : World} {base b o : Nat} {e : TypeId} {n len : Nat} {v : Value} {l : List Value} (h : w.ownsRow base e n v len l) (hb : b < base) (x : Value) : (w.setCell ⟨b, o, none⟩ x).ownsRow base e n v len l := own_below h (p := ⟨b, o, none⟩) (u := x) hb
theorem SigOwn.set {w : World} {base b : Nat} {v1 v2 v3 : Value} {s : SigV} (h : SigOwn w base v1 v2 v3 s) (hb : b < base) (o : Nat) (x : Value) : SigOwn (w.setCell ⟨b, o, none⟩ x) base v1 v2 v3 s := ⟨own_set h.1 hb x, own_set h.2.1 hb x, own_set h.2.2.1 hb x, h.2.2.2⟩
/-- a row that is read lies in no block from base on -/
theorem own_far {w : World} {base b o : Nat} {e : TypeId} {n len : Nat} {v : Value} {l : List Value} (h : w.ownsRow base e n v len l) (hb : ∀ k, v.ownBlock = some k → k ≠ b) (x : Value) : (w.setCell ⟨b, o, none⟩ x).ownsRow base e n v len l := own_grown2 h (row := some b) ⟨rfl, rfl, rfl, by simp [World.setCell], fun k _ hk => Below.heap_setCell _ _ _ _ (by simpa using hk)⟩ (fun k hk e => by cases hk; exact hb _ e rfl)
theorem SigOwn.far {w : World} {base b : Nat} {v1 v2 v3 : Value} {s : SigV} (h : SigOwn w base v1 v2 v3 s) (h1 : ∀ k, v1.ownBlock = some k → k ≠ b) (h2 : ∀ k, v2.ownBlock = some k → k ≠ b) (h3 : ∀ k, v3.ownBlock = some k → k ≠ b) (o : Nat) (x : Value) : SigOwn (w.setCell ⟨b, o, none⟩ x) base v1 v2 v3 s := ⟨own_far h.1 h1 x, own_far h.2.1 h2 x, own_far h.2.2.1 h3 x, h.2.2.2⟩
theorem Bx.mut {W W' : World} {c b : Nat} {cs : List Value} (h : Bx W c cs) (hm : Mut b W W') (hc : c ≠ b) : Bx W' c cs :=
  ⟨Nat.lt_of_lt_of_le h.1 hm.size, fun j v hj => (hm.cell _ _ h.1 hc).trans (h.2.1 j v hj), fun j => (hm.frozen _ _ h.1 hc).trans (h.2.2 j)⟩
theorem Bx.grew {W W' : World} {b : Nat} {cs : List Value} (h : Bx W b cs) {row : Option Nat} (hg : W.grownBy W' row) (hr : row ≠ some b) : Bx W' b cs := by
  have hne : ∀ o, some (⟨b, o, none⟩ : Addr).block ≠ row := fun o e => hr e.symm
  exact ⟨Nat.lt_of_lt_of_le h.1 hg.size, fun j v hj => (hg.cell_far _ h.1 (hne j)).trans (h.2.1 j v hj), fun j => (hg.frozen_far _ h.1 (hne j)).trans (h.2.2 j)⟩
end Go.Proofs.YtkphipgfcbckcaaGreatDoor

namespace Go.Proofs.YtkphipgfcbckcaaGreatDoor
open Go.RowKit

def sgnOpK (seed : ByteArray) (a : Int) (text : ByteArray) (n : Nat) : List ByteArray := (List.range n).map fun j : Nat => secT seed a (j : Int) (bitT (sgIdx text) (j : Int))
def sgnShK (seed : ByteArray) (a : Int) (text : ByteArray) (n : Nat) : List ByteArray := (List.range n).map fun j : Nat => lkH (secT seed a (j : Int) (1 - bitT (sgIdx text) (j : Int)))
def sgnOk (seed : ByteArray) (pool : List ByteArray) (a : Int) (text : ByteArray) : Bool := decide (pool.length = 16) && (inB a 0 15 && (decide (text.size ≤ 200) && (decide (seed.size ≤ 100) && decide (pubT seed a = pool.getD a.toNat ⟨#[]⟩))))
/-- the signature -/
def sgnV (seed : ByteArray) (pool : List ByteArray) (a : Int) (text : ByteArray) : SigV := if sgnOk seed pool a text = true then ⟨a, sgnOpK seed a text 8, sgnShK seed a text 8, sideT 16 4 a.toNat pool⟩ else ⟨0, [], [], []⟩
theorem sgn_no {seed : ByteArray} {pool : List ByteArray} {a : Int} {text : ByteArray} (h : sgnOk seed pool a text = false) : sgnV seed pool a text = ⟨0, [], [], []⟩ := by rw [sgnV, if_neg (by rw [h]; decide)]
theorem sgn_yes {seed : ByteArray} {pool : List ByteArray} {a : Int} {text : ByteArray} (h : sgnOk seed pool a text = true) : sgnV seed pool a text = ⟨a, sgnOpK seed a text 8, sgnShK seed a text 8, sideT 16 4 a.toNat pool⟩ := by rw [sgnV, if_pos h]
theorem sgnOk_true {seed : ByteArray} {pool : List ByteArray} {a : Int} {text : ByteArray} (h : sgnOk seed pool a text = true) : pool.length = 16 ∧ (0 ≤ a ∧ a ≤ 15) ∧ text.size ≤ 200 ∧ seed.size ≤ 100 ∧ pubT seed a = pool.getD a.toNat ⟨#[]⟩ := by
  simp only [sgnOk, Bool.and_eq_true, decide_eq_true_eq, inB_true] at h
  exact h
theorem sgnOp_len (seed a text n) : (sgnOpK seed a text n).length = n := by simp [sgnOpK]
theorem sgnSh_len (seed a text n) : (sgnShK seed a text n).length = n := by simp [sgnShK]
theorem sgnOp_succ (seed a text) (n : Nat) : sgnOpK seed a text (n + 1) = sgnOpK seed a text n ++ [secT seed a (n : Int) (bitT (sgIdx text) (n : Int))] := by simp [sgnOpK, List.range_succ]
theorem sgnSh_succ (seed a text) (n : Nat) : sgnShK seed a text (n + 1) = sgnShK seed a text n ++ [lkH (secT seed a (n : Int) (1 - bitT (sgIdx text) (n : Int)))] := by simp [sgnShK, List.range_succ]
theorem off_lies {v v' r : Value} {g H : Nat} (h : Off v r) (hv : v'.ownBlock = some g) (hat : v.ownBlock = some g ∨ g = H) (hb : ∀ k, r.ownBlock = some k → k < H) : Off v' r := by
  intro k hk e
  rw [hv] at hk
  injection hk with hk
  rcases hat with h1 | h1
  · exact h g h1 (by rw [hk]; exact e)
  · have := hb k e; omega
theorem beside16 : ∀ s : Fin 16, bits .xor .i64 ((s.val : Nat) : Int) 1 = (besideN s.val : Int) := by decide +kernel
theorem Off.symm {v r : Value} (h : Off v r) : Off r v := fun g hg e => h g e hg
end Go.Proofs.YtkphipgfcbckcaaGreatDoor

namespace Go.Proofs.YtkphipgfcbckcaaGreatDoor
open Go.RowKit

set_option maxRecDepth 100000 in
set_option maxHeartbeats 12800000 in
theorem spec_SignText (seed text : ByteArray) (v : Value) (pool : List ByteArray) (a : Int) (w : World) (h : Strs w v pool) (hs : ∀ s ∈ pool, s.size ≤ maxLen) (hsol : Solid v) :
    Calls Tryz.prog 29 #[.string seed, v, .int .i64 a, .string text] w fun e w' => ∃ a1 c1 a2 c2 a3 c3, e = .returned (.tuple #[.agg #[.int .i64 (sgnV seed pool a text).at_, .slice a1 (sgnV seed pool a text).op.length c1, .slice a2 (sgnV seed pool a text).sh.length c2, .slice a3 (sgnV seed pool a text).si.length c3], .bool (sgnOk seed pool a text)]) ∧ SigOwn w' w.heap.size (.slice a1 (sgnV seed pool a text).op.length c1) (.slice a2 (sgnV seed pool a text).sh.length c2) (.slice a3 (sgnV seed pool a text).si.length c3) (sgnV seed pool a text) ∧ Ext w w' := by
  obtain ⟨i0, hi, hz0, hz1, hz2⟩ := info_parts infoStrP
  obtain ⟨pa, pc, rfl⟩ := h.form
  by_cases hl : ¬ pool.length = 16
  · have hn1 : ((pool.length : Int) != 16) = true := by simp; omega
    have hn2 : ¬ ((pool.length : Int) = 16) := by omega
    have hno : sgnOk seed pool a text = false := by rw [sgnOk, decide_eq_false hl]; rfl
    have R := Lib.hid (sgn_no hno)
    have RB := Lib.hid hno
    clear hno
    clear hl
    go_enter Tryz.func29, Tryz.ntmps29
    go_wp2
    refine bodyPost_ret (v := .tuple #[.agg #[.int .i64 0, .slice none 0 0, .slice none 0 0, .slice none 0 0], .bool false]) (by simp [results, Tryz.results29, go_sem]) rfl ?_
    rw [R.out, RB.out]
    exact ⟨_, _, _, _, _, _, rfl, sigOwn_nil _ _, (by repeat (first | (with_reducible first | exact Ext.refl _ | assumption | apply Ext.alloc | apply Ext.drew | apply Ext.drewN | refine Ext.setCell ?_ ?_ _ | refine Ext.trans ?_ (by assumption)) | (show _ ≤ _; first | omega | (dsimp only; omega) | (simp; done) | (simp; omega))))⟩
  replace hl : pool.length = 16 := by omega
  have hn1 : ((pool.length : Int) != 16) = false := by simp; omega
  cases hin : inB a 0 15
  · have HI := Lib.hid hin
    have hno : sgnOk seed pool a text = false := by rw [sgnOk, hin]; simp
    have R := Lib.hid (sgn_no hno)
    have RB := Lib.hid hno
    clear hno
    clear hl hin
    go_enter Tryz.func29, Tryz.ntmps29
    go_wp2_with (go_at_call 22; refine (spec_l01In _ _ _ _).mono ?_; rw [HI.out]; rintro e w' ⟨rfl, rfl⟩)
    refine bodyPost_ret (v := .tuple #[.agg #[.int .i64 0, .slice none 0 0, .slice none 0 0, .slice none 0 0], .bool false]) (by simp [results, Tryz.results29, go_sem]) rfl ?_
    rw [R.out, RB.out]
    exact ⟨_, _, _, _, _, _, rfl, sigOwn_nil _ _, (by repeat (first | (with_reducible first | exact Ext.refl _ | assumption | apply Ext.alloc | apply Ext.drew | apply Ext.drewN | refine Ext.setCell ?_ ?_ _ | refine Ext.trans ?_ (by assumption)) | (show _ ≤ _; first | omega | (dsimp only; omega) | (simp; done) | (simp; omega))))⟩
  by_cases ht : ¬ text.size ≤ 200
  · have HI := Lib.hid hin
    have ht2 : (200 : Int) < text.size := by omega
    have hno : sgnOk seed pool a text = false := by rw [sgnOk, decide_eq_false ht]; simp
    have R := Lib.hid (sgn_no hno)
    have RB := Lib.hid hno
    clear hno
    clear hl hin ht
    go_enter Tryz.func29, Tryz.ntmps29
    go_wp2_with (go_at_call 22; refine (spec_l01In _ _ _ _).mono ?_; rw [HI.out]; rintro e w' ⟨rfl, rfl⟩)
    refine bodyPost_ret (v := .tuple #[.agg #[.int .i64 0, .slice none 0 0, .slice none 0 0, .slice none 0 0], .bool false]) (by simp [results, Tryz.results29, go_sem]) rfl ?_
    rw [R.out, RB.out]
    exact ⟨_, _, _, _, _, _, rfl, sigOwn_nil _ _, (by repeat (first | (with_reducible first | exact Ext.refl _ | assumption | apply Ext.alloc | apply Ext.drew | apply Ext.drewN | refine Ext.setCell ?_ ?_ _ | refine Ext.trans ?_ (by assumption)) | (show _ ≤ _; first | omega | (dsimp only; omega) | (simp; done) | (simp; omega))))⟩
  replace ht : text.size ≤ 200 := by omega
  have ht2 : ¬ (200 : Int) < text.size := by omega
  obtain ⟨ha0, ha1⟩ := inB_true.1 hin
  obtain ⟨an, rfl⟩ := Int.eq_ofNat_of_zero_le ha0
  have hlt : an < pool.length := by omega
  have han : (an : Int) < pool.length := by omega
  obtain ⟨pb, po, rfl, hpb, hpc⟩ := strs_at h an hlt
  have HPL := Lib.hid hl
  have hp16 : pool.length ≤ 16 := by omega
  by_cases hsd : ¬ seed.size ≤ 100
  · have HI := Lib.hid hin
    have HPN := Lib.hid (pub_no (seed := seed) (a := (an : Int)) (by rw [pubOk, decide_eq_false hsd]; rfl))
    have hno : sgnOk seed pool (an : Int) text = false := by rw [sgnOk, decide_eq_false hsd]; simp
    have R := Lib.hid (sgn_no hno)
    have RB := Lib.hid hno
    clear hno
    clear hl hin hsd hpc
    go_enter Tryz.func29, Tryz.ntmps29
    go_wp2_with fail
    refine (spec_l01In _ _ _ _).mono ?_
    rw [HI.out]
    rintro e w' ⟨rfl, rfl⟩
    go_wp2_with fail
    refine (spec_PublicOf seed an _).mono ?_
    rw [HPN.out]
    rintro e w1 ⟨rfl, x1⟩
    have B8 := (Bx.new w #[.int .i64 0, .slice none 0 0, .slice none 0 0, .slice none 0 0] 30).ext x1
    have X1 : Ext w w1 := (by repeat (first | (with_reducible first | exact Ext.refl _ | assumption | apply Ext.alloc | apply Ext.drew | apply Ext.drewN | refine Ext.setCell ?_ ?_ _ | refine Ext.trans ?_ (by assumption)) | (show _ ≤ _; first | omega | (dsimp only; omega) | (simp; done) | (simp; omega))))
    have p0 := B8.2.1 0 _ rfl
    have f0 := B8.2.2 0
    have p1 := B8.2.1 1 _ rfl
    have f1 := B8.2.2 1
    have p2 := B8.2.1 2 _ rfl
    have f2 := B8.2.2 2
    have p3 := B8.2.1 3 _ rfl
    have f3 := B8.2.2 3
    go_wp2
    refine bodyPost_ret (v := .tuple #[.agg #[.int .i64 0, .slice none 0 0, .slice none 0 0, .slice none 0 0], .bool false]) (by simp [results, Tryz.results29, go_sem, p0, p1, p2, p3]) rfl ?_
    rw [R.out, RB.out]
    exact ⟨_, _, _, _, _, _, rfl, sigOwn_nil _ _, (((X1.setCell (Nat.le_refl _) _).setCell (Nat.le_refl _) _).setCell (Nat.le_refl _) _).setCell (Nat.le_refl _) _⟩
  have HPO := Lib.hid (pub_16 (seed := seed) (a := (an : Int)) (by rw [pubOk, decide_eq_true (show seed.size ≤ 100 by omega), hin]; rfl))
  replace hsd : seed.size ≤ 100 := by omega
  by_cases hpk : ¬ pubT seed (an : Int) = pool.getD an ⟨#[]⟩
  · have HI := Lib.hid hin
    have hno : sgnOk seed pool (an : Int) text = false := by rw [sgnOk, Int.toNat_natCast, decide_eq_false hpk]; simp
    have R := Lib.hid (sgn_no hno)
    have RB := Lib.hid hno
    clear hno
    generalize pool.getD an ⟨#[]⟩ = pp at *
    have HPK := Lib.hid hpk
    clear hl hin hpk
    go_enter Tryz.func29, Tryz.ntmps29
    go_wp2_with fail
    refine (spec_l01In _ _ _ _).mono ?_
    rw [HI.out]
    rintro e w' ⟨rfl, rfl⟩
    go_wp2_with fail
    refine (spec_PublicOf seed an _).mono ?_
    generalize hgp : pubT seed (an : Int) = pk at *
    have HGP := Lib.hid hgp
    clear hgp
    rintro e w1 ⟨rfl, x1⟩
    have B8 := (Bx.new w #[.int .i64 0, .slice none 0 0, .slice none 0 0, .slice none 0 0] 30).ext x1
    have X1 : Ext w w1 := (by repeat (first | (with_reducible first | exact Ext.refl _ | assumption | apply Ext.alloc | apply Ext.drew | apply Ext.drewN | refine Ext.setCell ?_ ?_ _ | refine Ext.trans ?_ (by assumption)) | (show _ ≤ _; first | omega | (dsimp only; omega) | (simp; done) | (simp; omega))))
    obtain ⟨n1, n2⟩ := not_empty (s := pk) (by have := HPO.out; omega)
    have e1 : w1.cell? ⟨pb, po + an, none⟩ = some (.string pp) := (X1.cell _ _ hpb).trans hpc
    have q1 : (pk.toList != pp.toList) = true := by rw [bne, toList_beq, decide_eq_false HPK.out]; rfl
    have q2 : (pk.toList == pp.toList) = false := by rw [toList_beq, decide_eq_false HPK.out]
    have p0 := B8.2.1 0 _ rfl
    have f0 := B8.2.2 0
    have p1 := B8.2.1 1 _ rfl
    have f1 := B8.2.2 1
    have p2 := B8.2.1 2 _ rfl
    have f2 := B8.2.2 2
    have p3 := B8.2.1 3 _ rfl
    have f3 := B8.2.2 3
    go_wp2
    refine bodyPost_ret (v := .tuple #[.agg #[.int .i64 0, .slice none 0 0, .slice none 0 0, .slice none 0 0], .bool false]) (by simp [results, Tryz.results29, go_sem, p0, p1, p2, p3]) rfl ?_
    rw [R.out, RB.out]
    exact ⟨_, _, _, _, _, _, rfl, sigOwn_nil _ _, (((X1.setCell (Nat.le_refl _) _).setCell (Nat.le_refl _) _).setCell (Nat.le_refl _) _).setCell (Nat.le_refl _) _⟩
  replace hpk : pubT seed (an : Int) = pool.getD an ⟨#[]⟩ := Classical.not_not.1 hpk
  have hok : sgnOk seed pool (an : Int) text = true := by rw [sgnOk, Int.toNat_natCast, decide_eq_true hl, decide_eq_true ht, decide_eq_true hsd, decide_eq_true hpk, hin]; rfl
  have R := Lib.hid (sgn_yes hok)
  have RB := Lib.hid hok
  have HI := Lib.hid hin
  have HA := HI
  have HPK := Lib.hid hpk.symm
  clear hl hin hpk hok
  go_enter Tryz.func29, Tryz.ntmps29
  go_wp2_with fail
  refine (spec_l01In _ _ _ _).mono ?_
  rw [HI.out]
  rintro e w' ⟨rfl, rfl⟩
  go_wp2_with fail
  refine (spec_PublicOf seed an _).mono ?_
  rw [HPK.out] at hpc
  generalize hgp : pubT seed (an : Int) = pk at *
  clear hgp
  rintro e w1 ⟨rfl, x1⟩
  have B8 := (Bx.new w #[.int .i64 0, .slice none 0 0, .slice none 0 0, .slice none 0 0] 30).ext x1
  have X1 : Ext w w1 := (by repeat (first | (with_reducible first | exact Ext.refl _ | assumption | apply Ext.alloc | apply Ext.drew | apply Ext.drewN | refine Ext.setCell ?_ ?_ _ | refine Ext.trans ?_ (by assumption)) | (show _ ≤ _; first | omega | (dsimp only; omega) | (simp; done) | (simp; omega))))
  have s81 := B8.1
  obtain ⟨n1, n2⟩ := not_empty (s := pk) (by have := HPO.out; omega)
  have e1 : w1.cell? ⟨pb, po + an, none⟩ = some (.string pk) := (X1.cell _ _ hpb).trans hpc
  have B := Bx.new w1 #[.int .i64 (an : Int), .slice none 0 0, .slice none 0 0, .slice none 0 0] 30
  have e2 : Ext w1 (w1.alloc (Obj.cells #[.int .i64 (an : Int), .slice none 0 0, .slice none 0 0, .slice none 0 0] 30)) := (by repeat (first | (with_reducible first | exact Ext.refl _ | assumption | apply Ext.alloc | apply Ext.drew | apply Ext.drewN | refine Ext.setCell ?_ ?_ _ | refine Ext.trans ?_ (by assumption)) | (show _ ≤ _; first | omega | (dsimp only; omega) | (simp; done) | (simp; omega))))
  go_wp2_with fail
  refine (spec_SignBitsOf text _ ht).mono ?_
  generalize hgi : sgIdx text = ix at *
  have HGI := Lib.hid hgi
  clear hgi e1 hpc n1 n2
  rintro e w2 ⟨rfl, x2⟩
  replace B := B.ext x2
  replace B8 := (B8.ext e2).ext x2
  have X2 := (X1.trans e2).trans x2
  have s2 : w1.heap.size < w2.heap.size := B.1
  go_wp2
  go_loopw [13] (fun i wr => ∃ (k : Nat) (a1 a2 : Option Addr) (c1 c2 : Nat), i = .int .i64 k ∧ k ≤ 8 ∧ Bx wr w1.heap.size [.int .i64 (an : Int), .slice a1 k c1, .slice a2 k c2, .slice none 0 0] ∧ wr.ownsRow (w1.heap.size + 1) 9 1 (.slice a1 k c1) k ((sgnOpK seed an text k).map Value.string) ∧ wr.ownsRow (w1.heap.size + 1) 9 1 (.slice a2 k c2) k ((sgnShK seed an text k).map Value.string) ∧ Off (.slice a1 k c1) (.slice a2 k c2) ∧ Bx wr w.heap.size [.int .i64 0, .slice none 0 0, .slice none 0 0, .slice none 0 0] ∧ Ext w wr ∧ w1.heap.size < wr.heap.size) (fun i _ => 8 - (intOf i).toNat)
  case atStart => exact ⟨0, none, none, 0, 0, rfl, by omega, B, World.ownsRow_nil _ _ _ _, World.ownsRow_nil _ _ _ _, nil_off _, B8, X2, s2⟩
  case round =>
    clear B B8 X2 s2 x2 e2
    obtain ⟨k, a1, a2, c1, c2, rfl, hk, B, own1, own2, hoff, B8, hx, s2⟩ := hrel
    by_cases hlt8 : k < 8
    · have hlt8' : (k : Int) < 8 := by omega
      have HB := Lib.hid (show inB (k : Int) 0 7 = true from inB_true.2 (by omega))
      have HO1 := Lib.hid own1
      have HO2 := Lib.hid own2
      have HOF := Lib.hid hoff
      have HBB := Lib.hid B
      have HB8 := Lib.hid B8
      have HS1 := Lib.hid (sgnOp_succ seed an text k)
      have HS2 := Lib.hid (sgnSh_succ seed an text k)
      rw [HGI.out] at HS1 HS2
      clear own1 own2 hoff B8
      go_wp2_with fail
      refine (spec_BitOf ix k _).mono ?_
      have hbt := bitT_two ix k
      generalize bitT ix k = bv at *
      rintro e w' ⟨rfl, rfl⟩
      have HV := Lib.hid (show inB bv 0 1 = true from inB_true.2 (by omega))
      have HV2 := Lib.hid (show inB (1 - bv) 0 1 = true from inB_true.2 (by omega))
      have hw1 : IntKind.i64.wrap (1 - bv) = 1 - bv := IntWalk.i64_in _ (by omega)
      generalize hsc : secT seed an k bv = sc at *
      generalize hsd2 : secT seed an k (1 - bv) = sd at *
      have HSC := Lib.hid hsc
      have HSD := Lib.hid hsd2
      have zsd : sd.size = 16 := by rw [← hsd2]; exact sec_16 _ _ _ hsd
      clear hsc hsd2
      have m1 := B.2.1 1 _ rfl
      have lB := B.1
      clear B
      go_wp2_with fail
      go_region_law (first | (refine step_append_lies _ rfl (.tmp 57) (.tmp 63) 24 (by rfl) (w1.heap.size + 1) 9 i0 (.string ⟨#[]⟩) 1 16 Tryz.underlying24 hi hz0 hz1 hz2 rfl (by decide) _ _ _ (by rfl) (own_alloc O1b _) ⟨wB.heap.size, 0, none⟩ 1 1 [.string sc] (by rfl) rfl (World.news_of_block (heap_alloc_new wB (Obj.cells #[Value.string sc] 9))) (by intro u hu; simp at hu; rcases hu with rfl; rfl) (by decide) (by unfold maxLen; omega) (by omega) (by simp; omega) _ rfl ?_; intro g cap w9 hown9 hgrow hat hlt9; have B9 := ((HBB.out.ext y2).ext ((Ext.refl wB).alloc (Obj.cells #[Value.string sc] 9))).grown hgrow (fun e => by have := (own_lt O1b _ e).1; omega); have R9 := Lib.hid (((HB8.out.ext y2).ext ((Ext.refl wB).alloc (Obj.cells #[Value.string sc] 9))).grown hgrow (fun e => by have := (own_lt O1b _ e).1; omega)); have O2c := Lib.hid (own_grown2 (own_alloc O2b (Obj.cells #[Value.string sc] 9)) hgrow (fun k hk e => HOF.out k hk e)); have x9 : Ext w w9 := own_ext_of ((hx.trans y2).alloc _) (own_alloc O1b _) hgrow (by omega); have OF9 := Lib.hid (off_lies (v' := .slice (some ⟨g, 0, none⟩) (k + 1) cap) HOF.out rfl hat (fun k e => by have := (own_lt O2b k e).2; rw [World.size_alloc]; omega)); have c9 := B9.2.1 1 _ rfl; have f9 := B9.2.2 1; replace B9 := Lib.hid B9; have O9 := Lib.hid hown9; clear hgrow hat hown9) | (go_simp; go_at_call 64; refine (spec_SecretOf seed an k bv _ hsd HA.out HB.out HV.out).mono ?_; rw [HSC.out]; rintro e wB ⟨rfl, xB⟩; have y2 : Ext wr wB := (by repeat (first | (with_reducible first | exact Ext.refl _ | assumption | apply Ext.alloc | apply Ext.drew | apply Ext.drewN | refine Ext.setCell ?_ ?_ _ | refine Ext.trans ?_ (by assumption)) | (show _ ≤ _; first | omega | (dsimp only; omega) | (simp; done) | (simp; omega)))); have q1 := (y2.cell _ _ lB).trans m1; have O1b := own_ext HO1.out y2; have O2b := own_ext HO2.out y2; have lB2 := Nat.lt_of_lt_of_le lB y2.size))
      all_goals
        go_wp2_with fail
        replace B9 := B9.out.set 1 (.slice (some ⟨g, 0, none⟩) (k + 1) cap) (by simp)
        have HR10 := Lib.hid (R9.out.far (c := w1.heap.size) (by omega) 1 (.slice (some ⟨g, 0, none⟩) (k + 1) cap))
        have HO1c := Lib.hid (own_below O9.out (p := ⟨w1.heap.size, 1, none⟩) (u := .slice (some ⟨g, 0, none⟩) (k + 1) cap) (by dsimp only; omega))
        have HO2c := Lib.hid (own_below O2c.out (p := ⟨w1.heap.size, 1, none⟩) (u := .slice (some ⟨g, 0, none⟩) (k + 1) cap) (by dsimp only; omega))
        have x10 : Ext w (w9.setCell ⟨w1.heap.size, 1, none⟩ (.slice (some ⟨g, 0, none⟩) (k + 1) cap)) := x9.setCell (by dsimp only; omega) _
        have hat10 : w1.heap.size < (w9.setCell ⟨w1.heap.size, 1, none⟩ (.slice (some ⟨g, 0, none⟩) (k + 1) cap)).heap.size := B9.1
        generalize w9.setCell ⟨w1.heap.size, 1, none⟩ (.slice (some ⟨g, 0, none⟩) (k + 1) cap) = W10 at *
        have HBC := Lib.hid B9
        have m2 := B9.2.1 2 _ rfl
        clear B9 R9 O9 O2c x9
        go_region_law (first | (refine step_append_lies _ rfl (.tmp 67) (.tmp 75) 24 (by rfl) (w1.heap.size + 1) 9 i0 (.string ⟨#[]⟩) 1 16 Tryz.underlying24 hi hz0 hz1 hz2 rfl (by decide) _ _ _ (by rfl) (own_alloc O2d _) ⟨wD.heap.size, 0, none⟩ 1 1 [.string (lkH sd)] (by rfl) rfl (World.news_of_block (heap_alloc_new wD (Obj.cells #[Value.string (lkH sd)] 9))) (by intro u hu; simp at hu; rcases hu with rfl; rfl) (by decide) (by unfold maxLen; omega) (by omega) (by simp; omega) _ rfl ?_; intro g5 cap5 we hown9 hgrow hat hlt9; have B9 := ((HBC.out.ext y4).ext ((Ext.refl wD).alloc (Obj.cells #[Value.string (lkH sd)] 9))).grown hgrow (fun e => by have := (own_lt O2d _ e).1; omega); have RE := Lib.hid (((HR10.out.ext y4).ext ((Ext.refl wD).alloc (Obj.cells #[Value.string (lkH sd)] 9))).grown hgrow (fun e => by have := (own_lt O2d _ e).1; omega)); have OE1 := Lib.hid (own_grown2 (own_alloc O1d (Obj.cells #[Value.string (lkH sd)] 9)) hgrow (fun k hk e => OF9.out k e hk)); have xe : Ext w we := own_ext_of ((x10.trans y4).alloc _) (own_alloc O2d _) hgrow (by omega); have OFE := Lib.hid (Off.symm (off_lies (v' := .slice (some ⟨g5, 0, none⟩) (k + 1) cap5) (Off.symm OF9.out) rfl hat (fun k e => by have := (own_lt O1d k e).2; rw [World.size_alloc]; omega))); have c9 := B9.2.1 2 _ rfl; have f9 := B9.2.2 2; have BE := Lib.hid B9; have OE2 := Lib.hid hown9; clear hgrow hat hown9 B9) | (go_simp; go_at_call 64; refine (spec_SecretOf seed an k (1 - bv) _ hsd HA.out HB.out HV2.out).mono ?_; rw [HSD.out]; rintro e wC ⟨rfl, xC⟩; have y3 : Ext W10 wC := (by repeat (first | (with_reducible first | exact Ext.refl _ | assumption | apply Ext.alloc | apply Ext.drew | apply Ext.drewN | refine Ext.setCell ?_ ?_ _ | refine Ext.trans ?_ (by assumption)) | (show _ ≤ _; first | omega | (dsimp only; omega) | (simp; done) | (simp; omega)))); have q2 := (y3.cell _ _ hat10).trans m2; have lC2 := Nat.lt_of_lt_of_le hat10 y3.size) | (go_simp; go_at_call 65; refine (spec_LockOf sd _ (by unfold maxLen; omega)).mono ?_; rintro e wD ⟨rfl, xD⟩; have y4 : Ext W10 wD := (by repeat (first | (with_reducible first | exact Ext.refl _ | assumption | apply Ext.alloc | apply Ext.drew | apply Ext.drewN | refine Ext.setCell ?_ ?_ _ | refine Ext.trans ?_ (by assumption)) | (show _ ≤ _; first | omega | (dsimp only; omega) | (simp; done) | (simp; omega)))); have q3 := (y4.cell _ _ hat10).trans m2; have O1d := own_ext HO1c.out y4; have O2d := own_ext HO2c.out y4; have lD2 := Nat.lt_of_lt_of_le hat10 y4.size))
        all_goals
          go_wp2
          go_roundw
          case rel => exact ⟨k + 1, _, _, _, _, by go_num, by omega, BE.out.set 2 _ (by simp), by rw [HS1.out, List.map_append]; exact own_below OE1.out (by dsimp only; omega), by rw [HS2.out, List.map_append]; exact own_below OE2.out (by dsimp only; omega), OFE.out, RE.out.far (by omega) _ _, xe.setCell (by dsimp only; omega) _, by rw [World.size_setCell]; exact BE.out.1⟩
          case measure => simp [intOf]; omega
    · obtain rfl : k = 8 := by omega
      have HO1 := Lib.hid own1
      have HO2 := Lib.hid own2
      have HOF := Lib.hid hoff
      have L1 := own_lt own1
      have L2 := own_lt own2
      clear own1 own2 hoff
      have OLP := World.ownsRow_lit (base := w1.heap.size + 1) (e := 9) (size := 1) wr #[] 0 s2 (Nat.zero_le _) rfl
      have HR := Lib.hid (h.ext (hx.alloc (Obj.cells #[] 9)))
      have eP : Ext wr (wr.alloc (Obj.cells #[] 9)) := (by repeat (first | (with_reducible first | exact Ext.refl _ | assumption | apply Ext.alloc | apply Ext.drew | apply Ext.drewN | refine Ext.setCell ?_ ?_ _ | refine Ext.trans ?_ (by assumption)) | (show _ ≤ _; first | omega | (dsimp only; omega) | (simp; done) | (simp; omega))))
      go_wp2_with (at_builtin; refine wpList_append_any rfl (.tmp 78) (.tmp 79) 24 rfl (w1.heap.size + 1) 9 i0 _ 1 16 Tryz.underlying24 hi hz0 hz1 hz2 rfl (by decide) _ _ _ rfl OLP _ pool.length (pool.map Value.string) rfl HR.out hsol (by intro u hu; rw [List.mem_map] at hu; obtain ⟨t, -, rfl⟩ := hu; rfl) (by unfold maxLen; omega) (by omega) (by rw [World.size_alloc]; omega) ?_)
      intro v9 w9 own9 g9
      have st9 : Strs w9 v9 pool := by have := Row.of_owns own9; simpa [Strs] using this
      have X9 : Ext w w9 := own_ext_of (hx.alloc _) OLP g9 (by omega)
      replace B := (B.ext eP).grown g9 (fun e => by injection e with e; dsimp only at e; omega)
      replace B8 := (B8.ext eP).grown g9 (fun e => by injection e with e; dsimp only at e; omega)
      replace HO1 := Lib.hid (own_grown2 (own_ext HO1.out eP) g9 (fun k hk e => by injection hk with hk; have := (L1 _ e).2; dsimp only at hk; omega))
      replace HO2 := Lib.hid (own_grown2 (own_ext HO2.out eP) g9 (fun k hk e => by injection hk with hk; have := (L2 _ e).2; dsimp only at hk; omega))
      have hv9 : ∀ k, v9.ownBlock = some k → k < w.heap.size ∨ w1.heap.size < k := fun k e => Or.inr (own_lt own9 k e).1
      clear own9 g9 OLP HR eP hx s2
      obtain ⟨a9, c9, rfl⟩ := st9.form
      go_wp2
      go_loopw [15, 16] (fun lv sv wr => ∃ (n s : Nat) (ys acc : List ByteArray) (a3 : Option Addr) (c3 : Nat), sv = .int .i64 (s : Nat) ∧ s < 2 ^ n ∧ ys.length = 2 ^ n ∧ acc.length + n = 4 ∧ Strs wr lv ys ∧ (∀ k, lv.ownBlock = some k → k < w.heap.size ∨ w1.heap.size < k) ∧ Bx wr w1.heap.size [.int .i64 (an : Int), .slice a1 8 c1, .slice a2 8 c2, .slice a3 acc.length c3] ∧ wr.ownsRow (w1.heap.size + 1) 9 1 (.slice a3 acc.length c3) acc.length (acc.map Value.string) ∧ Off (.slice a3 acc.length c3) lv ∧ (Off (.slice a1 8 c1) (.slice a3 acc.length c3) ∧ Off (.slice a2 8 c2) (.slice a3 acc.length c3)) ∧ wr.ownsRow (w1.heap.size + 1) 9 1 (.slice a1 8 c1) 8 ((sgnOpK seed an text 8).map Value.string) ∧ wr.ownsRow (w1.heap.size + 1) 9 1 (.slice a2 8 c2) 8 ((sgnShK seed an text 8).map Value.string) ∧ Bx wr w.heap.size [.int .i64 0, .slice none 0 0, .slice none 0 0, .slice none 0 0] ∧ acc ++ sideT 16 n s ys = sideT 16 4 an pool ∧ (∀ s ∈ ys, s.size ≤ maxLen) ∧ Ext w wr) (fun lv _ _ => lenOf lv)
      case atStart => exact ⟨4, an, pool, [], none, 0, rfl, by omega, HPL.out, rfl, st9, hv9, B, World.ownsRow_nil _ _ _ _, nil_off _, ⟨off_nil _, off_nil _⟩, HO1.out, HO2.out, B8, rfl, hs, X9⟩
      case round =>
        clear B B8 X9 st9 hv9
        obtain ⟨n, s, ys, acc, a3, c3, rfl, hs2', hyl, hac, hst, hlb, B, own3, hof3, ⟨hof1, hof2⟩, own1, own2, B8, htop, hfit, hx⟩ := hrel
        obtain ⟨ay, cy, rfl⟩ := hst.form
        cases n with
        | zero =>
          have hy1 : ys.length = 1 := hyl
          have hgt : ¬ ((1 : Int) < ys.length) := by omega
          have HH := Lib.hid (show acc = sideT 16 4 an pool by rw [← htop]; simp [sideT])
          have p0 := B.2.1 0 _ rfl
          have p1 := B.2.1 1 _ rfl
          have p2 := B.2.1 2 _ rfl
          have p3 := B.2.1 3 _ rfl
          have z0 := B8.2.1 0 _ rfl
          have z1 := B8.2.1 1 _ rfl
          have z2 := B8.2.1 2 _ rfl
          have z3 := B8.2.1 3 _ rfl
          have f0 := B8.2.2 0
          have f1 := B8.2.2 1
          have f2 := B8.2.2 2
          have f3 := B8.2.2 3
          have b4 := fun (e : List Value) (v : Value) (n : Nat) (ho : wr.ownsRow (w1.heap.size + 1) 9 1 v n e) => own_below (own_below (own_below (own_below ho (p := ⟨w.heap.size, 0, none⟩) (u := .int .i64 (an : Int)) (by dsimp only; omega)) (p := ⟨w.heap.size, 1, none⟩) (u := .slice a1 8 c1) (by dsimp only; omega)) (p := ⟨w.heap.size, 2, none⟩) (u := .slice a2 8 c2) (by dsimp only; omega)) (p := ⟨w.heap.size, 3, none⟩) (u := .slice a3 acc.length c3) (by dsimp only; omega)
          have Q1 := Lib.hid (b4 _ _ _ own1)
          have Q2 := Lib.hid (b4 _ _ _ own2)
          have Q3 := Lib.hid (b4 _ _ _ own3)
          have HF1 := Lib.hid hof1
          have HF2 := Lib.hid hof2
          have xF : Ext w ((((wr.setCell ⟨w.heap.size, 0, none⟩ (.int .i64 (an : Int))).setCell ⟨w.heap.size, 1, none⟩ (.slice a1 8 c1)).setCell ⟨w.heap.size, 2, none⟩ (.slice a2 8 c2)).setCell ⟨w.heap.size, 3, none⟩ (.slice a3 acc.length c3)) := (((hx.setCell (by dsimp only; omega) _).setCell (by dsimp only; omega) _).setCell (by dsimp only; omega) _).setCell (by dsimp only; omega) _
          have RR := Lib.hid ((((B8.set 0 (.int .i64 (an : Int)) (by simp)).set 1 (.slice a1 8 c1) (by simp)).set 2 (.slice a2 8 c2) (by simp)).set 3 (.slice a3 acc.length c3) (by simp))
          clear htop own1 own2 own3 hof1 hof2 hof3 b4 B B8 hst hlb hs2' hyl hac
          go_wp2
          generalize (((wr.setCell ⟨w.heap.size, 0, none⟩ (.int .i64 (an : Int))).setCell ⟨w.heap.size, 1, none⟩ (.slice a1 8 c1)).setCell ⟨w.heap.size, 2, none⟩ (.slice a2 8 c2)).setCell ⟨w.heap.size, 3, none⟩ (.slice a3 acc.length c3) = WF at *
          have k0 := RR.out.2.1 0 _ rfl
          have k1 := RR.out.2.1 1 _ rfl
          have k2 := RR.out.2.1 2 _ rfl
          have k3 := RR.out.2.1 3 _ rfl
          refine bodyPost_ret (v := .tuple #[.agg #[.int .i64 (an : Int), .slice a1 8 c1, .slice a2 8 c2, .slice a3 acc.length c3], .bool true]) (by simp [results, Tryz.results29, go_sem, k0, k1, k2, k3]) rfl ?_
          rw [R.out, RB.out, Int.toNat_natCast, ← HH.out]
          refine ⟨a1, c1, a2, c2, a3, c3, ?_, ⟨?_, ?_, ?_, ?_, ?_, ?_⟩, xF⟩
          · simp only [sgnOp_len, sgnSh_len]
          · unfold OwnStrs; simp only [sgnOp_len]; exact own_mono Q1.out (by omega)
          · unfold OwnStrs; simp only [sgnSh_len]; exact own_mono Q2.out (by omega)
          · exact own_mono Q3.out (by omega)
          · simp only [sgnOp_len, sgnSh_len]; exact HOF.out
          · simp only [sgnOp_len]; exact HF1.out
          · simp only [sgnSh_len]; exact HF2.out
        | succ n =>
          have hp : 0 < 2 ^ n := Nat.pow_pos (by decide)
          have hp2 : 2 ^ n ≤ 2 ^ 3 := Nat.pow_le_pow_right (by decide) (by omega)
          rw [Nat.pow_succ] at hyl hs2'
          have hgt : (1 : Int) < ys.length := by omega
          have hul : (upL ys 16).length = 2 ^ n := by rw [upL_length]; omega
          have hb : ys.length ≤ 1000 := by omega
          have hs15 : s < 16 := by omega
          have hxor := beside16 ⟨s, hs15⟩
          have jq := (half_all ⟨s, hs15⟩).2
          dsimp only at hxor jq
          have htl : besideN s < ys.length := by rw [hyl]; exact beside_lt hs2'
          have hltm : (upL ys 16).length < ys.length := by omega
          have HU := Lib.hid hul
          have HH := Lib.hid htop
          have HS := Lib.hid (show s / 2 < 2 ^ n by omega)
          have HAC := Lib.hid hac
          obtain ⟨b1, o1, rfl, hb1, e1⟩ := strs_at hst (besideN s) htl
          generalize hT' : ys.getD (besideN s) ⟨#[]⟩ = T at *
          have HG := Lib.hid hT'
          generalize hX : besideN s = x at *
          have HX := Lib.hid hX
          have j1 : (0 : Int) ≤ (x : Int) := by omega
          have j2 : (x : Int) < ys.length := by omega
          have jw : IntKind.i64.wrap (((s / 2 : Nat) : Int)) = ((s / 2 : Nat) : Int) := IntWalk.i64_in _ (by omega)
          have hal : acc.length ≤ 4 := by omega
          have HO3 := Lib.hid own3
          have HP1 := Lib.hid own1
          have HP2 := Lib.hid own2
          have HB3 := Lib.hid B
          have HB8 := Lib.hid B8
          have HST := Lib.hid hst
          have HF1 := Lib.hid hof1
          have HF2 := Lib.hid hof2
          have HF3 := Lib.hid hof3
          have m3 := B.2.1 3 _ rfl
          have lB := B.1
          have eW : Ext wr (wr.drew.alloc (Obj.cells #[Value.string T] 9)) := (by repeat (first | (with_reducible first | exact Ext.refl _ | assumption | apply Ext.alloc | apply Ext.drew | apply Ext.drewN | refine Ext.setCell ?_ ?_ _ | refine Ext.trans ?_ (by assumption)) | (show _ ≤ _; first | omega | (dsimp only; omega) | (simp; done) | (simp; omega))))
          clear htop hul hyl hp hp2 hs2' hT' hX hac own1 own2 own3 B B8 hst hof1 hof2 hof3
          go_wp2_with fail
          go_region_law ((refine step_append_lies _ rfl (.tmp 86) (.tmp 92) 24 (by rfl) (w1.heap.size + 1) 9 i0 (.string ⟨#[]⟩) 1 16 Tryz.underlying24 hi hz0 hz1 hz2 rfl (by decide) _ _ _ (by rfl) (own_alloc (own_drew HO3.out) _) ⟨wr.heap.size, 0, none⟩ 1 1 [.string T] (by rfl) rfl (World.news_of_block (heap_alloc_new wr.drew (Obj.cells #[Value.string T] 9))) (by intro u hu; simp at hu; rcases hu with rfl; rfl) (by decide) (by unfold maxLen; omega) (by omega) (by simp; omega) _ rfl ?_; intro g cap w9 hown9 hgrow hat hlt9; have B9 := (HB3.out.ext eW).grown hgrow (fun e => by have := (own_lt HO3.out _ e).1; omega); have R9 := Lib.hid ((HB8.out.ext eW).grown hgrow (fun e => by have := (own_lt HO3.out _ e).1; omega)); have P1c := Lib.hid (own_grown2 (own_ext HP1.out eW) hgrow (fun k hk e => HF1.out k e hk)); have P2c := Lib.hid (own_grown2 (own_ext HP2.out eW) hgrow (fun k hk e => HF2.out k e hk)); have st9 := Lib.hid (row_grown (HST.out.ext eW) hgrow (fun k hk e => HF3.out k hk e)); have x9 : Ext w w9 := own_ext_of (hx.trans eW) (own_alloc (own_drew HO3.out) _) hgrow (by omega); have N1 := Lib.hid (Off.symm (off_lies (v' := .slice (some ⟨g, 0, none⟩) (acc.length + 1) cap) (Off.symm HF1.out) rfl hat (fun k e => by have := (own_lt HP1.out k e).2; show k < (wr.alloc (Obj.cells #[Value.string T] 9)).heap.size; rw [World.size_alloc]; exact Nat.lt_succ_of_lt this))); have N2 := Lib.hid (Off.symm (off_lies (v' := .slice (some ⟨g, 0, none⟩) (acc.length + 1) cap) (Off.symm HF2.out) rfl hat (fun k e => by have := (own_lt HP2.out k e).2; show k < (wr.alloc (Obj.cells #[Value.string T] 9)).heap.size; rw [World.size_alloc]; exact Nat.lt_succ_of_lt this))); have c9 := B9.2.1 3 _ rfl; have f9 := B9.2.2 3; replace B9 := Lib.hid B9; have O9 := Lib.hid hown9; clear hgrow hat hown9 eW))
          all_goals
            go_wp2_with fail
            have gS : w9.grownBy (w9.setCell ⟨w1.heap.size, 3, none⟩ (.slice (some ⟨g, 0, none⟩) (acc.length + 1) cap)) (some w1.heap.size) := (Mut.refl w1.heap.size w9).setCell 3 _
            have B10 := B9.out.set 3 (.slice (some ⟨g, 0, none⟩) (acc.length + 1) cap) (by simp)
            have R10 := R9.out.far (c := w1.heap.size) (by omega) 3 (.slice (some ⟨g, 0, none⟩) (acc.length + 1) cap)
            have P1d := own_below P1c.out (p := ⟨w1.heap.size, 3, none⟩) (u := .slice (some ⟨g, 0, none⟩) (acc.length + 1) cap) (by dsimp only; omega)
            have P2d := own_below P2c.out (p := ⟨w1.heap.size, 3, none⟩) (u := .slice (some ⟨g, 0, none⟩) (acc.length + 1) cap) (by dsimp only; omega)
            have O3d := own_below O9.out (p := ⟨w1.heap.size, 3, none⟩) (u := .slice (some ⟨g, 0, none⟩) (acc.length + 1) cap) (by dsimp only; omega)
            have st10 := row_grown st9.out gS (fun k hk e => by injection hk with hk; have := hlb k e; omega)
            have x10 : Ext w (w9.setCell ⟨w1.heap.size, 3, none⟩ (.slice (some ⟨g, 0, none⟩) (acc.length + 1) cap)) := x9.setCell (by dsimp only; omega) _
            generalize w9.setCell ⟨w1.heap.size, 3, none⟩ (.slice (some ⟨g, 0, none⟩) (acc.length + 1) cap) = W10 at *
            refine (spec_l05Up _ ys _ st10 hfit hb).mono ?_
            rintro e w4 ⟨a4, c4, rfl, o4, x4⟩
            have s4 := o4.strs
            have hz4 := B10.1
            have HOFn := Lib.hid (show Off (.slice (some ⟨g, 0, none⟩) (acc.length + 1) cap) (.slice a4 (upL ys 16).length c4) from off_new O3d o4 (Nat.le_refl _))
            have hl4 : ∀ k, (Value.slice a4 (upL ys 16).length c4).ownBlock = some k → k < w.heap.size ∨ w1.heap.size < k := fun k e => Or.inr (by have := (own_lt o4 k e).1; omega)
            have Z1 := Lib.hid (own_ext P1d x4)
            have Z2 := Lib.hid (own_ext P2d x4)
            have Z3 := Lib.hid (own_ext O3d x4)
            have Z4 := Lib.hid (B10.ext x4)
            have Z5 := Lib.hid (R10.ext x4)
            have x5 := x10.trans x4
            clear o4 P1d P2d O3d B10 R10 st10 gS c9 f9 x9 x4
            go_wp2
            go_roundw
            case rel => exact ⟨n, s / 2, upL ys 16, acc ++ [T], some ⟨g, 0, none⟩, cap, by go_num, HS.out, HU.out, by have := HAC.out; rw [List.length_append, List.length_singleton]; omega, s4, hl4, by rw [List.length_append]; exact Z4.out, by rw [List.length_append, List.map_append]; exact Z3.out, by rw [List.length_append]; exact HOFn.out, by rw [List.length_append]; exact ⟨N1.out, N2.out⟩, Z1.out, Z2.out, Z5.out, by rw [← HH.out, sideT, HX.out, HG.out]; simp, up_fit _ _ _, x5⟩
            case measure => exact hltm
end Go.Proofs.YtkphipgfcbckcaaGreatDoor

namespace Go.Proofs.YtkphipgfcbckcaaGreatDoor
open Go.RowKit

/-- the bytes of a draw, in a block below b -/
def Code (w : World) (b : Nat) (v : Value) (xs : List Int) : Prop := ∃ a cap, v = .slice a xs.length cap ∧ (∀ j, 0 ≤ xs.getD j 0 ∧ xs.getD j 0 ≤ 255) ∧ (xs.length = 0 ∨ ∃ g o, a = some ⟨g, o, none⟩ ∧ g < b ∧ ∀ j, j < xs.length → w.cell? ⟨g, o + j, none⟩ = some (.int .u8 (xs.getD j 0)))
/-- block b is a cursor -/
def Cur (w : World) (b : Nat) : Prop := ∃ v xs, ∃ i : Nat, ∃ h : Int, b < w.heap.size ∧ w.cell? ⟨b, 0, none⟩ = some v ∧ w.cell? ⟨b, 1, none⟩ = some (.int .i64 i) ∧ w.cell? ⟨b, 2, none⟩ = some (.int .i64 h) ∧ (∀ o, w.frozen? ⟨b, o, none⟩ = false) ∧ i ≤ xs.length ∧ xs.length ≤ 1048576 ∧ Code w b v xs
theorem Code.keep {w w' : World} {b : Nat} {v : Value} {xs : List Int} (h : Code w b v xs) (hc : ∀ k o, k < b → w'.cell? ⟨k, o, none⟩ = w.cell? ⟨k, o, none⟩) : Code w' b v xs := by
  obtain ⟨a, cap, rfl, hx, h⟩ := h
  refine ⟨a, cap, rfl, hx, ?_⟩
  rcases h with h | ⟨g, o, rfl, hg, h⟩
  · exact Or.inl h
  · exact Or.inr ⟨g, o, rfl, hg, fun j hj => (hc _ _ hg).trans (h j hj)⟩
theorem Cur.ext {w w' : World} {b : Nat} (h : Cur w b) (hx : Ext w w') : Cur w' b := by
  obtain ⟨v, xs, i, n, hb, c0, c1, c2, fz, hi, hl, hc⟩ := h
  exact ⟨v, xs, i, n, Nat.lt_of_lt_of_le hb hx.size, (hx.cell _ _ hb).trans c0, (hx.cell _ _ hb).trans c1, (hx.cell _ _ hb).trans c2, fun o => (hx.frozen _ _ hb).trans (fz o), hi, hl, hc.keep fun k o hk => hx.cell _ _ (by omega)⟩
theorem Cur.lt {w : World} {b : Nat} (h : Cur w b) : b < w.heap.size := by
  obtain ⟨v, xs, i, n, hb, -⟩ := h
  exact hb
theorem Code.set {w : World} {b : Nat} {v : Value} {xs : List Int} (h : Code w b v xs) (o : Nat) (u : Value) : Code (w.setCell ⟨b, o, none⟩ u) b v xs :=
  h.keep fun k o' hk => by
    apply World.cell?_setCell_other
    intro e
    have := congrArg Addr.block e
    dsimp only at this
    omega
theorem and255 (y : Int) : 0 ≤ bits .and .i64 y 255 ∧ bits .and .i64 y 255 ≤ 255 := by
  show 0 ≤ IntKind.i64.wrap ((BitVec.ofInt 64 y &&& BitVec.ofInt 64 255).toNat : Int) ∧ IntKind.i64.wrap ((BitVec.ofInt 64 y &&& BitVec.ofInt 64 255).toNat : Int) ≤ 255
  have h : (BitVec.ofInt 64 y &&& BitVec.ofInt 64 255).toNat ≤ 255 := by
    rw [BitVec.toNat_and]
    exact Nat.le_trans Nat.and_le_right (by decide)
  generalize (BitVec.ofInt 64 y &&& BitVec.ofInt 64 255).toNat = m at h ⊢
  rw [IntKind.wrap_i64]
  omega

set_option maxHeartbeats 800000 in
theorem spec_l01Byte (b : Nat) (w : World) (h : Cur w b) :
    Calls Tryz.prog 48 #[.pointer (some ⟨b, 0, none⟩)] w fun e w' => ∃ x : Int, e = .returned (.int .i64 x) ∧ (0 ≤ x ∧ x ≤ 255) ∧ Cur w' b ∧ Mut b w w' := by
  obtain ⟨v, xs, i, n, hb, c0, c1, c2, fz, hi, hl, hc⟩ := h
  obtain ⟨a, cap, rfl, hx, hr0⟩ := id hc
  clear hr0
  go_enter Tryz.func48, Tryz.ntmps48
  go_wp2
  generalize wrap64 (wrap64 (n * 6364136223846793005) + 1442695040888963407) = n1
  have d0 := (cell_set_off (w := w) (b := b) (u := .int .i64 n1) (show (2 : Nat) ≠ 0 by decide)).trans c0
  have d1 := (cell_set_off (w := w) (b := b) (u := .int .i64 n1) (show (2 : Nat) ≠ 1 by decide)).trans c1
  have d2 := World.cell?_setCell_same _ ⟨b, 2, none⟩ (.int .i64 n1) c2
  have M1 : Mut b w (w.setCell ⟨b, 2, none⟩ (.int .i64 n1)) := (Mut.refl b w).setCell 2 (.int .i64 n1)
  have df : ∀ o, (w.setCell ⟨b, 2, none⟩ (.int .i64 n1)).frozen? ⟨b, o, none⟩ = false := fun o => by rw [World.frozen?_setCell]; exact fz o
  have hb1 : b < (w.setCell ⟨b, 2, none⟩ (.int .i64 n1)).heap.size := by rw [World.size_setCell]; exact hb
  have hc1 := hc.set 2 (.int .i64 n1)
  generalize w.setCell ⟨b, 2, none⟩ (.int .i64 n1) = W1 at *
  clear c0 c1 c2 fz hb hc
  go_quiet (fail)
  go_wp2
  have hx0 := and255 (bits .xor .i64 (n1 / 8589934592) (n1 / 35184372088832))
  generalize bits .and .i64 (bits .xor .i64 (n1 / 8589934592) (n1 / 35184372088832)) 255 = x at *
  have HX := Lib.hid hx0
  by_cases hlt : i < xs.length
  · have hlt' : (i : Int) < xs.length := by omega
    have hi0 : (0 : Int) ≤ i := by omega
    obtain ⟨a', cap', he, -, hr⟩ := id hc1
    injection he with he1 he2 he3
    subst he1
    rcases hr with hr | ⟨g, o, rfl, hg, hr⟩
    · omega
    have dg := hr i hlt
    have hbx := hx i
    generalize xs.getD i 0 = y at *
    clear hr
    go_quiet (fail)
    go_wp2
    go_quiet (fail)
    go_wp2
    have hz := and255 (x + y)
    go_ret
    exact ⟨_, rfl, hz, ⟨_, xs, i + 1, n1, by rw [World.size_setCell]; exact hb1, (cell_set_off (by decide)).trans d0, World.cell?_setCell_same _ ⟨b, 1, none⟩ _ d1, (cell_set_off (by decide)).trans d2, fun o => by rw [World.frozen?_setCell]; exact df o, by omega, hl, (hc1.keep (w' := W1.drewN _) (fun _ _ _ => rfl)).set 1 _⟩, (M1.drewN _).setCell 1 _⟩
  · have hlt' : ¬ ((i : Int) < xs.length) := by omega
    go_quiet (fail)
    go_wp2
    go_ret
    exact ⟨x, rfl, HX.out, ⟨_, xs, i, n1, hb1, d0, d1, d2, df, hi, hl, hc1⟩, M1.drewN _⟩

set_option maxHeartbeats 800000 in
theorem spec_l01Below (b : Nat) (n : Int) (w : World) (h : Cur w b) (hn : 0 < n ∧ n ≤ 4294967296) :
    Calls Tryz.prog 20 #[.pointer (some ⟨b, 0, none⟩), .int .i64 n] w fun e w' => ∃ x : Int, e = .returned (.int .i64 x) ∧ (0 ≤ x ∧ x < n) ∧ Cur w' b ∧ Mut b w w' := by
  obtain ⟨hn1, hn2⟩ := hn
  have h0 : ¬ n ≤ 0 := by omega
  have h00 : n ≠ 0 := by omega
  by_cases hs : n ≤ 256
  · go_enter Tryz.func20, Tryz.ntmps20
    go_wp2_with fail
    refine (spec_l01Byte b _ h).mono ?_
    rintro e w1 ⟨x, rfl, hx, C1, M1⟩
    go_wp2
    go_ret
    exact ⟨_, rfl, ⟨Int.emod_nonneg _ h00, Int.emod_lt_of_pos _ hn1⟩, C1, M1⟩
  · go_enter Tryz.func20, Tryz.ntmps20
    go_wp2_with fail
    refine (spec_l01Byte b _ h).mono ?_
    rintro e w1 ⟨x, rfl, hx, C1, M1⟩
    go_wp2_with fail
    refine (spec_l01Byte b _ C1).mono ?_
    rintro e w2 ⟨y, rfl, hy, C2, M2⟩
    go_wp2_with fail
    refine (spec_l01Byte b _ C2).mono ?_
    rintro e w3 ⟨z, rfl, hz, C3, M3⟩
    go_wp2_with fail
    refine (spec_l01Byte b _ C3).mono ?_
    rintro e w4 ⟨u, rfl, hu, C4, M4⟩
    go_wp2
    go_ret
    exact ⟨_, rfl, ⟨Int.emod_nonneg _ h00, Int.emod_lt_of_pos _ hn1⟩, C4, ((M1.trans M2).trans M3).trans M4⟩
theorem cur_new {w : World} {v : Value} {xs : List Int} (n : Int) (h : Code w w.heap.size v xs) (hl : xs.length ≤ 1048576) {t : TypeId} : Ending.returned (.pointer (some ⟨w.heap.size, 0, none⟩)) = Ending.returned (.pointer (some ⟨w.heap.size, 0, none⟩)) ∧ Cur (w.alloc (Obj.cells #[v, .int .i64 0, .int .i64 n] t)) w.heap.size ∧ Ext w (w.alloc (Obj.cells #[v, .int .i64 0, .int .i64 n] t)) := by
  have hx : Ext w (w.alloc (Obj.cells #[v, .int .i64 0, .int .i64 n] t)) := (Ext.refl w).alloc _
  refine ⟨rfl, ⟨v, xs, 0, n, by simp, by simp [go_sem], by simp [go_sem], by simp [go_sem], fun o => by simp [go_sem], Nat.zero_le _, hl, h.keep fun k o hk => hx.cell _ _ hk⟩, hx⟩
set_option maxHeartbeats 800000 in
theorem spec_l01New (v : Value) (xs : List Int) (w : World) (h : Code w w.heap.size v xs) (hl : xs.length ≤ 1048576) :
    Calls Tryz.prog 19 #[v] w fun e w' => e = .returned (.pointer (some ⟨w.heap.size, 0, none⟩)) ∧ Cur w' w.heap.size ∧ Ext w w' := by
  have HC := Lib.hid h
  obtain ⟨a, cap, rfl, hx, hr⟩ := h
  go_enter Tryz.func19, Tryz.ntmps19
  go_wp2
  go_loopw [3, 4] (fun hv iv wr => ∃ (j : Nat) (n : Int), j ≤ xs.length ∧ j ≤ 4000 ∧ iv = .int .i64 j ∧ hv = .int .i64 n ∧ w = wr) (fun _ iv _ => 4000 - (intOf iv).toNat)
  case atStart => exact ⟨0, _, by omega, by omega, rfl, rfl, rfl⟩
  case round =>
    obtain ⟨j, n, hj, hj4, rfl, rfl, rfl⟩ := hrel
    have hjl0 : (0 : Int) ≤ j := by omega
    by_cases hlt : j < xs.length
    · have hlt' : (j : Int) < xs.length := by omega
      by_cases h4 : j < 4000
      · have h4' : (j : Int) < 4000 := by omega
        rcases hr with hr | ⟨g, o, rfl, hg, hr⟩
        · omega
        have dg := hr j hlt
        have hbx := hx j
        generalize xs.getD j 0 = y at *
        go_wp2
        go_roundw
        case rel => exact ⟨j + 1, _, by omega, by omega, by go_num, rfl, by trivial⟩
        case measure => simp [intOf]; omega
      · have h4' : ¬ (j : Int) < 4000 := by omega
        go_wp2
        go_ret
        exact cur_new _ HC.out hl

    · have hlt' : ¬ (j : Int) < xs.length := by omega
      go_wp2
      go_ret
      exact cur_new _ HC.out hl

end Go.Proofs.YtkphipgfcbckcaaGreatDoor
namespace Go.Proofs.YtkphipgfcbckcaaGreatDoor
open Go.RowKit

theorem Cur.grown {w w' : World} {b : Nat} {row : Option Nat} (h : Cur w b) (hg : w.grownBy w' row) (hr : ∀ k, row = some k → b < k) : Cur w' b := by
  obtain ⟨v, xs, i, n, hb, c0, c1, c2, fz, hi, hl, hc⟩ := h
  have hcell : ∀ k o, k ≤ b → w'.cell? ⟨k, o, none⟩ = w.cell? ⟨k, o, none⟩ := fun k o hk => World.cell?_of_block (w := w) (a := ⟨k, o, none⟩) (hg.block k (by omega) (fun e => by have := hr k e.symm; omega))
  have hfz : ∀ k o, k ≤ b → w'.frozen? ⟨k, o, none⟩ = w.frozen? ⟨k, o, none⟩ := fun k o hk => World.frozen?_of_block (w := w) (a := ⟨k, o, none⟩) (hg.block k (by omega) (fun e => by have := hr k e.symm; omega))
  exact ⟨v, xs, i, n, Nat.lt_of_lt_of_le hb hg.size, (hcell _ _ (Nat.le_refl _)).trans c0, (hcell _ _ (Nat.le_refl _)).trans c1, (hcell _ _ (Nat.le_refl _)).trans c2, fun o => (hfz _ _ (Nat.le_refl _)).trans (fz o), hi, hl, hc.keep fun k o hk => hcell k o (by omega)⟩
theorem Mut.grown {b : Nat} {w w1 w2 : World} {row : Option Nat} (h : Mut b w w1) (hg : w1.grownBy w2 row) (hr : ∀ k, row = some k → w.heap.size ≤ k) : Mut b w w2 :=
  ⟨hg.os.trans h.os, hg.tape.trans h.tape, hg.output.trans h.output, Nat.le_trans h.size hg.size, fun i hi hb => (hg.block i (Nat.lt_of_lt_of_le hi h.size) (fun e => by have := hr i e.symm; omega)).trans (h.block i hi hb)⟩
theorem own_str {w : World} {base n : Nat} {v : Value} {ys : List Int} (h : w.ownsRow base 5 1 v n (ys.map (Value.int .u8))) : ∃ s : ByteArray, s.size = n ∧ (convert 22 9 v).run Tryz.prog w = .ok (.string s) w := by
  have hl : ys.length = n := by simpa using h.1
  rcases h.2 with ⟨rfl, rfl⟩ | ⟨g, cap, cur, rfl, -⟩
  · exact ⟨⟨#[]⟩, rfl, Lib.run_convert_nil_bytes w _ _ _ _ Tryz.underlying22 Tryz.underlying5 Tryz.underlying9⟩
  · exact ⟨strOfNums ys, by rw [strOfNums_size, hl], conv_own h⟩

set_option maxHeartbeats 1600000 in
theorem spec_l01Text (b n : Nat) (w : World) (h : Cur w b) (hn : n ≤ 5000) :
    Calls Tryz.prog 74 #[.pointer (some ⟨b, 0, none⟩), .int .i64 n] w fun e w' => ∃ s : ByteArray, e = .returned (.string s) ∧ s.size = n ∧ Cur w' b ∧ Mut b w w' := by
  obtain ⟨i0, hi, hz0, hz1, hz2⟩ := info_parts infoByte
  have hn5 : ¬ (5000 : Int) < n := by omega
  have hb := h.lt
  go_enter Tryz.func74, Tryz.ntmps74
  go_wp2
  go_loopw [5, 6] (fun v i wr => ∃ (ys : List Int), i = .int .i64 ys.length ∧ ys.length ≤ n ∧ wr.ownsRow w.heap.size 5 1 v ys.length (ys.map (Value.int .u8)) ∧ Cur wr b ∧ Mut b w wr) (fun _ i _ => n - (intOf i).toNat)
  case atStart => exact ⟨[], rfl, Nat.zero_le _, World.ownsRow_lit w #[] 0 (Nat.le_refl _) (Nat.zero_le _) rfl, h.ext (by repeat (first | (with_reducible first | exact Ext.refl _ | assumption | apply Ext.alloc | apply Ext.drew | apply Ext.drewN | refine Ext.setCell ?_ ?_ _ | refine Ext.trans ?_ (by assumption)) | (show _ ≤ _; first | omega | (dsimp only; omega) | (simp; done) | (simp; omega)))), Mut.of_ext (by repeat (first | (with_reducible first | exact Ext.refl _ | assumption | apply Ext.alloc | apply Ext.drew | apply Ext.drewN | refine Ext.setCell ?_ ?_ _ | refine Ext.trans ?_ (by assumption)) | (show _ ≤ _; first | omega | (dsimp only; omega) | (simp; done) | (simp; omega))))⟩
  case round =>
    obtain ⟨ys, rfl, hle, hown, hc, hm⟩ := hrel
    obtain ⟨a, c, rfl⟩ := own_any hown
    have hsz := hm.size
    have HO := Lib.hid hown
    clear hown
    by_cases hlt : ys.length < n
    · have hlt' : (ys.length : Int) < n := by omega
      go_wp2_with fail
      refine (spec_l01Byte b _ hc).mono ?_
      rintro e w1 ⟨x, rfl, hx, C1, M1⟩
      have hown := own_grown HO.out M1 (fun k hk => by injection hk with hk; omega)
      have M2 := hm.trans M1
      have hs2 := M2.size
      go_wp2_with (at_builtin; refine wpList_append_own _ rfl (.tmp 15) (.tmp 19) 22 rfl w.heap.size 5 i0 (.int .u8 0) 1 1 Tryz.underlying22 hi hz0 hz1 hz2 rfl (by decide) _ _ _ rfl (hown.alloc _) ⟨w1.heap.size, 0, none⟩ 1 1 [.int .u8 x] rfl rfl ?c1 ?c2 ?c3 ?c4 ?c5 ?_)
      case c1 =>
        intro j u hj
        match j, hj with
        | 0, hj => simp at hj; subst hj; simp [Addr.add]
      case c2 => intro u hu; simp at hu; subst hu; rfl
      case c3 => unfold maxLen; omega
      case c4 => omega
      case c5 => simp; omega
      intro v' w2 hown' hgrow _
      have hx1 : Mut b w w2 := (M2.alloc _).grown hgrow (fun k hk => (own_lt hown k hk).1)
      have C2 : Cur w2 b := (C1.ext ((Ext.refl _).alloc _)).grown hgrow (fun k hk => by have := (own_lt hown k hk).1; omega)
      have HO2 := Lib.hid hown'
      clear hown' hgrow hown HO
      go_wp2
      go_roundw
      case rel => exact ⟨ys ++ [x], by simp, by simp; omega, by simpa using HO2.out, C2, hx1⟩
      case measure => simp [intOf]; omega
    · have hlt' : ¬ (ys.length : Int) < n := by omega
      obtain ⟨s, hs, hcv⟩ := own_str HO.out
      go_wp2
      go_ret
      exact ⟨s, rfl, by omega, hc, hm⟩
end Go.Proofs.YtkphipgfcbckcaaGreatDoor
namespace Go.Proofs.YtkphipgfcbckcaaGreatDoor
open Go.RowKit

theorem laws_big (v : Value) (b : Nat) (xs : List Int) (w : World) (h : Code w b v xs) :
    Calls Tryz.prog 4 #[v] w fun e w' => e = .returned (.bool (decide ((1048576 : Int) < xs.length))) ∧ w = w' := by
  obtain ⟨a, cap, rfl, -, -⟩ := h
  go_enter Tryz.func4, Tryz.ntmps4
  go_wp2
  go_ret
  exact ⟨rfl, rfl⟩
end Go.Proofs.YtkphipgfcbckcaaGreatDoor
namespace Go.Proofs.YtkphipgfcbckcaaGreatDoor
open Go.RowKit

end Go.Proofs.YtkphipgfcbckcaaGreatDoor

namespace Go.Proofs.YtkphipgfcbckcaaGreatDoor
open Go.RowKit

theorem sigWell_fit {s : SigV} (h : sigWell s = true) : (∀ x ∈ s.op, x.size ≤ 32) ∧ (∀ x ∈ s.sh, x.size ≤ 32) ∧ ∀ x ∈ s.si, x.size ≤ 32 := by
  obtain ⟨h1, h2, h3⟩ := sigWell_wide h
  exact ⟨wide16_32 h1, wide16_32 h2, wide16_32 h3⟩
theorem sig_fit {s : SigV} (h : sigWell s = true) : SigFit s := by
  obtain ⟨h1, h2, h3⟩ := sigWell_fit h
  exact ⟨fun x hx => le_max (h1 x hx) (by omega), fun x hx => le_max (h2 x hx) (by omega), fun x hx => le_max (h3 x hx) (by omega)⟩
theorem sigOk_parts {root text : ByteArray} {s : SigV} (h : sigOkB root text s = true) : sigWell s = true ∧ text.size ≤ 200 ∧ sgRoot text s = root := by
  simp only [sigOkB, Bool.and_eq_true, decide_eq_true_eq] at h
  exact h
end Go.Proofs.YtkphipgfcbckcaaGreatDoor

namespace Go.Proofs.YtkphipgfcbckcaaGreatDoor
open Go.RowKit

theorem own_mut {w w' : World} {base b : Nat} {e : TypeId} {n len : Nat} {v : Value} {l : List Value} (h : w.ownsRow base e n v len l) (hb : b < base) (hm : Mut b w w') : w'.ownsRow base e n v len l := own_grown2 h hm (fun k hk hv => by cases hk; have := (own_lt h b hv).1; omega)
theorem Mut.grew {b : Nat} {w w' w'' : World} (h : Mut b w w') {row : Option Nat} (hg : w'.grownBy w'' row) (hr : ∀ k, row = some k → w.heap.size ≤ k) : Mut b w w'' :=
  ⟨hg.os.trans h.os, hg.tape.trans h.tape, hg.output.trans h.output, Nat.le_trans h.size hg.size, fun i hi hb => (hg.block i (Nat.lt_of_lt_of_le hi h.size) (fun e => by have := hr i e.symm; omega)).trans (h.block i hi hb)⟩
theorem mut_new {b : Nat} {w w' : World} {c : Nat} (h : Mut b w w') (o : Nat) (u : Value) (hc : w.heap.size ≤ c := by exact Nat.le_refl _) : Mut b w (w'.setCell ⟨c, o, none⟩ u) := h.grew (row := some c) ⟨rfl, rfl, rfl, by simp [World.setCell], fun k _ hk => Below.heap_setCell _ _ _ _ (by simpa using hk)⟩ (fun k hk => by cases hk; exact hc)
end Go.Proofs.YtkphipgfcbckcaaGreatDoor
