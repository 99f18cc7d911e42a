/- Secrets, public keys, pools: both. -/
import Derived.Test.YtliebkhfddmhjaaDoorSigU
import Derived.Test.YtliebkhfddmhjaaDoorStrA
import Derived.Test.YtliebkhfddmhjaaDoorCore
namespace Go.Proofs.YtliebkhfddmhjaaDoor
open Go.RowKit

/-- a secret -/
def secT (seed : ByteArray) (a b v : Int) : ByteArray := tagH 5 [seed, strOfNums [a, b, v]] 16
def pubOk (seed : ByteArray) (a : Int) : Bool := decide (seed.size ≤ 100) && inB a 0 15
def pubL (seed : ByteArray) (a : Int) (n : Nat) : List ByteArray := (List.range n).map fun j : Nat => lkH (secT seed a ((j / 2 : Nat) : Int) ((j % 2 : Nat) : Int))
/-- a public key -/
def pubT (seed : ByteArray) (a : Int) : ByteArray := if pubOk seed a = true then tagH 6 (pubL seed a 16) 16 else ⟨#[]⟩
/-- a pool -/
def poolK (seed : ByteArray) (n : Nat) : List ByteArray := (List.range n).map fun j : Nat => pubT seed (j : Int)
theorem pub_yes {seed : ByteArray} {a : Int} (h : pubOk seed a = true) : pubT seed a = tagH 6 (pubL seed a 16) 16 := by rw [pubT, if_pos h]
theorem pub_no {seed : ByteArray} {a : Int} (h : pubOk seed a = false) : pubT seed a = ⟨#[]⟩ := by rw [pubT, if_neg (by rw [h]; decide)]
theorem pubOk_true {seed : ByteArray} {a : Int} (h : pubOk seed a = true) : seed.size ≤ 100 ∧ 0 ≤ a ∧ a ≤ 15 := by
  rw [pubOk, Bool.and_eq_true, inB_true] at h
  exact ⟨of_decide_eq_true h.1, h.2⟩
theorem pubL_len (seed : ByteArray) (a : Int) (n : Nat) : (pubL seed a n).length = n := by simp [pubL]
theorem pubL_succ (seed : ByteArray) (a : Int) (n : Nat) : pubL seed a (n + 1) = pubL seed a n ++ [lkH (secT seed a ((n / 2 : Nat) : Int) ((n % 2 : Nat) : Int))] := by simp [pubL, List.range_succ]
theorem pubL_fit (seed : ByteArray) (a : Int) (n : Nat) : ∀ s ∈ pubL seed a n, s.size ≤ 32 := by
  intro s hs
  rw [pubL, List.mem_map] at hs
  obtain ⟨j, -, rfl⟩ := hs
  exact tagH_le _ _ _
theorem poolK_len (seed : ByteArray) (n : Nat) : (poolK seed n).length = n := by simp [poolK]
theorem poolK_succ (seed : ByteArray) (n : Nat) : poolK seed (n + 1) = poolK seed n ++ [pubT seed (n : Int)] := by simp [poolK, List.range_succ]
theorem pubT_le (seed : ByteArray) (a : Int) : (pubT seed a).size ≤ 32 := by
  rw [pubT]
  split
  · exact tagH_le _ _ _
  · decide
theorem poolK_fit (seed : ByteArray) (n : Nat) : ∀ s ∈ poolK seed n, s.size ≤ 32 := by
  intro s hs
  rw [poolK, List.mem_map] at hs
  obtain ⟨j, -, rfl⟩ := hs
  exact pubT_le _ _
theorem sec_16 {seed : ByteArray} (a b v : Int) (h : seed.size ≤ 100) : (secT seed a b v).size = 16 := by
  have hw : tagWell 5 [seed, strOfNums [a, b, v]] = true := tag_yes (by decide) (by simp) (fun p hp => by
    simp only [List.mem_cons, List.not_mem_nil, or_false] at hp
    have : (strOfNums [a, b, v]).size = 3 := strOfNums_size _
    rcases hp with rfl | rfl <;> omega)
  have := cutT_size (tagTx 5 [seed, strOfNums [a, b, v]]) 16 (by decide)
  rw [secT, tagH, if_pos hw]
  omega
theorem lk_16 {o : ByteArray} (h : o.size ≤ 200) : (lkH o).size = 16 := by
  have hw : tagWell 6 [o] = true := tag_yes (by decide) (by simp) (fun p hp => by simp at hp; rw [hp]; omega)
  have := cutT_size (tagTx 6 [o]) 16 (by decide)
  rw [lkH, tagH, if_pos hw]
  omega
theorem pub_16 {seed : ByteArray} {a : Int} (h : pubOk seed a = true) : (pubT seed a).size = 16 := by
  have hw : tagWell 6 (pubL seed a 16) = true := tag_yes (by decide) (by rw [pubL_len]; decide) (fun p hp => by have := pubL_fit seed a 16 p hp; omega)
  have := cutT_size (tagTx 6 (pubL seed a 16)) 16 (by decide)
  rw [pub_yes h, tagH, if_pos hw]
  omega
theorem not_empty {s : ByteArray} (h : s.size ≠ 0) : s.toList.isEmpty = false ∧ (s.toList == []) = false := by
  have h1 : s.toList.isEmpty = false := by rw [toList_empty]; exact decide_eq_false h
  exact ⟨h1, by simpa using h1⟩
theorem infoStrP : (Tryd.prog.info? 9).map (fun i => (i.zero, i.size, i.bytes)) = some (some (.string ⟨#[]⟩), 1, 16) := by kernel_rfl
theorem conv_lit3' (w : World) (x y z : Int) (b : Nat) (hb : b = w.heap.size) : (convert 44 9 (.slice (some ⟨b, 0, none⟩) 3 3)).run Tryd.prog (w.alloc (.cells #[.int .u8 x, .int .u8 y, .int .u8 z] 5)) = .ok (.string (strOfNums [x, y, z])) (w.alloc (.cells #[.int .u8 x, .int .u8 y, .int .u8 z] 5)) := conv_lit3 w x y z b hb
theorem impl_LockOf (o : ByteArray) (w : World) (ho : o.size ≤ maxLen) (hT : Tabs w) :
    Calls Tryd.prog 162 #[.string o] w fun e w' => e = .returned (.string (lkH o)) ∧ Ext w w' := by
  have ff := fit1 ho
  have HT := Lib.hid hT
  clear hT
  go_enter Tryd.func162, Tryd.ntmps162
  go_wp2_with (go_at_call 163; refine (impl_hashOf 6 _ [o] 16 _ (by exact strs_lit1 _ _ _) ff (by exact HT.out.ext (by repeat (first | (with_reducible first | exact Ext.refl _ | assumption | apply Ext.alloc | apply Ext.drew | apply Ext.drewN | refine Ext.setCell ?_ ?_ _ | refine Ext.trans ?_ (by assumption)) | (show _ ≤ _; first | omega | (dsimp only; omega) | (simp; done) | (simp; omega)))))).mono ?_; rintro e w1 ⟨rfl, x1⟩)
  go_ret
  exact ⟨rfl, (by repeat (first | (with_reducible first | exact Ext.refl _ | assumption | apply Ext.alloc | apply Ext.drew | apply Ext.drewN | refine Ext.setCell ?_ ?_ _ | refine Ext.trans ?_ (by assumption)) | (show _ ≤ _; first | omega | (dsimp only; omega) | (simp; done) | (simp; omega))))⟩

set_option maxHeartbeats 1600000 in
theorem spec_SecretOf (seed : ByteArray) (a b v : Int) (w : World) (hs : seed.size ≤ 100) (ha : inB a 0 15 = true) (hb : inB b 0 7 = true) (hv : inB v 0 1 = true) :
    Calls Tryd.prog 159 #[.string seed, .int .i64 a, .int .i64 b, .int .i64 v] w fun e w' => e = .returned (.string (secT seed a b v)) ∧ Ext w w' := by
  obtain ⟨a0, a1⟩ := inB_true.1 ha
  obtain ⟨b0, b1⟩ := inB_true.1 hb
  obtain ⟨v0, v1⟩ := inB_true.1 hv
  have hsi : ¬ (100 : Int) < seed.size := by omega
  have z3 : (strOfNums [a, b, v]).size = 3 := strOfNums_size _
  have ff := fit2 (a := seed) (b := strOfNums [a, b, v]) (by unfold maxLen; omega) (by unfold maxLen; omega)
  have e1 : a % 256 = a := by omega
  have e2 : b % 256 = b := by omega
  have e3 : v % 256 = v := by omega
  have hcv := conv_lit3'
  clear z3
  go_enter Tryd.func159, Tryd.ntmps159
  go_wp2_with (go_at_call 112; refine (spec_l01In _ _ _ _).mono ?_; rintro e w' ⟨rfl, rfl⟩)
  refine (spec_TagHash 5 _ [seed, strOfNums [a, b, v]] 16 _ (by exact strs_lit (w.alloc (Obj.cells #[.int .u8 a, .int .u8 b, .int .u8 v] 5)) [seed, strOfNums [a, b, v]] 2 _ _ rfl (by rw [World.size_alloc]) (by omega)) ff).mono ?_
  rintro e w1 ⟨rfl, x1⟩
  go_wp2
  go_ret
  exact ⟨rfl, (by repeat (first | (with_reducible first | exact Ext.refl _ | assumption | apply Ext.alloc | apply Ext.drew | apply Ext.drewN | refine Ext.setCell ?_ ?_ _ | refine Ext.trans ?_ (by assumption)) | (show _ ≤ _; first | omega | (dsimp only; omega) | (simp; done) | (simp; omega))))⟩
set_option maxHeartbeats 1600000 in
theorem spec_SecretNo (seed : ByteArray) (a b v : Int) (w : World) (h : pubOk seed a = false) :
    Calls Tryd.prog 159 #[.string seed, .int .i64 a, .int .i64 b, .int .i64 v] w fun e w' => e = .returned (.string ⟨#[]⟩) ∧ w = w' := by
  by_cases hs : seed.size ≤ 100
  · have hsi : ¬ (100 : Int) < seed.size := by omega
    have ha : inB a 0 15 = false := by rw [pubOk, decide_eq_true hs, Bool.true_and] at h; exact h
    clear h
    go_enter Tryd.func159, Tryd.ntmps159
    go_wp2_with (go_at_call 112; refine (spec_l01In _ _ _ _).mono ?_; rintro e w' ⟨rfl, rfl⟩)
    go_ret
    exact ⟨rfl, rfl⟩
  · have hsi : (100 : Int) < seed.size := by omega
    clear h
    go_enter Tryd.func159, Tryd.ntmps159
    go_wp2
    go_ret
    exact ⟨rfl, rfl⟩
set_option maxRecDepth 100000 in
set_option maxHeartbeats 3200000 in
theorem spec_PublicOf (seed : ByteArray) (a : Int) (w : World) :
    Calls Tryd.prog 125 #[.string seed, .int .i64 a] w fun e w' => e = .returned (.string (pubT seed a)) ∧ Ext w w' := by
  obtain ⟨i0, hi, hz0, hz1, hz2⟩ := info_parts infoStrP
  cases hok : pubOk seed a
  · have HR := Lib.hid (pub_no hok)
    have HOK := Lib.hid hok
    clear hok
    go_enter Tryd.func125, Tryd.ntmps125
    go_wp2
    go_loopw [6] (fun iv wr => iv = .int .i64 0 ∧ Ext w wr) (fun _ _ => 0)
    case atStart => exact ⟨rfl, (by repeat (first | (with_reducible first | exact Ext.refl _ | assumption | apply Ext.alloc | apply Ext.drew | apply Ext.drewN | refine Ext.setCell ?_ ?_ _ | refine Ext.trans ?_ (by assumption)) | (show _ ≤ _; first | omega | (dsimp only; omega) | (simp; done) | (simp; omega))))⟩
    case round =>
      obtain ⟨rfl, hx⟩ := hrel
      go_wp2
      go_loopw [7] (fun iv wr => iv = .int .i64 0 ∧ Ext w wr) (fun _ _ => 0)
      case atStart => exact ⟨rfl, hx⟩
      case round =>
        obtain ⟨rfl, hx⟩ := hrel
        go_wp2_with (go_at_call 159; refine (spec_SecretNo seed a 0 0 _ HOK.out).mono ?_; rintro e w' ⟨rfl, rfl⟩)
        go_ret
        exact ⟨ret_str HR.out.symm, (by repeat (first | (with_reducible first | exact Ext.refl _ | assumption | apply Ext.alloc | apply Ext.drew | apply Ext.drewN | refine Ext.setCell ?_ ?_ _ | refine Ext.trans ?_ (by assumption)) | (show _ ≤ _; first | omega | (dsimp only; omega) | (simp; done) | (simp; omega))))⟩
  · have HR := Lib.hid (pub_yes hok)
    obtain ⟨hs, ha0, ha1⟩ := pubOk_true hok
    have HA := Lib.hid (show inB a 0 15 = true from inB_true.2 ⟨ha0, ha1⟩)
    clear hok
    go_enter Tryd.func125, Tryd.ntmps125
    go_wp2
    go_loopw [5, 6] (fun lv iv wr => ∃ k : Nat, k ≤ 8 ∧ iv = .int .i64 k ∧ wr.ownsRow w.heap.size 9 1 lv (2 * k) ((pubL seed a (2 * k)).map Value.string) ∧ Ext w wr) (fun _ iv _ => 8 - (intOf iv).toNat)
    case atStart => exact ⟨0, by omega, rfl, World.ownsRow_lit w #[] 0 (Nat.le_refl _) (Nat.zero_le _) rfl, (by repeat (first | (with_reducible first | exact Ext.refl _ | assumption | apply Ext.alloc | apply Ext.drew | apply Ext.drewN | refine Ext.setCell ?_ ?_ _ | refine Ext.trans ?_ (by assumption)) | (show _ ≤ _; first | omega | (dsimp only; omega) | (simp; done) | (simp; omega))))⟩
    case round =>
      obtain ⟨k, hk, rfl, hown, hx⟩ := hrel
      by_cases hlt : k < 8
      · have hlt' : (k : Int) < 8 := by omega
        have HO := Lib.hid hown
        have hb : inB (k : Int) 0 7 = true := inB_true.2 (by omega)
        have HB := Lib.hid hb
        clear hown hb
        go_wp2
        go_loopw [5, 7] (fun lv iv wr => ∃ j : Nat, j ≤ 2 ∧ iv = .int .i64 j ∧ wr.ownsRow w.heap.size 9 1 lv (2 * k + j) ((pubL seed a (2 * k + j)).map Value.string) ∧ Ext w wr) (fun _ iv _ => 2 - (intOf iv).toNat)
        case atStart => exact ⟨0, by omega, rfl, HO.out, hx⟩
        case round =>
          obtain ⟨j, hj, rfl, hown, hx⟩ := hrel
          obtain ⟨ga, gc, rfl⟩ := own_any hown
          by_cases hj2 : j < 2
          · have hj2' : (j : Int) < 2 := by omega
            have HV := Lib.hid (show inB (j : Int) 0 1 = true from inB_true.2 (by omega))
            have HO := Lib.hid hown
            clear hown
            go_wp2_with fail
            refine (spec_SecretOf seed a k j _ hs HA.out HB.out HV.out).mono ?_
            have h16 := sec_16 (seed := seed) a k j hs
            have HSU := Lib.hid (pubL_succ seed a (2 * k + j))
            have HSE := Lib.hid (show lkH (secT seed a (((2 * k + j) / 2 : Nat) : Int) (((2 * k + j) % 2 : Nat) : Int)) = lkH (secT seed a k j) by rw [show (2 * k + j) / 2 = k by omega, show (2 * k + j) % 2 = j by omega])
            generalize secT seed a k j = sec at *
            obtain ⟨n1, n2⟩ := not_empty (s := sec) (by omega)
            rintro e w1 ⟨rfl, x1⟩
            have X1 : Ext w w1 := (by repeat (first | (with_reducible first | exact Ext.refl _ | assumption | apply Ext.alloc | apply Ext.drew | apply Ext.drewN | refine Ext.setCell ?_ ?_ _ | refine Ext.trans ?_ (by assumption)) | (show _ ≤ _; first | omega | (dsimp only; omega) | (simp; done) | (simp; omega))))
            have O1 := Lib.hid (own_ext HO.out x1)
            go_wp2_with fail
            refine (spec_LockOf sec _ (by unfold maxLen; omega)).mono ?_
            generalize lkH sec = lk at *
            rintro e w2 ⟨rfl, x2⟩
            have X2 : Ext w w2 := (by repeat (first | (with_reducible first | exact Ext.refl _ | assumption | apply Ext.alloc | apply Ext.drew | apply Ext.drewN | refine Ext.setCell ?_ ?_ _ | refine Ext.trans ?_ (by assumption)) | (show _ ≤ _; first | omega | (dsimp only; omega) | (simp; done) | (simp; omega))))
            have O2 := Lib.hid (own_ext O1.out x2)
            have s2 := X2.size
            clear HO O1
            go_wp2_with (at_builtin; refine wpList_append_own _ rfl (.tmp 25) (.tmp 28) 22 rfl w.heap.size 9 i0 (.string ⟨#[]⟩) 1 16 Tryd.underlying22 hi hz0 hz1 hz2 rfl (by decide) _ _ _ rfl (O2.out.alloc _) ⟨w2.heap.size, 0, none⟩ 1 1 [.string lk] rfl rfl (World.news_of_block (heap_alloc_new w2 _)) (by intro u hu; rw [List.mem_singleton] at hu; rw [hu]; rfl) (by unfold maxLen; omega) (by omega) (by simp; omega) ?_)
            intro v3 w3 own3 hgrow _
            have X3 : Ext w w3 := own_ext_of (X2.alloc _) (own_alloc O2.out _) hgrow (Nat.le_refl _)
            obtain ⟨a3, c3, rfl⟩ := own_any own3
            have O3 := Lib.hid own3
            clear own3 hgrow
            go_wp2
            go_roundw
            case rel => exact ⟨j + 1, by omega, by go_num, by rw [← Nat.add_assoc, HSU.out, HSE.out, List.map_append]; exact O3.out, X3⟩
            case measure => simp [intOf]; omega
          · obtain rfl : j = 2 := by omega
            have HO := Lib.hid hown
            clear hown
            go_wp2
            go_roundw
            case rel => exact ⟨k + 1, by omega, by go_num, by rw [show 2 * (k + 1) = 2 * k + 2 by omega]; exact HO.out, hx⟩
            case measure => simp [intOf]; omega
      · obtain rfl : k = 8 := by omega
        have st : Strs wr _ (pubL seed a 16) := Row.of_owns (show wr.ownsRow w.heap.size 9 1 _ 16 ((pubL seed a 16).map Value.string) from hown)
        have ST := Lib.hid st
        obtain ⟨ga, gc, rfl⟩ := own_any hown
        clear hown st
        go_wp2_with fail
        refine (spec_TagHash 6 _ (pubL seed a 16) 16 _ (by exact ST.out) (fun s hs => by have := pubL_fit seed a 16 s hs; unfold maxLen; omega)).mono ?_
        rintro e w1 ⟨rfl, x1⟩
        go_wp2
        go_ret
        exact ⟨ret_str HR.out.symm, (by repeat (first | (with_reducible first | exact Ext.refl _ | assumption | apply Ext.alloc | apply Ext.drew | apply Ext.drewN | refine Ext.setCell ?_ ?_ _ | refine Ext.trans ?_ (by assumption)) | (show _ ≤ _; first | omega | (dsimp only; omega) | (simp; done) | (simp; omega))))⟩
set_option maxRecDepth 100000 in
set_option maxHeartbeats 3200000 in
theorem spec_PoolOf (seed : ByteArray) (w : World) :
    Calls Tryd.prog 54 #[.string seed] w fun e w' => ∃ a c, e = .returned (.slice a 16 c) ∧ OwnStrs w' w.heap.size (.slice a 16 c) (poolK seed 16) ∧ Ext w w' := by
  obtain ⟨i0, hi, hz0, hz1, hz2⟩ := info_parts infoStrP
  go_enter Tryd.func54, Tryd.ntmps54
  go_wp2
  go_loopw [3, 4] (fun lv iv wr => ∃ k : Nat, k ≤ 16 ∧ iv = .int .i64 k ∧ wr.ownsRow w.heap.size 9 1 lv k ((poolK seed k).map Value.string) ∧ Ext w wr) (fun _ iv _ => 16 - (intOf iv).toNat)
  case atStart => exact ⟨0, by omega, rfl, World.ownsRow_lit w #[] 0 (Nat.le_refl _) (Nat.zero_le _) rfl, (by repeat (first | (with_reducible first | exact Ext.refl _ | assumption | apply Ext.alloc | apply Ext.drew | apply Ext.drewN | refine Ext.setCell ?_ ?_ _ | refine Ext.trans ?_ (by assumption)) | (show _ ≤ _; first | omega | (dsimp only; omega) | (simp; done) | (simp; omega))))⟩
  case round =>
    obtain ⟨k, hk, rfl, hown, hx⟩ := hrel
    obtain ⟨ga, gc, rfl⟩ := own_any hown
    by_cases hlt : k < 16
    · have hlt' : (k : Int) < 16 := by omega
      have HO := Lib.hid hown
      have HSU := Lib.hid (poolK_succ seed k)
      clear hown
      go_wp2_with fail
      refine (spec_PublicOf seed k _).mono ?_
      generalize pubT seed k = pk at *
      rintro e w2 ⟨rfl, x2⟩
      have X2 : Ext w w2 := (by repeat (first | (with_reducible first | exact Ext.refl _ | assumption | apply Ext.alloc | apply Ext.drew | apply Ext.drewN | refine Ext.setCell ?_ ?_ _ | refine Ext.trans ?_ (by assumption)) | (show _ ≤ _; first | omega | (dsimp only; omega) | (simp; done) | (simp; omega))))
      have O2 := Lib.hid (own_ext HO.out x2)
      have s2 := X2.size
      clear HO
      go_wp2_with (at_builtin; refine wpList_append_own _ rfl (.tmp 10) (.tmp 14) 22 rfl w.heap.size 9 i0 (.string ⟨#[]⟩) 1 16 Tryd.underlying22 hi hz0 hz1 hz2 rfl (by decide) _ _ _ rfl (O2.out.alloc _) ⟨w2.heap.size, 0, none⟩ 1 1 [.string pk] rfl rfl (World.news_of_block (heap_alloc_new w2 _)) (by intro u hu; rw [List.mem_singleton] at hu; rw [hu]; rfl) (by unfold maxLen; omega) (by omega) (by simp; omega) ?_)
      intro v3 w3 own3 hgrow _
      have X3 : Ext w w3 := own_ext_of (X2.alloc _) (own_alloc O2.out _) hgrow (Nat.le_refl _)
      obtain ⟨a3, c3, rfl⟩ := own_any own3
      have O3 := Lib.hid own3
      clear own3 hgrow
      go_wp2
      go_roundw
      case rel => exact ⟨k + 1, by omega, by go_num, by rw [HSU.out, List.map_append]; exact O3.out, X3⟩
      case measure => simp [intOf]; omega
    · obtain rfl : k = 16 := by omega
      have HO := Lib.hid hown
      clear hown
      go_wp2
      go_ret
      exact ⟨ga, gc, rfl, by unfold OwnStrs; rw [poolK_len]; exact HO.out, hx⟩

set_option maxHeartbeats 1600000 in
theorem impl_SecretOf (seed : ByteArray) (a b v : Int) (w : World) (hs : seed.size ≤ 100) (ha : inB a 0 15 = true) (hb : inB b 0 7 = true) (hv : inB v 0 1 = true) (hT : Tabs w) :
    Calls Tryd.prog 161 #[.string seed, .int .i64 a, .int .i64 b, .int .i64 v] w fun e w' => e = .returned (.string (secT seed a b v)) ∧ Ext w w' := by
  have HT := Lib.hid hT
  clear hT
  obtain ⟨a0, a1⟩ := inB_true.1 ha
  obtain ⟨b0, b1⟩ := inB_true.1 hb
  obtain ⟨v0, v1⟩ := inB_true.1 hv
  have hsi : ¬ (100 : Int) < seed.size := by omega
  have z3 : (strOfNums [a, b, v]).size = 3 := strOfNums_size _
  have ff := fit2 (a := seed) (b := strOfNums [a, b, v]) (by unfold maxLen; omega) (by unfold maxLen; omega)
  have e1 : a % 256 = a := by omega
  have e2 : b % 256 = b := by omega
  have e3 : v % 256 = v := by omega
  have hcv := conv_lit3'
  clear z3
  go_enter Tryd.func161, Tryd.ntmps161
  go_wp2_with (go_at_call 152; refine (impl_in _ _ _ _).mono ?_; rintro e w' ⟨rfl, rfl⟩)
  refine (impl_hashOf 5 _ [seed, strOfNums [a, b, v]] 16 _ (by exact strs_lit (w.alloc (Obj.cells #[.int .u8 a, .int .u8 b, .int .u8 v] 5)) [seed, strOfNums [a, b, v]] 2 _ _ rfl (by rw [World.size_alloc]) (by omega)) ff (by exact HT.out.ext (by repeat (first | (with_reducible first | exact Ext.refl _ | assumption | apply Ext.alloc | apply Ext.drew | apply Ext.drewN | refine Ext.setCell ?_ ?_ _ | refine Ext.trans ?_ (by assumption)) | (show _ ≤ _; first | omega | (dsimp only; omega) | (simp; done) | (simp; omega)))))).mono ?_
  rintro e w1 ⟨rfl, x1⟩
  go_wp2
  go_ret
  exact ⟨rfl, (by repeat (first | (with_reducible first | exact Ext.refl _ | assumption | apply Ext.alloc | apply Ext.drew | apply Ext.drewN | refine Ext.setCell ?_ ?_ _ | refine Ext.trans ?_ (by assumption)) | (show _ ≤ _; first | omega | (dsimp only; omega) | (simp; done) | (simp; omega))))⟩
set_option maxHeartbeats 1600000 in
theorem impl_SecretNo (seed : ByteArray) (a b v : Int) (w : World) (h : pubOk seed a = false) :
    Calls Tryd.prog 161 #[.string seed, .int .i64 a, .int .i64 b, .int .i64 v] w fun e w' => e = .returned (.string ⟨#[]⟩) ∧ w = w' := by
  by_cases hs : seed.size ≤ 100
  · have hsi : ¬ (100 : Int) < seed.size := by omega
    have ha : inB a 0 15 = false := by rw [pubOk, decide_eq_true hs, Bool.true_and] at h; exact h
    clear h
    go_enter Tryd.func161, Tryd.ntmps161
    go_wp2_with (go_at_call 152; refine (impl_in _ _ _ _).mono ?_; rintro e w' ⟨rfl, rfl⟩)
    go_ret
    exact ⟨rfl, rfl⟩
  · have hsi : (100 : Int) < seed.size := by omega
    clear h
    go_enter Tryd.func161, Tryd.ntmps161
    go_wp2
    go_ret
    exact ⟨rfl, rfl⟩
set_option maxRecDepth 100000 in
set_option maxHeartbeats 3200000 in
theorem impl_PublicOf (seed : ByteArray) (a : Int) (w : World) (hT : Tabs w) :
    Calls Tryd.prog 160 #[.string seed, .int .i64 a] w fun e w' => e = .returned (.string (pubT seed a)) ∧ Ext w w' := by
  have HT := Lib.hid hT
  clear hT
  obtain ⟨i0, hi, hz0, hz1, hz2⟩ := info_parts infoStrP
  cases hok : pubOk seed a
  · have HR := Lib.hid (pub_no hok)
    have HOK := Lib.hid hok
    clear hok
    go_enter Tryd.func160, Tryd.ntmps160
    go_wp2
    go_loopw [9] (fun iv wr => iv = .int .i64 0 ∧ Ext w wr) (fun _ _ => 0)
    case atStart => exact ⟨rfl, (by repeat (first | (with_reducible first | exact Ext.refl _ | assumption | apply Ext.alloc | apply Ext.drew | apply Ext.drewN | refine Ext.setCell ?_ ?_ _ | refine Ext.trans ?_ (by assumption)) | (show _ ≤ _; first | omega | (dsimp only; omega) | (simp; done) | (simp; omega))))⟩
    case round =>
      obtain ⟨rfl, hx⟩ := hrel
      go_wp2
      go_loopw [12] (fun iv wr => iv = .int .i64 0 ∧ Ext w wr) (fun _ _ => 0)
      case atStart => exact ⟨rfl, hx⟩
      case round =>
        obtain ⟨rfl, hx⟩ := hrel
        go_wp2_with (go_at_call 161; refine (impl_SecretNo seed a 0 0 _ HOK.out).mono ?_; rintro e w' ⟨rfl, rfl⟩)
        go_ret
        exact ⟨ret_str HR.out.symm, (by repeat (first | (with_reducible first | exact Ext.refl _ | assumption | apply Ext.alloc | apply Ext.drew | apply Ext.drewN | refine Ext.setCell ?_ ?_ _ | refine Ext.trans ?_ (by assumption)) | (show _ ≤ _; first | omega | (dsimp only; omega) | (simp; done) | (simp; omega))))⟩
  · have HR := Lib.hid (pub_yes hok)
    obtain ⟨hs, ha0, ha1⟩ := pubOk_true hok
    have HA := Lib.hid (show inB a 0 15 = true from inB_true.2 ⟨ha0, ha1⟩)
    clear hok
    go_enter Tryd.func160, Tryd.ntmps160
    go_wp2
    go_loopw [5, 9] (fun lv iv wr => ∃ k : Nat, k ≤ 8 ∧ iv = .int .i64 k ∧ wr.ownsRow w.heap.size 9 1 lv (2 * k) ((pubL seed a (2 * k)).map Value.string) ∧ Ext w wr) (fun _ iv _ => 8 - (intOf iv).toNat)
    case atStart => exact ⟨0, by omega, rfl, World.ownsRow_nil _ _ _ _, (by repeat (first | (with_reducible first | exact Ext.refl _ | assumption | apply Ext.alloc | apply Ext.drew | apply Ext.drewN | refine Ext.setCell ?_ ?_ _ | refine Ext.trans ?_ (by assumption)) | (show _ ≤ _; first | omega | (dsimp only; omega) | (simp; done) | (simp; omega))))⟩
    case round =>
      obtain ⟨k, hk, rfl, hown, hx⟩ := hrel
      by_cases hlt : k < 8
      · have hlt' : (k : Int) < 8 := by omega
        have HO := Lib.hid hown
        have hb : inB (k : Int) 0 7 = true := inB_true.2 (by omega)
        have HB := Lib.hid hb
        clear hown hb
        go_wp2
        go_loopw [5, 12] (fun lv iv wr => ∃ j : Nat, j ≤ 2 ∧ iv = .int .i64 j ∧ wr.ownsRow w.heap.size 9 1 lv (2 * k + j) ((pubL seed a (2 * k + j)).map Value.string) ∧ Ext w wr) (fun _ iv _ => 2 - (intOf iv).toNat)
        case atStart => exact ⟨0, by omega, rfl, HO.out, hx⟩
        case round =>
          obtain ⟨j, hj, rfl, hown, hx⟩ := hrel
          obtain ⟨ga, gc, rfl⟩ := own_any hown
          by_cases hj2 : j < 2
          · have hj2' : (j : Int) < 2 := by omega
            have HV := Lib.hid (show inB (j : Int) 0 1 = true from inB_true.2 (by omega))
            have HO := Lib.hid hown
            clear hown
            go_wp2_with fail
            refine (impl_SecretOf seed a k j _ hs HA.out HB.out HV.out (HT.out.ext hx)).mono ?_
            have h16 := sec_16 (seed := seed) a k j hs
            have HSU := Lib.hid (pubL_succ seed a (2 * k + j))
            have HSE := Lib.hid (show lkH (secT seed a (((2 * k + j) / 2 : Nat) : Int) (((2 * k + j) % 2 : Nat) : Int)) = lkH (secT seed a k j) by rw [show (2 * k + j) / 2 = k by omega, show (2 * k + j) % 2 = j by omega])
            generalize secT seed a k j = sec at *
            obtain ⟨n1, n2⟩ := not_empty (s := sec) (by omega)
            rintro e w1 ⟨rfl, x1⟩
            have X1 : Ext w w1 := (by repeat (first | (with_reducible first | exact Ext.refl _ | assumption | apply Ext.alloc | apply Ext.drew | apply Ext.drewN | refine Ext.setCell ?_ ?_ _ | refine Ext.trans ?_ (by assumption)) | (show _ ≤ _; first | omega | (dsimp only; omega) | (simp; done) | (simp; omega))))
            have O1 := Lib.hid (own_ext HO.out x1)
            go_wp2_with fail
            refine (impl_LockOf sec _ (by unfold maxLen; omega) (HT.out.ext X1)).mono ?_
            generalize lkH sec = lk at *
            rintro e w2 ⟨rfl, x2⟩
            have X2 : Ext w w2 := (by repeat (first | (with_reducible first | exact Ext.refl _ | assumption | apply Ext.alloc | apply Ext.drew | apply Ext.drewN | refine Ext.setCell ?_ ?_ _ | refine Ext.trans ?_ (by assumption)) | (show _ ≤ _; first | omega | (dsimp only; omega) | (simp; done) | (simp; omega))))
            have O2 := Lib.hid (own_ext O1.out x2)
            have s2 := X2.size
            clear HO O1
            go_wp2_with (at_builtin; refine wpList_append_own _ rfl (.tmp 22) (.tmp 25) 22 rfl w.heap.size 9 i0 (.string ⟨#[]⟩) 1 16 Tryd.underlying22 hi hz0 hz1 hz2 rfl (by decide) _ _ _ rfl (O2.out.alloc _) ⟨w2.heap.size, 0, none⟩ 1 1 [.string lk] rfl rfl (World.news_of_block (heap_alloc_new w2 _)) (by intro u hu; rw [List.mem_singleton] at hu; rw [hu]; rfl) (by unfold maxLen; omega) (by omega) (by simp; omega) ?_)
            intro v3 w3 own3 hgrow _
            have X3 : Ext w w3 := own_ext_of (X2.alloc _) (own_alloc O2.out _) hgrow (Nat.le_refl _)
            obtain ⟨a3, c3, rfl⟩ := own_any own3
            have O3 := Lib.hid own3
            clear own3 hgrow
            go_wp2
            go_roundw
            case rel => exact ⟨j + 1, by omega, by go_num, by rw [← Nat.add_assoc, HSU.out, HSE.out, List.map_append]; exact O3.out, X3⟩
            case measure => simp [intOf]; omega
          · obtain rfl : j = 2 := by omega
            have HO := Lib.hid hown
            clear hown
            go_wp2
            go_roundw
            case rel => exact ⟨k + 1, by omega, by go_num, by rw [show 2 * (k + 1) = 2 * k + 2 by omega]; exact HO.out, hx⟩
            case measure => simp [intOf]; omega
      · obtain rfl : k = 8 := by omega
        have st : Strs wr _ (pubL seed a 16) := Row.of_owns (show wr.ownsRow w.heap.size 9 1 _ 16 ((pubL seed a 16).map Value.string) from hown)
        have ST := Lib.hid st
        obtain ⟨ga, gc, rfl⟩ := own_any hown
        clear hown st
        go_wp2_with fail
        refine (impl_TagHash 6 _ (pubL seed a 16) 16 _ (by exact ST.out) (fun s hs => by have := pubL_fit seed a 16 s hs; unfold maxLen; omega) (HT.out.ext hx)).mono ?_
        rintro e w1 ⟨rfl, x1⟩
        go_wp2
        go_ret
        exact ⟨ret_str HR.out.symm, (by repeat (first | (with_reducible first | exact Ext.refl _ | assumption | apply Ext.alloc | apply Ext.drew | apply Ext.drewN | refine Ext.setCell ?_ ?_ _ | refine Ext.trans ?_ (by assumption)) | (show _ ≤ _; first | omega | (dsimp only; omega) | (simp; done) | (simp; omega))))⟩
end Go.Proofs.YtliebkhfddmhjaaDoor
