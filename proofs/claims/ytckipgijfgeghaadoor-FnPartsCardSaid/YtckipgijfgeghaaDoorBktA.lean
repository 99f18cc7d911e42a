/- Bucket, BHash in one text. -/
import Derived.Test.YtckipgijfgeghaaDoorTagA
import Derived.Test.YtckipgijfgeghaaDoorLTxA
import Derived.Deep.AppendLies
import Derived.Test.YtckipgijfgeghaaDoorHashA
namespace Go.Proofs.YtckipgijfgeghaaDoor
open Go.RowKit

def pairsUpto (xs : List Leaf) (k : Nat) : List ByteArray := (xs.take k).flatMap fun l => [l.name, l.value]
theorem pairsUpto_succ (xs : List Leaf) (k : Nat) (h : k < xs.length) : pairsUpto xs (k + 1) = pairsUpto xs k ++ [xs[k].name, xs[k].value] := by
  unfold pairsUpto
  rw [List.take_succ_eq_append_getElem h, List.flatMap_append]
  rfl
theorem pairsUpto_length (xs : List Leaf) : ∀ k, k ≤ xs.length → (pairsUpto xs k).length = k * 2
  | 0, _ => by simp [pairsUpto]
  | k + 1, h => by rw [pairsUpto_succ xs k (by omega), List.length_append, pairsUpto_length xs k (by omega)]; simp; omega
theorem pairs_mem {xs : List Leaf} {p : ByteArray} {k : Nat} (h : p ∈ pairsUpto xs k) : ∃ l ∈ xs, p = l.name ∨ p = l.value := by
  simp only [pairsUpto, List.mem_flatMap] at h
  obtain ⟨l, hl, hp⟩ := h
  exact ⟨l, List.mem_of_mem_take hl, by simpa using hp⟩
def bucketKind (k : Nat) : Int := if k = 0 then 1 else 2
theorem bucketKind_in (k : Nat) : inB (bucketKind k) 1 8 = true := by unfold bucketKind; split <;> rfl
theorem bucket_well {xs : List Leaf} (h : leavesOk xs = true) : tagWell (bucketKind xs.length) (pairsUpto xs xs.length) = true := by
  obtain ⟨h1, h2⟩ := leavesOk_small h
  refine tag_yes (bucketKind_in _) (by rw [pairsUpto_length xs _ (Nat.le_refl _)]; omega) (fun p hp => ?_)
  obtain ⟨l, hl, hp⟩ := pairs_mem hp
  have := h2 l hl
  rcases hp with rfl | rfl <;> omega
theorem pairs_max {xs : List Leaf} {k : Nat} (h : leavesOk xs = true) : ∀ p ∈ pairsUpto xs k, p.size ≤ maxLen := by
  obtain ⟨h1, h2⟩ := leavesOk_small h
  intro p hp
  obtain ⟨l, hl, hp⟩ := pairs_mem hp
  have := h2 l hl
  unfold maxLen
  rcases hp with rfl | rfl <;> omega
/-- the text of a bucket -/
def bucketT (xs : List Leaf) : ByteArray := tagTx (bucketKind xs.length) (pairsUpto xs xs.length)

set_option maxHeartbeats 800000 in
theorem impl_bucketText (v : Value) (xs : List Leaf) (w : World) (h : Lvs w v xs) (hok : leavesOk xs = true) :
    Calls Tryd.prog 54 #[v] w fun e w' => e = .returned (.string (bucketT xs)) ∧ Ext w w' := by
  obtain ⟨i0, hi, hz0, hz1, hz2⟩ := info_parts infoString
  obtain ⟨-, a1, c1, rfl, hc1, hm1, g1⟩ := h
  unfold maxLen at hm1
  have hl := (leavesOk_small hok).1
  have HK := Lib.hid hok
  clear hok
  go_enter Tryd.func54, Tryd.ntmps54
  go_wp2
  go_loopw [3, 4, 11] (fun kd v i wr => ∃ k : Nat, k ≤ xs.length ∧ i = .int .i64 k ∧ kd = .int .i64 (bucketKind k) ∧ wr.ownsRow w.heap.size 9 1 v (k * 2) ((pairsUpto xs k).map Value.string) ∧ Ext w wr) (fun _ _ i _ => xs.length - (intOf i).toNat)
  case atStart => exact ⟨0, Nat.zero_le _, rfl, rfl, World.ownsRow_nil _ _ _ _, (by repeat (first | (with_reducible first | exact Ext.refl _ | assumption | apply Ext.alloc | apply Ext.drew | apply Ext.drewN | refine Ext.setCell ?_ ?_ _ | refine Ext.trans ?_ (by assumption)) | (show _ ≤ _; first | omega | (dsimp only; omega) | (simp; done) | (simp; omega))))⟩
  case round =>
    obtain ⟨k, hk, rfl, rfl, hown, hx⟩ := hrel
    obtain ⟨a, c, rfl⟩ := own_any hown
    have hsz := hx.size
    by_cases hlt : k < xs.length
    · rcases g1 with g1 | ⟨b1, o1, rfl, hb1, g1⟩
      · omega
      have e1 : wr.cell? ⟨b1, o1 + k * 2, none⟩ = some (.string xs[k].name) := (hx.cell b1 _ hb1).trans (g1 _ _ (leaf_c0 xs k hlt))
      have e2 : wr.cell? ⟨b1, o1 + k * 2 + 1, none⟩ = some (.string xs[k].value) := (hx.cell b1 _ hb1).trans (g1 _ _ (leaf_c1 xs k hlt))
      have HU := Lib.hid (pairsUpto_succ xs k hlt)
      clear g1
      go_wp2_with (at_builtin; refine wpList_append_own _ rfl (.tmp 15) (.tmp 20) 29 rfl w.heap.size 9 i0 (.string ⟨#[]⟩) 1 16 Tryd.underlying29 hi hz0 hz1 hz2 rfl (by decide) _ _ _ rfl ((hown.alloc _).alloc _) ⟨wr.heap.size + 1, 0, none⟩ 2 2 [.string xs[k].name, .string xs[k].value] rfl rfl ?c1 ?c2 ?c3 ?c4 ?c5 ?_)
      case c1 =>
        have hh := heap_alloc_new (wr.alloc (Obj.cells #[Value.string xs[k].name, Value.string xs[k].value] 34)) (Obj.cells #[Value.string xs[k].name, Value.string xs[k].value] 9)
        rw [World.size_alloc] at hh
        exact World.news_of_block hh
      case c2 => intro u hu; simp at hu; rcases hu with rfl | rfl <;> rfl
      case c3 => unfold maxLen; omega
      case c4 => omega
      case c5 => simp; omega
      intro v' w1 hown' hgrow _
      have hx1 : Ext w w1 := own_ext_of ((hx.alloc _).alloc _) ((hown.alloc _).alloc _) hgrow (Nat.le_refl _)
      obtain ⟨a', c', rfl⟩ := own_any hown'
      have HO := Lib.hid hown'
      clear hown' hgrow hown
      go_wp2
      go_roundw
      case rel => exact ⟨k + 1, by omega, by go_num, by simp [bucketKind], by rw [HU.out, Nat.succ_mul]; simpa using HO.out, hx1⟩
      case measure => simp [intOf]; omega
    · have hkn : k = xs.length := by omega
      subst hkn
      have hs : OwnStrs wr w.heap.size (.slice a (xs.length * 2) c) (pairsUpto xs xs.length) := by
        unfold OwnStrs
        rw [pairsUpto_length xs _ (Nat.le_refl _)]
        exact hown
      have hst := hs.strs
      have HW := Lib.hid (bucket_well HK.out)
      clear g1 hown hs
      go_wp2_with (go_at_call 75; refine (impl_TagText _ _ _ _ (hst.ext (by repeat (first | (with_reducible first | exact Ext.refl _ | assumption | apply Ext.alloc | apply Ext.drew | apply Ext.drewN | refine Ext.setCell ?_ ?_ _ | refine Ext.trans ?_ (by assumption)) | (show _ ≤ _; first | omega | (dsimp only; omega) | (simp; done) | (simp; omega))))) (pairs_max HK.out)).mono ?_; rw [HW.out]; rintro e w1 ⟨rfl, x1⟩)
      go_ret
      exact ⟨rfl, (by repeat (first | (with_reducible first | exact Ext.refl _ | assumption | apply Ext.alloc | apply Ext.drew | apply Ext.drewN | refine Ext.setCell ?_ ?_ _ | refine Ext.trans ?_ (by assumption)) | (show _ ≤ _; first | omega | (dsimp only; omega) | (simp; done) | (simp; omega))))⟩

def bucketTx (xs : List Leaf) : ByteArray := if leavesOk xs = true then bucketT xs else ⟨#[]⟩
set_option maxHeartbeats 800000 in
theorem spec_BucketText (v : Value) (xs : List Leaf) (w : World) (h : Lvs w v xs) (hs : LeafFit xs) :
    Calls Tryd.prog 77 #[v] w fun e w' => e = .returned (.tuple #[.string (bucketTx xs), .bool (leavesOk xs)]) ∧ Ext w w' := by
  obtain ⟨i0, hi, hz0, hz1, hz2⟩ := info_parts infoString
  obtain ⟨-, a1, c1, hv, hc1, hm1, g1⟩ := id h
  subst hv
  unfold maxLen at hm1
  by_cases hk : leavesOk xs = true
  · have hl := (leavesOk_small hk).1
    have R := Lib.hid (show bucketTx xs = bucketT xs by simp [bucketTx, hk])
    have HK := Lib.hid hk
    have HW := Lib.hid (bucket_well hk)
    clear hk
    by_cases hn : xs.length = 0
    · have hni : ((xs.length : Int) == 0) = true := by simp [hn]
      have hnd : decide ((xs.length : Int) = 0) = true := by simp [hn]
      have hx0 : xs = [] := List.eq_nil_of_length_eq_zero hn
      clear hn g1
      have HX := Lib.hid hx0
      clear hx0
      go_enter Tryd.func77, Tryd.ntmps77
      go_wp2_with (go_at_call 43; refine (spec_LeavesOk _ xs _ (h.ext (by repeat (first | (with_reducible first | exact Ext.refl _ | assumption | apply Ext.alloc | apply Ext.drew | apply Ext.drewN | refine Ext.setCell ?_ ?_ _ | refine Ext.trans ?_ (by assumption)) | (show _ ≤ _; first | omega | (dsimp only; omega) | (simp; done) | (simp; omega))))) hs).mono ?_; rw [HK.out]; rintro e w1 ⟨rfl, x1⟩)
      have hst : OwnStrs (w1.alloc (Obj.cells #[] 9)) w1.heap.size (.slice (some ⟨w1.heap.size, 0, none⟩) 0 0) [] := World.ownsRow_lit w1 #[] 0 (Nat.le_refl _) (Nat.zero_le _) rfl
      have hs2 := hst.strs
      clear hst
      refine (spec_TagText 1 _ [] _ hs2 (by simp)).mono ?_
      rintro e w2 ⟨rfl, x2⟩
      have HW2 := HW.out
      rw [HX.out] at HW2
      have HW3 := Lib.hid (show tagWell 1 [] = true from HW2)
      rw [HW3.out]
      clear HW2
      go_wp2
      go_ret2
      exact ⟨ret_sb (by rw [R.out, HX.out]; rfl) HK.out.symm, (by repeat (first | (with_reducible first | exact Ext.refl _ | assumption | apply Ext.alloc | apply Ext.drew | apply Ext.drewN | refine Ext.setCell ?_ ?_ _ | refine Ext.trans ?_ (by assumption)) | (show _ ≤ _; first | omega | (dsimp only; omega) | (simp; done) | (simp; omega))))⟩
    · have hni : ((xs.length : Int) == 0) = false := beq_eq_false_iff_ne.2 (by omega)
      go_enter Tryd.func77, Tryd.ntmps77
      go_wp2_with (go_at_call 43; refine (spec_LeavesOk _ xs _ (h.ext (by repeat (first | (with_reducible first | exact Ext.refl _ | assumption | apply Ext.alloc | apply Ext.drew | apply Ext.drewN | refine Ext.setCell ?_ ?_ _ | refine Ext.trans ?_ (by assumption)) | (show _ ≤ _; first | omega | (dsimp only; omega) | (simp; done) | (simp; omega))))) hs).mono ?_; rw [HK.out]; rintro e w1 ⟨rfl, x1⟩)
      go_loopw [4, 5] (fun v i wr => ∃ k : Nat, k ≤ xs.length ∧ i = .int .i64 k ∧ wr.ownsRow w.heap.size 9 1 v (k * 2) ((pairsUpto xs k).map Value.string) ∧ Ext w wr) (fun _ i _ => xs.length - (intOf i).toNat)
      case atStart => exact ⟨0, Nat.zero_le _, rfl, World.ownsRow_lit w1 #[] 0 x1.size (Nat.zero_le _) rfl, (by repeat (first | (with_reducible first | exact Ext.refl _ | assumption | apply Ext.alloc | apply Ext.drew | apply Ext.drewN | refine Ext.setCell ?_ ?_ _ | refine Ext.trans ?_ (by assumption)) | (show _ ≤ _; first | omega | (dsimp only; omega) | (simp; done) | (simp; omega))))⟩
      case round =>
        obtain ⟨k, hk, rfl, hown, hx⟩ := hrel
        obtain ⟨a, c, rfl⟩ := own_any hown
        have hsz := hx.size
        by_cases hlt : k < xs.length
        · rcases g1 with g1 | ⟨b1, o1, rfl, hb1, g1⟩
          · omega
          have e1 : wr.cell? ⟨b1, o1 + k * 2, none⟩ = some (.string xs[k].name) := (hx.cell b1 _ hb1).trans (g1 _ _ (leaf_c0 xs k hlt))
          have e2 : wr.cell? ⟨b1, o1 + k * 2 + 1, none⟩ = some (.string xs[k].value) := (hx.cell b1 _ hb1).trans (g1 _ _ (leaf_c1 xs k hlt))
          have f1 := Lib.hid (g1 _ _ (leaf_c0 xs k hlt))
          have f2 := Lib.hid (g1 _ _ (leaf_c1 xs k hlt))
          have HU := Lib.hid (pairsUpto_succ xs k hlt)
          have HO := Lib.hid hown
          clear g1 hown
          have l1 : b1 < wr.heap.size := Nat.lt_of_lt_of_le hb1 hx.size
          go_wp2_with fail
          go_region_held3 (fun W => W.cell? ⟨b1, o1 + k * 2, none⟩ = some (.string xs[k].name) ∧ W.cell? ⟨b1, o1 + k * 2 + 1, none⟩ = some (.string xs[k].value)) (first | exact ⟨e1, e2⟩ | exact ⟨(y9.cell b1 _ hb1).trans f1.out, (y9.cell b1 _ hb1).trans f2.out⟩ | exact ⟨(Ext.cell (show Ext wr _ from (by repeat (first | (with_reducible first | exact Ext.refl _ | assumption | apply Ext.alloc | apply Ext.drew | apply Ext.drewN | refine Ext.setCell ?_ ?_ _ | refine Ext.trans ?_ (by assumption)) | (show _ ≤ _; first | omega | (dsimp only; omega) | (simp; done) | (simp; omega))))) _ _ l1).trans e1, (Ext.cell (show Ext wr _ from (by repeat (first | (with_reducible first | exact Ext.refl _ | assumption | apply Ext.alloc | apply Ext.drew | apply Ext.drewN | refine Ext.setCell ?_ ?_ _ | refine Ext.trans ?_ (by assumption)) | (show _ ≤ _; first | omega | (dsimp only; omega) | (simp; done) | (simp; omega))))) _ _ l1).trans e2⟩) ((refine step_append_lies _ rfl (.tmp 23) (.tmp 34) 29 (by rfl) w.heap.size 9 i0 (.string ⟨#[]⟩) 1 16 Tryd.underlying29 hi hz0 hz1 hz2 rfl (by decide) _ _ _ (by rfl) (own_alloc (own_drew HO.out) _) ⟨wr.heap.size, 0, none⟩ 2 2 [.string xs[k].name, .string xs[k].value] (by rfl) rfl (World.news_of_block (heap_alloc_new wr.drew (Obj.cells #[Value.string xs[k].name, Value.string xs[k].value] 9))) (by intro u hu; simp at hu; rcases hu with rfl | rfl <;> rfl) (by decide) (by unfold maxLen; omega) (by omega) (by simp; omega) _ rfl ?_; intro g cap w9 hown9 hgrow _ _; have y9 : Ext w w9 := own_ext_of ((hx.drew).alloc _) (own_alloc (own_drew HO.out) _) hgrow (Nat.le_refl _)))
          have HO9 := Lib.hid hown9
          clear hown9 hgrow
          go_wp2
          go_roundw
          case rel => exact ⟨k + 1, by omega, by go_num, by rw [HU.out, Nat.succ_mul]; simpa using HO9.out, y9⟩
          case measure => simp [intOf]; omega
        · have hkn : k = xs.length := by omega
          subst hkn
          have hs : OwnStrs wr w.heap.size (.slice a (xs.length * 2) c) (pairsUpto xs xs.length) := by
            unfold OwnStrs
            rw [pairsUpto_length xs _ (Nat.le_refl _)]
            exact hown
          have hst := hs.strs
          have hkk : bucketKind xs.length = 2 := by unfold bucketKind; rw [if_neg (by omega)]
          have hbt : bucketT xs = tagTx 2 (pairsUpto xs xs.length) := by rw [bucketT, hkk]
          have hw2 := HW.out
          rw [hkk] at hw2
          have HW2 := Lib.hid hw2
          have HB := Lib.hid hbt
          clear g1 hown hs hkk hbt hw2
          go_wp2_with (go_at_call 79; refine (spec_TagText _ _ _ _ (hst.ext (by repeat (first | (with_reducible first | exact Ext.refl _ | assumption | apply Ext.alloc | apply Ext.drew | apply Ext.drewN | refine Ext.setCell ?_ ?_ _ | refine Ext.trans ?_ (by assumption)) | (show _ ≤ _; first | omega | (dsimp only; omega) | (simp; done) | (simp; omega))))) (pairs_max HK.out)).mono ?_; rw [HW2.out]; rintro e w1 ⟨rfl, x1⟩)
          go_ret2
          exact ⟨ret_sb (by rw [R.out, HB.out]) HK.out.symm, (by repeat (first | (with_reducible first | exact Ext.refl _ | assumption | apply Ext.alloc | apply Ext.drew | apply Ext.drewN | refine Ext.setCell ?_ ?_ _ | refine Ext.trans ?_ (by assumption)) | (show _ ≤ _; first | omega | (dsimp only; omega) | (simp; done) | (simp; omega))))⟩
  · have hk' : leavesOk xs = false := by simpa using hk
    have r : bucketTx xs = ⟨#[]⟩ := by simp [bucketTx, hk']
    have HK := Lib.hid hk'
    have R := Lib.hid r
    clear hk hk' r
    go_enter Tryd.func77, Tryd.ntmps77
    go_wp2_with (go_at_call 43; refine (spec_LeavesOk _ xs _ (h.ext (by repeat (first | (with_reducible first | exact Ext.refl _ | assumption | apply Ext.alloc | apply Ext.drew | apply Ext.drewN | refine Ext.setCell ?_ ?_ _ | refine Ext.trans ?_ (by assumption)) | (show _ ≤ _; first | omega | (dsimp only; omega) | (simp; done) | (simp; omega))))) hs).mono ?_; rw [HK.out]; rintro e w1 ⟨rfl, x1⟩)
    go_ret2
    exact ⟨ret_sb R.out.symm HK.out.symm, (by repeat (first | (with_reducible first | exact Ext.refl _ | assumption | apply Ext.alloc | apply Ext.drew | apply Ext.drewN | refine Ext.setCell ?_ ?_ _ | refine Ext.trans ?_ (by assumption)) | (show _ ≤ _; first | omega | (dsimp only; omega) | (simp; done) | (simp; omega))))⟩
end Go.Proofs.YtckipgijfgeghaaDoor
namespace Go.Proofs.YtckipgijfgeghaaDoor
open Go.RowKit

def bucketH (xs : List Leaf) (wd : Int) : ByteArray := if leavesOk xs = true then cutT (bucketTx xs) wd else ⟨#[]⟩
theorem bucketTx_size (xs : List Leaf) : (bucketTx xs).size ≤ 1073741824 := by
  unfold bucketTx
  split
  · exact tagTx_size _ _
  · exact Nat.zero_le _

set_option maxHeartbeats 800000 in
theorem spec_BucketHash (v : Value) (xs : List Leaf) (wd : Int) (w : World) (h : Lvs w v xs) (hs : LeafFit xs) :
    Calls Tryd.prog 70 #[v, .int .i64 wd] w fun e w' => e = .returned (.string (bucketH xs wd)) ∧ Ext w w' := by
  obtain ⟨a, c, rfl⟩ := h.form
  have hz := bucketTx_size xs
  cases hk : leavesOk xs
  · have R := Lib.hid (show bucketH xs wd = ⟨#[]⟩ by rw [bucketH, if_neg (by rw [hk]; decide)])
    have HK := Lib.hid hk
    clear hk
    go_enter Tryd.func70, Tryd.ntmps70
    go_wp2_with (go_at_call 77; refine (spec_BucketText _ xs _ (h.ext (by repeat (first | (with_reducible first | exact Ext.refl _ | assumption | apply Ext.alloc | apply Ext.drew | apply Ext.drewN | refine Ext.setCell ?_ ?_ _ | refine Ext.trans ?_ (by assumption)) | (show _ ≤ _; first | omega | (dsimp only; omega) | (simp; done) | (simp; omega))))) hs).mono ?_; rw [HK.out]; rintro e w1 ⟨rfl, x1⟩)
    go_ret
    exact ⟨ret_str R.out.symm, (by repeat (first | (with_reducible first | exact Ext.refl _ | assumption | apply Ext.alloc | apply Ext.drew | apply Ext.drewN | refine Ext.setCell ?_ ?_ _ | refine Ext.trans ?_ (by assumption)) | (show _ ≤ _; first | omega | (dsimp only; omega) | (simp; done) | (simp; omega))))⟩
  · have R := Lib.hid (show bucketH xs wd = cutT (bucketTx xs) wd by rw [bucketH, if_pos hk])
    have HK := Lib.hid hk
    clear hk
    go_enter Tryd.func70, Tryd.ntmps70
    go_wp2_with (go_at_call 77; refine (spec_BucketText _ xs _ (h.ext (by repeat (first | (with_reducible first | exact Ext.refl _ | assumption | apply Ext.alloc | apply Ext.drew | apply Ext.drewN | refine Ext.setCell ?_ ?_ _ | refine Ext.trans ?_ (by assumption)) | (show _ ≤ _; first | omega | (dsimp only; omega) | (simp; done) | (simp; omega))))) hs).mono ?_; rw [HK.out]; rintro e w1 ⟨rfl, x1⟩)
    refine (spec_CutDigest (bucketTx xs) wd _ hz).mono ?_
    rintro e w2 ⟨rfl, x2⟩
    go_wp2
    go_ret
    exact ⟨ret_str R.out.symm, (by repeat (first | (with_reducible first | exact Ext.refl _ | assumption | apply Ext.alloc | apply Ext.drew | apply Ext.drewN | refine Ext.setCell ?_ ?_ _ | refine Ext.trans ?_ (by assumption)) | (show _ ≤ _; first | omega | (dsimp only; omega) | (simp; done) | (simp; omega))))⟩

end Go.Proofs.YtckipgijfgeghaaDoor
