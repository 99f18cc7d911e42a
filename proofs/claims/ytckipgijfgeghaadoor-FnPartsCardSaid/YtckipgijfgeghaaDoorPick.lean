/- Entries picked by a test: BucketOf, ShardLeaves; the laws. -/
import Derived.Test.YtckipgijfgeghaaDoorHashA
import Derived.Test.YtckipgijfgeghaaDoorMarkA
import Derived.Test.YtckipgijfgeghaaDoorLeafA
import Derived.Deep.AppendLies
import Derived.Laws.AppendOwnNone
namespace Go.Proofs.YtckipgijfgeghaaDoor
open Go.RowKit

def pickOn (p : Leaf → Bool) (xs : List Leaf) (k : Nat) : List Leaf := (xs.take k).filter p
theorem pickOn_keep {p : Leaf → Bool} {xs : List Leaf} {k : Nat} (h : k < xs.length) (e : p xs[k] = true) : pickOn p xs (k + 1) = pickOn p xs k ++ [xs[k]] := by
  unfold pickOn
  rw [List.take_succ_eq_append_getElem h, List.filter_append]
  simp [e]
theorem pickOn_skip {p : Leaf → Bool} {xs : List Leaf} {k : Nat} (h : k < xs.length) (e : p xs[k] = false) : pickOn p xs (k + 1) = pickOn p xs k := by
  unfold pickOn
  rw [List.take_succ_eq_append_getElem h, List.filter_append]
  simp [e]
theorem pickOn_length (p : Leaf → Bool) (xs : List Leaf) (k : Nat) : (pickOn p xs k).length ≤ k := by
  unfold pickOn
  exact Nat.le_trans (List.length_filter_le _ _) (List.length_take_le _ _)
def NamesFit (xs : List Leaf) : Prop := ∀ l ∈ xs, l.name.size ≤ 1073741824
theorem name_le_bytes : ∀ (xs : List Leaf) (l : Leaf), l ∈ xs → l.name.size ≤ leafBytes xs
  | [], _, hl => by cases hl
  | a :: t, l, hl => by
    have ih := name_le_bytes t l
    unfold leafBytes at ih ⊢
    simp only [List.map_cons, List.sum_cons]
    rcases List.mem_cons.1 hl with rfl | hl
    · omega
    · have := ih hl
      omega
theorem names_of_bytes {xs : List Leaf} (h : leafBytes xs ≤ 1048576) : NamesFit xs := fun l hl => by
  have := name_le_bytes xs l hl
  omega
def bktP (i : Int) (l : Leaf) : Bool := idxT l.name == i
def shdP (k s : Int) (l : Leaf) : Bool := shardT l.name k == s
/-- the entries of an index -/
def bktL (xs : List Leaf) (i : Int) : List Leaf := pickOn (bktP i) xs xs.length
/-- the entries of a shard -/
def shdL (xs : List Leaf) (k s : Int) : List Leaf := pickOn (shdP k s) xs xs.length

set_option maxRecDepth 100000 in
set_option maxHeartbeats 1600000 in
theorem impl_ShardLeaves (v : Value) (xs : List Leaf) (k s : Int) (w : World) (h : Lvs w v xs) (hn : NamesFit xs) (hb : xs.length ≤ 1099511627776) (hT : Tabs w) :
    Calls Tryd.prog 7 #[v, .int .i64 k, .int .i64 s] w fun e w' => ∃ a c, e = .returned (.slice a (shdL xs k s).length c) ∧ OwnLvs w' w.heap.size (.slice a (shdL xs k s).length c) (shdL xs k s) ∧ Ext w w' := by
  obtain ⟨i0, hi, hz0, hz1, hz2⟩ := info_parts infoLeaf
  obtain ⟨-, a1, c1, rfl, hc1, hm1, g1⟩ := h
  unfold maxLen at hm1
  have HT := Lib.hid hT
  have HN := Lib.hid hn
  clear hT hn
  go_enter Tryd.func7, Tryd.ntmps7
  go_wp2
  go_loopw [7, 12] (fun v ii wr => ∃ j : Nat, j ≤ xs.length ∧ ii = .int .i64 j ∧ wr.ownsRow w.heap.size 34 2 v (pickOn (shdP k s) xs j).length ((pickOn (shdP k s) xs j).flatMap Leaf.cells) ∧ Ext w wr) (fun _ i _ => xs.length - (intOf i).toNat)
  case atStart => exact ⟨0, Nat.zero_le _, rfl, World.ownsRow_nil _ _ _ _, (by repeat (first | (with_reducible first | exact Ext.refl _ | assumption | apply Ext.alloc | apply Ext.drew | apply Ext.drewN | refine Ext.setCell ?_ ?_ _ | refine Ext.trans ?_ (by assumption)) | (show _ ≤ _; first | omega | (dsimp only; omega) | (simp; done) | (simp; omega))))⟩
  case round =>
    obtain ⟨j, hj, rfl, hown, hx⟩ := hrel
    obtain ⟨a, c, rfl⟩ := own_any hown
    have hsz := hx.size
    by_cases hlt : j < xs.length
    · rcases g1 with g1 | ⟨b1, o1, rfl, hb1, g1⟩
      · omega
      have e1 : wr.cell? ⟨b1, o1 + j * 2, none⟩ = some (.string xs[j].name) := (hx.cell b1 _ hb1).trans (g1 _ _ (leaf_c0 xs j hlt))
      have e2 : wr.cell? ⟨b1, o1 + j * 2 + 1, none⟩ = some (.string xs[j].value) := (hx.cell b1 _ hb1).trans (g1 _ _ (leaf_c1 xs j hlt))
      have hdl := pickOn_length (shdP k s) xs j
      have hnm := HN.out xs[j] (List.getElem_mem hlt)
      have HO := Lib.hid hown
      clear g1 hown
      go_wp2_with fail
      refine (impl_ShardOf xs[j].name k _ hnm (by exact HT.out.ext (by repeat (first | (with_reducible first | exact Ext.refl _ | assumption | apply Ext.alloc | apply Ext.drew | apply Ext.drewN | refine Ext.setCell ?_ ?_ _ | refine Ext.trans ?_ (by assumption)) | (show _ ≤ _; first | omega | (dsimp only; omega) | (simp; done) | (simp; omega)))))).mono ?_
      rintro e w2 ⟨rfl, x2⟩
      have y2 : Ext wr w2 := (by repeat (first | (with_reducible first | exact Ext.refl _ | assumption | apply Ext.alloc | apply Ext.drew | apply Ext.drewN | refine Ext.setCell ?_ ?_ _ | refine Ext.trans ?_ (by assumption)) | (show _ ≤ _; first | omega | (dsimp only; omega) | (simp; done) | (simp; omega))))
      have o2 := own_ext HO.out y2
      have l2 := y2.size
      have l3 := x2.size
      rw [World.size_alloc] at l3
      have cc := Ext.cell x2
      rw [World.size_alloc] at cc
      have p0 := cc wr.heap.size 0 (by omega)
      have p1 := cc wr.heap.size 1 (by omega)
      simp [go_sem] at p0 p1
      clear cc
      by_cases hq : (shdP k s) xs[j] = true
      · have HU := Lib.hid (pickOn_keep hlt hq)
        have hqb : (shardT xs[j].name k == s) = true := hq
        clear hq
        go_wp2_with (at_builtin; refine wpList_append_own _ rfl (.tmp 22) (.tmp 24) 24 rfl w.heap.size 34 i0 _ 2 32 Tryd.underlying24 hi hz0 hz1 hz2 rfl (by decide) _ _ _ rfl (o2.alloc _) ⟨w2.heap.size, 0, none⟩ 1 1 [.string xs[j].name, .string xs[j].value] rfl rfl ?c1 ?c2 ?c3 ?c4 ?c5 ?_)
        case c1 => exact World.news_of_block (heap_alloc_new w2 (Obj.cells #[Value.string xs[j].name, Value.string xs[j].value] 34))
        case c2 => intro u hu; simp at hu; rcases hu with rfl | rfl <;> rfl
        case c3 => unfold maxLen; omega
        case c4 => omega
        case c5 => simp; omega
        intro v' w3 own3 hgrow _
        have hx3 : Ext w w3 := own_ext_of ((hx.trans y2).alloc _) (o2.alloc _) hgrow (Nat.le_refl _)
        obtain ⟨a', c', rfl⟩ := own_any own3
        have HO3 := Lib.hid own3
        clear own3 hgrow o2
        go_wp2
        go_roundw
        case rel => exact ⟨j + 1, by omega, by go_num, by rw [HU.out, List.length_append, List.flatMap_append]; simpa [Leaf.cells] using HO3.out, hx3⟩
        case measure => simp [intOf]; omega
      · have hq' : (shdP k s) xs[j] = false := by simpa using hq
        have HU := Lib.hid (pickOn_skip hlt hq')
        have hqb : (shardT xs[j].name k == s) = false := hq'
        have HO2 := Lib.hid o2
        clear hq hq' o2
        go_wp2
        go_roundw
        case rel => exact ⟨j + 1, by omega, by go_num, by rw [HU.out]; exact HO2.out, (by repeat (first | (with_reducible first | exact Ext.refl _ | assumption | apply Ext.alloc | apply Ext.drew | apply Ext.drewN | refine Ext.setCell ?_ ?_ _ | refine Ext.trans ?_ (by assumption)) | (show _ ≤ _; first | omega | (dsimp only; omega) | (simp; done) | (simp; omega))))⟩
        case measure => simp [intOf]; omega
    · obtain rfl : j = xs.length := by omega
      have HO := Lib.hid hown
      clear g1 hown
      go_wp2
      go_ret
      exact ⟨_, _, rfl, HO.out, hx⟩

end Go.Proofs.YtckipgijfgeghaaDoor
