/- Drop, Put, Put2 in one text. -/
import Derived.Test.YtckipgijfgeghaaDoorLeafA
import Derived.Test.YtckipgijfgeghaaDoorStrA
import Derived.Test.YtckipgijfgeghaaDoorMarkA
import Derived.Test.YtckipgijfgeghaaDoorSol
import Derived.Deep.AppendLies
import Derived.Laws.AppendOwnNone
import Derived.Test.YtckipgijfgeghaaDoorLTxA
namespace Go.Proofs.YtckipgijfgeghaaDoor
open Go.RowKit

theorem leaf_one (xs : List Leaf) : ∀ u ∈ xs.flatMap Leaf.cells, u.oneCell' = true := by
  intro u hu
  rw [List.mem_flatMap] at hu
  obtain ⟨l, -, hl⟩ := hu
  simp [Leaf.cells] at hl
  rcases hl with rfl | rfl <;> rfl

theorem lvs_news {w : World} {b o n c : Nat} {xs : List Leaf} (h : Lvs w (.slice (some ⟨b, o, none⟩) n c) xs) : ∀ j u, (xs.flatMap Leaf.cells)[j]? = some u → w.cell? ⟨b, o + j, none⟩ = some u := by
  obtain ⟨-, a1, c1, hv, -, -, g1⟩ := h
  injection hv with e1 e2 e3
  subst e1
  rcases g1 with h0 | ⟨b1, o1, he, -, g1⟩
  · have hx0 : xs = [] := List.eq_nil_of_length_eq_zero h0
    subst hx0
    intro j u hj
    simp at hj
  · simp only [Option.some.injEq, Addr.mk.injEq, and_true] at he
    obtain ⟨rfl, rfl⟩ := he
    exact g1
theorem lvs_flat {w : World} {v : Value} {xs : List Leaf} (h : Lvs w v xs) : (xs.flatMap Leaf.cells).length = xs.length * 2 := h.1
theorem lvs_cap {w : World} {a : Option Addr} {n c : Nat} {xs : List Leaf} (h : Lvs w (.slice a n c) xs) : n = xs.length ∧ c ≤ maxLen := by
  obtain ⟨-, a1, c1, hv, -, hm, -⟩ := h
  injection hv with e1 e2 e3
  subst e3
  exact ⟨e2, hm⟩

def dropOn (xs : List Leaf) (n : ByteArray) (k : Nat) : List Leaf := (xs.take k).filter fun l => decide (l.name ≠ n)
theorem dropOn_keep {xs : List Leaf} {n : ByteArray} {k : Nat} (h : k < xs.length) (e : xs[k].name ≠ n) : dropOn xs n (k + 1) = dropOn xs n k ++ [xs[k]] := by
  unfold dropOn
  rw [List.take_succ_eq_append_getElem h, List.filter_append]
  simp [e]
theorem dropOn_skip {xs : List Leaf} {n : ByteArray} {k : Nat} (h : k < xs.length) (e : xs[k].name = n) : dropOn xs n (k + 1) = dropOn xs n k := by
  unfold dropOn
  rw [List.take_succ_eq_append_getElem h, List.filter_append]
  simp [e]
theorem dropOn_length (xs : List Leaf) (n : ByteArray) (k : Nat) : (dropOn xs n k).length ≤ k := by
  unfold dropOn
  exact Nat.le_trans (List.length_filter_le _ _) (by simp; omega)
def dropWell (xs : List Leaf) (n : ByteArray) : Bool := leafHas xs n && leavesOk xs
def dropL (xs : List Leaf) (n : ByteArray) : List Leaf := if dropWell xs n = true then dropOn xs n xs.length else xs
theorem drop_no {xs : List Leaf} {n : ByteArray} (h : dropWell xs n = false) : dropL xs n = xs := by simp [dropL, h]
theorem drop_yes {xs : List Leaf} {n : ByteArray} (h : dropWell xs n = true) : dropL xs n = dropOn xs n xs.length := by simp [dropL, h]
theorem ret_own {w' : World} {base : Nat} {a : Option Addr} {c m : Nat} {b b' : Bool} {ys zs : List Leaf} (hm : m = ys.length) (hy : zs = ys) (hb : b' = b) (h : w'.ownsRow base 34 2 (.slice a m c) ys.length (ys.flatMap Leaf.cells)) :
    ∃ a' c', Ending.returned (.tuple #[.slice a m c, .bool b]) = .returned (.tuple #[.slice a' zs.length c', .bool b']) ∧ OwnLvs w' base (.slice a' zs.length c') zs := by
  subst hm hy hb
  exact ⟨a, c, rfl, h⟩

set_option maxHeartbeats 800000 in
theorem spec_l09Without (v : Value) (xs : List Leaf) (n : ByteArray) (w : World) (h : Lvs w v xs) (hb : xs.length ≤ 1099511627776) :
    Calls Tryd.prog 48 #[v, .string n] w fun e w' => ∃ a c, e = .returned (.slice a (dropOn xs n xs.length).length c) ∧ OwnLvs w' w.heap.size (.slice a (dropOn xs n xs.length).length c) (dropOn xs n xs.length) ∧ Ext w w' := by
  obtain ⟨i0, hi, hz0, hz1, hz2⟩ := info_parts infoLeaf
  obtain ⟨-, a1, c1, he, hc1, hm1, g1⟩ := id h
  subst he
  unfold maxLen at hm1
  go_enter Tryd.func48, Tryd.ntmps48
  go_wp2
  go_loopw [5, 6] (fun v i wr => ∃ k : Nat, k ≤ xs.length ∧ i = .int .i64 k ∧ wr.ownsRow w.heap.size 34 2 v (dropOn xs n k).length ((dropOn xs n k).flatMap Leaf.cells) ∧ Ext w wr) (fun _ i _ => xs.length - (intOf i).toNat)
  case atStart => exact ⟨0, Nat.zero_le _, rfl, World.ownsRow_lit w #[] 0 (Nat.le_refl _) (Nat.zero_le _) rfl, (by repeat (first | (with_reducible first | exact Ext.refl _ | assumption | apply Ext.alloc | apply Ext.drew | apply Ext.drewN | refine Ext.setCell ?_ ?_ _ | refine Ext.trans ?_ (by assumption)) | (show _ ≤ _; first | omega | (dsimp only; omega) | (simp; done) | (simp; omega))))⟩
  case round =>
    obtain ⟨k, hk, rfl, hown, hx⟩ := hrel
    obtain ⟨a, c, rfl⟩ := own_any hown
    have hsz := hx.size
    by_cases hlt : k < xs.length
    · rcases g1 with g1 | ⟨b1, o1, rfl, hb1, g1⟩
      · omega
      have e1 : wr.cell? ⟨b1, o1 + k * 2, none⟩ = some (.string xs[k].name) := (hx.cell b1 _ hb1).trans (g1 _ _ (leaf_c0 xs k hlt))
      have e2 : wr.cell? ⟨b1, o1 + k * 2 + 1, none⟩ = some (.string xs[k].value) := (hx.cell b1 _ hb1).trans (g1 _ _ (leaf_c1 xs k hlt))
      have hdl := dropOn_length xs n k
      clear g1
      by_cases hq : xs[k].name = n
      · have hqb : (xs[k].name.toList == n.toList) = true := by rw [toList_beq]; simp [hq]
        have HU := Lib.hid (dropOn_skip hlt hq)
        have HO := Lib.hid hown
        clear hq hown
        go_wp2
        go_roundw
        case rel => exact ⟨k + 1, by omega, by go_num, by rw [HU.out]; exact HO.out, (by repeat (first | (with_reducible first | exact Ext.refl _ | assumption | apply Ext.alloc | apply Ext.drew | apply Ext.drewN | refine Ext.setCell ?_ ?_ _ | refine Ext.trans ?_ (by assumption)) | (show _ ≤ _; first | omega | (dsimp only; omega) | (simp; done) | (simp; omega))))⟩
        case measure => simp [intOf]; omega
      · have hqb : (xs[k].name.toList == n.toList) = false := by rw [toList_beq]; simp [hq]
        have HU := Lib.hid (dropOn_keep hlt hq)
        clear hq
        go_wp2_with (at_builtin; refine wpList_append_own _ rfl (.tmp 21) (.tmp 26) 24 rfl w.heap.size 34 i0 _ 2 32 Tryd.underlying24 hi hz0 hz1 hz2 rfl (by decide) _ _ _ rfl (hown.alloc _) ⟨wr.heap.size, 0, none⟩ 1 1 [.string xs[k].name, .string xs[k].value] rfl rfl ?c1 ?c2 ?c3 ?c4 ?c5 ?_)
        case c1 => exact World.news_of_block (heap_alloc_new wr (Obj.cells #[Value.string xs[k].name, Value.string xs[k].value] 34))
        case c2 => intro u hu; simp at hu; rcases hu with rfl | rfl <;> rfl
        case c3 => unfold maxLen; omega
        case c4 => omega
        case c5 => simp; omega
        intro v' w1 hown' hgrow _
        have hx1 : Ext w w1 := own_ext_of (hx.alloc _) (hown.alloc _) hgrow (Nat.le_refl _)
        obtain ⟨a', c', rfl⟩ := own_any hown'
        have HO := Lib.hid hown'
        clear hown' hgrow hown
        go_wp2
        go_roundw
        case rel => exact ⟨k + 1, by omega, by go_num, by rw [HU.out, List.length_append, List.flatMap_append]; simpa [Leaf.cells] using HO.out, hx1⟩
        case measure => simp [intOf]; omega
    · have hkn : k = xs.length := by omega
      subst hkn
      have HO := Lib.hid hown
      clear g1 hown
      go_wp2
      go_ret
      exact ⟨_, _, rfl, HO.out, hx⟩

end Go.Proofs.YtckipgijfgeghaaDoor
namespace Go.Proofs.YtckipgijfgeghaaDoor
open Go.RowKit

def isBelow (n : ByteArray) (l : Leaf) : Bool := lss l.name n
def isAbove (n : ByteArray) (l : Leaf) : Bool := !(lss l.name n || l.name.toList == n.toList)
def putOut (xs : List Leaf) (n v : ByteArray) : List Leaf := (dropOn xs n xs.length).filter (isBelow n) ++ [⟨n, v⟩] ++ (dropOn xs n xs.length).filter (isAbove n)
/-- a step of the program's walk: what is out, and whether the new one is -/
def putStep (n v : ByteArray) (s : List Leaf × Bool) (l : Leaf) : List Leaf × Bool :=
  let o := if s.2 = false ∧ lss l.name n = false then s.1 ++ [⟨n, v⟩] else s.1
  (if l.name = n then o else o ++ [l], s.2 || !lss l.name n)
def putRun (xs : List Leaf) (n v : ByteArray) (k : Nat) : List Leaf × Bool := (xs.take k).foldl (putStep n v) ([], false)
def putFin (n v : ByteArray) (s : List Leaf × Bool) : List Leaf := if s.2 = true then s.1 else s.1 ++ [⟨n, v⟩]
theorem putRun_succ (xs : List Leaf) (n v : ByteArray) (k : Nat) (h : k < xs.length) : putRun xs n v (k + 1) = putStep n v (putRun xs n v k) xs[k] := by
  unfold putRun
  rw [List.take_succ_eq_append_getElem h, List.foldl_append]
  rfl
def keep (n : ByteArray) (xs : List Leaf) : List Leaf := xs.filter fun l => decide (l.name ≠ n)
theorem put_true (n v : ByteArray) : ∀ (t o : List Leaf), (t.foldl (putStep n v) (o, true)) = (o ++ keep n t, true)
  | [], o => by simp [keep]
  | l :: t, o => by
    rw [List.foldl_cons, show putStep n v (o, true) l = (if l.name = n then o else o ++ [l], true) by simp [putStep], put_true n v t]
    by_cases h : l.name = n <;> simp [keep, h]
theorem above_all {n : ByteArray} {l : Leaf} {t : List Leaf} (hs : ∀ x ∈ t, lss l.name x.name = true) (hl : lss l.name n = false) : ∀ x ∈ t, x.name ≠ n ∧ isAbove n x = true ∧ isBelow n x = false := by
  intro x hx
  have h1 := hs x hx
  have hb : lss x.name n = false := by
    cases hb : lss x.name n
    · rfl
    · rw [lss_trans h1 hb] at hl; cases hl
  have he : x.name ≠ n := fun e => by rw [e] at h1; rw [h1] at hl; cases hl
  have ht : (x.name.toList == n.toList) = false := by rw [toList_beq]; simp [he]
  exact ⟨he, by simp [isAbove, hb, ht], hb⟩
theorem put_false (n v : ByteArray) : ∀ (t o : List Leaf), Srt t → putFin n v (t.foldl (putStep n v) (o, false)) = o ++ ((keep n t).filter (isBelow n) ++ [⟨n, v⟩] ++ (keep n t).filter (isAbove n))
  | [], o, _ => by simp [keep, putFin]
  | l :: t, o, h => by
    rw [Srt, List.pairwise_cons] at h
    cases hl : lss l.name n
    · have ha := above_all h.1 hl
      have hk : keep n t = t := List.filter_eq_self.2 (fun x hx => by simpa using (ha x hx).1)
      have hb : t.filter (isBelow n) = [] := List.filter_eq_nil_iff.2 (fun x hx => by simp [(ha x hx).2.2])
      have hc : t.filter (isAbove n) = t := List.filter_eq_self.2 (fun x hx => (ha x hx).2.1)
      rw [List.foldl_cons, show putStep n v (o, false) l = (if l.name = n then o ++ [⟨n, v⟩] else o ++ [⟨n, v⟩] ++ [l], true) by simp [putStep, hl], put_true, putFin]
      by_cases he : l.name = n
      · have hk2 : keep n (l :: t) = t := by rw [← hk]; simp [keep, he]
        rw [hk2, hk, hb, hc]
        simp [he]
      · have ht : (l.name.toList == n.toList) = false := by rw [toList_beq]; simp [he]
        have hk2 : keep n (l :: t) = l :: t := by
          have : keep n (l :: t) = l :: keep n t := by simp [keep, he]
          rw [this, hk]
        have h1 : isBelow n l = false := hl
        have h2 : isAbove n l = true := by simp [isAbove, hl, ht]
        rw [hk2, hk, List.filter_cons_of_neg (by simp [h1]), List.filter_cons_of_pos h2, hb, hc]
        simp [he]
    · have hb : isBelow n l = true := hl
      have ha : isAbove n l = false := by simp [isAbove, hl]
      have hs : putStep n v (o, false) l = (if l.name = n then o else o ++ [l], false) := by simp [putStep, hl]
      rw [List.foldl_cons, hs]
      by_cases he : l.name = n
      · rw [if_pos he, put_false n v t o h.2]
        have hk2 : keep n (l :: t) = keep n t := by simp [keep, he]
        rw [hk2]
      · rw [if_neg he, put_false n v t _ h.2]
        have hk2 : keep n (l :: t) = l :: keep n t := by simp [keep, he]
        rw [hk2, List.filter_cons_of_pos hb, List.filter_cons_of_neg (by simp [ha])]
        simp
theorem put_law {xs : List Leaf} (n v : ByteArray) (h : leavesOk xs = true) : putFin n v (putRun xs n v xs.length) = putOut xs n v := by
  have := put_false n v xs [] (leavesOk_srt h)
  rw [putRun, List.take_length, this, putOut, dropOn, List.take_length, List.nil_append]
  rfl
theorem putRun_length (xs : List Leaf) (n v : ByteArray) : ∀ k, k ≤ xs.length → (putRun xs n v k).1.length ≤ 2 * k
  | 0, _ => by simp [putRun]
  | k + 1, h => by
    have := putRun_length xs n v k (by omega)
    rw [putRun_succ xs n v k (by omega)]
    simp only [putStep]
    split <;> split <;> (try simp only [List.length_append, List.length_singleton]) <;> omega
end Go.Proofs.YtckipgijfgeghaaDoor
namespace Go.Proofs.YtckipgijfgeghaaDoor
open Go.RowKit

def putWell (xs : List Leaf) (n u : ByteArray) : Bool := leavesOk xs && leavesOk (putOut xs n u)
def putL (xs : List Leaf) (n u : ByteArray) : List Leaf := if putWell xs n u = true then putOut xs n u else xs
theorem put_no {xs : List Leaf} {n u : ByteArray} (h : putWell xs n u = false) : putL xs n u = xs := by simp [putL, h]
theorem put_yes {xs : List Leaf} {n u : ByteArray} (h : putWell xs n u = true) : putL xs n u = putOut xs n u := by simp [putL, h]
theorem putFit {xs : List Leaf} {n u : ByteArray} (hf : LeafFit xs) (hn : n.size ≤ maxLen) (hu : u.size ≤ maxLen) : LeafFit (putOut xs n u) := by
  intro l hl
  simp only [putOut, dropOn, List.mem_append, List.mem_filter, List.mem_singleton] at hl
  rcases hl with (⟨⟨h1, -⟩, -⟩ | rfl) | ⟨⟨h1, -⟩, -⟩
  · exact hf l (List.mem_of_mem_take h1)
  · exact ⟨hn, hu⟩
  · exact hf l (List.mem_of_mem_take h1)

end Go.Proofs.YtckipgijfgeghaaDoor
