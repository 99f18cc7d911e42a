/- Another value for a name is another root, or two texts have one digest: the plain law. -/
import Derived.Test.YtliebkhfddmhjaaDoorFgP
import Derived.Test.YtliebkhfddmhjaaDoorForgeP
import Derived.Test.YtliebkhfddmhjaaDoorPutA
import Derived.Test.YtliebkhfddmhjaaDoorCur3
import Derived.Test.YtliebkhfddmhjaaDoorClB
import Derived.Test.YtliebkhfddmhjaaDoorDcs
namespace Go.Proofs.YtliebkhfddmhjaaDoor
open Go.RowKit

theorem less_total : ∀ (a b : List UInt8), Op.bytesLess a b = false → Op.bytesLess b a = false → a = b
  | [], [], _, _ => rfl
  | [], _ :: _, h, _ => by simp [Op.bytesLess] at h
  | _ :: _, [], _, h => by simp [Op.bytesLess] at h
  | x :: a, y :: b, h, k => by
    simp only [Op.bytesLess, Bool.or_eq_false_iff, Bool.and_eq_false_imp, decide_eq_false_iff_not, beq_iff_eq] at h k
    have e : x = y := by
      apply UInt8.toNat_inj.1
      have h1 := h.1
      have k1 := k.1
      rw [UInt8.lt_iff_toNat_lt] at h1 k1
      omega
    subst e
    rw [less_total a b (h.2 rfl) (k.2 rfl)]
theorem above_lss {n : ByteArray} {l : Leaf} (h : isAbove n l = true) : lss n l.name = true := by
  cases hk : lss n l.name
  · simp only [isAbove, Bool.not_eq_true', Bool.or_eq_false_iff] at h
    have := less_total _ _ h.1 hk
    rw [this] at h
    simp at h
  · rfl
theorem putOut_mem {xs : List Leaf} {n u : ByteArray} {l : Leaf} (h : l ∈ putOut xs n u) : (l ∈ xs ∧ l.name ≠ n) ∨ l = ⟨n, u⟩ := by
  have hk : ∀ p, l ∈ (dropOn xs n xs.length).filter p → l ∈ xs ∧ l.name ≠ n := fun p h => by
    have h1 := (List.mem_filter.1 h).1
    rw [dropOn, List.mem_filter] at h1
    exact ⟨List.mem_of_mem_take h1.1, of_decide_eq_true h1.2⟩
  rw [putOut, List.mem_append, List.mem_append, List.mem_singleton] at h
  rcases h with (h | h) | h
  · exact Or.inl (hk _ h)
  · exact Or.inr h
  · exact Or.inl (hk _ h)
theorem putWell_ok {xs : List Leaf} {n u : ByteArray} (h : leavesOk xs = true) (hl : xs.length ≤ 8) (hn : nameOk n = true) (hu : valueOk u = true) : putWell xs n u = true := by
  rw [putWell, h, Bool.true_and]
  refine leavesOk_of (by have := putOut_le xs n u; omega) (fun l hm => ?_) ?_
  · rcases putOut_mem hm with ⟨h1, -⟩ | rfl
    · exact leavesOk_mem h l h1
    · exact ⟨hn, hu⟩
  · have hs : Srt (dropOn xs n xs.length) := ((leavesOk_srt h).sublist (List.take_sublist _ _)).filter _
    unfold Srt at hs ⊢
    rw [putOut, List.append_assoc, List.pairwise_append]
    refine ⟨hs.filter _, ?_, ?_⟩
    · rw [List.singleton_append, List.pairwise_cons]
      exact ⟨fun b hb => above_lss (List.mem_filter.1 hb).2, hs.filter _⟩
    · intro a ha b hb
      have h1 : lss a.name n = true := (List.mem_filter.1 ha).2
      rw [List.singleton_append, List.mem_cons] at hb
      rcases hb with rfl | hb
      · exact h1
      · exact lss_trans h1 (above_lss (List.mem_filter.1 hb).2)
def valT : ByteArray := ⟨#[118, 97, 108, 117, 101]⟩
def oneV : ByteArray := ⟨#[118, 97, 108, 117, 101, 111, 110, 101]⟩
theorem oneV_ok : valueOk oneV = true := by decide +kernel
theorem decV_ok : ∀ i : Fin 8, valueOk (valT ++ decS i.val) = true ∧ valT ++ decS i.val ≠ oneV ∧ (valT ++ decS i.val).size ≤ 12 := by decide +kernel
theorem clN_scan {a b : List ByteArray} {wd : Int} {x y : ByteArray} : ∀ {k : Nat}, scan a b k = some (x, y) → cutT x wd = cutT y wd → clN a b wd k = true
  | 0, h, _ => by rw [scan] at h; cases h
  | k + 1, h, e => by
    rw [scan] at h
    rw [clN]
    split at h
    · next hq => rw [if_pos hq]; exact clN_scan h e
    · next hq =>
      rw [if_neg hq]
      injection h with h
      injection h with h1 h2
      rw [h1, h2]
      exact decide_eq_true e
theorem foldH_at {h : ByteArray} {i : Int} {ss : List ByteArray} {wd : Int} (hs : ss.length ≤ 8) : foldH h i 8 ss wd = foldSt h i 8 wd ss ss.length := by
  rw [foldH, if_pos (show inB 8 0 8 = true from rfl), if_pos (by omega)]
theorem clash_law {xs : List Leaf} {n u v : ByteArray} {wd : Int} (h : leavesOk xs = true) (hl : xs.length ≤ 8) (hn : nameOk n = true) (hu : valueOk u = true) (hv : valueOk v = true) (hne : u ≠ v) (hw : inB wd 1 32 = true)
    (hr : nodeH (putL xs n v) 0 0 wd = nodeH (putL xs n u) 0 0 wd) :
    clB (prTexts n (plB (putL xs n u) n 0 wd) (plS (putL xs n u) n 0 wd) wd) (prTexts n (plB (putL xs n v) n 0 wd) (plS (putL xs n v) n 0 wd) wd) wd = true := by
  have wu := putWell_ok h hl hn hu
  have wv := putWell_ok h hl hn hv
  have ou : leavesOk (putL xs n u) = true := putL_ok h
  have ov : leavesOk (putL xs n v) = true := putL_ok h
  have pu : plOk (putL xs n u) n 0 wd = true := by rw [plOk, ou, hn, hw]; rfl
  have pv : plOk (putL xs n v) n 0 wd = true := by rw [plOk, ov, hn, hw]; rfl
  have ku := prove_ok pu
  have kv := prove_ok pv
  obtain ⟨a1, a2⟩ := pl_yes pu
  obtain ⟨b1, b2⟩ := pl_yes pv
  rw [prTexts_yes ku, prTexts_yes kv]
  have fu := proof_fit ku
  have fv := proof_fit kv
  rw [a2] at fu
  rw [a1, a2] at ku ⊢
  rw [b2] at fv
  rw [b1, b2] at kv ⊢
  obtain ⟨c1, c2, -⟩ := roots_law (i := idxT n) ou (idxT_bd n) hw
  obtain ⟨d1, d2, -⟩ := roots_law (i := idxT n) ov (idxT_bd n) hw
  have xu : leavesOk (bktL (putL xs n u) (idxT n)) = true := by rw [bkt_bel]; exact belL_ok ou 0 _
  have xv : leavesOk (bktL (putL xs n v) (idxT n)) = true := by rw [bkt_bel]; exact belL_ok ov 0 _
  rw [foldH_at (by omega), bucketH, if_pos xu] at c2
  rw [foldH_at (by omega), bucketH, if_pos xv] at d2
  have tu : bucketTx (bktL (putL xs n u) (idxT n)) = bucketT (bktL (putL xs n u) (idxT n)) := by rw [bucketTx, if_pos xu]
  have tv : bucketTx (bktL (putL xs n v) (idxT n)) = bucketT (bktL (putL xs n v) (idxT n)) := by rw [bucketTx, if_pos xv]
  rw [tu] at c2
  rw [tv] at d2
  have hd : bktL (putL xs n u) (idxT n) ≠ bktL (putL xs n v) (idxT n) := by
    intro e
    have m1 : (⟨n, u⟩ : Leaf) ∈ bktL (putL xs n u) (idxT n) := by
      rw [bkt_bel, belL_eq, List.mem_filter]
      refine ⟨?_, by simp [belP]⟩
      rw [put_yes wu, putOut]
      simp
    rw [e, bkt_bel, belL_eq, List.mem_filter, put_yes wv] at m1
    rcases putOut_mem m1.1 with ⟨-, h2⟩ | h2
    · exact h2 rfl
    · injection h2 with h3 h4
      exact hne h4
  obtain ⟨x, y, s1, -, s3⟩ := scan_clash (n := n) xu xv fu fv (c1.trans d1.symm) hd 8 (by omega) (by rw [c1] at c2; rw [d1] at d2; rw [c2, d2, hr])
  rw [clB, prUp_len, prUp_len, c1, d1, if_pos rfl]
  rw [c1, d1] at s1
  exact clN_scan s1 s3
end Go.Proofs.YtliebkhfddmhjaaDoor
