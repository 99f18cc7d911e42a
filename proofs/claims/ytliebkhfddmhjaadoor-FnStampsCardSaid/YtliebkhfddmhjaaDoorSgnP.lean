/- Signing: what is signed. -/
import Derived.Test.YtliebkhfddmhjaaDoorPub
import Derived.Test.YtliebkhfddmhjaaDoorPool
import Derived.Test.YtliebkhfddmhjaaDoorSides
import Derived.Test.YtliebkhfddmhjaaDoorSgO
import Derived.Deep.RegionLaw
namespace Go.Proofs.YtliebkhfddmhjaaDoor
open Go.RowKit

def sgnOpK (seed : ByteArray) (a : Int) (text : ByteArray) (n : Nat) : List ByteArray := (List.range n).map fun j : Nat => secT seed a (j : Int) (bitT (sgIdx text) (j : Int))
def sgnShK (seed : ByteArray) (a : Int) (text : ByteArray) (n : Nat) : List ByteArray := (List.range n).map fun j : Nat => lkH (secT seed a (j : Int) (1 - bitT (sgIdx text) (j : Int)))
def sgnOk (seed : ByteArray) (pool : List ByteArray) (a : Int) (text : ByteArray) : Bool := decide (pool.length = 16) && (inB a 0 15 && (decide (text.size ≤ 200) && (decide (seed.size ≤ 100) && decide (pubT seed a = pool.getD a.toNat ⟨#[]⟩))))
/-- the signature -/
def sgnV (seed : ByteArray) (pool : List ByteArray) (a : Int) (text : ByteArray) : SigV := if sgnOk seed pool a text = true then ⟨a, sgnOpK seed a text 8, sgnShK seed a text 8, sideT 16 4 a.toNat pool⟩ else ⟨0, [], [], []⟩
theorem sgn_no {seed : ByteArray} {pool : List ByteArray} {a : Int} {text : ByteArray} (h : sgnOk seed pool a text = false) : sgnV seed pool a text = ⟨0, [], [], []⟩ := by rw [sgnV, if_neg (by rw [h]; decide)]
theorem sgn_yes {seed : ByteArray} {pool : List ByteArray} {a : Int} {text : ByteArray} (h : sgnOk seed pool a text = true) : sgnV seed pool a text = ⟨a, sgnOpK seed a text 8, sgnShK seed a text 8, sideT 16 4 a.toNat pool⟩ := by rw [sgnV, if_pos h]
theorem sgnOk_true {seed : ByteArray} {pool : List ByteArray} {a : Int} {text : ByteArray} (h : sgnOk seed pool a text = true) : pool.length = 16 ∧ (0 ≤ a ∧ a ≤ 15) ∧ text.size ≤ 200 ∧ seed.size ≤ 100 ∧ pubT seed a = pool.getD a.toNat ⟨#[]⟩ := by
  simp only [sgnOk, Bool.and_eq_true, decide_eq_true_eq, inB_true] at h
  exact h
theorem sgnOp_len (seed a text n) : (sgnOpK seed a text n).length = n := by simp [sgnOpK]
theorem sgnSh_len (seed a text n) : (sgnShK seed a text n).length = n := by simp [sgnShK]
theorem sgnOp_succ (seed a text) (n : Nat) : sgnOpK seed a text (n + 1) = sgnOpK seed a text n ++ [secT seed a (n : Int) (bitT (sgIdx text) (n : Int))] := by simp [sgnOpK, List.range_succ]
theorem sgnSh_succ (seed a text) (n : Nat) : sgnShK seed a text (n + 1) = sgnShK seed a text n ++ [lkH (secT seed a (n : Int) (1 - bitT (sgIdx text) (n : Int)))] := by simp [sgnShK, List.range_succ]
theorem off_lies {v v' r : Value} {g H : Nat} (h : Off v r) (hv : v'.ownBlock = some g) (hat : v.ownBlock = some g ∨ g = H) (hb : ∀ k, r.ownBlock = some k → k < H) : Off v' r := by
  intro k hk e
  rw [hv] at hk
  injection hk with hk
  rcases hat with h1 | h1
  · exact h g h1 (by rw [hk]; exact e)
  · have := hb k e; omega
theorem beside16 : ∀ s : Fin 16, bits .xor .i64 ((s.val : Nat) : Int) 1 = (besideN s.val : Int) := by decide +kernel
theorem Off.symm {v r : Value} (h : Off v r) : Off r v := fun g hg e => h g e hg
theorem sgnV_len (seed : ByteArray) (pool : List ByteArray) (a : Int) (text : ByteArray) : (sgnV seed pool a text).op.length + (sgnV seed pool a text).sh.length + (sgnV seed pool a text).si.length ≤ 20 := by
  rw [sgnV]
  split
  · simp only [sgnOp_len, sgnSh_len, sideT_length]; omega
  · exact Nat.zero_le _
end Go.Proofs.YtliebkhfddmhjaaDoor
