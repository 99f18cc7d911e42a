/- Sig3, Sig4 in one text. -/
import Derived.Test.YtckipgijfgeghaaSig2
import Derived.Test.YtckipgijfgeghaaStrA
import Derived.Deep.AppendLies
import Derived.Test.YtckipgijfgeghaaHeadA
import Derived.Test.YtckipgijfgeghaaCore
import Derived.Deep.RegionHeld3
namespace Go.Proofs.Ytckipgijfgeghaa
open Go.RowKit

theorem joinT_append (xs ys : List ByteArray) : joinT (xs ++ ys) = joinT xs ++ joinT ys := by
  rw [← joinOn_all (joinT xs) ys]
  unfold joinT joinOn
  rw [List.take_length, List.take_length, List.take_length, List.foldl_append]
/-- all of a signature's strings -/
def sigL (s : SigV) : List ByteArray := s.op ++ s.sh ++ s.si
theorem sigT_join (s : SigV) : joinOn (strOfNums [s.at_]) (sigL s) (sigL s).length = sigT s := by
  rw [joinOn_all, sigL, joinT_append, joinT_append, sigT, ByteArray.append_assoc, ByteArray.append_assoc, ByteArray.append_assoc]
theorem sigL_small {s : SigV} (h1 : StrSmall s.op) (h2 : StrSmall s.sh) (h3 : StrSmall s.si) (l1 : s.op.length = 8) (l2 : s.sh.length = 8) (l3 : s.si.length = 4) : StrSmall (sigL s) := by
  refine ⟨by simp [sigL]; omega, fun x hx => ?_⟩
  rw [sigL, List.mem_append, List.mem_append] at hx
  rcases hx with (hx | hx) | hx
  · exact h1.2 x hx
  · exact h2.2 x hx
  · exact h3.2 x hx
theorem str_news {w : World} {a : Option Addr} {n c : Nat} {ys : List ByteArray} (h : Strs w (.slice a n c) ys) (hn : 0 < ys.length) : ∃ b o, a = some ⟨b, o, none⟩ ∧ ∀ (W : World), Ext w W → ∀ j u, (ys.map Value.string)[j]? = some u → W.cell? ((⟨b, o, none⟩ : Addr).add j) = some u := by
  obtain ⟨-, a1, c1, hv, -, -, g⟩ := h
  injection hv with e1 e2 e3
  subst e1
  rcases g with g | ⟨b, o, rfl, hb, g⟩
  · omega
  · refine ⟨b, o, rfl, fun W hx j u hu => ?_⟩
    have e : (⟨b, o, none⟩ : Addr).add j = ⟨b, o + j, none⟩ := by simp [Addr.add]
    rw [e, hx.cell b _ hb]
    exact g j u hu
theorem cell_dn {w : World} {b o : Nat} {v : Value} {t : TypeId} {xs : Array Value} (h : w.cell? ⟨b, o, none⟩ = some v) (hb : b < w.heap.size) : (w.drew.alloc (.cells xs t)).cell? ⟨b, o, none⟩ = some v :=
  (World.cell?_alloc_past (w := w.drew) _ b o hb).trans h
theorem strs_one (ys : List ByteArray) : ∀ u ∈ ys.map Value.string, u.oneCell' = true := by
  intro u hu
  rw [List.mem_map] at hu
  obtain ⟨t, -, rfl⟩ := hu
  rfl

end Go.Proofs.Ytckipgijfgeghaa
namespace Go.Proofs.Ytckipgijfgeghaa
open Go.RowKit

/-- sizes, one behind the other -/
def szl : Int → List Nat → Int
  | left, [] => left
  | left, a :: t => if szr left a < 0 then -1 else szl (szr left a) t
theorem szr_two (left : Int) (a : Nat) (hl : 0 ≤ left ∧ left ≤ 1048576) : szr left a = -1 ∨ ∃ z : Int, szr left a = z ∧ 0 ≤ z ∧ z ≤ 1048576 ∧ a ≤ 1048576 := by
  simp only [szr]; split
  · exact Or.inl rfl
  · exact Or.inr ⟨_, rfl, by omega, by omega, by omega⟩
theorem szl_neg {left : Int} {a : Nat} (t : List Nat) (h : szr left a = -1) : szl left (a :: t) = -1 := by rw [szl, h, if_pos (by omega)]
theorem szl_pos {left z : Int} {a : Nat} (t : List Nat) (h : szr left a = z) (hz : 0 ≤ z) : szl left (a :: t) = szl z t := by rw [szl, h, if_neg (by omega)]
theorem szl_two : ∀ (t : List Nat) (left : Int), 0 ≤ left ∧ left ≤ 1048576 → szl left t = -1 ∨ ∃ z : Int, szl left t = z ∧ 0 ≤ z ∧ z ≤ 1048576 ∧ ∀ a ∈ t, a ≤ 1048576
  | [], left, hl => Or.inr ⟨left, rfl, hl.1, hl.2, fun a ha => by cases ha⟩
  | a :: t, left, hl => by
    rcases szr_two left a hl with h | ⟨z, h, h0, h1, h2⟩
    · exact Or.inl (szl_neg t h)
    · rw [szl_pos t h h0]
      rcases szl_two t z ⟨h0, h1⟩ with k | ⟨y, k, k0, k1, k2⟩
      · exact Or.inl k
      · exact Or.inr ⟨y, k, k0, k1, fun b hb => by
          rcases List.mem_cons.1 hb with rfl | hb
          · exact h2
          · exact k2 b hb⟩
def strN (xs : List ByteArray) : Nat := xs.length + sizes xs
def sigN (s : SigV) : List Nat := [strN s.op, strN s.sh, strN s.si]

def sealN (r p : ByteArray) (s : SigV) : List Nat := (r.size + p.size) :: sigN s
end Go.Proofs.Ytckipgijfgeghaa
