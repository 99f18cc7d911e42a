/- Signatures: the reference's text. -/
import Derived.Test.YtniimhfelnjepaaDoorSig2
import Derived.Test.YtniimhfelnjepaaDoorVar
import Derived.Deep.AppendLies
namespace Go.Proofs.YtniimhfelnjepaaDoor
open Go.RowKit

theorem joinT_append (xs ys : List ByteArray) : joinT (xs ++ ys) = joinT xs ++ joinT ys := by
  rw [← joinOn_all (joinT xs) ys]
  unfold joinT joinOn
  rw [List.take_length, List.take_length, List.take_length, List.foldl_append]
/-- all of a signature's strings -/
def sigL (s : SigV) : List ByteArray := s.op ++ s.sh ++ s.si
theorem sigT_join (s : SigV) : joinOn (strOfNums [s.at_]) (sigL s) (sigL s).length = sigT s := by
  rw [joinOn_all, sigL, joinT_append, joinT_append, sigT, ByteArray.append_assoc, ByteArray.append_assoc, ByteArray.append_assoc]
theorem sigL_small {s : SigV} (h1 : StrSmall s.op) (h2 : StrSmall s.sh) (h3 : StrSmall s.si) (l1 : s.op.length = 8) (l2 : s.sh.length = 8) (l3 : s.si.length = 4) : StrSmall (sigL s) := by
  refine ⟨by simp [sigL]; omega, fun x hx => ?_⟩
  rw [sigL, List.mem_append, List.mem_append] at hx
  rcases hx with (hx | hx) | hx
  · exact h1.2 x hx
  · exact h2.2 x hx
  · exact h3.2 x hx
theorem str_news {w : World} {a : Option Addr} {n c : Nat} {ys : List ByteArray} (h : Strs w (.slice a n c) ys) (hn : 0 < ys.length) : ∃ b o, a = some ⟨b, o, none⟩ ∧ ∀ (W : World), Ext w W → ∀ j u, (ys.map Value.string)[j]? = some u → W.cell? ((⟨b, o, none⟩ : Addr).add j) = some u := by
  obtain ⟨-, a1, c1, hv, -, -, g⟩ := h
  injection hv with e1 e2 e3
  subst e1
  rcases g with g | ⟨b, o, rfl, hb, g⟩
  · omega
  · refine ⟨b, o, rfl, fun W hx j u hu => ?_⟩
    have e : (⟨b, o, none⟩ : Addr).add j = ⟨b, o + j, none⟩ := by simp [Addr.add]
    rw [e, hx.cell b _ hb]
    exact g j u hu
theorem cell_dn {w : World} {b o : Nat} {v : Value} {t : TypeId} {xs : Array Value} (h : w.cell? ⟨b, o, none⟩ = some v) (hb : b < w.heap.size) : (w.drew.alloc (.cells xs t)).cell? ⟨b, o, none⟩ = some v :=
  (World.cell?_alloc_past (w := w.drew) _ b o hb).trans h
theorem strs_one (ys : List ByteArray) : ∀ u ∈ ys.map Value.string, u.oneCell' = true := by
  intro u hu
  rw [List.mem_map] at hu
  obtain ⟨t, -, rfl⟩ := hu
  rfl

end Go.Proofs.YtniimhfelnjepaaDoor
