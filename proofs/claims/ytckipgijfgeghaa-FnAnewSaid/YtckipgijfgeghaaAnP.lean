/- The operations that lay a file anew: plain laws. -/
import Derived.Test.YtckipgijfgeghaaDskP
import Derived.Test.YtckipgijfgeghaaFrT
import Derived.Test.YtckipgijfgeghaaApp
import Derived.Test.YtckipgijfgeghaaDLog
namespace Go.Proofs.Ytckipgijfgeghaa
open Go.RowKit

theorem infoAct : (Try.prog.info? 75).map (fun i => (i.zero, i.size, i.bytes)) = some (some (.agg #[.int .i64 0, .string ⟨#[]⟩, .string ⟨#[]⟩, .string ⟨#[]⟩]), 4, 56) := by kernel_rfl
def logNameOk (n : ByteArray) : Bool := inB n.size 1 8 && !(n.toList == newT.toList)
def dropQ : List ActV := [⟨4, newT, ⟨#[]⟩, ⟨#[]⟩⟩]
def layQ (S name : ByteArray) : List ActV := [⟨1, newT, S, ⟨#[]⟩⟩, ⟨2, newT, ⟨#[]⟩, ⟨#[]⟩⟩, ⟨3, newT, ⟨#[]⟩, name⟩]
def anewOk (xs : List Fil) (name : ByteArray) (l : List ByteArray) : Bool := diskOk xs && (logNameOk name && l.all recOk)
def hasNew (xs : List Fil) : Bool := decide (0 ≤ fAt xs newT)
def anewQ (b : Bool) (S name : ByteArray) : List ActV := (if b then dropQ else []) ++ layQ S name
def anewL (xs : List Fil) (name : ByteArray) (l : List ByteArray) : List ActV := if anewOk xs name l = true then anewQ (hasNew xs) (frsT l) name else []
theorem anewL_no {xs : List Fil} {name : ByteArray} {l : List ByteArray} (h : anewOk xs name l = false) : anewL xs name l = [] := by rw [anewL, h]; rfl
theorem anewL_yes {xs : List Fil} {name : ByteArray} {l : List ByteArray} (h : anewOk xs name l = true) : anewL xs name l = anewQ (hasNew xs) (frsT l) name := by rw [anewL, if_pos h]
theorem anewOk_disk {xs : List Fil} {name : ByteArray} {l : List ByteArray} (h : diskOk xs = false) : anewOk xs name l = false := by rw [anewOk, h]; rfl
theorem anewOk_name {xs : List Fil} {name : ByteArray} {l : List ByteArray} (h : logNameOk name = false) : anewOk xs name l = false := by rw [anewOk, h]; simp
theorem anewOk_rec {xs : List Fil} {name : ByteArray} {l : List ByteArray} {k : Nat} (hk : k < l.length) (h : recOk l[k] = false) : anewOk xs name l = false := by
  have : l.all recOk = false := by rw [List.all_eq_false]; exact ⟨l[k], List.getElem_mem hk, by simp [h]⟩
  rw [anewOk, this]; simp
theorem anewOk_true {xs : List Fil} {name : ByteArray} {l : List ByteArray} (h1 : diskOk xs = true) (h2 : logNameOk name = true) (h3 : ∀ s ∈ l, recOk s = true) : anewOk xs name l = true := by
  rw [anewOk, h1, h2, List.all_eq_true.2 h3]; rfl
theorem acs_own {w : World} {b : Nat} {v : Value} {n : Nat} {qs : List ActV} (h : w.ownsRow b 75 4 v n (qs.flatMap ActV.cells)) (hn : qs.length = n) : Acs w v qs := by
  subst hn
  exact Row.of_owns h
theorem acs_nil (w : World) : Acs w (.slice none 0 0) [] := ⟨rfl, none, 0, rfl, Nat.le_refl _, Nat.zero_le _, Or.inl rfl⟩
theorem acs_none {w : World} {a : Option Addr} (c : Nat) (hc : c ≤ maxLen) : Acs w (.slice a 0 c) [] := ⟨rfl, a, c, rfl, Nat.zero_le _, hc, Or.inl rfl⟩
end Go.Proofs.Ytckipgijfgeghaa
