/- What copies of stamps keep. -/
import Derived.Test.YtckipgijfgeghaaGreatDoorWhl
namespace Go.Proofs.YtckipgijfgeghaaGreatDoor
open Go.RowKit

theorem fit_pure {xs ys : List StW} (hp : ys.map StW.pure = xs.map StW.pure) (hX : ∀ x ∈ xs, SigFit x.s) : ∀ y ∈ ys, SigFit y.s := by
  intro y hy
  have h1 : y.pure ∈ xs.map StW.pure := by rw [← hp]; exact List.mem_map.2 ⟨y, hy, rfl⟩
  obtain ⟨x, hx, he⟩ := List.mem_map.1 h1
  have e2 : x.s = y.s := congrArg Prod.snd he
  rw [← e2]
  exact hX x hx
theorem st_bound {xs : List StW} (h : ∀ a ∈ stN xs, a ≤ 1048576) : ∀ x ∈ xs, x.s.op.length ≤ 1099511627776 ∧ x.s.sh.length ≤ 1099511627776 ∧ x.s.si.length ≤ 1099511627776 := by
  intro x hx
  have hm : ∀ a ∈ sigN x.s, a ≤ 1048576 := fun a ha => h a (List.mem_cons_of_mem _ (List.mem_flatMap.2 ⟨x, hx, ha⟩))
  have h1 := hm (strN x.s.op) (by simp [sigN])
  have h2 := hm (strN x.s.sh) (by simp [sigN])
  have h3 := hm (strN x.s.si) (by simp [sigN])
  unfold strN at h1 h2 h3
  omega
end Go.Proofs.YtckipgijfgeghaaGreatDoor
