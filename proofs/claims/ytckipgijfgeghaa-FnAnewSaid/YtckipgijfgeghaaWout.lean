/- A file taken out of two: the program. -/
import Derived.Test.YtckipgijfgeghaaFil
import Derived.Test.YtckipgijfgeghaaSgO
import Derived.Deep.RegionLaw
import Derived.Deep.AppendLies
namespace Go.Proofs.Ytckipgijfgeghaa
open Go.RowKit

theorem own_none {w : World} {base : Nat} {e : TypeId} {size g n c : Nat} {xs : List Value} (h : w.ownsRow base e size (.slice (some ⟨g, 0, none⟩) n c) n xs) : w.ownsRow base e size (.slice (some ⟨g, 0, none⟩) 0 c) 0 [] := by
  refine ⟨by simp, ?_⟩
  rcases h.2 with ⟨h1, -⟩ | ⟨g', cap, cur, hv, hb, hh, hn, hm, hs, ht⟩
  · cases h1
  · injection hv with q1 q2 q3
    injection q1 with q1
    injection q1 with q1
    subst q1 q3
    exact Or.inr ⟨g, c, cur, rfl, hb, hh, Nat.zero_le _, hm, hs, by simp⟩
set_option maxRecDepth 100000 in
set_option maxHeartbeats 1600000 in
theorem impl_without (b g c B : Nat) (x y : Fil) (w : World) (P : Bx w b [.slice (some ⟨g, 0, none⟩) 2 c]) (ow : w.ownsRow B 113 3 (.slice (some ⟨g, 0, none⟩) 2 c) 2 ([x, y].flatMap Fil.cells)) (hg : g ≠ b) :
    Calls Try.prog 104 #[.pointer (some ⟨b, 0, none⟩), .int .i64 0] w fun e w' => e = .returned (.tuple #[]) ∧ ∃ (g9 c9 : Nat), Bx w' b [.slice (some ⟨g9, 0, none⟩) 1 c9] ∧ w'.ownsRow B 113 3 (.slice (some ⟨g9, 0, none⟩) 1 c9) 1 ([y].flatMap Fil.cells) ∧ g9 ≠ b ∧ B ≤ g9 ∧ (∀ b' cs, b' ≠ b → b' < B → Bx w b' cs → Bx w' b' cs) ∧ (∀ w0, w0.heap.size ≤ b → w0.heap.size ≤ B → Ext w0 w → Ext w0 w') := by
  obtain ⟨i0, hi, hz0, hz1, hz2⟩ := info_parts infoFil
  have z0 := P.2.1 0 _ rfl
  have f0 := P.2.2 0
  have hlt := ow.lt g rfl
  have hc2 : 2 ≤ c ∧ c ≤ maxLen := by
    rcases ow.2 with ⟨h1, -⟩ | ⟨g', cap, cur, hv, hb, hh, hn, hm, hs, ht⟩
    · cases h1
    · injection hv with q1 q2 q3
      omega
  have hcm := hc2.2
  unfold maxLen at hcm
  have e3 : w.cell? ⟨g, 3, none⟩ = some (.string y.name) := ow.cellAt 3 (by omega)
  have e4 : w.cell? ⟨g, 4, none⟩ = some (.string y.text) := ow.cellAt 4 (by omega)
  have e5 : w.cell? ⟨g, 5, none⟩ = some (.int .i64 y.kept) := ow.cellAt 5 (by omega)
  have hl := P.1
  have ON := Lib.hid (own_none ow)
  have OW := Lib.hid ow
  have i1 : (0 : Int) ≤ c := by omega
  have i2 : (1 : Int) ≤ c := by omega
  have hW : IntKind.i64.wrap 1 = 1 := by decide
  have hc1 : ¬ c = 1 := by omega
  have hBg := (OW.out.lt g rfl).1
  have HNW := Lib.hid (show ∀ j u, ([.string y.name, .string y.text, .int .i64 y.kept] : List Value)[j]? = some u → w.drew.cell? ((⟨g, 3, none⟩ : Addr).add j) = some u from by
    intro j u hj
    rcases (show j = 0 ∨ j = 1 ∨ j = 2 ∨ 3 ≤ j by omega) with rfl | rfl | rfl | hj3
    · injection hj with hj; subst hj; exact e3
    · injection hj with hj; subst hj; exact e4
    · injection hj with hj; subst hj; exact e5
    · rw [List.getElem?_eq_none (by simpa using hj3)] at hj; cases hj)
  clear ow
  go_enter Try.func104, Try.ntmps104
  go_wp2
  go_region_law ((refine step_append_lies _ rfl (.tmp 10) (.tmp 17) 36 (by rfl) B 113 i0 _ 3 40 Try.underlying36 hi hz0 hz1 hz2 rfl (by decide) _ 0 [] (by rfl) (own_drew ON.out) ⟨g, 3, none⟩ 1 (c - 1) [.string y.name, .string y.text, .int .i64 y.kept] (by rfl) rfl HNW.out (by intro u hu; simp at hu; rcases hu with rfl | rfl | rfl <;> rfl) (by decide) (by decide) (by decide) (by show B ≤ w.heap.size; omega) _ rfl ?_; intro g9 c9 w9 hown9 hgrow hal hg9; have P9 := (P.ext ((Ext.refl w).drew)).grew hgrow (fun e => hg (by injection e)); have c9' := P9.2.1 0 _ rfl; have f9' := P9.2.2 0; have hg9b : g9 ≠ b := (fun e => by rcases hal with h1 | h1; (injection h1 with h1; exact hg (h1.trans e)); (have : w.heap.size = w.drew.heap.size := rfl; omega)); have hB9 := (own_lt hown9 g9 rfl).1; have HG := Lib.hid hgrow; have HO := Lib.hid hown9; clear hown9 hgrow))
  all_goals
    go_end0
    refine ⟨rfl, g9, c9, P9.set 0 _ (by simp), own_far HO.out (fun k e e2 => hg9b (by subst e2; injection e)) _, hg9b, hB9, fun b' cs hb hB hx => ?_, fun w0 h1 h2 h3 => ?_⟩
    · exact (((hx.ext ((Ext.refl w).drew)).grew HG.out (fun e => by injection e with e; have e2 : g = b' := e; omega)).far (fun e => hb e.symm) _ _)
    · exact (Ext.setCell (h3.drew.grown HG.out (fun k e => by injection e with e; have e2 : g = k := e; omega)) (by exact h1) _)
end Go.Proofs.Ytckipgijfgeghaa
