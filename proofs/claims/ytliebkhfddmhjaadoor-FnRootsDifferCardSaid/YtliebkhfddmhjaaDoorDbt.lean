/- The draw of a bucket's leaves. -/
import Derived.Test.YtliebkhfddmhjaaDoorAny
namespace Go.Proofs.YtliebkhfddmhjaaDoor
open Go.RowKit

theorem lvs_two {w : World} {a : Option Addr} {n c : Nat} {xs : List Leaf} (h : Lvs w (.slice a n c) xs) (hn : 2 < xs.length) : n = xs.length ∧ ∃ b o, a = some ⟨b, o, none⟩ ∧ 2 ≤ c ∧ Lvs w (.slice (some ⟨b, o, none⟩) 2 c) (xs.take 2) := by
  obtain ⟨-, a1, c1, hv, hc, hm, g⟩ := h
  injection hv with e1 e2 e3
  subst e1 e2 e3
  rcases g with g | ⟨b, o, rfl, hb, g⟩
  · omega
  · refine ⟨rfl, b, o, rfl, by omega, ?_⟩
    obtain ⟨x, y, l, rfl⟩ : ∃ x y l, xs = x :: y :: l := by
      match xs, hn with
      | x :: y :: l, _ => exact ⟨x, y, l, rfl⟩
    refine ⟨rfl, _, _, rfl, by simp at hn hc; simp; omega, hm, Or.inr ⟨b, o, rfl, hb, fun j u hu => g j u ?_⟩⟩
    simp only [List.take_succ_cons, List.take_zero, List.flatMap_cons, List.flatMap_nil, List.append_nil] at hu
    rw [List.flatMap_cons, List.flatMap_cons, ← List.append_assoc, List.getElem?_append_left]
    · exact hu
    · by_cases hj : j < (x.cells ++ y.cells).length
      · exact hj
      · rw [List.getElem?_eq_none (by omega)] at hu; cases hu
theorem spec_DrawBucketText (v : Value) (bs : List Int) (w : World) (h : Code w w.heap.size v bs) (hl : bs.length ≤ 1048576) :
    Calls Tryd.prog 64 #[v] w fun e w' => ∃ (xs : List Leaf) (a : Option Addr) (c : Nat), e = .returned (.slice a xs.length c) ∧ LeafFit xs ∧ Lvs w' (.slice a xs.length c) xs ∧ Ext w w' := by
  go_enter Tryd.func64, Tryd.ntmps64
  go_wp2_with fail
  refine (spec_l01New v bs _ h hl).mono ?_
  rintro e w1 ⟨rfl, C1, x1⟩
  generalize hB : w.heap.size = B at *
  go_wp2_with fail
  refine (spec_l09Any B _ C1).mono ?_
  rintro e w2 ⟨xs, a, c, rfl, hf, hn, ow, C2, M2⟩
  have X2 := x1.mut M2 (by omega)
  have HF := Lib.hid hf
  have hs1 := x1.size
  have hlt := C1.lt
  have OW := Lib.hid ow
  clear hf ow
  go_wp2_with fail
  refine (spec_l01Once B 2 _ C2 (by decide)).mono ?_
  rintro e w3 ⟨q, rfl, C3, M3⟩
  have X3 := X2.mut M3 (by omega)
  have LV := Lib.hid (show Lvs w3 (.slice a xs.length c) xs from OwnLvs.lvs (own_grown2 OW.out M3 (fun k hk hv => by cases hk; have := (own_lt OW.out B hv).1; omega)))
  cases q
  · go_wp2
    go_ret
    exact ⟨xs, a, c, rfl, HF.out, LV.out, X3⟩
  · by_cases h2 : 2 < xs.length
    · obtain ⟨-, b, o, rfl, hc2, lv⟩ := lvs_two LV.out h2
      have HL := Lib.hid lv
      have HN := Lib.hid (show (xs.take 2).length = 2 by rw [List.length_take]; omega)
      have h2i : (2 : Int) < xs.length := by omega
      have hci : (2 : Int) ≤ c := by omega
      clear h2 lv
      go_wp2
      go_ret
      exact ⟨xs.take 2, some ⟨b, o, none⟩, c, by rw [HN.out]; rfl, fun l hl => HF.out l (List.mem_of_mem_take hl), by rw [HN.out]; exact HL.out, X3⟩
    · have h2i : ¬ (2 : Int) < xs.length := by omega
      clear h2
      go_wp2
      go_ret
      exact ⟨xs, a, c, rfl, HF.out, LV.out, X3⟩
end Go.Proofs.YtliebkhfddmhjaaDoor
