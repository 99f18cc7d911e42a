/- The draw of what a file is laid anew of. -/
import Derived.Test.YtckipgijfgeghaaDAny
namespace Go.Proofs.Ytckipgijfgeghaa
open Go.RowKit

set_option maxRecDepth 100000 in
set_option maxHeartbeats 3200000 in
theorem spec_DrawAnewActs (v : Value) (bs : List Int) (w : World) (h : Code w w.heap.size v bs) (hl : bs.length ≤ 1048576) :
    Calls Try.prog 26 #[v] w fun e w' => ∃ (xs : List Fil) (name : ByteArray) (l : List ByteArray) (da la : Option Addr) (dc lc : Nat), e = .returned (.tuple #[.agg #[.slice da xs.length dc], .string name, .slice la l.length lc]) ∧ FilFit xs ∧ Fls w' (.slice da xs.length dc) xs ∧ Strs w' (.slice la l.length lc) l ∧ (∀ s ∈ l, s.size ≤ 900) ∧ l.length ≤ 10 ∧ Ext w w' := by
  obtain ⟨i0, hi, hz0, hz1, hz2⟩ := info_parts infoString
  have P := Bx.new w #[.slice none 0 0] 38
  have X : Ext w (w.alloc (Obj.cells #[.slice none 0 0] 38)) := (Ext.refl w).alloc _
  have hz : (w.alloc (Obj.cells #[.slice none 0 0] 38)).heap.size = w.heap.size + 1 := World.size_alloc ..
  have HC := h.up (Nat.le_refl _) X X.size
  go_enter Try.func26, Try.ntmps26
  go_wp2_with fail
  generalize w.alloc (Obj.cells #[.slice none 0 0] 38) = w0 at *
  refine (spec_l01New v bs _ HC hl).mono ?_
  rintro e w1 ⟨rfl, C1, x1⟩
  have hS := P.1
  have hb0 : w.heap.size < w0.heap.size := by omega
  clear hz h HC
  replace P := P.ext x1
  replace X := X.trans x1
  have hb1 := C1.lt
  have hX0 := x1.size
  clear x1
  generalize w0.heap.size = b at *
  have xa : Ext w1 (w1.alloc (Obj.cells #[.string logT, .string logT, .string logT, .string newT, .string ⟨#[]⟩] 9)) := (Ext.refl w1).alloc _
  have P0 := Bx.new w1 #[.string logT, .string logT, .string logT, .string newT, .string ⟨#[]⟩] 9
  have HR := Lib.hid (show Strs (w1.alloc (Obj.cells #[.string logT, .string logT, .string logT, .string newT, .string ⟨#[]⟩] 9)) (.slice (some ⟨w1.heap.size, 0, none⟩) 5 5) [logT, logT, logT, newT, ⟨#[]⟩] from
    ⟨rfl, some ⟨w1.heap.size, 0, none⟩, 5, rfl, Nat.le_refl _, by decide, Or.inr ⟨w1.heap.size, 0, rfl, P0.1, fun j u hu => by rw [Nat.zero_add]; exact P0.2.1 j u hu⟩⟩)
  clear P0
  go_wp2_with fail
  refine (spec_l01Pick b _ [logT, logT, logT, newT, ⟨#[]⟩] _ (C1.ext xa) HR.out (by simp [Value.ownBlock]; omega) (by simp) (by simp)).mono ?_
  rintro e w2 ⟨name, -, rfl, C2, M2⟩
  replace P := (P.ext xa).mut M2 (by omega)
  replace X := (X.trans xa).mut M2 (by omega)
  clear HR xa M2 C1
  go_wp2_with fail
  refine (spec_l08Texts b _ C2).mono ?_
  rintro e w3 ⟨l, la, lc, rfl, hl4, hls, ol, C3, M3⟩
  have hb2 := C2.lt
  replace P := P.mut M3 (by omega)
  replace X := X.mut M3 (by omega)
  have hX2 := M3.size
  have HLS := Lib.hid hls
  have OL := Lib.hid (show w3.ownsRow w2.heap.size 9 1 (.slice la l.length lc) l.length (l.map Value.string) from ol)
  clear ol hls M3 C2
  go_wp2_with fail
  refine (spec_l01Once b 10 _ C3 (by decide)).mono ?_
  rintro e w4 ⟨q, rfl, C4, M4⟩
  replace P := P.mut M4 (by omega)
  replace X := X.mut M4 (by omega)
  have hX4 := M4.size
  have ol4 := own_grown OL.out M4 (fun k hk => by injection hk with hk; omega)
  have OL4 := Lib.hid ol4
  have hb3 := C3.lt
  clear ol4 OL M4 C3
  cases q
  · go_wp2_with fail
    refine (spec_l08Any b _ C4).mono ?_
    rintro e w8 ⟨xs, da, dc, rfl, hft, fd, M8⟩
    have hl8 := P.1
    replace P := P.mut M8 (by omega)
    replace X := X.mut M8 (by omega)
    have o8 := own_grown OL4.out M8 (fun k hk => by injection hk with hk; omega)
    have HFT := Lib.hid hft
    have z0 := P.2.1 0 _ rfl
    have f0 := P.2.2 0
    have RF := P.set 0 (.slice da xs.length dc) (by simp)
    have XF := X.setCell (p := ⟨w.heap.size, 0, none⟩) (by dsimp only; omega) (.slice da xs.length dc)
    have O9 := Lib.hid (own_below o8 (p := ⟨w.heap.size, 0, none⟩) (u := .slice da xs.length dc) (by dsimp only; omega))
    have FD := Lib.hid (show Fls _ _ _ from Row.of_owns (own_below fd (p := ⟨w.heap.size, 0, none⟩) (u := .slice da xs.length dc) (by dsimp only; omega)))
    clear o8 fd hft M8
    go_wp2
    generalize w8.setCell ⟨w.heap.size, 0, none⟩ (.slice da xs.length dc) = WF at *
    have k0 := RF.2.1 0 _ rfl
    refine bodyPost_ret (v := .tuple #[.agg #[.slice da xs.length dc], .string name, .slice la l.length lc]) (by simp [results, Try.results26, go_sem, k0]) rfl ?_
    exact ⟨xs, name, l, da, la, dc, lc, rfl, HFT.out, FD.out, (show OwnStrs _ _ _ _ from O9.out).strs, (fun s hs => by have := HLS.out s hs; omega), by omega, XF⟩
  · have h42 := X.size
    have hb4 := C4.lt
    go_wp2_with (at_builtin; refine wpList_append_own _ rfl (.tmp 17) (.tmp 18) 44 rfl w2.heap.size 9 i0 (.string ⟨#[]⟩) 1 16 Try.underlying44 hi hz0 hz1 hz2 rfl (by decide) _ _ _ rfl (own_alloc OL4.out _) ⟨w4.heap.size, 0, none⟩ 1 1 [.string ⟨#[]⟩] rfl rfl ?c1 ?c2 ?c3 ?c4 ?c5 ?_)
    case c1 => exact World.news_of_block (heap_alloc_new w4 (Obj.cells #[.string ⟨#[]⟩] 9))
    case c2 => intro u hu; simp at hu; subst hu; rfl
    case c3 => unfold maxLen; omega
    case c4 => omega
    case c5 => rw [World.size_alloc]; omega
    intro v' w5 own5 hgrow _
    have hlt4 := own_lt OL4.out
    have xa : Ext w4 (w4.alloc (Obj.cells #[.string ⟨#[]⟩] 9)) := (Ext.refl w4).alloc _
    replace P := (P.ext xa).grew hgrow (fun e => by have := (hlt4 _ e).1; omega)
    replace X := own_ext_of (X.trans xa) (own_alloc OL4.out _) hgrow (by omega)
    have C5 : Cur w5 b := (C4.ext xa).grown hgrow (fun k hk => by have := (hlt4 k hk).1; omega)
    obtain ⟨ma, mc, rfl⟩ := own_any own5
    have OL5 := Lib.hid own5
    clear own5 hgrow xa hlt4 C4 OL4
    go_wp2_with fail
    refine (spec_l08Any b _ C5).mono ?_
    rintro e w8 ⟨xs, da, dc, rfl, hft, fd, M8⟩
    have hl8 := P.1
    replace P := P.mut M8 (by omega)
    replace X := X.mut M8 (by omega)
    have o8 := own_grown OL5.out M8 (fun k hk => by injection hk with hk; omega)
    have HFT := Lib.hid hft
    have z0 := P.2.1 0 _ rfl
    have f0 := P.2.2 0
    have RF := P.set 0 (.slice da xs.length dc) (by simp)
    have XF := X.setCell (p := ⟨w.heap.size, 0, none⟩) (by dsimp only; omega) (.slice da xs.length dc)
    have O9 := Lib.hid (own_below o8 (p := ⟨w.heap.size, 0, none⟩) (u := .slice da xs.length dc) (by dsimp only; omega))
    have FD := Lib.hid (show Fls _ _ _ from Row.of_owns (own_below fd (p := ⟨w.heap.size, 0, none⟩) (u := .slice da xs.length dc) (by dsimp only; omega)))
    clear o8 fd hft M8
    go_wp2
    generalize w8.setCell ⟨w.heap.size, 0, none⟩ (.slice da xs.length dc) = WF at *
    have k0 := RF.2.1 0 _ rfl
    refine bodyPost_ret (v := .tuple #[.agg #[.slice da xs.length dc], .string name, .slice ma (l.length + 1) mc]) (by simp [results, Try.results26, go_sem, k0]) rfl ?_
    have HSS : Strs WF (.slice ma (l ++ [(⟨#[]⟩ : ByteArray)]).length mc) (l ++ [⟨#[]⟩]) := by
      refine Row.of_owns (base := w2.heap.size) (e := 9) ?_
      rw [List.map_append, List.length_append]
      exact O9.out
    exact ⟨xs, name, (l ++ [(⟨#[]⟩ : ByteArray)]), da, ma, dc, mc, by rw [List.length_append]; rfl, HFT.out, FD.out, HSS, (fun s hs => by rw [List.mem_append, List.mem_singleton] at hs; rcases hs with hs | rfl; have := HLS.out s hs; omega; decide), by rw [List.length_append, List.length_singleton]; omega, XF⟩
end Go.Proofs.Ytckipgijfgeghaa
