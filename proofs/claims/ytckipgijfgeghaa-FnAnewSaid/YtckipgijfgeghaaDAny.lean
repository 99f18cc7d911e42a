/- The draw of a disk, right or not, and of what a file is laid anew of. -/
import Derived.Test.YtckipgijfgeghaaDLog
import Derived.Test.YtckipgijfgeghaaOnc
import Derived.Test.YtckipgijfgeghaaStI
import Derived.Test.YtckipgijfgeghaaStrA
import Derived.Test.YtckipgijfgeghaaApp
import Derived.Deep.DeepCutAuto
namespace Go.Proofs.Ytckipgijfgeghaa
open Go.RowKit

set_option maxHeartbeats 800000 in
theorem spec_l01Pick (b : Nat) (v : Value) (xs : List ByteArray) (w : World) (h : Cur w b) (hs : Strs w v xs) (hn : v.ownBlock ≠ some b) (hp : 0 < xs.length) (hl : xs.length ≤ 1000) :
    Calls Try.prog 54 #[.pointer (some ⟨b, 0, none⟩), v] w fun e w' => ∃ s : ByteArray, s ∈ xs ∧ e = .returned (.string s) ∧ Cur w' b ∧ Mut b w w' := by
  obtain ⟨-, a, c, rfl, hc, hm, hcase⟩ := hs
  rcases hcase with h0 | ⟨g, o, rfl, hg, hcells⟩
  · omega
  go_enter Try.func54, Try.ntmps54
  go_wp2_with fail
  refine (spec_l01Below b xs.length _ h (by omega)).mono ?_
  rintro e w1 ⟨x, rfl, hx, C1, M1⟩
  obtain ⟨i, rfl⟩ := Int.eq_ofNat_of_zero_le hx.1
  have hi : i < xs.length := by omega
  have hi0 : (0 : Int) ≤ (i : Int) := by omega
  have hi1 : (i : Int) < xs.length := by omega
  have e1 : w1.cell? ⟨g, o + i, none⟩ = some (.string xs[i]) := (M1.cell _ _ hg (fun e => hn (by rw [e]; rfl))).trans (hcells i _ (by simp [hi]))
  have hmem := List.getElem_mem hi
  clear hcells
  go_wp2
  go_ret
  exact ⟨_, hmem, rfl, C1, M1⟩
def xT : ByteArray := ⟨#[120]⟩
def aT : ByteArray := ⟨#[97]⟩
theorem newT_ok : inB newT.size 1 8 = true := by decide
theorem log_new : Op.bytesLess logT.toList newT.toList = true := by
  rw [ByteArray.toList_eq, ByteArray.toList_eq]; rfl
theorem new_log : (logT.toList == newT.toList) = false := by
  rw [ByteArray.toList_eq, ByteArray.toList_eq]; rfl
theorem fAt_newLog (L : List ByteArray) : fAt (logD L) newT = -1 := by
  refine fAt_none ?_
  intro f hf
  rw [logD] at hf
  split at hf
  · cases hf
  · simp at hf
    subst hf
    intro e
    have := new_log
    dsimp only at e
    rw [e] at this
    simp at this
theorem new_gt : Op.bytesLess newT.toList logT.toList = false := bless_asym _ _ log_new
theorem new_ne : (newT.toList == logT.toList) = false := by
  rw [ByteArray.toList_eq, ByteArray.toList_eq]; rfl
/-- a file 'new' beside the log -/
theorem putF_new (L : List ByteArray) (t : ByteArray) (q : Int) : putF (logD L) ⟨newT, t, q⟩ = logD L ++ [⟨newT, t, q⟩] := by
  by_cases h : L = []
  · subst h; rfl
  · rw [logD_some h]
    simp [putF, ltF, gtF, log_new]
theorem diskOk_two {L : List ByteArray} {t : ByteArray} {q : Int} (hz : (frsT L).size ≤ 20000) (ht : t.size ≤ 20000) (hq : 0 ≤ q ∧ q ≤ t.size) : diskOk (logD L ++ [⟨newT, t, q⟩]) = true := by
  by_cases h : L = []
  · subst h; exact diskOk_one newT_ok ht hq
  · rw [logD_some h]
    have f1 : filOk ⟨newT, t, q⟩ = true := by
      rw [filOk, fnOk, newT_ok, Bool.true_and, decide_eq_true ht, Bool.true_and, fkOk]; exact inB_true.2 hq
    have f0 : filOk ⟨logT, frsT L, (frsT L).size⟩ = true := by
      rw [filOk, fnOk, logT_ok, Bool.true_and, decide_eq_true hz, Bool.true_and, fkOk]; exact inB_true.2 (by dsimp only; omega)
    refine diskOk_true ?_ (by simp)
    intro i hi
    rcases (show i = 0 ∨ i = 1 by simp at hi; omega) with rfl | rfl
    · exact f0
    · show (filOk ⟨newT, t, q⟩ && Op.bytesLess logT.toList newT.toList) = true
      rw [f1, log_new]; rfl
theorem fit_two {L : List ByteArray} {f : Fil} (hz : (frsT L).size ≤ 20000) (h1 : f.name.size ≤ 20000) (h2 : f.text.size ≤ 20000) : FilFit (logD L ++ [f]) := by
  intro l hl
  rw [List.mem_append] at hl
  rcases hl with hl | hl
  · exact st0_fit hz l hl
  · simp at hl; subst hl; unfold maxLen; exact ⟨by omega, by omega⟩
theorem frsT_pos {L : List ByteArray} (h : L ≠ []) : 5 ≤ (frsT L).size := by
  cases L with
  | nil => exact absurd rfl h
  | cons s l =>
    rw [frsT_size, frsB, List.flatMap_cons, List.length_append, frB_len]
    have := varB_ne0 s.size
    omega

set_option maxRecDepth 100000 in
set_option maxHeartbeats 3200000 in
theorem spec_l08Any (b : Nat) (w : World) (h : Cur w b) :
    Calls Try.prog 57 #[.pointer (some ⟨b, 0, none⟩)] w fun e w' => ∃ (xs : List Fil) (a : Option Addr) (c : Nat), e = .returned (.agg #[.slice a xs.length c]) ∧ FilFit xs ∧ OwnFls w' w.heap.size (.slice a xs.length c) xs ∧ Mut b w w' := by
  obtain ⟨i0, hi, hz0, hz1, hz2⟩ := info_parts infoFil
  have hb := h.lt
  have P2 := Bx.new w #[.slice none 0 0] 38
  have X : Ext w (w.alloc (Obj.cells #[.slice none 0 0] 38)) := (Ext.refl w).alloc _
  have hz : (w.alloc (Obj.cells #[.slice none 0 0] 38)).heap.size = w.heap.size + 1 := World.size_alloc ..
  go_enter Try.func57, Try.ntmps57
  go_wp2_with fail
  generalize w.alloc (Obj.cells #[.slice none 0 0] 38) = w0 at *
  have HZ0 := Lib.hid hz
  clear hz
  refine (spec_l01Below b 10 _ (h.ext X) (by decide)).mono ?_
  rintro e w1 ⟨x, rfl, hx, C1, M1⟩
  replace P2 := P2.mut M1 (by omega)
  have M := (Mut.of_ext (b := b) X).trans M1
  have l2 := P2.1
  clear X M1
  go_wp2_with fail
  refine (spec_l08Disk b _ C1).mono ?_
  rintro e w2 ⟨L, da, dc, rfl, hL4, hLs, oD, M2⟩
  replace P2 := P2.mut M2 (by omega)
  replace M := M.trans M2
  obtain ⟨hr, hr9⟩ := small_ok hLs
  have hF := frsT_len hr9
  have hlt := own_lt oD
  have hD1 := logD_len L
  have P4 := Bx.new w2 #[.slice da (logD L).length dc] 38
  have x3 : Ext w2 (w2.alloc (Obj.cells #[.slice da (logD L).length dc] 38)) := (Ext.refl w2).alloc _
  have hne : (Value.slice da (logD L).length dc).ownBlock ≠ some w2.heap.size := fun e => by have := (hlt _ e).2; omega
  have OD := Lib.hid (own_mono (own_ext oD x3) (show w.heap.size + 1 ≤ w1.heap.size by omega))
  replace P2 := P2.ext x3
  replace M := M.trans (Mut.of_ext x3)
  have l2' := P2.1
  have hs2 := M2.size
  have HX := Lib.hid hx
  clear x3 oD hlt hr hr9 hLs M2 C1 h
  go_upto_region 3 with (fail)
  generalize w2.alloc (Obj.cells #[.slice da (logD L).length dc] 38) = w3 at *
  have h24 : w.heap.size < w2.heap.size := by omega
  generalize w2.heap.size = B4 at *
  have z4 := P4.2.1 0 _ rfl
  have hfz : (frsT L).size ≤ 20000 := by omega
  clear hF
  by_cases hA : L ≠ [] ∧ x < 3
  · obtain ⟨hL, hx3⟩ := hA
    have hp := frsT_pos hL
    have e0 := logD_some hL
    have hD : (logD L).length = 1 := by rw [e0]; rfl
    rw [hD] at hne P4 z4 hD1 ⊢
    replace OD := Lib.hid (show w3.ownsRow (w.heap.size + 1) 113 3 (.slice da 1 dc) 1 ([⟨logT, frsT L, (frsT L).size⟩].flatMap Fil.cells) by have := OD.out; rw [hD, e0] at this; exact this)
    clear e0 hD hD1
    obtain ⟨n, rfl⟩ := Int.eq_ofNat_of_zero_le hx.1
    obtain ⟨dg, dcc, hdv⟩ := own_form OD.out (by omega)
    injection hdv with v1 v2 v3
    subst v1 v3
    clear v2
    have c0 : w3.cell? ⟨dg, 0, none⟩ = some (.string logT) := OD.out.cellAt 0 (by omega)
    have c1 : w3.cell? ⟨dg, 1, none⟩ = some (.string (frsT L)) := OD.out.cellAt 1 (by omega)
    have c2 : w3.cell? ⟨dg, 2, none⟩ = some (.int .i64 (frsT L).size) := OD.out.cellAt 2 (by omega)
    have P5 := Bx.new w3 #[.string logT, .string (frsT L), .int .i64 (frsT L).size] 113
    have x5 : Ext w3 (w3.alloc (Obj.cells #[.string logT, .string (frsT L), .int .i64 (frsT L).size] 113)) := (Ext.refl w3).alloc _
    have l42 := P4.1
    have l32 := P2.1
    replace P2 := P2.ext x5
    replace P4 := P4.ext x5
    replace M := M.trans (Mut.of_ext x5)
    generalize frsT L = T at *
    have hx3' : (n : Int) < 3 := hx3
    clear x5
    go_upto_region 5 with (fail)
    generalize w3.alloc (Obj.cells #[.string logT, .string T, .int .i64 T.size] 113) = w5 at *
    generalize w3.heap.size = B5 at *
    clear c0 c1 c2 z4 OD
    have z51 := P5.2.1 1 _ rfl
    have z52 := P5.2.1 2 _ rfl
    have f51 := P5.2.2 1
    have f52 := P5.2.2 2
    have i1 : (0 : Int) ≤ (T.size : Int) - n := by omega
    have i2 : (T.size : Int) - n ≤ T.size := by omega
    have hsub : ((T.size : Int) - n).toNat = T.size - n := by omega
    have HSB := Lib.hid hsub
    clear hsub
    have X5 := (P5.set 1 (.string (T.extract 0 (T.size - n))) (by simp)).set 2 (.int .i64 0) (by simp)
    have P25 := (P2.far (c := B5) (by omega) 1 (.string (T.extract 0 (T.size - n)))).far (c := B5) (by omega) 2 (.int .i64 0)
    have P45 := (P4.far (c := B5) (by omega) 1 (.string (T.extract 0 (T.size - n)))).far (c := B5) (by omega) 2 (.int .i64 0)
    have M5 : Mut b w ((w5.setCell ⟨B5, 1, none⟩ (.string (T.extract 0 (T.size - n)))).setCell ⟨B5, 2, none⟩ (.int .i64 0)) := (M.setNew (by dsimp only; omega) _).setNew (by dsimp only; omega) _
    go_upto_region 7 with (fail)
    generalize (w5.setCell ⟨B5, 1, none⟩ (.string (T.extract 0 (T.size - n)))).setCell ⟨B5, 2, none⟩ (.int .i64 0) = w6 at *
    clear z51 z52 f51 f52 P2 P4 P5 M
    have P2 := P25
    have P4 := P45
    have M := M5
    have z50 := X5.2.1 0 _ rfl
    have z51 := X5.2.1 1 _ rfl
    have z52 := X5.2.1 2 _ rfl
    have x7 : Ext w6 (w6.alloc (Obj.cells #[.string logT, .string (T.extract 0 (T.size - n)), .int .i64 0] 113)) := (Ext.refl w6).alloc _
    have hm6 := M.size
    have OWN := Lib.hid (World.ownsRow_lit (base := w.heap.size + 1) (e := 113) (size := 3) w6 #[.string logT, .string (T.extract 0 (T.size - n)), .int .i64 0] 1 (by have := P2.1; omega) (by decide) rfl)
    have hT' : (T.extract 0 (T.size - n)).size ≤ 20000 := by rw [ByteArray.size_extract]; omega
    generalize T.extract 0 (T.size - n) = T' at *
    replace P2 := P2.ext x7
    replace P4 := P4.ext x7
    replace M := M.trans (Mut.of_ext x7)
    clear P25 P45 M5 X5 x7
    have HFT := Lib.hid (show FilFit [⟨logT, T', 0⟩] from fit_one logT_ok hT')
    have z2 := P2.2.1 0 _ rfl
    have f2 := P2.2.2 0
    have RF := P2.set 0 (.slice (some ⟨w6.heap.size, 0, none⟩) 1 1) (by simp)
    have MF : Mut b w ((w6.alloc (Obj.cells #[.string logT, .string T', .int .i64 0] 113)).setCell ⟨w.heap.size, 0, none⟩ (.slice (some ⟨w6.heap.size, 0, none⟩) 1 1)) := M.setNew (by dsimp only; omega) _
    have OF := Lib.hid (own_mono (own_below OWN.out (p := ⟨w.heap.size, 0, none⟩) (u := .slice (some ⟨w6.heap.size, 0, none⟩) 1 1) (by dsimp only; omega)) (Nat.le_succ w.heap.size))
    clear OWN P4
    go_wp2
    generalize (w6.alloc (Obj.cells #[.string logT, .string T', .int .i64 0] 113)).setCell ⟨w.heap.size, 0, none⟩ (.slice (some ⟨w6.heap.size, 0, none⟩) 1 1) = WF at *
    have k0 := RF.2.1 0 _ rfl
    refine bodyPost_ret (v := .agg #[.slice (some ⟨w6.heap.size, 0, none⟩) 1 1]) (by simp [results, Try.results57, go_sem, k0]) rfl ?_
    exact ⟨[⟨logT, T', 0⟩], some ⟨w6.heap.size, 0, none⟩, 1, rfl, HFT.out, OF.out, MF⟩
  · have hnA : ¬ (0 < ((logD L).length : Int) ∧ x < 3) := by
      intro hh
      refine hA ⟨?_, hh.2⟩
      intro e
      subst e
      exact absurd hh.1 (by decide)
    clear hA
    have hx0 := hx.1
    generalize hXS : logD L = XS at *
    have HXS := Lib.hid hXS
    clear hXS
    by_cases hN : 0 < XS.length
    · have hx3 : ¬ x < 3 := fun h => hnA ⟨by omega, h⟩
      have d0 : decide ((0 : Int) < XS.length) = true := decide_eq_true (by omega)
      by_cases h3 : x = 3
      · have h3' : (x == 3) = true := by rw [h3]; rfl
        have h4' : (x == 4) = false := by rw [h3]; rfl
        clear h3 hx hx0
        have OZ : (w3.alloc (Obj.cells #[] 113)).ownsRow w3.heap.size 113 3 (.slice (some ⟨w3.heap.size, 0, none⟩) 0 0) 0 [] := World.ownsRow_lit w3 #[] 0 (Nat.le_refl _) (Nat.zero_le _) rfl
        have xz : Ext w3 (w3.alloc (Obj.cells #[] 113)) := (Ext.refl w3).alloc _
        have so := own_solid OD.out
        have hb4 := P4.1
        go_wp2_with (at_builtin; refine wpList_append_any rfl (.tmp 37) (.tmp 39) 36 rfl w3.heap.size 113 i0 _ 3 40 Try.underlying36 hi hz0 hz1 hz2 rfl (by decide) _ 0 [] rfl OZ (.slice da XS.length dc) XS.length (XS.flatMap Fil.cells) rfl (Row.ext (Row.of_owns OD.out) xz) so (fil_one XS) ?c3 ?c4 ?c5 ?_)
        case c3 => unfold maxLen; omega
        case c4 => omega
        all_goals (try (case c5 => first | omega | (rw [World.size_alloc]; omega)))
        intro v' w4 own4 hgrow
        have hgo : ∀ q, (Value.slice (some ⟨w3.heap.size, 0, none⟩) 0 0).ownBlock = some q → q = w3.heap.size := fun q e => by injection e with e; exact e.symm
        replace P2 := (P2.ext xz).grew hgrow (fun e => by have := hgo _ e; omega)
        replace P4 := (P4.ext xz).grew hgrow (fun e => by have := hgo _ e; omega)
        replace M := (M.trans (Mut.of_ext xz)).grown hgrow (fun q e => by have := hgo _ e; have := M.size; omega)
        obtain ⟨a4, c4, rfl⟩ := own_any own4
        have HO4 := Lib.hid own4
        have hl4 := own_lt own4
        have h34 : w3.heap.size ≤ w4.heap.size := by have := hgrow.size; rw [World.size_alloc] at this; omega
        have hs4 := P2.1
        clear own4 hgrow OZ xz z4 so
        go_wp2_with (at_builtin; refine wpList_append_own_at _ rfl (.tmp 40) (.tmp 42) 36 rfl w3.heap.size 113 i0 _ 3 40 Try.underlying36 hi hz0 hz1 hz2 rfl (by decide) _ _ _ rfl (own_alloc HO4.out _) ⟨w4.heap.size, 0, none⟩ 1 1 [.string aT, .string ⟨#[]⟩, .int .i64 5] rfl rfl ?d1 ?d2 ?d3 ?d4 ?d5 ?_)
        case d1 => exact World.news_of_block (heap_alloc_new w4 (Obj.cells #[.string aT, .string ⟨#[]⟩, .int .i64 5] 113))
        case d2 => intro u hu; simp at hu; rcases hu with rfl | rfl | rfl <;> rfl
        case d3 => unfold maxLen; omega
        case d4 => omega
        all_goals (try (case d5 => first | omega | (rw [World.size_alloc]; omega)))
        intro v' w5 own5 hgrow _ hown
        have xa : Ext w4 (w4.alloc (Obj.cells #[.string aT, .string ⟨#[]⟩, .int .i64 5] 113)) := (Ext.refl w4).alloc _
        have hfar : ∀ q, q < w3.heap.size → (Value.slice a4 XS.length c4).ownBlock ≠ some q := fun q hq e => by have := (hl4 q e).1; omega
        replace P2 := (P2.ext xa).grew hgrow (hfar _ (by omega))
        replace P4 := (P4.ext xa).grew hgrow (hfar _ hb4)
        replace M := (M.trans (Mut.of_ext xa)).grown hgrow (fun q e => by have := (hl4 q e).1; omega)
        obtain ⟨g5, c5, rfl⟩ := own_form own5 (by omega)
        have hg5 := (own_lt own5 g5 rfl).1
        rw [show XS.flatMap Fil.cells ++ [Value.string aT, .string ⟨#[]⟩, .int .i64 5] = (XS ++ [(⟨aT, ⟨#[]⟩, 5⟩ : Fil)]).flatMap Fil.cells by simp [Fil.cells]] at own5
        have OWN0 := Lib.hid (own_mono (own_below own5 (p := ⟨B4, 0, none⟩) (u := .slice (some ⟨g5, 0, none⟩) (XS.length + 1) c5) (by dsimp only; omega)) (show w.heap.size + 1 ≤ w3.heap.size by omega))
        have z4 := P4.2.1 0 _ rfl
        have f4 := P4.2.2 0
        have P2' := P2.far (c := B4) (by omega) 0 (.slice (some ⟨g5, 0, none⟩) (XS.length + 1) c5)
        have P4' := P4.set 0 (.slice (some ⟨g5, 0, none⟩) (XS.length + 1) c5) (by simp)
        have M' : Mut b w (w5.setCell ⟨B4, 0, none⟩ (.slice (some ⟨g5, 0, none⟩) (XS.length + 1) c5)) := M.setNew (by dsimp only; omega) _
        have HY2 := Lib.hid (show FilFit (XS ++ [⟨aT, ⟨#[]⟩, 5⟩]) by rw [← HXS.out]; exact fit_two hfz (by decide) (by decide))
        clear own5 hgrow hown OD
        go_upto_region 12 with (fail)
        generalize w5.setCell ⟨B4, 0, none⟩ (.slice (some ⟨g5, 0, none⟩) (XS.length + 1) c5) = w6 at *
        clear z4 f4 P2 P4 M
        have P2 := P2'
        have P4 := P4'
        have M := M'
        have OWN := OWN0
        have z4 := P4.2.1 0 _ rfl
        have z2 := P2.2.1 0 _ rfl
        have f2 := P2.2.2 0
        have RF := P2.set 0 (.slice (some ⟨g5, 0, none⟩) (XS.length + 1) c5) (by simp)
        have MF : Mut b w (w6.setCell ⟨w.heap.size, 0, none⟩ (.slice (some ⟨g5, 0, none⟩) (XS.length + 1) c5)) := M.setNew (by dsimp only; omega) _
        have OF := Lib.hid (own_mono (own_below OWN.out (p := ⟨w.heap.size, 0, none⟩) (u := .slice (some ⟨g5, 0, none⟩) (XS.length + 1) c5) (by dsimp only; omega)) (Nat.le_succ w.heap.size))
        clear OWN P4
        go_wp2
        generalize w6.setCell ⟨w.heap.size, 0, none⟩ (.slice (some ⟨g5, 0, none⟩) (XS.length + 1) c5) = WF at *
        have k0 := RF.2.1 0 _ rfl
        refine bodyPost_ret (v := .agg #[.slice (some ⟨g5, 0, none⟩) (XS.length + 1) c5]) (by simp [results, Try.results57, go_sem, k0]) rfl ?_
        have HN := Lib.hid (show (XS ++ [(⟨aT, ⟨#[]⟩, 5⟩ : Fil)]).length = XS.length + 1 by simp)
        exact ⟨XS ++ [(⟨aT, ⟨#[]⟩, 5⟩ : Fil)], some ⟨g5, 0, none⟩, c5, by rw [HN.out], HY2.out, by rw [OwnFls, HN.out]; exact OF.out, MF⟩
      · have h3' : (x == 3) = false := beq_eq_false_iff_ne.2 h3
        by_cases h4 : x = 4
        · have h4' : (x == 4) = true := by rw [h4]; rfl
          clear h3 h4 hx hx0
          have HYS := Lib.hid (show putF XS ⟨newT, (⟨#[]⟩ : ByteArray) ++ xT, 0⟩ = XS ++ [⟨newT, (⟨#[]⟩ : ByteArray) ++ xT, 0⟩] by rw [← HXS.out]; exact putF_new L _ _)
          have hx1 : ((⟨#[]⟩ : ByteArray) ++ xT).size = 1 := rfl
          have HY1 := Lib.hid (show diskOk (putF XS ⟨newT, (⟨#[]⟩ : ByteArray) ++ xT, 0⟩) = true by rw [HYS.out, ← HXS.out]; exact diskOk_two hfz (by omega) (by omega))
          have HY2 := Lib.hid (show FilFit (putF XS ⟨newT, (⟨#[]⟩ : ByteArray) ++ xT, 0⟩) by rw [HYS.out, ← HXS.out]; exact fit_two hfz (by decide) (by dsimp only; omega))
          have HO1 := Lib.hid (show diskOk XS = true by rw [← HXS.out]; exact st0_ok hfz)
          have HF1 := Lib.hid (show FilFit XS by rw [← HXS.out]; exact st0_fit hfz)
          have HA1 := Lib.hid (show fAt XS newT = -1 by rw [← HXS.out]; exact fAt_newLog L)
          have FD := Lib.hid (show Fls _ _ _ from Row.of_owns OD.out)
          have hb4 := P4.1
          go_wp2_with fail
          refine (spec_DoAct_new _ XS newT xT (by decide) HA1.out _ FD.out HF1.out HO1.out newT_ok HY1.out HY2.out (by omega)).mono ?_
          rintro e w4 ⟨oa, oc, rfl, ow, x4⟩
          replace P2 := P2.ext x4
          replace P4 := P4.ext x4
          replace M := M.trans (Mut.of_ext x4)
          generalize hys : putF XS ⟨newT, (⟨#[]⟩ : ByteArray) ++ xT, 0⟩ = YS at *
          clear hys HYS HY1 HO1 HF1 HA1 FD OD z4
          have OWN0 := Lib.hid (own_mono (own_below ow (p := ⟨B4, 0, none⟩) (u := .slice oa YS.length oc) (by dsimp only; omega)) (show w.heap.size + 1 ≤ w3.heap.size by omega))
          have z4 := P4.2.1 0 _ rfl
          have f4 := P4.2.2 0
          have P2' := P2.far (c := B4) (by omega) 0 (.slice oa YS.length oc)
          have P4' := P4.set 0 (.slice oa YS.length oc) (by simp)
          have M' : Mut b w (w4.setCell ⟨B4, 0, none⟩ (.slice oa YS.length oc)) := M.setNew (by dsimp only; omega) _
          clear ow
          go_upto_region 12 with (fail)
          generalize w4.setCell ⟨B4, 0, none⟩ (.slice oa YS.length oc) = w5 at *
          clear z4 f4 P2 P4 M
          have P2 := P2'
          have P4 := P4'
          have M := M'
          have OWN := OWN0
          have z4 := P4.2.1 0 _ rfl
          have z2 := P2.2.1 0 _ rfl
          have f2 := P2.2.2 0
          have RF := P2.set 0 (.slice oa YS.length oc) (by simp)
          have MF : Mut b w (w5.setCell ⟨w.heap.size, 0, none⟩ (.slice oa YS.length oc)) := M.setNew (by dsimp only; omega) _
          have OF := Lib.hid (own_mono (own_below OWN.out (p := ⟨w.heap.size, 0, none⟩) (u := .slice oa YS.length oc) (by dsimp only; omega)) (Nat.le_succ w.heap.size))
          clear OWN P4
          go_wp2
          generalize w5.setCell ⟨w.heap.size, 0, none⟩ (.slice oa YS.length oc) = WF at *
          have k0 := RF.2.1 0 _ rfl
          refine bodyPost_ret (v := .agg #[.slice oa YS.length oc]) (by simp [results, Try.results57, go_sem, k0]) rfl ?_
          have HN := Lib.hid (show (YS).length = YS.length from rfl)
          exact ⟨YS, oa, oc, by rw [HN.out], HY2.out, by rw [OwnFls, HN.out]; exact OF.out, MF⟩
        · have h4' : (x == 4) = false := beq_eq_false_iff_ne.2 h4
          have OWN := OD
          have HFT := Lib.hid (st0_fit hfz)
          rw [HXS.out] at HFT
          clear OD z4
          have z4 := P4.2.1 0 _ rfl
          have z2 := P2.2.1 0 _ rfl
          have f2 := P2.2.2 0
          have RF := P2.set 0 (.slice da XS.length dc) (by simp)
          have MF : Mut b w (w3.setCell ⟨w.heap.size, 0, none⟩ (.slice da XS.length dc)) := M.setNew (by dsimp only; omega) _
          have OF := Lib.hid (own_mono (own_below OWN.out (p := ⟨w.heap.size, 0, none⟩) (u := .slice da XS.length dc) (by dsimp only; omega)) (Nat.le_succ w.heap.size))
          clear OWN P4
          go_wp2
          generalize w3.setCell ⟨w.heap.size, 0, none⟩ (.slice da XS.length dc) = WF at *
          have k0 := RF.2.1 0 _ rfl
          refine bodyPost_ret (v := .agg #[.slice da XS.length dc]) (by simp [results, Try.results57, go_sem, k0]) rfl ?_
          have HN := Lib.hid (show (XS).length = XS.length from rfl)
          exact ⟨XS, da, dc, by rw [HN.out], HFT.out, by rw [OwnFls, HN.out]; exact OF.out, MF⟩
    · have d0 : decide ((0 : Int) < XS.length) = false := decide_eq_false (by omega)
      by_cases h3 : x = 3
      · have h3' : (x == 3) = true := by rw [h3]; rfl
        have h4' : (x == 4) = false := by rw [h3]; rfl
        clear h3 hx hx0
        have OZ : (w3.alloc (Obj.cells #[] 113)).ownsRow w3.heap.size 113 3 (.slice (some ⟨w3.heap.size, 0, none⟩) 0 0) 0 [] := World.ownsRow_lit w3 #[] 0 (Nat.le_refl _) (Nat.zero_le _) rfl
        have xz : Ext w3 (w3.alloc (Obj.cells #[] 113)) := (Ext.refl w3).alloc _
        have so := own_solid OD.out
        have hb4 := P4.1
        go_wp2_with (at_builtin; refine wpList_append_any rfl (.tmp 37) (.tmp 39) 36 rfl w3.heap.size 113 i0 _ 3 40 Try.underlying36 hi hz0 hz1 hz2 rfl (by decide) _ 0 [] rfl OZ (.slice da XS.length dc) XS.length (XS.flatMap Fil.cells) rfl (Row.ext (Row.of_owns OD.out) xz) so (fil_one XS) ?t3 ?t4 ?t5 ?_)
        case t3 => unfold maxLen; omega
        case t4 => omega
        all_goals (try (case t5 => first | omega | (rw [World.size_alloc]; omega)))
        intro v' w4 own4 hgrow
        have hgo : ∀ q, (Value.slice (some ⟨w3.heap.size, 0, none⟩) 0 0).ownBlock = some q → q = w3.heap.size := fun q e => by injection e with e; exact e.symm
        replace P2 := (P2.ext xz).grew hgrow (fun e => by have := hgo _ e; omega)
        replace P4 := (P4.ext xz).grew hgrow (fun e => by have := hgo _ e; omega)
        replace M := (M.trans (Mut.of_ext xz)).grown hgrow (fun q e => by have := hgo _ e; have := M.size; omega)
        obtain ⟨a4, c4, rfl⟩ := own_any own4
        have HO4 := Lib.hid own4
        have hl4 := own_lt own4
        have h34 : w3.heap.size ≤ w4.heap.size := by have := hgrow.size; rw [World.size_alloc] at this; omega
        have hs4 := P2.1
        clear own4 hgrow OZ xz z4 so
        go_wp2_with (at_builtin; refine wpList_append_own_at _ rfl (.tmp 40) (.tmp 42) 36 rfl w3.heap.size 113 i0 _ 3 40 Try.underlying36 hi hz0 hz1 hz2 rfl (by decide) _ _ _ rfl (own_alloc HO4.out _) ⟨w4.heap.size, 0, none⟩ 1 1 [.string aT, .string ⟨#[]⟩, .int .i64 5] rfl rfl ?u1 ?u2 ?u3 ?u4 ?u5 ?_)
        case u1 => exact World.news_of_block (heap_alloc_new w4 (Obj.cells #[.string aT, .string ⟨#[]⟩, .int .i64 5] 113))
        case u2 => intro u hu; simp at hu; rcases hu with rfl | rfl | rfl <;> rfl
        case u3 => unfold maxLen; omega
        case u4 => omega
        all_goals (try (case u5 => first | omega | (rw [World.size_alloc]; omega)))
        intro v' w5 own5 hgrow _ hown
        have xa : Ext w4 (w4.alloc (Obj.cells #[.string aT, .string ⟨#[]⟩, .int .i64 5] 113)) := (Ext.refl w4).alloc _
        have hfar : ∀ q, q < w3.heap.size → (Value.slice a4 XS.length c4).ownBlock ≠ some q := fun q hq e => by have := (hl4 q e).1; omega
        replace P2 := (P2.ext xa).grew hgrow (hfar _ (by omega))
        replace P4 := (P4.ext xa).grew hgrow (hfar _ hb4)
        replace M := (M.trans (Mut.of_ext xa)).grown hgrow (fun q e => by have := (hl4 q e).1; omega)
        obtain ⟨g5, c5, rfl⟩ := own_form own5 (by omega)
        have hg5 := (own_lt own5 g5 rfl).1
        rw [show XS.flatMap Fil.cells ++ [Value.string aT, .string ⟨#[]⟩, .int .i64 5] = (XS ++ [(⟨aT, ⟨#[]⟩, 5⟩ : Fil)]).flatMap Fil.cells by simp [Fil.cells]] at own5
        have OWN0 := Lib.hid (own_mono (own_below own5 (p := ⟨B4, 0, none⟩) (u := .slice (some ⟨g5, 0, none⟩) (XS.length + 1) c5) (by dsimp only; omega)) (show w.heap.size + 1 ≤ w3.heap.size by omega))
        have z4 := P4.2.1 0 _ rfl
        have f4 := P4.2.2 0
        have P2' := P2.far (c := B4) (by omega) 0 (.slice (some ⟨g5, 0, none⟩) (XS.length + 1) c5)
        have P4' := P4.set 0 (.slice (some ⟨g5, 0, none⟩) (XS.length + 1) c5) (by simp)
        have M' : Mut b w (w5.setCell ⟨B4, 0, none⟩ (.slice (some ⟨g5, 0, none⟩) (XS.length + 1) c5)) := M.setNew (by dsimp only; omega) _
        have HY2 := Lib.hid (show FilFit (XS ++ [⟨aT, ⟨#[]⟩, 5⟩]) by rw [← HXS.out]; exact fit_two hfz (by decide) (by decide))
        clear own5 hgrow hown OD
        go_upto_region 12 with (fail)
        generalize w5.setCell ⟨B4, 0, none⟩ (.slice (some ⟨g5, 0, none⟩) (XS.length + 1) c5) = w6 at *
        clear z4 f4 P2 P4 M
        have P2 := P2'
        have P4 := P4'
        have M := M'
        have OWN := OWN0
        have z4 := P4.2.1 0 _ rfl
        have z2 := P2.2.1 0 _ rfl
        have f2 := P2.2.2 0
        have RF := P2.set 0 (.slice (some ⟨g5, 0, none⟩) (XS.length + 1) c5) (by simp)
        have MF : Mut b w (w6.setCell ⟨w.heap.size, 0, none⟩ (.slice (some ⟨g5, 0, none⟩) (XS.length + 1) c5)) := M.setNew (by dsimp only; omega) _
        have OF := Lib.hid (own_mono (own_below OWN.out (p := ⟨w.heap.size, 0, none⟩) (u := .slice (some ⟨g5, 0, none⟩) (XS.length + 1) c5) (by dsimp only; omega)) (Nat.le_succ w.heap.size))
        clear OWN P4
        go_wp2
        generalize w6.setCell ⟨w.heap.size, 0, none⟩ (.slice (some ⟨g5, 0, none⟩) (XS.length + 1) c5) = WF at *
        have k0 := RF.2.1 0 _ rfl
        refine bodyPost_ret (v := .agg #[.slice (some ⟨g5, 0, none⟩) (XS.length + 1) c5]) (by simp [results, Try.results57, go_sem, k0]) rfl ?_
        have HN := Lib.hid (show (XS ++ [(⟨aT, ⟨#[]⟩, 5⟩ : Fil)]).length = XS.length + 1 by simp)
        exact ⟨XS ++ [(⟨aT, ⟨#[]⟩, 5⟩ : Fil)], some ⟨g5, 0, none⟩, c5, by rw [HN.out], HY2.out, by rw [OwnFls, HN.out]; exact OF.out, MF⟩
      · have h3' : (x == 3) = false := beq_eq_false_iff_ne.2 h3
        by_cases h4 : x = 4
        · have h4' : (x == 4) = true := by rw [h4]; rfl
          clear h3 h4 hx hx0
          have HYS := Lib.hid (show putF XS ⟨newT, (⟨#[]⟩ : ByteArray) ++ xT, 0⟩ = XS ++ [⟨newT, (⟨#[]⟩ : ByteArray) ++ xT, 0⟩] by rw [← HXS.out]; exact putF_new L _ _)
          have hx1 : ((⟨#[]⟩ : ByteArray) ++ xT).size = 1 := rfl
          have HY1 := Lib.hid (show diskOk (putF XS ⟨newT, (⟨#[]⟩ : ByteArray) ++ xT, 0⟩) = true by rw [HYS.out, ← HXS.out]; exact diskOk_two hfz (by omega) (by omega))
          have HY2 := Lib.hid (show FilFit (putF XS ⟨newT, (⟨#[]⟩ : ByteArray) ++ xT, 0⟩) by rw [HYS.out, ← HXS.out]; exact fit_two hfz (by decide) (by dsimp only; omega))
          have HO1 := Lib.hid (show diskOk XS = true by rw [← HXS.out]; exact st0_ok hfz)
          have HF1 := Lib.hid (show FilFit XS by rw [← HXS.out]; exact st0_fit hfz)
          have HA1 := Lib.hid (show fAt XS newT = -1 by rw [← HXS.out]; exact fAt_newLog L)
          have FD := Lib.hid (show Fls _ _ _ from Row.of_owns OD.out)
          have hb4 := P4.1
          go_wp2_with fail
          refine (spec_DoAct_new _ XS newT xT (by decide) HA1.out _ FD.out HF1.out HO1.out newT_ok HY1.out HY2.out (by omega)).mono ?_
          rintro e w4 ⟨oa, oc, rfl, ow, x4⟩
          replace P2 := P2.ext x4
          replace P4 := P4.ext x4
          replace M := M.trans (Mut.of_ext x4)
          generalize hys : putF XS ⟨newT, (⟨#[]⟩ : ByteArray) ++ xT, 0⟩ = YS at *
          clear hys HYS HY1 HO1 HF1 HA1 FD OD z4
          have OWN0 := Lib.hid (own_mono (own_below ow (p := ⟨B4, 0, none⟩) (u := .slice oa YS.length oc) (by dsimp only; omega)) (show w.heap.size + 1 ≤ w3.heap.size by omega))
          have z4 := P4.2.1 0 _ rfl
          have f4 := P4.2.2 0
          have P2' := P2.far (c := B4) (by omega) 0 (.slice oa YS.length oc)
          have P4' := P4.set 0 (.slice oa YS.length oc) (by simp)
          have M' : Mut b w (w4.setCell ⟨B4, 0, none⟩ (.slice oa YS.length oc)) := M.setNew (by dsimp only; omega) _
          clear ow
          go_upto_region 12 with (fail)
          generalize w4.setCell ⟨B4, 0, none⟩ (.slice oa YS.length oc) = w5 at *
          clear z4 f4 P2 P4 M
          have P2 := P2'
          have P4 := P4'
          have M := M'
          have OWN := OWN0
          have z4 := P4.2.1 0 _ rfl
          have z2 := P2.2.1 0 _ rfl
          have f2 := P2.2.2 0
          have RF := P2.set 0 (.slice oa YS.length oc) (by simp)
          have MF : Mut b w (w5.setCell ⟨w.heap.size, 0, none⟩ (.slice oa YS.length oc)) := M.setNew (by dsimp only; omega) _
          have OF := Lib.hid (own_mono (own_below OWN.out (p := ⟨w.heap.size, 0, none⟩) (u := .slice oa YS.length oc) (by dsimp only; omega)) (Nat.le_succ w.heap.size))
          clear OWN P4
          go_wp2
          generalize w5.setCell ⟨w.heap.size, 0, none⟩ (.slice oa YS.length oc) = WF at *
          have k0 := RF.2.1 0 _ rfl
          refine bodyPost_ret (v := .agg #[.slice oa YS.length oc]) (by simp [results, Try.results57, go_sem, k0]) rfl ?_
          have HN := Lib.hid (show (YS).length = YS.length from rfl)
          exact ⟨YS, oa, oc, by rw [HN.out], HY2.out, by rw [OwnFls, HN.out]; exact OF.out, MF⟩
        · have h4' : (x == 4) = false := beq_eq_false_iff_ne.2 h4
          have OWN := OD
          have HFT := Lib.hid (st0_fit hfz)
          rw [HXS.out] at HFT
          clear OD z4
          have z4 := P4.2.1 0 _ rfl
          have z2 := P2.2.1 0 _ rfl
          have f2 := P2.2.2 0
          have RF := P2.set 0 (.slice da XS.length dc) (by simp)
          have MF : Mut b w (w3.setCell ⟨w.heap.size, 0, none⟩ (.slice da XS.length dc)) := M.setNew (by dsimp only; omega) _
          have OF := Lib.hid (own_mono (own_below OWN.out (p := ⟨w.heap.size, 0, none⟩) (u := .slice da XS.length dc) (by dsimp only; omega)) (Nat.le_succ w.heap.size))
          clear OWN P4
          go_wp2
          generalize w3.setCell ⟨w.heap.size, 0, none⟩ (.slice da XS.length dc) = WF at *
          have k0 := RF.2.1 0 _ rfl
          refine bodyPost_ret (v := .agg #[.slice da XS.length dc]) (by simp [results, Try.results57, go_sem, k0]) rfl ?_
          have HN := Lib.hid (show (XS).length = XS.length from rfl)
          exact ⟨XS, da, dc, by rw [HN.out], HFT.out, by rw [OwnFls, HN.out]; exact OF.out, MF⟩
end Go.Proofs.Ytckipgijfgeghaa
