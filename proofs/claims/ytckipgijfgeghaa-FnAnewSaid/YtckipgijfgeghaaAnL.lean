/- Operations alike; the reference's reading of a log. -/
import Derived.Test.YtckipgijfgeghaaAnP
import Derived.Test.YtckipgijfgeghaaUnfS
namespace Go.Proofs.Ytckipgijfgeghaa
open Go.RowKit

set_option maxHeartbeats 800000 in
theorem laws_sameActs (v1 v2 : Value) (qs : List ActV) (w : World) (h1 : Acs w v1 qs) (h2 : Acs w v2 qs) :
    Calls Try.prog 28 #[v1, v2] w fun e w' => e = .returned (.bool true) ∧ Ext w w' := by
  obtain ⟨-, a1, c1, rfl, hc1, hm1, g1⟩ := h1
  obtain ⟨-, a2, c2, rfl, hc2, hm2, g2⟩ := h2
  unfold maxLen at hm1 hm2
  go_enter Try.func28, Try.ntmps28
  go_wp2
  go_loopw [5] (fun i wr => ∃ k : Nat, k ≤ qs.length ∧ i = .int .i64 k ∧ Ext w wr) (fun i _ => qs.length - (intOf i).toNat)
  case atStart => exact ⟨0, Nat.zero_le _, rfl, Ext.refl _⟩
  case round =>
    obtain ⟨k, hk, rfl, hx⟩ := hrel
    by_cases hlt : k < qs.length
    · rcases g1 with g1 | ⟨b1, o1, rfl, hb1, g1⟩
      · omega
      rcases g2 with g2 | ⟨b2, o2, rfl, hb2, g2⟩
      · omega
      have e0 : wr.cell? ⟨b1, o1 + k * 4, none⟩ = some (.int .i64 qs[k].kind) := (hx.cell b1 _ hb1).trans (g1 _ _ (act_c0 qs k hlt))
      have e1 : wr.cell? ⟨b1, o1 + k * 4 + 1, none⟩ = some (.string qs[k].name) := (hx.cell b1 _ hb1).trans (g1 _ _ (act_c1 qs k hlt))
      have e2 : wr.cell? ⟨b1, o1 + k * 4 + 2, none⟩ = some (.string qs[k].text) := (hx.cell b1 _ hb1).trans (g1 _ _ (act_c2 qs k hlt))
      have e3 : wr.cell? ⟨b1, o1 + k * 4 + 3, none⟩ = some (.string qs[k].to_) := (hx.cell b1 _ hb1).trans (g1 _ _ (act_c3 qs k hlt))
      have f0 : wr.cell? ⟨b2, o2 + k * 4, none⟩ = some (.int .i64 qs[k].kind) := (hx.cell b2 _ hb2).trans (g2 _ _ (act_c0 qs k hlt))
      have f1 : wr.cell? ⟨b2, o2 + k * 4 + 1, none⟩ = some (.string qs[k].name) := (hx.cell b2 _ hb2).trans (g2 _ _ (act_c1 qs k hlt))
      have f2 : wr.cell? ⟨b2, o2 + k * 4 + 2, none⟩ = some (.string qs[k].text) := (hx.cell b2 _ hb2).trans (g2 _ _ (act_c2 qs k hlt))
      have f3 : wr.cell? ⟨b2, o2 + k * 4 + 3, none⟩ = some (.string qs[k].to_) := (hx.cell b2 _ hb2).trans (g2 _ _ (act_c3 qs k hlt))
      have k1 : (0 : Int) ≤ k := by omega
      have k2 : (k : Int) < qs.length := by omega
      have hz := hx.size
      clear g1 g2
      go_wp2
      go_quiet (fail)
      go_wp2
      go_roundw
      case rel => exact ⟨k + 1, by omega, by go_num, (by repeat (first | (with_reducible first | exact Ext.refl _ | assumption | apply Ext.alloc | apply Ext.drew | apply Ext.drewN | refine Ext.setCell ?_ ?_ _ | refine Ext.trans ?_ (by assumption)) | (show _ ≤ _; first | omega | (dsimp only; omega) | (simp; done) | (simp; omega))))⟩
      case measure => simp [intOf]; omega
    · go_wp2
      go_ret
      exact ⟨rfl, hx⟩

set_option maxRecDepth 100000 in
set_option maxHeartbeats 1600000 in
theorem spec_LogTexts_logD (L : List ByteArray) (v : Value) (w : World) (h : Fls w v (logD L)) (hr : ∀ s ∈ L, recOk s = true) (hz : (frsT L).size ≤ 20000) (hl : L.length ≤ 30) :
    Calls Try.prog 24 #[.agg #[v], .string logT] w fun e w' => ∃ (oa : Option Addr) (oc : Nat), e = .returned (.slice oa L.length oc) ∧ Strs w' (.slice oa L.length oc) L ∧ Ext w w' := by
  obtain ⟨i0, hi, hz0, hz1, hz2⟩ := info_parts infoString
  have HR := Lib.hid hr
  have hFA : ∀ w1, Ext w w1 → Calls Try.prog 51 #[.agg #[v], .string logT] w1 fun e w' => ∃ b : Bool, e = .returned (.tuple #[.string (frsT L), .bool b]) ∧ Ext w1 w' := by
    intro w1 hx
    by_cases hL : L = []
    · subst hL
      refine ((spec_FileAt v _ logT w1 (h.ext hx)).2 (fAt_none (by simp [logD]))).mono ?_
      rintro e w' ⟨rfl, hy⟩
      exact ⟨false, rfl, hy⟩
    · have e0 := logD_some hL
      have hh : Fls w1 v [⟨logT, frsT L, (frsT L).size⟩] := by rw [← e0]; exact h.ext hx
      refine ((spec_FileAt v _ logT w1 hh).1 0 (by simp) fAt_zero).mono ?_
      rintro e w' ⟨rfl, hy⟩
      exact ⟨true, rfl, hy⟩
  have HFA := Lib.hid hFA
  have HD := Lib.hid (st0_ok hz)
  have hft := st0_fit hz
  obtain ⟨a1, c1, rfl⟩ := h.form
  have P := Bx.new w #[.slice a1 (logD L).length c1] 38
  have X : Ext w (w.alloc (Obj.cells #[.slice a1 (logD L).length c1] 38)) := (Ext.refl w).alloc _
  clear hFA hr
  go_enter Try.func24, Try.ntmps24
  go_wp2_with fail
  generalize w.alloc (Obj.cells #[.slice a1 (logD L).length c1] 38) = w0 at *
  refine (spec_DiskOk _ (logD L) _ (h.ext X) hft).mono ?_
  rw [HD.out]
  rintro e w1 ⟨rfl, x1⟩
  replace P := P.ext x1
  replace X := X.trans x1
  clear x1
  have z0 := P.2.1 0 _ rfl
  go_wp2_with fail
  refine (HFA.out _ X).mono ?_
  rintro e w2 ⟨b, rfl, x2⟩
  replace X := X.trans x2
  clear x2 z0 P
  go_wp2_with fail
  refine (spec_Unframe L _ HR.out hz hl).mono ?_
  rintro e w3 ⟨oa, oc, rfl, ow, x3⟩
  have so := own_solid ow
  have OW := Lib.hid (OwnStrs.strs ow)
  replace X := X.trans x3
  have xz : Ext w3 (w3.alloc (Obj.cells #[] 9)) := (Ext.refl _).alloc _
  have OZ : (w3.alloc (Obj.cells #[] 9)).ownsRow w3.heap.size 9 1 (.slice (some ⟨w3.heap.size, 0, none⟩) 0 0) 0 [] := World.ownsRow_lit w3 #[] 0 (Nat.le_refl _) (Nat.zero_le _) rfl
  clear ow x3
  go_wp2_with (at_builtin; refine wpList_append_any rfl (.tmp 24) (.tmp 25) 44 rfl w3.heap.size 9 i0 _ 1 16 Try.underlying44 hi hz0 hz1 hz2 rfl (by decide) _ 0 [] rfl OZ (.slice oa L.length oc) L.length (L.map Value.string) rfl (Row.ext OW.out xz) so (by intro u hu; rw [List.mem_map] at hu; obtain ⟨s, -, rfl⟩ := hu; rfl) ?c3 ?c4 ?c5 ?_)
  case c3 => unfold maxLen; omega
  case c4 => omega
  all_goals (try (case c5 => rw [World.size_alloc]; omega))
  intro v' w4 own4 hgrow
  have xg : Ext w w4 := own_ext_of (X.trans xz) OZ hgrow X.size
  obtain ⟨a', c', rfl⟩ := own_any own4
  have HO := Lib.hid own4
  clear own4 hgrow OZ xz
  go_wp2
  go_ret
  exact ⟨a', c', rfl, by have := HO.out; exact Row.of_owns this, xg⟩
end Go.Proofs.Ytckipgijfgeghaa
