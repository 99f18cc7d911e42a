/- The records of a log, the reference. -/
import Derived.Test.YtckipgijfgeghaaFrS
import Derived.Test.YtckipgijfgeghaaFrT
import Derived.Test.YtckipgijfgeghaaRwV
import Derived.Test.YtckipgijfgeghaaApp
namespace Go.Proofs.Ytckipgijfgeghaa
open Go.RowKit

theorem fr_extract {t s : ByteArray} {a : Nat} (h : FrAt t.data.toList a s) : t.extract a (a + (frB s).length) = frT s := by
  obtain ⟨-, q, e⟩ := h
  apply ba_ext
  rw [ba_extract, e, frT_list, show a + (frB s).length - a = (frB s).length by omega, List.take_left']
  rfl
theorem frs_at {L : List ByteArray} {k : Nat} (hk : k < L.length) (hr : ∀ s ∈ L, recOk s = true) : FrAt (frsT L).data.toList (frsB (L.take k)).length L[k] := by
  refine ⟨hr _ (List.getElem_mem hk), frsB (L.drop (k + 1)), ?_⟩
  rw [frsT_list]
  have e : frsB L = frsB (L.take k) ++ (frB L[k] ++ frsB (L.drop (k + 1))) := by
    have h1 : L = L.take k ++ (L[k] :: L.drop (k + 1)) := by rw [List.getElem_cons_drop hk, List.take_append_drop]
    have h2 : frsB (L.take k ++ (L[k] :: L.drop (k + 1))) = frsB (L.take k) ++ (frB L[k] ++ frsB (L.drop (k + 1))) := by rw [frsB, List.flatMap_append, List.flatMap_cons]; rfl
    rw [← h2, ← h1]
  rw [e, List.drop_left']
  rfl
theorem frsB_take_succ {L : List ByteArray} {k : Nat} (hk : k < L.length) : (frsB (L.take (k + 1))).length = (frsB (L.take k)).length + (frB L[k]).length := by
  rw [List.take_succ_eq_append_getElem hk, frsB, List.flatMap_append, List.length_append]
  simp [frsB]
set_option maxRecDepth 100000 in
set_option maxHeartbeats 3200000 in
theorem spec_Unframe (L : List ByteArray) (w : World) (hr : ∀ s ∈ L, recOk s = true) (hz : (frsT L).size ≤ 20000) (hl : L.length ≤ 30) :
    Calls Try.prog 52 #[.string (frsT L)] w fun e w' => ∃ (oa : Option Addr) (oc : Nat), e = .returned (.tuple #[.slice oa L.length oc, .int .i64 (frsT L).size]) ∧ OwnStrs w' w.heap.size (.slice oa L.length oc) L ∧ Ext w w' := by
  obtain ⟨i0, hi, hz0, hz1, hz2⟩ := info_parts infoString
  have HR := Lib.hid hr
  have HZ := Lib.hid (frsT_size L)
  have hd0 : decide ((20000 : Int) < (frsT L).size) = false := by simp; omega
  clear hr
  go_enter Try.func52, Try.ntmps52
  go_wp2
  go_loopw [4, 5, 6, 7, 8, 9, 10, 11] (fun v i _ _ _ _ _ _ wr => ∃ k : Nat, k ≤ L.length ∧ i = .int .i64 (frsB (L.take k)).length ∧ wr.ownsRow w.heap.size 9 1 v k ((L.take k).map Value.string) ∧ Ext w wr) (fun _ i _ _ _ _ _ _ _ => (frsT L).size - (intOf i).toNat)
  case atStart => exact ⟨0, Nat.zero_le _, rfl, World.ownsRow_lit w #[] 0 (Nat.le_refl _) (Nat.zero_le _) rfl, (by repeat (first | (with_reducible first | exact Ext.refl _ | assumption | apply Ext.alloc | apply Ext.drew | apply Ext.drewN | refine Ext.setCell ?_ ?_ _ | refine Ext.trans ?_ (by assumption)) | (show _ ≤ _; first | omega | (dsimp only; omega) | (simp; done) | (simp; omega))))⟩
  case round =>
    obtain ⟨k, hk, rfl, hown, hx⟩ := hrel
    obtain ⟨oa, oc, rfl⟩ := own_any hown
    have HO := Lib.hid hown
    have hsz := hx.size
    clear hown
    by_cases hlt : k < L.length
    · have hfa := frs_at hlt HR.out
      have hex := fr_extract hfa
      have hle := hfa.lt
      rw [ba_len] at hle
      obtain ⟨f1, f2, f3, f4, f5, f6, f7⟩ := fr_at hfa
      have hrk := HR.out _ (List.getElem_mem hlt)
      have hsk := recOk_true.1 hrk
      have hbl := frB_len L[k]
      have HS := Lib.hid (frsB_take_succ hlt)
      have HTK := Lib.hid (show (L.take (k + 1)).map Value.string = (L.take k).map Value.string ++ [.string L[k]] by rw [List.take_succ_eq_append_getElem hlt, List.map_append]; rfl)
      generalize L[k] = s at *
      generalize (frsB (L.take k)).length = a at *
      generalize hvl : (varB s.size).length = vl at *
      have HF1 := Lib.hid f1
      have HF2 := Lib.hid f2
      have HF3 := Lib.hid f3
      have HF6 := Lib.hid f6
      have HEX := Lib.hid hex
      have HRK := Lib.hid hrk
      have ha1 : (a : Int) < (frsT L).size := by omega
      have hbl2 : (frB s).length = vl + 4 + s.size := hbl
      rw [hbl2] at HEX HS hle
      clear f1 f2 f3 f4 f6 f7 hex hrk hfa hbl hbl2 hvl
      rw [show rvE (frsT L) a = a + vl from HF3.out] at f5
      rw [show rvE (frsT L) a = a + vl from HF3.out] at HF6
      generalize frsT L = T at *
      go_wp2_with fail
      refine (spec_ReadVar T a _ (by omega)).mono ?_
      rw [HF1.out, HF2.out, HF3.out]
      rintro e w1 ⟨rfl, x1⟩
      have HX2 := Lib.hid (show T.extract a (a + vl + 4 + s.size) = frT s by rw [show a + vl + 4 + s.size = a + (vl + 4 + s.size) by omega]; exact HEX.out)
      go_wp2_with fail
      rw [HF6.out]
      refine (spec_Frame s _ (by omega)).mono ?_
      rw [HRK.out, if_pos rfl]
      rintro e w2 ⟨rfl, x2⟩
      have hc : ((frT s).toList == (T.extract a (a + vl + 4 + s.size)).toList) = true := by rw [HX2.out]; simp
      have hc2 : ((frT s).toList != (T.extract a (a + vl + 4 + s.size)).toList) = false := by rw [HX2.out]; simp
      have X2 := x1.trans x2
      have O2 := Lib.hid (own_ext HO.out X2)
      have XX := hx.trans X2
      have hsx := XX.size
      clear x1 x2 X2 HO hx
      go_wp2_with (at_builtin; refine wpList_append_own _ rfl (.tmp 69) (.tmp 71) 44 rfl w.heap.size 9 i0 (.string ⟨#[]⟩) 1 16 Try.underlying44 hi hz0 hz1 hz2 rfl (by decide) _ _ _ rfl (own_alloc O2.out _) ⟨w2.heap.size, 0, none⟩ 1 1 [.string s] rfl rfl ?c1 ?c2 ?c3 ?c4 ?c5 ?_)
      case c1 => exact World.news_of_block (heap_alloc_new w2 (Obj.cells #[.string s] 9))
      case c2 => intro u hu; simp at hu; subst hu; rfl
      case c3 => unfold maxLen; omega
      case c4 => omega
      case c5 => rw [World.size_alloc]; omega
      intro v' w3 own' hgrow _
      have xg : Ext w w3 := own_ext_of (XX.alloc _) (own_alloc O2.out _) hgrow (Nat.le_refl _)
      obtain ⟨oa', oc', rfl⟩ := own_any own'
      have HO3 := Lib.hid own'
      clear own' hgrow hc hc2
      go_wp2
      go_roundw
      case rel => exact ⟨k + 1, by omega, by rw [HS.out]; go_num, by have := HO3.out; rw [HTK.out, List.map_take]; exact this, xg⟩
      case measure => simp [intOf]; omega
    · obtain rfl : k = L.length := by omega
      have hTL : L.take L.length = L := List.take_length
      rw [hTL] at *
      have hge : ¬ ((frsB L).length : Int) < (frsT L).size := by have := HZ.out; omega
      have HZI := Lib.hid (show ((frsB L).length : Int) = (frsT L).size by have := HZ.out; omega)
      clear hTL
      go_wp2
      go_ret2
      exact ⟨oa, oc, by rw [HZI.out]; rfl, by have := HO.out; rw [List.take_length] at this; exact this, hx⟩

set_option maxHeartbeats 800000 in
theorem spec_FileAt (v : Value) (xs : List Fil) (n : ByteArray) (w : World) (h : Fls w v xs) :
    (∀ k (hk : k < xs.length), fAt xs n = k → Calls Try.prog 51 #[.agg #[v], .string n] w fun e w' => e = .returned (.tuple #[.string xs[k].text, .bool true]) ∧ Ext w w') ∧
    (fAt xs n = -1 → Calls Try.prog 51 #[.agg #[v], .string n] w fun e w' => e = .returned (.tuple #[.string ⟨#[]⟩, .bool false]) ∧ Ext w w') := by
  obtain ⟨a1, c1, rfl⟩ := h.form
  constructor
  · intro k hk he
    have HE := Lib.hid he
    clear he
    obtain ⟨-, a2, c2, hv, hc1, hm1, g1⟩ := id h
    injection hv with e1 e2 e3
    subst e1 e3
    unfold maxLen at hm1
    rcases g1 with g1 | ⟨b1, o1, rfl, hb1, g1⟩
    · omega
    have e4 := g1 _ _ (fil_c1 xs k hk)
    clear g1
    go_enter Try.func51, Try.ntmps51
    go_wp2_with fail
    refine (spec_l06At _ xs n _ (h.ext (by repeat (first | (with_reducible first | exact Ext.refl _ | assumption | apply Ext.alloc | apply Ext.drew | apply Ext.drewN | refine Ext.setCell ?_ ?_ _ | refine Ext.trans ?_ (by assumption)) | (show _ ≤ _; first | omega | (dsimp only; omega) | (simp; done) | (simp; omega)))))).mono ?_
    rw [HE.out]
    rintro e w1 ⟨rfl, x1⟩
    have x0 : Ext w w1 := (by repeat (first | (with_reducible first | exact Ext.refl _ | assumption | apply Ext.alloc | apply Ext.drew | apply Ext.drewN | refine Ext.setCell ?_ ?_ _ | refine Ext.trans ?_ (by assumption)) | (show _ ≤ _; first | omega | (dsimp only; omega) | (simp; done) | (simp; omega))))
    have z1 : w1.cell? ⟨w.heap.size, 0, none⟩ = some (.slice (some ⟨b1, o1, none⟩) xs.length c1) := (x1.cell _ 0 (by rw [World.size_alloc]; omega)).trans (by simp)
    have e5 : w1.cell? ⟨b1, o1 + k * 3 + 1, none⟩ = some (.string xs[k].text) := (x0.cell b1 _ hb1).trans e4
    have k0 : decide ((k : Int) < 0) = false := by simp
    have k1 : (0 : Int) ≤ k := by omega
    have k2 : (k : Int) < xs.length := by omega
    clear e4 x1
    go_wp2
    go_ret2
    exact ⟨rfl, x0⟩
  · intro he
    have HE := Lib.hid he
    clear he
    go_enter Try.func51, Try.ntmps51
    go_wp2_with fail
    refine (spec_l06At _ xs n _ (h.ext (by repeat (first | (with_reducible first | exact Ext.refl _ | assumption | apply Ext.alloc | apply Ext.drew | apply Ext.drewN | refine Ext.setCell ?_ ?_ _ | refine Ext.trans ?_ (by assumption)) | (show _ ≤ _; first | omega | (dsimp only; omega) | (simp; done) | (simp; omega)))))).mono ?_
    rw [HE.out]
    rintro e w1 ⟨rfl, x1⟩
    have x0 : Ext w w1 := (by repeat (first | (with_reducible first | exact Ext.refl _ | assumption | apply Ext.alloc | apply Ext.drew | apply Ext.drewN | refine Ext.setCell ?_ ?_ _ | refine Ext.trans ?_ (by assumption)) | (show _ ≤ _; first | omega | (dsimp only; omega) | (simp; done) | (simp; omega))))
    clear x1
    go_wp2
    go_ret2
    exact ⟨rfl, x0⟩
end Go.Proofs.Ytckipgijfgeghaa
