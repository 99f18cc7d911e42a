/- FnFrames: the walk. -/
import Derived.Test.YtliebkhfddmhjaaFr
import Derived.Test.YtliebkhfddmhjaaDhx
import Derived.Test.YtliebkhfddmhjaaSm
import Derived.Test.YtliebkhfddmhjaaCurA
import Derived.Test.YtliebkhfddmhjaaLftA
import Derived.Test.YtliebkhfddmhjaaSgO
import Derived.Deep.DeepCutAuto
import Derived.Deep.AppendLies
namespace Go.Proofs.Ytliebkhfddmhjaa
open Go.RowKit

def twoT : ByteArray := ⟨#[116, 119, 111]⟩
def thrT : ByteArray := ⟨#[116, 104, 114, 101, 101, 32, 97, 110, 100, 32, 109, 111, 114, 101]⟩
def frL (l : ByteArray) : List ByteArray := [l, twoT, thrT]
theorem frL_ok {l : ByteArray} (h : 1 ≤ l.size ∧ l.size ≤ 900) : ∀ s ∈ frL l, recOk s = true ∧ s.size ≤ 900 := by
  intro s hs
  simp only [frL, List.mem_cons, List.not_mem_nil, or_false] at hs
  rcases hs with rfl | rfl | rfl
  · exact ⟨recOk_true.2 (by omega), h.2⟩
  · exact ⟨by decide, by decide⟩
  · exact ⟨by decide, by decide⟩
theorem fr_take {L ss : List ByteArray} {k n : Nat} (h : ∀ s ∈ L, recOk s = true) (hu : Unfr ((frsB L).take k) ss n) : ss.length ≤ L.length ∧ ss = L.take ss.length ∧ n = (frsB (L.take ss.length)).length ∧ n ≤ k ∧ (ss.length = L.length ∨ k < (frsB (L.take (ss.length + 1))).length) := by
  obtain ⟨g1, g2⟩ := frsB_unfr h
  obtain ⟨m, hm, rfl, hf, hk, ho⟩ := frs_cut g1 hu.1 hu.2 (Nat.zero_le _) g2
  have hl : (L.take m).length = m := by rw [List.length_take]; omega
  rw [hl]
  exact ⟨hm, rfl, by omega, hk, by rcases ho with h1 | h1; exact Or.inl h1; right; omega⟩
theorem bx_strs {w : World} {b : Nat} {L : List ByteArray} {m c : Nat} (h : Bx w b (L.map Value.string)) (hm : m ≤ L.length) (hc : m ≤ c) (hcm : c ≤ maxLen) : Strs w (.slice (some ⟨b, 0, none⟩) m c) (L.take m) := by
  have hl : (L.take m).length = m := by rw [List.length_take]; omega
  unfold Strs
  rw [hl]
  refine ⟨by simp; omega, some ⟨b, 0, none⟩, c, rfl, hc, hcm, Or.inr ⟨b, 0, rfl, h.1, fun j u hu => ?_⟩⟩
  have hj : j < m := by
    by_cases hj : j < m
    · exact hj
    · rw [List.getElem?_eq_none (by simp; omega)] at hu; cases hu
  rw [Nat.zero_add]
  refine h.2.1 j u ?_
  rw [← hu, List.getElem?_map, List.getElem?_map, List.getElem?_take_of_lt hj]
theorem Unframe_all (L : List ByteArray) (F : ByteArray) (w : World) (hs : F.size ≤ 20000) (hF : F.data.toList = frsB L) (hL : ∀ s ∈ L, recOk s = true) :
    Calls Try.prog 15 #[.string F] w fun e w' => ∃ (oa : Option Addr) (oc : Nat), e = .returned (.tuple #[.slice oa L.length oc, .int .i64 F.size]) ∧ OwnStrs w' w.heap.size (.slice oa L.length oc) L ∧ Ext w w' := by
  refine (impl_Unframe F w hs).mono ?_
  rintro e w' ⟨ss, n, oa, oc, rfl, ow, hu, hx⟩
  rw [hF] at hu
  obtain ⟨e1, e2⟩ := hu.one (frsB_unfr hL)
  subst e1
  exact ⟨oa, oc, by rw [e2, ← ba_len F, hF], ow, hx⟩
theorem Unframe_cut (L : List ByteArray) (F : ByteArray) (k : Nat) (w : World) (hs : F.size ≤ 20000) (hF : F.data.toList = (frsB L).take k) (hL : ∀ s ∈ L, recOk s = true) :
    Calls Try.prog 15 #[.string F] w fun e w' => ∃ (m : Nat) (oa : Option Addr) (oc : Nat), e = .returned (.tuple #[.slice oa m oc, .int .i64 (frsB (L.take m)).length]) ∧ m ≤ L.length ∧ Strs w' (.slice oa m oc) (L.take m) ∧ (frsB (L.take m)).length ≤ k ∧ (m = L.length ∨ k < (frsB (L.take (m + 1))).length) ∧ Ext w w' := by
  refine (impl_Unframe F w hs).mono ?_
  rintro e w' ⟨ss, n, oa, oc, rfl, ow, hu, hx⟩
  rw [hF] at hu
  obtain ⟨h1, h2, h3, h4, h5⟩ := fr_take hL hu
  exact ⟨ss.length, oa, oc, by rw [h3], h1, by rw [← h2]; exact ow.strs, by omega, h5, hx⟩
set_option maxRecDepth 100000 in
set_option maxHeartbeats 12800000 in
theorem laws_FnFrames (v : Value) (bs : List Int) (w : World) (h : Code w w.heap.size v bs) :
    Calls Try.prog 4 #[v] w fun e w' => e = .returned (.bool true) ∧ Ext w w' := by
  obtain ⟨i0, hi, hz0, hz1, hz2⟩ := info_parts infoInt
  have HC := Lib.hid h
  obtain ⟨a0, cap, rfl, -, -⟩ := id h
  by_cases hb : (1048576 : Int) < bs.length
  · go_enter Try.func4, Try.ntmps4
    go_wp2_with (go_at_call 11; refine (laws_big _ _ bs _ HC.out).mono ?_; rintro e w' ⟨rfl, rfl⟩)
    go_ret
    exact ⟨rfl, (by repeat (first | (with_reducible first | exact Ext.refl _ | assumption | apply Ext.alloc | apply Ext.drew | apply Ext.drewN | refine Ext.setCell ?_ ?_ _ | refine Ext.trans ?_ (by assumption)) | (show _ ≤ _; first | omega | (dsimp only; omega) | (simp; done) | (simp; omega))))⟩
  have hl : bs.length ≤ 1048576 := by omega
  clear h
  go_enter Try.func4, Try.ntmps4
  go_wp2_with fail
  refine (laws_big _ _ bs _ HC.out).mono ?_
  rintro e w' ⟨rfl, rfl⟩
  go_wp2_with fail
  refine (spec_DrawPlaces2 _ bs _ HC.out hl).mono ?_
  rintro e w1 ⟨ys, pg, pc, rfl, hy, -, hpg, hcell, -, X⟩
  have y0 := hcell 0 (by omega)
  have b0 := hy 0
  clear hcell hy
  generalize ys.getD 0 0 = pq at *
  have HY := Lib.hid y0
  clear y0
  go_wp2_with fail
  refine (spec_DrawHex _ bs _ (HC.out.ext (Nat.le_refl _) X X.size) hl).mono ?_
  rintro e w2 ⟨s0, rfl, hs0, x2⟩
  have HY2 := Lib.hid ((x2.cell _ 0 hpg).trans HY.out)
  have hpg2 := Nat.lt_of_lt_of_le hpg x2.size
  clear HY hpg
  replace X := X.trans x2
  clear x2
  have P := Bx.new w2 #[.string s0, .string ⟨#[116, 119, 111]⟩, .string ⟨#[116, 104, 114, 101, 101, 32, 97, 110, 100, 32, 109, 111, 114, 101]⟩] 9
  have X3 : Ext w (w2.alloc (Obj.cells #[.string s0, .string ⟨#[116, 119, 111]⟩, .string ⟨#[116, 104, 114, 101, 101, 32, 97, 110, 100, 32, 109, 111, 114, 101]⟩] 9)) := X.alloc _
  have p0 := P.2.1 0 _ rfl
  have f0 := P.2.2 0
  have HY3 := Lib.hid (show (w2.alloc (Obj.cells #[.string s0, .string ⟨#[116, 119, 111]⟩, .string ⟨#[116, 104, 114, 101, 101, 32, 97, 110, 100, 32, 109, 111, 114, 101]⟩] 9)).cell? ⟨pg, 0, none⟩ = some (.int .i64 pq) from ((Ext.refl w2).alloc _).cell pg 0 hpg2 |>.trans HY2.out)
  go_upto_region 5 with (fail)
  generalize hW3 : w2.alloc (Obj.cells #[.string s0, .string ⟨#[116, 119, 111]⟩, .string ⟨#[116, 104, 114, 101, 101, 32, 97, 110, 100, 32, 109, 111, 114, 101]⟩] 9) = w3 at *
  clear hW3
  go_cut [34] (fun c wx => c = .bool (decide (¬ (1 ≤ s0.size ∧ s0.size ≤ 900))) ∧ wx = w3)
  case first =>
    by_cases hz : s0.size = 0
    · have hzi : (s0.size : Int) = 0 := by omega
      have HB := Lib.hid (show (¬ (1 ≤ s0.size ∧ s0.size ≤ 900)) by omega)
      clear hz
      go_wp2_with fail
      go_meet
      exact ⟨congrArg Value.bool (decide_eq_true (p := (¬ (1 ≤ s0.size ∧ s0.size ≤ 900))) HB.out).symm, rfl⟩
    have hzi : ¬ (s0.size : Int) = 0 := by omega
    have hzb : ((s0.size : Int) == 0) = false := beq_eq_false_iff_ne.2 hzi
    by_cases h9 : s0.size ≤ 900
    · have h9i : ¬ (900 : Int) < s0.size := by omega
      have HB := Lib.hid (show ¬ (¬ (1 ≤ s0.size ∧ s0.size ≤ 900)) by omega)
      skip
      go_wp2_with fail
      go_meet
      exact ⟨congrArg Value.bool (decide_eq_false (p := (¬ (1 ≤ s0.size ∧ s0.size ≤ 900))) HB.out).symm, rfl⟩
    · have h9i : (900 : Int) < s0.size := by omega
      have HB := Lib.hid (show (¬ (1 ≤ s0.size ∧ s0.size ≤ 900)) by omega)
      skip
      go_wp2_with fail
      go_meet
      exact ⟨congrArg Value.bool (decide_eq_true (p := (¬ (1 ≤ s0.size ∧ s0.size ≤ 900))) HB.out).symm, rfl⟩
  case rest =>
    obtain ⟨rfl, rfl⟩ := hcut
    clear p0 f0
    go_upto_if 34 with (fail)
    go_cut [] (fun wx => ∃ l, (1 ≤ l.size ∧ l.size ≤ 900) ∧ Bx wx w2.heap.size ((frL l).map Value.string) ∧ Ext w wx ∧ wx.cell? ⟨pg, 0, none⟩ = some (.int .i64 pq))
    case first =>
      by_cases hbad : (¬ (1 ≤ s0.size ∧ s0.size ≤ 900))
      · have hd := decide_eq_true hbad
        rw [hd]
        clear hd hbad
        have f0 := P.2.2 0
        have p0 := P.2.1 0 _ rfl
        have PS := P.set 0 (.string ⟨#[111, 110, 101]⟩) (by simp)
        skip
        go_wp2_with fail
        go_meet
        exact ⟨⟨#[111, 110, 101]⟩, by decide, PS, X3.setCell X.size _, by rw [World.cell?_setCell_other _ _ _ _ (fun e => by injection e with e1; omega)]; exact HY3.out⟩
      · have hd := decide_eq_false hbad
        rw [hd]
        clear hd
        go_wp2_with fail
        go_meet
        exact ⟨s0, by omega, P, X3, HY3.out⟩
    case rest =>
      obtain ⟨l, hl9, PL, XL, HY⟩ := hcut
      replace HY := Lib.hid HY
      clear HY2 HY3 P X3 hs0
      have HL := Lib.hid (frL_ok hl9)
      have hL3 : (frL l).length = 3 := rfl
      have HL3 := Lib.hid hL3
      generalize frL l = L at *
      clear hl9 hL3
      have hBw := X.size
      generalize w2.heap.size = B at *
      have hBl := PL.1
      go_wp2
      have e4 : Ext wc (wc.alloc (Obj.cells #[.int .i64 0] 3)) := (Ext.refl _).alloc _
      have E0 : (wc.alloc (Obj.cells #[.int .i64 0] 3)).ownsRow wc.heap.size 3 1 (.slice (some ⟨wc.heap.size, 0, none⟩) 1 1) 1 ((ends L 0).map (Value.int .i64)) := by have := World.ownsRow_lit (e := 3) (size := 1) wc #[Value.int .i64 0] 1 (Nat.le_refl _) (by decide) rfl; exact this
      have P4 := PL.ext e4
      have X4 := XL.trans e4
      have HY4 := Lib.hid ((e4.cell pg 0 (by omega)).trans HY.out)
      clear HY PL XL e4
      skip
      go_loopw [5, 6, 7, 8, 9] (fun f e i _ _ wr => ∃ k : Nat, k ≤ 3 ∧ i = .int .i64 k ∧ f = .string (frsT (L.take k)) ∧ wr.ownsRow wc.heap.size 3 1 e (k + 1) ((ends L k).map (Value.int .i64)) ∧ Bx wr B (L.map Value.string) ∧ wr.cell? ⟨pg, 0, none⟩ = some (.int .i64 pq) ∧ Ext w wr ∧ Ext wc wr) (fun _ _ i _ _ _ => 3 - (intOf i).toNat)
      case atStart => exact ⟨0, by omega, rfl, rfl, E0, P4, HY4.out, X4, (Ext.refl _).alloc _⟩
      case round =>
        obtain ⟨k, hk, rfl, rfl, hown, PR, hY, XR, XC⟩ := hrel
        obtain ⟨ea, ec, rfl⟩ := own_any hown
        replace hown := Lib.hid hown
        replace hY := Lib.hid hY
        have hcz := XC.size
        clear E0 P4 X4 HY4
        by_cases hk3 : k < 3
        · have hkL : k < L.length := by have := HL3.out; omega
          have hs := HL.out _ (List.getElem_mem hkL)
          have HTK := Lib.hid (show L.take (k + 1) = L.take k ++ [L[k]] from List.take_succ_eq_append_getElem hkL)
          have e1 : wr.cell? ⟨B, k, none⟩ = some (.string L[k]) := PR.2.1 k _ (by rw [List.getElem?_map, List.getElem?_eq_getElem hkL]; rfl)
          generalize L[k] = s at *
          have HR := Lib.hid hs.1
          have hs9 := hs.2
          clear hs
          have HLE := Lib.hid (frsB_len_le (L.take k) (fun x hx => (HL.out x (List.mem_of_mem_take hx)).2))
          have hq1 : (frsT (L.take k)).size ≤ 5415 := by rw [frsT_size]; have h1 := HLE.out; rw [List.length_take] at h1; omega
          have hq2 : (frT s).size ≤ 1805 := by rw [← ba_len, frT_list, frB_len, varB, ba_len]; have h2 := varT_size s.size; omega
          have HF := Lib.hid (show frsT (L.take (k + 1)) = frsT (L.take k) ++ frT s by rw [HTK.out, frsT_snoc])
          have HE := Lib.hid (ends_succ L k)
          have HZ := Lib.hid (show ((frsB (L.take (k + 1))).length : Int) = (frsT (L.take k)).size + (frT s).size by rw [← frsT_size, HF.out, ByteArray.size_append]; omega)
          go_wp2_with fail
          refine (impl_Frame s _ (by omega)).mono ?_
          rw [HR.out]
          rintro e w6 ⟨rfl, x6⟩
          clear e1
          have EO := Lib.hid (own_ext hown.out x6)
          replace PR := PR.ext x6
          have HY6 := Lib.hid ((x6.cell pg 0 (by have := PR.1; omega)).trans hY.out)
          replace XR := XR.trans x6
          replace XC := XC.trans x6
          have hc6 := XC.size
          clear hY hown x6
          generalize hfl : frsT (L.take k) = fl at *
          generalize hfs : frT s = fs at *
          clear hfl hfs
          go_wp2_with (at_builtin; refine wpList_append_own _ rfl (.tmp 57) (.tmp 60) 36 rfl wc.heap.size 3 i0 (.int .i64 0) 1 8 Try.underlying36 hi hz0 hz1 hz2 rfl (by decide) _ _ _ rfl (own_alloc EO.out _) ⟨w6.heap.size, 0, none⟩ 1 1 [.int .i64 (fl.size + fs.size)] rfl rfl ?c1 ?c2 ?c3 ?c4 ?c5 ?_)
          case c1 => exact World.news_of_block (heap_alloc_new w6 (Obj.cells #[Value.int .i64 (fl.size + fs.size)] 3))
          case c2 => intro u hu; simp at hu; subst hu; rfl
          case c3 => unfold maxLen; omega
          case c4 => omega
          case c5 => simp; omega
          intro v' w7 own7 hgrow _
          obtain ⟨oa7, oc7, rfl⟩ := own_any own7
          have hfar : ∀ b, b < wc.heap.size → (Value.slice ea (k + 1) ec).ownBlock ≠ some b := fun b hb e => by have := (own_lt EO.out b e).1; omega
          have e7 : Ext w6 (w6.alloc (Obj.cells #[Value.int .i64 (fl.size + fs.size)] 3)) := (Ext.refl _).alloc _
          have PG := (PR.ext e7).grew hgrow (hfar B hBl)
          have X7 := own_ext_of (XR.trans e7) (own_alloc EO.out _) hgrow (by omega)
          have XC7 := own_ext_of (XC.trans e7) (own_alloc EO.out _) hgrow (Nat.le_refl _)
          have HY7 := Lib.hid (((hgrow.cell_far ⟨pg, 0, none⟩ (by rw [World.size_alloc]; show pg < _; omega) (fun e => hfar pg (by omega) e.symm)).trans (e7.cell pg 0 (by omega))).trans HY6.out)
          have O7 := Lib.hid own7
          clear own7 hgrow EO HY6 e7 hfar
          go_wp2
          go_roundw
          case rel => exact ⟨k + 1, by omega, by go_num, by rw [HF.out], by rw [HE.out, List.map_append, HZ.out]; exact O7.out, PG, HY7.out, X7, XC7⟩
          case measure => simp [intOf]; omega
        · obtain rfl : k = 3 := by omega
          have HTK := Lib.hid (show L.take 3 = L from List.take_of_length_le (by have := HL3.out; omega))
          rw [HTK.out]
          have hF : (frsB L).length ≤ 5415 := by have h1 := frsB_len_le L (fun x hx => (HL.out x hx).2); have h2 := HL3.out; omega
          have HFL := Lib.hid (frsT_list L)
          have hfz : (frsT L).size = (frsB L).length := frsT_size L
          generalize frsT L = F at *
          clear HTK
          rw [← hfz] at hF
          have HFZ := Lib.hid hfz
          clear hfz
          go_wp2_with fail
          refine (Unframe_all L F _ (by omega) HFL.out (fun x hx => (HL.out x hx).1)).mono ?_
          rintro e w8 ⟨oa, oc, rfl, ow, x8⟩
          have OW := Lib.hid (OwnStrs.strs ow)
          clear ow
          replace PR := PR.ext x8
          have EO := Lib.hid (own_ext hown.out x8)
          have HY8 := Lib.hid ((x8.cell pg 0 (by have := PR.1; omega)).trans hY.out)
          replace XR := XR.trans x8
          have hc8 := x8.size
          clear hY hown x8
          have hFb : ((F.size : Int) != F.size) = false := by simp
          go_wp2_with fail
          refine (laws_sameTexts _ _ L L _ OW.out (by have h1 := bx_strs (m := 3) (c := 3) PR (by rw [HL3.out]; exact Nat.le_refl _) (Nat.le_refl _) (by decide); rw [List.take_of_length_le (by rw [HL3.out]; exact Nat.le_refl _)] at h1; exact h1)).mono ?_
          rw [show decide (L = L) = true from decide_eq_true rfl]
          rintro e w9 ⟨rfl, x9⟩
          replace PR := PR.ext x9
          replace EO := Lib.hid (own_ext EO.out x9)
          have y0 := (x9.cell pg 0 (by omega)).trans HY8.out
          replace XR := XR.trans x9
          clear x9 HY8 OW hFb
          obtain ⟨kk, hkk, hkF⟩ : ∃ kk : Nat, pq % ((F.size : Int) + 1) = kk ∧ kk ≤ F.size := ⟨(pq % ((F.size : Int) + 1)).toNat, by have := Int.emod_nonneg pq (b := (F.size : Int) + 1) (by omega); omega, by have := Int.emod_nonneg pq (b := (F.size : Int) + 1) (by omega); have := Int.emod_lt_of_pos pq (b := (F.size : Int) + 1) (by omega); omega⟩
          have q1 : (0 : Int) ≤ kk := by omega
          have q2 : (kk : Int) ≤ F.size := by omega
          have hXF : (F.extract 0 kk).data.toList = (frsB L).take kk := by rw [ba_extract, HFL.out]; rfl
          have hXz : (F.extract 0 kk).size ≤ 20000 := by rw [ByteArray.size_extract]; omega
          go_wp2_with fail
          refine (Unframe_cut L _ kk _ hXz hXF (fun x hx => (HL.out x hx).1)).mono ?_
          rintro e w10 ⟨m, oa2, oc2, rfl, hm, ow2, hfk, hor, x10⟩
          replace PR := PR.ext x10
          replace EO := Lib.hid (own_ext EO.out x10)
          replace XR := XR.trans x10
          have SS := Lib.hid ow2
          clear ow2 x10 y0 hXF hXz q1 q2
          have hm3 : m ≤ 3 := by have := HL3.out; omega
          obtain ⟨eg, ec2, he⟩ := own_form EO.out (by omega)
          injection he with he1 he2 he3
          subst he1 he3
          clear he2
          have cm : w10.cell? ⟨eg, m, none⟩ = some (.int .i64 (frsB (L.take m)).length) := by rw [EO.out.cellAt m (by omega), List.getElem?_map, ends_at L (by omega)]; rfl
          have cn : m < 3 → w10.cell? ⟨eg, m + 1, none⟩ = some (.int .i64 (frsB (L.take (m + 1))).length) := fun h => by rw [EO.out.cellAt (m + 1) (by omega), List.getElem?_map, ends_at L (by omega)]; rfl
          have ST := Lib.hid (bx_strs (m := m) (c := 3) PR hm hm3 (by decide))
          rw [HL3.out] at hor
          clear hm
          generalize hfm : (frsB (L.take m)).length = fm at *
          generalize hfn : (frsB (L.take (m + 1))).length = fn at *
          clear hfm hfn
          have hfki : (fm : Int) ≤ kk := by omega
          clear hfk
          have hm3i : (m : Int) ≤ 3 := by omega
          generalize hTM : L.take m = TM at *
          clear hTM
          by_cases h3 : m = 3
          · subst h3
            clear cn hor
            go_wp2_with fail
            refine (laws_sameTexts _ _ TM TM _ SS.out ST.out).mono ?_
            rw [show decide (TM = TM) = true from decide_eq_true rfl]
            rintro e w11 ⟨rfl, x11⟩
            go_wp2
            go_ret
            exact ⟨rfl, XR.trans x11⟩
          · have cn1 := cn (by omega)
            have hkn : (kk : Int) < fn := hor.elim (fun h => absurd h h3) (fun h => by omega)
            have h3i : ¬ (m : Int) = 3 := by omega
            have h3b : ((m : Int) == 3) = false := beq_eq_false_iff_ne.2 h3i
            have hm3n : (m : Int) + 1 < 4 := by omega
            clear cn hor
            go_wp2_with fail
            refine (laws_sameTexts _ _ TM TM _ SS.out ST.out).mono ?_
            rw [show decide (TM = TM) = true from decide_eq_true rfl]
            rintro e w11 ⟨rfl, x11⟩
            have cn2 := (x11.cell eg (m + 1) (by have := own_lt EO.out eg rfl; omega)).trans cn1
            clear cn1 cm
            go_wp2
            go_ret
            exact ⟨rfl, XR.trans x11⟩
end Go.Proofs.Ytliebkhfddmhjaa
