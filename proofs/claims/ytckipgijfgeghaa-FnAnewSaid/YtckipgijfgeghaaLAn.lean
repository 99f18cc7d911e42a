/- FnAnew: the walk. -/
import Derived.Test.YtckipgijfgeghaaStA
import Derived.Test.YtckipgijfgeghaaAnI
import Derived.Test.YtckipgijfgeghaaAnS
import Derived.Test.YtckipgijfgeghaaAnL
import Derived.Test.YtckipgijfgeghaaDAnw
import Derived.Test.YtckipgijfgeghaaCutA
import Derived.Test.YtckipgijfgeghaaDTx
import Derived.Test.YtckipgijfgeghaaSm
import Derived.Test.YtckipgijfgeghaaCurA
import Derived.Deep.DeepCutAuto
namespace Go.Proofs.Ytckipgijfgeghaa
open Go.RowKit

def oneT : ByteArray := ⟨#[111, 110, 101]⟩
def twoS : ByteArray := ⟨#[116, 119, 111]⟩
def listT (r : Nat) : List ByteArray := [oneT, twoS].take r
theorem listT_len {r : Nat} (h : r ≤ 2) : (listT r).length = r := by rw [listT, List.length_take]; simp; omega
theorem listT_mem {r : Nat} {s : ByteArray} (h : s ∈ listT r) : s.size = 3 := by
  have := List.mem_of_mem_take h
  simp at this
  rcases this with rfl | rfl <;> rfl
theorem strs_take2 {w : World} {a : Option Addr} {n c : Nat} {xs : List ByteArray} (h : Strs w (.slice a n c) xs) (m : Nat) (hm : m ≤ xs.length) : Strs w (.slice a m c) (xs.take m) := by
  obtain ⟨hl, a1, c1, hv, h1, h2, h3⟩ := h
  injection hv with e1 e2 e3
  subst e1 e2 e3
  have hml : (xs.take m).length = m := by rw [List.length_take]; omega
  refine ⟨by simp, a, c, by rw [hml], by omega, h2, ?_⟩
  rcases h3 with h0 | ⟨b, o, ha, hb, hc⟩
  · exact Or.inl (by omega)
  · refine Or.inr ⟨b, o, ha, hb, fun j u hu => hc j u ?_⟩
    rw [List.getElem?_map] at hu ⊢
    rw [List.getElem?_take] at hu
    split at hu
    · exact hu
    · simp at hu
theorem anew_lay (L l : List ByteArray) (hz : (frsT L).size ≤ 20000) (hr : ∀ s ∈ l, recOk s = true) : anewOk (logD L) logT l = true ∧ anewL (logD L) logT l = layQ (frsT l) logT := by
  have hn : logNameOk logT = true := by rw [logNameOk, logT_ok, new_log]; rfl
  have ho := anewOk_true (l := l) (st0_ok hz) hn hr
  refine ⟨ho, ?_⟩
  rw [anewL_yes ho, hasNew, fAt_newLog]
  rfl
set_option maxRecDepth 100000 in
set_option maxHeartbeats 12800000 in
theorem laws_FnAnew (v : Value) (bs : List Int) (w : World) (h : Code w w.heap.size v bs) :
    Calls Try.prog 5 #[v] w fun e w' => e = .returned (.bool true) ∧ Ext w w' := by
  have HC := Lib.hid h
  obtain ⟨a0, cap, rfl, -, -⟩ := id h
  by_cases hb : (1048576 : Int) < bs.length
  · go_enter Try.func5, Try.ntmps5
    go_wp2_with (go_at_call 15; refine (laws_big _ _ bs _ HC.out).mono ?_; rintro e w' ⟨rfl, rfl⟩)
    go_ret
    exact ⟨rfl, (by repeat (first | (with_reducible first | exact Ext.refl _ | assumption | apply Ext.alloc | apply Ext.drew | apply Ext.drewN | refine Ext.setCell ?_ ?_ _ | refine Ext.trans ?_ (by assumption)) | (show _ ≤ _; first | omega | (dsimp only; omega) | (simp; done) | (simp; omega))))⟩
  have hl : bs.length ≤ 1048576 := by omega
  clear h
  go_enter Try.func5, Try.ntmps5
  go_wp2_with fail
  refine (laws_big _ _ bs _ HC.out).mono ?_
  rintro e w' ⟨rfl, rfl⟩
  go_wp2_with fail
  refine (spec_DrawLogDisk _ bs _ HC.out hl).mono ?_
  rintro e w1 ⟨L, da, dc, rfl, hL4, hLs, oD, x1⟩
  obtain ⟨hr, hr9⟩ := small_ok hLs
  have hFL0 := frsT_len hr9
  have hFL : (frsT L).size ≤ 20000 := by omega
  have HFL := Lib.hid hFL
  have HR := Lib.hid hr
  have SD := own_solid oD
  have FD := Lib.hid (show Fls _ _ _ from Row.of_owns oD)
  have hD1 := logD_len L
  clear oD hr hr9 hLs hFL0 hFL
  have P := Bx.new w1 #[.slice da (logD L).length dc] 38
  have X : Ext w (w1.alloc (Obj.cells #[.slice da (logD L).length dc] 38)) := x1.alloc _
  have xa : Ext w1 (w1.alloc (Obj.cells #[.slice da (logD L).length dc] 38)) := (Ext.refl w1).alloc _
  replace FD := Lib.hid (FD.out.ext xa)
  clear x1 xa
  go_upto_region 4 with (fail)
  generalize w1.alloc (Obj.cells #[.slice da (logD L).length dc] 38) = w2 at *
  generalize w1.heap.size = db at *
  have z0 := P.2.1 0 _ rfl
  go_wp2_with fail
  refine (spec_LogTexts_logD L _ _ FD.out HR.out HFL.out (by omega)).mono ?_
  rintro e w3 ⟨ba, bc, rfl, hB, x3⟩
  have HB := Lib.hid hB
  clear hB z0
  replace P := P.ext x3
  replace X := X.trans x3
  replace FD := Lib.hid (FD.out.ext x3)
  have HCX2 := Lib.hid (HC.out.up (Nat.le_refl _) X X.size)
  go_wp2_with fail
  refine (spec_DrawPlaces2 _ bs _ HCX2.out hl).mono ?_
  rintro e w4 ⟨ys, pg, pc, rfl, hy, -, hpg, hcell, hp12, x4⟩
  have HY := Lib.hid hy
  have hy0 := hy 0
  have HP := Lib.hid hcell
  clear hy hcell HCX2
  replace P := P.ext x4
  replace X := X.trans x4
  replace FD := Lib.hid (FD.out.ext x4)
  replace HB := Lib.hid (HB.out.ext x4)
  obtain ⟨r, hrr, hr2⟩ : ∃ r : Nat, Int.tmod (ys.getD 0 0) 3 = r ∧ r ≤ 2 := ⟨(ys.getD 0 0 % 3).toNat, by rw [Int.tmod_eq_emod_of_nonneg hy0.1]; omega, by omega⟩
  have BL := Bx.new w4 #[.string ⟨#[111, 110, 101]⟩, .string ⟨#[116, 119, 111]⟩] 9
  have xb : Ext w4 (w4.alloc (Obj.cells #[.string ⟨#[111, 110, 101]⟩, .string ⟨#[116, 119, 111]⟩] 9)) := (Ext.refl w4).alloc _
  have HLI := Lib.hid (show Strs (w4.alloc (Obj.cells #[.string ⟨#[111, 110, 101]⟩, .string ⟨#[116, 119, 111]⟩] 9)) (.slice (some ⟨w4.heap.size, 0, none⟩) 2 2) [oneT, twoS] from ⟨rfl, some ⟨w4.heap.size, 0, none⟩, 2, rfl, Nat.le_refl _, by decide, Or.inr ⟨w4.heap.size, 0, rfl, BL.1, fun j u hu => by rw [Nat.zero_add]; exact BL.2.1 j u hu⟩⟩)
  clear BL
  replace HP := Lib.hid (fun j (hj : j < 12) => (xb.cell pg j hpg).trans (HP.out j hj))
  have hpg2 := Nat.lt_of_lt_of_le hpg xb.size
  clear hpg
  replace P := P.ext xb
  replace X := X.trans xb
  replace FD := Lib.hid (FD.out.ext xb)
  replace HB := Lib.hid (HB.out.ext xb)
  go_upto_region 7 with (fail)
  generalize w4.alloc (Obj.cells #[.string ⟨#[111, 110, 101]⟩, .string ⟨#[116, 119, 111]⟩] 9) = w5 at *
  generalize w4.heap.size = lb at *
  skip
  have hrl := listT_len hr2
  have HT := Lib.hid (show Strs w5 (.slice (some ⟨lb, 0, none⟩) r 2) (listT r) from strs_take2 HLI.out r hr2)
  clear HLI
  have hpz := HP.out 0 (by omega)
  obtain ⟨p0, hpe⟩ : ∃ p0, p0 = ys.getD 0 0 := ⟨_, rfl⟩
  rw [← hpe] at hpz hrr hy0
  have HPE := Lib.hid hpe
  clear hpe
  have HRR := Lib.hid hrr
  have HW := Lib.hid (show IntKind.i64.wrap (r : Int) = r from IntWalk.i64_in _ (by omega))
  have i1 : (0 : Int) ≤ r := by omega
  have i2 : (r : Int) ≤ 2 := by omega
  have XP := Ext.refl w5
  refine wp_region_held_drew (S := (fun W => W.cell? ⟨db, 0, none⟩ = some (.slice da (logD L).length dc) ∧ W.cell? ⟨pg, 0, none⟩ = some (.int .i64 p0))) (by kernel_rfl) (by exact ⟨P.2.1 0 _ rfl, (XP.cell pg 0 hpg2).trans hpz⟩) (fun hHeld => ?_)
  have xd : Ext w5 w5.drew := (Ext.refl w5).drew
  replace P := P.ext xd
  replace X := X.trans xd
  replace FD := Lib.hid (FD.out.ext xd)
  replace HB := Lib.hid (HB.out.ext xd)
  replace HT := Lib.hid (HT.out.ext xd)
  replace XP := XP.trans xd
  generalize w5.drew = y0 at *
  (refine wpAnyH_take (i := 0) (v := ?_) rfl (by kernel_rfl) (by kernel_rfl) (by kernel_rfl) (fun _ _ _ h => h) (Or.inl ⟨by rfl, ?_⟩) (by assumption) ?_; rotate_left; focus (intro w hSw; (try dsimp only at hSw); (try simp only [zk1, zk2]); go_simp; try with_reducible rfl)); (try simp only [zk1, zk2]); (try simp only [Act.put, zk4, zk5, zk6])
  (refine wpAnyH_take (i := 1) (v := ?_) rfl (by kernel_rfl) (by kernel_rfl) (by kernel_rfl) (fun _ _ _ h => h) (Or.inl ⟨by rfl, ?_⟩) (by assumption) ?_; rotate_left; focus (intro w hSw; (try dsimp only at hSw); (try simp only [zk1, zk2, zk3]); go_simp; try with_reducible rfl)); (try simp only [zk1, zk2, zk3]); (try simp only [Act.put, zk4, zk5, zk6])
  (refine wpAnyH_take (i := 2) (v := ?_) rfl (by kernel_rfl) (by kernel_rfl) (by kernel_rfl) (fun _ _ _ h => h) (Or.inl ⟨by rfl, ?_⟩) (by assumption) ?_; rotate_left; focus (intro w hSw; (try dsimp only at hSw); (try simp only [zk1, zk2, zk3]); go_simp; try with_reducible rfl)); (try simp only [zk1, zk2, zk3]); (try simp only [Act.put, zk4, zk5, zk6])
  (refine wpAnyH_take (i := 3) (v := ?_) rfl (by kernel_rfl) (by kernel_rfl) (by kernel_rfl) (fun _ _ _ h => h) (Or.inl ⟨by rfl, ?_⟩) (by assumption) ?_; rotate_left; focus (intro w hSw; (try dsimp only at hSw); (try simp only [zk1, zk2, zk3]); go_simp; try with_reducible rfl)); (try simp only [zk1, zk2, zk3]); (try simp only [Act.put, zk4, zk5, zk6])
  (refine wpAnyH_take (i := 4) (v := ?_) rfl (by kernel_rfl) (by kernel_rfl) (by kernel_rfl) (fun _ _ _ h => h) (Or.inl ⟨by rfl, ?_⟩) (by assumption) ?_; rotate_left; focus (intro w hSw; (try dsimp only at hSw); (try simp only [zk1, zk2, zk3]); go_simp; try with_reducible rfl)); (try simp only [zk1, zk2, zk3]); (try simp only [Act.put, zk4, zk5, zk6])
  (refine wpAnyH_take (i := 5) (v := .int .i64 r) rfl (by kernel_rfl) (by kernel_rfl) (by kernel_rfl) (fun _ _ _ h => h) (Or.inl ⟨by rfl, ?_⟩) (by assumption) ?_; focus (intro w hSw; (try dsimp only at hSw); (try simp only [zk1, zk2, zk3]); go_simp; (try rw [hrr]); (try rw [HW.out]); (try rfl))); (try simp only [zk1, zk2, zk3]); (try simp only [Act.put, zk4, zk5, zk6])
  (refine wpAnyH_take (i := 6) (v := .slice (some ⟨lb, 0, none⟩) r 2) rfl (by kernel_rfl) (by kernel_rfl) (by kernel_rfl) (fun _ _ _ h => h) (Or.inl ⟨by rfl, ?_⟩) (by assumption) ?_; focus (intro w hSw; (try dsimp only at hSw); (try simp only [zk1, zk2, zk3]); go_simp; (try simp))); (try simp only [zk1, zk2, zk3]); (try simp only [Act.put, zk4, zk5, zk6])
  (refine wpAnyH_ready (rs := [7]) (by kernel_rfl) (by simp) ?_; refine AllReadyH.cons rfl (fun K hK => ?_) AllReadyH.nil; (try simp only [zk1, zk2, zk3]))
  go_simp
  go_at_call 25
  refine (impl_AnewActs _ _ (logD L) logT (listT r) _ FD.out (st0_fit HFL.out) HT.out (fun s hs => by have := listT_mem hs; omega) (by omega)).mono ?_
  obtain ⟨hok, hla⟩ := anew_lay L (listT r) HFL.out (fun s hs => recOk_true.2 (by have := listT_mem hs; omega))
  rw [hok, hla, show (layQ (frsT (listT r)) logT).length = 3 from rfl]
  rintro e w6 ⟨qa, qc, rfl, hA, x6⟩
  clear hok hla
  replace P := P.ext x6
  replace X := X.trans x6
  replace FD := Lib.hid (FD.out.ext x6)
  replace HB := Lib.hid (HB.out.ext x6)
  replace HT := Lib.hid (HT.out.ext x6)
  replace XP := XP.trans x6
  (try dsimp only)
  refine hK.out _ _ (by exact ⟨P.2.1 0 _ rfl, (XP.cell pg 0 hpg2).trans hpz⟩) (fun hHeld => ?_)
  clear hK K
  have HA := Lib.hid hA
  clear hA
  (refine wpAnyH_take (i := 8) (v := ?_) rfl (by kernel_rfl) (by kernel_rfl) (by kernel_rfl) (fun _ _ _ h => h) (Or.inl ⟨by rfl, ?_⟩) (by assumption) ?_; rotate_left; focus (intro w hSw; (try dsimp only at hSw); (try simp only [zk1, zk2, zk3]); go_simp; try with_reducible rfl)); (try simp only [zk1, zk2, zk3]); (try simp only [Act.put, zk4, zk5, zk6])
  (refine wpAnyH_take (i := 9) (v := ?_) rfl (by kernel_rfl) (by kernel_rfl) (by kernel_rfl) (fun _ _ _ h => h) (Or.inl ⟨by rfl, ?_⟩) (by assumption) ?_; rotate_left; focus (intro w hSw; (try dsimp only at hSw); (try simp only [zk1, zk2, zk3]); go_simp; try with_reducible rfl)); (try simp only [zk1, zk2, zk3]); (try simp only [Act.put, zk4, zk5, zk6])
  (refine wpAnyH_take (i := 10) (v := ?_) rfl (by kernel_rfl) (by kernel_rfl) (by kernel_rfl) (fun _ _ _ h => h) (Or.inl ⟨by rfl, ?_⟩) (by assumption) ?_; rotate_left; focus (intro w hSw; (try dsimp only at hSw); (try simp only [zk1, zk2, zk3]); go_simp; try with_reducible rfl)); (try simp only [zk1, zk2, zk3]); (try simp only [Act.put, zk4, zk5, zk6])
  (refine wpAnyH_take (i := 11) (v := ?_) rfl (by kernel_rfl) (by kernel_rfl) (by kernel_rfl) (fun _ _ _ h => h) (Or.inl ⟨by rfl, ?_⟩) (by assumption) ?_; rotate_left; focus (intro w hSw; (try dsimp only at hSw); (try simp only [zk1, zk2, zk3]); go_simp; try with_reducible rfl)); (try simp only [zk1, zk2, zk3]); (try simp only [Act.put, zk4, zk5, zk6])
  (refine wpAnyH_take (i := 12) (v := ?_) rfl (by kernel_rfl) (by kernel_rfl) (by kernel_rfl) (fun _ _ _ h => h) (Or.inl ⟨by rfl, ?_⟩) (by assumption) ?_; rotate_left; focus (intro w hSw; (try dsimp only at hSw); (try simp only [zk1, zk2, zk3]); go_simp; try with_reducible rfl)); (try simp only [zk1, zk2, zk3]); (try simp only [Act.put, zk4, zk5, zk6])
  refine wpAnyH_done (by kernel_rfl) ?_ _
  have HP6 := Lib.hid (fun j (hj : j < 12) => (XP.cell pg j hpg2).trans (HP.out j hj))
  have hpg6 := Nat.lt_of_lt_of_le hpg2 XP.size
  clear HP hpz XP
  have hS := frsT_len (L := listT r) (fun s hs => by have := listT_mem hs; omega)
  have HS := Lib.hid (show (frsT (listT r)).size ≤ 20000 by omega)
  clear hS
  have HLQ := Lib.hid (show (layQ (frsT (listT r)) logT).length = 3 from rfl)
  obtain ⟨hqc, hqcm⟩ : 3 ≤ qc ∧ qc ≤ maxLen := by have := HA.out; obtain ⟨-, a9, c9, hv9, h91, h92, -⟩ := this; injection hv9 with q1 q2 q3; have := HLQ.out; omega
  unfold maxLen at hqcm
  have HA3 := Lib.hid (show Acs w6 (.slice qa 3 qc) (layQ (frsT (listT r)) logT) from HA.out)
  clear HA
  go_wp2
  go_loopw [9, 10, 11, 12] (fun i _ _ _ wr => ∃ k : Nat, k ≤ 4 ∧ i = .int .i64 k ∧ Ext w6 wr) (fun i _ _ _ _ => 4 - (intOf i).toNat)
  case atStart => exact ⟨0, by omega, rfl, Ext.refl _⟩
  case round =>
    obtain ⟨k, hk, rfl, xr⟩ := hrel
    replace P := P.ext xr
    replace X := X.trans xr
    replace FD := Lib.hid (FD.out.ext xr)
    replace HB := Lib.hid (HB.out.ext xr)
    replace HT := Lib.hid (HT.out.ext xr)
    replace HA3 := Lib.hid (HA3.out.ext xr)
    have XR := xr
    have HPr := Lib.hid (fun j (hj : j < 12) => (xr.cell pg j hpg6).trans (HP6.out j hj))
    have hpr := Nat.lt_of_lt_of_le hpg6 xr.size
    clear HP6 xr
    by_cases hk3 : k < 4
    · have HOK := Lib.hid (stA_all HFL.out HS.out k (by omega))
      go_upto_region 11 with (fail)
      go_cut [10, 11] (fun s10 s11 wx => ∃ yd, Lost (stA L (frsT (listT r)) k) yd ∧ CutD wr wx s10 s11 yd (.bool true))
      case first =>
        have XL := Ext.refl wr
        have l_P := P.1
        refine wp_region_held_drew (S := (fun W => W.cell? ⟨db, 0, none⟩ = some (.slice da (logD L).length dc))) (by kernel_rfl) (by exact P.2.1 0 _ rfl) (fun hHeld => ?_)
        have xd : Ext wr wr.drew := (Ext.refl wr).drew
        replace P := P.ext xd
        replace XL := XL.trans xd
        generalize wr.drew = y0 at *
        (refine wpAnyH_take (i := 0) (v := ?_) rfl (by kernel_rfl) (by kernel_rfl) (by kernel_rfl) (fun _ _ _ h => h) (Or.inl ⟨by rfl, ?_⟩) (by assumption) ?_; rotate_left; focus (intro w hSw; (try dsimp only at hSw); (try simp only [zk1, zk2]); go_simp; try with_reducible rfl)); (try simp only [zk1, zk2]); (try simp only [Act.put, zk4, zk5, zk6])
        (refine wpAnyH_take (i := 1) (v := ?_) rfl (by kernel_rfl) (by kernel_rfl) (by kernel_rfl) (fun _ _ _ h => h) (Or.inl ⟨by rfl, ?_⟩) (by assumption) ?_; rotate_left; focus (intro w hSw; (try dsimp only at hSw); (try simp only [zk1, zk2, zk3]); go_simp; try with_reducible rfl)); (try simp only [zk1, zk2, zk3]); (try simp only [Act.put, zk4, zk5, zk6])
        (refine wpAnyH_take (i := 2) (v := ?_) rfl (by kernel_rfl) (by kernel_rfl) (by kernel_rfl) (fun _ _ _ h => h) (Or.inl ⟨by rfl, ?_⟩) (by assumption) ?_; rotate_left; focus (intro w hSw; (try dsimp only at hSw); (try simp only [zk1, zk2, zk3]); go_simp; try with_reducible rfl)); (try simp only [zk1, zk2, zk3]); (try simp only [Act.put, zk4, zk5, zk6])
        (refine wpAnyH_take (i := 3) (v := ?_) rfl (by kernel_rfl) (by kernel_rfl) (by kernel_rfl) (fun _ _ _ h => h) (Or.inl ⟨by rfl, ?_⟩) (by assumption) ?_; rotate_left; focus (intro w hSw; (try dsimp only at hSw); (try simp only [zk1, zk2, zk3]); go_simp; try with_reducible rfl)); (try simp only [zk1, zk2, zk3]); (try simp only [Act.put, zk4, zk5, zk6])
        refine wpAnyH_ready (rs := [4, 9]) (by kernel_rfl) (by simp) ?_
        refine AllReadyH.cons rfl (fun K hK => ?_) (AllReadyH.cons rfl (fun K hK => ?_) AllReadyH.nil)
        · (try simp only [zk1, zk2, zk3])
          go_simp
          go_at_call 22
          refine (laws_lefts pg pc ys _ (Nat.lt_of_lt_of_le hpr XL.size) HY.out (fun j hj => (XL.cell pg j hpr).trans (HPr.out j hj))).mono ?_
          rintro e y1 ⟨js, ja, jc, rfl, hj6, oj, x1⟩
          have HJ := Lib.hid (show Row _ 1 _ 6 (js.map (Value.int .i64)) from Row.of_owns oj)
          have HJ6 := Lib.hid hj6
          clear oj hj6
          replace P := P.ext x1
          replace XL := XL.trans x1
          (try dsimp only)
          refine hK.out _ _ (by exact P.2.1 0 _ rfl) (fun hHeld => ?_)
          clear hK K
          refine wpAnyH_ready (rs := [5, 9]) (by kernel_rfl) (by simp) ?_
          refine AllReadyH.cons rfl (fun K hK => ?_) (AllReadyH.cons rfl (fun K hK => ?_) AllReadyH.nil)
          · (try simp only [zk1, zk2, zk3])
            go_simp
            go_at_call 21
            refine (impl_CutActs _ _ _ (layQ (frsT (listT r)) logT) (stA L (frsT (listT r))) js k (show k ≤ 3 by omega) _ (FD.out.ext XL) SD (show (logD L).length ≤ 30 by omega) (HA3.out.ext XL) (steps_A HFL.out HS.out) HOK.out.1 HOK.out.2.1 (by rw [HJ6.out]; exact HJ.out) HOK.out.2.2.1 HOK.out.2.2.2).mono ?_
            rintro e y2 ⟨yd, oa, oc, rfl, ow, hLo, x1⟩
            have HLO := Lib.hid hLo
            clear hLo
            have OWL := own_lt ow
            have sw := XL.size
            have OW := Lib.hid (own_mono ow sw)
            clear ow sw
            replace P := P.ext x1
            replace XL := XL.trans x1
            replace HJ := Lib.hid (HJ.out.ext x1)
            (try dsimp only)
            refine hK.out _ _ (by exact P.2.1 0 _ rfl) (fun hHeld => ?_)
            clear hK K
            (refine wpAnyH_take (i := 6) (v := ?_) rfl (by kernel_rfl) (by kernel_rfl) (by kernel_rfl) (fun _ _ _ h => h) (Or.inl ⟨by rfl, ?_⟩) (by assumption) ?_; rotate_left; focus (intro w hSw; (try dsimp only at hSw); (try simp only [zk1, zk2, zk3]); go_simp; try with_reducible rfl)); (try simp only [zk1, zk2, zk3]); (try simp only [Act.put, zk4, zk5, zk6])
            (refine wpAnyH_take (i := 7) (v := ?_) rfl (by kernel_rfl) (by kernel_rfl) (by kernel_rfl) (fun _ _ _ h => h) (Or.inl ⟨by rfl, ?_⟩) (by assumption) ?_; rotate_left; focus (intro w hSw; (try dsimp only at hSw); (try simp only [zk1, zk2, zk3]); go_simp; try with_reducible rfl)); (try simp only [zk1, zk2, zk3]); (try simp only [Act.put, zk4, zk5, zk6])
            (refine wpAnyH_take (i := 8) (v := ?_) rfl (by kernel_rfl) (by kernel_rfl) (by kernel_rfl) (fun _ _ _ h => h) (Or.inl ⟨by rfl, ?_⟩) (by assumption) ?_; rotate_left; focus (intro w hSw; (try dsimp only at hSw); (try simp only [zk1, zk2, zk3]); go_simp; try with_reducible rfl)); (try simp only [zk1, zk2, zk3]); (try simp only [Act.put, zk4, zk5, zk6])
            refine wpAnyH_ready (rs := [9]) (by kernel_rfl) (by simp) ?_
            refine AllReadyH.cons rfl (fun K hK => ?_) AllReadyH.nil
            have hne : (Value.slice oa yd.length oc).ownBlock ≠ some y2.heap.size := fun e => by have := (OWL _ e).2; omega
            have OW := Lib.hid (own_alloc OW.out (Obj.cells #[.slice none 0 0] 38))
            (try simp only [zk1, zk2, zk3])
            go_simp
            have ez : Ext y2 (y2.alloc (Obj.cells #[.slice none 0 0] 38)) := (Ext.refl _).alloc _
            have Q := Bx.new y2 #[.slice none 0 0] 38
            have lq : wr.heap.size ≤ y2.heap.size := XL.size
            replace P := P.ext ez
            replace XL := XL.trans ez
            replace HJ := Lib.hid (HJ.out.ext ez)
            generalize y2.alloc (Obj.cells #[.slice none 0 0] 38) = y3 at *
            generalize hqb : y2.heap.size = qb at *
            have HQB := Lib.hid hqb
            clear hqb
            (try dsimp only)
            refine hK.out _ _ (by exact P.2.1 0 _ rfl) (fun hHeld => ?_)
            clear hK K
            have z0 := Q.2.1 0 _ rfl
            have f0 := Q.2.2 0
            have QQ := Q.set 0 (.slice oa yd.length oc) (by simp)
            have XQ := XL.setCell (p := ⟨qb, 0, none⟩) (by dsimp only; omega) (.slice oa yd.length oc)
            have OQ := Lib.hid (own_far OW.out (b := qb) (o := 0) (fun k e e2 => by subst e2; exact hne e) (.slice oa yd.length oc))
            have Pf := P.far (c := qb) (by omega) 0 (.slice oa yd.length oc)
            (refine wpAnyH_ready (rs := [10]) (by kernel_rfl) (by simp) ?_; refine AllReadyH.cons rfl (fun K hK => ?_) AllReadyH.nil; (try simp only [zk1, zk2, zk3]))
            go_simp
            clear z0 f0
            clear P
            have P := Pf
            clear Pf
            generalize y3.setCell ⟨qb, 0, none⟩ (.slice oa yd.length oc) = WF at *
            have XL := XQ
            (try dsimp only)
            refine hK.out _ _ (by exact P.2.1 0 _ rfl) (fun hHeld => ?_)
            clear hK K
            (refine wpAnyH_take (i := 11) (v := ?_) rfl (by kernel_rfl) (by kernel_rfl) (by kernel_rfl) (fun _ _ _ h => h) (Or.inl ⟨by rfl, ?_⟩) (by assumption) ?_; rotate_left; focus (intro w hSw; (try dsimp only at hSw); (try simp only [zk1, zk2, zk3]); go_simp; try with_reducible rfl)); (try simp only [zk1, zk2, zk3]); (try simp only [Act.put, zk4, zk5, zk6])
            refine wpAnyH_done (by kernel_rfl) ?_ _
            go_wp2_with fail
            go_meet
            exact ⟨yd, HLO.out, qb, oa, oc, rfl, rfl, lq, QQ, OQ.out, hne, XQ⟩
          · (try simp only [zk1, zk2, zk3])
            go_simp
            have ez : Ext y1 (y1.alloc (Obj.cells #[.slice none 0 0] 38)) := (Ext.refl _).alloc _
            have Q := Bx.new y1 #[.slice none 0 0] 38
            have lq : wr.heap.size ≤ y1.heap.size := XL.size
            replace P := P.ext ez
            replace XL := XL.trans ez
            replace HJ := Lib.hid (HJ.out.ext ez)
            generalize y1.alloc (Obj.cells #[.slice none 0 0] 38) = y4 at *
            generalize hqb : y1.heap.size = qb at *
            have HQB := Lib.hid hqb
            clear hqb
            (try dsimp only)
            refine hK.out _ _ (by exact P.2.1 0 _ rfl) (fun hHeld => ?_)
            clear hK K
            refine wpAnyH_ready (rs := [5]) (by kernel_rfl) (by simp) ?_
            refine AllReadyH.cons rfl (fun K hK => ?_) AllReadyH.nil
            (try simp only [zk1, zk2, zk3])
            go_simp
            go_at_call 21
            refine (impl_CutActs _ _ _ (layQ (frsT (listT r)) logT) (stA L (frsT (listT r))) js k (show k ≤ 3 by omega) _ (FD.out.ext XL) SD (show (logD L).length ≤ 30 by omega) (HA3.out.ext XL) (steps_A HFL.out HS.out) HOK.out.1 HOK.out.2.1 (by rw [HJ6.out]; exact HJ.out) HOK.out.2.2.1 HOK.out.2.2.2).mono ?_
            rintro e y5 ⟨yd, oa, oc, rfl, ow, hLo, x1⟩
            have HLO := Lib.hid hLo
            clear hLo
            have OWL := own_lt ow
            have sw := XL.size
            have lqs := Q.1
            have OW := Lib.hid (own_mono ow sw)
            clear ow sw
            replace P := P.ext x1
            replace XL := XL.trans x1
            replace HJ := Lib.hid (HJ.out.ext x1)
            replace Q := Q.ext x1
            (try dsimp only)
            refine hK.out _ _ (by exact P.2.1 0 _ rfl) (fun hHeld => ?_)
            clear hK K
            have hne : (Value.slice oa yd.length oc).ownBlock ≠ some qb := fun e => by have := (OWL _ e).1; omega
            (refine wpAnyH_take (i := 6) (v := ?_) rfl (by kernel_rfl) (by kernel_rfl) (by kernel_rfl) (fun _ _ _ h => h) (Or.inl ⟨by rfl, ?_⟩) (by assumption) ?_; rotate_left; focus (intro w hSw; (try dsimp only at hSw); (try simp only [zk1, zk2, zk3]); go_simp; try with_reducible rfl)); (try simp only [zk1, zk2, zk3]); (try simp only [Act.put, zk4, zk5, zk6])
            (refine wpAnyH_take (i := 7) (v := ?_) rfl (by kernel_rfl) (by kernel_rfl) (by kernel_rfl) (fun _ _ _ h => h) (Or.inl ⟨by rfl, ?_⟩) (by assumption) ?_; rotate_left; focus (intro w hSw; (try dsimp only at hSw); (try simp only [zk1, zk2, zk3]); go_simp; try with_reducible rfl)); (try simp only [zk1, zk2, zk3]); (try simp only [Act.put, zk4, zk5, zk6])
            (refine wpAnyH_take (i := 8) (v := ?_) rfl (by kernel_rfl) (by kernel_rfl) (by kernel_rfl) (fun _ _ _ h => h) (Or.inl ⟨by rfl, ?_⟩) (by assumption) ?_; rotate_left; focus (intro w hSw; (try dsimp only at hSw); (try simp only [zk1, zk2, zk3]); go_simp; try with_reducible rfl)); (try simp only [zk1, zk2, zk3]); (try simp only [Act.put, zk4, zk5, zk6])
            have z0 := Q.2.1 0 _ rfl
            have f0 := Q.2.2 0
            have QQ := Q.set 0 (.slice oa yd.length oc) (by simp)
            have XQ := XL.setCell (p := ⟨qb, 0, none⟩) (by dsimp only; omega) (.slice oa yd.length oc)
            have OQ := Lib.hid (own_far OW.out (b := qb) (o := 0) (fun k e e2 => by subst e2; exact hne e) (.slice oa yd.length oc))
            have Pf := P.far (c := qb) (by omega) 0 (.slice oa yd.length oc)
            (refine wpAnyH_ready (rs := [10]) (by kernel_rfl) (by simp) ?_; refine AllReadyH.cons rfl (fun K hK => ?_) AllReadyH.nil; (try simp only [zk1, zk2, zk3]))
            go_simp
            clear z0 f0
            clear P
            have P := Pf
            clear Pf
            generalize y5.setCell ⟨qb, 0, none⟩ (.slice oa yd.length oc) = WF at *
            have XL := XQ
            (try dsimp only)
            refine hK.out _ _ (by exact P.2.1 0 _ rfl) (fun hHeld => ?_)
            clear hK K
            (refine wpAnyH_take (i := 11) (v := ?_) rfl (by kernel_rfl) (by kernel_rfl) (by kernel_rfl) (fun _ _ _ h => h) (Or.inl ⟨by rfl, ?_⟩) (by assumption) ?_; rotate_left; focus (intro w hSw; (try dsimp only at hSw); (try simp only [zk1, zk2, zk3]); go_simp; try with_reducible rfl)); (try simp only [zk1, zk2, zk3]); (try simp only [Act.put, zk4, zk5, zk6])
            refine wpAnyH_done (by kernel_rfl) ?_ _
            go_wp2_with fail
            go_meet
            exact ⟨yd, HLO.out, qb, oa, oc, rfl, rfl, lq, QQ, OQ.out, hne, XQ⟩
        · (try simp only [zk1, zk2, zk3])
          go_simp
          have ez : Ext y0 (y0.alloc (Obj.cells #[.slice none 0 0] 38)) := (Ext.refl _).alloc _
          have Q := Bx.new y0 #[.slice none 0 0] 38
          have lq : wr.heap.size ≤ y0.heap.size := XL.size
          replace P := P.ext ez
          replace XL := XL.trans ez
          generalize y0.alloc (Obj.cells #[.slice none 0 0] 38) = y6 at *
          generalize hqb : y0.heap.size = qb at *
          have HQB := Lib.hid hqb
          clear hqb
          (try dsimp only)
          refine hK.out _ _ (by exact P.2.1 0 _ rfl) (fun hHeld => ?_)
          clear hK K
          refine wpAnyH_ready (rs := [4]) (by kernel_rfl) (by simp) ?_
          refine AllReadyH.cons rfl (fun K hK => ?_) AllReadyH.nil
          (try simp only [zk1, zk2, zk3])
          go_simp
          go_at_call 22
          refine (laws_lefts pg pc ys _ (Nat.lt_of_lt_of_le hpr XL.size) HY.out (fun j hj => (XL.cell pg j hpr).trans (HPr.out j hj))).mono ?_
          rintro e y7 ⟨js, ja, jc, rfl, hj6, oj, x1⟩
          have HJ := Lib.hid (show Row _ 1 _ 6 (js.map (Value.int .i64)) from Row.of_owns oj)
          have HJ6 := Lib.hid hj6
          clear oj hj6
          replace P := P.ext x1
          replace XL := XL.trans x1
          replace Q := Q.ext x1
          (try dsimp only)
          refine hK.out _ _ (by exact P.2.1 0 _ rfl) (fun hHeld => ?_)
          clear hK K
          refine wpAnyH_ready (rs := [5]) (by kernel_rfl) (by simp) ?_
          refine AllReadyH.cons rfl (fun K hK => ?_) AllReadyH.nil
          (try simp only [zk1, zk2, zk3])
          go_simp
          go_at_call 21
          refine (impl_CutActs _ _ _ (layQ (frsT (listT r)) logT) (stA L (frsT (listT r))) js k (show k ≤ 3 by omega) _ (FD.out.ext XL) SD (show (logD L).length ≤ 30 by omega) (HA3.out.ext XL) (steps_A HFL.out HS.out) HOK.out.1 HOK.out.2.1 (by rw [HJ6.out]; exact HJ.out) HOK.out.2.2.1 HOK.out.2.2.2).mono ?_
          rintro e y8 ⟨yd, oa, oc, rfl, ow, hLo, x1⟩
          have HLO := Lib.hid hLo
          clear hLo
          have OWL := own_lt ow
          have sw := XL.size
          have lqs := Q.1
          have OW := Lib.hid (own_mono ow sw)
          clear ow sw
          replace P := P.ext x1
          replace XL := XL.trans x1
          replace Q := Q.ext x1
          replace HJ := Lib.hid (HJ.out.ext x1)
          (try dsimp only)
          refine hK.out _ _ (by exact P.2.1 0 _ rfl) (fun hHeld => ?_)
          clear hK K
          have hne : (Value.slice oa yd.length oc).ownBlock ≠ some qb := fun e => by have := (OWL _ e).1; omega
          (refine wpAnyH_take (i := 6) (v := ?_) rfl (by kernel_rfl) (by kernel_rfl) (by kernel_rfl) (fun _ _ _ h => h) (Or.inl ⟨by rfl, ?_⟩) (by assumption) ?_; rotate_left; focus (intro w hSw; (try dsimp only at hSw); (try simp only [zk1, zk2, zk3]); go_simp; try with_reducible rfl)); (try simp only [zk1, zk2, zk3]); (try simp only [Act.put, zk4, zk5, zk6])
          (refine wpAnyH_take (i := 7) (v := ?_) rfl (by kernel_rfl) (by kernel_rfl) (by kernel_rfl) (fun _ _ _ h => h) (Or.inl ⟨by rfl, ?_⟩) (by assumption) ?_; rotate_left; focus (intro w hSw; (try dsimp only at hSw); (try simp only [zk1, zk2, zk3]); go_simp; try with_reducible rfl)); (try simp only [zk1, zk2, zk3]); (try simp only [Act.put, zk4, zk5, zk6])
          (refine wpAnyH_take (i := 8) (v := ?_) rfl (by kernel_rfl) (by kernel_rfl) (by kernel_rfl) (fun _ _ _ h => h) (Or.inl ⟨by rfl, ?_⟩) (by assumption) ?_; rotate_left; focus (intro w hSw; (try dsimp only at hSw); (try simp only [zk1, zk2, zk3]); go_simp; try with_reducible rfl)); (try simp only [zk1, zk2, zk3]); (try simp only [Act.put, zk4, zk5, zk6])
          have z0 := Q.2.1 0 _ rfl
          have f0 := Q.2.2 0
          have QQ := Q.set 0 (.slice oa yd.length oc) (by simp)
          have XQ := XL.setCell (p := ⟨qb, 0, none⟩) (by dsimp only; omega) (.slice oa yd.length oc)
          have OQ := Lib.hid (own_far OW.out (b := qb) (o := 0) (fun k e e2 => by subst e2; exact hne e) (.slice oa yd.length oc))
          have Pf := P.far (c := qb) (by omega) 0 (.slice oa yd.length oc)
          (refine wpAnyH_ready (rs := [10]) (by kernel_rfl) (by simp) ?_; refine AllReadyH.cons rfl (fun K hK => ?_) AllReadyH.nil; (try simp only [zk1, zk2, zk3]))
          go_simp
          clear z0 f0
          clear P
          have P := Pf
          clear Pf
          generalize y8.setCell ⟨qb, 0, none⟩ (.slice oa yd.length oc) = WF at *
          have XL := XQ
          (try dsimp only)
          refine hK.out _ _ (by exact P.2.1 0 _ rfl) (fun hHeld => ?_)
          clear hK K
          (refine wpAnyH_take (i := 11) (v := ?_) rfl (by kernel_rfl) (by kernel_rfl) (by kernel_rfl) (fun _ _ _ h => h) (Or.inl ⟨by rfl, ?_⟩) (by assumption) ?_; rotate_left; focus (intro w hSw; (try dsimp only at hSw); (try simp only [zk1, zk2, zk3]); go_simp; try with_reducible rfl)); (try simp only [zk1, zk2, zk3]); (try simp only [Act.put, zk4, zk5, zk6])
          refine wpAnyH_done (by kernel_rfl) ?_ _
          go_wp2_with fail
          go_meet
          exact ⟨yd, HLO.out, qb, oa, oc, rfl, rfl, lq, QQ, OQ.out, hne, XQ⟩
      case rest =>
        obtain ⟨yd, hLo, qb, oa, oc, rfl, rfl, lq, Q, OW, hne, x2⟩ := hcut
        have HLO := Lib.hid hLo
        have FO := Lib.hid OW.fls
        have hp0 := (x2.cell pg 0 hpr).trans (HPr.out 0 (by omega))
        rw [← HPE.out] at hp0
        have hpr2 := Nat.lt_of_lt_of_le hpr x2.size
        clear OW hne lq hLo HOK HPr
        replace P := P.ext x2
        replace X := X.trans x2
        replace FD := Lib.hid (FD.out.ext x2)
        replace HB := Lib.hid (HB.out.ext x2)
        replace HT := Lib.hid (HT.out.ext x2)
        replace HA3 := Lib.hid (HA3.out.ext x2)
        replace XR := XR.trans x2
        have z0 := Q.2.1 0 _ rfl
        go_wp2_with fail
        refine (impl_LogTexts_anew (L := L) (l := listT r) (m := k) _ _ (by omega) HLO.out FO.out HR.out (fun s hs => recOk_true.2 (by have := listT_mem hs; omega)) HFL.out HS.out).mono ?_
        rintro e w8 ⟨ss, na, nc, rfl, hN, hs2, hs3, x8⟩
        have HN := Lib.hid hN
        replace hp0 := (x8.cell pg 0 hpr2).trans hp0
        have hpr8 := Nat.lt_of_lt_of_le hpr2 x8.size
        clear hN z0 Q FO HLO
        replace P := P.ext x8
        replace X := X.trans x8
        replace FD := Lib.hid (FD.out.ext x8)
        replace HB := Lib.hid (HB.out.ext x8)
        replace HT := Lib.hid (HT.out.ext x8)
        replace HA3 := Lib.hid (HA3.out.ext x8)
        replace XR := XR.trans x8
        skip
        by_cases h3 : k = 3
        · obtain rfl := hs3 h3
          subst h3
          clear hs2 hs3
          replace HN := Lib.hid (show Strs w8 (.slice na r nc) (listT r) from by have := HN.out; rw [hrl] at this; exact this)
          rw [hrl]
          have HRL := Lib.hid hrl
          clear hrl
          have d3 : ((3 : Int) == 3) = true := rfl
          have hw := HW.out
          cases hd : decide (listT r = L)
          · have HD := Lib.hid hd
            clear hd
            go_wp2_with fail
            refine (laws_sameTexts _ _ (listT r) L _ HN.out HB.out).mono ?_
            rw [HD.out]
            rintro e w9 ⟨rfl, x9⟩
            replace hp0 := (x9.cell pg 0 hpr8).trans hp0
            replace hpr8 := Nat.lt_of_lt_of_le hpr8 x9.size
            replace P := P.ext x9
            replace X := X.trans x9
            replace FD := Lib.hid (FD.out.ext x9)
            replace HB := Lib.hid (HB.out.ext x9)
            replace HT := Lib.hid (HT.out.ext x9)
            replace HA3 := Lib.hid (HA3.out.ext x9)
            replace XR := XR.trans x9
            replace HN := Lib.hid (HN.out.ext x9)
            clear x9
            go_wp2_with fail
            refine (laws_sameTexts _ _ (listT r) (listT r) _ HN.out HT.out).mono ?_
            rw [show decide (listT r = listT r) = true from decide_eq_true rfl]
            rintro e w10 ⟨rfl, x9⟩
            replace hp0 := (x9.cell pg 0 hpr8).trans hp0
            replace hpr8 := Nat.lt_of_lt_of_le hpr8 x9.size
            replace P := P.ext x9
            replace X := X.trans x9
            replace FD := Lib.hid (FD.out.ext x9)
            replace HB := Lib.hid (HB.out.ext x9)
            replace HT := Lib.hid (HT.out.ext x9)
            replace HA3 := Lib.hid (HA3.out.ext x9)
            replace XR := XR.trans x9
            replace HN := Lib.hid (HN.out.ext x9)
            clear x9
            go_wp2_with fail
            refine (laws_sameTexts _ _ (listT r) (listT r) _ HN.out HT.out).mono ?_
            rw [show decide (listT r = listT r) = true from decide_eq_true rfl]
            rintro e w11 ⟨rfl, x9⟩
            replace hp0 := (x9.cell pg 0 hpr8).trans hp0
            replace hpr8 := Nat.lt_of_lt_of_le hpr8 x9.size
            replace P := P.ext x9
            replace X := X.trans x9
            replace FD := Lib.hid (FD.out.ext x9)
            replace HB := Lib.hid (HB.out.ext x9)
            replace HT := Lib.hid (HT.out.ext x9)
            replace HA3 := Lib.hid (HA3.out.ext x9)
            replace XR := XR.trans x9
            replace HN := Lib.hid (HN.out.ext x9)
            clear x9
            go_wp2
            go_roundw
            case rel => exact ⟨3 + 1, by omega, rfl, XR⟩
            case measure => simp [intOf]
          · have HD := Lib.hid hd
            clear hd
            go_wp2_with fail
            refine (laws_sameTexts _ _ (listT r) L _ HN.out HB.out).mono ?_
            rw [HD.out]
            rintro e w9 ⟨rfl, x9⟩
            replace hp0 := (x9.cell pg 0 hpr8).trans hp0
            replace hpr8 := Nat.lt_of_lt_of_le hpr8 x9.size
            replace P := P.ext x9
            replace X := X.trans x9
            replace FD := Lib.hid (FD.out.ext x9)
            replace HB := Lib.hid (HB.out.ext x9)
            replace HT := Lib.hid (HT.out.ext x9)
            replace HA3 := Lib.hid (HA3.out.ext x9)
            replace XR := XR.trans x9
            replace HN := Lib.hid (HN.out.ext x9)
            clear x9
            go_wp2_with fail
            refine (laws_sameTexts _ _ (listT r) (listT r) _ HN.out HT.out).mono ?_
            rw [show decide (listT r = listT r) = true from decide_eq_true rfl]
            rintro e w11 ⟨rfl, x9⟩
            replace hp0 := (x9.cell pg 0 hpr8).trans hp0
            replace hpr8 := Nat.lt_of_lt_of_le hpr8 x9.size
            replace P := P.ext x9
            replace X := X.trans x9
            replace FD := Lib.hid (FD.out.ext x9)
            replace HB := Lib.hid (HB.out.ext x9)
            replace HT := Lib.hid (HT.out.ext x9)
            replace HA3 := Lib.hid (HA3.out.ext x9)
            replace XR := XR.trans x9
            replace HN := Lib.hid (HN.out.ext x9)
            clear x9
            go_wp2
            go_roundw
            case rel => exact ⟨3 + 1, by omega, rfl, XR⟩
            case measure => simp [intOf]
        · obtain rfl := hs2 (by omega)
          clear hs2 hs3
          have d3 : ((k : Int) == 3) = false := by rw [beq_eq_false_iff_ne]; omega
          go_wp2_with fail
          refine (laws_sameTexts _ _ ss ss _ HN.out HB.out).mono ?_
          rw [show decide (ss = ss) = true from decide_eq_true rfl]
          rintro e w9 ⟨rfl, x9⟩
          replace hp0 := (x9.cell pg 0 hpr8).trans hp0
          replace hpr8 := Nat.lt_of_lt_of_le hpr8 x9.size
          replace P := P.ext x9
          replace X := X.trans x9
          replace FD := Lib.hid (FD.out.ext x9)
          replace HB := Lib.hid (HB.out.ext x9)
          replace HT := Lib.hid (HT.out.ext x9)
          replace HA3 := Lib.hid (HA3.out.ext x9)
          replace XR := XR.trans x9
          replace HN := Lib.hid (HN.out.ext x9)
          clear x9
          go_wp2
          go_roundw
          case rel => exact ⟨k + 1, by omega, by go_num, XR⟩
          case measure => simp [intOf]; omega
    · obtain rfl : k = 4 := by omega
      clear P FD HB HT HA3 HPr XR
      have HCX := Lib.hid (HC.out.up (Nat.le_refl _) X X.size)
      go_wp2_with fail
      refine (spec_DrawAnewActs _ bs _ HCX.out hl).mono ?_
      rintro e w7 ⟨xs, name, ll, xa, la, xc, lc, rfl, hft, hx, hll, hl9, hln, x7⟩
      have HFT := Lib.hid hft
      have HX := Lib.hid hx
      have HLL := Lib.hid hll
      have HL9 := Lib.hid hl9
      clear hft hx hll hl9 HCX
      replace X := X.trans x7
      have P := Bx.new w7 #[.slice xa xs.length xc] 38
      have xz : Ext w7 (w7.alloc (Obj.cells #[.slice xa xs.length xc] 38)) := (Ext.refl w7).alloc _
      replace X := X.trans xz
      replace HX := Lib.hid (HX.out.ext xz)
      replace HLL := Lib.hid (HLL.out.ext xz)
      go_upto_region 16 with (fail)
      generalize w7.alloc (Obj.cells #[.slice xa xs.length xc] 38) = w8 at *
      generalize w7.heap.size = xb at *
      have z0 := P.2.1 0 _ rfl
      go_wp2_with fail
      refine (impl_AnewActs _ _ xs name ll _ HX.out HFT.out HLL.out HL9.out hln).mono ?_
      generalize hQ : anewL xs name ll = Q at *
      generalize hO : anewOk xs name ll = ob at *
      rintro e w9 ⟨qa1, qc1, rfl, hA1, x9⟩
      have HQ := Lib.hid hQ
      have HO := Lib.hid hO
      have HA1 := Lib.hid hA1
      clear hA1 z0 hQ hO
      replace X := X.trans x9
      replace HX := Lib.hid (HX.out.ext x9)
      replace HLL := Lib.hid (HLL.out.ext x9)
      replace P := P.ext x9
      have z0 := P.2.1 0 _ rfl
      go_wp2_with fail
      refine (spec_AnewActs _ _ xs name ll _ HX.out HFT.out HLL.out HL9.out hln).mono ?_
      rw [HQ.out, HO.out]
      rintro e w10 ⟨qa2, qc2, rfl, hA2, x10⟩
      have HA2 := Lib.hid hA2
      clear hA2 z0
      replace X := X.trans x10
      replace HX := Lib.hid (HX.out.ext x10)
      replace HLL := Lib.hid (HLL.out.ext x10)
      replace P := P.ext x10
      replace HA1 := Lib.hid (HA1.out.ext x10)
      have dd : (ob == ob) = true := by simp
      go_wp2_with fail
      refine (laws_sameActs _ _ Q _ HA1.out HA2.out).mono ?_
      rintro e w11 ⟨rfl, x11⟩
      have XF := X.trans x11
      go_wp2
      go_ret
      exact ⟨rfl, XF⟩
end Go.Proofs.Ytckipgijfgeghaa
