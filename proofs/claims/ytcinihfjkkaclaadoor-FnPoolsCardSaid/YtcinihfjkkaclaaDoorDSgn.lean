/- The draws of what is to be signed. -/
import Derived.Test.YtcinihfjkkaclaaDoorPub
import Derived.Test.YtcinihfjkkaclaaDoorPool
import Derived.Test.YtcinihfjkkaclaaDoorCur3
import Derived.Test.YtcinihfjkkaclaaDoorDrwB
namespace Go.Proofs.YtcinihfjkkaclaaDoor
open Go.RowKit

def sds : List ByteArray := [⟨#[111, 110, 101]⟩, ⟨#[116, 119, 111]⟩, ⟨#[116, 104, 114, 101, 101]⟩]
theorem sds_5 : ∀ s ∈ sds, s.size ≤ 5 := by decide +kernel
set_option maxHeartbeats 800000 in
theorem spec_l05Seed (b : Nat) (w : World) (h : Cur w b) :
    Calls Tryd.prog 124 #[.pointer (some ⟨b, 0, none⟩)] w fun e w' => ∃ s : ByteArray, e = .returned (.string s) ∧ s.size ≤ 5 ∧ Cur w' b ∧ Mut b w w' := by
  go_enter Tryd.func124, Tryd.ntmps124
  go_wp2_with fail
  refine (spec_l01Pick b _ sds _ (h.ext (by repeat (first | (with_reducible first | exact Ext.refl _ | assumption | apply Ext.alloc | apply Ext.drew | apply Ext.drewN | refine Ext.setCell ?_ ?_ _ | refine Ext.trans ?_ (by assumption)) | (show _ ≤ _; first | omega | (dsimp only; omega) | (simp; done) | (simp; omega))))) (by exact strs_lit w sds 3 _ _ rfl rfl (by omega)) (own_not h.lt) (by decide) (by decide)).mono ?_
  rintro e w1 ⟨s, hs, rfl, C1, M1⟩
  have M2 : Mut b w w1 := (Mut.of_ext ((Ext.refl w).alloc _)).trans M1
  have HZ := sds_5 s hs
  clear hs
  go_wp2
  go_ret
  exact ⟨s, rfl, HZ, C1, M2⟩
theorem strs_drop1 {w : World} {g n c : Nat} {xs : List ByteArray} (h : Strs w (.slice (some ⟨g, 0, none⟩) n c) xs) (hn : 1 < xs.length) : Strs w (.slice (some ⟨g, 1, none⟩) (xs.length - 1) (c - 1)) (xs.drop 1) := by
  obtain ⟨hl, a, c', he, hc, hm, hcase⟩ := h
  injection he with e1 e2 e3
  subst e1 e3
  have hlen : (xs.drop 1).length = xs.length - 1 := List.length_drop
  rcases hcase with h0 | ⟨b, o, hb, hlt, hcell⟩
  · omega
  · simp only [Option.some.injEq, Addr.mk.injEq, and_true] at hb
    obtain ⟨rfl, rfl⟩ := hb
    refine ⟨by simp, _, _, by rw [hlen], by omega, by omega, Or.inr ⟨g, 1, rfl, hlt, fun j u hu => ?_⟩⟩
    have := hcell (1 + j) u (by rw [List.map_drop, List.getElem?_drop] at hu; exact hu)
    rwa [Nat.zero_add] at this
set_option maxRecDepth 100000 in
set_option maxHeartbeats 1600000 in
theorem spec_DrawSignText (v : Value) (bs : List Int) (w : World) (h : Code w w.heap.size v bs) (hl : bs.length ≤ 1048576) :
    Calls Tryd.prog 55 #[v] w fun e w' => ∃ (seed text : ByteArray) (pool : List ByteArray) (g o c : Nat) (a : Int), e = .returned (.tuple #[.string seed, .slice (some ⟨g, o, none⟩) pool.length c, .int .i64 a, .string text]) ∧ seed.size ≤ 5 ∧ text.size ≤ 201 ∧ pool.length ≤ 16 ∧ (∀ s ∈ pool, s.size ≤ 32) ∧ Strs w' (.slice (some ⟨g, o, none⟩) pool.length c) pool ∧ Ext w w' := by
  go_enter Tryd.func55, Tryd.ntmps55
  go_wp2_with fail
  refine (spec_l01New v bs _ h hl).mono ?_
  rintro e w1 ⟨rfl, C1, x1⟩
  go_wp2_with fail
  refine (spec_l01Below _ 10 _ C1 (by omega)).mono ?_
  rintro e w2 ⟨k, rfl, hk, C2, M2⟩
  have X2 := x1.mut M2 (Nat.le_refl _)
  go_wp2_with fail
  refine (spec_l05Seed _ _ C2).mono ?_
  rintro e w3 ⟨seed, rfl, hsd, C3, M3⟩
  have X3 := X2.mut M3 (Nat.le_refl _)
  go_wp2_with fail
  refine (spec_l01PickInt w.heap.size _ [0, 1, 7, 15, 16, -1, 4] _ (C3.ext (by repeat (first | (with_reducible first | exact Ext.refl _ | assumption | apply Ext.alloc | apply Ext.drew | apply Ext.drewN | refine Ext.setCell ?_ ?_ _ | refine Ext.trans ?_ (by assumption)) | (show _ ≤ _; first | omega | (dsimp only; omega) | (simp; done) | (simp; omega))))) (by exact ints_lit w3 [0, 1, 7, 15, 16, -1, 4] 7 _ _ rfl rfl (by omega)) (own_not C3.lt) (by decide) (by decide)).mono ?_
  rintro e w4 ⟨a, ha, rfl, C4, M4⟩
  have hab : -1 ≤ a ∧ a ≤ 16 := by revert ha; revert a; decide
  have X4 : Ext w w4 := (X3.alloc _).mut M4 (Nat.le_refl _)
  clear ha
  go_wp2_with fail
  refine (spec_l01Below _ 9 _ C4 (by omega)).mono ?_
  rintro e w5 ⟨n, rfl, hn, C5, M5⟩
  have X5 := X4.mut M5 (Nat.le_refl _)
  obtain ⟨n, rfl⟩ := Int.eq_ofNat_of_zero_le hn.1
  go_wp2_with fail
  refine (spec_l01Text _ n _ C5 (by omega)).mono ?_
  rintro e w6 ⟨text, rfl, hte, C6, M6⟩
  have X6 := X5.mut M6 (Nat.le_refl _)
  go_wp2_with fail
  refine (spec_PoolOf seed _).mono ?_
  rintro e w7 ⟨pa, c, rfl, own, x7⟩
  have X7 := X6.trans x7
  obtain ⟨g, c', he⟩ := own_form own (by rw [poolK_len]; omega)
  injection he with e1 e2 e3
  subst e1 e3
  have ST := Lib.hid own.strs
  have HPF := Lib.hid (poolK_fit seed 16)
  have hpl := poolK_len seed 16
  have hc16 : 16 ≤ c := by
    obtain ⟨-, a9, c9, he9, h9, -⟩ := own.strs
    injection he9 with q1 q2 q3
    omega
  clear own
  generalize poolK seed 16 = pool at *
  have ST := Lib.hid (show Strs w7 (.slice (some ⟨g, 0, none⟩) pool.length c) pool by rw [hpl]; exact ST.out)
  rcases (show k = 0 ∨ k = 1 ∨ k = 2 ∨ 3 ≤ k by omega) with rfl | rfl | rfl | hk3
  · have HPL := Lib.hid hpl
    clear hpl
    go_wp2
    refine bodyPost_ret (v := .tuple #[.string ⟨#[111, 116, 104, 101, 114]⟩, .slice (some ⟨g, 0, none⟩) pool.length c, .int .i64 a, .string text]) (by simp [results, Tryd.results55, go_sem]) rfl ⟨_, text, pool, g, 0, c, a, rfl, by decide, by omega, Nat.le_of_eq HPL.out, HPF.out, ST.out, X7⟩
  · have HPL := Lib.hid hpl
    have hdl : (pool.drop 1).length = pool.length - 1 := by rw [List.length_drop]
    have SD := Lib.hid (strs_drop1 ST.out (by omega))
    have HDL := Lib.hid hdl
    clear hpl hdl
    go_wp2
    refine bodyPost_ret (v := .tuple #[.string seed, .slice (some ⟨g, 1, none⟩) (pool.length - 1) (c - 1), .int .i64 a, .string text]) (by simp [results, Tryd.results55, go_sem]) rfl ⟨seed, text, pool.drop 1, g, 1, c - 1, a, by rw [HDL.out], hsd, by omega, by rw [HDL.out, HPL.out]; decide, fun s hs => HPF.out s (List.mem_of_mem_drop hs), by rw [HDL.out]; exact SD.out, X7⟩
  · have HPL := Lib.hid hpl
    clear hpl
    obtain ⟨q, hq⟩ : ∃ q : Nat, 200 + a.tmod 2 = (q : Int) ∧ q ≤ 201 := by
      rcases (show a = -1 ∨ 0 ≤ a by omega) with rfl | h0
      · exact ⟨199, by decide, by decide⟩
      · have : a.tmod 2 = a % 2 := Int.tmod_eq_emod_of_nonneg h0
        exact ⟨(200 + a % 2).toNat, by omega, by omega⟩
    obtain ⟨hq1, hq2⟩ := hq
    go_wp2_with fail
    refine (spec_l01Long q 97 _ (by omega)).mono ?_
    rintro e w8 ⟨z, rfl, hz, x8⟩
    have ST8 := Lib.hid (ST.out.ext x8)
    go_wp2
    refine bodyPost_ret (v := .tuple #[.string seed, .slice (some ⟨g, 0, none⟩) pool.length c, .int .i64 a, .string z]) (by simp [results, Tryd.results55, go_sem]) rfl ⟨seed, z, pool, g, 0, c, a, rfl, hsd, by omega, Nat.le_of_eq HPL.out, HPF.out, ST8.out, X7.trans x8⟩
  · have HPL := Lib.hid hpl
    have k0 : ¬ k = 0 := by omega
    have k1 : ¬ k = 1 := by omega
    have k2 : ¬ k = 2 := by omega
    clear hpl
    go_wp2
    refine bodyPost_ret (v := .tuple #[.string seed, .slice (some ⟨g, 0, none⟩) pool.length c, .int .i64 a, .string text]) (by simp [results, Tryd.results55, go_sem]) rfl ⟨seed, text, pool, g, 0, c, a, rfl, hsd, by omega, Nat.le_of_eq HPL.out, HPF.out, ST.out, X7⟩
end Go.Proofs.YtcinihfjkkaclaaDoor
