/- Signing: the program. -/
import Derived.Test.YtliebkhfddmhjaaDoorSgnP
namespace Go.Proofs.YtliebkhfddmhjaaDoor
open Go.RowKit

set_option maxRecDepth 100000 in
set_option maxHeartbeats 12800000 in
theorem impl_SignText (seed text : ByteArray) (v : Value) (pool : List ByteArray) (a : Int) (w : World) (h : Strs w v pool) (hs : ∀ s ∈ pool, s.size ≤ maxLen) (hsol : Solid v) (hT : Tabs w) :
    Calls Tryd.prog 88 #[.string seed, v, .int .i64 a, .string text] w fun e w' => ∃ a1 c1 a2 c2 a3 c3, e = .returned (.tuple #[.agg #[.int .i64 (sgnV seed pool a text).at_, .slice a1 (sgnV seed pool a text).op.length c1, .slice a2 (sgnV seed pool a text).sh.length c2, .slice a3 (sgnV seed pool a text).si.length c3], .bool (sgnOk seed pool a text)]) ∧ SigOwn w' w.heap.size (.slice a1 (sgnV seed pool a text).op.length c1) (.slice a2 (sgnV seed pool a text).sh.length c2) (.slice a3 (sgnV seed pool a text).si.length c3) (sgnV seed pool a text) ∧ Ext w w' := by
  have HT := Lib.hid hT
  clear hT
  obtain ⟨i0, hi, hz0, hz1, hz2⟩ := info_parts infoStrP
  obtain ⟨pa, pc, rfl⟩ := h.form
  by_cases hl : ¬ pool.length = 16
  · have hn1 : ((pool.length : Int) != 16) = true := by simp; omega
    have hn2 : ¬ ((pool.length : Int) = 16) := by omega
    have hno : sgnOk seed pool a text = false := by rw [sgnOk, decide_eq_false hl]; rfl
    have R := Lib.hid (sgn_no hno)
    have RB := Lib.hid hno
    clear hno
    clear hl
    go_enter Tryd.func88, Tryd.ntmps88
    go_wp2
    refine bodyPost_ret (v := .tuple #[.agg #[.int .i64 0, .slice none 0 0, .slice none 0 0, .slice none 0 0], .bool false]) (by simp [results, Tryd.results88, go_sem]) rfl ?_
    rw [R.out, RB.out]
    exact ⟨_, _, _, _, _, _, rfl, sigOwn_nil _ _, (by repeat (first | (with_reducible first | exact Ext.refl _ | assumption | apply Ext.alloc | apply Ext.drew | apply Ext.drewN | refine Ext.setCell ?_ ?_ _ | refine Ext.trans ?_ (by assumption)) | (show _ ≤ _; first | omega | (dsimp only; omega) | (simp; done) | (simp; omega))))⟩
  replace hl : pool.length = 16 := by omega
  have hn1 : ((pool.length : Int) != 16) = false := by simp; omega
  cases hin : inB a 0 15
  · have HI := Lib.hid hin
    have hno : sgnOk seed pool a text = false := by rw [sgnOk, hin]; simp
    have R := Lib.hid (sgn_no hno)
    have RB := Lib.hid hno
    clear hno
    clear hl hin
    go_enter Tryd.func88, Tryd.ntmps88
    go_wp2_with (go_at_call 152; refine (impl_in _ _ _ _).mono ?_; rw [HI.out]; rintro e w' ⟨rfl, rfl⟩)
    refine bodyPost_ret (v := .tuple #[.agg #[.int .i64 0, .slice none 0 0, .slice none 0 0, .slice none 0 0], .bool false]) (by simp [results, Tryd.results88, go_sem]) rfl ?_
    rw [R.out, RB.out]
    exact ⟨_, _, _, _, _, _, rfl, sigOwn_nil _ _, (by repeat (first | (with_reducible first | exact Ext.refl _ | assumption | apply Ext.alloc | apply Ext.drew | apply Ext.drewN | refine Ext.setCell ?_ ?_ _ | refine Ext.trans ?_ (by assumption)) | (show _ ≤ _; first | omega | (dsimp only; omega) | (simp; done) | (simp; omega))))⟩
  by_cases ht : ¬ text.size ≤ 200
  · have HI := Lib.hid hin
    have ht2 : (200 : Int) < text.size := by omega
    have hno : sgnOk seed pool a text = false := by rw [sgnOk, decide_eq_false ht]; simp
    have R := Lib.hid (sgn_no hno)
    have RB := Lib.hid hno
    clear hno
    clear hl hin ht
    go_enter Tryd.func88, Tryd.ntmps88
    go_wp2_with (go_at_call 152; refine (impl_in _ _ _ _).mono ?_; rw [HI.out]; rintro e w' ⟨rfl, rfl⟩)
    refine bodyPost_ret (v := .tuple #[.agg #[.int .i64 0, .slice none 0 0, .slice none 0 0, .slice none 0 0], .bool false]) (by simp [results, Tryd.results88, go_sem]) rfl ?_
    rw [R.out, RB.out]
    exact ⟨_, _, _, _, _, _, rfl, sigOwn_nil _ _, (by repeat (first | (with_reducible first | exact Ext.refl _ | assumption | apply Ext.alloc | apply Ext.drew | apply Ext.drewN | refine Ext.setCell ?_ ?_ _ | refine Ext.trans ?_ (by assumption)) | (show _ ≤ _; first | omega | (dsimp only; omega) | (simp; done) | (simp; omega))))⟩
  replace ht : text.size ≤ 200 := by omega
  have ht2 : ¬ (200 : Int) < text.size := by omega
  obtain ⟨ha0, ha1⟩ := inB_true.1 hin
  obtain ⟨an, rfl⟩ := Int.eq_ofNat_of_zero_le ha0
  have hlt : an < pool.length := by omega
  have han : (an : Int) < pool.length := by omega
  obtain ⟨pb, po, rfl, hpb, hpc⟩ := strs_at h an hlt
  have HPL := Lib.hid hl
  have hp16 : pool.length ≤ 16 := by omega
  by_cases hsd : ¬ seed.size ≤ 100
  · have HI := Lib.hid hin
    have HPN := Lib.hid (pub_no (seed := seed) (a := (an : Int)) (by rw [pubOk, decide_eq_false hsd]; rfl))
    have hno : sgnOk seed pool (an : Int) text = false := by rw [sgnOk, decide_eq_false hsd]; simp
    have R := Lib.hid (sgn_no hno)
    have RB := Lib.hid hno
    clear hno
    clear hl hin hsd hpc
    go_enter Tryd.func88, Tryd.ntmps88
    go_wp2_with fail
    refine (impl_in _ _ _ _).mono ?_
    rw [HI.out]
    rintro e w' ⟨rfl, rfl⟩
    go_wp2_with fail
    refine (impl_PublicOf seed an _ (HT.out.ext (by repeat (first | (with_reducible first | exact Ext.refl _ | assumption | apply Ext.alloc | apply Ext.drew | apply Ext.drewN | refine Ext.setCell ?_ ?_ _ | refine Ext.trans ?_ (by assumption)) | (show _ ≤ _; first | omega | (dsimp only; omega) | (simp; done) | (simp; omega)))))).mono ?_
    rw [HPN.out]
    rintro e w1 ⟨rfl, x1⟩
    have B8 := (Bx.new w #[.int .i64 0, .slice none 0 0, .slice none 0 0, .slice none 0 0] 28).ext x1
    have X1 : Ext w w1 := (by repeat (first | (with_reducible first | exact Ext.refl _ | assumption | apply Ext.alloc | apply Ext.drew | apply Ext.drewN | refine Ext.setCell ?_ ?_ _ | refine Ext.trans ?_ (by assumption)) | (show _ ≤ _; first | omega | (dsimp only; omega) | (simp; done) | (simp; omega))))
    have p0 := B8.2.1 0 _ rfl
    have f0 := B8.2.2 0
    have p1 := B8.2.1 1 _ rfl
    have f1 := B8.2.2 1
    have p2 := B8.2.1 2 _ rfl
    have f2 := B8.2.2 2
    have p3 := B8.2.1 3 _ rfl
    have f3 := B8.2.2 3
    go_wp2
    refine bodyPost_ret (v := .tuple #[.agg #[.int .i64 0, .slice none 0 0, .slice none 0 0, .slice none 0 0], .bool false]) (by simp [results, Tryd.results88, go_sem, p0, p1, p2, p3]) rfl ?_
    rw [R.out, RB.out]
    exact ⟨_, _, _, _, _, _, rfl, sigOwn_nil _ _, (((X1.setCell (Nat.le_refl _) _).setCell (Nat.le_refl _) _).setCell (Nat.le_refl _) _).setCell (Nat.le_refl _) _⟩
  have HPO := Lib.hid (pub_16 (seed := seed) (a := (an : Int)) (by rw [pubOk, decide_eq_true (show seed.size ≤ 100 by omega), hin]; rfl))
  replace hsd : seed.size ≤ 100 := by omega
  by_cases hpk : ¬ pubT seed (an : Int) = pool.getD an ⟨#[]⟩
  · have HI := Lib.hid hin
    have hno : sgnOk seed pool (an : Int) text = false := by rw [sgnOk, Int.toNat_natCast, decide_eq_false hpk]; simp
    have R := Lib.hid (sgn_no hno)
    have RB := Lib.hid hno
    clear hno
    generalize pool.getD an ⟨#[]⟩ = pp at *
    have HPK := Lib.hid hpk
    clear hl hin hpk
    go_enter Tryd.func88, Tryd.ntmps88
    go_wp2_with fail
    refine (impl_in _ _ _ _).mono ?_
    rw [HI.out]
    rintro e w' ⟨rfl, rfl⟩
    go_wp2_with fail
    refine (impl_PublicOf seed an _ (HT.out.ext (by repeat (first | (with_reducible first | exact Ext.refl _ | assumption | apply Ext.alloc | apply Ext.drew | apply Ext.drewN | refine Ext.setCell ?_ ?_ _ | refine Ext.trans ?_ (by assumption)) | (show _ ≤ _; first | omega | (dsimp only; omega) | (simp; done) | (simp; omega)))))).mono ?_
    generalize hgp : pubT seed (an : Int) = pk at *
    have HGP := Lib.hid hgp
    clear hgp
    rintro e w1 ⟨rfl, x1⟩
    have B8 := (Bx.new w #[.int .i64 0, .slice none 0 0, .slice none 0 0, .slice none 0 0] 28).ext x1
    have X1 : Ext w w1 := (by repeat (first | (with_reducible first | exact Ext.refl _ | assumption | apply Ext.alloc | apply Ext.drew | apply Ext.drewN | refine Ext.setCell ?_ ?_ _ | refine Ext.trans ?_ (by assumption)) | (show _ ≤ _; first | omega | (dsimp only; omega) | (simp; done) | (simp; omega))))
    obtain ⟨n1, n2⟩ := not_empty (s := pk) (by have := HPO.out; omega)
    have e1 : w1.cell? ⟨pb, po + an, none⟩ = some (.string pp) := (X1.cell _ _ hpb).trans hpc
    have q1 : (pk.toList != pp.toList) = true := by rw [bne, toList_beq, decide_eq_false HPK.out]; rfl
    have q2 : (pk.toList == pp.toList) = false := by rw [toList_beq, decide_eq_false HPK.out]
    have p0 := B8.2.1 0 _ rfl
    have f0 := B8.2.2 0
    have p1 := B8.2.1 1 _ rfl
    have f1 := B8.2.2 1
    have p2 := B8.2.1 2 _ rfl
    have f2 := B8.2.2 2
    have p3 := B8.2.1 3 _ rfl
    have f3 := B8.2.2 3
    go_wp2
    refine bodyPost_ret (v := .tuple #[.agg #[.int .i64 0, .slice none 0 0, .slice none 0 0, .slice none 0 0], .bool false]) (by simp [results, Tryd.results88, go_sem, p0, p1, p2, p3]) rfl ?_
    rw [R.out, RB.out]
    exact ⟨_, _, _, _, _, _, rfl, sigOwn_nil _ _, (((X1.setCell (Nat.le_refl _) _).setCell (Nat.le_refl _) _).setCell (Nat.le_refl _) _).setCell (Nat.le_refl _) _⟩
  replace hpk : pubT seed (an : Int) = pool.getD an ⟨#[]⟩ := Classical.not_not.1 hpk
  have hok : sgnOk seed pool (an : Int) text = true := by rw [sgnOk, Int.toNat_natCast, decide_eq_true hl, decide_eq_true ht, decide_eq_true hsd, decide_eq_true hpk, hin]; rfl
  have R := Lib.hid (sgn_yes hok)
  have RB := Lib.hid hok
  have HI := Lib.hid hin
  have HA := HI
  have HPK := Lib.hid hpk.symm
  clear hl hin hpk hok
  go_enter Tryd.func88, Tryd.ntmps88
  go_wp2_with fail
  refine (impl_in _ _ _ _).mono ?_
  rw [HI.out]
  rintro e w' ⟨rfl, rfl⟩
  go_wp2_with fail
  refine (impl_PublicOf seed an _ (HT.out.ext (by repeat (first | (with_reducible first | exact Ext.refl _ | assumption | apply Ext.alloc | apply Ext.drew | apply Ext.drewN | refine Ext.setCell ?_ ?_ _ | refine Ext.trans ?_ (by assumption)) | (show _ ≤ _; first | omega | (dsimp only; omega) | (simp; done) | (simp; omega)))))).mono ?_
  rw [HPK.out] at hpc
  generalize hgp : pubT seed (an : Int) = pk at *
  clear hgp
  rintro e w1 ⟨rfl, x1⟩
  have B8 := (Bx.new w #[.int .i64 0, .slice none 0 0, .slice none 0 0, .slice none 0 0] 28).ext x1
  have X1 : Ext w w1 := (by repeat (first | (with_reducible first | exact Ext.refl _ | assumption | apply Ext.alloc | apply Ext.drew | apply Ext.drewN | refine Ext.setCell ?_ ?_ _ | refine Ext.trans ?_ (by assumption)) | (show _ ≤ _; first | omega | (dsimp only; omega) | (simp; done) | (simp; omega))))
  have s81 := B8.1
  obtain ⟨n1, n2⟩ := not_empty (s := pk) (by have := HPO.out; omega)
  have e1 : w1.cell? ⟨pb, po + an, none⟩ = some (.string pk) := (X1.cell _ _ hpb).trans hpc
  have B := Bx.new w1 #[.int .i64 (an : Int), .slice none 0 0, .slice none 0 0, .slice none 0 0] 28
  have e2 : Ext w1 (w1.alloc (Obj.cells #[.int .i64 (an : Int), .slice none 0 0, .slice none 0 0, .slice none 0 0] 28)) := (by repeat (first | (with_reducible first | exact Ext.refl _ | assumption | apply Ext.alloc | apply Ext.drew | apply Ext.drewN | refine Ext.setCell ?_ ?_ _ | refine Ext.trans ?_ (by assumption)) | (show _ ≤ _; first | omega | (dsimp only; omega) | (simp; done) | (simp; omega))))
  go_wp2_with fail
  refine (impl_SignBitsOf text _ ht (HT.out.ext (X1.trans e2))).mono ?_
  generalize hgi : sgIdx text = ix at *
  have HGI := Lib.hid hgi
  clear hgi e1 hpc n1 n2
  rintro e w2 ⟨rfl, x2⟩
  replace B := B.ext x2
  replace B8 := (B8.ext e2).ext x2
  have X2 := (X1.trans e2).trans x2
  have s2 : w1.heap.size < w2.heap.size := B.1
  go_wp2
  go_loopw [49] (fun i wr => ∃ (k : Nat) (a1 a2 : Option Addr) (c1 c2 : Nat), i = .int .i64 k ∧ k ≤ 8 ∧ Bx wr w1.heap.size [.int .i64 (an : Int), .slice a1 k c1, .slice a2 k c2, .slice none 0 0] ∧ wr.ownsRow (w1.heap.size + 1) 9 1 (.slice a1 k c1) k ((sgnOpK seed an text k).map Value.string) ∧ wr.ownsRow (w1.heap.size + 1) 9 1 (.slice a2 k c2) k ((sgnShK seed an text k).map Value.string) ∧ Off (.slice a1 k c1) (.slice a2 k c2) ∧ Bx wr w.heap.size [.int .i64 0, .slice none 0 0, .slice none 0 0, .slice none 0 0] ∧ Ext w wr ∧ w1.heap.size < wr.heap.size) (fun i _ => 8 - (intOf i).toNat)
  case atStart => exact ⟨0, none, none, 0, 0, rfl, by omega, B, World.ownsRow_nil _ _ _ _, World.ownsRow_nil _ _ _ _, nil_off _, B8, X2, s2⟩
  case round =>
    clear B B8 X2 s2 x2 e2
    obtain ⟨k, a1, a2, c1, c2, rfl, hk, B, own1, own2, hoff, B8, hx, s2⟩ := hrel
    by_cases hlt8 : k < 8
    · have hlt8' : (k : Int) < 8 := by omega
      have HB := Lib.hid (show inB (k : Int) 0 7 = true from inB_true.2 (by omega))
      have HO1 := Lib.hid own1
      have HO2 := Lib.hid own2
      have HOF := Lib.hid hoff
      have HBB := Lib.hid B
      have HB8 := Lib.hid B8
      have HS1 := Lib.hid (sgnOp_succ seed an text k)
      have HS2 := Lib.hid (sgnSh_succ seed an text k)
      rw [HGI.out] at HS1 HS2
      clear own1 own2 hoff B8
      go_wp2_with fail
      refine (impl_BitOf ix k _).mono ?_
      have hbt := bitT_two ix k
      generalize bitT ix k = bv at *
      rintro e w' ⟨rfl, rfl⟩
      have HV := Lib.hid (show inB bv 0 1 = true from inB_true.2 (by omega))
      have HV2 := Lib.hid (show inB (1 - bv) 0 1 = true from inB_true.2 (by omega))
      have hw1 : IntKind.i64.wrap (1 - bv) = 1 - bv := IntWalk.i64_in _ (by omega)
      generalize hsc : secT seed an k bv = sc at *
      generalize hsd2 : secT seed an k (1 - bv) = sd at *
      have HSC := Lib.hid hsc
      have HSD := Lib.hid hsd2
      have zsd : sd.size = 16 := by rw [← hsd2]; exact sec_16 _ _ _ hsd
      clear hsc hsd2
      have m1 := B.2.1 1 _ rfl
      have lB := B.1
      clear B
      go_wp2_with fail
      go_region_law (first | (refine step_append_lies _ rfl (.tmp 56) (.tmp 62) 22 (by rfl) (w1.heap.size + 1) 9 i0 (.string ⟨#[]⟩) 1 16 Tryd.underlying22 hi hz0 hz1 hz2 rfl (by decide) _ _ _ (by rfl) (own_alloc O1b _) ⟨wB.heap.size, 0, none⟩ 1 1 [.string sc] (by rfl) rfl (World.news_of_block (heap_alloc_new wB (Obj.cells #[Value.string sc] 9))) (by intro u hu; simp at hu; rcases hu with rfl; rfl) (by decide) (by unfold maxLen; omega) (by omega) (by simp; omega) _ rfl ?_; intro g cap w9 hown9 hgrow hat hlt9; have B9 := ((HBB.out.ext y2).ext ((Ext.refl wB).alloc (Obj.cells #[Value.string sc] 9))).grown hgrow (fun e => by have := (own_lt O1b _ e).1; omega); have R9 := Lib.hid (((HB8.out.ext y2).ext ((Ext.refl wB).alloc (Obj.cells #[Value.string sc] 9))).grown hgrow (fun e => by have := (own_lt O1b _ e).1; omega)); have O2c := Lib.hid (own_grown2 (own_alloc O2b (Obj.cells #[Value.string sc] 9)) hgrow (fun k hk e => HOF.out k hk e)); have x9 : Ext w w9 := own_ext_of ((hx.trans y2).alloc _) (own_alloc O1b _) hgrow (by omega); have OF9 := Lib.hid (off_lies (v' := .slice (some ⟨g, 0, none⟩) (k + 1) cap) HOF.out rfl hat (fun k e => by have := (own_lt O2b k e).2; rw [World.size_alloc]; omega)); have c9 := B9.2.1 1 _ rfl; have f9 := B9.2.2 1; replace B9 := Lib.hid B9; have O9 := Lib.hid hown9; clear hgrow hat hown9) | (go_simp; go_at_call 161; refine (impl_SecretOf seed an k bv _ hsd HA.out HB.out HV.out (by exact HT.out.ext (by repeat (first | (with_reducible first | exact Ext.refl _ | assumption | apply Ext.alloc | apply Ext.drew | apply Ext.drewN | refine Ext.setCell ?_ ?_ _ | refine Ext.trans ?_ (by assumption)) | (show _ ≤ _; first | omega | (dsimp only; omega) | (simp; done) | (simp; omega)))))).mono ?_; rw [HSC.out]; rintro e wB ⟨rfl, xB⟩; have y2 : Ext wr wB := (by repeat (first | (with_reducible first | exact Ext.refl _ | assumption | apply Ext.alloc | apply Ext.drew | apply Ext.drewN | refine Ext.setCell ?_ ?_ _ | refine Ext.trans ?_ (by assumption)) | (show _ ≤ _; first | omega | (dsimp only; omega) | (simp; done) | (simp; omega)))); have q1 := (y2.cell _ _ lB).trans m1; have O1b := own_ext HO1.out y2; have O2b := own_ext HO2.out y2; have lB2 := Nat.lt_of_lt_of_le lB y2.size))
      all_goals
        go_wp2_with fail
        replace B9 := B9.out.set 1 (.slice (some ⟨g, 0, none⟩) (k + 1) cap) (by simp)
        have HR10 := Lib.hid (R9.out.far (c := w1.heap.size) (by omega) 1 (.slice (some ⟨g, 0, none⟩) (k + 1) cap))
        have HO1c := Lib.hid (own_below O9.out (p := ⟨w1.heap.size, 1, none⟩) (u := .slice (some ⟨g, 0, none⟩) (k + 1) cap) (by dsimp only; omega))
        have HO2c := Lib.hid (own_below O2c.out (p := ⟨w1.heap.size, 1, none⟩) (u := .slice (some ⟨g, 0, none⟩) (k + 1) cap) (by dsimp only; omega))
        have x10 : Ext w (w9.setCell ⟨w1.heap.size, 1, none⟩ (.slice (some ⟨g, 0, none⟩) (k + 1) cap)) := x9.setCell (by dsimp only; omega) _
        have hat10 : w1.heap.size < (w9.setCell ⟨w1.heap.size, 1, none⟩ (.slice (some ⟨g, 0, none⟩) (k + 1) cap)).heap.size := B9.1
        generalize w9.setCell ⟨w1.heap.size, 1, none⟩ (.slice (some ⟨g, 0, none⟩) (k + 1) cap) = W10 at *
        have HBC := Lib.hid B9
        have m2 := B9.2.1 2 _ rfl
        clear B9 R9 O9 O2c x9
        go_region_law (first | (refine step_append_lies _ rfl (.tmp 66) (.tmp 74) 22 (by rfl) (w1.heap.size + 1) 9 i0 (.string ⟨#[]⟩) 1 16 Tryd.underlying22 hi hz0 hz1 hz2 rfl (by decide) _ _ _ (by rfl) (own_alloc O2d _) ⟨wD.heap.size, 0, none⟩ 1 1 [.string (lkH sd)] (by rfl) rfl (World.news_of_block (heap_alloc_new wD (Obj.cells #[Value.string (lkH sd)] 9))) (by intro u hu; simp at hu; rcases hu with rfl; rfl) (by decide) (by unfold maxLen; omega) (by omega) (by simp; omega) _ rfl ?_; intro g5 cap5 we hown9 hgrow hat hlt9; have B9 := ((HBC.out.ext y4).ext ((Ext.refl wD).alloc (Obj.cells #[Value.string (lkH sd)] 9))).grown hgrow (fun e => by have := (own_lt O2d _ e).1; omega); have RE := Lib.hid (((HR10.out.ext y4).ext ((Ext.refl wD).alloc (Obj.cells #[Value.string (lkH sd)] 9))).grown hgrow (fun e => by have := (own_lt O2d _ e).1; omega)); have OE1 := Lib.hid (own_grown2 (own_alloc O1d (Obj.cells #[Value.string (lkH sd)] 9)) hgrow (fun k hk e => OF9.out k e hk)); have xe : Ext w we := own_ext_of ((x10.trans y4).alloc _) (own_alloc O2d _) hgrow (by omega); have OFE := Lib.hid (Off.symm (off_lies (v' := .slice (some ⟨g5, 0, none⟩) (k + 1) cap5) (Off.symm OF9.out) rfl hat (fun k e => by have := (own_lt O1d k e).2; rw [World.size_alloc]; omega))); have c9 := B9.2.1 2 _ rfl; have f9 := B9.2.2 2; have BE := Lib.hid B9; have OE2 := Lib.hid hown9; clear hgrow hat hown9 B9) | (go_simp; go_at_call 161; refine (impl_SecretOf seed an k (1 - bv) _ hsd HA.out HB.out HV2.out (by exact HT.out.ext (by repeat (first | (with_reducible first | exact Ext.refl _ | assumption | apply Ext.alloc | apply Ext.drew | apply Ext.drewN | refine Ext.setCell ?_ ?_ _ | refine Ext.trans ?_ (by assumption)) | (show _ ≤ _; first | omega | (dsimp only; omega) | (simp; done) | (simp; omega)))))).mono ?_; rw [HSD.out]; rintro e wC ⟨rfl, xC⟩; have y3 : Ext W10 wC := (by repeat (first | (with_reducible first | exact Ext.refl _ | assumption | apply Ext.alloc | apply Ext.drew | apply Ext.drewN | refine Ext.setCell ?_ ?_ _ | refine Ext.trans ?_ (by assumption)) | (show _ ≤ _; first | omega | (dsimp only; omega) | (simp; done) | (simp; omega)))); have q2 := (y3.cell _ _ hat10).trans m2; have lC2 := Nat.lt_of_lt_of_le hat10 y3.size) | (go_simp; go_at_call 162; refine (impl_LockOf sd _ (by unfold maxLen; omega) (by exact HT.out.ext (by repeat (first | (with_reducible first | exact Ext.refl _ | assumption | apply Ext.alloc | apply Ext.drew | apply Ext.drewN | refine Ext.setCell ?_ ?_ _ | refine Ext.trans ?_ (by assumption)) | (show _ ≤ _; first | omega | (dsimp only; omega) | (simp; done) | (simp; omega)))))).mono ?_; rintro e wD ⟨rfl, xD⟩; have y4 : Ext W10 wD := (by repeat (first | (with_reducible first | exact Ext.refl _ | assumption | apply Ext.alloc | apply Ext.drew | apply Ext.drewN | refine Ext.setCell ?_ ?_ _ | refine Ext.trans ?_ (by assumption)) | (show _ ≤ _; first | omega | (dsimp only; omega) | (simp; done) | (simp; omega)))); have q3 := (y4.cell _ _ hat10).trans m2; have O1d := own_ext HO1c.out y4; have O2d := own_ext HO2c.out y4; have lD2 := Nat.lt_of_lt_of_le hat10 y4.size))
        all_goals
          go_wp2
          go_roundw
          case rel => exact ⟨k + 1, _, _, _, _, by go_num, by omega, BE.out.set 2 _ (by simp), by rw [HS1.out, List.map_append]; exact own_below OE1.out (by dsimp only; omega), by rw [HS2.out, List.map_append]; exact own_below OE2.out (by dsimp only; omega), OFE.out, RE.out.far (by omega) _ _, xe.setCell (by dsimp only; omega) _, by rw [World.size_setCell]; exact BE.out.1⟩
          case measure => simp [intOf]; omega
    · obtain rfl : k = 8 := by omega
      have HO1 := Lib.hid own1
      have HO2 := Lib.hid own2
      have HOF := Lib.hid hoff
      have L1 := own_lt own1
      have L2 := own_lt own2
      clear own1 own2 hoff
      go_wp2
      go_loopw [15, 16] (fun lv sv wr => ∃ (n s : Nat) (ys acc : List ByteArray) (a3 : Option Addr) (c3 : Nat), sv = .int .i64 (s : Nat) ∧ s < 2 ^ n ∧ ys.length = 2 ^ n ∧ acc.length + n = 4 ∧ Strs wr lv ys ∧ (∀ k, lv.ownBlock = some k → k < w.heap.size ∨ w1.heap.size < k) ∧ Bx wr w1.heap.size [.int .i64 (an : Int), .slice a1 8 c1, .slice a2 8 c2, .slice a3 acc.length c3] ∧ wr.ownsRow (w1.heap.size + 1) 9 1 (.slice a3 acc.length c3) acc.length (acc.map Value.string) ∧ Off (.slice a3 acc.length c3) lv ∧ (Off (.slice a1 8 c1) (.slice a3 acc.length c3) ∧ Off (.slice a2 8 c2) (.slice a3 acc.length c3)) ∧ wr.ownsRow (w1.heap.size + 1) 9 1 (.slice a1 8 c1) 8 ((sgnOpK seed an text 8).map Value.string) ∧ wr.ownsRow (w1.heap.size + 1) 9 1 (.slice a2 8 c2) 8 ((sgnShK seed an text 8).map Value.string) ∧ Bx wr w.heap.size [.int .i64 0, .slice none 0 0, .slice none 0 0, .slice none 0 0] ∧ acc ++ sideT 16 n s ys = sideT 16 4 an pool ∧ (∀ s ∈ ys, s.size ≤ maxLen) ∧ Ext w wr) (fun lv _ _ => lenOf lv)
      case atStart => exact ⟨4, an, pool, [], none, 0, rfl, by omega, HPL.out, rfl, h.ext hx, (fun k e => Or.inl (by injection e with e; dsimp only at e; omega)), B, World.ownsRow_nil _ _ _ _, nil_off _, ⟨off_nil _, off_nil _⟩, HO1.out, HO2.out, B8, rfl, hs, hx⟩
      case round =>
        clear B B8 hx s2
        obtain ⟨n, s, ys, acc, a3, c3, rfl, hs2', hyl, hac, hst, hlb, B, own3, hof3, ⟨hof1, hof2⟩, own1, own2, B8, htop, hfit, hx⟩ := hrel
        obtain ⟨ay, cy, rfl⟩ := hst.form
        cases n with
        | zero =>
          have hy1 : ys.length = 1 := hyl
          have hgt : ¬ ((1 : Int) < ys.length) := by omega
          have HH := Lib.hid (show acc = sideT 16 4 an pool by rw [← htop]; simp [sideT])
          have p0 := B.2.1 0 _ rfl
          have p1 := B.2.1 1 _ rfl
          have p2 := B.2.1 2 _ rfl
          have p3 := B.2.1 3 _ rfl
          have z0 := B8.2.1 0 _ rfl
          have z1 := B8.2.1 1 _ rfl
          have z2 := B8.2.1 2 _ rfl
          have z3 := B8.2.1 3 _ rfl
          have f0 := B8.2.2 0
          have f1 := B8.2.2 1
          have f2 := B8.2.2 2
          have f3 := B8.2.2 3
          have b4 := fun (e : List Value) (v : Value) (n : Nat) (ho : wr.ownsRow (w1.heap.size + 1) 9 1 v n e) => own_below (own_below (own_below (own_below ho (p := ⟨w.heap.size, 0, none⟩) (u := .int .i64 (an : Int)) (by dsimp only; omega)) (p := ⟨w.heap.size, 1, none⟩) (u := .slice a1 8 c1) (by dsimp only; omega)) (p := ⟨w.heap.size, 2, none⟩) (u := .slice a2 8 c2) (by dsimp only; omega)) (p := ⟨w.heap.size, 3, none⟩) (u := .slice a3 acc.length c3) (by dsimp only; omega)
          have Q1 := Lib.hid (b4 _ _ _ own1)
          have Q2 := Lib.hid (b4 _ _ _ own2)
          have Q3 := Lib.hid (b4 _ _ _ own3)
          have HF1 := Lib.hid hof1
          have HF2 := Lib.hid hof2
          have xF : Ext w ((((wr.setCell ⟨w.heap.size, 0, none⟩ (.int .i64 (an : Int))).setCell ⟨w.heap.size, 1, none⟩ (.slice a1 8 c1)).setCell ⟨w.heap.size, 2, none⟩ (.slice a2 8 c2)).setCell ⟨w.heap.size, 3, none⟩ (.slice a3 acc.length c3)) := (((hx.setCell (by dsimp only; omega) _).setCell (by dsimp only; omega) _).setCell (by dsimp only; omega) _).setCell (by dsimp only; omega) _
          have RR := Lib.hid ((((B8.set 0 (.int .i64 (an : Int)) (by simp)).set 1 (.slice a1 8 c1) (by simp)).set 2 (.slice a2 8 c2) (by simp)).set 3 (.slice a3 acc.length c3) (by simp))
          clear htop own1 own2 own3 hof1 hof2 hof3 b4 B B8 hst hlb hs2' hyl hac
          go_wp2
          generalize (((wr.setCell ⟨w.heap.size, 0, none⟩ (.int .i64 (an : Int))).setCell ⟨w.heap.size, 1, none⟩ (.slice a1 8 c1)).setCell ⟨w.heap.size, 2, none⟩ (.slice a2 8 c2)).setCell ⟨w.heap.size, 3, none⟩ (.slice a3 acc.length c3) = WF at *
          have k0 := RR.out.2.1 0 _ rfl
          have k1 := RR.out.2.1 1 _ rfl
          have k2 := RR.out.2.1 2 _ rfl
          have k3 := RR.out.2.1 3 _ rfl
          refine bodyPost_ret (v := .tuple #[.agg #[.int .i64 (an : Int), .slice a1 8 c1, .slice a2 8 c2, .slice a3 acc.length c3], .bool true]) (by simp [results, Tryd.results88, go_sem, k0, k1, k2, k3]) rfl ?_
          rw [R.out, RB.out, Int.toNat_natCast, ← HH.out]
          refine ⟨a1, c1, a2, c2, a3, c3, ?_, ⟨?_, ?_, ?_, ?_, ?_, ?_⟩, xF⟩
          · simp only [sgnOp_len, sgnSh_len]
          · unfold OwnStrs; simp only [sgnOp_len]; exact own_mono Q1.out (by omega)
          · unfold OwnStrs; simp only [sgnSh_len]; exact own_mono Q2.out (by omega)
          · exact own_mono Q3.out (by omega)
          · simp only [sgnOp_len, sgnSh_len]; exact HOF.out
          · simp only [sgnOp_len]; exact HF1.out
          · simp only [sgnSh_len]; exact HF2.out
        | succ n =>
          have hp : 0 < 2 ^ n := Nat.pow_pos (by decide)
          have hp2 : 2 ^ n ≤ 2 ^ 3 := Nat.pow_le_pow_right (by decide) (by omega)
          rw [Nat.pow_succ] at hyl hs2'
          have hgt : (1 : Int) < ys.length := by omega
          have hul : (upL ys 16).length = 2 ^ n := by rw [upL_length]; omega
          have hb : ys.length ≤ 1000 := by omega
          have hs15 : s < 16 := by omega
          have hxor := beside16 ⟨s, hs15⟩
          have jq := (half_all ⟨s, hs15⟩).2
          dsimp only at hxor jq
          have htl : besideN s < ys.length := by rw [hyl]; exact beside_lt hs2'
          have hltm : (upL ys 16).length < ys.length := by omega
          have HU := Lib.hid hul
          have HH := Lib.hid htop
          have HS := Lib.hid (show s / 2 < 2 ^ n by omega)
          have HAC := Lib.hid hac
          obtain ⟨b1, o1, rfl, hb1, e1⟩ := strs_at hst (besideN s) htl
          generalize hT' : ys.getD (besideN s) ⟨#[]⟩ = T at *
          have HG := Lib.hid hT'
          generalize hX : besideN s = x at *
          have HX := Lib.hid hX
          have j1 : (0 : Int) ≤ (x : Int) := by omega
          have j2 : (x : Int) < ys.length := by omega
          have jw : IntKind.i64.wrap (((s / 2 : Nat) : Int)) = ((s / 2 : Nat) : Int) := IntWalk.i64_in _ (by omega)
          have hal : acc.length ≤ 4 := by omega
          have HO3 := Lib.hid own3
          have HP1 := Lib.hid own1
          have HP2 := Lib.hid own2
          have HB3 := Lib.hid B
          have HB8 := Lib.hid B8
          have HST := Lib.hid hst
          have HF1 := Lib.hid hof1
          have HF2 := Lib.hid hof2
          have HF3 := Lib.hid hof3
          have m3 := B.2.1 3 _ rfl
          have lB := B.1
          have eW : Ext wr (wr.drew.alloc (Obj.cells #[Value.string T] 9)) := (by repeat (first | (with_reducible first | exact Ext.refl _ | assumption | apply Ext.alloc | apply Ext.drew | apply Ext.drewN | refine Ext.setCell ?_ ?_ _ | refine Ext.trans ?_ (by assumption)) | (show _ ≤ _; first | omega | (dsimp only; omega) | (simp; done) | (simp; omega))))
          clear htop hul hyl hp hp2 hs2' hT' hX hac own1 own2 own3 B B8 hst hof1 hof2 hof3
          go_wp2_with fail
          go_region_law ((refine step_append_lies _ rfl (.tmp 88) (.tmp 94) 22 (by rfl) (w1.heap.size + 1) 9 i0 (.string ⟨#[]⟩) 1 16 Tryd.underlying22 hi hz0 hz1 hz2 rfl (by decide) _ _ _ (by rfl) (own_alloc (own_drew HO3.out) _) ⟨wr.heap.size, 0, none⟩ 1 1 [.string T] (by rfl) rfl (World.news_of_block (heap_alloc_new wr.drew (Obj.cells #[Value.string T] 9))) (by intro u hu; simp at hu; rcases hu with rfl; rfl) (by decide) (by unfold maxLen; omega) (by omega) (by simp; omega) _ rfl ?_; intro g cap w9 hown9 hgrow hat hlt9; have B9 := (HB3.out.ext eW).grown hgrow (fun e => by have := (own_lt HO3.out _ e).1; omega); have R9 := Lib.hid ((HB8.out.ext eW).grown hgrow (fun e => by have := (own_lt HO3.out _ e).1; omega)); have P1c := Lib.hid (own_grown2 (own_ext HP1.out eW) hgrow (fun k hk e => HF1.out k e hk)); have P2c := Lib.hid (own_grown2 (own_ext HP2.out eW) hgrow (fun k hk e => HF2.out k e hk)); have st9 := Lib.hid (row_grown (HST.out.ext eW) hgrow (fun k hk e => HF3.out k hk e)); have x9 : Ext w w9 := own_ext_of (hx.trans eW) (own_alloc (own_drew HO3.out) _) hgrow (by omega); have N1 := Lib.hid (Off.symm (off_lies (v' := .slice (some ⟨g, 0, none⟩) (acc.length + 1) cap) (Off.symm HF1.out) rfl hat (fun k e => by have := (own_lt HP1.out k e).2; show k < (wr.alloc (Obj.cells #[Value.string T] 9)).heap.size; rw [World.size_alloc]; exact Nat.lt_succ_of_lt this))); have N2 := Lib.hid (Off.symm (off_lies (v' := .slice (some ⟨g, 0, none⟩) (acc.length + 1) cap) (Off.symm HF2.out) rfl hat (fun k e => by have := (own_lt HP2.out k e).2; show k < (wr.alloc (Obj.cells #[Value.string T] 9)).heap.size; rw [World.size_alloc]; exact Nat.lt_succ_of_lt this))); have c9 := B9.2.1 3 _ rfl; have f9 := B9.2.2 3; replace B9 := Lib.hid B9; have O9 := Lib.hid hown9; clear hgrow hat hown9 eW))
          all_goals
            go_wp2_with fail
            have gS : w9.grownBy (w9.setCell ⟨w1.heap.size, 3, none⟩ (.slice (some ⟨g, 0, none⟩) (acc.length + 1) cap)) (some w1.heap.size) := (Mut.refl w1.heap.size w9).setCell 3 _
            have B10 := B9.out.set 3 (.slice (some ⟨g, 0, none⟩) (acc.length + 1) cap) (by simp)
            have R10 := R9.out.far (c := w1.heap.size) (by omega) 3 (.slice (some ⟨g, 0, none⟩) (acc.length + 1) cap)
            have P1d := own_below P1c.out (p := ⟨w1.heap.size, 3, none⟩) (u := .slice (some ⟨g, 0, none⟩) (acc.length + 1) cap) (by dsimp only; omega)
            have P2d := own_below P2c.out (p := ⟨w1.heap.size, 3, none⟩) (u := .slice (some ⟨g, 0, none⟩) (acc.length + 1) cap) (by dsimp only; omega)
            have O3d := own_below O9.out (p := ⟨w1.heap.size, 3, none⟩) (u := .slice (some ⟨g, 0, none⟩) (acc.length + 1) cap) (by dsimp only; omega)
            have st10 := row_grown st9.out gS (fun k hk e => by injection hk with hk; have := hlb k e; omega)
            have x10 : Ext w (w9.setCell ⟨w1.heap.size, 3, none⟩ (.slice (some ⟨g, 0, none⟩) (acc.length + 1) cap)) := x9.setCell (by dsimp only; omega) _
            generalize w9.setCell ⟨w1.heap.size, 3, none⟩ (.slice (some ⟨g, 0, none⟩) (acc.length + 1) cap) = W10 at *
            refine (impl_above2 _ ys 16 _ st10 hfit hb (by exact HT.out.ext x10)).mono ?_
            rintro e w4 ⟨a4, c4, rfl, o4, x4⟩
            have s4 := o4.strs
            have hz4 := B10.1
            have HOFn := Lib.hid (show Off (.slice (some ⟨g, 0, none⟩) (acc.length + 1) cap) (.slice a4 (upL ys 16).length c4) from off_new O3d o4 (Nat.le_refl _))
            have hl4 : ∀ k, (Value.slice a4 (upL ys 16).length c4).ownBlock = some k → k < w.heap.size ∨ w1.heap.size < k := fun k e => Or.inr (by have := (own_lt o4 k e).1; omega)
            have Z1 := Lib.hid (own_ext P1d x4)
            have Z2 := Lib.hid (own_ext P2d x4)
            have Z3 := Lib.hid (own_ext O3d x4)
            have Z4 := Lib.hid (B10.ext x4)
            have Z5 := Lib.hid (R10.ext x4)
            have x5 := x10.trans x4
            clear o4 P1d P2d O3d B10 R10 st10 gS c9 f9 x9 x4
            go_wp2
            go_roundw
            case rel => first | exact ⟨n, s / 2, upL ys 16, acc ++ [T], some ⟨g, 0, none⟩, cap, by go_num, HS.out, HU.out, by have := HAC.out; rw [List.length_append, List.length_singleton]; omega, s4, hl4, by rw [List.length_append]; exact Z4.out, by rw [List.length_append, List.map_append]; exact Z3.out, by rw [List.length_append]; exact HOFn.out, by rw [List.length_append]; exact ⟨N1.out, N2.out⟩, Z1.out, Z2.out, Z5.out, by rw [← HH.out, sideT, HX.out, HG.out]; simp, up_fit _ _ _, x5⟩ | ((repeat apply Exists.intro); exact ⟨⟨n, s / 2, upL ys 16, acc ++ [T], some ⟨g, 0, none⟩, cap, by go_num, HS.out, HU.out, by have := HAC.out; rw [List.length_append, List.length_singleton]; omega, s4, hl4, by rw [List.length_append]; exact Z4.out, by rw [List.length_append, List.map_append]; exact Z3.out, by rw [List.length_append]; exact HOFn.out, by rw [List.length_append]; exact ⟨N1.out, N2.out⟩, Z1.out, Z2.out, Z5.out, by rw [← HH.out, sideT, HX.out, HG.out]; simp, up_fit _ _ _, x5⟩, rfl⟩)
            case measure => exact hltm
end Go.Proofs.YtliebkhfddmhjaaDoor
