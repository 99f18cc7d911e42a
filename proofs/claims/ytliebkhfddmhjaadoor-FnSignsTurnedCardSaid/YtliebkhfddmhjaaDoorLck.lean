/- The laws' own function locked, of two right signatures of one text. -/
import Derived.Test.YtliebkhfddmhjaaDoorLkX
import Derived.Test.YtliebkhfddmhjaaDoorSm
import Derived.Test.YtliebkhfddmhjaaDoorSigW
namespace Go.Proofs.YtliebkhfddmhjaaDoor
open Go.RowKit

theorem texts_fit2 (x : ByteArray) (s : SigV) : ∀ t ∈ sgTexts x s, t.size ≤ 1073741824 := by
  intro t ht
  rw [sgTexts] at ht
  split at ht
  · rw [sgUp, List.mem_append, sgMid, List.mem_append, sgLow, List.mem_map, List.mem_map] at ht
    rcases ht with (⟨j, -, rfl⟩ | ht) | ⟨j, -, rfl⟩
    · exact tagTx_size _ _
    · simp at ht; rw [ht]; exact tagTx_size _ _
    · exact tagTx_size _ _
  · simp at ht
theorem getD_fit2 {ss : List ByteArray} {m : Nat} (h : ∀ s ∈ ss, s.size ≤ m) (k : Nat) : (ss.getD k ⟨#[]⟩).size ≤ m := by
  rw [List.getD_eq_getElem?_getD]
  cases e : ss[k]? with
  | none => exact Nat.zero_le _
  | some t => exact h t (List.mem_of_getElem? e)
set_option maxRecDepth 100000 in
set_option maxHeartbeats 12800000 in
theorem laws_locked (x root : ByteArray) (a b : SigV) (v1 v2 v3 u1 u2 u3 : Value) (w : World) (ha : sigOkB root x a = true) (hb : sigOkB root x b = true) (hat : a.at_ = b.at_) (h1 : Strs w v1 a.op) (h2 : Strs w v2 a.sh) (h3 : Strs w v3 a.si) (g1 : Strs w u1 b.op) (g2 : Strs w u2 b.sh) (g3 : Strs w u3 b.si) (hT : Tabs w) :
    Calls Tryd.prog 39 #[.string x, .agg #[.int .i64 a.at_, v1, v2, v3], .string x, .agg #[.int .i64 b.at_, u1, u2, u3]] w fun e w' => e = .returned (.bool true) ∧ Ext w w' := by
  obtain ⟨a1, c1, rfl⟩ := h1.form
  obtain ⟨a2, c2, rfl⟩ := h2.form
  obtain ⟨a3, c3, rfl⟩ := h3.form
  obtain ⟨b1, d1, rfl⟩ := g1.form
  obtain ⟨b2, d2, rfl⟩ := g2.form
  obtain ⟨b3, d3, rfl⟩ := g3.form
  have HT := Lib.hid hT
  clear hT
  obtain ⟨l1, l2, l3⟩ := locked_law ha hb hat
  have L1 := Lib.hid l1
  have L2 := Lib.hid l2
  have L3 := Lib.hid l3
  obtain ⟨wa, hx, -⟩ := sigOk_parts ha
  obtain ⟨wb, -, -⟩ := sigOk_parts hb
  have FA := Lib.hid (sig_fit wa)
  have FB := Lib.hid (sig_fit wb)
  have NA := Lib.hid (sgTexts_len wa hx)
  have NB := Lib.hid (sgTexts_len wb hx)
  clear l1 l2 l3 wa wb ha hb hat
  have X : Ext w ((w.alloc (Obj.cells #[.int .i64 a.at_, .slice a1 a.op.length c1, .slice a2 a.sh.length c2, .slice a3 a.si.length c3] 28)).alloc (Obj.cells #[.int .i64 b.at_, .slice b1 b.op.length d1, .slice b2 b.sh.length d2, .slice b3 b.si.length d3] 28)) := ((Ext.refl w).alloc _).alloc _
  have P : Bx ((w.alloc (Obj.cells #[.int .i64 a.at_, .slice a1 a.op.length c1, .slice a2 a.sh.length c2, .slice a3 a.si.length c3] 28)).alloc (Obj.cells #[.int .i64 b.at_, .slice b1 b.op.length d1, .slice b2 b.sh.length d2, .slice b3 b.si.length d3] 28)) w.heap.size [.int .i64 a.at_, .slice a1 a.op.length c1, .slice a2 a.sh.length c2, .slice a3 a.si.length c3] := (Bx.new w _ _).ext ((Ext.refl _).alloc _)
  have Q : Bx ((w.alloc (Obj.cells #[.int .i64 a.at_, .slice a1 a.op.length c1, .slice a2 a.sh.length c2, .slice a3 a.si.length c3] 28)).alloc (Obj.cells #[.int .i64 b.at_, .slice b1 b.op.length d1, .slice b2 b.sh.length d2, .slice b3 b.si.length d3] 28)) (w.heap.size + 1) [.int .i64 b.at_, .slice b1 b.op.length d1, .slice b2 b.sh.length d2, .slice b3 b.si.length d3] := by
    have e := Bx.new (w.alloc (Obj.cells #[.int .i64 a.at_, .slice a1 a.op.length c1, .slice a2 a.sh.length c2, .slice a3 a.si.length c3] 28)) #[.int .i64 b.at_, .slice b1 b.op.length d1, .slice b2 b.sh.length d2, .slice b3 b.si.length d3] 28
    rw [World.size_alloc] at e
    exact e
  have Hh1 := Lib.hid (Strs.ext h1 X)
  have Hh2 := Lib.hid (Strs.ext h2 X)
  have Hh3 := Lib.hid (Strs.ext h3 X)
  have Hg1 := Lib.hid (Strs.ext g1 X)
  have Hg2 := Lib.hid (Strs.ext g2 X)
  have Hg3 := Lib.hid (Strs.ext g3 X)
  clear h1 h2 h3 g1 g2 g3
  go_enter Tryd.func39, Tryd.ntmps39
  go_wp2_with fail
  generalize (w.alloc (Obj.cells #[.int .i64 a.at_, .slice a1 a.op.length c1, .slice a2 a.sh.length c2, .slice a3 a.si.length c3] 28)).alloc (Obj.cells #[.int .i64 b.at_, .slice b1 b.op.length d1, .slice b2 b.sh.length d2, .slice b3 b.si.length d3] 28) = w1 at *
  have p0 := P.2.1 0 _ rfl
  have p1 := P.2.1 1 _ rfl
  have p2 := P.2.1 2 _ rfl
  have p3 := P.2.1 3 _ rfl
  have q0 := Q.2.1 0 _ rfl
  have q1 := Q.2.1 1 _ rfl
  have q2 := Q.2.1 2 _ rfl
  have q3 := Q.2.1 3 _ rfl
  refine (impl_SigTexts x _ _ _ a _ Hh1.out Hh2.out Hh3.out FA.out (le_max hx (by omega)) (HT.out.ext X)).mono ?_
  have HSZ := Lib.hid (texts_fit2 x a)
  generalize sgTexts x a = p at *
  rintro e w2 ⟨va, vc, rfl, lo, x2⟩
  replace P := P.ext x2
  replace Q := Q.ext x2
  replace X := X.trans x2
  replace Hh1 := Lib.hid (Strs.ext Hh1.out x2)
  replace Hh2 := Lib.hid (Strs.ext Hh2.out x2)
  replace Hh3 := Lib.hid (Strs.ext Hh3.out x2)
  replace Hg1 := Lib.hid (Strs.ext Hg1.out x2)
  replace Hg2 := Lib.hid (Strs.ext Hg2.out x2)
  replace Hg3 := Lib.hid (Strs.ext Hg3.out x2)
  clear p0 p1 p2 p3 q0 q1 q2 q3
  have LP := Lib.hid (OwnStrs.strs lo)
  clear lo x2
  have p0 := P.2.1 0 _ rfl
  have p1 := P.2.1 1 _ rfl
  have p2 := P.2.1 2 _ rfl
  have p3 := P.2.1 3 _ rfl
  have q0 := Q.2.1 0 _ rfl
  have q1 := Q.2.1 1 _ rfl
  have q2 := Q.2.1 2 _ rfl
  have q3 := Q.2.1 3 _ rfl
  go_wp2_with fail
  refine (impl_SigTexts x _ _ _ b _ Hg1.out Hg2.out Hg3.out FB.out (le_max hx (by omega)) (HT.out.ext X)).mono ?_
  have HZZ := Lib.hid (texts_fit2 x b)
  generalize sgTexts x b = q at *
  rintro e w3 ⟨ua, uc, rfl, lo, x3⟩
  replace P := P.ext x3
  replace Q := Q.ext x3
  replace X := X.trans x3
  replace Hh1 := Lib.hid (Strs.ext Hh1.out x3)
  replace Hh2 := Lib.hid (Strs.ext Hh2.out x3)
  replace Hh3 := Lib.hid (Strs.ext Hh3.out x3)
  replace Hg1 := Lib.hid (Strs.ext Hg1.out x3)
  replace Hg2 := Lib.hid (Strs.ext Hg2.out x3)
  replace Hg3 := Lib.hid (Strs.ext Hg3.out x3)
  replace LP := Lib.hid (Strs.ext LP.out x3)
  clear p0 p1 p2 p3 q0 q1 q2 q3
  have LQ := Lib.hid (OwnStrs.strs lo)
  clear lo x3
  obtain ⟨bp, op, rfl, lp, cp⟩ := str_cell LP.out (by rw [NA.out]; decide)
  obtain ⟨bq, oq, rfl, lq, cq⟩ := str_cell LQ.out (by rw [NB.out]; decide)
  have CP := Lib.hid cp
  have CQ := Lib.hid cq
  have HS := Lib.hid (fun j => getD_fit2 HSZ.out j)
  have HZ := Lib.hid (fun j => getD_fit2 HZZ.out j)
  have hn1 : ((p.length : Int) != 13) = false := by rw [NA.out]; rfl
  have hn2 : ((q.length : Int) != p.length) = false := by rw [NA.out, NB.out]; rfl
  clear cp cq LP LQ
  have hpl : (p.length : Int) = 13 := by rw [NA.out]; rfl
  have hql : (q.length : Int) = 13 := by rw [NB.out]; rfl
  go_wp2
  go_loopw [12] (fun i wr => ∃ k : Nat, 8 ≤ k ∧ k ≤ 13 ∧ i = .int .i64 ((k : Int) - 1) ∧ (∀ t, k ≤ t → t < 13 → p.getD t ⟨#[]⟩ = q.getD t ⟨#[]⟩) ∧ Ext w3 wr) (fun i _ => (intOf i + 1).toNat)
  case atStart => exact ⟨13, by omega, by omega, by go_num, fun t h1 h2 => by omega, Ext.refl _⟩
  case round =>
    obtain ⟨k, hk8, hk13, rfl, heq, XR⟩ := hrel
    have HEQ := Lib.hid heq
    clear heq
    by_cases h8 : k = 8
    · subst h8
      rw [show ((8 : Nat) : Int) - 1 = 7 from rfl]
      replace P := P.ext XR
      replace Q := Q.ext XR
      replace Hh1 := Lib.hid (Strs.ext Hh1.out XR)
      replace Hh2 := Lib.hid (Strs.ext Hh2.out XR)
      replace Hh3 := Lib.hid (Strs.ext Hh3.out XR)
      replace Hg1 := Lib.hid (Strs.ext Hg1.out XR)
      replace Hg2 := Lib.hid (Strs.ext Hg2.out XR)
      replace Hg3 := Lib.hid (Strs.ext Hg3.out XR)
      have HEQ8 := Lib.hid (HEQ.out 8 (by omega) (by omega))
      go_wp2_with fail
      refine (spec_SignBitsOf x _ hx).mono ?_
      generalize hix : sgIdx x = ix at *
      have HIX := Lib.hid hix
      clear hix
      rintro e w4 ⟨rfl, x4⟩
      replace P := P.ext x4
      replace Q := Q.ext x4
      replace Hh1 := Lib.hid (Strs.ext Hh1.out x4)
      replace Hh2 := Lib.hid (Strs.ext Hh2.out x4)
      replace Hh3 := Lib.hid (Strs.ext Hh3.out x4)
      replace Hg1 := Lib.hid (Strs.ext Hg1.out x4)
      replace Hg2 := Lib.hid (Strs.ext Hg2.out x4)
      replace Hg3 := Lib.hid (Strs.ext Hg3.out x4)
      replace XR := XR.trans x4
      clear x4
      go_wp2_with fail
      refine (spec_SignBitsOf x _ hx).mono ?_
      rw [HIX.out]
      rintro e w5 ⟨rfl, x5⟩
      replace P := P.ext x5
      replace Q := Q.ext x5
      replace Hh1 := Lib.hid (Strs.ext Hh1.out x5)
      replace Hh2 := Lib.hid (Strs.ext Hh2.out x5)
      replace Hh3 := Lib.hid (Strs.ext Hh3.out x5)
      replace Hg1 := Lib.hid (Strs.ext Hg1.out x5)
      replace Hg2 := Lib.hid (Strs.ext Hg2.out x5)
      replace Hg3 := Lib.hid (Strs.ext Hg3.out x5)
      replace XR := XR.trans x5
      clear x5
      have hii : (ix == ix) = true := by simp
      go_wp2
      have XL := XR
      clear XR
      go_loopw [14] (fun i wr => ∃ j : Nat, j ≤ 8 ∧ i = .int .i64 j ∧ (∀ t, t < j → p.getD t ⟨#[]⟩ = q.getD t ⟨#[]⟩) ∧ Ext w5 wr) (fun i _ => 8 - (intOf i).toNat)
      case atStart => exact ⟨0, by omega, rfl, fun t h => by omega, Ext.refl _⟩
      case round =>
        obtain ⟨j, hj8, rfl, heq2, XR2⟩ := hrel
        have HEQL := HEQ
        clear HEQ
        have HEQ := Lib.hid heq2
        clear heq2
        have XR := XL.trans XR2
        have XW := XR2
        replace P := P.ext XR2
        replace Q := Q.ext XR2
        replace Hh1 := Lib.hid (Strs.ext Hh1.out XR2)
        replace Hh2 := Lib.hid (Strs.ext Hh2.out XR2)
        replace Hh3 := Lib.hid (Strs.ext Hh3.out XR2)
        replace Hg1 := Lib.hid (Strs.ext Hg1.out XR2)
        replace Hg2 := Lib.hid (Strs.ext Hg2.out XR2)
        replace Hg3 := Lib.hid (Strs.ext Hg3.out XR2)
        clear XR2
        by_cases hj : j < 8
        · have hji : (j : Int) < 8 := by omega
          have d1 := (XR.cell _ _ lp).trans (CP.out j (by rw [NA.out]; omega))
          have d2 := (XR.cell _ _ lq).trans (CQ.out j (by rw [NB.out]; omega))
          have lxr := Nat.lt_of_lt_of_le lp XR.size
          have lyr := Nat.lt_of_lt_of_le lq XR.size
          have j0 : (0 : Int) ≤ (j : Int) := by omega
          have j1 : (j : Int) < 13 := by omega
          by_cases hq : p.getD j ⟨#[]⟩ = q.getD j ⟨#[]⟩
          · rw [hq] at d1
            have hqb : ((q.getD j ⟨#[]⟩).toList == (q.getD j ⟨#[]⟩).toList) = true := by simp
            have hqc : ((q.getD j ⟨#[]⟩).toList != (q.getD j ⟨#[]⟩).toList) = false := by simp
            have HQ := Lib.hid hq
            generalize hs : q.getD j ⟨#[]⟩ = s at *
            clear hq
            go_wp2
            go_quiet (fail)
            go_wp2
            go_roundw
            case rel => exact ⟨j + 1, by omega, by go_num, fun t ht => by rcases Nat.lt_or_eq_of_le (Nat.le_of_lt_succ ht) with h | rfl; exact HEQ.out t h; exact HQ.out.trans hs.symm, (show Ext w5 _ from XW.trans ((Ext.refl _).drewN _))⟩
            case measure => simp [intOf]; omega
          · have hqb : ((p.getD j ⟨#[]⟩).toList == (q.getD j ⟨#[]⟩).toList) = false := by rw [toList_beq]; exact decide_eq_false hq
            have hqc : ((p.getD j ⟨#[]⟩).toList != (q.getD j ⟨#[]⟩).toList) = true := by simp only [bne, hqb]; rfl
            have HCT := Lib.hid (show cutT (p.getD j ⟨#[]⟩) 16 = cutT (q.getD j ⟨#[]⟩) 16 from L2.out (HEQ8.out) j (by omega))
            have zx := HS.out j
            have zy := HZ.out j
            generalize p.getD j ⟨#[]⟩ = s at *
            generalize q.getD j ⟨#[]⟩ = t at *
            clear hq
            generalize hct : cutT t 16 = ct at *
            have HC2 := Lib.hid hct
            clear hct
            go_wp2
            go_quiet (fail)
            go_wp2_with fail
            have xq : Ext wr (wr.drewN nq) := (Ext.refl wr).drewN nq
            replace XR := XR.trans xq
            replace d1 := (xq.cell _ _ lxr).trans d1
            replace d2 := (xq.cell _ _ lyr).trans d2
            replace lxr := Nat.lt_of_lt_of_le lxr xq.size
            replace lyr := Nat.lt_of_lt_of_le lyr xq.size
            generalize wr.drewN nq = w7 at *
            clear xq hqb hqc
            refine wp_region_held_drew (S := (fun W => W.cell? ⟨bp, op + j, none⟩ = some (.string s) ∧ W.cell? ⟨bq, oq + j, none⟩ = some (.string t))) (by kernel_rfl) (by exact ⟨d1, d2⟩) (fun hHeld => ?_)
            have xd : Ext w7 w7.drew := (Ext.refl w7).drew
            replace XR := XR.trans xd
            replace d1 := ((Ext.cell xd) _ _ lxr).trans d1
            replace d2 := ((Ext.cell xd) _ _ lyr).trans d2
            replace lxr := Nat.lt_of_lt_of_le lxr (Ext.size xd)
            replace lyr := Nat.lt_of_lt_of_le lyr (Ext.size xd)
            generalize w7.drew = w8 at *
            (refine wpAnyH_take (i := 0) (v := ?_) rfl (by kernel_rfl) (by kernel_rfl) (by kernel_rfl) (fun _ _ _ h => h) (Or.inl ⟨by rfl, ?_⟩) (by assumption) ?_; rotate_left; focus (intro w hSw; (try dsimp only at hSw); (try simp only [List.getElem_toArray, List.getElem_cons_zero]); go_simp; try with_reducible rfl)); (try simp only [List.getElem_toArray, List.getElem_cons_zero]); (try simp only [Act.put, List.setIfInBounds_toArray, List.set_cons_zero, List.set_cons_succ])
            (refine wpAnyH_take (i := 1) (v := ?_) rfl (by kernel_rfl) (by kernel_rfl) (by kernel_rfl) (fun _ _ _ h => h) (Or.inl ⟨by rfl, ?_⟩) (by assumption) ?_; rotate_left; focus (intro w hSw; (try dsimp only at hSw); (try simp only [List.getElem_toArray, List.getElem_cons_zero, List.getElem_cons_succ]); go_simp; try with_reducible rfl)); (try simp only [List.getElem_toArray, List.getElem_cons_zero, List.getElem_cons_succ]); (try simp only [Act.put, List.setIfInBounds_toArray, List.set_cons_zero, List.set_cons_succ])
            (refine wpAnyH_take (i := 2) (v := ?_) rfl (by kernel_rfl) (by kernel_rfl) (by kernel_rfl) (fun _ _ _ h => h) (Or.inl ⟨by rfl, ?_⟩) (by assumption) ?_; rotate_left; focus (intro w hSw; (try dsimp only at hSw); (try simp only [List.getElem_toArray, List.getElem_cons_zero, List.getElem_cons_succ]); go_simp; try with_reducible rfl)); (try simp only [List.getElem_toArray, List.getElem_cons_zero, List.getElem_cons_succ]); (try simp only [Act.put, List.setIfInBounds_toArray, List.set_cons_zero, List.set_cons_succ])
            (refine wpAnyH_take (i := 3) (v := ?_) rfl (by kernel_rfl) (by kernel_rfl) (by kernel_rfl) (fun _ _ _ h => h) (Or.inl ⟨by rfl, ?_⟩) (by assumption) ?_; rotate_left; focus (intro w hSw; (try dsimp only at hSw); (try simp only [List.getElem_toArray, List.getElem_cons_zero, List.getElem_cons_succ]); go_simp; try with_reducible rfl)); (try simp only [List.getElem_toArray, List.getElem_cons_zero, List.getElem_cons_succ]); (try simp only [Act.put, List.setIfInBounds_toArray, List.set_cons_zero, List.set_cons_succ])
            (refine wpAnyH_take (i := 5) (v := ?_) rfl (by kernel_rfl) (by kernel_rfl) (by kernel_rfl) (fun _ _ _ h => h) (Or.inl ⟨by rfl, ?_⟩) (by assumption) ?_; rotate_left; focus (intro w hSw; (try dsimp only at hSw); (try simp only [List.getElem_toArray, List.getElem_cons_zero, List.getElem_cons_succ]); go_simp; try with_reducible rfl)); (try simp only [List.getElem_toArray, List.getElem_cons_zero, List.getElem_cons_succ]); (try simp only [Act.put, List.setIfInBounds_toArray, List.set_cons_zero, List.set_cons_succ])
            (refine wpAnyH_take (i := 6) (v := ?_) rfl (by kernel_rfl) (by kernel_rfl) (by kernel_rfl) (fun _ _ _ h => h) (Or.inl ⟨by rfl, ?_⟩) (by assumption) ?_; rotate_left; focus (intro w hSw; (try dsimp only at hSw); (try simp only [List.getElem_toArray, List.getElem_cons_zero, List.getElem_cons_succ]); go_simp; try with_reducible rfl)); (try simp only [List.getElem_toArray, List.getElem_cons_zero, List.getElem_cons_succ]); (try simp only [Act.put, List.setIfInBounds_toArray, List.set_cons_zero, List.set_cons_succ])
            (refine wpAnyH_take (i := 7) (v := ?_) rfl (by kernel_rfl) (by kernel_rfl) (by kernel_rfl) (fun _ _ _ h => h) (Or.inl ⟨by rfl, ?_⟩) (by assumption) ?_; rotate_left; focus (intro w hSw; (try dsimp only at hSw); (try simp only [List.getElem_toArray, List.getElem_cons_zero, List.getElem_cons_succ]); go_simp; try with_reducible rfl)); (try simp only [List.getElem_toArray, List.getElem_cons_zero, List.getElem_cons_succ]); (try simp only [Act.put, List.setIfInBounds_toArray, List.set_cons_zero, List.set_cons_succ])
            (refine wpAnyH_take (i := 8) (v := ?_) rfl (by kernel_rfl) (by kernel_rfl) (by kernel_rfl) (fun _ _ _ h => h) (Or.inl ⟨by rfl, ?_⟩) (by assumption) ?_; rotate_left; focus (intro w hSw; (try dsimp only at hSw); (try simp only [List.getElem_toArray, List.getElem_cons_zero, List.getElem_cons_succ]); go_simp; try with_reducible rfl)); (try simp only [List.getElem_toArray, List.getElem_cons_zero, List.getElem_cons_succ]); (try simp only [Act.put, List.setIfInBounds_toArray, List.set_cons_zero, List.set_cons_succ])
            (refine wpAnyH_ready (rs := [4]) (by kernel_rfl) (by simp) ?_; refine AllReadyH.cons rfl (fun K hK => ?_) AllReadyH.nil; (try simp only [List.getElem_toArray, List.getElem_cons_zero, List.getElem_cons_succ]))
            go_simp
            go_at_call 37
            refine (spec_CutDigest s 16 _ zx).mono ?_
            rw [HCT.out]
            rintro e w9 ⟨rfl, x9⟩
            replace XR := XR.trans x9
            replace d1 := ((Ext.cell x9) _ _ lxr).trans d1
            replace d2 := ((Ext.cell x9) _ _ lyr).trans d2
            replace lxr := Nat.lt_of_lt_of_le lxr (Ext.size x9)
            replace lyr := Nat.lt_of_lt_of_le lyr (Ext.size x9)
            (try dsimp only)
            refine hK.out _ _ (by exact ⟨d1, d2⟩) (fun hHeld => ?_)
            clear hK K
            (refine wpAnyH_ready (rs := [9]) (by kernel_rfl) (by simp) ?_; refine AllReadyH.cons rfl (fun K hK => ?_) AllReadyH.nil; (try simp only [List.getElem_toArray, List.getElem_cons_zero, List.getElem_cons_succ]))
            go_simp
            go_at_call 37
            refine (spec_CutDigest t 16 _ zy).mono ?_
            rw [HC2.out]
            rintro e w10 ⟨rfl, x10⟩
            replace XR := XR.trans x10
            replace d1 := ((Ext.cell x10) _ _ lxr).trans d1
            replace d2 := ((Ext.cell x10) _ _ lyr).trans d2
            replace lxr := Nat.lt_of_lt_of_le lxr (Ext.size x10)
            replace lyr := Nat.lt_of_lt_of_le lyr (Ext.size x10)
            (try dsimp only)
            refine hK.out _ _ (by exact ⟨d1, d2⟩) (fun hHeld => ?_)
            clear hK K
            (refine wpAnyH_take (i := 10) (v := ?_) rfl (by kernel_rfl) (by kernel_rfl) (by kernel_rfl) (fun _ _ _ h => h) (Or.inl ⟨by rfl, ?_⟩) (by assumption) ?_; rotate_left; focus (intro w hSw; (try dsimp only at hSw); (try simp only [List.getElem_toArray, List.getElem_cons_zero, List.getElem_cons_succ]); go_simp; try with_reducible rfl)); (try simp only [List.getElem_toArray, List.getElem_cons_zero, List.getElem_cons_succ]); (try simp only [Act.put, List.setIfInBounds_toArray, List.set_cons_zero, List.set_cons_succ])
            (refine wpAnyH_take (i := 11) (v := ?_) rfl (by kernel_rfl) (by kernel_rfl) (by kernel_rfl) (fun _ _ _ h => h) (Or.inl ⟨by rfl, ?_⟩) (by assumption) ?_; rotate_left; focus (intro w hSw; (try dsimp only at hSw); (try simp only [List.getElem_toArray, List.getElem_cons_zero, List.getElem_cons_succ]); go_simp; try with_reducible rfl)); (try simp only [List.getElem_toArray, List.getElem_cons_zero, List.getElem_cons_succ]); (try simp only [Act.put, List.setIfInBounds_toArray, List.set_cons_zero, List.set_cons_succ])
            refine wpAnyH_done (by kernel_rfl) ?_ _
            go_wp2
            go_ret
            exact ⟨ret_bool (by simp), X.trans XR⟩
        · obtain rfl : j = 8 := by omega
          have HALL := Lib.hid (L3.out (fun t ht => by rcases Nat.lt_or_ge t 8 with h | h; exact HEQ.out t h; exact HEQL.out t h ht))
          have p0 := P.2.1 0 _ rfl
          have p1 := P.2.1 1 _ rfl
          have p2 := P.2.1 2 _ rfl
          have p3 := P.2.1 3 _ rfl
          have q0 := Q.2.1 0 _ rfl
          have q1 := Q.2.1 1 _ rfl
          have q2 := Q.2.1 2 _ rfl
          have q3 := Q.2.1 3 _ rfl
          go_wp2_with fail
          refine (laws_sameTexts _ _ a.op b.op _ Hh1.out Hg1.out).mono ?_
          rw [decide_eq_true HALL.out.1]
          rintro e w6 ⟨rfl, x6⟩
          replace P := P.ext x6
          replace Q := Q.ext x6
          replace XR := XR.trans x6
          replace Hh1 := Lib.hid (Strs.ext Hh1.out x6)
          replace Hh2 := Lib.hid (Strs.ext Hh2.out x6)
          replace Hh3 := Lib.hid (Strs.ext Hh3.out x6)
          replace Hg1 := Lib.hid (Strs.ext Hg1.out x6)
          replace Hg2 := Lib.hid (Strs.ext Hg2.out x6)
          replace Hg3 := Lib.hid (Strs.ext Hg3.out x6)
          clear p0 p1 p2 p3 q0 q1 q2 q3
          clear x6
          have p0 := P.2.1 0 _ rfl
          have p1 := P.2.1 1 _ rfl
          have p2 := P.2.1 2 _ rfl
          have p3 := P.2.1 3 _ rfl
          have q0 := Q.2.1 0 _ rfl
          have q1 := Q.2.1 1 _ rfl
          have q2 := Q.2.1 2 _ rfl
          have q3 := Q.2.1 3 _ rfl
          go_wp2_with fail
          refine (laws_sameTexts _ _ a.sh b.sh _ Hh2.out Hg2.out).mono ?_
          rw [decide_eq_true HALL.out.2.1]
          rintro e w7 ⟨rfl, x7⟩
          replace P := P.ext x7
          replace Q := Q.ext x7
          replace XR := XR.trans x7
          replace Hh1 := Lib.hid (Strs.ext Hh1.out x7)
          replace Hh2 := Lib.hid (Strs.ext Hh2.out x7)
          replace Hh3 := Lib.hid (Strs.ext Hh3.out x7)
          replace Hg1 := Lib.hid (Strs.ext Hg1.out x7)
          replace Hg2 := Lib.hid (Strs.ext Hg2.out x7)
          replace Hg3 := Lib.hid (Strs.ext Hg3.out x7)
          clear p0 p1 p2 p3 q0 q1 q2 q3
          clear x7
          have p0 := P.2.1 0 _ rfl
          have p1 := P.2.1 1 _ rfl
          have p2 := P.2.1 2 _ rfl
          have p3 := P.2.1 3 _ rfl
          have q0 := Q.2.1 0 _ rfl
          have q1 := Q.2.1 1 _ rfl
          have q2 := Q.2.1 2 _ rfl
          have q3 := Q.2.1 3 _ rfl
          go_wp2_with fail
          refine (laws_sameTexts _ _ a.si b.si _ Hh3.out Hg3.out).mono ?_
          rw [decide_eq_true HALL.out.2.2]
          rintro e w8 ⟨rfl, x8⟩
          replace P := P.ext x8
          replace Q := Q.ext x8
          replace XR := XR.trans x8
          replace Hh1 := Lib.hid (Strs.ext Hh1.out x8)
          replace Hh2 := Lib.hid (Strs.ext Hh2.out x8)
          replace Hh3 := Lib.hid (Strs.ext Hh3.out x8)
          replace Hg1 := Lib.hid (Strs.ext Hg1.out x8)
          replace Hg2 := Lib.hid (Strs.ext Hg2.out x8)
          replace Hg3 := Lib.hid (Strs.ext Hg3.out x8)
          go_wp2
          go_ret
          exact ⟨rfl, X.trans XR⟩
    · obtain ⟨j, rfl⟩ : ∃ j, k = j + 1 := ⟨k - 1, by omega⟩
      rw [show (((j + 1 : Nat) : Int) - 1) = (j : Int) by omega]
      have hji : ¬ (j : Int) < 8 := by omega
      have hji2 : (8 : Int) ≤ j := by omega
      have d1 := (XR.cell _ _ lp).trans (CP.out j (by rw [NA.out]; omega))
      have d2 := (XR.cell _ _ lq).trans (CQ.out j (by rw [NB.out]; omega))
      have lxr := Nat.lt_of_lt_of_le lp XR.size
      have lyr := Nat.lt_of_lt_of_le lq XR.size
      have j0 : (0 : Int) ≤ (j : Int) := by omega
      have j1 : (j : Int) < 13 := by omega
      by_cases hq : p.getD j ⟨#[]⟩ = q.getD j ⟨#[]⟩
      · rw [hq] at d1
        have hqb : ((q.getD j ⟨#[]⟩).toList == (q.getD j ⟨#[]⟩).toList) = true := by simp
        have hqc : ((q.getD j ⟨#[]⟩).toList != (q.getD j ⟨#[]⟩).toList) = false := by simp
        have HQ := Lib.hid hq
        generalize hs : q.getD j ⟨#[]⟩ = s at *
        clear hq
        go_wp2
        go_quiet (fail)
        go_wp2
        go_roundw
        case rel => exact ⟨j, by omega, by omega, rfl, fun t ht hl => by rcases Nat.lt_or_eq_of_le ht with h | rfl; exact HEQ.out t h hl; exact HQ.out.trans hs.symm, XR.trans ((Ext.refl _).drewN _)⟩
        case measure => simp [intOf]
      · have hqb : ((p.getD j ⟨#[]⟩).toList == (q.getD j ⟨#[]⟩).toList) = false := by rw [toList_beq]; exact decide_eq_false hq
        have hqc : ((p.getD j ⟨#[]⟩).toList != (q.getD j ⟨#[]⟩).toList) = true := by simp only [bne, hqb]; rfl
        have HCT := Lib.hid (show cutT (p.getD j ⟨#[]⟩) 16 = cutT (q.getD j ⟨#[]⟩) 16 from L1.out j (by omega) (by omega) (fun hj => HEQ.out (j + 1) (by omega) (by omega)))
        have zx := HS.out j
        have zy := HZ.out j
        generalize p.getD j ⟨#[]⟩ = s at *
        generalize q.getD j ⟨#[]⟩ = t at *
        clear hq
        generalize hct : cutT t 16 = ct at *
        have HC2 := Lib.hid hct
        clear hct
        go_wp2
        go_quiet (fail)
        go_wp2_with fail
        have xq : Ext wr (wr.drewN nq) := (Ext.refl wr).drewN nq
        replace XR := XR.trans xq
        replace d1 := (xq.cell _ _ lxr).trans d1
        replace d2 := (xq.cell _ _ lyr).trans d2
        replace lxr := Nat.lt_of_lt_of_le lxr xq.size
        replace lyr := Nat.lt_of_lt_of_le lyr xq.size
        generalize wr.drewN nq = w7 at *
        clear xq hqb hqc
        refine wp_region_held_drew (S := (fun W => W.cell? ⟨bp, op + j, none⟩ = some (.string s) ∧ W.cell? ⟨bq, oq + j, none⟩ = some (.string t))) (by kernel_rfl) (by exact ⟨d1, d2⟩) (fun hHeld => ?_)
        have xd : Ext w7 w7.drew := (Ext.refl w7).drew
        replace XR := XR.trans xd
        replace d1 := ((Ext.cell xd) _ _ lxr).trans d1
        replace d2 := ((Ext.cell xd) _ _ lyr).trans d2
        replace lxr := Nat.lt_of_lt_of_le lxr (Ext.size xd)
        replace lyr := Nat.lt_of_lt_of_le lyr (Ext.size xd)
        generalize w7.drew = w8 at *
        (refine wpAnyH_take (i := 0) (v := ?_) rfl (by kernel_rfl) (by kernel_rfl) (by kernel_rfl) (fun _ _ _ h => h) (Or.inl ⟨by rfl, ?_⟩) (by assumption) ?_; rotate_left; focus (intro w hSw; (try dsimp only at hSw); (try simp only [List.getElem_toArray, List.getElem_cons_zero]); go_simp; try with_reducible rfl)); (try simp only [List.getElem_toArray, List.getElem_cons_zero]); (try simp only [Act.put, List.setIfInBounds_toArray, List.set_cons_zero, List.set_cons_succ])
        (refine wpAnyH_take (i := 1) (v := ?_) rfl (by kernel_rfl) (by kernel_rfl) (by kernel_rfl) (fun _ _ _ h => h) (Or.inl ⟨by rfl, ?_⟩) (by assumption) ?_; rotate_left; focus (intro w hSw; (try dsimp only at hSw); (try simp only [List.getElem_toArray, List.getElem_cons_zero, List.getElem_cons_succ]); go_simp; try with_reducible rfl)); (try simp only [List.getElem_toArray, List.getElem_cons_zero, List.getElem_cons_succ]); (try simp only [Act.put, List.setIfInBounds_toArray, List.set_cons_zero, List.set_cons_succ])
        (refine wpAnyH_take (i := 2) (v := ?_) rfl (by kernel_rfl) (by kernel_rfl) (by kernel_rfl) (fun _ _ _ h => h) (Or.inl ⟨by rfl, ?_⟩) (by assumption) ?_; rotate_left; focus (intro w hSw; (try dsimp only at hSw); (try simp only [List.getElem_toArray, List.getElem_cons_zero, List.getElem_cons_succ]); go_simp; try with_reducible rfl)); (try simp only [List.getElem_toArray, List.getElem_cons_zero, List.getElem_cons_succ]); (try simp only [Act.put, List.setIfInBounds_toArray, List.set_cons_zero, List.set_cons_succ])
        (refine wpAnyH_take (i := 3) (v := ?_) rfl (by kernel_rfl) (by kernel_rfl) (by kernel_rfl) (fun _ _ _ h => h) (Or.inl ⟨by rfl, ?_⟩) (by assumption) ?_; rotate_left; focus (intro w hSw; (try dsimp only at hSw); (try simp only [List.getElem_toArray, List.getElem_cons_zero, List.getElem_cons_succ]); go_simp; try with_reducible rfl)); (try simp only [List.getElem_toArray, List.getElem_cons_zero, List.getElem_cons_succ]); (try simp only [Act.put, List.setIfInBounds_toArray, List.set_cons_zero, List.set_cons_succ])
        (refine wpAnyH_take (i := 5) (v := ?_) rfl (by kernel_rfl) (by kernel_rfl) (by kernel_rfl) (fun _ _ _ h => h) (Or.inl ⟨by rfl, ?_⟩) (by assumption) ?_; rotate_left; focus (intro w hSw; (try dsimp only at hSw); (try simp only [List.getElem_toArray, List.getElem_cons_zero, List.getElem_cons_succ]); go_simp; try with_reducible rfl)); (try simp only [List.getElem_toArray, List.getElem_cons_zero, List.getElem_cons_succ]); (try simp only [Act.put, List.setIfInBounds_toArray, List.set_cons_zero, List.set_cons_succ])
        (refine wpAnyH_take (i := 6) (v := ?_) rfl (by kernel_rfl) (by kernel_rfl) (by kernel_rfl) (fun _ _ _ h => h) (Or.inl ⟨by rfl, ?_⟩) (by assumption) ?_; rotate_left; focus (intro w hSw; (try dsimp only at hSw); (try simp only [List.getElem_toArray, List.getElem_cons_zero, List.getElem_cons_succ]); go_simp; try with_reducible rfl)); (try simp only [List.getElem_toArray, List.getElem_cons_zero, List.getElem_cons_succ]); (try simp only [Act.put, List.setIfInBounds_toArray, List.set_cons_zero, List.set_cons_succ])
        (refine wpAnyH_take (i := 7) (v := ?_) rfl (by kernel_rfl) (by kernel_rfl) (by kernel_rfl) (fun _ _ _ h => h) (Or.inl ⟨by rfl, ?_⟩) (by assumption) ?_; rotate_left; focus (intro w hSw; (try dsimp only at hSw); (try simp only [List.getElem_toArray, List.getElem_cons_zero, List.getElem_cons_succ]); go_simp; try with_reducible rfl)); (try simp only [List.getElem_toArray, List.getElem_cons_zero, List.getElem_cons_succ]); (try simp only [Act.put, List.setIfInBounds_toArray, List.set_cons_zero, List.set_cons_succ])
        (refine wpAnyH_take (i := 8) (v := ?_) rfl (by kernel_rfl) (by kernel_rfl) (by kernel_rfl) (fun _ _ _ h => h) (Or.inl ⟨by rfl, ?_⟩) (by assumption) ?_; rotate_left; focus (intro w hSw; (try dsimp only at hSw); (try simp only [List.getElem_toArray, List.getElem_cons_zero, List.getElem_cons_succ]); go_simp; try with_reducible rfl)); (try simp only [List.getElem_toArray, List.getElem_cons_zero, List.getElem_cons_succ]); (try simp only [Act.put, List.setIfInBounds_toArray, List.set_cons_zero, List.set_cons_succ])
        (refine wpAnyH_ready (rs := [4]) (by kernel_rfl) (by simp) ?_; refine AllReadyH.cons rfl (fun K hK => ?_) AllReadyH.nil; (try simp only [List.getElem_toArray, List.getElem_cons_zero, List.getElem_cons_succ]))
        go_simp
        go_at_call 37
        refine (spec_CutDigest s 16 _ zx).mono ?_
        rw [HCT.out]
        rintro e w9 ⟨rfl, x9⟩
        replace XR := XR.trans x9
        replace d1 := ((Ext.cell x9) _ _ lxr).trans d1
        replace d2 := ((Ext.cell x9) _ _ lyr).trans d2
        replace lxr := Nat.lt_of_lt_of_le lxr (Ext.size x9)
        replace lyr := Nat.lt_of_lt_of_le lyr (Ext.size x9)
        (try dsimp only)
        refine hK.out _ _ (by exact ⟨d1, d2⟩) (fun hHeld => ?_)
        clear hK K
        (refine wpAnyH_ready (rs := [9]) (by kernel_rfl) (by simp) ?_; refine AllReadyH.cons rfl (fun K hK => ?_) AllReadyH.nil; (try simp only [List.getElem_toArray, List.getElem_cons_zero, List.getElem_cons_succ]))
        go_simp
        go_at_call 37
        refine (spec_CutDigest t 16 _ zy).mono ?_
        rw [HC2.out]
        rintro e w10 ⟨rfl, x10⟩
        replace XR := XR.trans x10
        replace d1 := ((Ext.cell x10) _ _ lxr).trans d1
        replace d2 := ((Ext.cell x10) _ _ lyr).trans d2
        replace lxr := Nat.lt_of_lt_of_le lxr (Ext.size x10)
        replace lyr := Nat.lt_of_lt_of_le lyr (Ext.size x10)
        (try dsimp only)
        refine hK.out _ _ (by exact ⟨d1, d2⟩) (fun hHeld => ?_)
        clear hK K
        (refine wpAnyH_take (i := 10) (v := ?_) rfl (by kernel_rfl) (by kernel_rfl) (by kernel_rfl) (fun _ _ _ h => h) (Or.inl ⟨by rfl, ?_⟩) (by assumption) ?_; rotate_left; focus (intro w hSw; (try dsimp only at hSw); (try simp only [List.getElem_toArray, List.getElem_cons_zero, List.getElem_cons_succ]); go_simp; try with_reducible rfl)); (try simp only [List.getElem_toArray, List.getElem_cons_zero, List.getElem_cons_succ]); (try simp only [Act.put, List.setIfInBounds_toArray, List.set_cons_zero, List.set_cons_succ])
        (refine wpAnyH_take (i := 11) (v := ?_) rfl (by kernel_rfl) (by kernel_rfl) (by kernel_rfl) (fun _ _ _ h => h) (Or.inl ⟨by rfl, ?_⟩) (by assumption) ?_; rotate_left; focus (intro w hSw; (try dsimp only at hSw); (try simp only [List.getElem_toArray, List.getElem_cons_zero, List.getElem_cons_succ]); go_simp; try with_reducible rfl)); (try simp only [List.getElem_toArray, List.getElem_cons_zero, List.getElem_cons_succ]); (try simp only [Act.put, List.setIfInBounds_toArray, List.set_cons_zero, List.set_cons_succ])
        refine wpAnyH_done (by kernel_rfl) ?_ _
        go_wp2
        go_ret
        exact ⟨ret_bool (by simp), X.trans XR⟩
end Go.Proofs.YtliebkhfddmhjaaDoor
