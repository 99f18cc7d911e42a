/- FnForged: the walk. -/
import Derived.Test.YtcinihfjkkaclaaDoorForg
import Derived.Test.YtcinihfjkkaclaaDoorCurA
import Derived.Test.YtcinihfjkkaclaaDoorDrwB
import Derived.Test.YtcinihfjkkaclaaDoorLftA
namespace Go.Proofs.YtcinihfjkkaclaaDoor
open Go.RowKit

theorem scan_fit {A B : List ByteArray} {m : Nat} (hA : ∀ i, (A.getD i ⟨#[]⟩).size ≤ m) (hB : ∀ i, (B.getD i ⟨#[]⟩).size ≤ m) : ∀ k a b, scan A B k = some (a, b) → a.size ≤ m ∧ b.size ≤ m
  | 0, a, b, h => by cases h
  | k + 1, a, b, h => by
    rw [scan] at h
    split at h
    · exact scan_fit hA hB k a b h
    · injection h with h
      injection h with h1 h2
      subst h1 h2
      exact ⟨hA k, hB k⟩
theorem extract_law2 {n : ByteArray} {xs ys : List Leaf} {ss ts : List ByteArray} {wd : Int} (hp : proofOk n xs ss wd = true) (hq : proofOk n ys ts wd = true) (hl : ss.length = ts.length) (hh : prHash n xs ss wd = prHash n ys ts wd) (hd : ¬ (leafVal xs n = leafVal ys n ∧ leafHas xs n = leafHas ys n)) :
    ∃ a b, exV n xs ys ss ts wd = .tuple #[.string a, .string b, .bool true] ∧ a ≠ b ∧ cutT a wd = cutT b wd ∧ a.size ≤ 1073741824 ∧ b.size ≤ 1073741824 := by
  obtain ⟨a, b, he, h1, h2⟩ := extract_law hp hq hl hh hd
  refine ⟨a, b, he, h1, h2, ?_⟩
  have l1 : (prTexts n xs ss wd).length = ss.length + 1 := by rw [prTexts_yes hp, prUp_len]
  have l2 : (prTexts n ys ts wd).length = ts.length + 1 := by rw [prTexts_yes hq, prUp_len]
  have hgo := exGo_yes (A := prTexts n xs ss wd) (B := prTexts n ys ts wd) (h := prHash n xs ss wd) (k := prHash n ys ts wd) (x := leafVal xs n) (y := leafVal ys n) (p := leafHas xs n) (q := leafHas ys n) (by omega) (by omega) hh (by
    by_cases h1 : leafVal xs n = leafVal ys n
    · exact Or.inr fun h2 => hd ⟨h1, h2⟩
    · exact Or.inl h1)
  rw [exV_yes hgo] at he
  cases hs : scan (prTexts n xs ss wd) (prTexts n ys ts wd) (prTexts n xs ss wd).length with
  | none => rw [hs] at he; simp [scanV] at he
  | some p =>
    obtain ⟨a', b'⟩ := p
    rw [hs] at he
    simp only [scanV, Value.tuple.injEq] at he
    have h3 : a' = a ∧ b' = b := by simpa using he
    obtain ⟨rfl, rfl⟩ := h3
    exact scan_fit (getD_fit (prTexts_fit n xs ss wd)) (getD_fit (prTexts_fit n ys ts wd)) _ _ _ hs
theorem own_none_ext {w w2 w3 w4 : World} (h : Ext w w2) (g1 : w2.grownBy w3 (some w.heap.size)) (g2 : w3.grownBy w4 (some (w.heap.size + 1))) : Ext w w4 :=
  (h.grown g1 (fun k hk => by injection hk with hk; omega)).grown g2 (fun k hk => by injection hk with hk; omega)
set_option maxRecDepth 100000 in
set_option maxHeartbeats 1600000 in
theorem spec_DrawForged (v : Value) (bs : List Int) (w : World) (h : Code w w.heap.size v bs) (hl : bs.length ≤ 1048576) :
    Calls Tryd.prog 41 #[v] w fun e w' => ∃ (nm : ByteArray) (xs ys : List Leaf) (ss : List ByteArray) (a b c d : Option Addr) (a' b' c' d' : Nat), e = .returned (.tuple #[.string nm, .agg #[.slice a xs.length a', .slice b ss.length b'], .agg #[.slice c ys.length c', .slice d ss.length d']]) ∧ nm.size ≤ 12 ∧ proofOk nm xs ss 1 = true ∧ proofOk nm ys ss 1 = true ∧ (Lvs w' (.slice a xs.length a') xs ∧ Strs w' (.slice b ss.length b') ss ∧ Lvs w' (.slice c ys.length c') ys ∧ Strs w' (.slice d ss.length d') ss) ∧ Ext w w' := by
  go_enter Tryd.func41, Tryd.ntmps41
  go_wp2_with fail
  have R3 : Bx ((w.alloc (Obj.cells #[.slice none 0 0, .slice none 0 0] 59)).alloc (Obj.cells #[.slice none 0 0, .slice none 0 0] 59)) w.heap.size [.slice none 0 0, .slice none 0 0] := (Bx.new w _ _).ext (by repeat (first | (with_reducible first | exact Ext.refl _ | assumption | apply Ext.alloc | apply Ext.drew | apply Ext.drewN | refine Ext.setCell ?_ ?_ _ | refine Ext.trans ?_ (by assumption)) | (show _ ≤ _; first | omega | (dsimp only; omega) | (simp; done) | (simp; omega))))
  have R4 : Bx ((w.alloc (Obj.cells #[.slice none 0 0, .slice none 0 0] 59)).alloc (Obj.cells #[.slice none 0 0, .slice none 0 0] 59)) (w.heap.size + 1) [.slice none 0 0, .slice none 0 0] := by
    have e := Bx.new (w.alloc (Obj.cells #[.slice none 0 0, .slice none 0 0] 59)) #[.slice none 0 0, .slice none 0 0] 59
    rw [World.size_alloc] at e
    exact e
  have e0 : Ext w ((w.alloc (Obj.cells #[.slice none 0 0, .slice none 0 0] 59)).alloc (Obj.cells #[.slice none 0 0, .slice none 0 0] 59)) := (by repeat (first | (with_reducible first | exact Ext.refl _ | assumption | apply Ext.alloc | apply Ext.drew | apply Ext.drewN | refine Ext.setCell ?_ ?_ _ | refine Ext.trans ?_ (by assumption)) | (show _ ≤ _; first | omega | (dsimp only; omega) | (simp; done) | (simp; omega))))
  have l0 : w.heap.size + 2 ≤ ((w.alloc (Obj.cells #[.slice none 0 0, .slice none 0 0] 59)).alloc (Obj.cells #[.slice none 0 0, .slice none 0 0] 59)).heap.size := by rw [World.size_alloc, World.size_alloc]; omega
  have h0 := h.ext (Nat.le_refl _) e0 e0.size
  generalize (w.alloc (Obj.cells #[.slice none 0 0, .slice none 0 0] 59)).alloc (Obj.cells #[.slice none 0 0, .slice none 0 0] 59) = w0 at *
  refine (spec_l01New v bs _ h0 hl).mono ?_
  rintro e w1 ⟨rfl, C1, x1⟩
  replace R3 := R3.ext x1
  replace R4 := R4.ext x1
  have X1 := e0.trans x1
  go_wp2_with fail
  refine (spec_l11Forged _ _ C1).mono ?_
  rintro e w2 ⟨nm, xs, ys, ss, va, ua, vb, ub, rfl, hn, hp, hq, ⟨la, lu, lb, lub⟩, hbk, C2, M2⟩
  obtain ⟨a, a', rfl⟩ := la.form
  obtain ⟨b, b', rfl⟩ := Strs.form lu
  obtain ⟨c, c', rfl⟩ := lb.form
  obtain ⟨d, d', rfl⟩ := Strs.form lub
  have HP := Lib.hid hp
  have HQ := Lib.hid hq
  clear hp hq
  have X2 := X1.mut M2 (by omega)
  replace R3 := R3.grown M2 (fun e => by injection e with e; omega)
  replace R4 := R4.grown M2 (fun e => by injection e with e; omega)
  have k2 := x1.size
  have g1 := two_grown w2 w.heap.size (.slice a xs.length a') (.slice b ss.length b')
  have g2 := two_grown ((w2.setCell ⟨w.heap.size, 0, none⟩ (.slice a xs.length a')).setCell ⟨w.heap.size, 1, none⟩ (.slice b ss.length b')) (w.heap.size + 1) (.slice c ys.length c') (.slice d ss.length d')
  have z0 := R3.2.1 0 _ rfl
  have z1 := R3.2.1 1 _ rfl
  have z2 := R4.2.1 0 _ rfl
  have z3 := R4.2.1 1 _ rfl
  have y0 := R3.2.2 0
  have y1 := R3.2.2 1
  have y2 := R4.2.2 0
  have y3 := R4.2.2 1
  have XF := own_none_ext X2 g1 g2
  have T3 := ((R3.set 0 (.slice a xs.length a') (by simp)).set 1 (.slice b ss.length b') (by simp)).grown g2 (fun e => by injection e with e; omega)
  have T4 := ((R4.grown g1 (fun e => by injection e with e; omega)).set 0 (.slice c ys.length c') (by simp)).set 1 (.slice d ss.length d') (by simp)
  have Na : ∀ k, (Value.slice a xs.length a').ownBlock = some k → w.heap.size + 2 ≤ k := fun k e => by have := hbk k (Or.inl e); omega
  have Nu : ∀ k, (Value.slice b ss.length b').ownBlock = some k → w.heap.size + 2 ≤ k := fun k e => by have := hbk k (Or.inr (Or.inl e)); omega
  have Nb : ∀ k, (Value.slice c ys.length c').ownBlock = some k → w.heap.size + 2 ≤ k := fun k e => by have := hbk k (Or.inr (Or.inr (Or.inl e))); omega
  have Nub : ∀ k, (Value.slice d ss.length d').ownBlock = some k → w.heap.size + 2 ≤ k := fun k e => by have := hbk k (Or.inr (Or.inr (Or.inr e))); omega
  have la2 := Lib.hid (row_grown (row_grown la g1 (fun k hk e => by injection hk with hk; have := Na _ e; omega)) g2 (fun k hk e => by injection hk with hk; have := Na _ e; omega))
  have lu2 := Lib.hid (row_grown (row_grown lu g1 (fun k hk e => by injection hk with hk; have := Nu _ e; omega)) g2 (fun k hk e => by injection hk with hk; have := Nu _ e; omega))
  have lb2 := Lib.hid (row_grown (row_grown lb g1 (fun k hk e => by injection hk with hk; have := Nb _ e; omega)) g2 (fun k hk e => by injection hk with hk; have := Nb _ e; omega))
  have lub2 := Lib.hid (row_grown (row_grown lub g1 (fun k hk e => by injection hk with hk; have := Nub _ e; omega)) g2 (fun k hk e => by injection hk with hk; have := Nub _ e; omega))
  have HXF := Lib.hid XF
  clear g1 g2 XF la lu lb lub hbk Na Nu Nb Nub
  go_wp2
  generalize (((w2.setCell ⟨w.heap.size, 0, none⟩ (.slice a xs.length a')).setCell ⟨w.heap.size, 1, none⟩ (.slice b ss.length b')).setCell ⟨w.heap.size + 1, 0, none⟩ (.slice c ys.length c')).setCell ⟨w.heap.size + 1, 1, none⟩ (.slice d ss.length d') = WF at *
  have k0 := T3.2.1 0 _ rfl
  have k1 := T3.2.1 1 _ rfl
  have k2 := T4.2.1 0 _ rfl
  have k3 := T4.2.1 1 _ rfl
  refine bodyPost_ret (v := .tuple #[.string nm, .agg #[.slice a xs.length a', .slice b ss.length b'], .agg #[.slice c ys.length c', .slice d ss.length d']]) (by simp [results, go_sem, k0, k1, k2, k3]) rfl ⟨nm, xs, ys, ss, _, _, _, _, _, _, _, _, rfl, hn, HP.out, HQ.out, ⟨la2.out, lu2.out, lb2.out, lub2.out⟩, HXF.out⟩
set_option maxRecDepth 100000 in
set_option maxHeartbeats 12800000 in
theorem laws_FnForged (v : Value) (bs : List Int) (w : World) (h : Code w w.heap.size v bs) (hT : Tabs w) :
    Calls Tryd.prog 7 #[v] w fun e w' => e = .returned (.bool true) ∧ Ext w w' := by
  have HT := Lib.hid hT
  clear hT
  have HC := Lib.hid h
  obtain ⟨a0, cap, rfl, -, -⟩ := id h
  by_cases hb : (1048576 : Int) < bs.length
  · go_enter Tryd.func7, Tryd.ntmps7
    go_wp2_with (go_at_call 10; refine (laws_big _ _ bs _ HC.out).mono ?_; rintro e w' ⟨rfl, rfl⟩)
    go_ret
    exact ⟨rfl, (by repeat (first | (with_reducible first | exact Ext.refl _ | assumption | apply Ext.alloc | apply Ext.drew | apply Ext.drewN | refine Ext.setCell ?_ ?_ _ | refine Ext.trans ?_ (by assumption)) | (show _ ≤ _; first | omega | (dsimp only; omega) | (simp; done) | (simp; omega))))⟩
  · have hl : bs.length ≤ 1048576 := by omega
    clear h
    go_enter Tryd.func7, Tryd.ntmps7
    go_wp2_with fail
    refine (laws_big _ _ bs _ HC.out).mono ?_
    rintro e w' ⟨rfl, rfl⟩
    go_wp2_with fail
    refine (spec_DrawForged _ bs _ HC.out hl).mono ?_
    rintro e w1 ⟨nm, xs, ys, ss, a, b, c, d, a', b', c', d', rfl, hn, hp, hq, ⟨la, lu, lb, lub⟩, x1⟩
    have HP := Lib.hid hp
    have HQ := Lib.hid hq
    clear hp hq
    have P := Bx.new w1 #[.slice a xs.length a', .slice b ss.length b'] 59
    have Q := Bx.new (w1.alloc (Obj.cells #[.slice a xs.length a', .slice b ss.length b'] 59)) #[.slice c ys.length c', .slice d ss.length d'] 59
    rw [World.size_alloc] at Q
    have e2 : Ext w1 ((w1.alloc (Obj.cells #[.slice a xs.length a', .slice b ss.length b'] 59)).alloc (Obj.cells #[.slice c ys.length c', .slice d ss.length d'] 59)) := (by repeat (first | (with_reducible first | exact Ext.refl _ | assumption | apply Ext.alloc | apply Ext.drew | apply Ext.drewN | refine Ext.setCell ?_ ?_ _ | refine Ext.trans ?_ (by assumption)) | (show _ ≤ _; first | omega | (dsimp only; omega) | (simp; done) | (simp; omega))))
    replace P := P.ext (show Ext (w1.alloc (Obj.cells #[.slice a xs.length a', .slice b ss.length b'] 59)) ((w1.alloc (Obj.cells #[.slice a xs.length a', .slice b ss.length b'] 59)).alloc (Obj.cells #[.slice c ys.length c', .slice d ss.length d'] 59)) from (by repeat (first | (with_reducible first | exact Ext.refl _ | assumption | apply Ext.alloc | apply Ext.drew | apply Ext.drewN | refine Ext.setCell ?_ ?_ _ | refine Ext.trans ?_ (by assumption)) | (show _ ≤ _; first | omega | (dsimp only; omega) | (simp; done) | (simp; omega)))))
    have X2 := x1.trans e2
    replace la := la.ext e2
    replace lu := Row.ext lu e2
    replace lb := Lvs.ext lb e2
    replace lub := Row.ext lub e2
    have HF := Lib.hid (ok_fit (proofOk_parts HP.out).2.1)
    have HFY := Lib.hid (ok_fit (proofOk_parts HQ.out).2.1)
    have HSF := Lib.hid (fun (s : ByteArray) (hs : s ∈ ss) => show s.size ≤ maxLen by have := proof_fit HP.out s hs; unfold maxLen; omega)
    have hnm : nm.size ≤ maxLen := by unfold maxLen; omega
    go_wp2_with fail
    generalize (w1.alloc (Obj.cells #[.slice a xs.length a', .slice b ss.length b'] 59)).alloc (Obj.cells #[.slice c ys.length c', .slice d ss.length d'] 59) = w2 at *
    refine (impl_ExtractTwo nm _ _ _ _ xs ys ss ss 1 _ hnm la HF.out lu HSF.out lb HFY.out lub HSF.out (HT.out.ext X2)).mono ?_
    by_cases hh : prHash nm xs ss 1 = prHash nm ys ss 1
    · by_cases hv : leafVal xs nm = leafVal ys nm
      · by_cases hg : leafHas xs nm = leafHas ys nm
        · rw [extract_none (Or.inr ⟨hv, hg⟩)]
          dsimp only [scanV]
          rintro e w3 ⟨rfl, x3⟩
          replace P := P.ext x3
          replace Q := Q.ext x3
          replace la := la.ext x3
          replace lu := Row.ext lu x3
          replace lb := Lvs.ext lb x3
          replace lub := Row.ext lub x3
          replace X2 := X2.trans x3
          have p0 := P.2.1 0 _ rfl
          have p1 := P.2.1 1 _ rfl
          have q0 := Q.2.1 0 _ rfl
          have q1 := Q.2.1 1 _ rfl
          have HH := Lib.hid hh
          have HV := Lib.hid hv
          have HG := Lib.hid hg
          have bV : ((leafVal xs nm).toList == (leafVal ys nm).toList) = true := by rw [toList_beq]; exact decide_eq_true hv
          have bG : (leafHas xs nm == leafHas ys nm) = true := by rw [hg]; exact beq_self_eq_true _
          clear hh hv hg
          go_wp2_with fail
          refine (spec_ProofSays nm _ _ xs _ la ⟨_, _, _, rfl⟩).mono ?_
          generalize hvx : leafVal xs nm = vx at *
          generalize hgx : leafHas xs nm = gx at *
          clear hvx hgx
          rintro e w4 ⟨rfl, x4⟩
          replace P := P.ext x4
          replace Q := Q.ext x4
          replace la := la.ext x4
          replace lu := Row.ext lu x4
          replace lb := Lvs.ext lb x4
          replace lub := Row.ext lub x4
          replace X2 := X2.trans x4
          clear p0 p1 q0 q1
          have p0 := P.2.1 0 _ rfl
          have p1 := P.2.1 1 _ rfl
          have q0 := Q.2.1 0 _ rfl
          have q1 := Q.2.1 1 _ rfl
          go_wp2_with fail
          refine (spec_ProofSays nm _ _ ys _ lb ⟨_, _, _, rfl⟩).mono ?_
          generalize hvy : leafVal ys nm = vy at *
          generalize hgy : leafHas ys nm = gy at *
          clear hvy hgy
          rintro e w5 ⟨rfl, x5⟩
          replace P := P.ext x5
          replace Q := Q.ext x5
          replace la := la.ext x5
          replace lu := Row.ext lu x5
          replace lb := Lvs.ext lb x5
          replace lub := Row.ext lub x5
          replace X2 := X2.trans x5
          clear p0 p1 q0 q1
          go_wp2_with fail
          refine wp_region_held_drew (S := (fun W => W.cell? ⟨w1.heap.size, 0, none⟩ = some (.slice a xs.length a') ∧ W.cell? ⟨w1.heap.size, 1, none⟩ = some (.slice b ss.length b') ∧ W.cell? ⟨w1.heap.size + 1, 0, none⟩ = some (.slice c ys.length c') ∧ W.cell? ⟨w1.heap.size + 1, 1, none⟩ = some (.slice d ss.length d'))) (by kernel_rfl) (by exact ⟨P.2.1 0 _ rfl, P.2.1 1 _ rfl, Q.2.1 0 _ rfl, Q.2.1 1 _ rfl⟩) (fun hHeld => ?_)
          have xd : Ext w5 w5.drew := (Ext.refl w5).drew
          replace P := P.ext xd
          replace Q := Q.ext xd
          replace la := la.ext xd
          replace lu := Row.ext lu xd
          replace lb := Lvs.ext lb xd
          replace lub := Row.ext lub xd
          replace X2 := X2.trans xd
          generalize w5.drew = w6 at *
          (refine wpAnyH_take (i := 0) (v := ?_) rfl (by kernel_rfl) (by kernel_rfl) (by kernel_rfl) (fun _ _ _ h => h) (Or.inl ⟨by rfl, ?_⟩) (by assumption) ?_; rotate_left; focus (intro w hSw; (try dsimp only at hSw); (try simp only [List.getElem_toArray, List.getElem_cons_zero]); go_simp; try with_reducible rfl)); (try simp only [List.getElem_toArray, List.getElem_cons_zero]); (try simp only [Act.put, List.setIfInBounds_toArray, List.set_cons_zero, List.set_cons_succ])
          (refine wpAnyH_take (i := 1) (v := ?_) rfl (by kernel_rfl) (by kernel_rfl) (by kernel_rfl) (fun _ _ _ h => h) (Or.inl ⟨by rfl, ?_⟩) (by assumption) ?_; rotate_left; focus (intro w hSw; (try dsimp only at hSw); (try simp only [List.getElem_toArray, List.getElem_cons_zero, List.getElem_cons_succ]); go_simp; try with_reducible rfl)); (try simp only [List.getElem_toArray, List.getElem_cons_zero, List.getElem_cons_succ]); (try simp only [Act.put, List.setIfInBounds_toArray, List.set_cons_zero, List.set_cons_succ])
          (refine wpAnyH_take (i := 3) (v := ?_) rfl (by kernel_rfl) (by kernel_rfl) (by kernel_rfl) (fun _ _ _ h => h) (Or.inl ⟨by rfl, ?_⟩) (by assumption) ?_; rotate_left; focus (intro w hSw; (try dsimp only at hSw); (try simp only [List.getElem_toArray, List.getElem_cons_zero, List.getElem_cons_succ]); go_simp; try with_reducible rfl)); (try simp only [List.getElem_toArray, List.getElem_cons_zero, List.getElem_cons_succ]); (try simp only [Act.put, List.setIfInBounds_toArray, List.set_cons_zero, List.set_cons_succ])
          (refine wpAnyH_take (i := 4) (v := ?_) rfl (by kernel_rfl) (by kernel_rfl) (by kernel_rfl) (fun _ _ _ h => h) (Or.inl ⟨by rfl, ?_⟩) (by assumption) ?_; rotate_left; focus (intro w hSw; (try dsimp only at hSw); (try simp only [List.getElem_toArray, List.getElem_cons_zero, List.getElem_cons_succ]); go_simp; try with_reducible rfl)); (try simp only [List.getElem_toArray, List.getElem_cons_zero, List.getElem_cons_succ]); (try simp only [Act.put, List.setIfInBounds_toArray, List.set_cons_zero, List.set_cons_succ])
          (refine wpAnyH_ready (rs := [2]) (by kernel_rfl) (by simp) ?_; refine AllReadyH.cons rfl (fun K hK => ?_) AllReadyH.nil; (try simp only [List.getElem_toArray, List.getElem_cons_zero, List.getElem_cons_succ]))
          go_simp
          go_at_call 44
          refine (spec_ProofHash nm _ _ xs ss 1 _ hnm la HF.out lu HSF.out).mono ?_
          rintro e w7 ⟨rfl, x7⟩
          replace P := P.ext x7
          replace Q := Q.ext x7
          replace la := la.ext x7
          replace lu := Row.ext lu x7
          replace lb := Lvs.ext lb x7
          replace lub := Row.ext lub x7
          replace X2 := X2.trans x7
          (try dsimp only)
          refine hK.out _ _ (by exact ⟨P.2.1 0 _ rfl, P.2.1 1 _ rfl, Q.2.1 0 _ rfl, Q.2.1 1 _ rfl⟩) (fun hHeld => ?_)
          clear hK K
          (refine wpAnyH_ready (rs := [5]) (by kernel_rfl) (by simp) ?_; refine AllReadyH.cons rfl (fun K hK => ?_) AllReadyH.nil; (try simp only [List.getElem_toArray, List.getElem_cons_zero, List.getElem_cons_succ]))
          go_simp
          go_at_call 44
          refine (spec_ProofHash nm _ _ ys ss 1 _ hnm lb HFY.out lub HSF.out).mono ?_
          rintro e w8 ⟨rfl, x8⟩
          replace P := P.ext x8
          replace Q := Q.ext x8
          replace la := la.ext x8
          replace lu := Row.ext lu x8
          replace lb := Lvs.ext lb x8
          replace lub := Row.ext lub x8
          replace X2 := X2.trans x8
          (try dsimp only)
          refine hK.out _ _ (by exact ⟨P.2.1 0 _ rfl, P.2.1 1 _ rfl, Q.2.1 0 _ rfl, Q.2.1 1 _ rfl⟩) (fun hHeld => ?_)
          clear hK K
          (refine wpAnyH_take (i := 6) (v := .bool false) rfl (by kernel_rfl) (by kernel_rfl) (by kernel_rfl) (fun _ _ _ h => h) (Or.inl ⟨by rfl, ?_⟩) (by assumption) ?_; focus (intro w hSw; (try dsimp only at hSw); (try simp only [List.getElem_toArray, List.getElem_cons_zero, List.getElem_cons_succ]); go_simp; simp [HH.out])); (try simp only [List.getElem_toArray, List.getElem_cons_zero, List.getElem_cons_succ]); (try simp only [Act.put, List.setIfInBounds_toArray, List.set_cons_zero, List.set_cons_succ])
          (refine wpAnyH_take (i := 7) (v := ?_) rfl (by kernel_rfl) (by kernel_rfl) (by kernel_rfl) (fun _ _ _ h => h) (Or.inl ⟨by rfl, ?_⟩) (by assumption) ?_; rotate_left; focus (intro w hSw; (try dsimp only at hSw); (try simp only [List.getElem_toArray, List.getElem_cons_zero, List.getElem_cons_succ]); go_simp; try with_reducible rfl)); (try simp only [List.getElem_toArray, List.getElem_cons_zero, List.getElem_cons_succ]); (try simp only [Act.put, List.setIfInBounds_toArray, List.set_cons_zero, List.set_cons_succ])
          (refine wpAnyH_take (i := 8) (v := ?_) rfl (by kernel_rfl) (by kernel_rfl) (by kernel_rfl) (fun _ _ _ h => h) (Or.inl ⟨by rfl, ?_⟩) (by assumption) ?_; rotate_left; focus (intro w hSw; (try dsimp only at hSw); (try simp only [List.getElem_toArray, List.getElem_cons_zero, List.getElem_cons_succ]); go_simp; try with_reducible rfl)); (try simp only [List.getElem_toArray, List.getElem_cons_zero, List.getElem_cons_succ]); (try simp only [Act.put, List.setIfInBounds_toArray, List.set_cons_zero, List.set_cons_succ])
          (refine wpAnyH_take (i := 9) (v := ?_) rfl (by kernel_rfl) (by kernel_rfl) (by kernel_rfl) (fun _ _ _ h => h) (Or.inl ⟨by rfl, ?_⟩) (by assumption) ?_; rotate_left; focus (intro w hSw; (try dsimp only at hSw); (try simp only [List.getElem_toArray, List.getElem_cons_zero, List.getElem_cons_succ]); go_simp; try with_reducible rfl)); (try simp only [List.getElem_toArray, List.getElem_cons_zero, List.getElem_cons_succ]); (try simp only [Act.put, List.setIfInBounds_toArray, List.set_cons_zero, List.set_cons_succ])
          refine wpAnyH_done (by kernel_rfl) ?_ _
          go_wp2_with fail
          refine wp_region_held_drew (S := (fun W => W.cell? ⟨w1.heap.size, 0, none⟩ = some (.slice a xs.length a') ∧ W.cell? ⟨w1.heap.size, 1, none⟩ = some (.slice b ss.length b') ∧ W.cell? ⟨w1.heap.size + 1, 0, none⟩ = some (.slice c ys.length c') ∧ W.cell? ⟨w1.heap.size + 1, 1, none⟩ = some (.slice d ss.length d'))) (by kernel_rfl) (by exact ⟨P.2.1 0 _ rfl, P.2.1 1 _ rfl, Q.2.1 0 _ rfl, Q.2.1 1 _ rfl⟩) (fun hHeld => ?_)
          have xe : Ext w8 w8.drew := (Ext.refl w8).drew
          replace P := P.ext xe
          replace Q := Q.ext xe
          replace la := la.ext xe
          replace lu := Row.ext lu xe
          replace lb := Lvs.ext lb xe
          replace lub := Row.ext lub xe
          replace X2 := X2.trans xe
          generalize w8.drew = w9 at *
          (refine wpAnyH_take (i := 0) (v := ?_) rfl (by kernel_rfl) (by kernel_rfl) (by kernel_rfl) (fun _ _ _ h => h) (Or.inl ⟨by rfl, ?_⟩) (by assumption) ?_; rotate_left; focus (intro w hSw; (try dsimp only at hSw); (try simp only [List.getElem_toArray, List.getElem_cons_zero]); go_simp; try with_reducible rfl)); (try simp only [List.getElem_toArray, List.getElem_cons_zero]); (try simp only [Act.put, List.setIfInBounds_toArray, List.set_cons_zero, List.set_cons_succ])
          (refine wpAnyH_take (i := 1) (v := ?_) rfl (by kernel_rfl) (by kernel_rfl) (by kernel_rfl) (fun _ _ _ h => h) (Or.inl ⟨by rfl, ?_⟩) (by assumption) ?_; rotate_left; focus (intro w hSw; (try dsimp only at hSw); (try simp only [List.getElem_toArray, List.getElem_cons_zero, List.getElem_cons_succ]); go_simp; try with_reducible rfl)); (try simp only [List.getElem_toArray, List.getElem_cons_zero, List.getElem_cons_succ]); (try simp only [Act.put, List.setIfInBounds_toArray, List.set_cons_zero, List.set_cons_succ])
          (refine wpAnyH_take (i := 2) (v := ?_) rfl (by kernel_rfl) (by kernel_rfl) (by kernel_rfl) (fun _ _ _ h => h) (Or.inl ⟨by rfl, ?_⟩) (by assumption) ?_; rotate_left; focus (intro w hSw; (try dsimp only at hSw); (try simp only [List.getElem_toArray, List.getElem_cons_zero, List.getElem_cons_succ]); go_simp; try with_reducible rfl)); (try simp only [List.getElem_toArray, List.getElem_cons_zero, List.getElem_cons_succ]); (try simp only [Act.put, List.setIfInBounds_toArray, List.set_cons_zero, List.set_cons_succ])
          (refine wpAnyH_take (i := 3) (v := ?_) rfl (by kernel_rfl) (by kernel_rfl) (by kernel_rfl) (fun _ _ _ h => h) (Or.inl ⟨by rfl, ?_⟩) (by assumption) ?_; rotate_left; focus (intro w hSw; (try dsimp only at hSw); (try simp only [List.getElem_toArray, List.getElem_cons_zero, List.getElem_cons_succ]); go_simp; try with_reducible rfl)); (try simp only [List.getElem_toArray, List.getElem_cons_zero, List.getElem_cons_succ]); (try simp only [Act.put, List.setIfInBounds_toArray, List.set_cons_zero, List.set_cons_succ])
          (refine wpAnyH_take (i := 4) (v := ?_) rfl (by kernel_rfl) (by kernel_rfl) (by kernel_rfl) (fun _ _ _ h => h) (Or.inl ⟨by rfl, ?_⟩) (by assumption) ?_; rotate_left; focus (intro w hSw; (try dsimp only at hSw); (try simp only [List.getElem_toArray, List.getElem_cons_zero, List.getElem_cons_succ]); go_simp; try with_reducible rfl)); (try simp only [List.getElem_toArray, List.getElem_cons_zero, List.getElem_cons_succ]); (try simp only [Act.put, List.setIfInBounds_toArray, List.set_cons_zero, List.set_cons_succ])
          (refine wpAnyH_take (i := 6) (v := ?_) rfl (by kernel_rfl) (by kernel_rfl) (by kernel_rfl) (fun _ _ _ h => h) (Or.inl ⟨by rfl, ?_⟩) (by assumption) ?_; rotate_left; focus (intro w hSw; (try dsimp only at hSw); (try simp only [List.getElem_toArray, List.getElem_cons_zero, List.getElem_cons_succ]); go_simp; try with_reducible rfl)); (try simp only [List.getElem_toArray, List.getElem_cons_zero, List.getElem_cons_succ]); (try simp only [Act.put, List.setIfInBounds_toArray, List.set_cons_zero, List.set_cons_succ])
          (refine wpAnyH_take (i := 7) (v := ?_) rfl (by kernel_rfl) (by kernel_rfl) (by kernel_rfl) (fun _ _ _ h => h) (Or.inl ⟨by rfl, ?_⟩) (by assumption) ?_; rotate_left; focus (intro w hSw; (try dsimp only at hSw); (try simp only [List.getElem_toArray, List.getElem_cons_zero, List.getElem_cons_succ]); go_simp; try with_reducible rfl)); (try simp only [List.getElem_toArray, List.getElem_cons_zero, List.getElem_cons_succ]); (try simp only [Act.put, List.setIfInBounds_toArray, List.set_cons_zero, List.set_cons_succ])
          (refine wpAnyH_ready (rs := [5]) (by kernel_rfl) (by simp) ?_; refine AllReadyH.cons rfl (fun K hK => ?_) AllReadyH.nil; (try simp only [List.getElem_toArray, List.getElem_cons_zero, List.getElem_cons_succ]))
          go_simp
          go_at_call 45
          refine (impl_ProofHash nm _ _ xs ss 1 _ hnm la HF.out lu HSF.out (HT.out.ext X2)).mono ?_
          rintro e wa ⟨rfl, xa⟩
          replace P := P.ext xa
          replace Q := Q.ext xa
          replace la := la.ext xa
          replace lu := Row.ext lu xa
          replace lb := Lvs.ext lb xa
          replace lub := Row.ext lub xa
          replace X2 := X2.trans xa
          (try dsimp only)
          refine hK.out _ _ (by exact ⟨P.2.1 0 _ rfl, P.2.1 1 _ rfl, Q.2.1 0 _ rfl, Q.2.1 1 _ rfl⟩) (fun hHeld => ?_)
          clear hK K
          (refine wpAnyH_ready (rs := [8]) (by kernel_rfl) (by simp) ?_; refine AllReadyH.cons rfl (fun K hK => ?_) AllReadyH.nil; (try simp only [List.getElem_toArray, List.getElem_cons_zero, List.getElem_cons_succ]))
          go_simp
          go_at_call 44
          refine (spec_ProofHash nm _ _ xs ss 1 _ hnm la HF.out lu HSF.out).mono ?_
          rintro e wb ⟨rfl, xb⟩
          replace P := P.ext xb
          replace Q := Q.ext xb
          replace la := la.ext xb
          replace lu := Row.ext lu xb
          replace lb := Lvs.ext lb xb
          replace lub := Row.ext lub xb
          replace X2 := X2.trans xb
          (try dsimp only)
          refine hK.out _ _ (by exact ⟨P.2.1 0 _ rfl, P.2.1 1 _ rfl, Q.2.1 0 _ rfl, Q.2.1 1 _ rfl⟩) (fun hHeld => ?_)
          clear hK K
          (refine wpAnyH_take (i := 9) (v := .bool true) rfl (by kernel_rfl) (by kernel_rfl) (by kernel_rfl) (fun _ _ _ h => h) (Or.inl ⟨by rfl, ?_⟩) (by assumption) ?_; focus (intro w hSw; (try dsimp only at hSw); (try simp only [List.getElem_toArray, List.getElem_cons_zero, List.getElem_cons_succ]); go_simp; (try simp))); (try simp only [List.getElem_toArray, List.getElem_cons_zero, List.getElem_cons_succ]); (try simp only [Act.put, List.setIfInBounds_toArray, List.set_cons_zero, List.set_cons_succ])
          (refine wpAnyH_take (i := 10) (v := ?_) rfl (by kernel_rfl) (by kernel_rfl) (by kernel_rfl) (fun _ _ _ h => h) (Or.inl ⟨by rfl, ?_⟩) (by assumption) ?_; rotate_left; focus (intro w hSw; (try dsimp only at hSw); (try simp only [List.getElem_toArray, List.getElem_cons_zero, List.getElem_cons_succ]); go_simp; try with_reducible rfl)); (try simp only [List.getElem_toArray, List.getElem_cons_zero, List.getElem_cons_succ]); (try simp only [Act.put, List.setIfInBounds_toArray, List.set_cons_zero, List.set_cons_succ])
          (refine wpAnyH_take (i := 11) (v := ?_) rfl (by kernel_rfl) (by kernel_rfl) (by kernel_rfl) (fun _ _ _ h => h) (Or.inl ⟨by rfl, ?_⟩) (by assumption) ?_; rotate_left; focus (intro w hSw; (try dsimp only at hSw); (try simp only [List.getElem_toArray, List.getElem_cons_zero, List.getElem_cons_succ]); go_simp; try with_reducible rfl)); (try simp only [List.getElem_toArray, List.getElem_cons_zero, List.getElem_cons_succ]); (try simp only [Act.put, List.setIfInBounds_toArray, List.set_cons_zero, List.set_cons_succ])
          refine wpAnyH_done (by kernel_rfl) ?_ _
          go_wp2
          go_ret
          exact ⟨rfl, X2⟩
        · obtain ⟨ea, eb, he, hne, hcut, za, zb⟩ := extract_law2 HP.out HQ.out rfl hh (fun e => hg e.2)
          rw [he]
          rintro e w3 ⟨rfl, x3⟩
          replace P := P.ext x3
          replace Q := Q.ext x3
          replace la := la.ext x3
          replace lu := Row.ext lu x3
          replace lb := Lvs.ext lb x3
          replace lub := Row.ext lub x3
          replace X2 := X2.trans x3
          have p0 := P.2.1 0 _ rfl
          have p1 := P.2.1 1 _ rfl
          have q0 := Q.2.1 0 _ rfl
          have q1 := Q.2.1 1 _ rfl
          have HH := Lib.hid hh
          have HV := Lib.hid hv
          have HG := Lib.hid hg
          have bV : ((leafVal xs nm).toList == (leafVal ys nm).toList) = true := by rw [toList_beq]; exact decide_eq_true hv
          have bG : (leafHas xs nm == leafHas ys nm) = false := by exact beq_eq_false_iff_ne.2 hg
          clear hh hv hg
          go_wp2_with fail
          refine (spec_ProofSays nm _ _ xs _ la ⟨_, _, _, rfl⟩).mono ?_
          generalize hvx : leafVal xs nm = vx at *
          generalize hgx : leafHas xs nm = gx at *
          clear hvx hgx
          rintro e w4 ⟨rfl, x4⟩
          replace P := P.ext x4
          replace Q := Q.ext x4
          replace la := la.ext x4
          replace lu := Row.ext lu x4
          replace lb := Lvs.ext lb x4
          replace lub := Row.ext lub x4
          replace X2 := X2.trans x4
          clear p0 p1 q0 q1
          have p0 := P.2.1 0 _ rfl
          have p1 := P.2.1 1 _ rfl
          have q0 := Q.2.1 0 _ rfl
          have q1 := Q.2.1 1 _ rfl
          go_wp2_with fail
          refine (spec_ProofSays nm _ _ ys _ lb ⟨_, _, _, rfl⟩).mono ?_
          generalize hvy : leafVal ys nm = vy at *
          generalize hgy : leafHas ys nm = gy at *
          clear hvy hgy
          rintro e w5 ⟨rfl, x5⟩
          replace P := P.ext x5
          replace Q := Q.ext x5
          replace la := la.ext x5
          replace lu := Row.ext lu x5
          replace lb := Lvs.ext lb x5
          replace lub := Row.ext lub x5
          replace X2 := X2.trans x5
          clear p0 p1 q0 q1
          go_wp2_with fail
          refine wp_region_held_drew (S := (fun W => W.cell? ⟨w1.heap.size, 0, none⟩ = some (.slice a xs.length a') ∧ W.cell? ⟨w1.heap.size, 1, none⟩ = some (.slice b ss.length b') ∧ W.cell? ⟨w1.heap.size + 1, 0, none⟩ = some (.slice c ys.length c') ∧ W.cell? ⟨w1.heap.size + 1, 1, none⟩ = some (.slice d ss.length d'))) (by kernel_rfl) (by exact ⟨P.2.1 0 _ rfl, P.2.1 1 _ rfl, Q.2.1 0 _ rfl, Q.2.1 1 _ rfl⟩) (fun hHeld => ?_)
          have xd : Ext w5 w5.drew := (Ext.refl w5).drew
          replace P := P.ext xd
          replace Q := Q.ext xd
          replace la := la.ext xd
          replace lu := Row.ext lu xd
          replace lb := Lvs.ext lb xd
          replace lub := Row.ext lub xd
          replace X2 := X2.trans xd
          generalize w5.drew = w6 at *
          (refine wpAnyH_take (i := 0) (v := ?_) rfl (by kernel_rfl) (by kernel_rfl) (by kernel_rfl) (fun _ _ _ h => h) (Or.inl ⟨by rfl, ?_⟩) (by assumption) ?_; rotate_left; focus (intro w hSw; (try dsimp only at hSw); (try simp only [List.getElem_toArray, List.getElem_cons_zero]); go_simp; try with_reducible rfl)); (try simp only [List.getElem_toArray, List.getElem_cons_zero]); (try simp only [Act.put, List.setIfInBounds_toArray, List.set_cons_zero, List.set_cons_succ])
          (refine wpAnyH_take (i := 1) (v := ?_) rfl (by kernel_rfl) (by kernel_rfl) (by kernel_rfl) (fun _ _ _ h => h) (Or.inl ⟨by rfl, ?_⟩) (by assumption) ?_; rotate_left; focus (intro w hSw; (try dsimp only at hSw); (try simp only [List.getElem_toArray, List.getElem_cons_zero, List.getElem_cons_succ]); go_simp; try with_reducible rfl)); (try simp only [List.getElem_toArray, List.getElem_cons_zero, List.getElem_cons_succ]); (try simp only [Act.put, List.setIfInBounds_toArray, List.set_cons_zero, List.set_cons_succ])
          (refine wpAnyH_take (i := 3) (v := ?_) rfl (by kernel_rfl) (by kernel_rfl) (by kernel_rfl) (fun _ _ _ h => h) (Or.inl ⟨by rfl, ?_⟩) (by assumption) ?_; rotate_left; focus (intro w hSw; (try dsimp only at hSw); (try simp only [List.getElem_toArray, List.getElem_cons_zero, List.getElem_cons_succ]); go_simp; try with_reducible rfl)); (try simp only [List.getElem_toArray, List.getElem_cons_zero, List.getElem_cons_succ]); (try simp only [Act.put, List.setIfInBounds_toArray, List.set_cons_zero, List.set_cons_succ])
          (refine wpAnyH_take (i := 4) (v := ?_) rfl (by kernel_rfl) (by kernel_rfl) (by kernel_rfl) (fun _ _ _ h => h) (Or.inl ⟨by rfl, ?_⟩) (by assumption) ?_; rotate_left; focus (intro w hSw; (try dsimp only at hSw); (try simp only [List.getElem_toArray, List.getElem_cons_zero, List.getElem_cons_succ]); go_simp; try with_reducible rfl)); (try simp only [List.getElem_toArray, List.getElem_cons_zero, List.getElem_cons_succ]); (try simp only [Act.put, List.setIfInBounds_toArray, List.set_cons_zero, List.set_cons_succ])
          (refine wpAnyH_ready (rs := [2]) (by kernel_rfl) (by simp) ?_; refine AllReadyH.cons rfl (fun K hK => ?_) AllReadyH.nil; (try simp only [List.getElem_toArray, List.getElem_cons_zero, List.getElem_cons_succ]))
          go_simp
          go_at_call 44
          refine (spec_ProofHash nm _ _ xs ss 1 _ hnm la HF.out lu HSF.out).mono ?_
          rintro e w7 ⟨rfl, x7⟩
          replace P := P.ext x7
          replace Q := Q.ext x7
          replace la := la.ext x7
          replace lu := Row.ext lu x7
          replace lb := Lvs.ext lb x7
          replace lub := Row.ext lub x7
          replace X2 := X2.trans x7
          (try dsimp only)
          refine hK.out _ _ (by exact ⟨P.2.1 0 _ rfl, P.2.1 1 _ rfl, Q.2.1 0 _ rfl, Q.2.1 1 _ rfl⟩) (fun hHeld => ?_)
          clear hK K
          (refine wpAnyH_ready (rs := [5]) (by kernel_rfl) (by simp) ?_; refine AllReadyH.cons rfl (fun K hK => ?_) AllReadyH.nil; (try simp only [List.getElem_toArray, List.getElem_cons_zero, List.getElem_cons_succ]))
          go_simp
          go_at_call 44
          refine (spec_ProofHash nm _ _ ys ss 1 _ hnm lb HFY.out lub HSF.out).mono ?_
          rintro e w8 ⟨rfl, x8⟩
          replace P := P.ext x8
          replace Q := Q.ext x8
          replace la := la.ext x8
          replace lu := Row.ext lu x8
          replace lb := Lvs.ext lb x8
          replace lub := Row.ext lub x8
          replace X2 := X2.trans x8
          (try dsimp only)
          refine hK.out _ _ (by exact ⟨P.2.1 0 _ rfl, P.2.1 1 _ rfl, Q.2.1 0 _ rfl, Q.2.1 1 _ rfl⟩) (fun hHeld => ?_)
          clear hK K
          (refine wpAnyH_take (i := 6) (v := .bool false) rfl (by kernel_rfl) (by kernel_rfl) (by kernel_rfl) (fun _ _ _ h => h) (Or.inl ⟨by rfl, ?_⟩) (by assumption) ?_; focus (intro w hSw; (try dsimp only at hSw); (try simp only [List.getElem_toArray, List.getElem_cons_zero, List.getElem_cons_succ]); go_simp; simp [HH.out])); (try simp only [List.getElem_toArray, List.getElem_cons_zero, List.getElem_cons_succ]); (try simp only [Act.put, List.setIfInBounds_toArray, List.set_cons_zero, List.set_cons_succ])
          (refine wpAnyH_take (i := 7) (v := ?_) rfl (by kernel_rfl) (by kernel_rfl) (by kernel_rfl) (fun _ _ _ h => h) (Or.inl ⟨by rfl, ?_⟩) (by assumption) ?_; rotate_left; focus (intro w hSw; (try dsimp only at hSw); (try simp only [List.getElem_toArray, List.getElem_cons_zero, List.getElem_cons_succ]); go_simp; try with_reducible rfl)); (try simp only [List.getElem_toArray, List.getElem_cons_zero, List.getElem_cons_succ]); (try simp only [Act.put, List.setIfInBounds_toArray, List.set_cons_zero, List.set_cons_succ])
          (refine wpAnyH_take (i := 8) (v := ?_) rfl (by kernel_rfl) (by kernel_rfl) (by kernel_rfl) (fun _ _ _ h => h) (Or.inl ⟨by rfl, ?_⟩) (by assumption) ?_; rotate_left; focus (intro w hSw; (try dsimp only at hSw); (try simp only [List.getElem_toArray, List.getElem_cons_zero, List.getElem_cons_succ]); go_simp; try with_reducible rfl)); (try simp only [List.getElem_toArray, List.getElem_cons_zero, List.getElem_cons_succ]); (try simp only [Act.put, List.setIfInBounds_toArray, List.set_cons_zero, List.set_cons_succ])
          (refine wpAnyH_take (i := 9) (v := ?_) rfl (by kernel_rfl) (by kernel_rfl) (by kernel_rfl) (fun _ _ _ h => h) (Or.inl ⟨by rfl, ?_⟩) (by assumption) ?_; rotate_left; focus (intro w hSw; (try dsimp only at hSw); (try simp only [List.getElem_toArray, List.getElem_cons_zero, List.getElem_cons_succ]); go_simp; try with_reducible rfl)); (try simp only [List.getElem_toArray, List.getElem_cons_zero, List.getElem_cons_succ]); (try simp only [Act.put, List.setIfInBounds_toArray, List.set_cons_zero, List.set_cons_succ])
          refine wpAnyH_done (by kernel_rfl) ?_ _
          have bN : (ea.toList != eb.toList) = true := by rw [bne, toList_beq, decide_eq_false hne]; rfl
          have bE : (ea.toList == eb.toList) = false := by rw [toList_beq]; exact decide_eq_false hne
          have HC2 := Lib.hid hcut
          clear hcut
          have p0 := P.2.1 0 _ rfl
          have p1 := P.2.1 1 _ rfl
          have q0 := Q.2.1 0 _ rfl
          have q1 := Q.2.1 1 _ rfl
          go_wp2_with fail
          refine (spec_CutDigest ea 1 _ za).mono ?_
          rw [HC2.out]
          rintro e wa ⟨rfl, xa⟩
          replace P := P.ext xa
          replace Q := Q.ext xa
          replace la := la.ext xa
          replace lu := Row.ext lu xa
          replace lb := Lvs.ext lb xa
          replace lub := Row.ext lub xa
          replace X2 := X2.trans xa
          clear p0 p1 q0 q1
          have p0 := P.2.1 0 _ rfl
          have p1 := P.2.1 1 _ rfl
          have q0 := Q.2.1 0 _ rfl
          have q1 := Q.2.1 1 _ rfl
          go_wp2_with fail
          refine (spec_CutDigest eb 1 _ zb).mono ?_
          generalize cutT eb 1 = ct at *
          rintro e wb ⟨rfl, xb⟩
          replace P := P.ext xb
          replace Q := Q.ext xb
          replace la := la.ext xb
          replace lu := Row.ext lu xb
          replace lb := Lvs.ext lb xb
          replace lub := Row.ext lub xb
          replace X2 := X2.trans xb
          clear p0 p1 q0 q1
          have p0 := P.2.1 0 _ rfl
          have p1 := P.2.1 1 _ rfl
          have q0 := Q.2.1 0 _ rfl
          have q1 := Q.2.1 1 _ rfl
          go_wp2_with fail
          refine (impl_ProofOk nm _ _ ys ss 1 _ hnm lb HFY.out lub HSF.out (HT.out.ext X2)).mono ?_
          rw [HQ.out]
          rintro e wc ⟨rfl, xc⟩
          go_wp2
          go_ret
          exact ⟨rfl, X2.trans xc⟩
      · obtain ⟨ea, eb, he, hne, hcut, za, zb⟩ := extract_law2 HP.out HQ.out rfl hh (fun e => hv e.1)
        rw [he]
        rintro e w3 ⟨rfl, x3⟩
        replace P := P.ext x3
        replace Q := Q.ext x3
        replace la := la.ext x3
        replace lu := Row.ext lu x3
        replace lb := Lvs.ext lb x3
        replace lub := Row.ext lub x3
        replace X2 := X2.trans x3
        have p0 := P.2.1 0 _ rfl
        have p1 := P.2.1 1 _ rfl
        have q0 := Q.2.1 0 _ rfl
        have q1 := Q.2.1 1 _ rfl
        have HH := Lib.hid hh
        have HV := Lib.hid hv
        have bV : ((leafVal xs nm).toList == (leafVal ys nm).toList) = false := by rw [toList_beq]; exact decide_eq_false hv
        clear hh hv
        go_wp2_with fail
        refine (spec_ProofSays nm _ _ xs _ la ⟨_, _, _, rfl⟩).mono ?_
        generalize hvx : leafVal xs nm = vx at *
        generalize hgx : leafHas xs nm = gx at *
        clear hvx hgx
        rintro e w4 ⟨rfl, x4⟩
        replace P := P.ext x4
        replace Q := Q.ext x4
        replace la := la.ext x4
        replace lu := Row.ext lu x4
        replace lb := Lvs.ext lb x4
        replace lub := Row.ext lub x4
        replace X2 := X2.trans x4
        clear p0 p1 q0 q1
        have p0 := P.2.1 0 _ rfl
        have p1 := P.2.1 1 _ rfl
        have q0 := Q.2.1 0 _ rfl
        have q1 := Q.2.1 1 _ rfl
        go_wp2_with fail
        refine (spec_ProofSays nm _ _ ys _ lb ⟨_, _, _, rfl⟩).mono ?_
        generalize hvy : leafVal ys nm = vy at *
        generalize hgy : leafHas ys nm = gy at *
        clear hvy hgy
        rintro e w5 ⟨rfl, x5⟩
        replace P := P.ext x5
        replace Q := Q.ext x5
        replace la := la.ext x5
        replace lu := Row.ext lu x5
        replace lb := Lvs.ext lb x5
        replace lub := Row.ext lub x5
        replace X2 := X2.trans x5
        clear p0 p1 q0 q1
        go_wp2_with fail
        refine wp_region_held_drew (S := (fun W => W.cell? ⟨w1.heap.size, 0, none⟩ = some (.slice a xs.length a') ∧ W.cell? ⟨w1.heap.size, 1, none⟩ = some (.slice b ss.length b') ∧ W.cell? ⟨w1.heap.size + 1, 0, none⟩ = some (.slice c ys.length c') ∧ W.cell? ⟨w1.heap.size + 1, 1, none⟩ = some (.slice d ss.length d'))) (by kernel_rfl) (by exact ⟨P.2.1 0 _ rfl, P.2.1 1 _ rfl, Q.2.1 0 _ rfl, Q.2.1 1 _ rfl⟩) (fun hHeld => ?_)
        have xd : Ext w5 w5.drew := (Ext.refl w5).drew
        replace P := P.ext xd
        replace Q := Q.ext xd
        replace la := la.ext xd
        replace lu := Row.ext lu xd
        replace lb := Lvs.ext lb xd
        replace lub := Row.ext lub xd
        replace X2 := X2.trans xd
        generalize w5.drew = w6 at *
        (refine wpAnyH_take (i := 0) (v := ?_) rfl (by kernel_rfl) (by kernel_rfl) (by kernel_rfl) (fun _ _ _ h => h) (Or.inl ⟨by rfl, ?_⟩) (by assumption) ?_; rotate_left; focus (intro w hSw; (try dsimp only at hSw); (try simp only [List.getElem_toArray, List.getElem_cons_zero]); go_simp; try with_reducible rfl)); (try simp only [List.getElem_toArray, List.getElem_cons_zero]); (try simp only [Act.put, List.setIfInBounds_toArray, List.set_cons_zero, List.set_cons_succ])
        (refine wpAnyH_take (i := 1) (v := ?_) rfl (by kernel_rfl) (by kernel_rfl) (by kernel_rfl) (fun _ _ _ h => h) (Or.inl ⟨by rfl, ?_⟩) (by assumption) ?_; rotate_left; focus (intro w hSw; (try dsimp only at hSw); (try simp only [List.getElem_toArray, List.getElem_cons_zero, List.getElem_cons_succ]); go_simp; try with_reducible rfl)); (try simp only [List.getElem_toArray, List.getElem_cons_zero, List.getElem_cons_succ]); (try simp only [Act.put, List.setIfInBounds_toArray, List.set_cons_zero, List.set_cons_succ])
        (refine wpAnyH_take (i := 3) (v := ?_) rfl (by kernel_rfl) (by kernel_rfl) (by kernel_rfl) (fun _ _ _ h => h) (Or.inl ⟨by rfl, ?_⟩) (by assumption) ?_; rotate_left; focus (intro w hSw; (try dsimp only at hSw); (try simp only [List.getElem_toArray, List.getElem_cons_zero, List.getElem_cons_succ]); go_simp; try with_reducible rfl)); (try simp only [List.getElem_toArray, List.getElem_cons_zero, List.getElem_cons_succ]); (try simp only [Act.put, List.setIfInBounds_toArray, List.set_cons_zero, List.set_cons_succ])
        (refine wpAnyH_take (i := 4) (v := ?_) rfl (by kernel_rfl) (by kernel_rfl) (by kernel_rfl) (fun _ _ _ h => h) (Or.inl ⟨by rfl, ?_⟩) (by assumption) ?_; rotate_left; focus (intro w hSw; (try dsimp only at hSw); (try simp only [List.getElem_toArray, List.getElem_cons_zero, List.getElem_cons_succ]); go_simp; try with_reducible rfl)); (try simp only [List.getElem_toArray, List.getElem_cons_zero, List.getElem_cons_succ]); (try simp only [Act.put, List.setIfInBounds_toArray, List.set_cons_zero, List.set_cons_succ])
        (refine wpAnyH_ready (rs := [2]) (by kernel_rfl) (by simp) ?_; refine AllReadyH.cons rfl (fun K hK => ?_) AllReadyH.nil; (try simp only [List.getElem_toArray, List.getElem_cons_zero, List.getElem_cons_succ]))
        go_simp
        go_at_call 44
        refine (spec_ProofHash nm _ _ xs ss 1 _ hnm la HF.out lu HSF.out).mono ?_
        rintro e w7 ⟨rfl, x7⟩
        replace P := P.ext x7
        replace Q := Q.ext x7
        replace la := la.ext x7
        replace lu := Row.ext lu x7
        replace lb := Lvs.ext lb x7
        replace lub := Row.ext lub x7
        replace X2 := X2.trans x7
        (try dsimp only)
        refine hK.out _ _ (by exact ⟨P.2.1 0 _ rfl, P.2.1 1 _ rfl, Q.2.1 0 _ rfl, Q.2.1 1 _ rfl⟩) (fun hHeld => ?_)
        clear hK K
        (refine wpAnyH_ready (rs := [5]) (by kernel_rfl) (by simp) ?_; refine AllReadyH.cons rfl (fun K hK => ?_) AllReadyH.nil; (try simp only [List.getElem_toArray, List.getElem_cons_zero, List.getElem_cons_succ]))
        go_simp
        go_at_call 44
        refine (spec_ProofHash nm _ _ ys ss 1 _ hnm lb HFY.out lub HSF.out).mono ?_
        rintro e w8 ⟨rfl, x8⟩
        replace P := P.ext x8
        replace Q := Q.ext x8
        replace la := la.ext x8
        replace lu := Row.ext lu x8
        replace lb := Lvs.ext lb x8
        replace lub := Row.ext lub x8
        replace X2 := X2.trans x8
        (try dsimp only)
        refine hK.out _ _ (by exact ⟨P.2.1 0 _ rfl, P.2.1 1 _ rfl, Q.2.1 0 _ rfl, Q.2.1 1 _ rfl⟩) (fun hHeld => ?_)
        clear hK K
        (refine wpAnyH_take (i := 6) (v := .bool false) rfl (by kernel_rfl) (by kernel_rfl) (by kernel_rfl) (fun _ _ _ h => h) (Or.inl ⟨by rfl, ?_⟩) (by assumption) ?_; focus (intro w hSw; (try dsimp only at hSw); (try simp only [List.getElem_toArray, List.getElem_cons_zero, List.getElem_cons_succ]); go_simp; simp [HH.out])); (try simp only [List.getElem_toArray, List.getElem_cons_zero, List.getElem_cons_succ]); (try simp only [Act.put, List.setIfInBounds_toArray, List.set_cons_zero, List.set_cons_succ])
        (refine wpAnyH_take (i := 7) (v := ?_) rfl (by kernel_rfl) (by kernel_rfl) (by kernel_rfl) (fun _ _ _ h => h) (Or.inl ⟨by rfl, ?_⟩) (by assumption) ?_; rotate_left; focus (intro w hSw; (try dsimp only at hSw); (try simp only [List.getElem_toArray, List.getElem_cons_zero, List.getElem_cons_succ]); go_simp; try with_reducible rfl)); (try simp only [List.getElem_toArray, List.getElem_cons_zero, List.getElem_cons_succ]); (try simp only [Act.put, List.setIfInBounds_toArray, List.set_cons_zero, List.set_cons_succ])
        (refine wpAnyH_take (i := 8) (v := ?_) rfl (by kernel_rfl) (by kernel_rfl) (by kernel_rfl) (fun _ _ _ h => h) (Or.inl ⟨by rfl, ?_⟩) (by assumption) ?_; rotate_left; focus (intro w hSw; (try dsimp only at hSw); (try simp only [List.getElem_toArray, List.getElem_cons_zero, List.getElem_cons_succ]); go_simp; try with_reducible rfl)); (try simp only [List.getElem_toArray, List.getElem_cons_zero, List.getElem_cons_succ]); (try simp only [Act.put, List.setIfInBounds_toArray, List.set_cons_zero, List.set_cons_succ])
        (refine wpAnyH_take (i := 9) (v := ?_) rfl (by kernel_rfl) (by kernel_rfl) (by kernel_rfl) (fun _ _ _ h => h) (Or.inl ⟨by rfl, ?_⟩) (by assumption) ?_; rotate_left; focus (intro w hSw; (try dsimp only at hSw); (try simp only [List.getElem_toArray, List.getElem_cons_zero, List.getElem_cons_succ]); go_simp; try with_reducible rfl)); (try simp only [List.getElem_toArray, List.getElem_cons_zero, List.getElem_cons_succ]); (try simp only [Act.put, List.setIfInBounds_toArray, List.set_cons_zero, List.set_cons_succ])
        refine wpAnyH_done (by kernel_rfl) ?_ _
        have bN : (ea.toList != eb.toList) = true := by rw [bne, toList_beq, decide_eq_false hne]; rfl
        have bE : (ea.toList == eb.toList) = false := by rw [toList_beq]; exact decide_eq_false hne
        have HC2 := Lib.hid hcut
        clear hcut
        have p0 := P.2.1 0 _ rfl
        have p1 := P.2.1 1 _ rfl
        have q0 := Q.2.1 0 _ rfl
        have q1 := Q.2.1 1 _ rfl
        go_wp2_with fail
        refine (spec_CutDigest ea 1 _ za).mono ?_
        rw [HC2.out]
        rintro e wa ⟨rfl, xa⟩
        replace P := P.ext xa
        replace Q := Q.ext xa
        replace la := la.ext xa
        replace lu := Row.ext lu xa
        replace lb := Lvs.ext lb xa
        replace lub := Row.ext lub xa
        replace X2 := X2.trans xa
        clear p0 p1 q0 q1
        have p0 := P.2.1 0 _ rfl
        have p1 := P.2.1 1 _ rfl
        have q0 := Q.2.1 0 _ rfl
        have q1 := Q.2.1 1 _ rfl
        go_wp2_with fail
        refine (spec_CutDigest eb 1 _ zb).mono ?_
        generalize cutT eb 1 = ct at *
        rintro e wb ⟨rfl, xb⟩
        replace P := P.ext xb
        replace Q := Q.ext xb
        replace la := la.ext xb
        replace lu := Row.ext lu xb
        replace lb := Lvs.ext lb xb
        replace lub := Row.ext lub xb
        replace X2 := X2.trans xb
        clear p0 p1 q0 q1
        have p0 := P.2.1 0 _ rfl
        have p1 := P.2.1 1 _ rfl
        have q0 := Q.2.1 0 _ rfl
        have q1 := Q.2.1 1 _ rfl
        go_wp2_with fail
        refine (impl_ProofOk nm _ _ ys ss 1 _ hnm lb HFY.out lub HSF.out (HT.out.ext X2)).mono ?_
        rw [HQ.out]
        rintro e wc ⟨rfl, xc⟩
        go_wp2
        go_ret
        exact ⟨rfl, X2.trans xc⟩
    · rw [extract_none (Or.inl hh)]
      dsimp only [scanV]
      by_cases hv : leafVal xs nm = leafVal ys nm
      · by_cases hg : leafHas xs nm = leafHas ys nm
        · rintro e w3 ⟨rfl, x3⟩
          replace P := P.ext x3
          replace Q := Q.ext x3
          replace la := la.ext x3
          replace lu := Row.ext lu x3
          replace lb := Lvs.ext lb x3
          replace lub := Row.ext lub x3
          replace X2 := X2.trans x3
          have p0 := P.2.1 0 _ rfl
          have p1 := P.2.1 1 _ rfl
          have q0 := Q.2.1 0 _ rfl
          have q1 := Q.2.1 1 _ rfl
          have HH := Lib.hid hh
          have HV := Lib.hid hv
          have HG := Lib.hid hg
          have bV : ((leafVal xs nm).toList == (leafVal ys nm).toList) = true := by rw [toList_beq]; exact decide_eq_true hv
          have bG : (leafHas xs nm == leafHas ys nm) = true := by rw [hg]; exact beq_self_eq_true _
          clear hh hv hg
          go_wp2_with fail
          refine (spec_ProofSays nm _ _ xs _ la ⟨_, _, _, rfl⟩).mono ?_
          generalize hvx : leafVal xs nm = vx at *
          generalize hgx : leafHas xs nm = gx at *
          clear hvx hgx
          rintro e w4 ⟨rfl, x4⟩
          replace P := P.ext x4
          replace Q := Q.ext x4
          replace la := la.ext x4
          replace lu := Row.ext lu x4
          replace lb := Lvs.ext lb x4
          replace lub := Row.ext lub x4
          replace X2 := X2.trans x4
          clear p0 p1 q0 q1
          have p0 := P.2.1 0 _ rfl
          have p1 := P.2.1 1 _ rfl
          have q0 := Q.2.1 0 _ rfl
          have q1 := Q.2.1 1 _ rfl
          go_wp2_with fail
          refine (spec_ProofSays nm _ _ ys _ lb ⟨_, _, _, rfl⟩).mono ?_
          generalize hvy : leafVal ys nm = vy at *
          generalize hgy : leafHas ys nm = gy at *
          clear hvy hgy
          rintro e w5 ⟨rfl, x5⟩
          replace P := P.ext x5
          replace Q := Q.ext x5
          replace la := la.ext x5
          replace lu := Row.ext lu x5
          replace lb := Lvs.ext lb x5
          replace lub := Row.ext lub x5
          replace X2 := X2.trans x5
          clear p0 p1 q0 q1
          go_wp2_with fail
          refine wp_region_held_drew (S := (fun W => W.cell? ⟨w1.heap.size, 0, none⟩ = some (.slice a xs.length a') ∧ W.cell? ⟨w1.heap.size, 1, none⟩ = some (.slice b ss.length b') ∧ W.cell? ⟨w1.heap.size + 1, 0, none⟩ = some (.slice c ys.length c') ∧ W.cell? ⟨w1.heap.size + 1, 1, none⟩ = some (.slice d ss.length d'))) (by kernel_rfl) (by exact ⟨P.2.1 0 _ rfl, P.2.1 1 _ rfl, Q.2.1 0 _ rfl, Q.2.1 1 _ rfl⟩) (fun hHeld => ?_)
          have xd : Ext w5 w5.drew := (Ext.refl w5).drew
          replace P := P.ext xd
          replace Q := Q.ext xd
          replace la := la.ext xd
          replace lu := Row.ext lu xd
          replace lb := Lvs.ext lb xd
          replace lub := Row.ext lub xd
          replace X2 := X2.trans xd
          generalize w5.drew = w6 at *
          (refine wpAnyH_take (i := 0) (v := ?_) rfl (by kernel_rfl) (by kernel_rfl) (by kernel_rfl) (fun _ _ _ h => h) (Or.inl ⟨by rfl, ?_⟩) (by assumption) ?_; rotate_left; focus (intro w hSw; (try dsimp only at hSw); (try simp only [List.getElem_toArray, List.getElem_cons_zero]); go_simp; try with_reducible rfl)); (try simp only [List.getElem_toArray, List.getElem_cons_zero]); (try simp only [Act.put, List.setIfInBounds_toArray, List.set_cons_zero, List.set_cons_succ])
          (refine wpAnyH_take (i := 1) (v := ?_) rfl (by kernel_rfl) (by kernel_rfl) (by kernel_rfl) (fun _ _ _ h => h) (Or.inl ⟨by rfl, ?_⟩) (by assumption) ?_; rotate_left; focus (intro w hSw; (try dsimp only at hSw); (try simp only [List.getElem_toArray, List.getElem_cons_zero, List.getElem_cons_succ]); go_simp; try with_reducible rfl)); (try simp only [List.getElem_toArray, List.getElem_cons_zero, List.getElem_cons_succ]); (try simp only [Act.put, List.setIfInBounds_toArray, List.set_cons_zero, List.set_cons_succ])
          (refine wpAnyH_take (i := 3) (v := ?_) rfl (by kernel_rfl) (by kernel_rfl) (by kernel_rfl) (fun _ _ _ h => h) (Or.inl ⟨by rfl, ?_⟩) (by assumption) ?_; rotate_left; focus (intro w hSw; (try dsimp only at hSw); (try simp only [List.getElem_toArray, List.getElem_cons_zero, List.getElem_cons_succ]); go_simp; try with_reducible rfl)); (try simp only [List.getElem_toArray, List.getElem_cons_zero, List.getElem_cons_succ]); (try simp only [Act.put, List.setIfInBounds_toArray, List.set_cons_zero, List.set_cons_succ])
          (refine wpAnyH_take (i := 4) (v := ?_) rfl (by kernel_rfl) (by kernel_rfl) (by kernel_rfl) (fun _ _ _ h => h) (Or.inl ⟨by rfl, ?_⟩) (by assumption) ?_; rotate_left; focus (intro w hSw; (try dsimp only at hSw); (try simp only [List.getElem_toArray, List.getElem_cons_zero, List.getElem_cons_succ]); go_simp; try with_reducible rfl)); (try simp only [List.getElem_toArray, List.getElem_cons_zero, List.getElem_cons_succ]); (try simp only [Act.put, List.setIfInBounds_toArray, List.set_cons_zero, List.set_cons_succ])
          (refine wpAnyH_ready (rs := [2]) (by kernel_rfl) (by simp) ?_; refine AllReadyH.cons rfl (fun K hK => ?_) AllReadyH.nil; (try simp only [List.getElem_toArray, List.getElem_cons_zero, List.getElem_cons_succ]))
          go_simp
          go_at_call 44
          refine (spec_ProofHash nm _ _ xs ss 1 _ hnm la HF.out lu HSF.out).mono ?_
          rintro e w7 ⟨rfl, x7⟩
          replace P := P.ext x7
          replace Q := Q.ext x7
          replace la := la.ext x7
          replace lu := Row.ext lu x7
          replace lb := Lvs.ext lb x7
          replace lub := Row.ext lub x7
          replace X2 := X2.trans x7
          (try dsimp only)
          refine hK.out _ _ (by exact ⟨P.2.1 0 _ rfl, P.2.1 1 _ rfl, Q.2.1 0 _ rfl, Q.2.1 1 _ rfl⟩) (fun hHeld => ?_)
          clear hK K
          (refine wpAnyH_ready (rs := [5]) (by kernel_rfl) (by simp) ?_; refine AllReadyH.cons rfl (fun K hK => ?_) AllReadyH.nil; (try simp only [List.getElem_toArray, List.getElem_cons_zero, List.getElem_cons_succ]))
          go_simp
          go_at_call 44
          refine (spec_ProofHash nm _ _ ys ss 1 _ hnm lb HFY.out lub HSF.out).mono ?_
          rintro e w8 ⟨rfl, x8⟩
          replace P := P.ext x8
          replace Q := Q.ext x8
          replace la := la.ext x8
          replace lu := Row.ext lu x8
          replace lb := Lvs.ext lb x8
          replace lub := Row.ext lub x8
          replace X2 := X2.trans x8
          (try dsimp only)
          refine hK.out _ _ (by exact ⟨P.2.1 0 _ rfl, P.2.1 1 _ rfl, Q.2.1 0 _ rfl, Q.2.1 1 _ rfl⟩) (fun hHeld => ?_)
          clear hK K
          (refine wpAnyH_take (i := 6) (v := .bool true) rfl (by kernel_rfl) (by kernel_rfl) (by kernel_rfl) (fun _ _ _ h => h) (Or.inl ⟨by rfl, ?_⟩) (by assumption) ?_; focus (intro w hSw; (try dsimp only at hSw); (try simp only [List.getElem_toArray, List.getElem_cons_zero, List.getElem_cons_succ]); go_simp; exact fun e => HH.out (toList_inj.1 e))); (try simp only [List.getElem_toArray, List.getElem_cons_zero, List.getElem_cons_succ]); (try simp only [Act.put, List.setIfInBounds_toArray, List.set_cons_zero, List.set_cons_succ])
          (refine wpAnyH_take (i := 7) (v := ?_) rfl (by kernel_rfl) (by kernel_rfl) (by kernel_rfl) (fun _ _ _ h => h) (Or.inl ⟨by rfl, ?_⟩) (by assumption) ?_; rotate_left; focus (intro w hSw; (try dsimp only at hSw); (try simp only [List.getElem_toArray, List.getElem_cons_zero, List.getElem_cons_succ]); go_simp; try with_reducible rfl)); (try simp only [List.getElem_toArray, List.getElem_cons_zero, List.getElem_cons_succ]); (try simp only [Act.put, List.setIfInBounds_toArray, List.set_cons_zero, List.set_cons_succ])
          (refine wpAnyH_take (i := 8) rfl (by kernel_rfl) (by kernel_rfl) (by kernel_rfl) (fun _ _ _ h => h) (Or.inr ⟨by rfl, rfl⟩) (by assumption) ?_); (try simp only [List.getElem_toArray, List.getElem_cons_zero, List.getElem_cons_succ]); (try simp only [Act.put, List.setIfInBounds_toArray, List.set_cons_zero, List.set_cons_succ])
          (refine wpAnyH_take (i := 9) (v := ?_) rfl (by kernel_rfl) (by kernel_rfl) (by kernel_rfl) (fun _ _ _ h => h) (Or.inl ⟨by rfl, ?_⟩) (by assumption) ?_; rotate_left; focus (intro w hSw; (try dsimp only at hSw); (try simp only [List.getElem_toArray, List.getElem_cons_zero, List.getElem_cons_succ]); go_simp; try with_reducible rfl)); (try simp only [List.getElem_toArray, List.getElem_cons_zero, List.getElem_cons_succ]); (try simp only [Act.put, List.setIfInBounds_toArray, List.set_cons_zero, List.set_cons_succ])
          refine wpAnyH_done (by kernel_rfl) ?_ _
          go_wp2_with fail
          refine wp_region_held_drew (S := (fun W => W.cell? ⟨w1.heap.size, 0, none⟩ = some (.slice a xs.length a') ∧ W.cell? ⟨w1.heap.size, 1, none⟩ = some (.slice b ss.length b') ∧ W.cell? ⟨w1.heap.size + 1, 0, none⟩ = some (.slice c ys.length c') ∧ W.cell? ⟨w1.heap.size + 1, 1, none⟩ = some (.slice d ss.length d'))) (by kernel_rfl) (by exact ⟨P.2.1 0 _ rfl, P.2.1 1 _ rfl, Q.2.1 0 _ rfl, Q.2.1 1 _ rfl⟩) (fun hHeld => ?_)
          have xe : Ext w8 w8.drew := (Ext.refl w8).drew
          replace P := P.ext xe
          replace Q := Q.ext xe
          replace la := la.ext xe
          replace lu := Row.ext lu xe
          replace lb := Lvs.ext lb xe
          replace lub := Row.ext lub xe
          replace X2 := X2.trans xe
          generalize w8.drew = w9 at *
          (refine wpAnyH_take (i := 0) (v := ?_) rfl (by kernel_rfl) (by kernel_rfl) (by kernel_rfl) (fun _ _ _ h => h) (Or.inl ⟨by rfl, ?_⟩) (by assumption) ?_; rotate_left; focus (intro w hSw; (try dsimp only at hSw); (try simp only [List.getElem_toArray, List.getElem_cons_zero]); go_simp; try with_reducible rfl)); (try simp only [List.getElem_toArray, List.getElem_cons_zero]); (try simp only [Act.put, List.setIfInBounds_toArray, List.set_cons_zero, List.set_cons_succ])
          (refine wpAnyH_take (i := 1) (v := ?_) rfl (by kernel_rfl) (by kernel_rfl) (by kernel_rfl) (fun _ _ _ h => h) (Or.inl ⟨by rfl, ?_⟩) (by assumption) ?_; rotate_left; focus (intro w hSw; (try dsimp only at hSw); (try simp only [List.getElem_toArray, List.getElem_cons_zero, List.getElem_cons_succ]); go_simp; try with_reducible rfl)); (try simp only [List.getElem_toArray, List.getElem_cons_zero, List.getElem_cons_succ]); (try simp only [Act.put, List.setIfInBounds_toArray, List.set_cons_zero, List.set_cons_succ])
          (refine wpAnyH_take (i := 2) (v := ?_) rfl (by kernel_rfl) (by kernel_rfl) (by kernel_rfl) (fun _ _ _ h => h) (Or.inl ⟨by rfl, ?_⟩) (by assumption) ?_; rotate_left; focus (intro w hSw; (try dsimp only at hSw); (try simp only [List.getElem_toArray, List.getElem_cons_zero, List.getElem_cons_succ]); go_simp; try with_reducible rfl)); (try simp only [List.getElem_toArray, List.getElem_cons_zero, List.getElem_cons_succ]); (try simp only [Act.put, List.setIfInBounds_toArray, List.set_cons_zero, List.set_cons_succ])
          (refine wpAnyH_take (i := 3) (v := ?_) rfl (by kernel_rfl) (by kernel_rfl) (by kernel_rfl) (fun _ _ _ h => h) (Or.inl ⟨by rfl, ?_⟩) (by assumption) ?_; rotate_left; focus (intro w hSw; (try dsimp only at hSw); (try simp only [List.getElem_toArray, List.getElem_cons_zero, List.getElem_cons_succ]); go_simp; try with_reducible rfl)); (try simp only [List.getElem_toArray, List.getElem_cons_zero, List.getElem_cons_succ]); (try simp only [Act.put, List.setIfInBounds_toArray, List.set_cons_zero, List.set_cons_succ])
          (refine wpAnyH_take (i := 4) (v := ?_) rfl (by kernel_rfl) (by kernel_rfl) (by kernel_rfl) (fun _ _ _ h => h) (Or.inl ⟨by rfl, ?_⟩) (by assumption) ?_; rotate_left; focus (intro w hSw; (try dsimp only at hSw); (try simp only [List.getElem_toArray, List.getElem_cons_zero, List.getElem_cons_succ]); go_simp; try with_reducible rfl)); (try simp only [List.getElem_toArray, List.getElem_cons_zero, List.getElem_cons_succ]); (try simp only [Act.put, List.setIfInBounds_toArray, List.set_cons_zero, List.set_cons_succ])
          (refine wpAnyH_take (i := 6) (v := ?_) rfl (by kernel_rfl) (by kernel_rfl) (by kernel_rfl) (fun _ _ _ h => h) (Or.inl ⟨by rfl, ?_⟩) (by assumption) ?_; rotate_left; focus (intro w hSw; (try dsimp only at hSw); (try simp only [List.getElem_toArray, List.getElem_cons_zero, List.getElem_cons_succ]); go_simp; try with_reducible rfl)); (try simp only [List.getElem_toArray, List.getElem_cons_zero, List.getElem_cons_succ]); (try simp only [Act.put, List.setIfInBounds_toArray, List.set_cons_zero, List.set_cons_succ])
          (refine wpAnyH_take (i := 7) (v := ?_) rfl (by kernel_rfl) (by kernel_rfl) (by kernel_rfl) (fun _ _ _ h => h) (Or.inl ⟨by rfl, ?_⟩) (by assumption) ?_; rotate_left; focus (intro w hSw; (try dsimp only at hSw); (try simp only [List.getElem_toArray, List.getElem_cons_zero, List.getElem_cons_succ]); go_simp; try with_reducible rfl)); (try simp only [List.getElem_toArray, List.getElem_cons_zero, List.getElem_cons_succ]); (try simp only [Act.put, List.setIfInBounds_toArray, List.set_cons_zero, List.set_cons_succ])
          (refine wpAnyH_ready (rs := [5]) (by kernel_rfl) (by simp) ?_; refine AllReadyH.cons rfl (fun K hK => ?_) AllReadyH.nil; (try simp only [List.getElem_toArray, List.getElem_cons_zero, List.getElem_cons_succ]))
          go_simp
          go_at_call 45
          refine (impl_ProofHash nm _ _ xs ss 1 _ hnm la HF.out lu HSF.out (HT.out.ext X2)).mono ?_
          rintro e wa ⟨rfl, xa⟩
          replace P := P.ext xa
          replace Q := Q.ext xa
          replace la := la.ext xa
          replace lu := Row.ext lu xa
          replace lb := Lvs.ext lb xa
          replace lub := Row.ext lub xa
          replace X2 := X2.trans xa
          (try dsimp only)
          refine hK.out _ _ (by exact ⟨P.2.1 0 _ rfl, P.2.1 1 _ rfl, Q.2.1 0 _ rfl, Q.2.1 1 _ rfl⟩) (fun hHeld => ?_)
          clear hK K
          (refine wpAnyH_ready (rs := [8]) (by kernel_rfl) (by simp) ?_; refine AllReadyH.cons rfl (fun K hK => ?_) AllReadyH.nil; (try simp only [List.getElem_toArray, List.getElem_cons_zero, List.getElem_cons_succ]))
          go_simp
          go_at_call 44
          refine (spec_ProofHash nm _ _ xs ss 1 _ hnm la HF.out lu HSF.out).mono ?_
          rintro e wb ⟨rfl, xb⟩
          replace P := P.ext xb
          replace Q := Q.ext xb
          replace la := la.ext xb
          replace lu := Row.ext lu xb
          replace lb := Lvs.ext lb xb
          replace lub := Row.ext lub xb
          replace X2 := X2.trans xb
          (try dsimp only)
          refine hK.out _ _ (by exact ⟨P.2.1 0 _ rfl, P.2.1 1 _ rfl, Q.2.1 0 _ rfl, Q.2.1 1 _ rfl⟩) (fun hHeld => ?_)
          clear hK K
          (refine wpAnyH_take (i := 9) (v := .bool true) rfl (by kernel_rfl) (by kernel_rfl) (by kernel_rfl) (fun _ _ _ h => h) (Or.inl ⟨by rfl, ?_⟩) (by assumption) ?_; focus (intro w hSw; (try dsimp only at hSw); (try simp only [List.getElem_toArray, List.getElem_cons_zero, List.getElem_cons_succ]); go_simp; (try simp))); (try simp only [List.getElem_toArray, List.getElem_cons_zero, List.getElem_cons_succ]); (try simp only [Act.put, List.setIfInBounds_toArray, List.set_cons_zero, List.set_cons_succ])
          (refine wpAnyH_take (i := 10) (v := ?_) rfl (by kernel_rfl) (by kernel_rfl) (by kernel_rfl) (fun _ _ _ h => h) (Or.inl ⟨by rfl, ?_⟩) (by assumption) ?_; rotate_left; focus (intro w hSw; (try dsimp only at hSw); (try simp only [List.getElem_toArray, List.getElem_cons_zero, List.getElem_cons_succ]); go_simp; try with_reducible rfl)); (try simp only [List.getElem_toArray, List.getElem_cons_zero, List.getElem_cons_succ]); (try simp only [Act.put, List.setIfInBounds_toArray, List.set_cons_zero, List.set_cons_succ])
          (refine wpAnyH_take (i := 11) (v := ?_) rfl (by kernel_rfl) (by kernel_rfl) (by kernel_rfl) (fun _ _ _ h => h) (Or.inl ⟨by rfl, ?_⟩) (by assumption) ?_; rotate_left; focus (intro w hSw; (try dsimp only at hSw); (try simp only [List.getElem_toArray, List.getElem_cons_zero, List.getElem_cons_succ]); go_simp; try with_reducible rfl)); (try simp only [List.getElem_toArray, List.getElem_cons_zero, List.getElem_cons_succ]); (try simp only [Act.put, List.setIfInBounds_toArray, List.set_cons_zero, List.set_cons_succ])
          refine wpAnyH_done (by kernel_rfl) ?_ _
          go_wp2
          go_ret
          exact ⟨rfl, X2⟩
        · rintro e w3 ⟨rfl, x3⟩
          replace P := P.ext x3
          replace Q := Q.ext x3
          replace la := la.ext x3
          replace lu := Row.ext lu x3
          replace lb := Lvs.ext lb x3
          replace lub := Row.ext lub x3
          replace X2 := X2.trans x3
          have p0 := P.2.1 0 _ rfl
          have p1 := P.2.1 1 _ rfl
          have q0 := Q.2.1 0 _ rfl
          have q1 := Q.2.1 1 _ rfl
          have HH := Lib.hid hh
          have HV := Lib.hid hv
          have HG := Lib.hid hg
          have bV : ((leafVal xs nm).toList == (leafVal ys nm).toList) = true := by rw [toList_beq]; exact decide_eq_true hv
          have bG : (leafHas xs nm == leafHas ys nm) = false := by exact beq_eq_false_iff_ne.2 hg
          clear hh hv hg
          go_wp2_with fail
          refine (spec_ProofSays nm _ _ xs _ la ⟨_, _, _, rfl⟩).mono ?_
          generalize hvx : leafVal xs nm = vx at *
          generalize hgx : leafHas xs nm = gx at *
          clear hvx hgx
          rintro e w4 ⟨rfl, x4⟩
          replace P := P.ext x4
          replace Q := Q.ext x4
          replace la := la.ext x4
          replace lu := Row.ext lu x4
          replace lb := Lvs.ext lb x4
          replace lub := Row.ext lub x4
          replace X2 := X2.trans x4
          clear p0 p1 q0 q1
          have p0 := P.2.1 0 _ rfl
          have p1 := P.2.1 1 _ rfl
          have q0 := Q.2.1 0 _ rfl
          have q1 := Q.2.1 1 _ rfl
          go_wp2_with fail
          refine (spec_ProofSays nm _ _ ys _ lb ⟨_, _, _, rfl⟩).mono ?_
          generalize hvy : leafVal ys nm = vy at *
          generalize hgy : leafHas ys nm = gy at *
          clear hvy hgy
          rintro e w5 ⟨rfl, x5⟩
          replace P := P.ext x5
          replace Q := Q.ext x5
          replace la := la.ext x5
          replace lu := Row.ext lu x5
          replace lb := Lvs.ext lb x5
          replace lub := Row.ext lub x5
          replace X2 := X2.trans x5
          clear p0 p1 q0 q1
          go_wp2_with fail
          refine wp_region_held_drew (S := (fun W => W.cell? ⟨w1.heap.size, 0, none⟩ = some (.slice a xs.length a') ∧ W.cell? ⟨w1.heap.size, 1, none⟩ = some (.slice b ss.length b') ∧ W.cell? ⟨w1.heap.size + 1, 0, none⟩ = some (.slice c ys.length c') ∧ W.cell? ⟨w1.heap.size + 1, 1, none⟩ = some (.slice d ss.length d'))) (by kernel_rfl) (by exact ⟨P.2.1 0 _ rfl, P.2.1 1 _ rfl, Q.2.1 0 _ rfl, Q.2.1 1 _ rfl⟩) (fun hHeld => ?_)
          have xd : Ext w5 w5.drew := (Ext.refl w5).drew
          replace P := P.ext xd
          replace Q := Q.ext xd
          replace la := la.ext xd
          replace lu := Row.ext lu xd
          replace lb := Lvs.ext lb xd
          replace lub := Row.ext lub xd
          replace X2 := X2.trans xd
          generalize w5.drew = w6 at *
          (refine wpAnyH_take (i := 0) (v := ?_) rfl (by kernel_rfl) (by kernel_rfl) (by kernel_rfl) (fun _ _ _ h => h) (Or.inl ⟨by rfl, ?_⟩) (by assumption) ?_; rotate_left; focus (intro w hSw; (try dsimp only at hSw); (try simp only [List.getElem_toArray, List.getElem_cons_zero]); go_simp; try with_reducible rfl)); (try simp only [List.getElem_toArray, List.getElem_cons_zero]); (try simp only [Act.put, List.setIfInBounds_toArray, List.set_cons_zero, List.set_cons_succ])
          (refine wpAnyH_take (i := 1) (v := ?_) rfl (by kernel_rfl) (by kernel_rfl) (by kernel_rfl) (fun _ _ _ h => h) (Or.inl ⟨by rfl, ?_⟩) (by assumption) ?_; rotate_left; focus (intro w hSw; (try dsimp only at hSw); (try simp only [List.getElem_toArray, List.getElem_cons_zero, List.getElem_cons_succ]); go_simp; try with_reducible rfl)); (try simp only [List.getElem_toArray, List.getElem_cons_zero, List.getElem_cons_succ]); (try simp only [Act.put, List.setIfInBounds_toArray, List.set_cons_zero, List.set_cons_succ])
          (refine wpAnyH_take (i := 3) (v := ?_) rfl (by kernel_rfl) (by kernel_rfl) (by kernel_rfl) (fun _ _ _ h => h) (Or.inl ⟨by rfl, ?_⟩) (by assumption) ?_; rotate_left; focus (intro w hSw; (try dsimp only at hSw); (try simp only [List.getElem_toArray, List.getElem_cons_zero, List.getElem_cons_succ]); go_simp; try with_reducible rfl)); (try simp only [List.getElem_toArray, List.getElem_cons_zero, List.getElem_cons_succ]); (try simp only [Act.put, List.setIfInBounds_toArray, List.set_cons_zero, List.set_cons_succ])
          (refine wpAnyH_take (i := 4) (v := ?_) rfl (by kernel_rfl) (by kernel_rfl) (by kernel_rfl) (fun _ _ _ h => h) (Or.inl ⟨by rfl, ?_⟩) (by assumption) ?_; rotate_left; focus (intro w hSw; (try dsimp only at hSw); (try simp only [List.getElem_toArray, List.getElem_cons_zero, List.getElem_cons_succ]); go_simp; try with_reducible rfl)); (try simp only [List.getElem_toArray, List.getElem_cons_zero, List.getElem_cons_succ]); (try simp only [Act.put, List.setIfInBounds_toArray, List.set_cons_zero, List.set_cons_succ])
          (refine wpAnyH_ready (rs := [2]) (by kernel_rfl) (by simp) ?_; refine AllReadyH.cons rfl (fun K hK => ?_) AllReadyH.nil; (try simp only [List.getElem_toArray, List.getElem_cons_zero, List.getElem_cons_succ]))
          go_simp
          go_at_call 44
          refine (spec_ProofHash nm _ _ xs ss 1 _ hnm la HF.out lu HSF.out).mono ?_
          rintro e w7 ⟨rfl, x7⟩
          replace P := P.ext x7
          replace Q := Q.ext x7
          replace la := la.ext x7
          replace lu := Row.ext lu x7
          replace lb := Lvs.ext lb x7
          replace lub := Row.ext lub x7
          replace X2 := X2.trans x7
          (try dsimp only)
          refine hK.out _ _ (by exact ⟨P.2.1 0 _ rfl, P.2.1 1 _ rfl, Q.2.1 0 _ rfl, Q.2.1 1 _ rfl⟩) (fun hHeld => ?_)
          clear hK K
          (refine wpAnyH_ready (rs := [5]) (by kernel_rfl) (by simp) ?_; refine AllReadyH.cons rfl (fun K hK => ?_) AllReadyH.nil; (try simp only [List.getElem_toArray, List.getElem_cons_zero, List.getElem_cons_succ]))
          go_simp
          go_at_call 44
          refine (spec_ProofHash nm _ _ ys ss 1 _ hnm lb HFY.out lub HSF.out).mono ?_
          rintro e w8 ⟨rfl, x8⟩
          replace P := P.ext x8
          replace Q := Q.ext x8
          replace la := la.ext x8
          replace lu := Row.ext lu x8
          replace lb := Lvs.ext lb x8
          replace lub := Row.ext lub x8
          replace X2 := X2.trans x8
          (try dsimp only)
          refine hK.out _ _ (by exact ⟨P.2.1 0 _ rfl, P.2.1 1 _ rfl, Q.2.1 0 _ rfl, Q.2.1 1 _ rfl⟩) (fun hHeld => ?_)
          clear hK K
          (refine wpAnyH_take (i := 6) (v := .bool true) rfl (by kernel_rfl) (by kernel_rfl) (by kernel_rfl) (fun _ _ _ h => h) (Or.inl ⟨by rfl, ?_⟩) (by assumption) ?_; focus (intro w hSw; (try dsimp only at hSw); (try simp only [List.getElem_toArray, List.getElem_cons_zero, List.getElem_cons_succ]); go_simp; exact fun e => HH.out (toList_inj.1 e))); (try simp only [List.getElem_toArray, List.getElem_cons_zero, List.getElem_cons_succ]); (try simp only [Act.put, List.setIfInBounds_toArray, List.set_cons_zero, List.set_cons_succ])
          (refine wpAnyH_take (i := 7) (v := ?_) rfl (by kernel_rfl) (by kernel_rfl) (by kernel_rfl) (fun _ _ _ h => h) (Or.inl ⟨by rfl, ?_⟩) (by assumption) ?_; rotate_left; focus (intro w hSw; (try dsimp only at hSw); (try simp only [List.getElem_toArray, List.getElem_cons_zero, List.getElem_cons_succ]); go_simp; try with_reducible rfl)); (try simp only [List.getElem_toArray, List.getElem_cons_zero, List.getElem_cons_succ]); (try simp only [Act.put, List.setIfInBounds_toArray, List.set_cons_zero, List.set_cons_succ])
          (refine wpAnyH_take (i := 8) rfl (by kernel_rfl) (by kernel_rfl) (by kernel_rfl) (fun _ _ _ h => h) (Or.inr ⟨by rfl, rfl⟩) (by assumption) ?_); (try simp only [List.getElem_toArray, List.getElem_cons_zero, List.getElem_cons_succ]); (try simp only [Act.put, List.setIfInBounds_toArray, List.set_cons_zero, List.set_cons_succ])
          (refine wpAnyH_take (i := 9) (v := ?_) rfl (by kernel_rfl) (by kernel_rfl) (by kernel_rfl) (fun _ _ _ h => h) (Or.inl ⟨by rfl, ?_⟩) (by assumption) ?_; rotate_left; focus (intro w hSw; (try dsimp only at hSw); (try simp only [List.getElem_toArray, List.getElem_cons_zero, List.getElem_cons_succ]); go_simp; try with_reducible rfl)); (try simp only [List.getElem_toArray, List.getElem_cons_zero, List.getElem_cons_succ]); (try simp only [Act.put, List.setIfInBounds_toArray, List.set_cons_zero, List.set_cons_succ])
          refine wpAnyH_done (by kernel_rfl) ?_ _
          go_wp2_with fail
          refine wp_region_held_drew (S := (fun W => W.cell? ⟨w1.heap.size, 0, none⟩ = some (.slice a xs.length a') ∧ W.cell? ⟨w1.heap.size, 1, none⟩ = some (.slice b ss.length b') ∧ W.cell? ⟨w1.heap.size + 1, 0, none⟩ = some (.slice c ys.length c') ∧ W.cell? ⟨w1.heap.size + 1, 1, none⟩ = some (.slice d ss.length d'))) (by kernel_rfl) (by exact ⟨P.2.1 0 _ rfl, P.2.1 1 _ rfl, Q.2.1 0 _ rfl, Q.2.1 1 _ rfl⟩) (fun hHeld => ?_)
          have xe : Ext w8 w8.drew := (Ext.refl w8).drew
          replace P := P.ext xe
          replace Q := Q.ext xe
          replace la := la.ext xe
          replace lu := Row.ext lu xe
          replace lb := Lvs.ext lb xe
          replace lub := Row.ext lub xe
          replace X2 := X2.trans xe
          generalize w8.drew = w9 at *
          (refine wpAnyH_take (i := 0) (v := ?_) rfl (by kernel_rfl) (by kernel_rfl) (by kernel_rfl) (fun _ _ _ h => h) (Or.inl ⟨by rfl, ?_⟩) (by assumption) ?_; rotate_left; focus (intro w hSw; (try dsimp only at hSw); (try simp only [List.getElem_toArray, List.getElem_cons_zero]); go_simp; try with_reducible rfl)); (try simp only [List.getElem_toArray, List.getElem_cons_zero]); (try simp only [Act.put, List.setIfInBounds_toArray, List.set_cons_zero, List.set_cons_succ])
          (refine wpAnyH_take (i := 1) (v := ?_) rfl (by kernel_rfl) (by kernel_rfl) (by kernel_rfl) (fun _ _ _ h => h) (Or.inl ⟨by rfl, ?_⟩) (by assumption) ?_; rotate_left; focus (intro w hSw; (try dsimp only at hSw); (try simp only [List.getElem_toArray, List.getElem_cons_zero, List.getElem_cons_succ]); go_simp; try with_reducible rfl)); (try simp only [List.getElem_toArray, List.getElem_cons_zero, List.getElem_cons_succ]); (try simp only [Act.put, List.setIfInBounds_toArray, List.set_cons_zero, List.set_cons_succ])
          (refine wpAnyH_take (i := 2) (v := ?_) rfl (by kernel_rfl) (by kernel_rfl) (by kernel_rfl) (fun _ _ _ h => h) (Or.inl ⟨by rfl, ?_⟩) (by assumption) ?_; rotate_left; focus (intro w hSw; (try dsimp only at hSw); (try simp only [List.getElem_toArray, List.getElem_cons_zero, List.getElem_cons_succ]); go_simp; try with_reducible rfl)); (try simp only [List.getElem_toArray, List.getElem_cons_zero, List.getElem_cons_succ]); (try simp only [Act.put, List.setIfInBounds_toArray, List.set_cons_zero, List.set_cons_succ])
          (refine wpAnyH_take (i := 3) (v := ?_) rfl (by kernel_rfl) (by kernel_rfl) (by kernel_rfl) (fun _ _ _ h => h) (Or.inl ⟨by rfl, ?_⟩) (by assumption) ?_; rotate_left; focus (intro w hSw; (try dsimp only at hSw); (try simp only [List.getElem_toArray, List.getElem_cons_zero, List.getElem_cons_succ]); go_simp; try with_reducible rfl)); (try simp only [List.getElem_toArray, List.getElem_cons_zero, List.getElem_cons_succ]); (try simp only [Act.put, List.setIfInBounds_toArray, List.set_cons_zero, List.set_cons_succ])
          (refine wpAnyH_take (i := 4) (v := ?_) rfl (by kernel_rfl) (by kernel_rfl) (by kernel_rfl) (fun _ _ _ h => h) (Or.inl ⟨by rfl, ?_⟩) (by assumption) ?_; rotate_left; focus (intro w hSw; (try dsimp only at hSw); (try simp only [List.getElem_toArray, List.getElem_cons_zero, List.getElem_cons_succ]); go_simp; try with_reducible rfl)); (try simp only [List.getElem_toArray, List.getElem_cons_zero, List.getElem_cons_succ]); (try simp only [Act.put, List.setIfInBounds_toArray, List.set_cons_zero, List.set_cons_succ])
          (refine wpAnyH_take (i := 6) (v := ?_) rfl (by kernel_rfl) (by kernel_rfl) (by kernel_rfl) (fun _ _ _ h => h) (Or.inl ⟨by rfl, ?_⟩) (by assumption) ?_; rotate_left; focus (intro w hSw; (try dsimp only at hSw); (try simp only [List.getElem_toArray, List.getElem_cons_zero, List.getElem_cons_succ]); go_simp; try with_reducible rfl)); (try simp only [List.getElem_toArray, List.getElem_cons_zero, List.getElem_cons_succ]); (try simp only [Act.put, List.setIfInBounds_toArray, List.set_cons_zero, List.set_cons_succ])
          (refine wpAnyH_take (i := 7) (v := ?_) rfl (by kernel_rfl) (by kernel_rfl) (by kernel_rfl) (fun _ _ _ h => h) (Or.inl ⟨by rfl, ?_⟩) (by assumption) ?_; rotate_left; focus (intro w hSw; (try dsimp only at hSw); (try simp only [List.getElem_toArray, List.getElem_cons_zero, List.getElem_cons_succ]); go_simp; try with_reducible rfl)); (try simp only [List.getElem_toArray, List.getElem_cons_zero, List.getElem_cons_succ]); (try simp only [Act.put, List.setIfInBounds_toArray, List.set_cons_zero, List.set_cons_succ])
          (refine wpAnyH_ready (rs := [5]) (by kernel_rfl) (by simp) ?_; refine AllReadyH.cons rfl (fun K hK => ?_) AllReadyH.nil; (try simp only [List.getElem_toArray, List.getElem_cons_zero, List.getElem_cons_succ]))
          go_simp
          go_at_call 45
          refine (impl_ProofHash nm _ _ xs ss 1 _ hnm la HF.out lu HSF.out (HT.out.ext X2)).mono ?_
          rintro e wa ⟨rfl, xa⟩
          replace P := P.ext xa
          replace Q := Q.ext xa
          replace la := la.ext xa
          replace lu := Row.ext lu xa
          replace lb := Lvs.ext lb xa
          replace lub := Row.ext lub xa
          replace X2 := X2.trans xa
          (try dsimp only)
          refine hK.out _ _ (by exact ⟨P.2.1 0 _ rfl, P.2.1 1 _ rfl, Q.2.1 0 _ rfl, Q.2.1 1 _ rfl⟩) (fun hHeld => ?_)
          clear hK K
          (refine wpAnyH_ready (rs := [8]) (by kernel_rfl) (by simp) ?_; refine AllReadyH.cons rfl (fun K hK => ?_) AllReadyH.nil; (try simp only [List.getElem_toArray, List.getElem_cons_zero, List.getElem_cons_succ]))
          go_simp
          go_at_call 44
          refine (spec_ProofHash nm _ _ xs ss 1 _ hnm la HF.out lu HSF.out).mono ?_
          rintro e wb ⟨rfl, xb⟩
          replace P := P.ext xb
          replace Q := Q.ext xb
          replace la := la.ext xb
          replace lu := Row.ext lu xb
          replace lb := Lvs.ext lb xb
          replace lub := Row.ext lub xb
          replace X2 := X2.trans xb
          (try dsimp only)
          refine hK.out _ _ (by exact ⟨P.2.1 0 _ rfl, P.2.1 1 _ rfl, Q.2.1 0 _ rfl, Q.2.1 1 _ rfl⟩) (fun hHeld => ?_)
          clear hK K
          (refine wpAnyH_take (i := 9) (v := .bool true) rfl (by kernel_rfl) (by kernel_rfl) (by kernel_rfl) (fun _ _ _ h => h) (Or.inl ⟨by rfl, ?_⟩) (by assumption) ?_; focus (intro w hSw; (try dsimp only at hSw); (try simp only [List.getElem_toArray, List.getElem_cons_zero, List.getElem_cons_succ]); go_simp; (try simp))); (try simp only [List.getElem_toArray, List.getElem_cons_zero, List.getElem_cons_succ]); (try simp only [Act.put, List.setIfInBounds_toArray, List.set_cons_zero, List.set_cons_succ])
          (refine wpAnyH_take (i := 10) (v := ?_) rfl (by kernel_rfl) (by kernel_rfl) (by kernel_rfl) (fun _ _ _ h => h) (Or.inl ⟨by rfl, ?_⟩) (by assumption) ?_; rotate_left; focus (intro w hSw; (try dsimp only at hSw); (try simp only [List.getElem_toArray, List.getElem_cons_zero, List.getElem_cons_succ]); go_simp; try with_reducible rfl)); (try simp only [List.getElem_toArray, List.getElem_cons_zero, List.getElem_cons_succ]); (try simp only [Act.put, List.setIfInBounds_toArray, List.set_cons_zero, List.set_cons_succ])
          (refine wpAnyH_take (i := 11) (v := ?_) rfl (by kernel_rfl) (by kernel_rfl) (by kernel_rfl) (fun _ _ _ h => h) (Or.inl ⟨by rfl, ?_⟩) (by assumption) ?_; rotate_left; focus (intro w hSw; (try dsimp only at hSw); (try simp only [List.getElem_toArray, List.getElem_cons_zero, List.getElem_cons_succ]); go_simp; try with_reducible rfl)); (try simp only [List.getElem_toArray, List.getElem_cons_zero, List.getElem_cons_succ]); (try simp only [Act.put, List.setIfInBounds_toArray, List.set_cons_zero, List.set_cons_succ])
          refine wpAnyH_done (by kernel_rfl) ?_ _
          go_wp2
          go_ret
          exact ⟨rfl, X2⟩
      · rintro e w3 ⟨rfl, x3⟩
        replace P := P.ext x3
        replace Q := Q.ext x3
        replace la := la.ext x3
        replace lu := Row.ext lu x3
        replace lb := Lvs.ext lb x3
        replace lub := Row.ext lub x3
        replace X2 := X2.trans x3
        have p0 := P.2.1 0 _ rfl
        have p1 := P.2.1 1 _ rfl
        have q0 := Q.2.1 0 _ rfl
        have q1 := Q.2.1 1 _ rfl
        have HH := Lib.hid hh
        have HV := Lib.hid hv
        have bV : ((leafVal xs nm).toList == (leafVal ys nm).toList) = false := by rw [toList_beq]; exact decide_eq_false hv
        clear hh hv
        go_wp2_with fail
        refine (spec_ProofSays nm _ _ xs _ la ⟨_, _, _, rfl⟩).mono ?_
        generalize hvx : leafVal xs nm = vx at *
        generalize hgx : leafHas xs nm = gx at *
        clear hvx hgx
        rintro e w4 ⟨rfl, x4⟩
        replace P := P.ext x4
        replace Q := Q.ext x4
        replace la := la.ext x4
        replace lu := Row.ext lu x4
        replace lb := Lvs.ext lb x4
        replace lub := Row.ext lub x4
        replace X2 := X2.trans x4
        clear p0 p1 q0 q1
        have p0 := P.2.1 0 _ rfl
        have p1 := P.2.1 1 _ rfl
        have q0 := Q.2.1 0 _ rfl
        have q1 := Q.2.1 1 _ rfl
        go_wp2_with fail
        refine (spec_ProofSays nm _ _ ys _ lb ⟨_, _, _, rfl⟩).mono ?_
        generalize hvy : leafVal ys nm = vy at *
        generalize hgy : leafHas ys nm = gy at *
        clear hvy hgy
        rintro e w5 ⟨rfl, x5⟩
        replace P := P.ext x5
        replace Q := Q.ext x5
        replace la := la.ext x5
        replace lu := Row.ext lu x5
        replace lb := Lvs.ext lb x5
        replace lub := Row.ext lub x5
        replace X2 := X2.trans x5
        clear p0 p1 q0 q1
        go_wp2_with fail
        refine wp_region_held_drew (S := (fun W => W.cell? ⟨w1.heap.size, 0, none⟩ = some (.slice a xs.length a') ∧ W.cell? ⟨w1.heap.size, 1, none⟩ = some (.slice b ss.length b') ∧ W.cell? ⟨w1.heap.size + 1, 0, none⟩ = some (.slice c ys.length c') ∧ W.cell? ⟨w1.heap.size + 1, 1, none⟩ = some (.slice d ss.length d'))) (by kernel_rfl) (by exact ⟨P.2.1 0 _ rfl, P.2.1 1 _ rfl, Q.2.1 0 _ rfl, Q.2.1 1 _ rfl⟩) (fun hHeld => ?_)
        have xd : Ext w5 w5.drew := (Ext.refl w5).drew
        replace P := P.ext xd
        replace Q := Q.ext xd
        replace la := la.ext xd
        replace lu := Row.ext lu xd
        replace lb := Lvs.ext lb xd
        replace lub := Row.ext lub xd
        replace X2 := X2.trans xd
        generalize w5.drew = w6 at *
        (refine wpAnyH_take (i := 0) (v := ?_) rfl (by kernel_rfl) (by kernel_rfl) (by kernel_rfl) (fun _ _ _ h => h) (Or.inl ⟨by rfl, ?_⟩) (by assumption) ?_; rotate_left; focus (intro w hSw; (try dsimp only at hSw); (try simp only [List.getElem_toArray, List.getElem_cons_zero]); go_simp; try with_reducible rfl)); (try simp only [List.getElem_toArray, List.getElem_cons_zero]); (try simp only [Act.put, List.setIfInBounds_toArray, List.set_cons_zero, List.set_cons_succ])
        (refine wpAnyH_take (i := 1) (v := ?_) rfl (by kernel_rfl) (by kernel_rfl) (by kernel_rfl) (fun _ _ _ h => h) (Or.inl ⟨by rfl, ?_⟩) (by assumption) ?_; rotate_left; focus (intro w hSw; (try dsimp only at hSw); (try simp only [List.getElem_toArray, List.getElem_cons_zero, List.getElem_cons_succ]); go_simp; try with_reducible rfl)); (try simp only [List.getElem_toArray, List.getElem_cons_zero, List.getElem_cons_succ]); (try simp only [Act.put, List.setIfInBounds_toArray, List.set_cons_zero, List.set_cons_succ])
        (refine wpAnyH_take (i := 3) (v := ?_) rfl (by kernel_rfl) (by kernel_rfl) (by kernel_rfl) (fun _ _ _ h => h) (Or.inl ⟨by rfl, ?_⟩) (by assumption) ?_; rotate_left; focus (intro w hSw; (try dsimp only at hSw); (try simp only [List.getElem_toArray, List.getElem_cons_zero, List.getElem_cons_succ]); go_simp; try with_reducible rfl)); (try simp only [List.getElem_toArray, List.getElem_cons_zero, List.getElem_cons_succ]); (try simp only [Act.put, List.setIfInBounds_toArray, List.set_cons_zero, List.set_cons_succ])
        (refine wpAnyH_take (i := 4) (v := ?_) rfl (by kernel_rfl) (by kernel_rfl) (by kernel_rfl) (fun _ _ _ h => h) (Or.inl ⟨by rfl, ?_⟩) (by assumption) ?_; rotate_left; focus (intro w hSw; (try dsimp only at hSw); (try simp only [List.getElem_toArray, List.getElem_cons_zero, List.getElem_cons_succ]); go_simp; try with_reducible rfl)); (try simp only [List.getElem_toArray, List.getElem_cons_zero, List.getElem_cons_succ]); (try simp only [Act.put, List.setIfInBounds_toArray, List.set_cons_zero, List.set_cons_succ])
        (refine wpAnyH_ready (rs := [2]) (by kernel_rfl) (by simp) ?_; refine AllReadyH.cons rfl (fun K hK => ?_) AllReadyH.nil; (try simp only [List.getElem_toArray, List.getElem_cons_zero, List.getElem_cons_succ]))
        go_simp
        go_at_call 44
        refine (spec_ProofHash nm _ _ xs ss 1 _ hnm la HF.out lu HSF.out).mono ?_
        rintro e w7 ⟨rfl, x7⟩
        replace P := P.ext x7
        replace Q := Q.ext x7
        replace la := la.ext x7
        replace lu := Row.ext lu x7
        replace lb := Lvs.ext lb x7
        replace lub := Row.ext lub x7
        replace X2 := X2.trans x7
        (try dsimp only)
        refine hK.out _ _ (by exact ⟨P.2.1 0 _ rfl, P.2.1 1 _ rfl, Q.2.1 0 _ rfl, Q.2.1 1 _ rfl⟩) (fun hHeld => ?_)
        clear hK K
        (refine wpAnyH_ready (rs := [5]) (by kernel_rfl) (by simp) ?_; refine AllReadyH.cons rfl (fun K hK => ?_) AllReadyH.nil; (try simp only [List.getElem_toArray, List.getElem_cons_zero, List.getElem_cons_succ]))
        go_simp
        go_at_call 44
        refine (spec_ProofHash nm _ _ ys ss 1 _ hnm lb HFY.out lub HSF.out).mono ?_
        rintro e w8 ⟨rfl, x8⟩
        replace P := P.ext x8
        replace Q := Q.ext x8
        replace la := la.ext x8
        replace lu := Row.ext lu x8
        replace lb := Lvs.ext lb x8
        replace lub := Row.ext lub x8
        replace X2 := X2.trans x8
        (try dsimp only)
        refine hK.out _ _ (by exact ⟨P.2.1 0 _ rfl, P.2.1 1 _ rfl, Q.2.1 0 _ rfl, Q.2.1 1 _ rfl⟩) (fun hHeld => ?_)
        clear hK K
        (refine wpAnyH_take (i := 6) (v := .bool true) rfl (by kernel_rfl) (by kernel_rfl) (by kernel_rfl) (fun _ _ _ h => h) (Or.inl ⟨by rfl, ?_⟩) (by assumption) ?_; focus (intro w hSw; (try dsimp only at hSw); (try simp only [List.getElem_toArray, List.getElem_cons_zero, List.getElem_cons_succ]); go_simp; exact fun e => HH.out (toList_inj.1 e))); (try simp only [List.getElem_toArray, List.getElem_cons_zero, List.getElem_cons_succ]); (try simp only [Act.put, List.setIfInBounds_toArray, List.set_cons_zero, List.set_cons_succ])
        (refine wpAnyH_take (i := 7) (v := ?_) rfl (by kernel_rfl) (by kernel_rfl) (by kernel_rfl) (fun _ _ _ h => h) (Or.inl ⟨by rfl, ?_⟩) (by assumption) ?_; rotate_left; focus (intro w hSw; (try dsimp only at hSw); (try simp only [List.getElem_toArray, List.getElem_cons_zero, List.getElem_cons_succ]); go_simp; try with_reducible rfl)); (try simp only [List.getElem_toArray, List.getElem_cons_zero, List.getElem_cons_succ]); (try simp only [Act.put, List.setIfInBounds_toArray, List.set_cons_zero, List.set_cons_succ])
        (refine wpAnyH_take (i := 8) rfl (by kernel_rfl) (by kernel_rfl) (by kernel_rfl) (fun _ _ _ h => h) (Or.inr ⟨by rfl, rfl⟩) (by assumption) ?_); (try simp only [List.getElem_toArray, List.getElem_cons_zero, List.getElem_cons_succ]); (try simp only [Act.put, List.setIfInBounds_toArray, List.set_cons_zero, List.set_cons_succ])
        (refine wpAnyH_take (i := 9) (v := ?_) rfl (by kernel_rfl) (by kernel_rfl) (by kernel_rfl) (fun _ _ _ h => h) (Or.inl ⟨by rfl, ?_⟩) (by assumption) ?_; rotate_left; focus (intro w hSw; (try dsimp only at hSw); (try simp only [List.getElem_toArray, List.getElem_cons_zero, List.getElem_cons_succ]); go_simp; try with_reducible rfl)); (try simp only [List.getElem_toArray, List.getElem_cons_zero, List.getElem_cons_succ]); (try simp only [Act.put, List.setIfInBounds_toArray, List.set_cons_zero, List.set_cons_succ])
        refine wpAnyH_done (by kernel_rfl) ?_ _
        go_wp2_with fail
        refine wp_region_held_drew (S := (fun W => W.cell? ⟨w1.heap.size, 0, none⟩ = some (.slice a xs.length a') ∧ W.cell? ⟨w1.heap.size, 1, none⟩ = some (.slice b ss.length b') ∧ W.cell? ⟨w1.heap.size + 1, 0, none⟩ = some (.slice c ys.length c') ∧ W.cell? ⟨w1.heap.size + 1, 1, none⟩ = some (.slice d ss.length d'))) (by kernel_rfl) (by exact ⟨P.2.1 0 _ rfl, P.2.1 1 _ rfl, Q.2.1 0 _ rfl, Q.2.1 1 _ rfl⟩) (fun hHeld => ?_)
        have xe : Ext w8 w8.drew := (Ext.refl w8).drew
        replace P := P.ext xe
        replace Q := Q.ext xe
        replace la := la.ext xe
        replace lu := Row.ext lu xe
        replace lb := Lvs.ext lb xe
        replace lub := Row.ext lub xe
        replace X2 := X2.trans xe
        generalize w8.drew = w9 at *
        (refine wpAnyH_take (i := 0) (v := ?_) rfl (by kernel_rfl) (by kernel_rfl) (by kernel_rfl) (fun _ _ _ h => h) (Or.inl ⟨by rfl, ?_⟩) (by assumption) ?_; rotate_left; focus (intro w hSw; (try dsimp only at hSw); (try simp only [List.getElem_toArray, List.getElem_cons_zero]); go_simp; try with_reducible rfl)); (try simp only [List.getElem_toArray, List.getElem_cons_zero]); (try simp only [Act.put, List.setIfInBounds_toArray, List.set_cons_zero, List.set_cons_succ])
        (refine wpAnyH_take (i := 1) (v := ?_) rfl (by kernel_rfl) (by kernel_rfl) (by kernel_rfl) (fun _ _ _ h => h) (Or.inl ⟨by rfl, ?_⟩) (by assumption) ?_; rotate_left; focus (intro w hSw; (try dsimp only at hSw); (try simp only [List.getElem_toArray, List.getElem_cons_zero, List.getElem_cons_succ]); go_simp; try with_reducible rfl)); (try simp only [List.getElem_toArray, List.getElem_cons_zero, List.getElem_cons_succ]); (try simp only [Act.put, List.setIfInBounds_toArray, List.set_cons_zero, List.set_cons_succ])
        (refine wpAnyH_take (i := 2) (v := ?_) rfl (by kernel_rfl) (by kernel_rfl) (by kernel_rfl) (fun _ _ _ h => h) (Or.inl ⟨by rfl, ?_⟩) (by assumption) ?_; rotate_left; focus (intro w hSw; (try dsimp only at hSw); (try simp only [List.getElem_toArray, List.getElem_cons_zero, List.getElem_cons_succ]); go_simp; try with_reducible rfl)); (try simp only [List.getElem_toArray, List.getElem_cons_zero, List.getElem_cons_succ]); (try simp only [Act.put, List.setIfInBounds_toArray, List.set_cons_zero, List.set_cons_succ])
        (refine wpAnyH_take (i := 3) (v := ?_) rfl (by kernel_rfl) (by kernel_rfl) (by kernel_rfl) (fun _ _ _ h => h) (Or.inl ⟨by rfl, ?_⟩) (by assumption) ?_; rotate_left; focus (intro w hSw; (try dsimp only at hSw); (try simp only [List.getElem_toArray, List.getElem_cons_zero, List.getElem_cons_succ]); go_simp; try with_reducible rfl)); (try simp only [List.getElem_toArray, List.getElem_cons_zero, List.getElem_cons_succ]); (try simp only [Act.put, List.setIfInBounds_toArray, List.set_cons_zero, List.set_cons_succ])
        (refine wpAnyH_take (i := 4) (v := ?_) rfl (by kernel_rfl) (by kernel_rfl) (by kernel_rfl) (fun _ _ _ h => h) (Or.inl ⟨by rfl, ?_⟩) (by assumption) ?_; rotate_left; focus (intro w hSw; (try dsimp only at hSw); (try simp only [List.getElem_toArray, List.getElem_cons_zero, List.getElem_cons_succ]); go_simp; try with_reducible rfl)); (try simp only [List.getElem_toArray, List.getElem_cons_zero, List.getElem_cons_succ]); (try simp only [Act.put, List.setIfInBounds_toArray, List.set_cons_zero, List.set_cons_succ])
        (refine wpAnyH_take (i := 6) (v := ?_) rfl (by kernel_rfl) (by kernel_rfl) (by kernel_rfl) (fun _ _ _ h => h) (Or.inl ⟨by rfl, ?_⟩) (by assumption) ?_; rotate_left; focus (intro w hSw; (try dsimp only at hSw); (try simp only [List.getElem_toArray, List.getElem_cons_zero, List.getElem_cons_succ]); go_simp; try with_reducible rfl)); (try simp only [List.getElem_toArray, List.getElem_cons_zero, List.getElem_cons_succ]); (try simp only [Act.put, List.setIfInBounds_toArray, List.set_cons_zero, List.set_cons_succ])
        (refine wpAnyH_take (i := 7) (v := ?_) rfl (by kernel_rfl) (by kernel_rfl) (by kernel_rfl) (fun _ _ _ h => h) (Or.inl ⟨by rfl, ?_⟩) (by assumption) ?_; rotate_left; focus (intro w hSw; (try dsimp only at hSw); (try simp only [List.getElem_toArray, List.getElem_cons_zero, List.getElem_cons_succ]); go_simp; try with_reducible rfl)); (try simp only [List.getElem_toArray, List.getElem_cons_zero, List.getElem_cons_succ]); (try simp only [Act.put, List.setIfInBounds_toArray, List.set_cons_zero, List.set_cons_succ])
        (refine wpAnyH_ready (rs := [5]) (by kernel_rfl) (by simp) ?_; refine AllReadyH.cons rfl (fun K hK => ?_) AllReadyH.nil; (try simp only [List.getElem_toArray, List.getElem_cons_zero, List.getElem_cons_succ]))
        go_simp
        go_at_call 45
        refine (impl_ProofHash nm _ _ xs ss 1 _ hnm la HF.out lu HSF.out (HT.out.ext X2)).mono ?_
        rintro e wa ⟨rfl, xa⟩
        replace P := P.ext xa
        replace Q := Q.ext xa
        replace la := la.ext xa
        replace lu := Row.ext lu xa
        replace lb := Lvs.ext lb xa
        replace lub := Row.ext lub xa
        replace X2 := X2.trans xa
        (try dsimp only)
        refine hK.out _ _ (by exact ⟨P.2.1 0 _ rfl, P.2.1 1 _ rfl, Q.2.1 0 _ rfl, Q.2.1 1 _ rfl⟩) (fun hHeld => ?_)
        clear hK K
        (refine wpAnyH_ready (rs := [8]) (by kernel_rfl) (by simp) ?_; refine AllReadyH.cons rfl (fun K hK => ?_) AllReadyH.nil; (try simp only [List.getElem_toArray, List.getElem_cons_zero, List.getElem_cons_succ]))
        go_simp
        go_at_call 44
        refine (spec_ProofHash nm _ _ xs ss 1 _ hnm la HF.out lu HSF.out).mono ?_
        rintro e wb ⟨rfl, xb⟩
        replace P := P.ext xb
        replace Q := Q.ext xb
        replace la := la.ext xb
        replace lu := Row.ext lu xb
        replace lb := Lvs.ext lb xb
        replace lub := Row.ext lub xb
        replace X2 := X2.trans xb
        (try dsimp only)
        refine hK.out _ _ (by exact ⟨P.2.1 0 _ rfl, P.2.1 1 _ rfl, Q.2.1 0 _ rfl, Q.2.1 1 _ rfl⟩) (fun hHeld => ?_)
        clear hK K
        (refine wpAnyH_take (i := 9) (v := .bool true) rfl (by kernel_rfl) (by kernel_rfl) (by kernel_rfl) (fun _ _ _ h => h) (Or.inl ⟨by rfl, ?_⟩) (by assumption) ?_; focus (intro w hSw; (try dsimp only at hSw); (try simp only [List.getElem_toArray, List.getElem_cons_zero, List.getElem_cons_succ]); go_simp; (try simp))); (try simp only [List.getElem_toArray, List.getElem_cons_zero, List.getElem_cons_succ]); (try simp only [Act.put, List.setIfInBounds_toArray, List.set_cons_zero, List.set_cons_succ])
        (refine wpAnyH_take (i := 10) (v := ?_) rfl (by kernel_rfl) (by kernel_rfl) (by kernel_rfl) (fun _ _ _ h => h) (Or.inl ⟨by rfl, ?_⟩) (by assumption) ?_; rotate_left; focus (intro w hSw; (try dsimp only at hSw); (try simp only [List.getElem_toArray, List.getElem_cons_zero, List.getElem_cons_succ]); go_simp; try with_reducible rfl)); (try simp only [List.getElem_toArray, List.getElem_cons_zero, List.getElem_cons_succ]); (try simp only [Act.put, List.setIfInBounds_toArray, List.set_cons_zero, List.set_cons_succ])
        (refine wpAnyH_take (i := 11) (v := ?_) rfl (by kernel_rfl) (by kernel_rfl) (by kernel_rfl) (fun _ _ _ h => h) (Or.inl ⟨by rfl, ?_⟩) (by assumption) ?_; rotate_left; focus (intro w hSw; (try dsimp only at hSw); (try simp only [List.getElem_toArray, List.getElem_cons_zero, List.getElem_cons_succ]); go_simp; try with_reducible rfl)); (try simp only [List.getElem_toArray, List.getElem_cons_zero, List.getElem_cons_succ]); (try simp only [Act.put, List.setIfInBounds_toArray, List.set_cons_zero, List.set_cons_succ])
        refine wpAnyH_done (by kernel_rfl) ?_ _
        go_wp2
        go_ret
        exact ⟨rfl, X2⟩
end Go.Proofs.YtcinihfjkkaclaaDoor
