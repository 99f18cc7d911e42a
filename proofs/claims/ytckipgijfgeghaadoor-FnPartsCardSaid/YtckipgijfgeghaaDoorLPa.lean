/- FnParts: the walk. -/
import Derived.Test.YtckipgijfgeghaaDoorPrt
import Derived.Test.YtckipgijfgeghaaDoorAli
import Derived.Test.YtckipgijfgeghaaDoorCur3
import Derived.Test.YtckipgijfgeghaaDoorLftA
import Derived.Test.YtckipgijfgeghaaDoorSml
import Derived.Test.YtckipgijfgeghaaDoorDrawH
import Derived.Deep.DeepCutAuto
namespace Go.Proofs.YtckipgijfgeghaaDoor
open Go.RowKit

/-- what the loop keeps: the parts (a slice of slices), the roots (a slice of strings), each in blocks of their own -/
def Pts (w : World) (b : Nat) (s : Value) (n : Nat) (us : List Value) (r : Value) (m : Nat) (R : List ByteArray) (xss : List (List Leaf)) : Prop :=
  w.ownsRow b 24 1 s n us ∧ w.ownsRow b 9 1 r m (R.map Value.string) ∧ us.length = xss.length ∧ (∀ i (hi : i < xss.length), ∃ u, us[i]? = some u ∧ OwnLvs w b u xss[i]) ∧ Off s r ∧ (∀ u ∈ us, Off s u) ∧ (∀ u ∈ us, Off r u)
theorem Pts.ext {w w' : World} {b : Nat} {s : Value} {n : Nat} {us : List Value} {r : Value} {m : Nat} {R : List ByteArray} {xss : List (List Leaf)} (h : Pts w b s n us r m R xss) (hx : Ext w w') : Pts w' b s n us r m R xss :=
  ⟨own_ext h.1 hx, own_ext h.2.1 hx, h.2.2.1, fun i hi => by obtain ⟨u, e, l⟩ := h.2.2.2.1 i hi; exact ⟨u, e, l.ext hx⟩, h.2.2.2.2⟩
theorem off_symm {v r : Value} (h : Off v r) : Off r v := fun g h1 h2 => h g h2 h1
theorem Pts.kid {w : World} {b : Nat} {s : Value} {n : Nat} {us : List Value} {r : Value} {m : Nat} {R : List ByteArray} {xss : List (List Leaf)} (h : Pts w b s n us r m R xss) {u : Value} (hu : u ∈ us) : ∀ g, u.ownBlock = some g → g < w.heap.size := by
  obtain ⟨i, hi, rfl⟩ := List.mem_iff_getElem.1 hu
  obtain ⟨v, e, l⟩ := h.2.2.2.1 i (by rw [← h.2.2.1]; exact hi)
  rw [List.getElem?_eq_getElem hi] at e
  injection e with e
  subst e
  exact fun g hg => (own_lt l g hg).2
theorem Pts.one {w w' : World} {b : Nat} {s s' : Value} {n : Nat} {us : List Value} {r : Value} {m : Nat} {R : List ByteArray} {xss : List (List Leaf)} (h : Pts w b s n us r m R xss) {u : Value} {xs : List Leaf} (hu : OwnLvs w b u xs) (o1 : Off s u) (o2 : Off r u)
    (own' : w'.ownsRow b 24 1 s' (n + 1) (us ++ [u])) (hg : w.grownBy w' s.ownBlock) (hat : s'.ownBlock = s.ownBlock ∨ s'.ownBlock = some w.heap.size) : Pts w' b s' (n + 1) (us ++ [u]) r m R (xss ++ [xs]) := by
  refine ⟨own', own_grown2 h.2.1 hg (fun k hk => h.2.2.2.2.1 k hk), by simp [h.2.2.1], fun i hi => ?_, off_next h.2.2.2.2.1 hat (fun g hg' => (own_lt h.2.1 g hg').2), fun v hv => ?_, fun v hv => ?_⟩
  · rw [List.length_append, List.length_singleton] at hi
    by_cases hlt : i < xss.length
    · obtain ⟨v, e, l⟩ := h.2.2.2.1 i hlt
      have hv : v ∈ us := List.mem_of_getElem? e
      exact ⟨v, by rw [List.getElem?_append_left (by rw [h.2.2.1]; exact hlt)]; exact e, by rw [List.getElem_append_left hlt]; exact own_grown2 l hg (fun k hk => h.2.2.2.2.2.1 v hv k hk)⟩
    · have he : i = xss.length := by omega
      subst he
      exact ⟨u, by rw [List.getElem?_append_right (by rw [h.2.2.1]; exact Nat.le_refl _), h.2.2.1]; simp, by rw [List.getElem_append_right (Nat.le_refl _)]; simp only [Nat.sub_self, List.getElem_cons_zero]; exact own_grown2 hu hg (fun k hk => o1 k hk)⟩
  · rcases List.mem_append.1 hv with hv | hv
    · exact off_next (h.2.2.2.2.2.1 v hv) hat (h.kid hv)
    · rw [List.mem_singleton] at hv; subst hv
      exact off_next o1 hat (fun g hg' => (own_lt hu g hg').2)
  · rcases List.mem_append.1 hv with hv | hv
    · exact h.2.2.2.2.2.2 v hv
    · rw [List.mem_singleton] at hv; subst hv; exact o2
theorem Pts.two {w w' : World} {b : Nat} {s : Value} {n : Nat} {us : List Value} {r r' : Value} {m : Nat} {R : List ByteArray} {xss : List (List Leaf)} (h : Pts w b s n us r m R xss) {x : ByteArray}
    (own' : w'.ownsRow b 9 1 r' (m + 1) ((R ++ [x]).map Value.string)) (hg : w.grownBy w' r.ownBlock) (hat : r'.ownBlock = r.ownBlock ∨ r'.ownBlock = some w.heap.size) : Pts w' b s n us r' (m + 1) (R ++ [x]) xss := by
  refine ⟨own_grown2 h.1 hg (fun k hk => off_symm h.2.2.2.2.1 k hk), own', h.2.2.1, fun i hi => ?_, off_symm (off_next (off_symm h.2.2.2.2.1) hat (fun g hg' => (own_lt h.1 g hg').2)), h.2.2.2.2.2.1, fun v hv => off_next (h.2.2.2.2.2.2 v hv) hat (h.kid hv)⟩
  obtain ⟨v, e, l⟩ := h.2.2.2.1 i hi
  exact ⟨v, e, own_grown2 l hg (fun k hk => h.2.2.2.2.2.2 v (List.mem_of_getElem? e) k hk)⟩
theorem pts_nil (w : World) : Pts ((w.alloc (Obj.cells #[] 24)).alloc (Obj.cells #[] 9)) w.heap.size (.slice (some ⟨w.heap.size, 0, none⟩) 0 0) 0 [] (.slice (some ⟨w.heap.size + 1, 0, none⟩) 0 0) 0 [] [] := by
  have h2 : w.heap.size ≤ (w.alloc (Obj.cells #[] 24)).heap.size := by rw [World.size_alloc]; omega
  have o2 := World.ownsRow_lit (w.alloc (Obj.cells #[] 24)) (e := 9) (size := 1) #[] 0 h2 (Nat.zero_le _) rfl
  rw [World.size_alloc] at o2
  refine ⟨own_alloc (World.ownsRow_lit w (e := 24) (size := 1) #[] 0 (Nat.le_refl _) (Nat.zero_le _) rfl) _, o2, rfl, fun i hi => absurd hi (Nat.not_lt_zero i), fun g h1 h2 => ?_, fun u hu => (List.not_mem_nil hu).elim, fun u hu => (List.not_mem_nil hu).elim⟩
  injection h1 with h1
  injection h2 with h2
  dsimp only at h1 h2
  omega
theorem Pts.lss {w : World} {b : Nat} {s : Value} {n : Nat} {us : List Value} {r : Value} {m : Nat} {R : List ByteArray} {xss : List (List Leaf)} (h : Pts w b s n us r m R xss) (hn : n = xss.length) : LssS w s xss :=
  ⟨us, by have := Row.of_owns h.1; rw [hn] at this; exact this, fun i hi => by obtain ⟨u, e, l⟩ := h.2.2.2.1 i hi; exact ⟨u, e, l.lvs, own_solid l⟩⟩
theorem ok_fitP {xs : List Leaf} (h : leavesOk xs = true) : LeafFit xs := fun l hl => by
  obtain ⟨a, b⟩ := (leavesOk_small h).2 l hl
  unfold maxLen
  omega
theorem prt_fit {xs : List Leaf} (h : leavesOk xs = true) (k n : Nat) : LssFit (prtN xs k n) := by
  intro ys hy
  unfold prtN at hy
  rw [List.mem_map] at hy
  obtain ⟨j, -, rfl⟩ := hy
  exact ok_fitP (shd_ok h k j)
theorem prt_num {xs : List Leaf} (h : leavesOk xs = true) (k : Nat) : lssNum (prtN xs k (2 ^ k)) ≤ 1099511627776 := by
  rw [← lssNum_flat, (prt_perm xs k (2 ^ k)).length_eq]
  have h1 := List.length_filter_le (fun l : Leaf => decide (0 ≤ shardT l.name k ∧ shardT l.name k < ((2 ^ k : Nat) : Int))) xs
  have h2 := (leavesOk_small h).1
  omega

set_option maxRecDepth 100000 in
set_option maxHeartbeats 12800000 in
theorem laws_FnParts (v : Value) (bs : List Int) (w : World) (h : Code w w.heap.size v bs) (hT : Tabs w) :
    Calls Tryd.prog 3 #[v] w fun e w' => e = .returned (.bool true) ∧ Ext w w' := by
  have HT := Lib.hid hT
  clear hT
  have HC := Lib.hid h
  obtain ⟨a0, cap, rfl, -, -⟩ := id h
  obtain ⟨i0, hi, hz0, hz1, hz2⟩ := info_parts infoString
  obtain ⟨i1, hi1, hz10, hz11, hz12⟩ := info_parts infoLvs
  by_cases hb : (1048576 : Int) < bs.length
  · go_enter Tryd.func3, Tryd.ntmps3
    go_wp2_with (go_at_call 4; refine (laws_big _ _ bs _ HC.out).mono ?_; rintro e w' ⟨rfl, rfl⟩)
    go_ret
    exact ⟨rfl, (by repeat (first | (with_reducible first | exact Ext.refl _ | assumption | apply Ext.alloc | apply Ext.drew | apply Ext.drewN | refine Ext.setCell ?_ ?_ _ | refine Ext.trans ?_ (by assumption)) | (show _ ≤ _; first | omega | (dsimp only; omega) | (simp; done) | (simp; omega))))⟩
  have hl : bs.length ≤ 1048576 := by omega
  clear h
  go_enter Tryd.func3, Tryd.ntmps3
  go_wp2_with fail
  refine (laws_big _ _ bs _ HC.out).mono ?_
  rintro e w' ⟨rfl, rfl⟩
  go_wp2_with fail
  refine (spec_DrawLeaves _ bs _ HC.out hl).mono ?_
  rintro e w1 ⟨xs, la, lc, rfl, hok, hn8, hown, X⟩
  have LL := Lib.hid (OwnLvs.lvs hown)
  have HK := Lib.hid hok
  have HF := Lib.hid (ok_fit hok)
  have HN := Lib.hid (names_ok hok)
  clear hok hown
  go_wp2_with fail
  refine (spec_DrawPlaces2 _ bs _ (HC.out.ext (Nat.le_refl _) X X.size) hl).mono ?_
  rintro e w4 ⟨ys, gp, cp, rfl, hys, -, hgp, hyc, hcp, x3⟩
  replace LL := Lib.hid (LL.out.ext x3)
  replace X := X.trans x3
  have y0 := hys 0
  have d0 := hyc 0 (by omega)
  generalize ys.getD 0 0 = i0z at *
  replace HT := Lib.hid (HT.out.ext X)
  clear hys hyc x3
  go_upto_region 5 with (fail)
  have hkd : 0 ≤ i0z % 3 ∧ i0z % 3 ≤ 2 := by omega
  generalize i0z % 3 = kk at *
  obtain ⟨k, rfl⟩ := Int.eq_ofNat_of_zero_le hkd.1
  have hk2 : k ≤ 2 := by omega
  clear d0 hgp hcp y0 hkd
  rcases (by omega : k = 0 ∨ k = 1 ∨ k = 2) with rfl | rfl | rfl
  · have HA := Lib.hid (prt_all HK.out (k := 0) (by omega))
    have HR := Lib.hid (rts_comb HK.out (k := 0) (by omega))
    have HO := Lib.hid (rts_ok HK.out (k := 0) (by omega))
    have HRF := Lib.hid (rts_fit HK.out (k := 0) (by omega))
    have HPF := Lib.hid (prt_fit HK.out 0 1)
    have HPN := Lib.hid (prt_num HK.out 0)
    rw [show ((0 : Nat) : Int) = 0 from rfl]
    go_wp2_with fail
    go_loopw [5, 6, 7] (fun s r i wr => ∃ (j : Nat) (us : List Value), j ≤ 1 ∧ i = .int .i64 j ∧ Ext w4 wr ∧ Hid (Pts wr w4.heap.size s j us r j (rtsN xs 0 j) (prtN xs 0 j))) (fun _ _ i _ => 1 - (intOf i).toNat)
    case atStart => exact ⟨0, [], by omega, rfl, (by repeat (first | (with_reducible first | exact Ext.refl _ | assumption | apply Ext.alloc | apply Ext.drew | apply Ext.drewN | refine Ext.setCell ?_ ?_ _ | refine Ext.trans ?_ (by assumption)) | (show _ ≤ _; first | omega | (dsimp only; omega) | (simp; done) | (simp; omega)))), Lib.hid (pts_nil w4)⟩
    case round =>
      obtain ⟨j, us, hj, rfl, hx, HQ⟩ := hrel
      obtain ⟨sa, sc, rfl⟩ := own_any HQ.out.1
      obtain ⟨ra, rc, rfl⟩ := own_any HQ.out.2.1
      have hsz := hx.size
      have X := X.trans hx
      by_cases hlt : j < 1
      · have hlti : (j : Int) < 1 := by omega
        have HU := Lib.hid (rtsN_succ xs 0 j)
        have HV := Lib.hid (prtN_succ xs 0 j)
        have HSP := Lib.hid (shRoot_part HK.out (k := 0) (by omega) (j := j) (by omega))
        have HSM := Lib.hid (fun l (hl : l ∈ shdL xs ((0 : Nat) : Int) j) => shd_mem hl)
        have HPO := Lib.hid (shd_ok HK.out ((0 : Nat) : Int) j)
        have hpl : (shdL xs ((0 : Nat) : Int) j).length ≤ xs.length := pickOn_length _ _ _
        go_wp2_with fail
        refine (impl_ShardLeaves _ xs ((0 : Nat) : Int) j _ (LL.out.ext hx) HN.out (by omega) (HT.out.ext hx)).mono ?_
        generalize hP : shdL xs ((0 : Nat) : Int) j = P at *
        clear hP
        rintro e w5 ⟨pa, pc, rfl, hown, x5⟩
        have HQ5 := Lib.hid (HQ.out.ext x5)
        have o1 := Lib.hid (off_new HQ.out.1 hown (Nat.le_refl _))
        have o2 := Lib.hid (off_new HQ.out.2.1 hown (Nat.le_refl _))
        have OU := Lib.hid (hown.mono hsz)
        have X5 := hx.trans x5
        have z5 := X5.size
        have LP := OU.out.lvs
        obtain ⟨-, pa1, pc1, hpe, hcu, hmu, gu⟩ := LP
        injection hpe with z1 z2 z3
        subst z1 z3
        have HG := Lib.hid gu
        unfold maxLen at hmu
        clear HQ hown x5 hx X hsz gu
        go_wp2_with fail
        go_loopw [9] (fun i wi => ∃ m : Nat, m ≤ P.length ∧ i = .int .i64 m ∧ Ext w5 wi) (fun i _ => P.length - (intOf i).toNat)
        case atStart => exact ⟨0, Nat.zero_le _, rfl, Ext.refl _⟩
        case round =>
          obtain ⟨m, hm, rfl, hxi⟩ := hrel
          have X6 := X5.trans hxi
          have z6 := X6.size
          by_cases hlm : m < P.length
          · rcases HG.out with gu | ⟨b2, ob2, rfl, hb2, gu⟩
            · omega
            have e2 : wr.cell? ⟨b2, ob2 + m * 2, none⟩ = some (.string P[m].name) := (hxi.cell b2 _ hb2).trans (gu _ _ (leaf_c0 P m hlm))
            have hnm := ((leavesOk_small HPO.out).2 P[m] (List.getElem_mem hlm)).1
            have HSD := Lib.hid (HSM.out P[m] (List.getElem_mem hlm))
            clear gu
            go_wp2_with fail
            refine (impl_ShardOf _ ((0 : Nat) : Int) _ (by omega) (HT.out.ext X6)).mono ?_
            rw [HSD.out]
            rintro e w6 ⟨rfl, x6⟩
            have hje : ((j : Int) != (j : Int)) = false := by simp
            go_wp2_with fail
            go_roundw
            case rel => exact ⟨m + 1, by omega, by go_num, hxi.trans x6⟩
            case measure => simp [intOf]; omega
          · obtain rfl : m = P.length := by omega
            have HQ6 := Lib.hid (HQ5.out.ext hxi)
            have OU6 := Lib.hid (OU.out.ext hxi)
            clear HQ5 OU HG
            go_wp2_with (at_builtin; refine wpList_append_own_at _ rfl (.tmp 51) (.tmp 53) 28 rfl w4.heap.size 24 i1 (.slice none 0 0) 1 24 Tryd.underlying28 hi1 hz10 hz11 hz12 rfl (by decide) _ _ _ rfl (own_alloc HQ6.out.1 _) ⟨wr.heap.size, 0, none⟩ 1 1 [(.slice pa P.length pc)] rfl rfl ?c01 ?c02 ?c03 ?c04 ?c05 ?_)
            case c01 => exact World.news_of_block (heap_alloc_new wr (Obj.cells #[(.slice pa P.length pc)] 24))
            case c02 => intro u hu; rw [List.mem_singleton] at hu; rw [hu]; rfl
            case c03 => unfold maxLen; omega
            case c04 => omega
            case c05 => simp; omega
            intro v' w7 own7 hgrow _ hat
            have xa : Ext wr (wr.alloc (Obj.cells #[(.slice pa P.length pc)] 24)) := (Ext.refl wr).alloc _
            have HQ7 := Lib.hid ((HQ6.out.ext xa).one (OU6.out.ext xa) o1.out o2.out own7 hgrow (by rw [World.size_alloc]; exact hat))
            have X7 : Ext w4 w7 := own_ext_of (X6.trans xa) (HQ6.out.ext xa).1 hgrow (Nat.le_refl _)
            have LP7 := Lib.hid (OwnLvs.lvs (show OwnLvs w7 w4.heap.size (.slice pa P.length pc) P from own_grown2 (OU6.out.ext xa) hgrow (fun g hg => o1.out g hg)))
            obtain ⟨sa7, sc7, rfl⟩ := own_any own7
            have z7 := X7.size
            clear own7 hgrow hat xa HQ6 OU6 hxi X6 z6 X5 z5
            go_wp2_with fail
            refine (impl_ShardRoot _ P ((0 : Nat) : Int) j 16 _ LP7.out (ok_fitP HPO.out) (HT.out.ext X7)).mono ?_
            rw [HSP.out]
            generalize hsr : shRoot xs ((0 : Nat) : Int) j 16 = sr at *
            clear hsr
            rintro e w8 ⟨rfl, x8⟩
            have HQ8 := Lib.hid (HQ7.out.ext x8)
            have X8 := X7.trans x8
            have z8 := X8.size
            clear HQ7 LP7 x8
            go_wp2_with (at_builtin; refine wpList_append_own_at _ rfl (.tmp 55) (.tmp 60) 29 rfl w4.heap.size 9 i0 (.string ⟨#[]⟩) 1 16 Tryd.underlying29 hi hz0 hz1 hz2 rfl (by decide) _ _ _ rfl (own_alloc HQ8.out.2.1 _) ⟨w8.heap.size, 0, none⟩ 1 1 [.string sr] rfl rfl ?d01 ?d02 ?d03 ?d04 ?d05 ?_)
            case d01 => exact World.news_of_block (heap_alloc_new w8 (Obj.cells #[Value.string sr] 9))
            case d02 => intro u hu; rw [List.mem_singleton] at hu; rw [hu]; rfl
            case d03 => unfold maxLen; omega
            case d04 => omega
            case d05 => simp; omega
            intro v' w9 own9 hgrow _ hat
            have xa : Ext w8 (w8.alloc (Obj.cells #[Value.string sr] 9)) := (Ext.refl w8).alloc _
            have HQ9 := Lib.hid ((HQ8.out.ext xa).two (x := sr) (by rw [List.map_append]; exact own9) hgrow (by rw [World.size_alloc]; exact hat))
            have X9 : Ext w4 w9 := own_ext_of (X8.trans xa) (HQ8.out.ext xa).2.1 hgrow (Nat.le_refl _)
            obtain ⟨ra9, rc9, rfl⟩ := own_any own9
            clear own9 hgrow hat xa HQ8 X8 z8 X7 z7
            go_wp2_with fail
            go_roundw
            case rel => exact ⟨j + 1, us ++ [(.slice pa P.length pc)], by omega, by go_num, X9, Lib.hid (by rw [HU.out, HV.out]; exact HQ9.out)⟩
            case measure => simp [intOf]; omega
      · obtain rfl : j = 1 := by omega
        have LS := Lib.hid (HQ.out.lss (prtN_len xs 0 1).symm)
        have RS : OwnStrs wr w4.heap.size (.slice ra 1 rc) (rtsN xs 0 1) := by unfold OwnStrs; rw [rtsN_len]; exact HQ.out.2.1
        have LR := Lib.hid (OwnStrs.strs RS)
        clear RS HQ
        have LLr := Lib.hid (LL.out.ext hx)
        replace HT := Lib.hid (HT.out.ext hx)
        clear LL
        have LL := LLr
        clear LLr
        go_wp2_with fail
        refine (impl_AllLeaves _ (prtN xs 0 1) _ LS.out HPF.out HPN.out).mono ?_
        rw [HA.out]
        rintro e w10 ⟨aa, ac, rfl, own, x10⟩
        replace X := X.trans x10
        replace LL := Lib.hid (LL.out.ext x10)
        replace HT := Lib.hid (HT.out.ext x10)
        replace LR := Lib.hid (Row.ext LR.out x10)
        have LA := Lib.hid (OwnLvs.lvs own)
        clear own LS
        go_wp2_with fail
        refine (impl_CombineRoots _ (rtsN xs 0 1) 16 _ LR.out HRF.out HT.out).mono ?_
        rw [HO.out, HR.out]
        rintro e w11 ⟨rfl, x11⟩
        replace X := X.trans x11
        replace LL := Lib.hid (LL.out.ext x11)
        replace HT := Lib.hid (HT.out.ext x11)
        replace LR := Lib.hid (Row.ext LR.out x11)
        replace LA := Lib.hid (LA.out.ext x11)
        go_wp2_with fail
        refine (laws_sameLeaves _ _ xs _ LA.out LL.out).mono ?_
        rintro e w12 ⟨rfl, x12⟩
        replace X := X.trans x12
        replace LL := Lib.hid (LL.out.ext x12)
        replace HT := Lib.hid (HT.out.ext x12)
        replace LR := Lib.hid (Row.ext LR.out x12)
        replace LA := Lib.hid (LA.out.ext x12)
        go_wp2_with fail
        refine (spec_RootOf _ xs 16 _ LL.out HF.out).mono ?_
        rintro e w13 ⟨rfl, x13⟩
        replace X := X.trans x13
        replace LL := Lib.hid (LL.out.ext x13)
        replace HT := Lib.hid (HT.out.ext x13)
        replace LR := Lib.hid (Row.ext LR.out x13)
        replace LA := Lib.hid (LA.out.ext x13)
        have hre : ((nodeH xs 0 0 16).toList == (nodeH xs 0 0 16).toList) = true := by simp
        generalize nodeH xs 0 0 16 = ro at *
        go_wp2
        go_ret
        exact ⟨rfl, X⟩
  · have HA := Lib.hid (prt_all HK.out (k := 1) (by omega))
    have HR := Lib.hid (rts_comb HK.out (k := 1) (by omega))
    have HO := Lib.hid (rts_ok HK.out (k := 1) (by omega))
    have HRF := Lib.hid (rts_fit HK.out (k := 1) (by omega))
    have HPF := Lib.hid (prt_fit HK.out 1 2)
    have HPN := Lib.hid (prt_num HK.out 1)
    rw [show ((1 : Nat) : Int) = 1 from rfl]
    go_wp2_with fail
    go_loopw [5, 6, 7] (fun s r i wr => ∃ (j : Nat) (us : List Value), j ≤ 2 ∧ i = .int .i64 j ∧ Ext w4 wr ∧ Hid (Pts wr w4.heap.size s j us r j (rtsN xs 1 j) (prtN xs 1 j))) (fun _ _ i _ => 2 - (intOf i).toNat)
    case atStart => exact ⟨0, [], by omega, rfl, (by repeat (first | (with_reducible first | exact Ext.refl _ | assumption | apply Ext.alloc | apply Ext.drew | apply Ext.drewN | refine Ext.setCell ?_ ?_ _ | refine Ext.trans ?_ (by assumption)) | (show _ ≤ _; first | omega | (dsimp only; omega) | (simp; done) | (simp; omega)))), Lib.hid (pts_nil w4)⟩
    case round =>
      obtain ⟨j, us, hj, rfl, hx, HQ⟩ := hrel
      obtain ⟨sa, sc, rfl⟩ := own_any HQ.out.1
      obtain ⟨ra, rc, rfl⟩ := own_any HQ.out.2.1
      have hsz := hx.size
      have X := X.trans hx
      by_cases hlt : j < 2
      · have hlti : (j : Int) < 2 := by omega
        have HU := Lib.hid (rtsN_succ xs 1 j)
        have HV := Lib.hid (prtN_succ xs 1 j)
        have HSP := Lib.hid (shRoot_part HK.out (k := 1) (by omega) (j := j) (by omega))
        have HSM := Lib.hid (fun l (hl : l ∈ shdL xs ((1 : Nat) : Int) j) => shd_mem hl)
        have HPO := Lib.hid (shd_ok HK.out ((1 : Nat) : Int) j)
        have hpl : (shdL xs ((1 : Nat) : Int) j).length ≤ xs.length := pickOn_length _ _ _
        go_wp2_with fail
        refine (impl_ShardLeaves _ xs ((1 : Nat) : Int) j _ (LL.out.ext hx) HN.out (by omega) (HT.out.ext hx)).mono ?_
        generalize hP : shdL xs ((1 : Nat) : Int) j = P at *
        clear hP
        rintro e w5 ⟨pa, pc, rfl, hown, x5⟩
        have HQ5 := Lib.hid (HQ.out.ext x5)
        have o1 := Lib.hid (off_new HQ.out.1 hown (Nat.le_refl _))
        have o2 := Lib.hid (off_new HQ.out.2.1 hown (Nat.le_refl _))
        have OU := Lib.hid (hown.mono hsz)
        have X5 := hx.trans x5
        have z5 := X5.size
        have LP := OU.out.lvs
        obtain ⟨-, pa1, pc1, hpe, hcu, hmu, gu⟩ := LP
        injection hpe with z1 z2 z3
        subst z1 z3
        have HG := Lib.hid gu
        unfold maxLen at hmu
        clear HQ hown x5 hx X hsz gu
        go_wp2_with fail
        go_loopw [9] (fun i wi => ∃ m : Nat, m ≤ P.length ∧ i = .int .i64 m ∧ Ext w5 wi) (fun i _ => P.length - (intOf i).toNat)
        case atStart => exact ⟨0, Nat.zero_le _, rfl, Ext.refl _⟩
        case round =>
          obtain ⟨m, hm, rfl, hxi⟩ := hrel
          have X6 := X5.trans hxi
          have z6 := X6.size
          by_cases hlm : m < P.length
          · rcases HG.out with gu | ⟨b2, ob2, rfl, hb2, gu⟩
            · omega
            have e2 : wr.cell? ⟨b2, ob2 + m * 2, none⟩ = some (.string P[m].name) := (hxi.cell b2 _ hb2).trans (gu _ _ (leaf_c0 P m hlm))
            have hnm := ((leavesOk_small HPO.out).2 P[m] (List.getElem_mem hlm)).1
            have HSD := Lib.hid (HSM.out P[m] (List.getElem_mem hlm))
            clear gu
            go_wp2_with fail
            refine (impl_ShardOf _ ((1 : Nat) : Int) _ (by omega) (HT.out.ext X6)).mono ?_
            rw [HSD.out]
            rintro e w6 ⟨rfl, x6⟩
            have hje : ((j : Int) != (j : Int)) = false := by simp
            go_wp2_with fail
            go_roundw
            case rel => exact ⟨m + 1, by omega, by go_num, hxi.trans x6⟩
            case measure => simp [intOf]; omega
          · obtain rfl : m = P.length := by omega
            have HQ6 := Lib.hid (HQ5.out.ext hxi)
            have OU6 := Lib.hid (OU.out.ext hxi)
            clear HQ5 OU HG
            go_wp2_with (at_builtin; refine wpList_append_own_at _ rfl (.tmp 51) (.tmp 53) 28 rfl w4.heap.size 24 i1 (.slice none 0 0) 1 24 Tryd.underlying28 hi1 hz10 hz11 hz12 rfl (by decide) _ _ _ rfl (own_alloc HQ6.out.1 _) ⟨wr.heap.size, 0, none⟩ 1 1 [(.slice pa P.length pc)] rfl rfl ?c11 ?c12 ?c13 ?c14 ?c15 ?_)
            case c11 => exact World.news_of_block (heap_alloc_new wr (Obj.cells #[(.slice pa P.length pc)] 24))
            case c12 => intro u hu; rw [List.mem_singleton] at hu; rw [hu]; rfl
            case c13 => unfold maxLen; omega
            case c14 => omega
            case c15 => simp; omega
            intro v' w7 own7 hgrow _ hat
            have xa : Ext wr (wr.alloc (Obj.cells #[(.slice pa P.length pc)] 24)) := (Ext.refl wr).alloc _
            have HQ7 := Lib.hid ((HQ6.out.ext xa).one (OU6.out.ext xa) o1.out o2.out own7 hgrow (by rw [World.size_alloc]; exact hat))
            have X7 : Ext w4 w7 := own_ext_of (X6.trans xa) (HQ6.out.ext xa).1 hgrow (Nat.le_refl _)
            have LP7 := Lib.hid (OwnLvs.lvs (show OwnLvs w7 w4.heap.size (.slice pa P.length pc) P from own_grown2 (OU6.out.ext xa) hgrow (fun g hg => o1.out g hg)))
            obtain ⟨sa7, sc7, rfl⟩ := own_any own7
            have z7 := X7.size
            clear own7 hgrow hat xa HQ6 OU6 hxi X6 z6 X5 z5
            go_wp2_with fail
            refine (impl_ShardRoot _ P ((1 : Nat) : Int) j 16 _ LP7.out (ok_fitP HPO.out) (HT.out.ext X7)).mono ?_
            rw [HSP.out]
            generalize hsr : shRoot xs ((1 : Nat) : Int) j 16 = sr at *
            clear hsr
            rintro e w8 ⟨rfl, x8⟩
            have HQ8 := Lib.hid (HQ7.out.ext x8)
            have X8 := X7.trans x8
            have z8 := X8.size
            clear HQ7 LP7 x8
            go_wp2_with (at_builtin; refine wpList_append_own_at _ rfl (.tmp 55) (.tmp 60) 29 rfl w4.heap.size 9 i0 (.string ⟨#[]⟩) 1 16 Tryd.underlying29 hi hz0 hz1 hz2 rfl (by decide) _ _ _ rfl (own_alloc HQ8.out.2.1 _) ⟨w8.heap.size, 0, none⟩ 1 1 [.string sr] rfl rfl ?d11 ?d12 ?d13 ?d14 ?d15 ?_)
            case d11 => exact World.news_of_block (heap_alloc_new w8 (Obj.cells #[Value.string sr] 9))
            case d12 => intro u hu; rw [List.mem_singleton] at hu; rw [hu]; rfl
            case d13 => unfold maxLen; omega
            case d14 => omega
            case d15 => simp; omega
            intro v' w9 own9 hgrow _ hat
            have xa : Ext w8 (w8.alloc (Obj.cells #[Value.string sr] 9)) := (Ext.refl w8).alloc _
            have HQ9 := Lib.hid ((HQ8.out.ext xa).two (x := sr) (by rw [List.map_append]; exact own9) hgrow (by rw [World.size_alloc]; exact hat))
            have X9 : Ext w4 w9 := own_ext_of (X8.trans xa) (HQ8.out.ext xa).2.1 hgrow (Nat.le_refl _)
            obtain ⟨ra9, rc9, rfl⟩ := own_any own9
            clear own9 hgrow hat xa HQ8 X8 z8 X7 z7
            go_wp2_with fail
            go_roundw
            case rel => exact ⟨j + 1, us ++ [(.slice pa P.length pc)], by omega, by go_num, X9, Lib.hid (by rw [HU.out, HV.out]; exact HQ9.out)⟩
            case measure => simp [intOf]; omega
      · obtain rfl : j = 2 := by omega
        have LS := Lib.hid (HQ.out.lss (prtN_len xs 1 2).symm)
        have RS : OwnStrs wr w4.heap.size (.slice ra 2 rc) (rtsN xs 1 2) := by unfold OwnStrs; rw [rtsN_len]; exact HQ.out.2.1
        have LR := Lib.hid (OwnStrs.strs RS)
        clear RS HQ
        have LLr := Lib.hid (LL.out.ext hx)
        replace HT := Lib.hid (HT.out.ext hx)
        clear LL
        have LL := LLr
        clear LLr
        go_wp2_with fail
        refine (impl_AllLeaves _ (prtN xs 1 2) _ LS.out HPF.out HPN.out).mono ?_
        rw [HA.out]
        rintro e w10 ⟨aa, ac, rfl, own, x10⟩
        replace X := X.trans x10
        replace LL := Lib.hid (LL.out.ext x10)
        replace HT := Lib.hid (HT.out.ext x10)
        replace LR := Lib.hid (Row.ext LR.out x10)
        have LA := Lib.hid (OwnLvs.lvs own)
        clear own LS
        go_wp2_with fail
        refine (impl_CombineRoots _ (rtsN xs 1 2) 16 _ LR.out HRF.out HT.out).mono ?_
        rw [HO.out, HR.out]
        rintro e w11 ⟨rfl, x11⟩
        replace X := X.trans x11
        replace LL := Lib.hid (LL.out.ext x11)
        replace HT := Lib.hid (HT.out.ext x11)
        replace LR := Lib.hid (Row.ext LR.out x11)
        replace LA := Lib.hid (LA.out.ext x11)
        go_wp2_with fail
        refine (laws_sameLeaves _ _ xs _ LA.out LL.out).mono ?_
        rintro e w12 ⟨rfl, x12⟩
        replace X := X.trans x12
        replace LL := Lib.hid (LL.out.ext x12)
        replace HT := Lib.hid (HT.out.ext x12)
        replace LR := Lib.hid (Row.ext LR.out x12)
        replace LA := Lib.hid (LA.out.ext x12)
        go_wp2_with fail
        refine (spec_RootOf _ xs 16 _ LL.out HF.out).mono ?_
        rintro e w13 ⟨rfl, x13⟩
        replace X := X.trans x13
        replace LL := Lib.hid (LL.out.ext x13)
        replace HT := Lib.hid (HT.out.ext x13)
        replace LR := Lib.hid (Row.ext LR.out x13)
        replace LA := Lib.hid (LA.out.ext x13)
        have hre : ((nodeH xs 0 0 16).toList == (nodeH xs 0 0 16).toList) = true := by simp
        generalize nodeH xs 0 0 16 = ro at *
        go_wp2
        go_ret
        exact ⟨rfl, X⟩
  · have HA := Lib.hid (prt_all HK.out (k := 2) (by omega))
    have HR := Lib.hid (rts_comb HK.out (k := 2) (by omega))
    have HO := Lib.hid (rts_ok HK.out (k := 2) (by omega))
    have HRF := Lib.hid (rts_fit HK.out (k := 2) (by omega))
    have HPF := Lib.hid (prt_fit HK.out 2 4)
    have HPN := Lib.hid (prt_num HK.out 2)
    rw [show ((2 : Nat) : Int) = 2 from rfl]
    go_wp2_with fail
    go_loopw [5, 6, 7] (fun s r i wr => ∃ (j : Nat) (us : List Value), j ≤ 4 ∧ i = .int .i64 j ∧ Ext w4 wr ∧ Hid (Pts wr w4.heap.size s j us r j (rtsN xs 2 j) (prtN xs 2 j))) (fun _ _ i _ => 4 - (intOf i).toNat)
    case atStart => exact ⟨0, [], by omega, rfl, (by repeat (first | (with_reducible first | exact Ext.refl _ | assumption | apply Ext.alloc | apply Ext.drew | apply Ext.drewN | refine Ext.setCell ?_ ?_ _ | refine Ext.trans ?_ (by assumption)) | (show _ ≤ _; first | omega | (dsimp only; omega) | (simp; done) | (simp; omega)))), Lib.hid (pts_nil w4)⟩
    case round =>
      obtain ⟨j, us, hj, rfl, hx, HQ⟩ := hrel
      obtain ⟨sa, sc, rfl⟩ := own_any HQ.out.1
      obtain ⟨ra, rc, rfl⟩ := own_any HQ.out.2.1
      have hsz := hx.size
      have X := X.trans hx
      by_cases hlt : j < 4
      · have hlti : (j : Int) < 4 := by omega
        have HU := Lib.hid (rtsN_succ xs 2 j)
        have HV := Lib.hid (prtN_succ xs 2 j)
        have HSP := Lib.hid (shRoot_part HK.out (k := 2) (by omega) (j := j) (by omega))
        have HSM := Lib.hid (fun l (hl : l ∈ shdL xs ((2 : Nat) : Int) j) => shd_mem hl)
        have HPO := Lib.hid (shd_ok HK.out ((2 : Nat) : Int) j)
        have hpl : (shdL xs ((2 : Nat) : Int) j).length ≤ xs.length := pickOn_length _ _ _
        go_wp2_with fail
        refine (impl_ShardLeaves _ xs ((2 : Nat) : Int) j _ (LL.out.ext hx) HN.out (by omega) (HT.out.ext hx)).mono ?_
        generalize hP : shdL xs ((2 : Nat) : Int) j = P at *
        clear hP
        rintro e w5 ⟨pa, pc, rfl, hown, x5⟩
        have HQ5 := Lib.hid (HQ.out.ext x5)
        have o1 := Lib.hid (off_new HQ.out.1 hown (Nat.le_refl _))
        have o2 := Lib.hid (off_new HQ.out.2.1 hown (Nat.le_refl _))
        have OU := Lib.hid (hown.mono hsz)
        have X5 := hx.trans x5
        have z5 := X5.size
        have LP := OU.out.lvs
        obtain ⟨-, pa1, pc1, hpe, hcu, hmu, gu⟩ := LP
        injection hpe with z1 z2 z3
        subst z1 z3
        have HG := Lib.hid gu
        unfold maxLen at hmu
        clear HQ hown x5 hx X hsz gu
        go_wp2_with fail
        go_loopw [9] (fun i wi => ∃ m : Nat, m ≤ P.length ∧ i = .int .i64 m ∧ Ext w5 wi) (fun i _ => P.length - (intOf i).toNat)
        case atStart => exact ⟨0, Nat.zero_le _, rfl, Ext.refl _⟩
        case round =>
          obtain ⟨m, hm, rfl, hxi⟩ := hrel
          have X6 := X5.trans hxi
          have z6 := X6.size
          by_cases hlm : m < P.length
          · rcases HG.out with gu | ⟨b2, ob2, rfl, hb2, gu⟩
            · omega
            have e2 : wr.cell? ⟨b2, ob2 + m * 2, none⟩ = some (.string P[m].name) := (hxi.cell b2 _ hb2).trans (gu _ _ (leaf_c0 P m hlm))
            have hnm := ((leavesOk_small HPO.out).2 P[m] (List.getElem_mem hlm)).1
            have HSD := Lib.hid (HSM.out P[m] (List.getElem_mem hlm))
            clear gu
            go_wp2_with fail
            refine (impl_ShardOf _ ((2 : Nat) : Int) _ (by omega) (HT.out.ext X6)).mono ?_
            rw [HSD.out]
            rintro e w6 ⟨rfl, x6⟩
            have hje : ((j : Int) != (j : Int)) = false := by simp
            go_wp2_with fail
            go_roundw
            case rel => exact ⟨m + 1, by omega, by go_num, hxi.trans x6⟩
            case measure => simp [intOf]; omega
          · obtain rfl : m = P.length := by omega
            have HQ6 := Lib.hid (HQ5.out.ext hxi)
            have OU6 := Lib.hid (OU.out.ext hxi)
            clear HQ5 OU HG
            go_wp2_with (at_builtin; refine wpList_append_own_at _ rfl (.tmp 51) (.tmp 53) 28 rfl w4.heap.size 24 i1 (.slice none 0 0) 1 24 Tryd.underlying28 hi1 hz10 hz11 hz12 rfl (by decide) _ _ _ rfl (own_alloc HQ6.out.1 _) ⟨wr.heap.size, 0, none⟩ 1 1 [(.slice pa P.length pc)] rfl rfl ?c21 ?c22 ?c23 ?c24 ?c25 ?_)
            case c21 => exact World.news_of_block (heap_alloc_new wr (Obj.cells #[(.slice pa P.length pc)] 24))
            case c22 => intro u hu; rw [List.mem_singleton] at hu; rw [hu]; rfl
            case c23 => unfold maxLen; omega
            case c24 => omega
            case c25 => simp; omega
            intro v' w7 own7 hgrow _ hat
            have xa : Ext wr (wr.alloc (Obj.cells #[(.slice pa P.length pc)] 24)) := (Ext.refl wr).alloc _
            have HQ7 := Lib.hid ((HQ6.out.ext xa).one (OU6.out.ext xa) o1.out o2.out own7 hgrow (by rw [World.size_alloc]; exact hat))
            have X7 : Ext w4 w7 := own_ext_of (X6.trans xa) (HQ6.out.ext xa).1 hgrow (Nat.le_refl _)
            have LP7 := Lib.hid (OwnLvs.lvs (show OwnLvs w7 w4.heap.size (.slice pa P.length pc) P from own_grown2 (OU6.out.ext xa) hgrow (fun g hg => o1.out g hg)))
            obtain ⟨sa7, sc7, rfl⟩ := own_any own7
            have z7 := X7.size
            clear own7 hgrow hat xa HQ6 OU6 hxi X6 z6 X5 z5
            go_wp2_with fail
            refine (impl_ShardRoot _ P ((2 : Nat) : Int) j 16 _ LP7.out (ok_fitP HPO.out) (HT.out.ext X7)).mono ?_
            rw [HSP.out]
            generalize hsr : shRoot xs ((2 : Nat) : Int) j 16 = sr at *
            clear hsr
            rintro e w8 ⟨rfl, x8⟩
            have HQ8 := Lib.hid (HQ7.out.ext x8)
            have X8 := X7.trans x8
            have z8 := X8.size
            clear HQ7 LP7 x8
            go_wp2_with (at_builtin; refine wpList_append_own_at _ rfl (.tmp 55) (.tmp 60) 29 rfl w4.heap.size 9 i0 (.string ⟨#[]⟩) 1 16 Tryd.underlying29 hi hz0 hz1 hz2 rfl (by decide) _ _ _ rfl (own_alloc HQ8.out.2.1 _) ⟨w8.heap.size, 0, none⟩ 1 1 [.string sr] rfl rfl ?d21 ?d22 ?d23 ?d24 ?d25 ?_)
            case d21 => exact World.news_of_block (heap_alloc_new w8 (Obj.cells #[Value.string sr] 9))
            case d22 => intro u hu; rw [List.mem_singleton] at hu; rw [hu]; rfl
            case d23 => unfold maxLen; omega
            case d24 => omega
            case d25 => simp; omega
            intro v' w9 own9 hgrow _ hat
            have xa : Ext w8 (w8.alloc (Obj.cells #[Value.string sr] 9)) := (Ext.refl w8).alloc _
            have HQ9 := Lib.hid ((HQ8.out.ext xa).two (x := sr) (by rw [List.map_append]; exact own9) hgrow (by rw [World.size_alloc]; exact hat))
            have X9 : Ext w4 w9 := own_ext_of (X8.trans xa) (HQ8.out.ext xa).2.1 hgrow (Nat.le_refl _)
            obtain ⟨ra9, rc9, rfl⟩ := own_any own9
            clear own9 hgrow hat xa HQ8 X8 z8 X7 z7
            go_wp2_with fail
            go_roundw
            case rel => exact ⟨j + 1, us ++ [(.slice pa P.length pc)], by omega, by go_num, X9, Lib.hid (by rw [HU.out, HV.out]; exact HQ9.out)⟩
            case measure => simp [intOf]; omega
      · obtain rfl : j = 4 := by omega
        have LS := Lib.hid (HQ.out.lss (prtN_len xs 2 4).symm)
        have RS : OwnStrs wr w4.heap.size (.slice ra 4 rc) (rtsN xs 2 4) := by unfold OwnStrs; rw [rtsN_len]; exact HQ.out.2.1
        have LR := Lib.hid (OwnStrs.strs RS)
        clear RS HQ
        have LLr := Lib.hid (LL.out.ext hx)
        replace HT := Lib.hid (HT.out.ext hx)
        clear LL
        have LL := LLr
        clear LLr
        go_wp2_with fail
        refine (impl_AllLeaves _ (prtN xs 2 4) _ LS.out HPF.out HPN.out).mono ?_
        rw [HA.out]
        rintro e w10 ⟨aa, ac, rfl, own, x10⟩
        replace X := X.trans x10
        replace LL := Lib.hid (LL.out.ext x10)
        replace HT := Lib.hid (HT.out.ext x10)
        replace LR := Lib.hid (Row.ext LR.out x10)
        have LA := Lib.hid (OwnLvs.lvs own)
        clear own LS
        go_wp2_with fail
        refine (impl_CombineRoots _ (rtsN xs 2 4) 16 _ LR.out HRF.out HT.out).mono ?_
        rw [HO.out, HR.out]
        rintro e w11 ⟨rfl, x11⟩
        replace X := X.trans x11
        replace LL := Lib.hid (LL.out.ext x11)
        replace HT := Lib.hid (HT.out.ext x11)
        replace LR := Lib.hid (Row.ext LR.out x11)
        replace LA := Lib.hid (LA.out.ext x11)
        go_wp2_with fail
        refine (laws_sameLeaves _ _ xs _ LA.out LL.out).mono ?_
        rintro e w12 ⟨rfl, x12⟩
        replace X := X.trans x12
        replace LL := Lib.hid (LL.out.ext x12)
        replace HT := Lib.hid (HT.out.ext x12)
        replace LR := Lib.hid (Row.ext LR.out x12)
        replace LA := Lib.hid (LA.out.ext x12)
        go_wp2_with fail
        refine (spec_RootOf _ xs 16 _ LL.out HF.out).mono ?_
        rintro e w13 ⟨rfl, x13⟩
        replace X := X.trans x13
        replace LL := Lib.hid (LL.out.ext x13)
        replace HT := Lib.hid (HT.out.ext x13)
        replace LR := Lib.hid (Row.ext LR.out x13)
        replace LA := Lib.hid (LA.out.ext x13)
        have hre : ((nodeH xs 0 0 16).toList == (nodeH xs 0 0 16).toList) = true := by simp
        generalize nodeH xs 0 0 16 = ro at *
        go_wp2
        go_ret
        exact ⟨rfl, X⟩
end Go.Proofs.YtckipgijfgeghaaDoor
