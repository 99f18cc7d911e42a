/- The operations that lay a file anew: the reference. -/
import Derived.Test.YtckipgijfgeghaaAnP
import Derived.Test.YtckipgijfgeghaaFilB
import Derived.Test.YtckipgijfgeghaaFrS
import Derived.Test.YtckipgijfgeghaaUnfS
namespace Go.Proofs.Ytckipgijfgeghaa
open Go.RowKit

theorem spec_logName (n : ByteArray) (w : World) :
    Calls Try.prog 58 #[.string n] w fun e w' => e = .returned (.bool (logNameOk n)) ∧ w = w' := by
  have HL := Lib.hid (show logNameOk n = (inB n.size 1 8 && !(n.toList == newT.toList)) from rfl)
  generalize logNameOk n = b at *
  cases h1 : inB n.size 1 8
  · have H1 := Lib.hid h1
    rw [h1] at HL
    have HB := Lib.hid (show b = false by rw [HL.out]; rfl)
    clear h1 HL
    go_enter Try.func58, Try.ntmps58
    go_wp2_with fail
    refine (spec_l01In _ _ _ _).mono ?_
    rw [H1.out]
    rintro e w' ⟨rfl, rfl⟩
    go_wp2
    go_ret
    exact ⟨ret_bool HB.out.symm, rfl⟩
  · have H1 := Lib.hid h1
    rw [h1] at HL
    cases h2 : (n.toList == newT.toList)
    · have HB := Lib.hid (show b = true by rw [HL.out, h2]; rfl)
      have h3 : (n.toList == [110, 101, 119]) = false := by rw [ByteArray.toList_eq newT] at h2; exact h2
      clear h1 h2 HL
      go_enter Try.func58, Try.ntmps58
      go_wp2_with fail
      refine (spec_l01In _ _ _ _).mono ?_
      rw [H1.out]
      rintro e w' ⟨rfl, rfl⟩
      go_wp2
      go_ret
      exact ⟨ret_bool HB.out.symm, rfl⟩
    · have HB := Lib.hid (show b = false by rw [HL.out, h2]; rfl)
      have h3 : (n.toList == [110, 101, 119]) = true := by rw [ByteArray.toList_eq newT] at h2; exact h2
      clear h1 h2 HL
      go_enter Try.func58, Try.ntmps58
      go_wp2_with fail
      refine (spec_l01In _ _ _ _).mono ?_
      rw [H1.out]
      rintro e w' ⟨rfl, rfl⟩
      go_wp2
      go_ret
      exact ⟨ret_bool HB.out.symm, rfl⟩
theorem fAt_cases (xs : List Fil) (n : ByteArray) : fAt xs n = -1 ∨ ∃ k : Nat, k < xs.length ∧ fAt xs n = k := by
  rw [fAt]
  cases h : xs.findIdx? (fun f => decide (f.name = n)) with
  | none => exact Or.inl rfl
  | some k =>
    rw [List.findIdx?_eq_some_iff_getElem] at h
    exact Or.inr ⟨k, h.1, rfl⟩
set_option maxHeartbeats 800000 in
theorem spec_FileHas (v : Value) (xs : List Fil) (w : World) (h : Fls w v xs) :
    Calls Try.prog 51 #[.agg #[v], .string newT] w fun e w' => ∃ s : ByteArray, e = .returned (.tuple #[.string s, .bool (hasNew xs)]) ∧ Ext w w' := by
  rcases fAt_cases xs newT with he | ⟨k, hk, he⟩
  · have HH := Lib.hid (show hasNew xs = false by rw [hasNew, he]; rfl)
    refine ((spec_FileAt v xs newT w h).2 he).mono ?_
    rintro e w' ⟨rfl, hx⟩
    exact ⟨_, by rw [HH.out], hx⟩
  · have HH := Lib.hid (show hasNew xs = true by rw [hasNew, he]; exact decide_eq_true (by omega))
    refine ((spec_FileAt v xs newT w h).1 k hk he).mono ?_
    rintro e w' ⟨rfl, hx⟩
    exact ⟨_, by rw [HH.out], hx⟩
set_option maxRecDepth 100000 in
set_option maxHeartbeats 3200000 in
theorem spec_AnewActs (v lv : Value) (xs : List Fil) (name : ByteArray) (l : List ByteArray) (w : World) (h : Fls w v xs) (hs : FilFit xs) (hl : Strs w lv l) (h9 : ∀ s ∈ l, s.size ≤ 900) (hlen : l.length ≤ 10) :
    Calls Try.prog 27 #[.agg #[v], .string name, lv] w fun e w' => ∃ (a : Option Addr) (c : Nat), e = .returned (.tuple #[.slice a (anewL xs name l).length c, .bool (anewOk xs name l)]) ∧ Acs w' (.slice a (anewL xs name l).length c) (anewL xs name l) ∧ Ext w w' := by
  obtain ⟨i0, hi, hz0, hz1, hz2⟩ := info_parts infoAct
  have H9 := Lib.hid h9
  obtain ⟨a1, c1, rfl⟩ := h.form
  obtain ⟨-, a2, c2, rfl, hc2, hm2, g2⟩ := hl
  unfold maxLen at hm2
  have P := Bx.new w #[.slice a1 xs.length c1] 38
  have X : Ext w (w.alloc (Obj.cells #[.slice a1 xs.length c1] 38)) := (Ext.refl w).alloc _
  clear h9
  cases hd : diskOk xs
  · have HD := Lib.hid hd
    have HNO := Lib.hid (anewOk_disk (name := name) (l := l) hd)
    clear hd
    go_enter Try.func27, Try.ntmps27
    go_wp2_with fail
    generalize w.alloc (Obj.cells #[.slice a1 xs.length c1] 38) = w0 at *
    have ez : Ext w0 (w0.alloc (Obj.cells #[] 75)) := (Ext.refl _).alloc _
    replace P := P.ext ez
    replace X := X.trans ez
    generalize w0.alloc (Obj.cells #[] 75) = wz at *
    clear ez
    have z0 := P.2.1 0 _ rfl
    refine (spec_DiskOk _ xs _ (h.ext X) hs).mono ?_
    rw [HD.out]
    rintro e w1 ⟨rfl, x1⟩
    clear z0
    replace P := P.ext x1
    replace X := X.trans x1
    clear x1
    go_wp2
    go_ret2
    refine ⟨some ⟨w.heap.size + 1, 0, none⟩, 0, ?_, ?_, X⟩
    · rw [anewL_no HNO.out, HNO.out]; rfl
    · rw [anewL_no HNO.out]; exact acs_none 0 (Nat.zero_le _)
  · have HD := Lib.hid hd
    clear hd
    cases hnm : logNameOk name
    · have HN := Lib.hid hnm
      have HNO := Lib.hid (anewOk_name (xs := xs) (l := l) hnm)
      clear hnm
      go_enter Try.func27, Try.ntmps27
      go_wp2_with fail
      generalize w.alloc (Obj.cells #[.slice a1 xs.length c1] 38) = w0 at *
      have ez : Ext w0 (w0.alloc (Obj.cells #[] 75)) := (Ext.refl _).alloc _
      replace P := P.ext ez
      replace X := X.trans ez
      generalize w0.alloc (Obj.cells #[] 75) = wz at *
      clear ez
      have z0 := P.2.1 0 _ rfl
      refine (spec_DiskOk _ xs _ (h.ext X) hs).mono ?_
      rw [HD.out]
      rintro e w1 ⟨rfl, x1⟩
      clear z0
      replace P := P.ext x1
      replace X := X.trans x1
      clear x1
      have z0 := P.2.1 0 _ rfl
      go_wp2_with fail
      refine (spec_logName _ _).mono ?_
      rw [HN.out]
      rintro e w' ⟨rfl, rfl⟩
      clear z0
      go_wp2
      go_ret2
      refine ⟨some ⟨w.heap.size + 1, 0, none⟩, 0, ?_, ?_, X⟩
      · rw [anewL_no HNO.out, HNO.out]; rfl
      · rw [anewL_no HNO.out]; exact acs_none 0 (Nat.zero_le _)
    · have HN := Lib.hid hnm
      clear hnm
      go_enter Try.func27, Try.ntmps27
      go_wp2_with fail
      generalize w.alloc (Obj.cells #[.slice a1 xs.length c1] 38) = w0 at *
      have ez : Ext w0 (w0.alloc (Obj.cells #[] 75)) := (Ext.refl _).alloc _
      replace P := P.ext ez
      replace X := X.trans ez
      generalize w0.alloc (Obj.cells #[] 75) = wz at *
      clear ez
      have z0 := P.2.1 0 _ rfl
      refine (spec_DiskOk _ xs _ (h.ext X) hs).mono ?_
      rw [HD.out]
      rintro e w1 ⟨rfl, x1⟩
      clear z0
      replace P := P.ext x1
      replace X := X.trans x1
      clear x1
      have z0 := P.2.1 0 _ rfl
      go_wp2_with fail
      refine (spec_logName _ _).mono ?_
      rw [HN.out]
      rintro e w' ⟨rfl, rfl⟩
      clear z0
      go_wp2
      generalize w1 = wl at *
      go_loopw [9, 10, 11, 12] (fun s i _ _ wr => ∃ k : Nat, k ≤ l.length ∧ i = .int .i64 k ∧ s = .string (frsT (l.take k)) ∧ (∀ s ∈ l.take k, recOk s = true) ∧ Bx wr w.heap.size [.slice a1 xs.length c1] ∧ Ext w wr) (fun _ i _ _ _ => l.length - (intOf i).toNat)
      case atStart => exact ⟨0, Nat.zero_le _, rfl, rfl, by simp, P, X⟩
      case round =>
        clear P X
        obtain ⟨k, hk, rfl, rfl, hall, P, X⟩ := hrel
        have HA := Lib.hid hall
        clear hall
        by_cases hlt : k < l.length
        · rcases g2 with g2 | ⟨b2, o2, rfl, hb2, g2⟩
          · omega
          have e1 : wr.cell? ⟨b2, o2 + k, none⟩ = some (.string l[k]) := (X.cell b2 _ hb2).trans (g2 k _ (by simp [hlt]))
          have h9k := H9.out _ (List.getElem_mem hlt)
          have hF := frsT_len (L := l.take k) (fun s hs => H9.out s (List.mem_of_mem_take hs))
          have hF2 : (l.take k).length ≤ 10 := by rw [List.length_take]; omega
          have hFs := frT_len l[k] h9k
          have k1 : (0 : Int) ≤ k := by omega
          have k2 : (k : Int) < l.length := by omega
          have HT := Lib.hid (show frsT (l.take (k + 1)) = frsT (l.take k) ++ frT l[k] by rw [List.take_succ_eq_append_getElem hlt, frsT_snoc])
          have hm : ¬ (9223372036854775807 < (frsT (l.take k)).size + (frT l[k]).size) := by omega
          cases hr : recOk l[k]
          · have HR := Lib.hid hr
            have HNO := Lib.hid (anewOk_rec (xs := xs) (name := name) hlt hr)
            clear hr g2
            go_wp2_with fail
            refine (spec_Frame l[k] _ (by omega)).mono ?_
            rw [HR.out]
            rintro e w2 ⟨rfl, x2⟩
            replace P := P.ext x2
            replace X := X.trans x2
            clear x2 e1
            go_wp2
            go_ret2
            refine ⟨some ⟨w.heap.size + 1, 0, none⟩, 0, ?_, ?_, X⟩
            · rw [anewL_no HNO.out, HNO.out]; rfl
            · rw [anewL_no HNO.out]; exact acs_none 0 (Nat.zero_le _)
          · have HR := Lib.hid hr
            have HA2 := Lib.hid (show ∀ s ∈ l.take (k + 1), recOk s = true by
              intro s hs
              rw [List.take_succ_eq_append_getElem hlt, List.mem_append] at hs
              rcases hs with hs | hs
              · exact HA.out s hs
              · simp at hs; rw [hs]; exact HR.out)
            clear hr g2 hF hFs
            go_wp2_with fail
            refine (spec_Frame l[k] _ (by omega)).mono ?_
            rw [HR.out]
            rintro e w2 ⟨rfl, x2⟩
            replace P := P.ext x2
            replace X := X.trans x2
            clear x2 e1
            rw [if_pos rfl]
            generalize frsT (l.take k) = F at *
            generalize frT l[k] = G at *
            go_wp2
            go_roundw
            case rel => exact ⟨k + 1, by omega, by go_num, by rw [HT.out], HA2.out, P, X⟩
            case measure => simp [intOf]; omega
        · obtain rfl : k = l.length := by omega
          have HAL := Lib.hid (show ∀ s ∈ l, recOk s = true by have := HA.out; rw [List.take_length] at this; exact this)
          have HY := Lib.hid (anewOk_true (xs := xs) (name := name) (l := l) HD.out HN.out HAL.out)
          have hLL : l.take l.length = l := List.take_length
          rw [hLL]
          clear hLL
          generalize hFF : frsT l = F at *
          have HFF := Lib.hid hFF
          clear hFF
          have z0 := P.2.1 0 _ rfl
          cases hh : hasNew xs
          · have HH := Lib.hid hh
            have HQ := Lib.hid (show anewL xs name l = anewQ false F name by rw [anewL_yes HY.out, HH.out, HFF.out])
            clear hh
            have ey : Ext wr (wr.alloc (Obj.cells #[] 75)) := (Ext.refl _).alloc _
            have OZ : (wr.alloc (Obj.cells #[] 75)).ownsRow w.heap.size 75 4 (.slice (some ⟨wr.heap.size, 0, none⟩) 0 0) 0 [] := World.ownsRow_lit wr #[] 0 X.size (Nat.zero_le _) rfl
            clear z0
            replace P := P.ext ey
            replace X := X.trans ey
            go_upto_region 13 with (fail)
            generalize wr.alloc (Obj.cells #[] 75) = wy at *
            generalize wr.heap.size = yb at *
            have z0 := P.2.1 0 _ rfl
            go_wp2_with fail
            refine (spec_FileHas _ xs _ (h.ext X)).mono ?_
            rw [HH.out]
            rintro e w3 ⟨s3, rfl, x3⟩
            clear z0 ey
            replace X := X.trans x3
            replace P := P.ext x3
            have OZ3 := Lib.hid (own_ext OZ x3)
            clear OZ
            clear x3
            have hw3 := X.size
            go_wp2_with (at_builtin; refine wpList_append_own _ rfl (.tmp 57) (.tmp 63) 41 rfl w.heap.size 75 i0 _ 4 56 Try.underlying41 hi hz0 hz1 hz2 rfl (by decide) _ 0 [] rfl (own_alloc OZ3.out _) ⟨w3.heap.size, 0, none⟩ 3 3 [.int .i64 1, .string newT, .string F, .string ⟨#[]⟩, .int .i64 2, .string newT, .string ⟨#[]⟩, .string ⟨#[]⟩, .int .i64 3, .string newT, .string ⟨#[]⟩, .string name] rfl rfl ?c1 ?c2 ?c3 ?c4 ?c5 ?_)
            case c1 => exact World.news_of_block (heap_alloc_new w3 (Obj.cells #[.int .i64 1, .string newT, .string F, .string ⟨#[]⟩, .int .i64 2, .string newT, .string ⟨#[]⟩, .string ⟨#[]⟩, .int .i64 3, .string newT, .string ⟨#[]⟩, .string name] 75))
            case c2 => intro u hu; simp only [List.mem_cons, List.not_mem_nil, or_false] at hu; (repeat (rcases hu with rfl | hu; · rfl)); (try (subst hu; rfl))
            case c3 => unfold maxLen; omega
            case c4 => omega
            case c5 => rw [World.size_alloc]; omega
            intro v' w5 own' hgrow _
            have xg : Ext w w5 := own_ext_of (X.alloc _) (own_alloc OZ3.out _) hgrow (Nat.le_refl _)
            obtain ⟨oa, oc, rfl⟩ := own_any own'
            have HO := Lib.hid own'
            clear own' hgrow
            go_wp2
            go_ret2
            refine ⟨oa, oc, ?_, ?_, xg⟩
            · rw [HQ.out, HY.out]; rfl
            · rw [HQ.out]; exact acs_own (qs := anewQ false F name) HO.out rfl
          · have HH := Lib.hid hh
            have HQ := Lib.hid (show anewL xs name l = anewQ true F name by rw [anewL_yes HY.out, HH.out, HFF.out])
            clear hh
            have ey : Ext wr (wr.alloc (Obj.cells #[] 75)) := (Ext.refl _).alloc _
            have OZ : (wr.alloc (Obj.cells #[] 75)).ownsRow w.heap.size 75 4 (.slice (some ⟨wr.heap.size, 0, none⟩) 0 0) 0 [] := World.ownsRow_lit wr #[] 0 X.size (Nat.zero_le _) rfl
            clear z0
            replace P := P.ext ey
            replace X := X.trans ey
            go_upto_region 13 with (fail)
            generalize wr.alloc (Obj.cells #[] 75) = wy at *
            generalize wr.heap.size = yb at *
            have z0 := P.2.1 0 _ rfl
            go_wp2_with fail
            refine (spec_FileHas _ xs _ (h.ext X)).mono ?_
            rw [HH.out]
            rintro e w3 ⟨s3, rfl, x3⟩
            clear z0 ey
            replace X := X.trans x3
            replace P := P.ext x3
            have OZ3 := Lib.hid (own_ext OZ x3)
            clear OZ
            clear x3
            have hw3 := X.size
            go_wp2_with (at_builtin; refine wpList_append_own _ rfl (.tmp 53) (.tmp 55) 41 rfl w.heap.size 75 i0 _ 4 56 Try.underlying41 hi hz0 hz1 hz2 rfl (by decide) _ 0 [] rfl (own_alloc OZ3.out _) ⟨w3.heap.size, 0, none⟩ 1 1 [.int .i64 4, .string newT, .string ⟨#[]⟩, .string ⟨#[]⟩] rfl rfl ?c1 ?c2 ?c3 ?c4 ?c5 ?_)
            case c1 => exact World.news_of_block (heap_alloc_new w3 (Obj.cells #[.int .i64 4, .string newT, .string ⟨#[]⟩, .string ⟨#[]⟩] 75))
            case c2 => intro u hu; simp only [List.mem_cons, List.not_mem_nil, or_false] at hu; (repeat (rcases hu with rfl | hu; · rfl)); (try (subst hu; rfl))
            case c3 => unfold maxLen; omega
            case c4 => omega
            case c5 => rw [World.size_alloc]; omega
            intro v' w4 own' hgrow _
            have xg : Ext w w4 := own_ext_of (X.alloc _) (own_alloc OZ3.out _) hgrow (Nat.le_refl _)
            obtain ⟨oa, oc, rfl⟩ := own_any own'
            have HO := Lib.hid own'
            clear own' hgrow
            replace X := xg
            clear xg P
            have hw4 := X.size
            have HO1 := HO
            clear HO
            obtain ⟨ob, od, hod⟩ : ∃ ob od, ob = oa ∧ od = oc := ⟨_, _, rfl, rfl⟩
            obtain ⟨rfl, rfl⟩ := hod
            go_wp2_with (at_builtin; refine wpList_append_own _ rfl (.tmp 57) (.tmp 63) 41 rfl w.heap.size 75 i0 _ 4 56 Try.underlying41 hi hz0 hz1 hz2 rfl (by decide) _ 1 _ rfl (own_alloc HO1.out _) ⟨w4.heap.size, 0, none⟩ 3 3 [.int .i64 1, .string newT, .string F, .string ⟨#[]⟩, .int .i64 2, .string newT, .string ⟨#[]⟩, .string ⟨#[]⟩, .int .i64 3, .string newT, .string ⟨#[]⟩, .string name] rfl rfl ?c1 ?c2 ?c3 ?c4 ?c5 ?_)
            case c1 => exact World.news_of_block (heap_alloc_new w4 (Obj.cells #[.int .i64 1, .string newT, .string F, .string ⟨#[]⟩, .int .i64 2, .string newT, .string ⟨#[]⟩, .string ⟨#[]⟩, .int .i64 3, .string newT, .string ⟨#[]⟩, .string name] 75))
            case c2 => intro u hu; simp only [List.mem_cons, List.not_mem_nil, or_false] at hu; (repeat (rcases hu with rfl | hu; · rfl)); (try (subst hu; rfl))
            case c3 => unfold maxLen; omega
            case c4 => omega
            case c5 => rw [World.size_alloc]; omega
            intro v' w5 own' hgrow _
            have xg : Ext w w5 := own_ext_of (X.alloc _) (own_alloc HO1.out _) hgrow (Nat.le_refl _)
            obtain ⟨oa, oc, rfl⟩ := own_any own'
            have HO := Lib.hid own'
            clear own' hgrow
            go_wp2
            go_ret2
            refine ⟨oa, oc, ?_, ?_, xg⟩
            · rw [HQ.out, HY.out]; rfl
            · rw [HQ.out]; exact acs_own (qs := anewQ true F name) HO.out rfl
end Go.Proofs.Ytckipgijfgeghaa
