/- The draw of a disk with a log. -/
import Derived.Test.YtckipgijfgeghaaStL2
import Derived.Test.YtckipgijfgeghaaFrS
import Derived.Test.YtckipgijfgeghaaCurA
namespace Go.Proofs.Ytckipgijfgeghaa
open Go.RowKit

set_option maxRecDepth 100000 in
set_option maxHeartbeats 1600000 in
theorem spec_l08Texts (b : Nat) (w : World) (h : Cur w b) :
    Calls Try.prog 55 #[.pointer (some ⟨b, 0, none⟩)] w fun e w' => ∃ (L : List ByteArray) (a : Option Addr) (c : Nat), e = .returned (.slice a L.length c) ∧ L.length ≤ 4 ∧ (∀ s ∈ L, 1 ≤ s.size ∧ s.size ≤ 9) ∧ OwnStrs w' w.heap.size (.slice a L.length c) L ∧ Cur w' b ∧ Mut b w w' := by
  obtain ⟨i0, hi, hz0, hz1, hz2⟩ := info_parts infoString
  have hb := h.lt
  go_enter Try.func55, Try.ntmps55
  go_wp2
  go_loopw [3, 4] (fun v i wr => ∃ (L : List ByteArray), i = .int .i64 L.length ∧ L.length ≤ 4 ∧ (∀ s ∈ L, 1 ≤ s.size ∧ s.size ≤ 9) ∧ wr.ownsRow w.heap.size 9 1 v L.length (L.map Value.string) ∧ Cur wr b ∧ Mut b w wr) (fun _ i _ => 4 - (intOf i).toNat)
  case atStart => exact ⟨[], rfl, Nat.zero_le _, fun s hs => by simp at hs, World.ownsRow_lit w #[] 0 (Nat.le_refl _) (Nat.zero_le _) rfl, h.ext (by repeat (first | (with_reducible first | exact Ext.refl _ | assumption | apply Ext.alloc | apply Ext.drew | apply Ext.drewN | refine Ext.setCell ?_ ?_ _ | refine Ext.trans ?_ (by assumption)) | (show _ ≤ _; first | omega | (dsimp only; omega) | (simp; done) | (simp; omega)))), Mut.of_ext (by repeat (first | (with_reducible first | exact Ext.refl _ | assumption | apply Ext.alloc | apply Ext.drew | apply Ext.drewN | refine Ext.setCell ?_ ?_ _ | refine Ext.trans ?_ (by assumption)) | (show _ ≤ _; first | omega | (dsimp only; omega) | (simp; done) | (simp; omega))))⟩
  case round =>
    obtain ⟨L, rfl, hle, hall, hown, hc, hm⟩ := hrel
    obtain ⟨a, c, rfl⟩ := own_any hown
    have HA := Lib.hid hall
    have HO := Lib.hid hown
    clear hall hown
    go_wp2_with fail
    refine (spec_l01Below b 5 _ hc (by decide)).mono ?_
    rintro e w1 ⟨x, rfl, hx, C1, M1⟩
    have M := hm.trans M1
    have ho1 := own_grown HO.out M1 (fun k hk => by injection hk with hk; omega)
    have HO1 := Lib.hid ho1
    clear ho1 HO hc hm M1
    by_cases hlt : (L.length : Int) < x
    · go_wp2_with fail
      refine (spec_l01Below b 9 _ C1 (by decide)).mono ?_
      rintro e w2 ⟨y, rfl, hy, C2, M2⟩
      obtain ⟨n, rfl⟩ := Int.eq_ofNat_of_zero_le hy.1
      have HE := Lib.hid (show (1 : Int) + n = ((1 + n : Nat) : Int) by omega)
      have ho2 := own_grown HO1.out M2 (fun k hk => by injection hk with hk; omega)
      have HO2 := Lib.hid ho2
      have Ms := M.trans M2
      clear ho2 HO1 M2 M
      go_wp2_with fail
      rw [HE.out]
      refine (spec_l01Text b (1 + n) _ C2 (by omega)).mono ?_
      rintro e w3 ⟨s, rfl, hs, C3, M3⟩
      have hown := own_grown HO2.out M3 (fun k hk => by injection hk with hk; omega)
      have M4 := Ms.trans M3
      have hs4 := M4.size
      clear HO2 Ms M3
      go_wp2_with (at_builtin; refine wpList_append_own _ rfl (.tmp 12) (.tmp 18) 44 rfl w.heap.size 9 i0 (.string ⟨#[]⟩) 1 16 Try.underlying44 hi hz0 hz1 hz2 rfl (by decide) _ _ _ rfl (hown.alloc _) ⟨w3.heap.size, 0, none⟩ 1 1 [.string s] rfl rfl ?c1 ?c2 ?c3 ?c4 ?c5 ?_)
      case c1 => exact World.news_of_block (heap_alloc_new w3 (Obj.cells #[.string s] 9))
      case c2 => intro u hu; simp at hu; subst hu; rfl
      case c3 => unfold maxLen; omega
      case c4 => omega
      case c5 => simp; omega
      intro v' w4 hown' hgrow _
      have hx1 : Mut b w w4 := (M4.alloc _).grown hgrow (fun k hk => (own_lt hown k hk).1)
      have C4 : Cur w4 b := (C3.ext ((Ext.refl _).alloc _)).grown hgrow (fun k hk => by have := (own_lt hown k hk).1; omega)
      have HO4 := Lib.hid hown'
      clear hown' hgrow hown
      go_wp2
      go_roundw
      case rel => exact ⟨L ++ [s], by simp, by simp; omega, fun u hu => by rw [List.mem_append, List.mem_singleton] at hu; rcases hu with hu | rfl; exact HA.out u hu; omega, by simpa using HO4.out, C4, hx1⟩
      case measure => simp [intOf]; omega
    · go_wp2
      go_ret
      exact ⟨L, a, c, rfl, hle, HA.out, HO1.out, C1, M⟩

theorem Mut.setNew {b : Nat} {w W : World} (h : Mut b w W) {p : Addr} (hp : w.heap.size ≤ p.block) (u : Value) : Mut b w (W.setCell p u) :=
  ⟨h.os, h.tape, h.output, by rw [World.size_setCell]; exact h.size, fun i hi hb => (Below.heap_setCell _ _ _ _ (by omega)).trans (h.block i hi hb)⟩
theorem Code.up {w w' : World} {b b' : Nat} {v : Value} {xs : List Int} (h : Code w b v xs) (hb : b ≤ w.heap.size) (hx : Ext w w') (hb' : b ≤ b') : Code w' b' v xs := by
  obtain ⟨a, cap, rfl, h1, h2⟩ := h
  refine ⟨a, cap, rfl, h1, ?_⟩
  rcases h2 with h2 | ⟨g, o, rfl, hg, h2⟩
  · exact Or.inl h2
  · exact Or.inr ⟨g, o, rfl, by omega, fun j hj => (hx.cell _ _ (by omega)).trans (h2 j hj)⟩
theorem small_ok {L : List ByteArray} (h : ∀ s ∈ L, 1 ≤ s.size ∧ s.size ≤ 9) : (∀ s ∈ L, recOk s = true) ∧ (∀ s ∈ L, s.size ≤ 900) :=
  ⟨fun s hs => recOk_true.2 (by have := h s hs; omega), fun s hs => by have := h s hs; omega⟩
theorem frT_len (s : ByteArray) (h : s.size ≤ 900) : (frT s).size ≤ 1805 := by
  rw [← ba_len, frT_list, frB_len, varB, ba_len]
  have := varT_size s.size
  omega
theorem frsT_len {L : List ByteArray} (h : ∀ s ∈ L, s.size ≤ 900) : (frsT L).size ≤ L.length * 1805 := by rw [frsT_size]; exact frsB_len_le L h

set_option maxRecDepth 100000 in
set_option maxHeartbeats 1600000 in
theorem spec_l08Disk (b : Nat) (w : World) (h : Cur w b) :
    Calls Try.prog 37 #[.pointer (some ⟨b, 0, none⟩)] w fun e w' => ∃ (L : List ByteArray) (a : Option Addr) (c : Nat), e = .returned (.agg #[.slice a (logD L).length c]) ∧ L.length ≤ 4 ∧ (∀ s ∈ L, 1 ≤ s.size ∧ s.size ≤ 9) ∧ OwnFls w' w.heap.size (.slice a (logD L).length c) (logD L) ∧ Mut b w w' := by
  have hb := h.lt
  have P2 := Bx.new w #[.slice none 0 0] 38
  have P3 := Bx.new (w.alloc (Obj.cells #[.slice none 0 0] 38)) #[.slice none 0 0] 38
  have X : Ext w ((w.alloc (Obj.cells #[.slice none 0 0] 38)).alloc (Obj.cells #[.slice none 0 0] 38)) := ((Ext.refl w).alloc _).alloc _
  replace P2 := P2.ext ((Ext.refl _).alloc (Obj.cells #[.slice none 0 0] 38))
  rw [World.size_alloc] at P3
  go_enter Try.func37, Try.ntmps37
  go_wp2_with fail
  generalize (w.alloc (Obj.cells #[.slice none 0 0] 38)).alloc (Obj.cells #[.slice none 0 0] 38) = w0 at *
  refine (spec_l08Texts b _ (h.ext X)).mono ?_
  rintro e w1 ⟨L, la, lc, rfl, hL4, hLs, hLo, -, M1⟩
  have M : Mut b w w1 := (Mut.of_ext X).trans M1
  have l3 := P3.1
  replace P2 := P2.mut M1 (by omega)
  replace P3 := P3.mut M1 (by omega)
  have HL := Lib.hid hLs
  have HO := Lib.hid (own_mono hLo (show w.heap.size + 1 + 1 ≤ w0.heap.size by omega))
  have hcm : lc ≤ maxLen := by
    rcases hLo.2 with ⟨h1, -⟩ | ⟨g, cap, cur, hv, -, -, -, hm, -⟩
    · injection h1 with h1 h2 h3; omega
    · injection hv with h1 h2 h3; omega
  unfold maxLen at hcm
  clear hLs hLo M1 X h
  have h30 : (logD ([] : List ByteArray)).length = 0 := rfl
  go_wp2
  go_loopw [5, 6, 7] (fun i _ _ wr => ∃ (k : Nat) (a : Option Addr) (c : Nat), k ≤ L.length ∧ i = .int .i64 k ∧ Bx wr w.heap.size [.slice none 0 0] ∧ Bx wr (w.heap.size + 1) [.slice a (logD (L.take k)).length c] ∧ wr.ownsRow (w.heap.size + 1 + 1) 113 3 (.slice a (logD (L.take k)).length c) (logD (L.take k)).length ((logD (L.take k)).flatMap Fil.cells) ∧ OwnStrs wr (w.heap.size + 1 + 1) (.slice la L.length lc) L ∧ Mut b w wr) (fun i _ _ _ => L.length - (intOf i).toNat)
  case atStart => exact ⟨0, none, 0, Nat.zero_le _, rfl, P2, P3, World.ownsRow_nil _ _ _ _, HO.out, M⟩
  case round =>
    clear P2 P3 M HO
    obtain ⟨k, a, c, hk, rfl, P2, P3, ow, so, M⟩ := hrel
    have l3 := P3.1
    have hMs := M.size
    by_cases hlt : k < L.length
    · have hsk := HL.out _ (List.getElem_mem hlt)
      obtain ⟨hr1, hr2⟩ := small_ok (L := L) HL.out
      have hF := frsT_len (L := L.take k) (fun s hs => hr2 s (List.mem_of_mem_take hs))
      have hF2 : (L.take k).length ≤ 4 := by rw [List.length_take]; omega
      have hFs := frT_len L[k] (by omega)
      have hrk := hr1 _ (List.getElem_mem hlt)
      obtain ⟨lg, lcc, hlv⟩ := own_form so (by omega)
      injection hlv with v1 v2 v3
      subst v1 v3
      clear v2
      have e1 : wr.cell? ⟨lg, k, none⟩ = some (.string L[k]) := by rw [so.cellAt k (by omega)]; simp [hlt]
      have SO := Lib.hid so
      have OW := Lib.hid ow
      have HTK := Lib.hid (show stL (L.take k) L[k] 2 = logD (L.take (k + 1)) by rw [stL_two, List.take_succ_eq_append_getElem hlt])
      have k1 : (0 : Int) ≤ k := by omega
      have k2 : (k : Int) < L.length := by omega
      have hz : (frsT (L.take k) ++ frT L[k]).size ≤ 20000 := by rw [app_size]; omega
      have HS := Lib.hid (steps_S hz)
      have hlen := logD_len (L.take k)
      clear so ow hr1 hr2 hF hFs hz hF2
      go_wp2_with fail
      refine (spec_LogActs _ _ hrk).mono ?_
      rintro e w2 ⟨qb, rfl, hA, x2⟩
      have z3 := (P3.ext x2).2.1 0 _ rfl
      have hs2 := own_solid OW.out
      clear e1
      go_wp2_with fail
      refine (spec_DoActs _ _ (logQ L[k]) (stL (L.take k) L[k]) _ (Fls.ext (Row.of_owns OW.out) x2) hs2 (show (logD (L.take k)).length ≤ 30 by omega) hA HS.out).mono ?_
      rw [show (logQ L[k]).length = 2 from rfl, HTK.out]
      rintro e w5 ⟨oa, oc, rfl, oo, x5⟩
      have x6 := x2.trans x5
      replace P2 := P2.ext x6
      replace P3 := P3.ext x6
      have M6 := M.trans (Mut.of_ext x6)
      have z3' := P3.2.1 0 _ rfl
      have f3 := P3.2.2 0
      have hs5 := x2.size
      generalize hd : logD (L.take (k + 1)) = D at *
      have HD := Lib.hid hd
      have P2' := P2.far (c := w.heap.size + 1) (by omega) 0 (.slice oa D.length oc)
      have P3' := P3.set 0 (.slice oa D.length oc) (by simp)
      have S6 := Lib.hid (own_ext SO.out x6)
      have S7 := Lib.hid (own_below S6.out (p := ⟨w.heap.size + 1, 0, none⟩) (u := .slice oa D.length oc) (by dsimp only; omega))
      have O7 := Lib.hid (own_mono (own_below oo (p := ⟨w.heap.size + 1, 0, none⟩) (u := .slice oa D.length oc) (by dsimp only; omega)) (show w.heap.size + 1 + 1 ≤ w2.heap.size by omega))
      have M7 : Mut b w (w5.setCell ⟨w.heap.size + 1, 0, none⟩ (.slice oa D.length oc)) := M6.setNew (by dsimp only; omega) _
      clear oo SO S6 OW x2 x5 x6 hd z3
      go_wp2
      go_roundw
      case rel => exact ⟨k + 1, oa, oc, by omega, by go_num, P2', by rw [HD.out]; exact P3', by rw [HD.out]; exact O7.out, S7.out, M7⟩
      case measure => simp [intOf]; omega
    · obtain rfl : k = L.length := by omega
      rw [List.take_length] at *
      have z3 := P3.2.1 0 _ rfl
      have z2 := P2.2.1 0 _ rfl
      have f2 := P2.2.2 0
      generalize hd : logD L = D at *
      have HD := Lib.hid hd
      have RF := P2.set 0 (.slice a D.length c) (by simp)
      have OF := Lib.hid (own_mono (own_below ow (p := ⟨w.heap.size, 0, none⟩) (u := .slice a D.length c) (by dsimp only; omega)) (show w.heap.size ≤ w.heap.size + 1 + 1 by omega))
      have MF : Mut b w (wr.setCell ⟨w.heap.size, 0, none⟩ (.slice a D.length c)) := M.setNew (by dsimp only; omega) _
      clear ow so hd
      go_wp2
      generalize wr.setCell ⟨w.heap.size, 0, none⟩ (.slice a D.length c) = WF at *
      have k0 := RF.2.1 0 _ rfl
      refine bodyPost_ret (v := .agg #[.slice a D.length c]) (by simp [results, Try.results37, go_sem, k0]) rfl ?_
      refine ⟨L, a, c, ?_, hL4, HL.out, ?_, MF⟩
      · rw [HD.out]
      · rw [HD.out]; exact OF.out
theorem spec_DrawLogDisk (v : Value) (xs : List Int) (w : World) (h : Code w w.heap.size v xs) (hl : xs.length ≤ 1048576) :
    Calls Try.prog 16 #[v] w fun e w' => ∃ (L : List ByteArray) (a : Option Addr) (c : Nat), e = .returned (.agg #[.slice a (logD L).length c]) ∧ L.length ≤ 4 ∧ (∀ s ∈ L, 1 ≤ s.size ∧ s.size ≤ 9) ∧ OwnFls w' w.heap.size (.slice a (logD L).length c) (logD L) ∧ Ext w w' := by
  have P := Bx.new w #[.slice none 0 0] 38
  have X : Ext w (w.alloc (Obj.cells #[.slice none 0 0] 38)) := (Ext.refl w).alloc _
  have hz : (w.alloc (Obj.cells #[.slice none 0 0] 38)).heap.size = w.heap.size + 1 := World.size_alloc ..
  have HC := h.up (Nat.le_refl _) X X.size
  go_enter Try.func16, Try.ntmps16
  go_wp2_with fail
  generalize w.alloc (Obj.cells #[.slice none 0 0] 38) = w0 at *
  refine (spec_l01New v xs _ HC hl).mono ?_
  rintro e w1 ⟨rfl, C1, x1⟩
  have HZ := Lib.hid hz
  clear hz h HC
  replace P := P.ext x1
  replace X := X.trans x1
  go_wp2_with fail
  refine (spec_l08Disk _ _ C1).mono ?_
  rintro e w2 ⟨L, a, c, rfl, h4, hs, ow, M⟩
  have hL := P.1
  have hx := x1.size
  have hzz := HZ.out
  replace P := P.mut M (by omega)
  have X2 : Ext w w2 := X.mut M (by omega)
  have z0 := P.2.1 0 _ rfl
  have f0 := P.2.2 0
  have HS := Lib.hid hs
  generalize hd : logD L = D at *
  have HD := Lib.hid hd
  have RF := P.set 0 (.slice a D.length c) (by simp)
  have OF := Lib.hid (own_mono (own_below ow (p := ⟨w.heap.size, 0, none⟩) (u := .slice a D.length c) (by dsimp only; omega)) (show w.heap.size ≤ w1.heap.size by omega))
  have XF := X2.setCell (p := ⟨w.heap.size, 0, none⟩) (by dsimp only; omega) (.slice a D.length c)
  clear ow hd hs hzz C1 M
  go_wp2
  generalize w2.setCell ⟨w.heap.size, 0, none⟩ (.slice a D.length c) = WF at *
  have k0 := RF.2.1 0 _ rfl
  refine bodyPost_ret (v := .agg #[.slice a D.length c]) (by simp [results, Try.results16, go_sem, k0]) rfl ?_
  refine ⟨L, a, c, ?_, h4, HS.out, ?_, XF⟩
  · rw [HD.out]
  · rw [HD.out]; exact OF.out
end Go.Proofs.Ytckipgijfgeghaa
