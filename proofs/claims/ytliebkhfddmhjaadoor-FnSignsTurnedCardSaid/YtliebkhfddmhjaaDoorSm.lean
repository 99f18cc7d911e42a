/- Same, Turn in one text. -/
import Derived.Test.YtliebkhfddmhjaaDoorSigA
import Derived.Test.YtliebkhfddmhjaaDoorOwnP
import Derived.Test.YtliebkhfddmhjaaDoorCore
import Derived.Test.YtliebkhfddmhjaaDoorFields
import Derived.StillTailTactics
namespace Go.Proofs.YtliebkhfddmhjaaDoor
open Go.RowKit

set_option maxHeartbeats 400000 in
theorem laws_sameTexts (v1 v2 : Value) (xs ys : List ByteArray) (w : World) (h1 : Strs w v1 xs) (h2 : Strs w v2 ys) :
    Calls Tryd.prog 35 #[v1, v2] w fun e w' => e = .returned (.bool (decide (xs = ys))) ∧ Ext w w' := by
  obtain ⟨-, a1, c1, rfl, hc1, hm1, g1⟩ := h1
  obtain ⟨-, a2, c2, rfl, hc2, hm2, g2⟩ := h2
  unfold maxLen at hm1 hm2
  by_cases hlen : xs.length = ys.length
  · have hlb : ((xs.length : Int) != ys.length) = false := by simp [hlen]
    have HL := Lib.hid hlen
    clear hlen
    go_enter Tryd.func35, Tryd.ntmps35
    go_wp2
    go_loopw [5] (fun i wr => ∃ k : Nat, k ≤ xs.length ∧ i = .int .i64 k ∧ xs.take k = ys.take k ∧ Ext w wr) (fun i _ => xs.length - (intOf i).toNat)
    case atStart => exact ⟨0, Nat.zero_le _, rfl, rfl, Ext.refl _⟩
    case round =>
      obtain ⟨k, hk, rfl, htk, hx⟩ := hrel
      have HT := Lib.hid htk
      clear htk
      by_cases hlt : k < xs.length
      · rcases g1 with g1 | ⟨b1, o1, rfl, hb1, g1⟩
        · omega
        rcases g2 with g2 | ⟨b2, o2, rfl, hb2, g2⟩
        · have := HL.out; omega
        have hlt2 : k < ys.length := by have := HL.out; omega
        have e1 : wr.cell? ⟨b1, o1 + k, none⟩ = some (.string xs[k]) := (hx.cell b1 (o1 + k) hb1).trans (g1 k _ (by simp [hlt]))
        have e2 : wr.cell? ⟨b2, o2 + k, none⟩ = some (.string ys[k]) := (hx.cell b2 (o2 + k) hb2).trans (g2 k _ (by simp [hlt2]))
        clear g1 g2
        by_cases hq : xs[k] = ys[k]
        · have hqb : (xs[k].toList == ys[k].toList) = true := by simp [hq]
          have HQ := Lib.hid hq
          clear hq
          go_wp2
          go_quiet (fail)
          go_wp2
          go_roundw
          case rel => exact ⟨k + 1, by omega, by go_num, take_eq_succ hlt hlt2 HT.out HQ.out, (by repeat (first | (with_reducible first | exact Ext.refl _ | assumption | apply Ext.alloc | apply Ext.drew | apply Ext.drewN | refine Ext.setCell ?_ ?_ _ | refine Ext.trans ?_ (by assumption)) | (show _ ≤ _; first | omega | (dsimp only; omega) | (simp; done) | (simp; omega))))⟩
          case measure => simp [intOf]; omega
        · have hqb : (xs[k].toList == ys[k].toList) = false := by rw [toList_beq]; simp [hq]
          have hne : xs ≠ ys := fun h => hq (by subst h; rfl)
          clear hq
          go_wp2
          go_quiet (fail)
          go_wp2
          go_ret
          exact ⟨ret_bool (by simp [hne]), (by repeat (first | (with_reducible first | exact Ext.refl _ | assumption | apply Ext.alloc | apply Ext.drew | apply Ext.drewN | refine Ext.setCell ?_ ?_ _ | refine Ext.trans ?_ (by assumption)) | (show _ ≤ _; first | omega | (dsimp only; omega) | (simp; done) | (simp; omega))))⟩
      · have he : xs = ys := by
          have h1 := HT.out
          rw [List.take_of_length_le (by omega), List.take_of_length_le (by have := HL.out; omega)] at h1
          exact h1
        have HE := Lib.hid he
        clear he
        go_wp2
        go_ret
        exact ⟨ret_bool (by simp [HE.out]), (by repeat (first | (with_reducible first | exact Ext.refl _ | assumption | apply Ext.alloc | apply Ext.drew | apply Ext.drewN | refine Ext.setCell ?_ ?_ _ | refine Ext.trans ?_ (by assumption)) | (show _ ≤ _; first | omega | (dsimp only; omega) | (simp; done) | (simp; omega))))⟩
  · have hne : xs ≠ ys := fun h => hlen (by rw [h])
    go_enter Tryd.func35, Tryd.ntmps35
    go_wp2
    go_ret
    exact ⟨ret_bool (by simp [hne]), (by repeat (first | (with_reducible first | exact Ext.refl _ | assumption | apply Ext.alloc | apply Ext.drew | apply Ext.drewN | refine Ext.setCell ?_ ?_ _ | refine Ext.trans ?_ (by assumption)) | (show _ ≤ _; first | omega | (dsimp only; omega) | (simp; done) | (simp; omega))))⟩
set_option maxHeartbeats 1600000 in
theorem laws_sameSigT (v1 v2 v3 u1 u2 u3 : Value) (s : SigV) (w : World) (h1 : Strs w v1 s.op) (h2 : Strs w v2 s.sh) (h3 : Strs w v3 s.si) (g1 : Strs w u1 s.op) (g2 : Strs w u2 s.sh) (g3 : Strs w u3 s.si) :
    Calls Tryd.prog 38 #[.agg #[.int .i64 s.at_, v1, v2, v3], .agg #[.int .i64 s.at_, u1, u2, u3]] w fun e w' => e = .returned (.bool true) ∧ Ext w w' := by
  obtain ⟨a1, c1, rfl⟩ := h1.form
  obtain ⟨a2, c2, rfl⟩ := h2.form
  obtain ⟨a3, c3, rfl⟩ := h3.form
  obtain ⟨b1, d1, rfl⟩ := g1.form
  obtain ⟨b2, d2, rfl⟩ := g2.form
  obtain ⟨b3, d3, rfl⟩ := g3.form
  go_enter Tryd.func38, Tryd.ntmps38
  go_wp2_with fail
  have P : Bx ((w.alloc (Obj.cells #[.int .i64 s.at_, .slice a1 s.op.length c1, .slice a2 s.sh.length c2, .slice a3 s.si.length c3] 28)).alloc (Obj.cells #[.int .i64 s.at_, .slice b1 s.op.length d1, .slice b2 s.sh.length d2, .slice b3 s.si.length d3] 28)) w.heap.size [.int .i64 s.at_, .slice a1 s.op.length c1, .slice a2 s.sh.length c2, .slice a3 s.si.length c3] := (Bx.new w _ _).ext ((Ext.refl _).alloc _)
  have Q : Bx ((w.alloc (Obj.cells #[.int .i64 s.at_, .slice a1 s.op.length c1, .slice a2 s.sh.length c2, .slice a3 s.si.length c3] 28)).alloc (Obj.cells #[.int .i64 s.at_, .slice b1 s.op.length d1, .slice b2 s.sh.length d2, .slice b3 s.si.length d3] 28)) (w.heap.size + 1) [.int .i64 s.at_, .slice b1 s.op.length d1, .slice b2 s.sh.length d2, .slice b3 s.si.length d3] := by
    have e := Bx.new (w.alloc (Obj.cells #[.int .i64 s.at_, .slice a1 s.op.length c1, .slice a2 s.sh.length c2, .slice a3 s.si.length c3] 28)) #[.int .i64 s.at_, .slice b1 s.op.length d1, .slice b2 s.sh.length d2, .slice b3 s.si.length d3] 28
    rw [World.size_alloc] at e
    exact e
  have x0 : Ext w ((w.alloc (Obj.cells #[.int .i64 s.at_, .slice a1 s.op.length c1, .slice a2 s.sh.length c2, .slice a3 s.si.length c3] 28)).alloc (Obj.cells #[.int .i64 s.at_, .slice b1 s.op.length d1, .slice b2 s.sh.length d2, .slice b3 s.si.length d3] 28)) := ((Ext.refl w).alloc _).alloc _
  generalize ((w.alloc (Obj.cells #[.int .i64 s.at_, .slice a1 s.op.length c1, .slice a2 s.sh.length c2, .slice a3 s.si.length c3] 28)).alloc (Obj.cells #[.int .i64 s.at_, .slice b1 s.op.length d1, .slice b2 s.sh.length d2, .slice b3 s.si.length d3] 28)) = W0 at *
  refine (laws_sameTexts _ _ s.op s.op _ (h1.ext (by repeat (first | (with_reducible first | exact Ext.refl _ | assumption | apply Ext.alloc | apply Ext.drew | apply Ext.drewN | refine Ext.setCell ?_ ?_ _ | refine Ext.trans ?_ (by assumption)) | (show _ ≤ _; first | omega | (dsimp only; omega) | (simp; done) | (simp; omega))))) (g1.ext (by repeat (first | (with_reducible first | exact Ext.refl _ | assumption | apply Ext.alloc | apply Ext.drew | apply Ext.drewN | refine Ext.setCell ?_ ?_ _ | refine Ext.trans ?_ (by assumption)) | (show _ ≤ _; first | omega | (dsimp only; omega) | (simp; done) | (simp; omega)))))).mono ?_
  rw [show decide (s.op = s.op) = true by simp]
  rintro e w1 ⟨rfl, x1⟩
  have y1 : Ext W0 w1 := (by repeat (first | (with_reducible first | exact Ext.refl _ | assumption | apply Ext.alloc | apply Ext.drew | apply Ext.drewN | refine Ext.setCell ?_ ?_ _ | refine Ext.trans ?_ (by assumption)) | (show _ ≤ _; first | omega | (dsimp only; omega) | (simp; done) | (simp; omega))))
  replace P := P.ext y1
  replace Q := Q.ext y1
  have p0c := P.2.1 0 _ rfl
  have p1c := P.2.1 1 _ rfl
  have p2c := P.2.1 2 _ rfl
  have p3c := P.2.1 3 _ rfl
  have q0c := Q.2.1 0 _ rfl
  have q1c := Q.2.1 1 _ rfl
  have q2c := Q.2.1 2 _ rfl
  have q3c := Q.2.1 3 _ rfl
  go_wp2_with fail
  refine (laws_sameTexts _ _ s.sh s.sh _ (h2.ext (by repeat (first | (with_reducible first | exact Ext.refl _ | assumption | apply Ext.alloc | apply Ext.drew | apply Ext.drewN | refine Ext.setCell ?_ ?_ _ | refine Ext.trans ?_ (by assumption)) | (show _ ≤ _; first | omega | (dsimp only; omega) | (simp; done) | (simp; omega))))) (g2.ext (by repeat (first | (with_reducible first | exact Ext.refl _ | assumption | apply Ext.alloc | apply Ext.drew | apply Ext.drewN | refine Ext.setCell ?_ ?_ _ | refine Ext.trans ?_ (by assumption)) | (show _ ≤ _; first | omega | (dsimp only; omega) | (simp; done) | (simp; omega)))))).mono ?_
  rw [show decide (s.sh = s.sh) = true by simp]
  rintro e w2 ⟨rfl, x2⟩
  have y2 : Ext w1 w2 := (by repeat (first | (with_reducible first | exact Ext.refl _ | assumption | apply Ext.alloc | apply Ext.drew | apply Ext.drewN | refine Ext.setCell ?_ ?_ _ | refine Ext.trans ?_ (by assumption)) | (show _ ≤ _; first | omega | (dsimp only; omega) | (simp; done) | (simp; omega))))
  replace P := P.ext y2
  replace Q := Q.ext y2
  have p0c := P.2.1 0 _ rfl
  have p1c := P.2.1 1 _ rfl
  have p2c := P.2.1 2 _ rfl
  have p3c := P.2.1 3 _ rfl
  have q0c := Q.2.1 0 _ rfl
  have q1c := Q.2.1 1 _ rfl
  have q2c := Q.2.1 2 _ rfl
  have q3c := Q.2.1 3 _ rfl
  go_wp2_with fail
  refine (laws_sameTexts _ _ s.si s.si _ (h3.ext (by repeat (first | (with_reducible first | exact Ext.refl _ | assumption | apply Ext.alloc | apply Ext.drew | apply Ext.drewN | refine Ext.setCell ?_ ?_ _ | refine Ext.trans ?_ (by assumption)) | (show _ ≤ _; first | omega | (dsimp only; omega) | (simp; done) | (simp; omega))))) (g3.ext (by repeat (first | (with_reducible first | exact Ext.refl _ | assumption | apply Ext.alloc | apply Ext.drew | apply Ext.drewN | refine Ext.setCell ?_ ?_ _ | refine Ext.trans ?_ (by assumption)) | (show _ ≤ _; first | omega | (dsimp only; omega) | (simp; done) | (simp; omega)))))).mono ?_
  rw [show decide (s.si = s.si) = true by simp]
  rintro e w3 ⟨rfl, x3⟩
  have y3 : Ext w2 w3 := (by repeat (first | (with_reducible first | exact Ext.refl _ | assumption | apply Ext.alloc | apply Ext.drew | apply Ext.drewN | refine Ext.setCell ?_ ?_ _ | refine Ext.trans ?_ (by assumption)) | (show _ ≤ _; first | omega | (dsimp only; omega) | (simp; done) | (simp; omega))))
  replace P := P.ext y3
  replace Q := Q.ext y3
  have p0c := P.2.1 0 _ rfl
  have p1c := P.2.1 1 _ rfl
  have p2c := P.2.1 2 _ rfl
  have p3c := P.2.1 3 _ rfl
  have q0c := Q.2.1 0 _ rfl
  have q1c := Q.2.1 1 _ rfl
  have q2c := Q.2.1 2 _ rfl
  have q3c := Q.2.1 3 _ rfl
  go_wp2
  go_ret
  exact ⟨rfl, (by repeat (first | (with_reducible first | exact Ext.refl _ | assumption | apply Ext.alloc | apply Ext.drew | apply Ext.drewN | refine Ext.setCell ?_ ?_ _ | refine Ext.trans ?_ (by assumption)) | (show _ ≤ _; first | omega | (dsimp only; omega) | (simp; done) | (simp; omega))))⟩

end Go.Proofs.YtliebkhfddmhjaaDoor
namespace Go.Proofs.YtliebkhfddmhjaaDoor
open Go.RowKit

theorem xor_ne : ∀ x : Fin 256, ∀ m : Fin 256, m.val ≠ 0 → 0 ≤ bits .xor .u8 (x.val : Int) (m.val : Int) ∧ bits .xor .u8 (x.val : Int) (m.val : Int) ≤ 255 ∧ bits .xor .u8 (x.val : Int) (m.val : Int) ≠ x.val := by
  intro x m hm
  show 0 ≤ IntKind.u8.wrap ((BitVec.ofInt 8 x.val ^^^ BitVec.ofInt 8 m.val).toNat : Int) ∧ IntKind.u8.wrap ((BitVec.ofInt 8 x.val ^^^ BitVec.ofInt 8 m.val).toNat : Int) ≤ 255 ∧ IntKind.u8.wrap ((BitVec.ofInt 8 x.val ^^^ BitVec.ofInt 8 m.val).toNat : Int) ≠ x.val
  have hlt : (BitVec.ofInt 8 x.val ^^^ BitVec.ofInt 8 m.val).toNat < 256 := BitVec.isLt _
  have hw : ∀ k : Nat, k < 256 → IntKind.u8.wrap (k : Int) = k := by
    intro k hk
    have : ∀ k : Fin 256, IntKind.u8.wrap (k.val : Int) = k.val := by decide +kernel
    exact this ⟨k, hk⟩
  rw [hw _ hlt]
  refine ⟨by omega, by omega, fun e => hm ?_⟩
  have e2 : (BitVec.ofInt 8 x.val ^^^ BitVec.ofInt 8 m.val).toNat = x.val := by omega
  have ex : (BitVec.ofInt 8 x.val).toNat = x.val := by
    have := x.isLt
    simp
  have em : (BitVec.ofInt 8 m.val).toNat = m.val := by
    have := m.isLt
    simp
  have e3 : BitVec.ofInt 8 x.val ^^^ BitVec.ofInt 8 m.val = BitVec.ofInt 8 x.val := BitVec.eq_of_toNat_eq (e2.trans ex.symm)
  have e4 : BitVec.ofInt 8 m.val = 0 := by
    have := congrArg (fun z => BitVec.ofInt 8 x.val ^^^ z) e3
    simpa [← BitVec.xor_assoc] using this
  rw [e4] at em
  simpa using em.symm
theorem OwnM.frozenAt {w : World} {base n g cap : Nat} {xs : List Value} (h : OwnM w base (.slice (some ⟨g, 0, none⟩) n cap) n xs) (j : Nat) (hj : j < n) : w.frozen? ⟨g, j, none⟩ = false := by
  obtain ⟨hl, g', cap', cur, lo, hi, hv, hb, hg, hm, hn, hc, hs, ht⟩ := h
  injection hv with h1 h2 h3
  injection h1 with h1
  injection h1 with h1
  subst h1 h3
  rw [World.frozen?]
  dsimp only
  rw [hg]
  rcases hm with rfl | hm
  · simp
  · simp; omega
theorem strOfNums_ne {ys : List Int} {s : ByteArray} {i : Nat} {y : Int} (hi : i < s.size) (hy : ys[i]? = some y) (h0 : 0 ≤ y ∧ y ≤ 255) (hne : y ≠ (s[i].toNat : Nat)) : strOfNums ys ≠ s := by
  intro e
  have h1 : (strOfNums ys).data.toList[i]? = s.data.toList[i]? := by rw [e]
  have h2 : (strOfNums ys).data.toList[i]? = some (UInt8.ofNat y.toNat) := by simp [strOfNums, hy]
  have h3 : s.data.toList[i]? = some s[i] := by
    have hl : i < s.data.toList.length := hi
    rw [List.getElem?_eq_getElem hl]
    rfl
  rw [h2, h3] at h1
  have h4 := congrArg UInt8.toNat (Option.some.inj h1)
  simp at h4
  omega
set_option maxRecDepth 100000 in
set_option maxHeartbeats 800000 in
theorem laws_turned (s : ByteArray) (g c : Nat) (y0 y1 : Int) (w : World) (hs : s.size ≤ 1073741824) (hg : g < w.heap.size) (h0 : w.cell? ⟨g, 0, none⟩ = some (.int .i64 y0)) (h1 : w.cell? ⟨g, 1, none⟩ = some (.int .i64 y1)) (b0 : 0 ≤ y0 ∧ y0 < 10000) (b1 : 0 ≤ y1 ∧ y1 < 10000) :
    Calls Tryd.prog 30 #[.string s, .slice (some ⟨g, 0, none⟩) 12 c] w fun e w' => ∃ t : ByteArray, e = .returned (.string t) ∧ t ≠ s ∧ (s.size ≠ 0 → t.size = s.size) ∧ t.size ≤ s.size + 1 ∧ Ext w w' := by
  have hcv := fun W : World => Lib.run_convert_string_bytes (P := Tryd.prog) W 9 44 5 s Tryd.underlying9 Tryd.underlying44 Tryd.underlying5
  have hm : s.size ≤ maxLen := by unfold maxLen; omega
  have o1 := bytes_own w s hm
  have x1 := bytes_ext w s
  rw [strCells_nums8] at o1
  have d0 := (x1.cell g 0 hg).trans h0
  have d1 := (x1.cell g 1 hg).trans h1
  by_cases hz : s.size = 0
  · have hs0 : s = ⟨#[]⟩ := by
      cases s with | mk a => rw [show a = #[] from Array.eq_empty_of_size_eq_zero hz]
    have HZ := Lib.hid hs0
    clear hs0
    have hzi : ((s.size : Nat) : Int) = 0 := by omega
    go_enter Tryd.func30, Tryd.ntmps30
    go_wp2
    go_ret
    refine ⟨_, rfl, ?_, fun e => absurd hz e, ?_, x1⟩
    · rw [HZ.out]; decide
    · rw [hz]; decide
  · have hzi : ((s.size : Nat) : Int) ≠ 0 := by omega
    have hp : (0 : Int) < s.size := by omega
    obtain ⟨i, hi⟩ : ∃ i : Nat, y0 % (s.size : Int) = i := ⟨(y0 % (s.size : Int)).toNat, by have := Int.emod_nonneg y0 hzi; omega⟩
    have hil : i < s.size := by have := Int.emod_lt_of_pos y0 hp; omega
    have hi0 : (0 : Int) ≤ i := by omega
    have hi1 : (i : Int) < s.size := by omega
    have hnl := nums8_length s
    have hn : (nums8 s)[i]? = some (s[i].toNat : Int) := by
      rw [nums8, List.getElem?_map, List.getElem?_eq_getElem (show i < s.data.toList.length from hil)]
      rfl
    have d2 := o1.cells i _ (by rw [List.getElem?_map, hn]; rfl)
    have d3 := o1.frozenAt i hil
    have hx := xor_ne ⟨s[i].toNat, s[i].toNat_lt⟩ ⟨(1 + y1 % 255).toNat, by omega⟩ (by dsimp only; omega)
    dsimp only at hx
    rw [show (((1 + y1 % 255).toNat : Nat) : Int) = 1 + y1 % 255 by omega] at hx
    generalize hX : bits .xor .u8 ((s[i].toNat : Nat) : Int) (1 + y1 % 255) = X at *
    have HX := Lib.hid hX
    have hlen : ((nums8 s).set i X).length = s.size := by rw [List.length_set, hnl]
    have hyi : ((nums8 s).set i X)[i]? = some X := by rw [List.getElem?_set_self (by omega)]
    have HNE := Lib.hid (strOfNums_ne hil hyi ⟨hx.1, hx.2.1⟩ hx.2.2)
    have hsz : (strOfNums ((nums8 s).set i X)).size = s.size := by rw [strOfNums_size, hlen]
    generalize hcap : grownCap w s.size 0 5 = cap at *
    generalize hW : Lib.bytesWorld w 5 s = W1 at *
    have hcv2 : (convert 44 9 (.slice (some ⟨w.heap.size, 0, none⟩) s.size cap)).run Tryd.prog (W1.setCell ⟨w.heap.size, i, none⟩ (.int .u8 X)).drew = .ok (.string (strOfNums ((nums8 s).set i X))) (W1.setCell ⟨w.heap.size, i, none⟩ (.int .u8 X)).drew := by
      refine run_convert_bytes_arg _ _ _ Tryd.underlying44 Tryd.underlying5 _ 0 _ _ _ hlen (fun j hj => ?_) _ Tryd.underlying9
      rw [Nat.zero_add]
      by_cases hji : j = i
      · subst hji
        rw [List.getD_eq_getElem?_getD, hyi]
        exact World.cell?_setCell_same _ ⟨w.heap.size, j, none⟩ _ d2
      · refine (cell_set_off (w := W1) (b := w.heap.size) (o := i) (o' := j) (u := .int .u8 X) (fun e => hji e.symm)).trans ?_
        rw [List.getD_eq_getElem?_getD, List.getElem?_set_ne (fun e => hji e.symm), List.getElem?_eq_getElem (show j < (nums8 s).length by omega)]
        exact o1.cells j _ (by rw [List.getElem?_map, List.getElem?_eq_getElem (show j < (nums8 s).length by omega)]; rfl)
    have HC2 := Lib.hid hcv2
    have hxw : Ext w (W1.setCell ⟨w.heap.size, i, none⟩ (.int .u8 X)).drew := (x1.setCell (p := ⟨w.heap.size, i, none⟩) (Nat.le_refl _) _).drew
    have HXW := Lib.hid hxw
    have hcv3 := hcv w
    clear hcv2 hyi hlen hn hnl o1 hxw hx hcv h0 h1
    go_enter Tryd.func30, Tryd.ntmps30
    go_wp2
    rw [hi]
    go_still_tail 14, (by kernel_rfl)
    change wpList _ _ _ _ _ W1.drew
    have hcv2 := HC2.out
    go_wp2
    go_ret
    exact ⟨_, rfl, HNE.out, fun _ => hsz, by omega, HXW.out⟩
end Go.Proofs.YtliebkhfddmhjaaDoor
