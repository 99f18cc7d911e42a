/- Sig3, Sig4 in one text. -/
import Derived.Test.YtliebkhfddmhjaaDoorSig2
import Derived.Test.YtliebkhfddmhjaaDoorStrA
import Derived.Deep.AppendLies
import Derived.Test.YtliebkhfddmhjaaDoorHeadA
import Derived.Test.YtliebkhfddmhjaaDoorCore
import Derived.Deep.RegionHeld3
namespace Go.Proofs.YtliebkhfddmhjaaDoor
open Go.RowKit

theorem joinT_append (xs ys : List ByteArray) : joinT (xs ++ ys) = joinT xs ++ joinT ys := by
  rw [← joinOn_all (joinT xs) ys]
  unfold joinT joinOn
  rw [List.take_length, List.take_length, List.take_length, List.foldl_append]
/-- all of a signature's strings -/
def sigL (s : SigV) : List ByteArray := s.op ++ s.sh ++ s.si
theorem sigT_join (s : SigV) : joinOn (strOfNums [s.at_]) (sigL s) (sigL s).length = sigT s := by
  rw [joinOn_all, sigL, joinT_append, joinT_append, sigT, ByteArray.append_assoc, ByteArray.append_assoc, ByteArray.append_assoc]
theorem sigL_small {s : SigV} (h1 : StrSmall s.op) (h2 : StrSmall s.sh) (h3 : StrSmall s.si) (l1 : s.op.length = 8) (l2 : s.sh.length = 8) (l3 : s.si.length = 4) : StrSmall (sigL s) := by
  refine ⟨by simp [sigL]; omega, fun x hx => ?_⟩
  rw [sigL, List.mem_append, List.mem_append] at hx
  rcases hx with (hx | hx) | hx
  · exact h1.2 x hx
  · exact h2.2 x hx
  · exact h3.2 x hx
theorem str_news {w : World} {a : Option Addr} {n c : Nat} {ys : List ByteArray} (h : Strs w (.slice a n c) ys) (hn : 0 < ys.length) : ∃ b o, a = some ⟨b, o, none⟩ ∧ ∀ (W : World), Ext w W → ∀ j u, (ys.map Value.string)[j]? = some u → W.cell? ((⟨b, o, none⟩ : Addr).add j) = some u := by
  obtain ⟨-, a1, c1, hv, -, -, g⟩ := h
  injection hv with e1 e2 e3
  subst e1
  rcases g with g | ⟨b, o, rfl, hb, g⟩
  · omega
  · refine ⟨b, o, rfl, fun W hx j u hu => ?_⟩
    have e : (⟨b, o, none⟩ : Addr).add j = ⟨b, o + j, none⟩ := by simp [Addr.add]
    rw [e, hx.cell b _ hb]
    exact g j u hu
theorem cell_dn {w : World} {b o : Nat} {v : Value} {t : TypeId} {xs : Array Value} (h : w.cell? ⟨b, o, none⟩ = some v) (hb : b < w.heap.size) : (w.drew.alloc (.cells xs t)).cell? ⟨b, o, none⟩ = some v :=
  (World.cell?_alloc_past (w := w.drew) _ b o hb).trans h
theorem strs_one (ys : List ByteArray) : ∀ u ∈ ys.map Value.string, u.oneCell' = true := by
  intro u hu
  rw [List.mem_map] at hu
  obtain ⟨t, -, rfl⟩ := hu
  rfl

set_option maxRecDepth 100000 in
set_option maxHeartbeats 3200000 in
theorem spec_SigText (v1 v2 v3 : Value) (s : SigV) (w : World) (h1 : Strs w v1 s.op) (h2 : Strs w v2 s.sh) (h3 : Strs w v3 s.si) (hs : SigFit s) :
    Calls Tryd.prog 115 #[.agg #[.int .i64 s.at_, v1, v2, v3]] w fun e w' => e = .returned (.tuple #[.string (sigTx s), .bool (sigWell s)]) ∧ Ext w w' := by
  obtain ⟨a1, c1, rfl⟩ := h1.form
  obtain ⟨a2, c2, rfl⟩ := h2.form
  obtain ⟨a3, c3, rfl⟩ := h3.form
  by_cases hw : sigWell s = true
  · obtain ⟨⟨g1, g2⟩, ⟨n1, m1⟩, ⟨n2, m2⟩, n3, m3⟩ := sigWell_true hw
    obtain ⟨i0, hi, hz0, hz1, hz2⟩ := info_parts infoString
    have R := Lib.hid (show sigTx s = sigT s by simp [sigTx, hw])
    have HW := Lib.hid hw
    obtain ⟨ba, oa, rfl, ca⟩ := str_news h1 (by omega)
    obtain ⟨bb, ob, rfl, cb⟩ := str_news h2 (by omega)
    obtain ⟨bc, oc, rfl, cc⟩ := str_news h3 (by omega)
    have CA := Lib.hid ca
    have CB := Lib.hid cb
    have CC := Lib.hid cc
    have HSM := Lib.hid (sigL_small m1 m2 m3 n1 n2 n3)
    have HN := Lib.hid (show 0 + s.op.length + s.sh.length + s.si.length = (sigL s).length by simp [sigL]; omega)
    have HN2 := Lib.hid (show s.op.length + s.sh.length + s.si.length = (sigL s).length by simp [sigL]; omega)
    have HJ := Lib.hid (sigT_join s)
    have HMA := Lib.hid (show [] ++ s.op.map Value.string ++ s.sh.map Value.string ++ s.si.map Value.string = (sigL s).map Value.string by simp [sigL])
    have k1 : s.op.length ≤ 8 := by omega
    have k2 : s.sh.length ≤ 8 := by omega
    have k3 : s.si.length ≤ 4 := by omega
    have j1 : 0 < s.op.length := by omega
    have j2 : 0 < s.sh.length := by omega
    have j3 : 0 < s.si.length := by omega
    have hcv := conv_one s.at_
    have e1 : s.at_ % 256 = s.at_ := by omega
    have ewr : IntKind.u8.wrap s.at_ = s.at_ := by simp [IntKind.wrap, IntKind.signed, IntKind.bits]; omega
    clear hw n1 n2 n3 ca cb cc m1 m2 m3
    go_enter Tryd.func115, Tryd.ntmps115
    go_wp2_with (go_at_call 108; refine (spec_l05Form _ _ _ s _ (h1.ext (by repeat (first | (with_reducible first | exact Ext.refl _ | assumption | apply Ext.alloc | apply Ext.drew | apply Ext.drewN | refine Ext.setCell ?_ ?_ _ | refine Ext.trans ?_ (by assumption)) | (show _ ≤ _; first | omega | (dsimp only; omega) | (simp; done) | (simp; omega))))) (h2.ext (by repeat (first | (with_reducible first | exact Ext.refl _ | assumption | apply Ext.alloc | apply Ext.drew | apply Ext.drewN | refine Ext.setCell ?_ ?_ _ | refine Ext.trans ?_ (by assumption)) | (show _ ≤ _; first | omega | (dsimp only; omega) | (simp; done) | (simp; omega))))) (h3.ext (by repeat (first | (with_reducible first | exact Ext.refl _ | assumption | apply Ext.alloc | apply Ext.drew | apply Ext.drewN | refine Ext.setCell ?_ ?_ _ | refine Ext.trans ?_ (by assumption)) | (show _ ≤ _; first | omega | (dsimp only; omega) | (simp; done) | (simp; omega))))) hs).mono ?_; rw [HW.out]; rintro e w1 ⟨rfl, x1⟩; have E_x1 := Old.of x1; (repeat (first | (replace E_x1 := Old.undrew E_x1) | (replace E_x1 := Old.undrewN E_x1))); have c_E_x1 := Old.cell E_x1; have f_E_x1 := Old.frozen E_x1; have z_E_x1 := Old.size E_x1; try simp only [World.size_alloc] at c_E_x1 f_E_x1 z_E_x1; try have l_E_x1 := Nat.lt_of_succ_le z_E_x1; try have m_E_x1 := Nat.lt_of_succ_lt l_E_x1; try have n_E_x1 := Nat.lt_of_succ_lt m_E_x1)
    have p0 := c_E_x1 (w.heap.size) 0 (by omega); simp [go_sem] at p0; have p1 := c_E_x1 (w.heap.size) 1 (by omega); simp [go_sem] at p1; have p2 := c_E_x1 (w.heap.size) 2 (by omega); simp [go_sem] at p2; have p3 := c_E_x1 (w.heap.size) 3 (by omega); simp [go_sem] at p3
    have lw1 := l_E_x1
    have xw1 : Ext w w1 := (by repeat (first | (with_reducible first | exact Ext.refl _ | assumption | apply Ext.alloc | apply Ext.drew | apply Ext.drewN | refine Ext.setCell ?_ ?_ _ | refine Ext.trans ?_ (by assumption)) | (show _ ≤ _; first | omega | (dsimp only; omega) | (simp; done) | (simp; omega))))
    clear c_E_x1 f_E_x1
    generalize hW : w1.alloc (Obj.cells #[.int .u8 s.at_] 5) = W0
    have y0 : Ext w1 W0 := by rw [← hW]; exact (Ext.refl w1).alloc _
    clear hW
    have lW0 : w.heap.size < W0.heap.size := Nat.lt_of_lt_of_le lw1 y0.size
    have q1 := (y0.cell _ _ lw1).trans p1
    have q2 := (y0.cell _ _ lw1).trans p2
    have q3 := (y0.cell _ _ lw1).trans p3
    have hb0 : w1.heap.size ≤ W0.drew.heap.size := y0.size
    have hb1 : w1.heap.size ≤ (W0.drew.alloc (Obj.cells #[] 9)).heap.size := by rw [World.size_alloc]; omega
    have yd : Ext w1 (W0.drew.alloc (Obj.cells #[] 9)) := (y0.drew).alloc _
    refine wp_region_held_drew (S := (fun W => W.cell? ⟨w.heap.size, 1, none⟩ = some (.slice (some ⟨ba, oa, none⟩) s.op.length c1) ∧ W.cell? ⟨w.heap.size, 2, none⟩ = some (.slice (some ⟨bb, ob, none⟩) s.sh.length c2) ∧ W.cell? ⟨w.heap.size, 3, none⟩ = some (.slice (some ⟨bc, oc, none⟩) s.si.length c3))) (by kernel_rfl) (by exact ⟨q1, q2, q3⟩) (fun hHeld => ?_)
    (refine wpAnyH_take (i := 1) (v := ?_) rfl (by kernel_rfl) (by kernel_rfl) (by kernel_rfl) (fun _ _ _ h => h) (Or.inl ⟨by rfl, ?_⟩) (by assumption) ?_; rotate_left; focus (intro w hSw; (try dsimp only at hSw); (try simp only [zk1, zk2, zk3]); go_simp; try with_reducible rfl)); (try simp only [zk1, zk2, zk3]); (try simp only [Act.put, zk4, zk5, zk6])
    (refine wpAnyH_take (i := 2) (v := ?_) rfl (by kernel_rfl) (by kernel_rfl) (by kernel_rfl) (fun _ _ _ h => h) (Or.inl ⟨by rfl, ?_⟩) (by assumption) ?_; rotate_left; focus (intro w hSw; (try dsimp only at hSw); (try simp only [zk1, zk2, zk3]); go_simp; try with_reducible rfl)); (try simp only [zk1, zk2, zk3]); (try simp only [Act.put, zk4, zk5, zk6])
    (refine wpAnyH_take (i := 4) (v := ?_) rfl (by kernel_rfl) (by kernel_rfl) (by kernel_rfl) (fun _ _ _ h => h) (Or.inl ⟨by rfl, ?_⟩) (by assumption) ?_; rotate_left; focus (intro w hSw; (try dsimp only at hSw); (try simp only [zk1, zk2, zk3]); go_simp; try with_reducible rfl)); (try simp only [zk1, zk2, zk3]); (try simp only [Act.put, zk4, zk5, zk6])
    (refine wpAnyH_take (i := 5) (v := ?_) rfl (by kernel_rfl) (by kernel_rfl) (by kernel_rfl) (fun _ _ _ h => h) (Or.inl ⟨by rfl, ?_⟩) (by assumption) ?_; rotate_left; focus (intro w hSw; (try dsimp only at hSw); (try simp only [zk1, zk2, zk3]); go_simp; try with_reducible rfl)); (try simp only [zk1, zk2, zk3]); (try simp only [Act.put, zk4, zk5, zk6])
    (refine wpAnyH_take (i := 7) (v := ?_) rfl (by kernel_rfl) (by kernel_rfl) (by kernel_rfl) (fun _ _ _ h => h) (Or.inl ⟨by rfl, ?_⟩) (by assumption) ?_; rotate_left; focus (intro w hSw; (try dsimp only at hSw); (try simp only [zk1, zk2, zk3]); go_simp; try with_reducible rfl)); (try simp only [zk1, zk2, zk3]); (try simp only [Act.put, zk4, zk5, zk6])
    (refine wpAnyH_take (i := 8) (v := ?_) rfl (by kernel_rfl) (by kernel_rfl) (by kernel_rfl) (fun _ _ _ h => h) (Or.inl ⟨by rfl, ?_⟩) (by assumption) ?_; rotate_left; focus (intro w hSw; (try dsimp only at hSw); (try simp only [zk1, zk2, zk3]); go_simp; try with_reducible rfl)); (try simp only [zk1, zk2, zk3]); (try simp only [Act.put, zk4, zk5, zk6])
    (refine wpAnyH_ready (rs := [0]) (by kernel_rfl) (by simp) ?_; refine AllReadyH.cons rfl (fun K hK => ?_) AllReadyH.nil; (try simp only [zk1, zk2]))
    go_simp
    (try dsimp only)
    refine hK.out _ _ (by exact ⟨cell_dn q1 lW0, cell_dn q2 lW0, cell_dn q3 lW0⟩) (fun hHeld => ?_)
    clear hK K
    (refine wpAnyH_ready (rs := [3]) (by kernel_rfl) (by simp) ?_; refine AllReadyH.cons rfl (fun K hK => ?_) AllReadyH.nil)
    refine step_append_lies _ rfl (.tmp 15) (.tmp 17) 22 (by rfl) w1.heap.size 9 i0 (.string ⟨#[]⟩) 1 16 Tryd.underlying22 hi hz0 hz1 hz2 rfl (by decide) _ _ _ (by rfl) (World.ownsRow_lit (base := w1.heap.size) (e := 9) (size := 1) W0.drew #[] 0 hb0 (Nat.zero_le _) rfl) ⟨ba, oa, none⟩ s.op.length c1 (s.op.map Value.string) (by rfl) (by simp) (CA.out _ (xw1.trans yd)) (strs_one _) j1 (by unfold maxLen; omega) (by omega) (by exact hb1) _ rfl ?_
    intro gx1 cap1 w2 ownw2 groww2 _ _
    have xw2 : Ext w1 w2 := own_ext_of (yd) (World.ownsRow_lit (base := w1.heap.size) (e := 9) (size := 1) W0.drew #[] 0 hb0 (Nat.zero_le _) rfl) groww2 (Nat.le_refl _)
    (try dsimp only)
    refine hK.out _ _ (by exact ⟨(xw2.cell _ _ lw1).trans p1, (xw2.cell _ _ lw1).trans p2, (xw2.cell _ _ lw1).trans p3⟩) (fun hHeld => ?_)
    clear hK K
    (refine wpAnyH_ready (rs := [6]) (by kernel_rfl) (by simp) ?_; refine AllReadyH.cons rfl (fun K hK => ?_) AllReadyH.nil)
    refine step_append_lies _ rfl (.tmp 18) (.tmp 20) 22 (by rfl) w1.heap.size 9 i0 (.string ⟨#[]⟩) 1 16 Tryd.underlying22 hi hz0 hz1 hz2 rfl (by decide) _ _ _ (by rfl) ownw2 ⟨bb, ob, none⟩ s.sh.length c2 (s.sh.map Value.string) (by rfl) (by simp) (CB.out _ (xw1.trans xw2)) (strs_one _) j2 (by unfold maxLen; omega) (by omega) (by exact xw2.size) _ rfl ?_
    intro gx2 cap2 w3 ownw3 groww3 _ _
    have xw3 : Ext w1 w3 := own_ext_of (xw2) ownw2 groww3 (Nat.le_refl _)
    (try dsimp only)
    refine hK.out _ _ (by exact ⟨(xw3.cell _ _ lw1).trans p1, (xw3.cell _ _ lw1).trans p2, (xw3.cell _ _ lw1).trans p3⟩) (fun hHeld => ?_)
    clear hK K
    (refine wpAnyH_ready (rs := [9]) (by kernel_rfl) (by simp) ?_; refine AllReadyH.cons rfl (fun K hK => ?_) AllReadyH.nil)
    refine step_append_lies _ rfl (.tmp 21) (.tmp 23) 22 (by rfl) w1.heap.size 9 i0 (.string ⟨#[]⟩) 1 16 Tryd.underlying22 hi hz0 hz1 hz2 rfl (by decide) _ _ _ (by rfl) ownw3 ⟨bc, oc, none⟩ s.si.length c3 (s.si.map Value.string) (by rfl) (by simp) (CC.out _ (xw1.trans xw3)) (strs_one _) j3 (by unfold maxLen; omega) (by omega) (by exact xw3.size) _ rfl ?_
    intro gx3 cap3 w4 ownw4 groww4 _ _
    have xw4 : Ext w1 w4 := own_ext_of (xw3) ownw3 groww4 (Nat.le_refl _)
    (try dsimp only)
    refine hK.out _ _ (by exact ⟨(xw4.cell _ _ lw1).trans p1, (xw4.cell _ _ lw1).trans p2, (xw4.cell _ _ lw1).trans p3⟩) (fun hHeld => ?_)
    clear hK K
    (refine wpAnyH_take (i := 10) (v := ?_) rfl (by kernel_rfl) (by kernel_rfl) (by kernel_rfl) (fun _ _ _ h => h) (Or.inl ⟨by rfl, ?_⟩) (by assumption) ?_; rotate_left; focus (intro w hSw; (try dsimp only at hSw); (try simp only [zk1, zk2, zk3]); go_simp; try with_reducible rfl)); (try simp only [zk1, zk2, zk3]); (try simp only [Act.put, zk4, zk5, zk6])
    refine wpAnyH_done (by kernel_rfl) ?_ _
    rw [HN.out, HMA.out] at ownw4
    (try rw [HN.out])
    (try rw [HN2.out])
    have hL20 : (sigL s).length ≤ 20 := by have := HN.out; omega
    have xw4' : Ext w w4 := xw1.trans xw4
    have HOw := Lib.hid ownw4
    clear ownw2 ownw3 ownw4
    go_wp2
    go_loopw [4, 6] (fun t i wr => ∃ k : Nat, k ≤ (sigL s).length ∧ i = .int .i64 k ∧ t = .string (joinOn (strOfNums [s.at_]) (sigL s) k) ∧ Ext w4 wr) (fun _ i _ => (sigL s).length - (intOf i).toNat)
    case atStart => exact ⟨0, Nat.zero_le _, rfl, by rw [joinOn_zero], Ext.refl _⟩
    case round =>
      obtain ⟨k, hk, rfl, rfl, hx⟩ := hrel
      by_cases hlt : k < (sigL s).length
      · have lg : gx3 < w4.heap.size := (World.ownsRow.lt HOw.out gx3 rfl).2
        have f1 : wr.cell? ⟨gx3, k, none⟩ = some (.string (sigL s)[k]) := by
          rw [hx.cell _ _ lg, World.ownsRow.cellAt (g := gx3) HOw.out k (by omega)]
          simp [hlt]
        have hsk := HSM.out.2 (sigL s)[k] (List.getElem_mem hlt)
        have hz := joinOn_size (strOfNums [s.at_]) HSM.out k hk
        have hz' : (joinOn (strOfNums [s.at_]) (sigL s) k).size ≤ 1 + 200 * k := by rw [strOfNums_size] at hz; exact hz
        have HU := Lib.hid (joinOn_succ (strOfNums [s.at_]) (sigL s) k hlt)
        have hi0 : (0 : Int) ≤ (k : Int) := by omega
        have hi1 : (k : Int) < ((sigL s).length : Int) := by omega
        have hno : ¬ (9223372036854775807 < (joinOn (strOfNums [s.at_]) (sigL s) k).size + (sigL s)[k].size) := by omega
        clear hz
        generalize (sigL s)[k] = y at *
        go_wp2
        go_roundw
        case rel => exact ⟨k + 1, by omega, by go_num, by rw [HU.out], (by repeat (first | (with_reducible first | exact Ext.refl _ | assumption | apply Ext.alloc | apply Ext.drew | apply Ext.drewN | refine Ext.setCell ?_ ?_ _ | refine Ext.trans ?_ (by assumption)) | (show _ ≤ _; first | omega | (dsimp only; omega) | (simp; done) | (simp; omega))))⟩
        case measure => simp [intOf]; omega
      · have hkn : k = (sigL s).length := by omega
        subst hkn
        go_wp2
        go_ret2
        exact ⟨ret_sb (by rw [R.out]; exact HJ.out) HW.out.symm, (by repeat (first | (with_reducible first | exact Ext.refl _ | assumption | apply Ext.alloc | apply Ext.drew | apply Ext.drewN | refine Ext.setCell ?_ ?_ _ | refine Ext.trans ?_ (by assumption)) | (show _ ≤ _; first | omega | (dsimp only; omega) | (simp; done) | (simp; omega))))⟩
  · have hw' : sigWell s = false := by simpa using hw
    have R := Lib.hid (show sigTx s = ⟨#[]⟩ by simp [sigTx, hw'])
    have HW := Lib.hid hw'
    clear hw hw'
    go_enter Tryd.func115, Tryd.ntmps115
    go_wp2_with (go_at_call 108; refine (spec_l05Form _ _ _ s _ (h1.ext (by repeat (first | (with_reducible first | exact Ext.refl _ | assumption | apply Ext.alloc | apply Ext.drew | apply Ext.drewN | refine Ext.setCell ?_ ?_ _ | refine Ext.trans ?_ (by assumption)) | (show _ ≤ _; first | omega | (dsimp only; omega) | (simp; done) | (simp; omega))))) (h2.ext (by repeat (first | (with_reducible first | exact Ext.refl _ | assumption | apply Ext.alloc | apply Ext.drew | apply Ext.drewN | refine Ext.setCell ?_ ?_ _ | refine Ext.trans ?_ (by assumption)) | (show _ ≤ _; first | omega | (dsimp only; omega) | (simp; done) | (simp; omega))))) (h3.ext (by repeat (first | (with_reducible first | exact Ext.refl _ | assumption | apply Ext.alloc | apply Ext.drew | apply Ext.drewN | refine Ext.setCell ?_ ?_ _ | refine Ext.trans ?_ (by assumption)) | (show _ ≤ _; first | omega | (dsimp only; omega) | (simp; done) | (simp; omega))))) hs).mono ?_; rw [HW.out]; rintro e w1 ⟨rfl, x1⟩)
    go_ret2
    exact ⟨ret_sb R.out.symm HW.out.symm, (by repeat (first | (with_reducible first | exact Ext.refl _ | assumption | apply Ext.alloc | apply Ext.drew | apply Ext.drewN | refine Ext.setCell ?_ ?_ _ | refine Ext.trans ?_ (by assumption)) | (show _ ≤ _; first | omega | (dsimp only; omega) | (simp; done) | (simp; omega))))⟩
end Go.Proofs.YtliebkhfddmhjaaDoor
namespace Go.Proofs.YtliebkhfddmhjaaDoor
open Go.RowKit

/-- sizes, one behind the other -/
def szl : Int → List Nat → Int
  | left, [] => left
  | left, a :: t => if szr left a < 0 then -1 else szl (szr left a) t
theorem szr_two (left : Int) (a : Nat) (hl : 0 ≤ left ∧ left ≤ 1048576) : szr left a = -1 ∨ ∃ z : Int, szr left a = z ∧ 0 ≤ z ∧ z ≤ 1048576 ∧ a ≤ 1048576 := by
  simp only [szr]; split
  · exact Or.inl rfl
  · exact Or.inr ⟨_, rfl, by omega, by omega, by omega⟩
theorem szl_neg {left : Int} {a : Nat} (t : List Nat) (h : szr left a = -1) : szl left (a :: t) = -1 := by rw [szl, h, if_pos (by omega)]
theorem szl_pos {left z : Int} {a : Nat} (t : List Nat) (h : szr left a = z) (hz : 0 ≤ z) : szl left (a :: t) = szl z t := by rw [szl, h, if_neg (by omega)]
theorem szl_two : ∀ (t : List Nat) (left : Int), 0 ≤ left ∧ left ≤ 1048576 → szl left t = -1 ∨ ∃ z : Int, szl left t = z ∧ 0 ≤ z ∧ z ≤ 1048576 ∧ ∀ a ∈ t, a ≤ 1048576
  | [], left, hl => Or.inr ⟨left, rfl, hl.1, hl.2, fun a ha => by cases ha⟩
  | a :: t, left, hl => by
    rcases szr_two left a hl with h | ⟨z, h, h0, h1, h2⟩
    · exact Or.inl (szl_neg t h)
    · rw [szl_pos t h h0]
      rcases szl_two t z ⟨h0, h1⟩ with k | ⟨y, k, k0, k1, k2⟩
      · exact Or.inl k
      · exact Or.inr ⟨y, k, k0, k1, fun b hb => by
          rcases List.mem_cons.1 hb with rfl | hb
          · exact h2
          · exact k2 b hb⟩
def strN (xs : List ByteArray) : Nat := xs.length + sizes xs
def sigN (s : SigV) : List Nat := [strN s.op, strN s.sh, strN s.si]

set_option maxHeartbeats 1600000 in
theorem laws_eqSigT (v1 v2 v3 u1 u2 u3 : Value) (s : SigV) (w : World) (h1 : Strs w v1 s.op) (h2 : Strs w v2 s.sh) (h3 : Strs w v3 s.si) (g1 : Strs w u1 s.op) (g2 : Strs w u2 s.sh) (g3 : Strs w u3 s.si) :
    Calls Tryd.prog 17 #[.agg #[.int .i64 s.at_, v1, v2, v3], .agg #[.int .i64 s.at_, u1, u2, u3]] w fun e w' => e = .returned (.bool true) ∧ Ext w w' := by
  obtain ⟨a1, c1, rfl⟩ := h1.form
  obtain ⟨a2, c2, rfl⟩ := h2.form
  obtain ⟨a3, c3, rfl⟩ := h3.form
  obtain ⟨b1, d1, rfl⟩ := g1.form
  obtain ⟨b2, d2, rfl⟩ := g2.form
  obtain ⟨b3, d3, rfl⟩ := g3.form
  go_enter Tryd.func17, Tryd.ntmps17
  go_wp2_with fail
  have P : Bx ((w.alloc (Obj.cells #[.int .i64 s.at_, .slice a1 s.op.length c1, .slice a2 s.sh.length c2, .slice a3 s.si.length c3] 28)).alloc (Obj.cells #[.int .i64 s.at_, .slice b1 s.op.length d1, .slice b2 s.sh.length d2, .slice b3 s.si.length d3] 28)) w.heap.size [.int .i64 s.at_, .slice a1 s.op.length c1, .slice a2 s.sh.length c2, .slice a3 s.si.length c3] := (Bx.new w _ _).ext ((Ext.refl _).alloc _)
  have Q : Bx ((w.alloc (Obj.cells #[.int .i64 s.at_, .slice a1 s.op.length c1, .slice a2 s.sh.length c2, .slice a3 s.si.length c3] 28)).alloc (Obj.cells #[.int .i64 s.at_, .slice b1 s.op.length d1, .slice b2 s.sh.length d2, .slice b3 s.si.length d3] 28)) (w.heap.size + 1) [.int .i64 s.at_, .slice b1 s.op.length d1, .slice b2 s.sh.length d2, .slice b3 s.si.length d3] := by
    have e := Bx.new (w.alloc (Obj.cells #[.int .i64 s.at_, .slice a1 s.op.length c1, .slice a2 s.sh.length c2, .slice a3 s.si.length c3] 28)) #[.int .i64 s.at_, .slice b1 s.op.length d1, .slice b2 s.sh.length d2, .slice b3 s.si.length d3] 28
    rw [World.size_alloc] at e
    exact e
  have x0 : Ext w ((w.alloc (Obj.cells #[.int .i64 s.at_, .slice a1 s.op.length c1, .slice a2 s.sh.length c2, .slice a3 s.si.length c3] 28)).alloc (Obj.cells #[.int .i64 s.at_, .slice b1 s.op.length d1, .slice b2 s.sh.length d2, .slice b3 s.si.length d3] 28)) := ((Ext.refl w).alloc _).alloc _
  generalize ((w.alloc (Obj.cells #[.int .i64 s.at_, .slice a1 s.op.length c1, .slice a2 s.sh.length c2, .slice a3 s.si.length c3] 28)).alloc (Obj.cells #[.int .i64 s.at_, .slice b1 s.op.length d1, .slice b2 s.sh.length d2, .slice b3 s.si.length d3] 28)) = W0 at *
  refine (laws_eqStringS _ _ s.op s.op _ (h1.ext (by repeat (first | (with_reducible first | exact Ext.refl _ | assumption | apply Ext.alloc | apply Ext.drew | apply Ext.drewN | refine Ext.setCell ?_ ?_ _ | refine Ext.trans ?_ (by assumption)) | (show _ ≤ _; first | omega | (dsimp only; omega) | (simp; done) | (simp; omega))))) (g1.ext (by repeat (first | (with_reducible first | exact Ext.refl _ | assumption | apply Ext.alloc | apply Ext.drew | apply Ext.drewN | refine Ext.setCell ?_ ?_ _ | refine Ext.trans ?_ (by assumption)) | (show _ ≤ _; first | omega | (dsimp only; omega) | (simp; done) | (simp; omega)))))).mono ?_
  rw [show decide (s.op = s.op) = true by simp]
  rintro e w1 ⟨rfl, x1⟩
  have y1 : Ext W0 w1 := (by repeat (first | (with_reducible first | exact Ext.refl _ | assumption | apply Ext.alloc | apply Ext.drew | apply Ext.drewN | refine Ext.setCell ?_ ?_ _ | refine Ext.trans ?_ (by assumption)) | (show _ ≤ _; first | omega | (dsimp only; omega) | (simp; done) | (simp; omega))))
  replace P := P.ext y1
  replace Q := Q.ext y1
  have p0c := P.2.1 0 _ rfl
  have p1c := P.2.1 1 _ rfl
  have p2c := P.2.1 2 _ rfl
  have p3c := P.2.1 3 _ rfl
  have q0c := Q.2.1 0 _ rfl
  have q1c := Q.2.1 1 _ rfl
  have q2c := Q.2.1 2 _ rfl
  have q3c := Q.2.1 3 _ rfl
  go_wp2_with fail
  refine (laws_eqStringS _ _ s.sh s.sh _ (h2.ext (by repeat (first | (with_reducible first | exact Ext.refl _ | assumption | apply Ext.alloc | apply Ext.drew | apply Ext.drewN | refine Ext.setCell ?_ ?_ _ | refine Ext.trans ?_ (by assumption)) | (show _ ≤ _; first | omega | (dsimp only; omega) | (simp; done) | (simp; omega))))) (g2.ext (by repeat (first | (with_reducible first | exact Ext.refl _ | assumption | apply Ext.alloc | apply Ext.drew | apply Ext.drewN | refine Ext.setCell ?_ ?_ _ | refine Ext.trans ?_ (by assumption)) | (show _ ≤ _; first | omega | (dsimp only; omega) | (simp; done) | (simp; omega)))))).mono ?_
  rw [show decide (s.sh = s.sh) = true by simp]
  rintro e w2 ⟨rfl, x2⟩
  have y2 : Ext w1 w2 := (by repeat (first | (with_reducible first | exact Ext.refl _ | assumption | apply Ext.alloc | apply Ext.drew | apply Ext.drewN | refine Ext.setCell ?_ ?_ _ | refine Ext.trans ?_ (by assumption)) | (show _ ≤ _; first | omega | (dsimp only; omega) | (simp; done) | (simp; omega))))
  replace P := P.ext y2
  replace Q := Q.ext y2
  have p0c := P.2.1 0 _ rfl
  have p1c := P.2.1 1 _ rfl
  have p2c := P.2.1 2 _ rfl
  have p3c := P.2.1 3 _ rfl
  have q0c := Q.2.1 0 _ rfl
  have q1c := Q.2.1 1 _ rfl
  have q2c := Q.2.1 2 _ rfl
  have q3c := Q.2.1 3 _ rfl
  go_wp2_with fail
  refine (laws_eqStringS _ _ s.si s.si _ (h3.ext (by repeat (first | (with_reducible first | exact Ext.refl _ | assumption | apply Ext.alloc | apply Ext.drew | apply Ext.drewN | refine Ext.setCell ?_ ?_ _ | refine Ext.trans ?_ (by assumption)) | (show _ ≤ _; first | omega | (dsimp only; omega) | (simp; done) | (simp; omega))))) (g3.ext (by repeat (first | (with_reducible first | exact Ext.refl _ | assumption | apply Ext.alloc | apply Ext.drew | apply Ext.drewN | refine Ext.setCell ?_ ?_ _ | refine Ext.trans ?_ (by assumption)) | (show _ ≤ _; first | omega | (dsimp only; omega) | (simp; done) | (simp; omega)))))).mono ?_
  rw [show decide (s.si = s.si) = true by simp]
  rintro e w3 ⟨rfl, x3⟩
  have y3 : Ext w2 w3 := (by repeat (first | (with_reducible first | exact Ext.refl _ | assumption | apply Ext.alloc | apply Ext.drew | apply Ext.drewN | refine Ext.setCell ?_ ?_ _ | refine Ext.trans ?_ (by assumption)) | (show _ ≤ _; first | omega | (dsimp only; omega) | (simp; done) | (simp; omega))))
  replace P := P.ext y3
  replace Q := Q.ext y3
  have p0c := P.2.1 0 _ rfl
  have p1c := P.2.1 1 _ rfl
  have p2c := P.2.1 2 _ rfl
  have p3c := P.2.1 3 _ rfl
  have q0c := Q.2.1 0 _ rfl
  have q1c := Q.2.1 1 _ rfl
  have q2c := Q.2.1 2 _ rfl
  have q3c := Q.2.1 3 _ rfl
  go_wp2
  go_ret
  exact ⟨rfl, (by repeat (first | (with_reducible first | exact Ext.refl _ | assumption | apply Ext.alloc | apply Ext.drew | apply Ext.drewN | refine Ext.setCell ?_ ?_ _ | refine Ext.trans ?_ (by assumption)) | (show _ ≤ _; first | omega | (dsimp only; omega) | (simp; done) | (simp; omega))))⟩

set_option maxHeartbeats 1600000 in
theorem laws_eqSealT (hh ep : Int) (r p : ByteArray) (v1 v2 v3 u1 u2 u3 : Value) (s : SigV) (w : World) (h1 : Strs w v1 s.op) (h2 : Strs w v2 s.sh) (h3 : Strs w v3 s.si) (g1 : Strs w u1 s.op) (g2 : Strs w u2 s.sh) (g3 : Strs w u3 s.si) :
    Calls Tryd.prog 24 #[.agg #[.int .i64 hh, .int .i64 ep, .string r, .string p, .int .i64 s.at_, v1, v2, v3], .agg #[.int .i64 hh, .int .i64 ep, .string r, .string p, .int .i64 s.at_, u1, u2, u3]] w fun e w' => e = .returned (.bool true) ∧ Ext w w' := by
  obtain ⟨a1, c1, rfl⟩ := h1.form
  obtain ⟨a2, c2, rfl⟩ := h2.form
  obtain ⟨a3, c3, rfl⟩ := h3.form
  obtain ⟨b1, d1, rfl⟩ := g1.form
  obtain ⟨b2, d2, rfl⟩ := g2.form
  obtain ⟨b3, d3, rfl⟩ := g3.form
  go_enter Tryd.func24, Tryd.ntmps24
  go_wp2_with fail
  have P : Bx ((w.alloc (Obj.cells #[.int .i64 hh, .int .i64 ep, .string r, .string p, .int .i64 s.at_, .slice a1 s.op.length c1, .slice a2 s.sh.length c2, .slice a3 s.si.length c3] 39)).alloc (Obj.cells #[.int .i64 hh, .int .i64 ep, .string r, .string p, .int .i64 s.at_, .slice b1 s.op.length d1, .slice b2 s.sh.length d2, .slice b3 s.si.length d3] 39)) w.heap.size [.int .i64 hh, .int .i64 ep, .string r, .string p, .int .i64 s.at_, .slice a1 s.op.length c1, .slice a2 s.sh.length c2, .slice a3 s.si.length c3] := (Bx.new w _ _).ext ((Ext.refl _).alloc _)
  have Q : Bx ((w.alloc (Obj.cells #[.int .i64 hh, .int .i64 ep, .string r, .string p, .int .i64 s.at_, .slice a1 s.op.length c1, .slice a2 s.sh.length c2, .slice a3 s.si.length c3] 39)).alloc (Obj.cells #[.int .i64 hh, .int .i64 ep, .string r, .string p, .int .i64 s.at_, .slice b1 s.op.length d1, .slice b2 s.sh.length d2, .slice b3 s.si.length d3] 39)) (w.heap.size + 1) [.int .i64 hh, .int .i64 ep, .string r, .string p, .int .i64 s.at_, .slice b1 s.op.length d1, .slice b2 s.sh.length d2, .slice b3 s.si.length d3] := by
    have e := Bx.new (w.alloc (Obj.cells #[.int .i64 hh, .int .i64 ep, .string r, .string p, .int .i64 s.at_, .slice a1 s.op.length c1, .slice a2 s.sh.length c2, .slice a3 s.si.length c3] 39)) #[.int .i64 hh, .int .i64 ep, .string r, .string p, .int .i64 s.at_, .slice b1 s.op.length d1, .slice b2 s.sh.length d2, .slice b3 s.si.length d3] 39
    rw [World.size_alloc] at e
    exact e
  have x0 : Ext w ((w.alloc (Obj.cells #[.int .i64 hh, .int .i64 ep, .string r, .string p, .int .i64 s.at_, .slice a1 s.op.length c1, .slice a2 s.sh.length c2, .slice a3 s.si.length c3] 39)).alloc (Obj.cells #[.int .i64 hh, .int .i64 ep, .string r, .string p, .int .i64 s.at_, .slice b1 s.op.length d1, .slice b2 s.sh.length d2, .slice b3 s.si.length d3] 39)) := ((Ext.refl w).alloc _).alloc _
  generalize ((w.alloc (Obj.cells #[.int .i64 hh, .int .i64 ep, .string r, .string p, .int .i64 s.at_, .slice a1 s.op.length c1, .slice a2 s.sh.length c2, .slice a3 s.si.length c3] 39)).alloc (Obj.cells #[.int .i64 hh, .int .i64 ep, .string r, .string p, .int .i64 s.at_, .slice b1 s.op.length d1, .slice b2 s.sh.length d2, .slice b3 s.si.length d3] 39)) = W0 at *
  refine (laws_eqHead _ _ _ _ _ _ _ _ _).mono ?_
  rw [show (decide (hh = hh) && (decide (ep = ep) && (decide (r = r) && decide (p = p)))) = true by simp]
  rintro e w1 ⟨rfl, x1⟩
  have y1 : Ext W0 w1 := (by repeat (first | (with_reducible first | exact Ext.refl _ | assumption | apply Ext.alloc | apply Ext.drew | apply Ext.drewN | refine Ext.setCell ?_ ?_ _ | refine Ext.trans ?_ (by assumption)) | (show _ ≤ _; first | omega | (dsimp only; omega) | (simp; done) | (simp; omega))))
  replace P := P.ext y1
  replace Q := Q.ext y1
  have p0c := P.2.1 0 _ rfl
  have p1c := P.2.1 1 _ rfl
  have p2c := P.2.1 2 _ rfl
  have p3c := P.2.1 3 _ rfl
  have p4c := P.2.1 4 _ rfl
  have p5c := P.2.1 5 _ rfl
  have p6c := P.2.1 6 _ rfl
  have p7c := P.2.1 7 _ rfl
  have q0c := Q.2.1 0 _ rfl
  have q1c := Q.2.1 1 _ rfl
  have q2c := Q.2.1 2 _ rfl
  have q3c := Q.2.1 3 _ rfl
  have q4c := Q.2.1 4 _ rfl
  have q5c := Q.2.1 5 _ rfl
  have q6c := Q.2.1 6 _ rfl
  have q7c := Q.2.1 7 _ rfl
  go_wp2_with fail
  refine (laws_eqSigT _ _ _ _ _ _ s _ (h1.ext (by repeat (first | (with_reducible first | exact Ext.refl _ | assumption | apply Ext.alloc | apply Ext.drew | apply Ext.drewN | refine Ext.setCell ?_ ?_ _ | refine Ext.trans ?_ (by assumption)) | (show _ ≤ _; first | omega | (dsimp only; omega) | (simp; done) | (simp; omega))))) (h2.ext (by repeat (first | (with_reducible first | exact Ext.refl _ | assumption | apply Ext.alloc | apply Ext.drew | apply Ext.drewN | refine Ext.setCell ?_ ?_ _ | refine Ext.trans ?_ (by assumption)) | (show _ ≤ _; first | omega | (dsimp only; omega) | (simp; done) | (simp; omega))))) (h3.ext (by repeat (first | (with_reducible first | exact Ext.refl _ | assumption | apply Ext.alloc | apply Ext.drew | apply Ext.drewN | refine Ext.setCell ?_ ?_ _ | refine Ext.trans ?_ (by assumption)) | (show _ ≤ _; first | omega | (dsimp only; omega) | (simp; done) | (simp; omega))))) (g1.ext (by repeat (first | (with_reducible first | exact Ext.refl _ | assumption | apply Ext.alloc | apply Ext.drew | apply Ext.drewN | refine Ext.setCell ?_ ?_ _ | refine Ext.trans ?_ (by assumption)) | (show _ ≤ _; first | omega | (dsimp only; omega) | (simp; done) | (simp; omega))))) (g2.ext (by repeat (first | (with_reducible first | exact Ext.refl _ | assumption | apply Ext.alloc | apply Ext.drew | apply Ext.drewN | refine Ext.setCell ?_ ?_ _ | refine Ext.trans ?_ (by assumption)) | (show _ ≤ _; first | omega | (dsimp only; omega) | (simp; done) | (simp; omega))))) (g3.ext (by repeat (first | (with_reducible first | exact Ext.refl _ | assumption | apply Ext.alloc | apply Ext.drew | apply Ext.drewN | refine Ext.setCell ?_ ?_ _ | refine Ext.trans ?_ (by assumption)) | (show _ ≤ _; first | omega | (dsimp only; omega) | (simp; done) | (simp; omega)))))).mono ?_
  rintro e w2 ⟨rfl, x2⟩
  go_wp2
  go_ret
  exact ⟨rfl, (by repeat (first | (with_reducible first | exact Ext.refl _ | assumption | apply Ext.alloc | apply Ext.drew | apply Ext.drewN | refine Ext.setCell ?_ ?_ _ | refine Ext.trans ?_ (by assumption)) | (show _ ≤ _; first | omega | (dsimp only; omega) | (simp; done) | (simp; omega))))⟩

def sealN (r p : ByteArray) (s : SigV) : List Nat := (r.size + p.size) :: sigN s
end Go.Proofs.YtliebkhfddmhjaaDoor
