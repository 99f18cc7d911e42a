/- Seals: copies; their texts, both. -/
import Derived.Test.YtliebkhfddmhjaaDoorSigA
import Derived.Test.YtliebkhfddmhjaaDoorHeadA
namespace Go.Proofs.YtliebkhfddmhjaaDoor
open Go.RowKit

def sealOk (hh ep : Int) (r p : ByteArray) (s : SigV) : Bool := headOk hh ep r p && sigWell s
def sealT (hh ep : Int) (r p : ByteArray) (s : SigV) : ByteArray := if sealOk hh ep r p s = true then varT (headText hh ep r p).size ++ headText hh ep r p ++ sigTx s else ⟨#[]⟩
theorem sealT_no {hh ep : Int} {r p : ByteArray} {s : SigV} (h : sealOk hh ep r p s = false) : sealT hh ep r p s = ⟨#[]⟩ := by rw [sealT, if_neg (by rw [h]; decide)]
theorem sealT_yes {hh ep : Int} {r p : ByteArray} {s : SigV} (h : sealOk hh ep r p s = true) : sealT hh ep r p s = varT (headText hh ep r p).size ++ headText hh ep r p ++ sigTx s := by rw [sealT, if_pos h]
theorem headText_34 (h ep : Int) (r p : ByteArray) : (headText h ep r p).size ≤ 34 := by
  cases hh : headOk h ep r p
  · rw [headText, if_neg (by rw [hh]; decide)]; exact Nat.zero_le _
  · obtain ⟨-, -, h1, h2, -⟩ := headOk_true hh
    rw [headText, if_pos hh, ByteArray.size_append, ByteArray.size_append, strOfNums_size]
    simp only [List.length_cons, List.length_nil]
    omega
theorem sigTx_size (s : SigV) : (sigTx s).size ≤ 700000 := by
  cases hw : sigWell s
  · rw [sigTx, if_neg (by rw [hw]; decide)]; exact Nat.zero_le _
  · obtain ⟨-, ⟨-, m1⟩, ⟨-, m2⟩, -, m3⟩ := sigWell_true hw
    have z1 := joinT_size m1
    have z2 := joinT_size m2
    have z3 := joinT_size m3
    rw [sigTx, if_pos hw, sigT, ByteArray.size_append, ByteArray.size_append, ByteArray.size_append, strOfNums_size]
    simp only [List.length_cons, List.length_nil]
    omega

set_option maxHeartbeats 1600000 in
theorem impl_SealText (hh ep : Int) (r p : ByteArray) (v1 v2 v3 : Value) (s : SigV) (w : World) (h1 : Strs w v1 s.op) (h2 : Strs w v2 s.sh) (h3 : Strs w v3 s.si) (hs : SigFit s) :
    Calls Tryd.prog 45 #[.agg #[.int .i64 hh, .int .i64 ep, .string r, .string p, .int .i64 s.at_, v1, v2, v3]] w fun e w' => e = .returned (.tuple #[.string (sealT hh ep r p s), .bool (sealOk hh ep r p s)]) ∧ Ext w w' := by
  obtain ⟨a1, c1, rfl⟩ := h1.form
  obtain ⟨a2, c2, rfl⟩ := h2.form
  obtain ⟨a3, c3, rfl⟩ := h3.form
  have zh := headText_34 hh ep r p
  have zs := sigTx_size s
  cases k1 : headOk hh ep r p
  · cases k2 : sigWell s
    all_goals
      have hno : sealOk hh ep r p s = false := by rw [sealOk, k1]; rfl
      have RO := Lib.hid hno
      have R := Lib.hid (sealT_no hno)
      clear hno
      have K1 := Lib.hid k1
      have K2 := Lib.hid k2
      clear k1 k2
      go_enter Tryd.func45, Tryd.ntmps45
      go_wp2_with fail
      have P := Bx.new w #[.int .i64 hh, .int .i64 ep, .string r, .string p, .int .i64 s.at_, .slice a1 s.op.length c1, .slice a2 s.sh.length c2, .slice a3 s.si.length c3] 39
      have x0 : Ext w (w.alloc (Obj.cells #[.int .i64 hh, .int .i64 ep, .string r, .string p, .int .i64 s.at_, .slice a1 s.op.length c1, .slice a2 s.sh.length c2, .slice a3 s.si.length c3] 39)) := (Ext.refl w).alloc _
      generalize (w.alloc (Obj.cells #[.int .i64 hh, .int .i64 ep, .string r, .string p, .int .i64 s.at_, .slice a1 s.op.length c1, .slice a2 s.sh.length c2, .slice a3 s.si.length c3] 39)) = W0 at *
      refine (impl_HeadText hh ep r p _).mono ?_
      rw [K1.out]
      rintro e w1 ⟨rfl, x1⟩
      have y1 : Ext W0 w1 := (by repeat (first | (with_reducible first | exact Ext.refl _ | assumption | apply Ext.alloc | apply Ext.drew | apply Ext.drewN | refine Ext.setCell ?_ ?_ _ | refine Ext.trans ?_ (by assumption)) | (show _ ≤ _; first | omega | (dsimp only; omega) | (simp; done) | (simp; omega))))
      replace P := P.ext y1
      have p0c := P.2.1 0 _ rfl
      have p1c := P.2.1 1 _ rfl
      have p2c := P.2.1 2 _ rfl
      have p3c := P.2.1 3 _ rfl
      have p4c := P.2.1 4 _ rfl
      have p5c := P.2.1 5 _ rfl
      have p6c := P.2.1 6 _ rfl
      have p7c := P.2.1 7 _ rfl
      go_wp2_with fail
      refine (impl_SigText _ _ _ s _ (h1.ext (by repeat (first | (with_reducible first | exact Ext.refl _ | assumption | apply Ext.alloc | apply Ext.drew | apply Ext.drewN | refine Ext.setCell ?_ ?_ _ | refine Ext.trans ?_ (by assumption)) | (show _ ≤ _; first | omega | (dsimp only; omega) | (simp; done) | (simp; omega))))) (h2.ext (by repeat (first | (with_reducible first | exact Ext.refl _ | assumption | apply Ext.alloc | apply Ext.drew | apply Ext.drewN | refine Ext.setCell ?_ ?_ _ | refine Ext.trans ?_ (by assumption)) | (show _ ≤ _; first | omega | (dsimp only; omega) | (simp; done) | (simp; omega))))) (h3.ext (by repeat (first | (with_reducible first | exact Ext.refl _ | assumption | apply Ext.alloc | apply Ext.drew | apply Ext.drewN | refine Ext.setCell ?_ ?_ _ | refine Ext.trans ?_ (by assumption)) | (show _ ≤ _; first | omega | (dsimp only; omega) | (simp; done) | (simp; omega))))) hs).mono ?_
      rw [K2.out]
      rintro e w2 ⟨rfl, x2⟩
      go_wp2
      go_ret2
      exact ⟨ret_sb R.out.symm RO.out.symm, (by repeat (first | (with_reducible first | exact Ext.refl _ | assumption | apply Ext.alloc | apply Ext.drew | apply Ext.drewN | refine Ext.setCell ?_ ?_ _ | refine Ext.trans ?_ (by assumption)) | (show _ ≤ _; first | omega | (dsimp only; omega) | (simp; done) | (simp; omega))))⟩
  · cases k2 : sigWell s
    · have hno : sealOk hh ep r p s = false := by rw [sealOk, k1, k2]; rfl
      have RO := Lib.hid hno
      have R := Lib.hid (sealT_no hno)
      clear hno
      have K1 := Lib.hid k1
      have K2 := Lib.hid k2
      clear k1 k2
      go_enter Tryd.func45, Tryd.ntmps45
      go_wp2_with fail
      have P := Bx.new w #[.int .i64 hh, .int .i64 ep, .string r, .string p, .int .i64 s.at_, .slice a1 s.op.length c1, .slice a2 s.sh.length c2, .slice a3 s.si.length c3] 39
      have x0 : Ext w (w.alloc (Obj.cells #[.int .i64 hh, .int .i64 ep, .string r, .string p, .int .i64 s.at_, .slice a1 s.op.length c1, .slice a2 s.sh.length c2, .slice a3 s.si.length c3] 39)) := (Ext.refl w).alloc _
      generalize (w.alloc (Obj.cells #[.int .i64 hh, .int .i64 ep, .string r, .string p, .int .i64 s.at_, .slice a1 s.op.length c1, .slice a2 s.sh.length c2, .slice a3 s.si.length c3] 39)) = W0 at *
      refine (impl_HeadText hh ep r p _).mono ?_
      rw [K1.out]
      rintro e w1 ⟨rfl, x1⟩
      have y1 : Ext W0 w1 := (by repeat (first | (with_reducible first | exact Ext.refl _ | assumption | apply Ext.alloc | apply Ext.drew | apply Ext.drewN | refine Ext.setCell ?_ ?_ _ | refine Ext.trans ?_ (by assumption)) | (show _ ≤ _; first | omega | (dsimp only; omega) | (simp; done) | (simp; omega))))
      replace P := P.ext y1
      have p0c := P.2.1 0 _ rfl
      have p1c := P.2.1 1 _ rfl
      have p2c := P.2.1 2 _ rfl
      have p3c := P.2.1 3 _ rfl
      have p4c := P.2.1 4 _ rfl
      have p5c := P.2.1 5 _ rfl
      have p6c := P.2.1 6 _ rfl
      have p7c := P.2.1 7 _ rfl
      go_wp2_with fail
      refine (impl_SigText _ _ _ s _ (h1.ext (by repeat (first | (with_reducible first | exact Ext.refl _ | assumption | apply Ext.alloc | apply Ext.drew | apply Ext.drewN | refine Ext.setCell ?_ ?_ _ | refine Ext.trans ?_ (by assumption)) | (show _ ≤ _; first | omega | (dsimp only; omega) | (simp; done) | (simp; omega))))) (h2.ext (by repeat (first | (with_reducible first | exact Ext.refl _ | assumption | apply Ext.alloc | apply Ext.drew | apply Ext.drewN | refine Ext.setCell ?_ ?_ _ | refine Ext.trans ?_ (by assumption)) | (show _ ≤ _; first | omega | (dsimp only; omega) | (simp; done) | (simp; omega))))) (h3.ext (by repeat (first | (with_reducible first | exact Ext.refl _ | assumption | apply Ext.alloc | apply Ext.drew | apply Ext.drewN | refine Ext.setCell ?_ ?_ _ | refine Ext.trans ?_ (by assumption)) | (show _ ≤ _; first | omega | (dsimp only; omega) | (simp; done) | (simp; omega))))) hs).mono ?_
      rw [K2.out]
      rintro e w2 ⟨rfl, x2⟩
      go_wp2
      go_ret2
      exact ⟨ret_sb R.out.symm RO.out.symm, (by repeat (first | (with_reducible first | exact Ext.refl _ | assumption | apply Ext.alloc | apply Ext.drew | apply Ext.drewN | refine Ext.setCell ?_ ?_ _ | refine Ext.trans ?_ (by assumption)) | (show _ ≤ _; first | omega | (dsimp only; omega) | (simp; done) | (simp; omega))))⟩
    · have hyes : sealOk hh ep r p s = true := by rw [sealOk, k1, k2]; rfl
      have RO := Lib.hid hyes
      have R := Lib.hid (sealT_yes hyes)
      clear hyes
      have K1 := Lib.hid k1
      have K2 := Lib.hid k2
      clear k1 k2
      go_enter Tryd.func45, Tryd.ntmps45
      go_wp2_with fail
      have P := Bx.new w #[.int .i64 hh, .int .i64 ep, .string r, .string p, .int .i64 s.at_, .slice a1 s.op.length c1, .slice a2 s.sh.length c2, .slice a3 s.si.length c3] 39
      have x0 : Ext w (w.alloc (Obj.cells #[.int .i64 hh, .int .i64 ep, .string r, .string p, .int .i64 s.at_, .slice a1 s.op.length c1, .slice a2 s.sh.length c2, .slice a3 s.si.length c3] 39)) := (Ext.refl w).alloc _
      generalize (w.alloc (Obj.cells #[.int .i64 hh, .int .i64 ep, .string r, .string p, .int .i64 s.at_, .slice a1 s.op.length c1, .slice a2 s.sh.length c2, .slice a3 s.si.length c3] 39)) = W0 at *
      refine (impl_HeadText hh ep r p _).mono ?_
      rw [K1.out]
      rintro e w1 ⟨rfl, x1⟩
      have y1 : Ext W0 w1 := (by repeat (first | (with_reducible first | exact Ext.refl _ | assumption | apply Ext.alloc | apply Ext.drew | apply Ext.drewN | refine Ext.setCell ?_ ?_ _ | refine Ext.trans ?_ (by assumption)) | (show _ ≤ _; first | omega | (dsimp only; omega) | (simp; done) | (simp; omega))))
      replace P := P.ext y1
      have p0c := P.2.1 0 _ rfl
      have p1c := P.2.1 1 _ rfl
      have p2c := P.2.1 2 _ rfl
      have p3c := P.2.1 3 _ rfl
      have p4c := P.2.1 4 _ rfl
      have p5c := P.2.1 5 _ rfl
      have p6c := P.2.1 6 _ rfl
      have p7c := P.2.1 7 _ rfl
      go_wp2_with fail
      refine (impl_SigText _ _ _ s _ (h1.ext (by repeat (first | (with_reducible first | exact Ext.refl _ | assumption | apply Ext.alloc | apply Ext.drew | apply Ext.drewN | refine Ext.setCell ?_ ?_ _ | refine Ext.trans ?_ (by assumption)) | (show _ ≤ _; first | omega | (dsimp only; omega) | (simp; done) | (simp; omega))))) (h2.ext (by repeat (first | (with_reducible first | exact Ext.refl _ | assumption | apply Ext.alloc | apply Ext.drew | apply Ext.drewN | refine Ext.setCell ?_ ?_ _ | refine Ext.trans ?_ (by assumption)) | (show _ ≤ _; first | omega | (dsimp only; omega) | (simp; done) | (simp; omega))))) (h3.ext (by repeat (first | (with_reducible first | exact Ext.refl _ | assumption | apply Ext.alloc | apply Ext.drew | apply Ext.drewN | refine Ext.setCell ?_ ?_ _ | refine Ext.trans ?_ (by assumption)) | (show _ ≤ _; first | omega | (dsimp only; omega) | (simp; done) | (simp; omega))))) hs).mono ?_
      rw [K2.out]
      rintro e w2 ⟨rfl, x2⟩
      have zv := varT_size (headText hh ep r p).size
      generalize headText hh ep r p = ht at *
      generalize sigTx s = st at *
      generalize hvt : varT ht.size = vt at *
      have HVT := Lib.hid hvt
      clear hvt
      have hn1 : ¬ (9223372036854775807 < vt.size + ht.size) := by omega
      have hn2 : ¬ (9223372036854775807 < vt.size + ht.size + st.size) := by omega
      have hn3 : (vt ++ ht).size = vt.size + ht.size := ByteArray.size_append
      go_wp2_with fail
      refine (impl_shortText _ _ (by omega)).mono ?_
      rw [HVT.out]
      rintro e w3 ⟨rfl, x3⟩
      go_wp2
      go_ret2
      exact ⟨ret_sb R.out.symm RO.out.symm, (by repeat (first | (with_reducible first | exact Ext.refl _ | assumption | apply Ext.alloc | apply Ext.drew | apply Ext.drewN | refine Ext.setCell ?_ ?_ _ | refine Ext.trans ?_ (by assumption)) | (show _ ≤ _; first | omega | (dsimp only; omega) | (simp; done) | (simp; omega))))⟩

end Go.Proofs.YtliebkhfddmhjaaDoor
