/- Seals: copies; their texts, both. -/
import Derived.Test.YtckipgijfgeghaaGreatDoorSigA
import Derived.Test.YtckipgijfgeghaaGreatDoorHeadA
namespace Go.Proofs.YtckipgijfgeghaaGreatDoor
open Go.RowKit

set_option maxRecDepth 100000 in
set_option maxHeartbeats 3200000 in
theorem laws_toSeal (hh ep : Int) (r p : ByteArray) (v1 v2 v3 : Value) (s : SigV) (w : World) (h1 : Strs w v1 s.op) (h2 : Strs w v2 s.sh) (h3 : Strs w v3 s.si) (l1 : s.op.length ≤ 1099511627776) (l2 : s.sh.length ≤ 1099511627776) (l3 : s.si.length ≤ 1099511627776) :
    Calls Tryz.prog 32 #[.agg #[.int .i64 hh, .int .i64 ep, .string r, .string p, .int .i64 s.at_, v1, v2, v3]] w fun e w' => ∃ u1 u2 u3, e = .returned (.agg #[.int .i64 hh, .int .i64 ep, .string r, .string p, .int .i64 s.at_, u1, u2, u3]) ∧ OwnStrs w' w.heap.size u1 s.op ∧ OwnStrs w' w.heap.size u2 s.sh ∧ OwnStrs w' w.heap.size u3 s.si ∧ Ext w w' := by
  obtain ⟨a1, c1, rfl⟩ := h1.form
  obtain ⟨a2, c2, rfl⟩ := h2.form
  obtain ⟨a3, c3, rfl⟩ := h3.form
  go_enter Tryz.func32, Tryz.ntmps32
  go_wp2_with fail
  have P : Bx (((w.alloc (Obj.cells #[.int .i64 hh, .int .i64 ep, .string r, .string p, .int .i64 s.at_, .slice a1 s.op.length c1, .slice a2 s.sh.length c2, .slice a3 s.si.length c3] 33)).alloc (Obj.cells #[.int .i64 0, .int .i64 0, .string ⟨#[]⟩, .string ⟨#[]⟩, .int .i64 0, .slice none 0 0, .slice none 0 0, .slice none 0 0] 49)).alloc (Obj.cells #[.int .i64 0, .int .i64 0, .string ⟨#[]⟩, .string ⟨#[]⟩, .int .i64 0, .slice none 0 0, .slice none 0 0, .slice none 0 0] 49)) w.heap.size [.int .i64 hh, .int .i64 ep, .string r, .string p, .int .i64 s.at_, .slice a1 s.op.length c1, .slice a2 s.sh.length c2, .slice a3 s.si.length c3] := ((Bx.new w _ _).ext ((Ext.refl _).alloc _)).ext ((Ext.refl _).alloc _)
  have RR : Bx (((w.alloc (Obj.cells #[.int .i64 hh, .int .i64 ep, .string r, .string p, .int .i64 s.at_, .slice a1 s.op.length c1, .slice a2 s.sh.length c2, .slice a3 s.si.length c3] 33)).alloc (Obj.cells #[.int .i64 0, .int .i64 0, .string ⟨#[]⟩, .string ⟨#[]⟩, .int .i64 0, .slice none 0 0, .slice none 0 0, .slice none 0 0] 49)).alloc (Obj.cells #[.int .i64 0, .int .i64 0, .string ⟨#[]⟩, .string ⟨#[]⟩, .int .i64 0, .slice none 0 0, .slice none 0 0, .slice none 0 0] 49)) (w.heap.size + 1) [.int .i64 0, .int .i64 0, .string ⟨#[]⟩, .string ⟨#[]⟩, .int .i64 0, .slice none 0 0, .slice none 0 0, .slice none 0 0] := by
    have e := (Bx.new (w.alloc (Obj.cells #[.int .i64 hh, .int .i64 ep, .string r, .string p, .int .i64 s.at_, .slice a1 s.op.length c1, .slice a2 s.sh.length c2, .slice a3 s.si.length c3] 33)) #[.int .i64 0, .int .i64 0, .string ⟨#[]⟩, .string ⟨#[]⟩, .int .i64 0, .slice none 0 0, .slice none 0 0, .slice none 0 0] 49).ext ((Ext.refl _).alloc (Obj.cells #[.int .i64 0, .int .i64 0, .string ⟨#[]⟩, .string ⟨#[]⟩, .int .i64 0, .slice none 0 0, .slice none 0 0, .slice none 0 0] 49))
    rw [World.size_alloc] at e
    exact e
  have Q : Bx (((w.alloc (Obj.cells #[.int .i64 hh, .int .i64 ep, .string r, .string p, .int .i64 s.at_, .slice a1 s.op.length c1, .slice a2 s.sh.length c2, .slice a3 s.si.length c3] 33)).alloc (Obj.cells #[.int .i64 0, .int .i64 0, .string ⟨#[]⟩, .string ⟨#[]⟩, .int .i64 0, .slice none 0 0, .slice none 0 0, .slice none 0 0] 49)).alloc (Obj.cells #[.int .i64 0, .int .i64 0, .string ⟨#[]⟩, .string ⟨#[]⟩, .int .i64 0, .slice none 0 0, .slice none 0 0, .slice none 0 0] 49)) (w.heap.size + 2) [.int .i64 0, .int .i64 0, .string ⟨#[]⟩, .string ⟨#[]⟩, .int .i64 0, .slice none 0 0, .slice none 0 0, .slice none 0 0] := by
    have e := Bx.new ((w.alloc (Obj.cells #[.int .i64 hh, .int .i64 ep, .string r, .string p, .int .i64 s.at_, .slice a1 s.op.length c1, .slice a2 s.sh.length c2, .slice a3 s.si.length c3] 33)).alloc (Obj.cells #[.int .i64 0, .int .i64 0, .string ⟨#[]⟩, .string ⟨#[]⟩, .int .i64 0, .slice none 0 0, .slice none 0 0, .slice none 0 0] 49)) #[.int .i64 0, .int .i64 0, .string ⟨#[]⟩, .string ⟨#[]⟩, .int .i64 0, .slice none 0 0, .slice none 0 0, .slice none 0 0] 49
    rw [World.size_alloc, World.size_alloc] at e
    exact e
  have x0 : Ext w (((w.alloc (Obj.cells #[.int .i64 hh, .int .i64 ep, .string r, .string p, .int .i64 s.at_, .slice a1 s.op.length c1, .slice a2 s.sh.length c2, .slice a3 s.si.length c3] 33)).alloc (Obj.cells #[.int .i64 0, .int .i64 0, .string ⟨#[]⟩, .string ⟨#[]⟩, .int .i64 0, .slice none 0 0, .slice none 0 0, .slice none 0 0] 49)).alloc (Obj.cells #[.int .i64 0, .int .i64 0, .string ⟨#[]⟩, .string ⟨#[]⟩, .int .i64 0, .slice none 0 0, .slice none 0 0, .slice none 0 0] 49)) := (((Ext.refl w).alloc _).alloc _).alloc _
  generalize (((w.alloc (Obj.cells #[.int .i64 hh, .int .i64 ep, .string r, .string p, .int .i64 s.at_, .slice a1 s.op.length c1, .slice a2 s.sh.length c2, .slice a3 s.si.length c3] 33)).alloc (Obj.cells #[.int .i64 0, .int .i64 0, .string ⟨#[]⟩, .string ⟨#[]⟩, .int .i64 0, .slice none 0 0, .slice none 0 0, .slice none 0 0] 49)).alloc (Obj.cells #[.int .i64 0, .int .i64 0, .string ⟨#[]⟩, .string ⟨#[]⟩, .int .i64 0, .slice none 0 0, .slice none 0 0, .slice none 0 0] 49)) = W0 at *
  refine (laws_toHead _ _ _ _ _).mono ?_
  rintro e w1 ⟨rfl, x1⟩
  have y1 : Ext W0 w1 := (by repeat (first | (with_reducible first | exact Ext.refl _ | assumption | apply Ext.alloc | apply Ext.drew | apply Ext.drewN | refine Ext.setCell ?_ ?_ _ | refine Ext.trans ?_ (by assumption)) | (show _ ≤ _; first | omega | (dsimp only; omega) | (simp; done) | (simp; omega))))
  have xw1 : Ext w w1 := (by repeat (first | (with_reducible first | exact Ext.refl _ | assumption | apply Ext.alloc | apply Ext.drew | apply Ext.drewN | refine Ext.setCell ?_ ?_ _ | refine Ext.trans ?_ (by assumption)) | (show _ ≤ _; first | omega | (dsimp only; omega) | (simp; done) | (simp; omega))))
  replace P := P.ext y1
  replace RR := RR.ext y1
  replace Q := Q.ext y1
  have p0c := P.2.1 0 _ rfl
  have p1c := P.2.1 1 _ rfl
  have p2c := P.2.1 2 _ rfl
  have p3c := P.2.1 3 _ rfl
  have p4c := P.2.1 4 _ rfl
  have p5c := P.2.1 5 _ rfl
  have p6c := P.2.1 6 _ rfl
  have p7c := P.2.1 7 _ rfl
  have q0c := Q.2.1 0 _ rfl
  have q1c := Q.2.1 1 _ rfl
  have q2c := Q.2.1 2 _ rfl
  have q3c := Q.2.1 3 _ rfl
  have q4c := Q.2.1 4 _ rfl
  have q5c := Q.2.1 5 _ rfl
  have q6c := Q.2.1 6 _ rfl
  have q7c := Q.2.1 7 _ rfl
  have r0c := RR.2.1 0 _ rfl
  have r1c := RR.2.1 1 _ rfl
  have r2c := RR.2.1 2 _ rfl
  have r3c := RR.2.1 3 _ rfl
  have r4c := RR.2.1 4 _ rfl
  have r5c := RR.2.1 5 _ rfl
  have r6c := RR.2.1 6 _ rfl
  have r7c := RR.2.1 7 _ rfl
  have pf := P.2.2
  have qf := Q.2.2
  have rf := RR.2.2
  go_wp2_with fail
  clear p0c p1c p2c p3c p4c p5c p6c p7c q0c q1c q2c q3c q4c q5c q6c q7c r0c r1c r2c r3c r4c r5c r6c r7c pf qf rf
  replace P := P.far (c := w.heap.size + 2) (by omega) 0 (.int .i64 hh)
  replace RR := RR.far (c := w.heap.size + 2) (by omega) 0 (.int .i64 hh)
  replace Q := Q.set 0 (.int .i64 hh) (by simp)
  replace P := P.far (c := w.heap.size + 2) (by omega) 1 (.int .i64 ep)
  replace RR := RR.far (c := w.heap.size + 2) (by omega) 1 (.int .i64 ep)
  replace Q := Q.set 1 (.int .i64 ep) (by simp)
  replace P := P.far (c := w.heap.size + 2) (by omega) 2 (.string r)
  replace RR := RR.far (c := w.heap.size + 2) (by omega) 2 (.string r)
  replace Q := Q.set 2 (.string r) (by simp)
  replace P := P.far (c := w.heap.size + 2) (by omega) 3 (.string p)
  replace RR := RR.far (c := w.heap.size + 2) (by omega) 3 (.string p)
  replace Q := Q.set 3 (.string p) (by simp)
  have z1 : Ext w ((((w1.setCell ⟨w.heap.size + 2, 0, none⟩ (.int .i64 hh)).setCell ⟨w.heap.size + 2, 1, none⟩ (.int .i64 ep)).setCell ⟨w.heap.size + 2, 2, none⟩ (.string r)).setCell ⟨w.heap.size + 2, 3, none⟩ (.string p)) := (((xw1.setCell (by dsimp only; omega) _).setCell (by dsimp only; omega) _).setCell (by dsimp only; omega) _).setCell (by dsimp only; omega) _
  simp only [List.set_cons_succ, List.set_cons_zero] at Q
  generalize ((((w1.setCell ⟨w.heap.size + 2, 0, none⟩ (.int .i64 hh)).setCell ⟨w.heap.size + 2, 1, none⟩ (.int .i64 ep)).setCell ⟨w.heap.size + 2, 2, none⟩ (.string r)).setCell ⟨w.heap.size + 2, 3, none⟩ (.string p)) = W1 at *
  have lq1 := Q.1
  clear xw1 x1 y1
  refine (laws_toSig _ _ _ s _ (h1.ext (by repeat (first | (with_reducible first | exact Ext.refl _ | assumption | apply Ext.alloc | apply Ext.drew | apply Ext.drewN | refine Ext.setCell ?_ ?_ _ | refine Ext.trans ?_ (by assumption)) | (show _ ≤ _; first | omega | (dsimp only; omega) | (simp; done) | (simp; omega))))) (h2.ext (by repeat (first | (with_reducible first | exact Ext.refl _ | assumption | apply Ext.alloc | apply Ext.drew | apply Ext.drewN | refine Ext.setCell ?_ ?_ _ | refine Ext.trans ?_ (by assumption)) | (show _ ≤ _; first | omega | (dsimp only; omega) | (simp; done) | (simp; omega))))) (h3.ext (by repeat (first | (with_reducible first | exact Ext.refl _ | assumption | apply Ext.alloc | apply Ext.drew | apply Ext.drewN | refine Ext.setCell ?_ ?_ _ | refine Ext.trans ?_ (by assumption)) | (show _ ≤ _; first | omega | (dsimp only; omega) | (simp; done) | (simp; omega))))) l1 l2 l3).mono ?_
  rintro e w2 ⟨u1, u2, u3, rfl, o1, o2, o3, x2⟩
  obtain ⟨b1, d1, rfl⟩ := o1.strs.form
  obtain ⟨b2, d2, rfl⟩ := o2.strs.form
  obtain ⟨b3, d3, rfl⟩ := o3.strs.form
  have y2 : Ext W1 w2 := (by repeat (first | (with_reducible first | exact Ext.refl _ | assumption | apply Ext.alloc | apply Ext.drew | apply Ext.drewN | refine Ext.setCell ?_ ?_ _ | refine Ext.trans ?_ (by assumption)) | (show _ ≤ _; first | omega | (dsimp only; omega) | (simp; done) | (simp; omega))))
  have xw2 : Ext w w2 := (by repeat (first | (with_reducible first | exact Ext.refl _ | assumption | apply Ext.alloc | apply Ext.drew | apply Ext.drewN | refine Ext.setCell ?_ ?_ _ | refine Ext.trans ?_ (by assumption)) | (show _ ≤ _; first | omega | (dsimp only; omega) | (simp; done) | (simp; omega))))
  replace P := P.ext y2
  replace RR := RR.ext y2
  replace Q := Q.ext y2
  have O1 := Lib.hid o1
  have O2 := Lib.hid o2
  have O3 := Lib.hid o3
  clear o1 o2 o3
  have q0c := Q.2.1 0 _ rfl
  have q1c := Q.2.1 1 _ rfl
  have q2c := Q.2.1 2 _ rfl
  have q3c := Q.2.1 3 _ rfl
  have q4c := Q.2.1 4 _ rfl
  have q5c := Q.2.1 5 _ rfl
  have q6c := Q.2.1 6 _ rfl
  have q7c := Q.2.1 7 _ rfl
  have r0c := RR.2.1 0 _ rfl
  have r1c := RR.2.1 1 _ rfl
  have r2c := RR.2.1 2 _ rfl
  have r3c := RR.2.1 3 _ rfl
  have r4c := RR.2.1 4 _ rfl
  have r5c := RR.2.1 5 _ rfl
  have r6c := RR.2.1 6 _ rfl
  have r7c := RR.2.1 7 _ rfl
  have qf := Q.2.2
  have rf := RR.2.2
  go_wp2
  refine bodyPost_ret (v := .agg #[.int .i64 hh, .int .i64 ep, .string r, .string p, .int .i64 s.at_, .slice b1 s.op.length d1, .slice b2 s.sh.length d2, .slice b3 s.si.length d3]) (by simp [results, Tryz.results32, go_sem, r0c, r1c, r2c, r3c, r4c, r5c, r6c, r7c]) rfl ⟨_, _, _, rfl, ?_, ?_, ?_, ?_⟩
  · have ho := O1.out
    exact (by show World.ownsRow _ _ _ _ _ _ _; apply own_mono; (repeat (with_reducible first | apply own_below | apply own_alloc | apply own_drew | apply own_drewN | refine own_ext ?_ (by assumption))); exact ho; all_goals (first | omega | (dsimp only; omega) | (simp; done) | (simp; omega)))
  · have ho := O2.out
    exact (by show World.ownsRow _ _ _ _ _ _ _; apply own_mono; (repeat (with_reducible first | apply own_below | apply own_alloc | apply own_drew | apply own_drewN | refine own_ext ?_ (by assumption))); exact ho; all_goals (first | omega | (dsimp only; omega) | (simp; done) | (simp; omega)))
  · have ho := O3.out
    exact (by show World.ownsRow _ _ _ _ _ _ _; apply own_mono; (repeat (with_reducible first | apply own_below | apply own_alloc | apply own_drew | apply own_drewN | refine own_ext ?_ (by assumption))); exact ho; all_goals (first | omega | (dsimp only; omega) | (simp; done) | (simp; omega)))
  · exact (by repeat (first | (with_reducible first | exact Ext.refl _ | assumption | apply Ext.alloc | apply Ext.drew | apply Ext.drewN | refine Ext.setCell ?_ ?_ _ | refine Ext.trans ?_ (by assumption)) | (show _ ≤ _; first | omega | (dsimp only; omega) | (simp; done) | (simp; omega))))

def sealOk (hh ep : Int) (r p : ByteArray) (s : SigV) : Bool := headOk hh ep r p && sigWell s
def sealT (hh ep : Int) (r p : ByteArray) (s : SigV) : ByteArray := if sealOk hh ep r p s = true then varT (headText hh ep r p).size ++ headText hh ep r p ++ sigTx s else ⟨#[]⟩
theorem sealT_no {hh ep : Int} {r p : ByteArray} {s : SigV} (h : sealOk hh ep r p s = false) : sealT hh ep r p s = ⟨#[]⟩ := by rw [sealT, if_neg (by rw [h]; decide)]
theorem sealT_yes {hh ep : Int} {r p : ByteArray} {s : SigV} (h : sealOk hh ep r p s = true) : sealT hh ep r p s = varT (headText hh ep r p).size ++ headText hh ep r p ++ sigTx s := by rw [sealT, if_pos h]
theorem headText_34 (h ep : Int) (r p : ByteArray) : (headText h ep r p).size ≤ 34 := by
  cases hh : headOk h ep r p
  · rw [headText, if_neg (by rw [hh]; decide)]; exact Nat.zero_le _
  · obtain ⟨-, -, h1, h2, -⟩ := headOk_true hh
    rw [headText, if_pos hh, ByteArray.size_append, ByteArray.size_append, strOfNums_size]
    simp only [List.length_cons, List.length_nil]
    omega
theorem sigTx_size (s : SigV) : (sigTx s).size ≤ 700000 := by
  cases hw : sigWell s
  · rw [sigTx, if_neg (by rw [hw]; decide)]; exact Nat.zero_le _
  · obtain ⟨-, ⟨-, m1⟩, ⟨-, m2⟩, -, m3⟩ := sigWell_true hw
    have z1 := joinT_size m1
    have z2 := joinT_size m2
    have z3 := joinT_size m3
    rw [sigTx, if_pos hw, sigT, ByteArray.size_append, ByteArray.size_append, ByteArray.size_append, strOfNums_size]
    simp only [List.length_cons, List.length_nil]
    omega

end Go.Proofs.YtckipgijfgeghaaGreatDoor
