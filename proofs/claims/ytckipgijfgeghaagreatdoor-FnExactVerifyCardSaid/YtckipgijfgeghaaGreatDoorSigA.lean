/- Sig3, Sig4 in one text. -/
import Derived.Test.YtckipgijfgeghaaGreatDoorSig2
import Derived.Test.YtckipgijfgeghaaGreatDoorStrA
import Derived.Deep.AppendLies
import Derived.Test.YtckipgijfgeghaaGreatDoorHeadA
import Derived.Test.YtckipgijfgeghaaGreatDoorCore
import Derived.Deep.RegionHeld3
namespace Go.Proofs.YtckipgijfgeghaaGreatDoor
open Go.RowKit

theorem joinT_append (xs ys : List ByteArray) : joinT (xs ++ ys) = joinT xs ++ joinT ys := by
  rw [← joinOn_all (joinT xs) ys]
  unfold joinT joinOn
  rw [List.take_length, List.take_length, List.take_length, List.foldl_append]
/-- all of a signature's strings -/
def sigL (s : SigV) : List ByteArray := s.op ++ s.sh ++ s.si
theorem sigT_join (s : SigV) : joinOn (strOfNums [s.at_]) (sigL s) (sigL s).length = sigT s := by
  rw [joinOn_all, sigL, joinT_append, joinT_append, sigT, ByteArray.append_assoc, ByteArray.append_assoc, ByteArray.append_assoc]
theorem sigL_small {s : SigV} (h1 : StrSmall s.op) (h2 : StrSmall s.sh) (h3 : StrSmall s.si) (l1 : s.op.length = 8) (l2 : s.sh.length = 8) (l3 : s.si.length = 4) : StrSmall (sigL s) := by
  refine ⟨by simp [sigL]; omega, fun x hx => ?_⟩
  rw [sigL, List.mem_append, List.mem_append] at hx
  rcases hx with (hx | hx) | hx
  · exact h1.2 x hx
  · exact h2.2 x hx
  · exact h3.2 x hx
theorem str_news {w : World} {a : Option Addr} {n c : Nat} {ys : List ByteArray} (h : Strs w (.slice a n c) ys) (hn : 0 < ys.length) : ∃ b o, a = some ⟨b, o, none⟩ ∧ ∀ (W : World), Ext w W → ∀ j u, (ys.map Value.string)[j]? = some u → W.cell? ((⟨b, o, none⟩ : Addr).add j) = some u := by
  obtain ⟨-, a1, c1, hv, -, -, g⟩ := h
  injection hv with e1 e2 e3
  subst e1
  rcases g with g | ⟨b, o, rfl, hb, g⟩
  · omega
  · refine ⟨b, o, rfl, fun W hx j u hu => ?_⟩
    have e : (⟨b, o, none⟩ : Addr).add j = ⟨b, o + j, none⟩ := by simp [Addr.add]
    rw [e, hx.cell b _ hb]
    exact g j u hu
theorem cell_dn {w : World} {b o : Nat} {v : Value} {t : TypeId} {xs : Array Value} (h : w.cell? ⟨b, o, none⟩ = some v) (hb : b < w.heap.size) : (w.drew.alloc (.cells xs t)).cell? ⟨b, o, none⟩ = some v :=
  (World.cell?_alloc_past (w := w.drew) _ b o hb).trans h
theorem strs_one (ys : List ByteArray) : ∀ u ∈ ys.map Value.string, u.oneCell' = true := by
  intro u hu
  rw [List.mem_map] at hu
  obtain ⟨t, -, rfl⟩ := hu
  rfl

end Go.Proofs.YtckipgijfgeghaaGreatDoor
namespace Go.Proofs.YtckipgijfgeghaaGreatDoor
open Go.RowKit

/-- sizes, one behind the other -/
def szl : Int → List Nat → Int
  | left, [] => left
  | left, a :: t => if szr left a < 0 then -1 else szl (szr left a) t
theorem szr_two (left : Int) (a : Nat) (hl : 0 ≤ left ∧ left ≤ 1048576) : szr left a = -1 ∨ ∃ z : Int, szr left a = z ∧ 0 ≤ z ∧ z ≤ 1048576 ∧ a ≤ 1048576 := by
  simp only [szr]; split
  · exact Or.inl rfl
  · exact Or.inr ⟨_, rfl, by omega, by omega, by omega⟩
theorem szl_neg {left : Int} {a : Nat} (t : List Nat) (h : szr left a = -1) : szl left (a :: t) = -1 := by rw [szl, h, if_pos (by omega)]
theorem szl_pos {left z : Int} {a : Nat} (t : List Nat) (h : szr left a = z) (hz : 0 ≤ z) : szl left (a :: t) = szl z t := by rw [szl, h, if_neg (by omega)]
theorem szl_two : ∀ (t : List Nat) (left : Int), 0 ≤ left ∧ left ≤ 1048576 → szl left t = -1 ∨ ∃ z : Int, szl left t = z ∧ 0 ≤ z ∧ z ≤ 1048576 ∧ ∀ a ∈ t, a ≤ 1048576
  | [], left, hl => Or.inr ⟨left, rfl, hl.1, hl.2, fun a ha => by cases ha⟩
  | a :: t, left, hl => by
    rcases szr_two left a hl with h | ⟨z, h, h0, h1, h2⟩
    · exact Or.inl (szl_neg t h)
    · rw [szl_pos t h h0]
      rcases szl_two t z ⟨h0, h1⟩ with k | ⟨y, k, k0, k1, k2⟩
      · exact Or.inl k
      · exact Or.inr ⟨y, k, k0, k1, fun b hb => by
          rcases List.mem_cons.1 hb with rfl | hb
          · exact h2
          · exact k2 b hb⟩
def strN (xs : List ByteArray) : Nat := xs.length + sizes xs
def sigN (s : SigV) : List Nat := [strN s.op, strN s.sh, strN s.si]

set_option maxHeartbeats 800000 in
theorem laws_szSig (v1 v2 v3 : Value) (s : SigV) (left : Int) (w : World) (h1 : Strs w v1 s.op) (h2 : Strs w v2 s.sh) (h3 : Strs w v3 s.si) (hs : SigFit s) (hl : 0 ≤ left ∧ left ≤ 1048576) :
    Calls Tryz.prog 54 #[.agg #[.int .i64 s.at_, v1, v2, v3], .int .i64 left] w fun e w' => e = .returned (.int .i64 (szl left (sigN s))) ∧ Ext w w' := by
  obtain ⟨a1, c1, rfl⟩ := h1.form
  obtain ⟨a2, c2, rfl⟩ := h2.form
  obtain ⟨a3, c3, rfl⟩ := h3.form
  obtain ⟨f1, f2, f3⟩ := hs
  rcases szr_two left (strN s.op) hl with k1 | ⟨z1, k1, k2, k3, -⟩
  · have R := Lib.hid (szl_neg [strN s.sh, strN s.si] k1)
    have K1 := Lib.hid k1
    clear k1
    go_enter Tryz.func54, Tryz.ntmps54
    go_wp2_with fail
    refine (laws_szStringS _ s.op _ _ (h1.ext (by repeat (first | (with_reducible first | exact Ext.refl _ | assumption | apply Ext.alloc | apply Ext.drew | apply Ext.drewN | refine Ext.setCell ?_ ?_ _ | refine Ext.trans ?_ (by assumption)) | (show _ ≤ _; first | omega | (dsimp only; omega) | (simp; done) | (simp; omega))))) hl f1).mono ?_
    rw [show szr left (s.op.length + sizes s.op) = -1 from K1.out]
    rintro e w' ⟨rfl, rfl⟩
    go_wp2
    go_ret
    exact ⟨ret_int R.out.symm, (by repeat (first | (with_reducible first | exact Ext.refl _ | assumption | apply Ext.alloc | apply Ext.drew | apply Ext.drewN | refine Ext.setCell ?_ ?_ _ | refine Ext.trans ?_ (by assumption)) | (show _ ≤ _; first | omega | (dsimp only; omega) | (simp; done) | (simp; omega))))⟩
  have R1 := szl_pos [strN s.sh, strN s.si] k1 k2
  have K1 := Lib.hid k1
  clear k1
  rcases szr_two z1 (strN s.sh) ⟨k2, k3⟩ with j1 | ⟨z2, j1, j2, j3, -⟩
  · have R := Lib.hid (R1.trans (szl_neg [strN s.si] j1))
    have K2 := Lib.hid j1
    clear j1 R1
    go_enter Tryz.func54, Tryz.ntmps54
    go_wp2_with fail
    refine (laws_szStringS _ s.op _ _ (h1.ext (by repeat (first | (with_reducible first | exact Ext.refl _ | assumption | apply Ext.alloc | apply Ext.drew | apply Ext.drewN | refine Ext.setCell ?_ ?_ _ | refine Ext.trans ?_ (by assumption)) | (show _ ≤ _; first | omega | (dsimp only; omega) | (simp; done) | (simp; omega))))) hl f1).mono ?_
    rw [show szr left (s.op.length + sizes s.op) = z1 from K1.out]
    rintro e w' ⟨rfl, rfl⟩
    go_wp2_with fail
    refine (laws_szStringS _ s.sh _ _ (h2.ext (by repeat (first | (with_reducible first | exact Ext.refl _ | assumption | apply Ext.alloc | apply Ext.drew | apply Ext.drewN | refine Ext.setCell ?_ ?_ _ | refine Ext.trans ?_ (by assumption)) | (show _ ≤ _; first | omega | (dsimp only; omega) | (simp; done) | (simp; omega))))) ⟨k2, k3⟩ f2).mono ?_
    rw [show szr z1 (s.sh.length + sizes s.sh) = -1 from K2.out]
    rintro e w' ⟨rfl, rfl⟩
    go_wp2
    go_ret
    exact ⟨ret_int R.out.symm, (by repeat (first | (with_reducible first | exact Ext.refl _ | assumption | apply Ext.alloc | apply Ext.drew | apply Ext.drewN | refine Ext.setCell ?_ ?_ _ | refine Ext.trans ?_ (by assumption)) | (show _ ≤ _; first | omega | (dsimp only; omega) | (simp; done) | (simp; omega))))⟩
  have R2 := R1.trans (szl_pos [strN s.si] j1 j2)
  have K2 := Lib.hid j1
  clear j1 R1
  have hcase : szr z2 (strN s.si) = -1 ∨ 0 ≤ szr z2 (strN s.si) := by simp only [szr]; split <;> omega
  have R3 : szl left (sigN s) = szr z2 (strN s.si) := by
    refine R2.trans ?_
    rw [szl]
    rcases hcase with e | e
    · rw [e]; rfl
    · rw [if_neg (by omega)]; rfl
  generalize hy : szr z2 (strN s.si) = y at *
  have R := Lib.hid R3
  have K3 := Lib.hid hy
  clear R2 R3 hy
  rcases hcase with rfl | hcase
  all_goals
    go_enter Tryz.func54, Tryz.ntmps54
    go_wp2_with fail
    refine (laws_szStringS _ s.op _ _ (h1.ext (by repeat (first | (with_reducible first | exact Ext.refl _ | assumption | apply Ext.alloc | apply Ext.drew | apply Ext.drewN | refine Ext.setCell ?_ ?_ _ | refine Ext.trans ?_ (by assumption)) | (show _ ≤ _; first | omega | (dsimp only; omega) | (simp; done) | (simp; omega))))) hl f1).mono ?_
    rw [show szr left (s.op.length + sizes s.op) = z1 from K1.out]
    rintro e w' ⟨rfl, rfl⟩
    go_wp2_with fail
    refine (laws_szStringS _ s.sh _ _ (h2.ext (by repeat (first | (with_reducible first | exact Ext.refl _ | assumption | apply Ext.alloc | apply Ext.drew | apply Ext.drewN | refine Ext.setCell ?_ ?_ _ | refine Ext.trans ?_ (by assumption)) | (show _ ≤ _; first | omega | (dsimp only; omega) | (simp; done) | (simp; omega))))) ⟨k2, k3⟩ f2).mono ?_
    rw [show szr z1 (s.sh.length + sizes s.sh) = z2 from K2.out]
    rintro e w' ⟨rfl, rfl⟩
    go_wp2_with fail
    refine (laws_szStringS _ s.si _ _ (h3.ext (by repeat (first | (with_reducible first | exact Ext.refl _ | assumption | apply Ext.alloc | apply Ext.drew | apply Ext.drewN | refine Ext.setCell ?_ ?_ _ | refine Ext.trans ?_ (by assumption)) | (show _ ≤ _; first | omega | (dsimp only; omega) | (simp; done) | (simp; omega))))) ⟨j2, j3⟩ f3).mono ?_
    rw [show szr z2 (s.si.length + sizes s.si) = _ from K3.out]
    rintro e w' ⟨rfl, rfl⟩
    go_wp2
    go_ret
    exact ⟨ret_int R.out.symm, (by repeat (first | (with_reducible first | exact Ext.refl _ | assumption | apply Ext.alloc | apply Ext.drew | apply Ext.drewN | refine Ext.setCell ?_ ?_ _ | refine Ext.trans ?_ (by assumption)) | (show _ ≤ _; first | omega | (dsimp only; omega) | (simp; done) | (simp; omega))))⟩

set_option maxHeartbeats 1600000 in
theorem laws_toSig (v1 v2 v3 : Value) (s : SigV) (w : World) (h1 : Strs w v1 s.op) (h2 : Strs w v2 s.sh) (h3 : Strs w v3 s.si) (l1 : s.op.length ≤ 1099511627776) (l2 : s.sh.length ≤ 1099511627776) (l3 : s.si.length ≤ 1099511627776) :
    Calls Tryz.prog 71 #[.agg #[.int .i64 s.at_, v1, v2, v3]] w fun e w' => ∃ u1 u2 u3, e = .returned (.agg #[.int .i64 s.at_, u1, u2, u3]) ∧ OwnStrs w' w.heap.size u1 s.op ∧ OwnStrs w' w.heap.size u2 s.sh ∧ OwnStrs w' w.heap.size u3 s.si ∧ Ext w w' := by
  obtain ⟨a1, c1, rfl⟩ := h1.form
  obtain ⟨a2, c2, rfl⟩ := h2.form
  obtain ⟨a3, c3, rfl⟩ := h3.form
  go_enter Tryz.func71, Tryz.ntmps71
  go_wp2_with fail
  have P : Bx (((w.alloc (Obj.cells #[.int .i64 s.at_, .slice a1 s.op.length c1, .slice a2 s.sh.length c2, .slice a3 s.si.length c3] 31)).alloc (Obj.cells #[.int .i64 0, .slice none 0 0, .slice none 0 0, .slice none 0 0] 47)).alloc (Obj.cells #[.int .i64 s.at_, .slice none 0 0, .slice none 0 0, .slice none 0 0] 47)) w.heap.size [.int .i64 s.at_, .slice a1 s.op.length c1, .slice a2 s.sh.length c2, .slice a3 s.si.length c3] := ((Bx.new w _ _).ext ((Ext.refl _).alloc _)).ext ((Ext.refl _).alloc _)
  have RR : Bx (((w.alloc (Obj.cells #[.int .i64 s.at_, .slice a1 s.op.length c1, .slice a2 s.sh.length c2, .slice a3 s.si.length c3] 31)).alloc (Obj.cells #[.int .i64 0, .slice none 0 0, .slice none 0 0, .slice none 0 0] 47)).alloc (Obj.cells #[.int .i64 s.at_, .slice none 0 0, .slice none 0 0, .slice none 0 0] 47)) (w.heap.size + 1) [.int .i64 0, .slice none 0 0, .slice none 0 0, .slice none 0 0] := by
    have e := (Bx.new (w.alloc (Obj.cells #[.int .i64 s.at_, .slice a1 s.op.length c1, .slice a2 s.sh.length c2, .slice a3 s.si.length c3] 31)) #[.int .i64 0, .slice none 0 0, .slice none 0 0, .slice none 0 0] 47).ext ((Ext.refl _).alloc (Obj.cells #[.int .i64 s.at_, .slice none 0 0, .slice none 0 0, .slice none 0 0] 47))
    rw [World.size_alloc] at e
    exact e
  have Q : Bx (((w.alloc (Obj.cells #[.int .i64 s.at_, .slice a1 s.op.length c1, .slice a2 s.sh.length c2, .slice a3 s.si.length c3] 31)).alloc (Obj.cells #[.int .i64 0, .slice none 0 0, .slice none 0 0, .slice none 0 0] 47)).alloc (Obj.cells #[.int .i64 s.at_, .slice none 0 0, .slice none 0 0, .slice none 0 0] 47)) (w.heap.size + 2) [.int .i64 s.at_, .slice none 0 0, .slice none 0 0, .slice none 0 0] := by
    have e := Bx.new ((w.alloc (Obj.cells #[.int .i64 s.at_, .slice a1 s.op.length c1, .slice a2 s.sh.length c2, .slice a3 s.si.length c3] 31)).alloc (Obj.cells #[.int .i64 0, .slice none 0 0, .slice none 0 0, .slice none 0 0] 47)) #[.int .i64 s.at_, .slice none 0 0, .slice none 0 0, .slice none 0 0] 47
    rw [World.size_alloc, World.size_alloc] at e
    exact e
  have x0 : Ext w (((w.alloc (Obj.cells #[.int .i64 s.at_, .slice a1 s.op.length c1, .slice a2 s.sh.length c2, .slice a3 s.si.length c3] 31)).alloc (Obj.cells #[.int .i64 0, .slice none 0 0, .slice none 0 0, .slice none 0 0] 47)).alloc (Obj.cells #[.int .i64 s.at_, .slice none 0 0, .slice none 0 0, .slice none 0 0] 47)) := (((Ext.refl w).alloc _).alloc _).alloc _
  generalize (((w.alloc (Obj.cells #[.int .i64 s.at_, .slice a1 s.op.length c1, .slice a2 s.sh.length c2, .slice a3 s.si.length c3] 31)).alloc (Obj.cells #[.int .i64 0, .slice none 0 0, .slice none 0 0, .slice none 0 0] 47)).alloc (Obj.cells #[.int .i64 s.at_, .slice none 0 0, .slice none 0 0, .slice none 0 0] 47)) = W0 at *
  have lq0 := Q.1
  refine (laws_toStringS _ s.op _ (h1.ext (by repeat (first | (with_reducible first | exact Ext.refl _ | assumption | apply Ext.alloc | apply Ext.drew | apply Ext.drewN | refine Ext.setCell ?_ ?_ _ | refine Ext.trans ?_ (by assumption)) | (show _ ≤ _; first | omega | (dsimp only; omega) | (simp; done) | (simp; omega))))) l1).mono ?_
  rintro e w1 ⟨b1, d1, rfl, o1, x1⟩
  have y1 : Ext W0 w1 := (by repeat (first | (with_reducible first | exact Ext.refl _ | assumption | apply Ext.alloc | apply Ext.drew | apply Ext.drewN | refine Ext.setCell ?_ ?_ _ | refine Ext.trans ?_ (by assumption)) | (show _ ≤ _; first | omega | (dsimp only; omega) | (simp; done) | (simp; omega))))
  replace P := P.ext y1
  replace RR := RR.ext y1
  replace Q := Q.ext y1
  have p0c := P.2.1 0 _ rfl
  have p1c := P.2.1 1 _ rfl
  have p2c := P.2.1 2 _ rfl
  have p3c := P.2.1 3 _ rfl
  have q0c := Q.2.1 0 _ rfl
  have q1c := Q.2.1 1 _ rfl
  have q2c := Q.2.1 2 _ rfl
  have q3c := Q.2.1 3 _ rfl
  have r0c := RR.2.1 0 _ rfl
  have r1c := RR.2.1 1 _ rfl
  have r2c := RR.2.1 2 _ rfl
  have r3c := RR.2.1 3 _ rfl
  have pf := P.2.2
  have qf := Q.2.2
  have rf := RR.2.2
  have xw1 : Ext w w1 := (by repeat (first | (with_reducible first | exact Ext.refl _ | assumption | apply Ext.alloc | apply Ext.drew | apply Ext.drewN | refine Ext.setCell ?_ ?_ _ | refine Ext.trans ?_ (by assumption)) | (show _ ≤ _; first | omega | (dsimp only; omega) | (simp; done) | (simp; omega))))
  have O1 := Lib.hid o1
  clear o1
  go_wp2_with fail
  clear p0c p1c p2c p3c q0c q1c q2c q3c r0c r1c r2c r3c pf qf rf
  replace P := P.far (c := w.heap.size + 2) (by omega) 1 (.slice b1 s.op.length d1)
  replace RR := RR.far (c := w.heap.size + 2) (by omega) 1 (.slice b1 s.op.length d1)
  replace Q := Q.set 1 (.slice b1 s.op.length d1) (by simp)
  have o1 := own_below O1.out (p := ⟨w.heap.size + 2, 1, none⟩) (u := (.slice b1 s.op.length d1)) lq0
  have z1 : Ext w (w1.setCell ⟨w.heap.size + 2, 1, none⟩ (.slice b1 s.op.length d1)) := xw1.setCell (by dsimp only; omega) _
  simp only [List.set_cons_succ, List.set_cons_zero] at Q
  generalize (w1.setCell ⟨w.heap.size + 2, 1, none⟩ (.slice b1 s.op.length d1)) = W1 at *
  have lq1 := Q.1
  clear xw1 x1 y1 O1
  refine (laws_toStringS _ s.sh _ (h2.ext (by repeat (first | (with_reducible first | exact Ext.refl _ | assumption | apply Ext.alloc | apply Ext.drew | apply Ext.drewN | refine Ext.setCell ?_ ?_ _ | refine Ext.trans ?_ (by assumption)) | (show _ ≤ _; first | omega | (dsimp only; omega) | (simp; done) | (simp; omega))))) l2).mono ?_
  rintro e w2 ⟨b2, d2, rfl, o2, x2⟩
  have y2 : Ext W1 w2 := (by repeat (first | (with_reducible first | exact Ext.refl _ | assumption | apply Ext.alloc | apply Ext.drew | apply Ext.drewN | refine Ext.setCell ?_ ?_ _ | refine Ext.trans ?_ (by assumption)) | (show _ ≤ _; first | omega | (dsimp only; omega) | (simp; done) | (simp; omega))))
  replace P := P.ext y2
  replace RR := RR.ext y2
  replace Q := Q.ext y2
  replace o1 := own_ext o1 y2
  have p0c := P.2.1 0 _ rfl
  have p1c := P.2.1 1 _ rfl
  have p2c := P.2.1 2 _ rfl
  have p3c := P.2.1 3 _ rfl
  have q0c := Q.2.1 0 _ rfl
  have q1c := Q.2.1 1 _ rfl
  have q2c := Q.2.1 2 _ rfl
  have q3c := Q.2.1 3 _ rfl
  have r0c := RR.2.1 0 _ rfl
  have r1c := RR.2.1 1 _ rfl
  have r2c := RR.2.1 2 _ rfl
  have r3c := RR.2.1 3 _ rfl
  have pf := P.2.2
  have qf := Q.2.2
  have rf := RR.2.2
  have xw2 : Ext w w2 := (by repeat (first | (with_reducible first | exact Ext.refl _ | assumption | apply Ext.alloc | apply Ext.drew | apply Ext.drewN | refine Ext.setCell ?_ ?_ _ | refine Ext.trans ?_ (by assumption)) | (show _ ≤ _; first | omega | (dsimp only; omega) | (simp; done) | (simp; omega))))
  have O1 := Lib.hid o1
  have O2 := Lib.hid o2
  clear o1 o2
  go_wp2_with fail
  clear p0c p1c p2c p3c q0c q1c q2c q3c r0c r1c r2c r3c pf qf rf
  replace P := P.far (c := w.heap.size + 2) (by omega) 2 (.slice b2 s.sh.length d2)
  replace RR := RR.far (c := w.heap.size + 2) (by omega) 2 (.slice b2 s.sh.length d2)
  replace Q := Q.set 2 (.slice b2 s.sh.length d2) (by simp)
  have o1 := own_below O1.out (p := ⟨w.heap.size + 2, 2, none⟩) (u := (.slice b2 s.sh.length d2)) lq0
  have o2 := own_below O2.out (p := ⟨w.heap.size + 2, 2, none⟩) (u := (.slice b2 s.sh.length d2)) lq1
  have z2 : Ext w (w2.setCell ⟨w.heap.size + 2, 2, none⟩ (.slice b2 s.sh.length d2)) := xw2.setCell (by dsimp only; omega) _
  simp only [List.set_cons_succ, List.set_cons_zero] at Q
  generalize (w2.setCell ⟨w.heap.size + 2, 2, none⟩ (.slice b2 s.sh.length d2)) = W2 at *
  have lq2 := Q.1
  clear xw2 x2 y2 O1 O2
  refine (laws_toStringS _ s.si _ (h3.ext (by repeat (first | (with_reducible first | exact Ext.refl _ | assumption | apply Ext.alloc | apply Ext.drew | apply Ext.drewN | refine Ext.setCell ?_ ?_ _ | refine Ext.trans ?_ (by assumption)) | (show _ ≤ _; first | omega | (dsimp only; omega) | (simp; done) | (simp; omega))))) l3).mono ?_
  rintro e w3 ⟨b3, d3, rfl, o3, x3⟩
  have y3 : Ext W2 w3 := (by repeat (first | (with_reducible first | exact Ext.refl _ | assumption | apply Ext.alloc | apply Ext.drew | apply Ext.drewN | refine Ext.setCell ?_ ?_ _ | refine Ext.trans ?_ (by assumption)) | (show _ ≤ _; first | omega | (dsimp only; omega) | (simp; done) | (simp; omega))))
  replace P := P.ext y3
  replace RR := RR.ext y3
  replace Q := Q.ext y3
  replace o1 := own_ext o1 y3
  replace o2 := own_ext o2 y3
  have p0c := P.2.1 0 _ rfl
  have p1c := P.2.1 1 _ rfl
  have p2c := P.2.1 2 _ rfl
  have p3c := P.2.1 3 _ rfl
  have q0c := Q.2.1 0 _ rfl
  have q1c := Q.2.1 1 _ rfl
  have q2c := Q.2.1 2 _ rfl
  have q3c := Q.2.1 3 _ rfl
  have r0c := RR.2.1 0 _ rfl
  have r1c := RR.2.1 1 _ rfl
  have r2c := RR.2.1 2 _ rfl
  have r3c := RR.2.1 3 _ rfl
  have pf := P.2.2
  have qf := Q.2.2
  have rf := RR.2.2
  have xw3 : Ext w w3 := (by repeat (first | (with_reducible first | exact Ext.refl _ | assumption | apply Ext.alloc | apply Ext.drew | apply Ext.drewN | refine Ext.setCell ?_ ?_ _ | refine Ext.trans ?_ (by assumption)) | (show _ ≤ _; first | omega | (dsimp only; omega) | (simp; done) | (simp; omega))))
  have O1 := Lib.hid o1
  have O2 := Lib.hid o2
  have O3 := Lib.hid o3
  clear o1 o2 o3
  go_wp2
  refine bodyPost_ret (v := .agg #[.int .i64 s.at_, .slice b1 s.op.length d1, .slice b2 s.sh.length d2, .slice b3 s.si.length d3]) (by simp [results, Tryz.results71, go_sem, r0c, r1c, r2c, r3c]) rfl ⟨_, _, _, rfl, ?_, ?_, ?_, ?_⟩
  · exact (by show World.ownsRow _ _ _ _ _ _ _; apply own_mono; (repeat (with_reducible first | apply own_below | apply own_alloc | apply own_drew | apply own_drewN | refine own_ext ?_ (by assumption))); exact O1.out; all_goals (first | omega | (dsimp only; omega) | (simp; done) | (simp; omega)))
  · exact (by show World.ownsRow _ _ _ _ _ _ _; apply own_mono; (repeat (with_reducible first | apply own_below | apply own_alloc | apply own_drew | apply own_drewN | refine own_ext ?_ (by assumption))); exact O2.out; all_goals (first | omega | (dsimp only; omega) | (simp; done) | (simp; omega)))
  · exact (by show World.ownsRow _ _ _ _ _ _ _; apply own_mono; (repeat (with_reducible first | apply own_below | apply own_alloc | apply own_drew | apply own_drewN | refine own_ext ?_ (by assumption))); exact O3.out; all_goals (first | omega | (dsimp only; omega) | (simp; done) | (simp; omega)))
  · exact (by repeat (first | (with_reducible first | exact Ext.refl _ | assumption | apply Ext.alloc | apply Ext.drew | apply Ext.drewN | refine Ext.setCell ?_ ?_ _ | refine Ext.trans ?_ (by assumption)) | (show _ ≤ _; first | omega | (dsimp only; omega) | (simp; done) | (simp; omega))))

set_option maxHeartbeats 1600000 in
theorem laws_eqSigT (v1 v2 v3 u1 u2 u3 : Value) (s : SigV) (w : World) (h1 : Strs w v1 s.op) (h2 : Strs w v2 s.sh) (h3 : Strs w v3 s.si) (g1 : Strs w u1 s.op) (g2 : Strs w u2 s.sh) (g3 : Strs w u3 s.si) :
    Calls Tryz.prog 88 #[.agg #[.int .i64 s.at_, v1, v2, v3], .agg #[.int .i64 s.at_, u1, u2, u3]] w fun e w' => e = .returned (.bool true) ∧ Ext w w' := by
  obtain ⟨a1, c1, rfl⟩ := h1.form
  obtain ⟨a2, c2, rfl⟩ := h2.form
  obtain ⟨a3, c3, rfl⟩ := h3.form
  obtain ⟨b1, d1, rfl⟩ := g1.form
  obtain ⟨b2, d2, rfl⟩ := g2.form
  obtain ⟨b3, d3, rfl⟩ := g3.form
  go_enter Tryz.func88, Tryz.ntmps88
  go_wp2_with fail
  have P : Bx ((w.alloc (Obj.cells #[.int .i64 s.at_, .slice a1 s.op.length c1, .slice a2 s.sh.length c2, .slice a3 s.si.length c3] 47)).alloc (Obj.cells #[.int .i64 s.at_, .slice b1 s.op.length d1, .slice b2 s.sh.length d2, .slice b3 s.si.length d3] 47)) w.heap.size [.int .i64 s.at_, .slice a1 s.op.length c1, .slice a2 s.sh.length c2, .slice a3 s.si.length c3] := (Bx.new w _ _).ext ((Ext.refl _).alloc _)
  have Q : Bx ((w.alloc (Obj.cells #[.int .i64 s.at_, .slice a1 s.op.length c1, .slice a2 s.sh.length c2, .slice a3 s.si.length c3] 47)).alloc (Obj.cells #[.int .i64 s.at_, .slice b1 s.op.length d1, .slice b2 s.sh.length d2, .slice b3 s.si.length d3] 47)) (w.heap.size + 1) [.int .i64 s.at_, .slice b1 s.op.length d1, .slice b2 s.sh.length d2, .slice b3 s.si.length d3] := by
    have e := Bx.new (w.alloc (Obj.cells #[.int .i64 s.at_, .slice a1 s.op.length c1, .slice a2 s.sh.length c2, .slice a3 s.si.length c3] 47)) #[.int .i64 s.at_, .slice b1 s.op.length d1, .slice b2 s.sh.length d2, .slice b3 s.si.length d3] 47
    rw [World.size_alloc] at e
    exact e
  have x0 : Ext w ((w.alloc (Obj.cells #[.int .i64 s.at_, .slice a1 s.op.length c1, .slice a2 s.sh.length c2, .slice a3 s.si.length c3] 47)).alloc (Obj.cells #[.int .i64 s.at_, .slice b1 s.op.length d1, .slice b2 s.sh.length d2, .slice b3 s.si.length d3] 47)) := ((Ext.refl w).alloc _).alloc _
  generalize ((w.alloc (Obj.cells #[.int .i64 s.at_, .slice a1 s.op.length c1, .slice a2 s.sh.length c2, .slice a3 s.si.length c3] 47)).alloc (Obj.cells #[.int .i64 s.at_, .slice b1 s.op.length d1, .slice b2 s.sh.length d2, .slice b3 s.si.length d3] 47)) = W0 at *
  refine (laws_eqStringS _ _ s.op s.op _ (h1.ext (by repeat (first | (with_reducible first | exact Ext.refl _ | assumption | apply Ext.alloc | apply Ext.drew | apply Ext.drewN | refine Ext.setCell ?_ ?_ _ | refine Ext.trans ?_ (by assumption)) | (show _ ≤ _; first | omega | (dsimp only; omega) | (simp; done) | (simp; omega))))) (g1.ext (by repeat (first | (with_reducible first | exact Ext.refl _ | assumption | apply Ext.alloc | apply Ext.drew | apply Ext.drewN | refine Ext.setCell ?_ ?_ _ | refine Ext.trans ?_ (by assumption)) | (show _ ≤ _; first | omega | (dsimp only; omega) | (simp; done) | (simp; omega)))))).mono ?_
  rw [show decide (s.op = s.op) = true by simp]
  rintro e w1 ⟨rfl, x1⟩
  have y1 : Ext W0 w1 := (by repeat (first | (with_reducible first | exact Ext.refl _ | assumption | apply Ext.alloc | apply Ext.drew | apply Ext.drewN | refine Ext.setCell ?_ ?_ _ | refine Ext.trans ?_ (by assumption)) | (show _ ≤ _; first | omega | (dsimp only; omega) | (simp; done) | (simp; omega))))
  replace P := P.ext y1
  replace Q := Q.ext y1
  have p0c := P.2.1 0 _ rfl
  have p1c := P.2.1 1 _ rfl
  have p2c := P.2.1 2 _ rfl
  have p3c := P.2.1 3 _ rfl
  have q0c := Q.2.1 0 _ rfl
  have q1c := Q.2.1 1 _ rfl
  have q2c := Q.2.1 2 _ rfl
  have q3c := Q.2.1 3 _ rfl
  go_wp2_with fail
  refine (laws_eqStringS _ _ s.sh s.sh _ (h2.ext (by repeat (first | (with_reducible first | exact Ext.refl _ | assumption | apply Ext.alloc | apply Ext.drew | apply Ext.drewN | refine Ext.setCell ?_ ?_ _ | refine Ext.trans ?_ (by assumption)) | (show _ ≤ _; first | omega | (dsimp only; omega) | (simp; done) | (simp; omega))))) (g2.ext (by repeat (first | (with_reducible first | exact Ext.refl _ | assumption | apply Ext.alloc | apply Ext.drew | apply Ext.drewN | refine Ext.setCell ?_ ?_ _ | refine Ext.trans ?_ (by assumption)) | (show _ ≤ _; first | omega | (dsimp only; omega) | (simp; done) | (simp; omega)))))).mono ?_
  rw [show decide (s.sh = s.sh) = true by simp]
  rintro e w2 ⟨rfl, x2⟩
  have y2 : Ext w1 w2 := (by repeat (first | (with_reducible first | exact Ext.refl _ | assumption | apply Ext.alloc | apply Ext.drew | apply Ext.drewN | refine Ext.setCell ?_ ?_ _ | refine Ext.trans ?_ (by assumption)) | (show _ ≤ _; first | omega | (dsimp only; omega) | (simp; done) | (simp; omega))))
  replace P := P.ext y2
  replace Q := Q.ext y2
  have p0c := P.2.1 0 _ rfl
  have p1c := P.2.1 1 _ rfl
  have p2c := P.2.1 2 _ rfl
  have p3c := P.2.1 3 _ rfl
  have q0c := Q.2.1 0 _ rfl
  have q1c := Q.2.1 1 _ rfl
  have q2c := Q.2.1 2 _ rfl
  have q3c := Q.2.1 3 _ rfl
  go_wp2_with fail
  refine (laws_eqStringS _ _ s.si s.si _ (h3.ext (by repeat (first | (with_reducible first | exact Ext.refl _ | assumption | apply Ext.alloc | apply Ext.drew | apply Ext.drewN | refine Ext.setCell ?_ ?_ _ | refine Ext.trans ?_ (by assumption)) | (show _ ≤ _; first | omega | (dsimp only; omega) | (simp; done) | (simp; omega))))) (g3.ext (by repeat (first | (with_reducible first | exact Ext.refl _ | assumption | apply Ext.alloc | apply Ext.drew | apply Ext.drewN | refine Ext.setCell ?_ ?_ _ | refine Ext.trans ?_ (by assumption)) | (show _ ≤ _; first | omega | (dsimp only; omega) | (simp; done) | (simp; omega)))))).mono ?_
  rw [show decide (s.si = s.si) = true by simp]
  rintro e w3 ⟨rfl, x3⟩
  have y3 : Ext w2 w3 := (by repeat (first | (with_reducible first | exact Ext.refl _ | assumption | apply Ext.alloc | apply Ext.drew | apply Ext.drewN | refine Ext.setCell ?_ ?_ _ | refine Ext.trans ?_ (by assumption)) | (show _ ≤ _; first | omega | (dsimp only; omega) | (simp; done) | (simp; omega))))
  replace P := P.ext y3
  replace Q := Q.ext y3
  have p0c := P.2.1 0 _ rfl
  have p1c := P.2.1 1 _ rfl
  have p2c := P.2.1 2 _ rfl
  have p3c := P.2.1 3 _ rfl
  have q0c := Q.2.1 0 _ rfl
  have q1c := Q.2.1 1 _ rfl
  have q2c := Q.2.1 2 _ rfl
  have q3c := Q.2.1 3 _ rfl
  go_wp2
  go_ret
  exact ⟨rfl, (by repeat (first | (with_reducible first | exact Ext.refl _ | assumption | apply Ext.alloc | apply Ext.drew | apply Ext.drewN | refine Ext.setCell ?_ ?_ _ | refine Ext.trans ?_ (by assumption)) | (show _ ≤ _; first | omega | (dsimp only; omega) | (simp; done) | (simp; omega))))⟩

set_option maxHeartbeats 1600000 in
theorem laws_eqSealT (hh ep : Int) (r p : ByteArray) (v1 v2 v3 u1 u2 u3 : Value) (s : SigV) (w : World) (h1 : Strs w v1 s.op) (h2 : Strs w v2 s.sh) (h3 : Strs w v3 s.si) (g1 : Strs w u1 s.op) (g2 : Strs w u2 s.sh) (g3 : Strs w u3 s.si) :
    Calls Tryz.prog 44 #[.agg #[.int .i64 hh, .int .i64 ep, .string r, .string p, .int .i64 s.at_, v1, v2, v3], .agg #[.int .i64 hh, .int .i64 ep, .string r, .string p, .int .i64 s.at_, u1, u2, u3]] w fun e w' => e = .returned (.bool true) ∧ Ext w w' := by
  obtain ⟨a1, c1, rfl⟩ := h1.form
  obtain ⟨a2, c2, rfl⟩ := h2.form
  obtain ⟨a3, c3, rfl⟩ := h3.form
  obtain ⟨b1, d1, rfl⟩ := g1.form
  obtain ⟨b2, d2, rfl⟩ := g2.form
  obtain ⟨b3, d3, rfl⟩ := g3.form
  go_enter Tryz.func44, Tryz.ntmps44
  go_wp2_with fail
  have P : Bx ((w.alloc (Obj.cells #[.int .i64 hh, .int .i64 ep, .string r, .string p, .int .i64 s.at_, .slice a1 s.op.length c1, .slice a2 s.sh.length c2, .slice a3 s.si.length c3] 49)).alloc (Obj.cells #[.int .i64 hh, .int .i64 ep, .string r, .string p, .int .i64 s.at_, .slice b1 s.op.length d1, .slice b2 s.sh.length d2, .slice b3 s.si.length d3] 49)) w.heap.size [.int .i64 hh, .int .i64 ep, .string r, .string p, .int .i64 s.at_, .slice a1 s.op.length c1, .slice a2 s.sh.length c2, .slice a3 s.si.length c3] := (Bx.new w _ _).ext ((Ext.refl _).alloc _)
  have Q : Bx ((w.alloc (Obj.cells #[.int .i64 hh, .int .i64 ep, .string r, .string p, .int .i64 s.at_, .slice a1 s.op.length c1, .slice a2 s.sh.length c2, .slice a3 s.si.length c3] 49)).alloc (Obj.cells #[.int .i64 hh, .int .i64 ep, .string r, .string p, .int .i64 s.at_, .slice b1 s.op.length d1, .slice b2 s.sh.length d2, .slice b3 s.si.length d3] 49)) (w.heap.size + 1) [.int .i64 hh, .int .i64 ep, .string r, .string p, .int .i64 s.at_, .slice b1 s.op.length d1, .slice b2 s.sh.length d2, .slice b3 s.si.length d3] := by
    have e := Bx.new (w.alloc (Obj.cells #[.int .i64 hh, .int .i64 ep, .string r, .string p, .int .i64 s.at_, .slice a1 s.op.length c1, .slice a2 s.sh.length c2, .slice a3 s.si.length c3] 49)) #[.int .i64 hh, .int .i64 ep, .string r, .string p, .int .i64 s.at_, .slice b1 s.op.length d1, .slice b2 s.sh.length d2, .slice b3 s.si.length d3] 49
    rw [World.size_alloc] at e
    exact e
  have x0 : Ext w ((w.alloc (Obj.cells #[.int .i64 hh, .int .i64 ep, .string r, .string p, .int .i64 s.at_, .slice a1 s.op.length c1, .slice a2 s.sh.length c2, .slice a3 s.si.length c3] 49)).alloc (Obj.cells #[.int .i64 hh, .int .i64 ep, .string r, .string p, .int .i64 s.at_, .slice b1 s.op.length d1, .slice b2 s.sh.length d2, .slice b3 s.si.length d3] 49)) := ((Ext.refl w).alloc _).alloc _
  generalize ((w.alloc (Obj.cells #[.int .i64 hh, .int .i64 ep, .string r, .string p, .int .i64 s.at_, .slice a1 s.op.length c1, .slice a2 s.sh.length c2, .slice a3 s.si.length c3] 49)).alloc (Obj.cells #[.int .i64 hh, .int .i64 ep, .string r, .string p, .int .i64 s.at_, .slice b1 s.op.length d1, .slice b2 s.sh.length d2, .slice b3 s.si.length d3] 49)) = W0 at *
  refine (laws_eqHead _ _ _ _ _ _ _ _ _).mono ?_
  rw [show (decide (hh = hh) && (decide (ep = ep) && (decide (r = r) && decide (p = p)))) = true by simp]
  rintro e w1 ⟨rfl, x1⟩
  have y1 : Ext W0 w1 := (by repeat (first | (with_reducible first | exact Ext.refl _ | assumption | apply Ext.alloc | apply Ext.drew | apply Ext.drewN | refine Ext.setCell ?_ ?_ _ | refine Ext.trans ?_ (by assumption)) | (show _ ≤ _; first | omega | (dsimp only; omega) | (simp; done) | (simp; omega))))
  replace P := P.ext y1
  replace Q := Q.ext y1
  have p0c := P.2.1 0 _ rfl
  have p1c := P.2.1 1 _ rfl
  have p2c := P.2.1 2 _ rfl
  have p3c := P.2.1 3 _ rfl
  have p4c := P.2.1 4 _ rfl
  have p5c := P.2.1 5 _ rfl
  have p6c := P.2.1 6 _ rfl
  have p7c := P.2.1 7 _ rfl
  have q0c := Q.2.1 0 _ rfl
  have q1c := Q.2.1 1 _ rfl
  have q2c := Q.2.1 2 _ rfl
  have q3c := Q.2.1 3 _ rfl
  have q4c := Q.2.1 4 _ rfl
  have q5c := Q.2.1 5 _ rfl
  have q6c := Q.2.1 6 _ rfl
  have q7c := Q.2.1 7 _ rfl
  go_wp2_with fail
  refine (laws_eqSigT _ _ _ _ _ _ s _ (h1.ext (by repeat (first | (with_reducible first | exact Ext.refl _ | assumption | apply Ext.alloc | apply Ext.drew | apply Ext.drewN | refine Ext.setCell ?_ ?_ _ | refine Ext.trans ?_ (by assumption)) | (show _ ≤ _; first | omega | (dsimp only; omega) | (simp; done) | (simp; omega))))) (h2.ext (by repeat (first | (with_reducible first | exact Ext.refl _ | assumption | apply Ext.alloc | apply Ext.drew | apply Ext.drewN | refine Ext.setCell ?_ ?_ _ | refine Ext.trans ?_ (by assumption)) | (show _ ≤ _; first | omega | (dsimp only; omega) | (simp; done) | (simp; omega))))) (h3.ext (by repeat (first | (with_reducible first | exact Ext.refl _ | assumption | apply Ext.alloc | apply Ext.drew | apply Ext.drewN | refine Ext.setCell ?_ ?_ _ | refine Ext.trans ?_ (by assumption)) | (show _ ≤ _; first | omega | (dsimp only; omega) | (simp; done) | (simp; omega))))) (g1.ext (by repeat (first | (with_reducible first | exact Ext.refl _ | assumption | apply Ext.alloc | apply Ext.drew | apply Ext.drewN | refine Ext.setCell ?_ ?_ _ | refine Ext.trans ?_ (by assumption)) | (show _ ≤ _; first | omega | (dsimp only; omega) | (simp; done) | (simp; omega))))) (g2.ext (by repeat (first | (with_reducible first | exact Ext.refl _ | assumption | apply Ext.alloc | apply Ext.drew | apply Ext.drewN | refine Ext.setCell ?_ ?_ _ | refine Ext.trans ?_ (by assumption)) | (show _ ≤ _; first | omega | (dsimp only; omega) | (simp; done) | (simp; omega))))) (g3.ext (by repeat (first | (with_reducible first | exact Ext.refl _ | assumption | apply Ext.alloc | apply Ext.drew | apply Ext.drewN | refine Ext.setCell ?_ ?_ _ | refine Ext.trans ?_ (by assumption)) | (show _ ≤ _; first | omega | (dsimp only; omega) | (simp; done) | (simp; omega)))))).mono ?_
  rintro e w2 ⟨rfl, x2⟩
  go_wp2
  go_ret
  exact ⟨rfl, (by repeat (first | (with_reducible first | exact Ext.refl _ | assumption | apply Ext.alloc | apply Ext.drew | apply Ext.drewN | refine Ext.setCell ?_ ?_ _ | refine Ext.trans ?_ (by assumption)) | (show _ ≤ _; first | omega | (dsimp only; omega) | (simp; done) | (simp; omega))))⟩

def sealN (r p : ByteArray) (s : SigV) : List Nat := (r.size + p.size) :: sigN s
set_option maxHeartbeats 1600000 in
theorem laws_szSeal (hh ep : Int) (r p : ByteArray) (v1 v2 v3 : Value) (s : SigV) (left : Int) (w : World) (h1 : Strs w v1 s.op) (h2 : Strs w v2 s.sh) (h3 : Strs w v3 s.si) (hr : r.size ≤ maxLen) (hp : p.size ≤ maxLen) (hs : SigFit s) (hl : 0 ≤ left ∧ left ≤ 1048576) :
    Calls Tryz.prog 20 #[.agg #[.int .i64 hh, .int .i64 ep, .string r, .string p, .int .i64 s.at_, v1, v2, v3], .int .i64 left] w fun e w' => e = .returned (.int .i64 (szl left (sealN r p s))) ∧ Ext w w' := by
  obtain ⟨a1, c1, rfl⟩ := h1.form
  obtain ⟨a2, c2, rfl⟩ := h2.form
  obtain ⟨a3, c3, rfl⟩ := h3.form
  rcases szr_two left (r.size + p.size) hl with k1 | ⟨z1, k1, k2, k3, -⟩
  · have R := Lib.hid (szl_neg (sigN s) k1)
    have K1 := Lib.hid k1
    clear k1
    go_enter Tryz.func20, Tryz.ntmps20
    go_wp2_with fail
    refine (laws_szHead _ _ _ _ _ _ hl hr hp).mono ?_
    rw [K1.out]
    rintro e w1 ⟨rfl, x1⟩
    go_wp2
    go_ret
    exact ⟨ret_int R.out.symm, (by repeat (first | (with_reducible first | exact Ext.refl _ | assumption | apply Ext.alloc | apply Ext.drew | apply Ext.drewN | refine Ext.setCell ?_ ?_ _ | refine Ext.trans ?_ (by assumption)) | (show _ ≤ _; first | omega | (dsimp only; omega) | (simp; done) | (simp; omega))))⟩
  · have R1 := szl_pos (sigN s) k1 k2
    have K1 := Lib.hid k1
    have hcase : szl z1 (sigN s) = -1 ∨ 0 ≤ szl z1 (sigN s) := by
      rcases szl_two (sigN s) z1 ⟨k2, k3⟩ with e | ⟨y, e, e0, -⟩
      · exact Or.inl e
      · exact Or.inr (by omega)
    clear k1
    generalize hy : szl z1 (sigN s) = y at *
    have R := Lib.hid R1
    have K2 := Lib.hid hy
    clear R1 hy
    rcases hcase with rfl | hcase
    all_goals
      go_enter Tryz.func20, Tryz.ntmps20
      go_wp2_with fail
      refine (laws_szHead _ _ _ _ _ _ hl hr hp).mono ?_
      rw [K1.out]
      rintro e w1 ⟨rfl, x1⟩
      have E_x1 := Old.of x1; (repeat (first | (replace E_x1 := Old.undrew E_x1) | (replace E_x1 := Old.undrewN E_x1))); have c_E_x1 := Old.cell E_x1; have f_E_x1 := Old.frozen E_x1; have z_E_x1 := Old.size E_x1; try simp only [World.size_alloc] at c_E_x1 f_E_x1 z_E_x1; try have l_E_x1 := Nat.lt_of_succ_le z_E_x1; try have m_E_x1 := Nat.lt_of_succ_lt l_E_x1; try have n_E_x1 := Nat.lt_of_succ_lt m_E_x1
      go_wp2_with fail
      refine (laws_szSig _ _ _ s _ _ (h1.ext (by repeat (first | (with_reducible first | exact Ext.refl _ | assumption | apply Ext.alloc | apply Ext.drew | apply Ext.drewN | refine Ext.setCell ?_ ?_ _ | refine Ext.trans ?_ (by assumption)) | (show _ ≤ _; first | omega | (dsimp only; omega) | (simp; done) | (simp; omega))))) (h2.ext (by repeat (first | (with_reducible first | exact Ext.refl _ | assumption | apply Ext.alloc | apply Ext.drew | apply Ext.drewN | refine Ext.setCell ?_ ?_ _ | refine Ext.trans ?_ (by assumption)) | (show _ ≤ _; first | omega | (dsimp only; omega) | (simp; done) | (simp; omega))))) (h3.ext (by repeat (first | (with_reducible first | exact Ext.refl _ | assumption | apply Ext.alloc | apply Ext.drew | apply Ext.drewN | refine Ext.setCell ?_ ?_ _ | refine Ext.trans ?_ (by assumption)) | (show _ ≤ _; first | omega | (dsimp only; omega) | (simp; done) | (simp; omega))))) hs ⟨k2, k3⟩).mono ?_
      rw [K2.out]
      rintro e w2 ⟨rfl, x2⟩
      go_wp2
      go_ret
      exact ⟨ret_int R.out.symm, (by repeat (first | (with_reducible first | exact Ext.refl _ | assumption | apply Ext.alloc | apply Ext.drew | apply Ext.drewN | refine Ext.setCell ?_ ?_ _ | refine Ext.trans ?_ (by assumption)) | (show _ ≤ _; first | omega | (dsimp only; omega) | (simp; done) | (simp; omega))))⟩

end Go.Proofs.YtckipgijfgeghaaGreatDoor
