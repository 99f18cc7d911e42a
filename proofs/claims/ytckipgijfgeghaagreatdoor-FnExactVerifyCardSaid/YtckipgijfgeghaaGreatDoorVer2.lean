/- Verify: what it is; the reference's. -/
import Derived.Test.YtckipgijfgeghaaGreatDoorVer
import Derived.Test.YtckipgijfgeghaaGreatDoorStamp
import Derived.Test.YtckipgijfgeghaaGreatDoorSealK
import Derived.Test.YtckipgijfgeghaaGreatDoorFold
import Derived.Test.YtckipgijfgeghaaGreatDoorTx
import Derived.Test.YtckipgijfgeghaaGreatDoorLeafA
import Derived.OwnWalk
namespace Go.Proofs.YtckipgijfgeghaaGreatDoor
open Go.RowKit

def vdB (rs : List ByteArray) (house hh ep : Int) (r p : ByteArray) (x : StW) : Bool := inB x.by_ 0 ((rs.length : Int) - 1) && (decide (x.by_ ≠ house) && stampOkB (rs.getD x.by_.toNat ⟨#[]⟩) hh ep r p x.s)
def vdN (rs : List ByteArray) (house hh ep : Int) (r p : ByteArray) (xs : List StW) : Nat := (xs.filter (vdB rs house hh ep r p)).length
theorem vdN_succ (rs : List ByteArray) (house hh ep : Int) (r p : ByteArray) {xs : List StW} {k : Nat} (h : k < xs.length) : vdN rs house hh ep r p (xs.take (k + 1)) = vdN rs house hh ep r p (xs.take k) + (if vdB rs house hh ep r p xs[k] = true then 1 else 0) := by
  rw [vdN, vdN, List.take_succ_eq_append_getElem h, List.filter_append, List.length_append, List.filter_cons, List.filter_nil]
  split <;> rfl
theorem vdN_le (rs : List ByteArray) (house hh ep : Int) (r p : ByteArray) (xs : List StW) (k : Nat) : vdN rs house hh ep r p (xs.take k) ≤ k := Nat.le_trans (List.length_filter_le _ _) (by rw [List.length_take]; omega)
def foldW (name : ByteArray) (lv : List Leaf) (ss tops : List ByteArray) (kz : Int) : ByteArray := foldH (prHash name lv ss 16) (idxT name) kz tops 16
def verN (rs : List ByteArray) (kz need house : Int) (name : ByteArray) (epoch : Int) (lv : List Leaf) (ss tops : List ByteArray) (hh ep : Int) (r p : ByteArray) (S : SigV) (xs : List StW) : Int :=
  if formB rs kz need house name lv ss tops (xs.map StW.by_) = false then 1 else if ¬ (hh = house ∧ ep = epoch) then 2 else if sealOkB (rs.getD house.toNat ⟨#[]⟩) hh ep r p S = false then 3 else if foldW name lv ss tops kz ≠ r then 4 else if (vdN rs house hh ep r p xs : Int) < need then 5 else 0
def verT (c : Int) (v : ByteArray) : ByteArray := if c = 0 then v else ⟨#[]⟩
def verK (c : Int) (b : Bool) : Bool := decide (c = 0) && b
theorem ver_no {N c : Int} (h : N = c) (hc : c ≠ 0) {v : ByteArray} {b : Bool} : Ending.returned (.tuple #[.string ⟨#[]⟩, .bool false, .int .i64 c]) = .returned (.tuple #[.string (verT N v), .bool (verK N b), .int .i64 N]) := by rw [h, verT, if_neg hc, verK, decide_eq_false hc]; rfl
theorem ver_yes {N : Int} (h : N = 0) {v : ByteArray} {b : Bool} : Ending.returned (.tuple #[.string v, .bool b, .int .i64 0]) = .returned (.tuple #[.string (verT N v), .bool (verK N b), .int .i64 N]) := by rw [h, verT, if_pos rfl, verK, decide_eq_true rfl]; rfl
theorem form_bd {rs : List ByteArray} {kz need house : Int} {name : ByteArray} {lv : List Leaf} {ss tops : List ByteArray} {bys : List Int} (h : formB rs kz need house name lv ss tops bys = true) : (1 ≤ rs.length ∧ rs.length ≤ 3 ∧ 0 ≤ kz ∧ kz ≤ 2 ∧ 0 ≤ need ∧ need ≤ 2) ∧ 0 ≤ house ∧ house ≤ (rs.length : Int) - 1 := by
  simp only [formB, Bool.and_eq_true] at h
  exact ⟨trust_bd h.1, inB_true.1 h.2.1⟩
theorem prHash_le (n : ByteArray) (xs : List Leaf) (ss : List ByteArray) : (prHash n xs ss 16).size ≤ maxLen := by
  unfold prHash
  split
  · exact Nat.zero_le _
  · exact le_max (cutT_le _ _) (by omega)
theorem rs_cell {w W : World} {v : Value} {rs : List ByteArray} (h : Strs w v rs) (hx : Ext w W) (hn : 0 < rs.length) : ∃ q o c, v = .slice (some ⟨q, o, none⟩) rs.length c ∧ q < w.heap.size ∧ ∀ j, j < rs.length → W.cell? ⟨q, o + j, none⟩ = some (.string (rs.getD j ⟨#[]⟩)) := by
  obtain ⟨-, a, c, hv, hc, hm, hg⟩ := h
  rcases hg with h0 | ⟨q, o, rfl, hb, hg⟩
  · omega
  · refine ⟨q, o, c, hv, hb, fun j hj => ?_⟩
    rw [hx.cell q (o + j) hb]
    exact hg j _ (by rw [List.getElem?_map, List.getElem?_eq_getElem hj, List.getD_eq_getElem?_getD, List.getElem?_eq_getElem hj]; rfl)
set_option maxRecDepth 100000 in
set_option maxHeartbeats 12800000 in
theorem spec_Verify (v0 v1 v2 v3 v4 v5 v6 v7 : Value) (rs : List ByteArray) (kz need house : Int) (name : ByteArray) (epoch : Int) (lv : List Leaf) (ss tops : List ByteArray) (hh ep : Int) (r p : ByteArray) (S : SigV) (xs : List StW) (w : World) (h0 : Strs w v0 rs) (h1 : Lvs w v1 lv) (h2 : Strs w v2 ss) (h3 : Strs w v3 tops) (h4 : Strs w v4 S.op) (h5 : Strs w v5 S.sh) (h6 : Strs w v6 S.si) (h7 : Sts w v7 xs) (hs0 : ∀ s ∈ rs, s.size ≤ maxLen) (hnm : name.size ≤ maxLen) (hnm2 : name.size ≤ 1073741824) (hf : LeafFit lv) (hs2 : ∀ s ∈ ss, s.size ≤ maxLen) (hs3 : ∀ s ∈ tops, s.size ≤ maxLen) (hS : SigFit S) (hX : ∀ x ∈ xs, SigFit x.s) :
    Calls Tryz.prog 7 #[.agg #[v0, .int .i64 kz, .int .i64 need], .int .i64 house, .string name, .int .i64 epoch, .agg #[v1, v2, v3, .int .i64 hh, .int .i64 ep, .string r, .string p, .int .i64 S.at_, v4, v5, v6, v7]] w fun e w' => e = .returned (.tuple #[.string (verT (verN rs kz need house name epoch lv ss tops hh ep r p S xs) (leafVal lv name)), .bool (verK (verN rs kz need house name epoch lv ss tops hh ep r p S xs) (leafHas lv name)), .int .i64 (verN rs kz need house name epoch lv ss tops hh ep r p S xs)]) ∧ Ext w w' := by
  obtain ⟨b0, c0, rfl⟩ := h0.form
  obtain ⟨b1, c1, rfl⟩ := h1.form
  obtain ⟨b2, c2, rfl⟩ := h2.form
  obtain ⟨b3, c3, rfl⟩ := h3.form
  obtain ⟨b4, c4, rfl⟩ := h4.form
  obtain ⟨b5, c5, rfl⟩ := h5.form
  obtain ⟨b6, c6, rfl⟩ := h6.form
  obtain ⟨b7, c7, rfl⟩ := h7.form
  have Q : Bx ((w.alloc (Obj.cells #[.slice b0 rs.length c0, .int .i64 kz, .int .i64 need] 41)).alloc (Obj.cells #[.slice b1 lv.length c1, .slice b2 ss.length c2, .slice b3 tops.length c3, .int .i64 hh, .int .i64 ep, .string r, .string p, .int .i64 S.at_, .slice b4 S.op.length c4, .slice b5 S.sh.length c5, .slice b6 S.si.length c6, .slice b7 xs.length c7] 52)) w.heap.size [.slice b0 rs.length c0, .int .i64 kz, .int .i64 need] := (Bx.new w _ _).ext ((Ext.refl _).alloc _)
  have P : Bx ((w.alloc (Obj.cells #[.slice b0 rs.length c0, .int .i64 kz, .int .i64 need] 41)).alloc (Obj.cells #[.slice b1 lv.length c1, .slice b2 ss.length c2, .slice b3 tops.length c3, .int .i64 hh, .int .i64 ep, .string r, .string p, .int .i64 S.at_, .slice b4 S.op.length c4, .slice b5 S.sh.length c5, .slice b6 S.si.length c6, .slice b7 xs.length c7] 52)) (w.heap.size + 1) [.slice b1 lv.length c1, .slice b2 ss.length c2, .slice b3 tops.length c3, .int .i64 hh, .int .i64 ep, .string r, .string p, .int .i64 S.at_, .slice b4 S.op.length c4, .slice b5 S.sh.length c5, .slice b6 S.si.length c6, .slice b7 xs.length c7] := by
    have e := Bx.new (w.alloc (Obj.cells #[.slice b0 rs.length c0, .int .i64 kz, .int .i64 need] 41)) #[.slice b1 lv.length c1, .slice b2 ss.length c2, .slice b3 tops.length c3, .int .i64 hh, .int .i64 ep, .string r, .string p, .int .i64 S.at_, .slice b4 S.op.length c4, .slice b5 S.sh.length c5, .slice b6 S.si.length c6, .slice b7 xs.length c7] 52
    rw [World.size_alloc] at e
    exact e
  have X : Ext w ((w.alloc (Obj.cells #[.slice b0 rs.length c0, .int .i64 kz, .int .i64 need] 41)).alloc (Obj.cells #[.slice b1 lv.length c1, .slice b2 ss.length c2, .slice b3 tops.length c3, .int .i64 hh, .int .i64 ep, .string r, .string p, .int .i64 S.at_, .slice b4 S.op.length c4, .slice b5 S.sh.length c5, .slice b6 S.si.length c6, .slice b7 xs.length c7] 52)) := (((Ext.refl w).alloc _).alloc _)
  go_enter Tryz.func7, Tryz.ntmps7
  go_wp2_with fail
  generalize (w.alloc (Obj.cells #[.slice b0 rs.length c0, .int .i64 kz, .int .i64 need] 41)).alloc (Obj.cells #[.slice b1 lv.length c1, .slice b2 ss.length c2, .slice b3 tops.length c3, .int .i64 hh, .int .i64 ep, .string r, .string p, .int .i64 S.at_, .slice b4 S.op.length c4, .slice b5 S.sh.length c5, .slice b6 S.si.length c6, .slice b7 xs.length c7] 52) = W0 at *
  obtain ⟨B, hB⟩ : ∃ B, w.heap.size = B := ⟨_, rfl⟩
  rw [hB] at P Q
  skip
  simp only [hB]
  clear hB
  obtain ⟨kf, hkf⟩ : ∃ z, formB rs kz need house name lv ss tops (xs.map StW.by_) = z := ⟨_, rfl⟩
  have KF := Lib.hid hkf
  clear hkf
  refine (spec_l15Form _ _ _ _ _ _ _ _ rs kz need house name lv ss tops hh ep r p S xs _ (h0.ext X) (h1.ext X) (h2.ext X) (h3.ext X) (h4.ext X) (h5.ext X) (h6.ext X) (h7.ext X) hs0 hnm hf hs2 hs3).mono ?_
  rw [KF.out]
  rintro e w1 ⟨rfl, x1⟩
  replace P := P.ext x1
  replace Q := Q.ext x1
  replace X := X.trans x1
  cases kf
  · have p0 := P.2.1 0 _ rfl
    have p1 := P.2.1 1 _ rfl
    have p2 := P.2.1 2 _ rfl
    have p3 := P.2.1 3 _ rfl
    have p4 := P.2.1 4 _ rfl
    have p5 := P.2.1 5 _ rfl
    have p6 := P.2.1 6 _ rfl
    have p7 := P.2.1 7 _ rfl
    have p8 := P.2.1 8 _ rfl
    have p9 := P.2.1 9 _ rfl
    have p10 := P.2.1 10 _ rfl
    have p11 := P.2.1 11 _ rfl
    have t0 := Q.2.1 0 _ rfl
    have t1 := Q.2.1 1 _ rfl
    have t2 := Q.2.1 2 _ rfl
    have HV := Lib.hid (show verN rs kz need house name epoch lv ss tops hh ep r p S xs = 1 from by rw [verN, if_pos KF.out])
    go_wp2
    go_ret3
    exact ⟨ver_no HV.out (by decide), X⟩
  · obtain ⟨⟨hr1, hr2, hK1, hK2, hN1, hN2⟩, hh0, hh1⟩ := form_bd KF.out
    have HF1 := Lib.hid (show ¬ formB rs kz need house name lv ss tops (xs.map StW.by_) = false by rw [KF.out]; decide)
    obtain ⟨j, rfl⟩ := Int.eq_ofNat_of_zero_le hh0
    obtain ⟨nd, rfl⟩ := Int.eq_ofNat_of_zero_le hN1
    have hj : j < rs.length := by omega
    have hrl : (1 : Int) ≤ rs.length := by omega
    have hrl2 : (rs.length : Int) ≤ 3 := by omega
    obtain ⟨q0, o0, c0v, hv0, hb0, hc0⟩ := rs_cell h0 X (by omega)
    injection hv0 with i1 i2 i3
    subst i1 i3
    have HC0 := Lib.hid hc0
    clear hc0
    have l0 : q0 < w1.heap.size := Nat.lt_of_lt_of_le hb0 X.size
    have eh : Ext w1 (w1.alloc (Obj.cells #[.int .i64 hh, .int .i64 ep, .string r, .string p] 46)) := (Ext.refl _).alloc _
    have H := Bx.new w1 #[.int .i64 hh, .int .i64 ep, .string r, .string p] 46
    have p0 := P.2.1 0 _ rfl
    have p1 := P.2.1 1 _ rfl
    have p2 := P.2.1 2 _ rfl
    have p3 := P.2.1 3 _ rfl
    have p4 := P.2.1 4 _ rfl
    have p5 := P.2.1 5 _ rfl
    have p6 := P.2.1 6 _ rfl
    have p7 := P.2.1 7 _ rfl
    have p8 := P.2.1 8 _ rfl
    have p9 := P.2.1 9 _ rfl
    have p10 := P.2.1 10 _ rfl
    have p11 := P.2.1 11 _ rfl
    replace P := P.ext eh
    replace Q := Q.ext eh
    replace X := X.trans eh
    replace HC0 := Lib.hid (fun j hj => (Ext.cell eh _ _ l0).trans (HC0.out j hj))
    replace l0 := Nat.lt_of_lt_of_le l0 (Ext.size eh)
    go_upto_region 4 with (fail)
    generalize w1.alloc (Obj.cells #[.int .i64 hh, .int .i64 ep, .string r, .string p] 46) = w2 at *
    generalize w1.heap.size = D at *
    clear eh p0 p1 p2 p3 p4 p5 p6 p7 p8 p9 p10 p11
    have hq0 := H.2.1 0 _ rfl
    have hq1 := H.2.1 1 _ rfl
    have hq2 := H.2.1 2 _ rfl
    have hq3 := H.2.1 3 _ rfl
    by_cases ha : hh = (j : Int)
    · have hab : (hh != (j : Int)) = false := by simp [ha]
      have HA := Lib.hid ha
      clear ha
      by_cases hb : ep = epoch
      · have hbb : (ep != epoch) = false := by simp [hb]
        have HF2 := Lib.hid (show ¬ ¬ (hh = (j : Int) ∧ ep = epoch) from fun e => e ⟨HA.out, hb⟩)
        clear hb
        go_upto_region 6 with (fail)
        skip
        have hj0 : (0 : Int) ≤ (j : Int) := by omega
        have hj1 : (j : Int) < rs.length := by omega
        obtain ⟨rt, hrt⟩ : ∃ z, rs.getD j ⟨#[]⟩ = z := ⟨_, rfl⟩
        have HRT := Lib.hid hrt
        have er := HC0.out j hj
        rw [hrt] at er
        clear hrt
        obtain ⟨ks, hks⟩ : ∃ z, sealOkB rt hh ep r p S = z := ⟨_, rfl⟩
        have KS := Lib.hid hks
        clear hks
        refine wp_region_held_drew (S := (fun W => W.cell? ⟨B, 0, none⟩ = some (.slice (some ⟨q0, o0, none⟩) rs.length c0) ∧ W.cell? ⟨(B + 1), 3, none⟩ = some (.int .i64 hh) ∧ W.cell? ⟨(B + 1), 4, none⟩ = some (.int .i64 ep) ∧ W.cell? ⟨(B + 1), 5, none⟩ = some (.string r) ∧ W.cell? ⟨(B + 1), 6, none⟩ = some (.string p) ∧ W.cell? ⟨(B + 1), 7, none⟩ = some (.int .i64 S.at_) ∧ W.cell? ⟨(B + 1), 8, none⟩ = some (.slice b4 S.op.length c4) ∧ W.cell? ⟨(B + 1), 9, none⟩ = some (.slice b5 S.sh.length c5) ∧ W.cell? ⟨(B + 1), 10, none⟩ = some (.slice b6 S.si.length c6) ∧ W.cell? ⟨q0, o0 + j, none⟩ = some (.string rt))) (by kernel_rfl) (by exact ⟨Q.2.1 0 _ rfl, P.2.1 3 _ rfl, P.2.1 4 _ rfl, P.2.1 5 _ rfl, P.2.1 6 _ rfl, P.2.1 7 _ rfl, P.2.1 8 _ rfl, P.2.1 9 _ rfl, P.2.1 10 _ rfl, er⟩) (fun hHeld => ?_)
        have xd : Ext w2 w2.drew := (Ext.refl w2).drew
        replace er := (Ext.cell xd _ _ l0).trans er
        replace P := P.ext xd
        replace Q := Q.ext xd
        replace X := X.trans xd
        replace HC0 := Lib.hid (fun j hj => (Ext.cell xd _ _ l0).trans (HC0.out j hj))
        replace l0 := Nat.lt_of_lt_of_le l0 (Ext.size xd)
        replace H := H.ext xd
        generalize w2.drew = w3 at *
        (refine wpAnyH_take (i := 0) (v := ?_) rfl (by kernel_rfl) (by kernel_rfl) (by kernel_rfl) (fun _ _ _ h => h) (Or.inl ⟨by rfl, ?_⟩) (by assumption) ?_; rotate_left; focus (intro w hSw; (try dsimp only at hSw); (try simp only [zk1, zk2]); go_simp; try with_reducible rfl)); (try simp only [zk1, zk2]); (try simp only [Act.put, zk4, zk5, zk6])
        (refine wpAnyH_take (i := 1) (v := ?_) rfl (by kernel_rfl) (by kernel_rfl) (by kernel_rfl) (fun _ _ _ h => h) (Or.inl ⟨by rfl, ?_⟩) (by assumption) ?_; rotate_left; focus (intro w hSw; (try dsimp only at hSw); (try simp only [zk1, zk2, zk3]); go_simp; try with_reducible rfl)); (try simp only [zk1, zk2, zk3]); (try simp only [Act.put, zk4, zk5, zk6])
        (refine wpAnyH_take (i := 2) (v := ?_) rfl (by kernel_rfl) (by kernel_rfl) (by kernel_rfl) (fun _ _ _ h => h) (Or.inl ⟨by rfl, ?_⟩) (by assumption) ?_; rotate_left; focus (intro w hSw; (try dsimp only at hSw); (try simp only [zk1, zk2, zk3]); go_simp; try with_reducible rfl)); (try simp only [zk1, zk2, zk3]); (try simp only [Act.put, zk4, zk5, zk6])
        (refine wpAnyH_take (i := 3) (v := .pointer (some ⟨q0, o0 + j, none⟩)) rfl (by kernel_rfl) (by kernel_rfl) (by kernel_rfl) (fun _ _ _ h => h) (Or.inl ⟨by rfl, ?_⟩) (by assumption) ?_; focus (intro w hSw; (try dsimp only at hSw); (try simp only [zk1, zk2, zk3]); go_simp; (try simp))); (try simp only [zk1, zk2, zk3]); (try simp only [Act.put, zk4, zk5, zk6])
        (refine wpAnyH_take (i := 4) (v := ?_) rfl (by kernel_rfl) (by kernel_rfl) (by kernel_rfl) (fun _ _ _ h => h) (Or.inl ⟨by rfl, ?_⟩) (by assumption) ?_; rotate_left; focus (intro w hSw; (try dsimp only at hSw); (try simp only [zk1, zk2, zk3]); go_simp; try with_reducible rfl)); (try simp only [zk1, zk2, zk3]); (try simp only [Act.put, zk4, zk5, zk6])
        (refine wpAnyH_take (i := 5) (v := ?_) rfl (by kernel_rfl) (by kernel_rfl) (by kernel_rfl) (fun _ _ _ h => h) (Or.inl ⟨by rfl, ?_⟩) (by assumption) ?_; rotate_left; focus (intro w hSw; (try dsimp only at hSw); (try simp only [zk1, zk2, zk3]); go_simp; try with_reducible rfl)); (try simp only [zk1, zk2, zk3]); (try simp only [Act.put, zk4, zk5, zk6])
        (refine wpAnyH_take (i := 6) (v := ?_) rfl (by kernel_rfl) (by kernel_rfl) (by kernel_rfl) (fun _ _ _ h => h) (Or.inl ⟨by rfl, ?_⟩) (by assumption) ?_; rotate_left; focus (intro w hSw; (try dsimp only at hSw); (try simp only [zk1, zk2, zk3]); go_simp; try with_reducible rfl)); (try simp only [zk1, zk2, zk3]); (try simp only [Act.put, zk4, zk5, zk6])
        (refine wpAnyH_ready (rs := [7]) (by kernel_rfl) (by simp) ?_; refine AllReadyH.cons rfl (fun K hK => ?_) AllReadyH.nil; (try simp only [zk1, zk2, zk3]))
        go_simp
        go_at_call 23
        refine (spec_SealOk rt hh ep r p _ _ _ S _ (h4.ext X) (h5.ext X) (h6.ext X) hS).mono ?_
        rw [KS.out]
        rintro e w4 ⟨rfl, x4⟩
        replace er := (Ext.cell x4 _ _ l0).trans er
        replace P := P.ext x4
        replace Q := Q.ext x4
        replace X := X.trans x4
        replace HC0 := Lib.hid (fun j hj => (Ext.cell x4 _ _ l0).trans (HC0.out j hj))
        replace l0 := Nat.lt_of_lt_of_le l0 (Ext.size x4)
        replace H := H.ext x4
        (try dsimp only)
        refine hK.out _ _ (by exact ⟨Q.2.1 0 _ rfl, P.2.1 3 _ rfl, P.2.1 4 _ rfl, P.2.1 5 _ rfl, P.2.1 6 _ rfl, P.2.1 7 _ rfl, P.2.1 8 _ rfl, P.2.1 9 _ rfl, P.2.1 10 _ rfl, er⟩) (fun hHeld => ?_)
        clear hK K
        cases ks
        · (refine wpAnyH_take (i := 8) (v := ?_) rfl (by kernel_rfl) (by kernel_rfl) (by kernel_rfl) (fun _ _ _ h => h) (Or.inl ⟨by rfl, ?_⟩) (by assumption) ?_; rotate_left; focus (intro w hSw; (try dsimp only at hSw); (try simp only [zk1, zk2, zk3]); go_simp; try with_reducible rfl)); (try simp only [zk1, zk2, zk3]); (try simp only [Act.put, zk4, zk5, zk6])
          refine wpAnyH_done (by kernel_rfl) ?_ _
          have HV := Lib.hid (show verN rs kz (nd : Int) (j : Int) name epoch lv ss tops hh ep r p S xs = 3 from by rw [verN, if_neg HF1.out, if_neg HF2.out, if_pos (show sealOkB (rs.getD (j : Int).toNat ⟨#[]⟩) hh ep r p S = false by rw [Int.toNat_natCast, HRT.out]; exact KS.out)])
          go_wp2
          go_ret3
          exact ⟨ver_no HV.out (by decide), X⟩
        · (refine wpAnyH_take (i := 8) (v := ?_) rfl (by kernel_rfl) (by kernel_rfl) (by kernel_rfl) (fun _ _ _ h => h) (Or.inl ⟨by rfl, ?_⟩) (by assumption) ?_; rotate_left; focus (intro w hSw; (try dsimp only at hSw); (try simp only [zk1, zk2, zk3]); go_simp; try with_reducible rfl)); (try simp only [zk1, zk2, zk3]); (try simp only [Act.put, zk4, zk5, zk6])
          refine wpAnyH_done (by kernel_rfl) ?_ _
          have HF3 := Lib.hid (show ¬ sealOkB (rs.getD (j : Int).toNat ⟨#[]⟩) hh ep r p S = false by rw [Int.toNat_natCast, HRT.out, KS.out]; decide)
          go_upto_region 8 with (fail)
          have zp := prHash_le name lv ss
          have HFO := Lib.hid (show foldW name lv ss tops kz = foldH (prHash name lv ss 16) (idxT name) kz tops 16 from rfl)
          obtain ⟨fo, hfo⟩ : ∃ z, foldW name lv ss tops kz = z := ⟨_, rfl⟩
          rw [hfo] at HFO
          have HFW := Lib.hid hfo
          clear hfo
          refine wp_region_held_drew (S := (fun W => W.cell? ⟨B, 1, none⟩ = some (.int .i64 kz) ∧ W.cell? ⟨(B + 1), 0, none⟩ = some (.slice b1 lv.length c1) ∧ W.cell? ⟨(B + 1), 1, none⟩ = some (.slice b2 ss.length c2) ∧ W.cell? ⟨(B + 1), 2, none⟩ = some (.slice b3 tops.length c3) ∧ W.cell? ⟨D, 2, none⟩ = some (.string r))) (by kernel_rfl) (by exact ⟨Q.2.1 1 _ rfl, P.2.1 0 _ rfl, P.2.1 1 _ rfl, P.2.1 2 _ rfl, H.2.1 2 _ rfl⟩) (fun hHeld => ?_)
          have xd : Ext w4 w4.drew := (Ext.refl w4).drew
          replace er := (Ext.cell xd _ _ l0).trans er
          replace P := P.ext xd
          replace Q := Q.ext xd
          replace X := X.trans xd
          replace HC0 := Lib.hid (fun j hj => (Ext.cell xd _ _ l0).trans (HC0.out j hj))
          replace l0 := Nat.lt_of_lt_of_le l0 (Ext.size xd)
          replace H := H.ext xd
          generalize w4.drew = w5 at *
          (refine wpAnyH_take (i := 0) (v := ?_) rfl (by kernel_rfl) (by kernel_rfl) (by kernel_rfl) (fun _ _ _ h => h) (Or.inl ⟨by rfl, ?_⟩) (by assumption) ?_; rotate_left; focus (intro w hSw; (try dsimp only at hSw); (try simp only [zk1, zk2]); go_simp; try with_reducible rfl)); (try simp only [zk1, zk2]); (try simp only [Act.put, zk4, zk5, zk6])
          (refine wpAnyH_take (i := 1) (v := ?_) rfl (by kernel_rfl) (by kernel_rfl) (by kernel_rfl) (fun _ _ _ h => h) (Or.inl ⟨by rfl, ?_⟩) (by assumption) ?_; rotate_left; focus (intro w hSw; (try dsimp only at hSw); (try simp only [zk1, zk2, zk3]); go_simp; try with_reducible rfl)); (try simp only [zk1, zk2, zk3]); (try simp only [Act.put, zk4, zk5, zk6])
          (refine wpAnyH_take (i := 2) (v := ?_) rfl (by kernel_rfl) (by kernel_rfl) (by kernel_rfl) (fun _ _ _ h => h) (Or.inl ⟨by rfl, ?_⟩) (by assumption) ?_; rotate_left; focus (intro w hSw; (try dsimp only at hSw); (try simp only [zk1, zk2, zk3]); go_simp; try with_reducible rfl)); (try simp only [zk1, zk2, zk3]); (try simp only [Act.put, zk4, zk5, zk6])
          (refine wpAnyH_take (i := 4) (v := ?_) rfl (by kernel_rfl) (by kernel_rfl) (by kernel_rfl) (fun _ _ _ h => h) (Or.inl ⟨by rfl, ?_⟩) (by assumption) ?_; rotate_left; focus (intro w hSw; (try dsimp only at hSw); (try simp only [zk1, zk2, zk3]); go_simp; try with_reducible rfl)); (try simp only [zk1, zk2, zk3]); (try simp only [Act.put, zk4, zk5, zk6])
          (refine wpAnyH_take (i := 6) (v := ?_) rfl (by kernel_rfl) (by kernel_rfl) (by kernel_rfl) (fun _ _ _ h => h) (Or.inl ⟨by rfl, ?_⟩) (by assumption) ?_; rotate_left; focus (intro w hSw; (try dsimp only at hSw); (try simp only [zk1, zk2, zk3]); go_simp; try with_reducible rfl)); (try simp only [zk1, zk2, zk3]); (try simp only [Act.put, zk4, zk5, zk6])
          (refine wpAnyH_take (i := 7) (v := ?_) rfl (by kernel_rfl) (by kernel_rfl) (by kernel_rfl) (fun _ _ _ h => h) (Or.inl ⟨by rfl, ?_⟩) (by assumption) ?_; rotate_left; focus (intro w hSw; (try dsimp only at hSw); (try simp only [zk1, zk2, zk3]); go_simp; try with_reducible rfl)); (try simp only [zk1, zk2, zk3]); (try simp only [Act.put, zk4, zk5, zk6])
          (refine wpAnyH_take (i := 8) (v := ?_) rfl (by kernel_rfl) (by kernel_rfl) (by kernel_rfl) (fun _ _ _ h => h) (Or.inl ⟨by rfl, ?_⟩) (by assumption) ?_; rotate_left; focus (intro w hSw; (try dsimp only at hSw); (try simp only [zk1, zk2, zk3]); go_simp; try with_reducible rfl)); (try simp only [zk1, zk2, zk3]); (try simp only [Act.put, zk4, zk5, zk6])
          (refine wpAnyH_take (i := 9) (v := ?_) rfl (by kernel_rfl) (by kernel_rfl) (by kernel_rfl) (fun _ _ _ h => h) (Or.inl ⟨by rfl, ?_⟩) (by assumption) ?_; rotate_left; focus (intro w hSw; (try dsimp only at hSw); (try simp only [zk1, zk2, zk3]); go_simp; try with_reducible rfl)); (try simp only [zk1, zk2, zk3]); (try simp only [Act.put, zk4, zk5, zk6])
          (refine wpAnyH_ready (rs := [3]) (by kernel_rfl) (by simp) ?_; refine AllReadyH.cons rfl (fun K hK => ?_) AllReadyH.nil; (try simp only [zk1, zk2, zk3]))
          go_simp
          go_at_call 25
          refine (spec_ProofHash name _ _ lv ss 16 _ hnm (h1.ext X) hf (h2.ext X) hs2).mono ?_
          generalize prHash name lv ss 16 = ph at *
          rintro e w6 ⟨rfl, x6⟩
          replace er := (Ext.cell x6 _ _ l0).trans er
          replace P := P.ext x6
          replace Q := Q.ext x6
          replace X := X.trans x6
          replace HC0 := Lib.hid (fun j hj => (Ext.cell x6 _ _ l0).trans (HC0.out j hj))
          replace l0 := Nat.lt_of_lt_of_le l0 (Ext.size x6)
          replace H := H.ext x6
          (try dsimp only)
          refine hK.out _ _ (by exact ⟨Q.2.1 1 _ rfl, P.2.1 0 _ rfl, P.2.1 1 _ rfl, P.2.1 2 _ rfl, H.2.1 2 _ rfl⟩) (fun hHeld => ?_)
          clear hK K
          (refine wpAnyH_ready (rs := [5]) (by kernel_rfl) (by simp) ?_; refine AllReadyH.cons rfl (fun K hK => ?_) AllReadyH.nil; (try simp only [zk1, zk2, zk3]))
          go_simp
          go_at_call 26
          refine (spec_IndexOf name _ hnm2).mono ?_
          generalize idxT name = ix at *
          rintro e w7 ⟨rfl, x7⟩
          replace er := (Ext.cell x7 _ _ l0).trans er
          replace P := P.ext x7
          replace Q := Q.ext x7
          replace X := X.trans x7
          replace HC0 := Lib.hid (fun j hj => (Ext.cell x7 _ _ l0).trans (HC0.out j hj))
          replace l0 := Nat.lt_of_lt_of_le l0 (Ext.size x7)
          replace H := H.ext x7
          (try dsimp only)
          refine hK.out _ _ (by exact ⟨Q.2.1 1 _ rfl, P.2.1 0 _ rfl, P.2.1 1 _ rfl, P.2.1 2 _ rfl, H.2.1 2 _ rfl⟩) (fun hHeld => ?_)
          clear hK K
          (refine wpAnyH_ready (rs := [10]) (by kernel_rfl) (by simp) ?_; refine AllReadyH.cons rfl (fun K hK => ?_) AllReadyH.nil; (try simp only [zk1, zk2, zk3]))
          go_simp
          go_at_call 24
          refine (spec_FoldUp ph ix kz _ tops 16 _ zp (h3.ext X) hs3).mono ?_
          rw [← HFO.out]
          rintro e w8 ⟨rfl, x8⟩
          replace er := (Ext.cell x8 _ _ l0).trans er
          replace P := P.ext x8
          replace Q := Q.ext x8
          replace X := X.trans x8
          replace HC0 := Lib.hid (fun j hj => (Ext.cell x8 _ _ l0).trans (HC0.out j hj))
          replace l0 := Nat.lt_of_lt_of_le l0 (Ext.size x8)
          replace H := H.ext x8
          (try dsimp only)
          refine hK.out _ _ (by exact ⟨Q.2.1 1 _ rfl, P.2.1 0 _ rfl, P.2.1 1 _ rfl, P.2.1 2 _ rfl, H.2.1 2 _ rfl⟩) (fun hHeld => ?_)
          clear hK K
          (refine wpAnyH_take (i := 11) (v := ?_) rfl (by kernel_rfl) (by kernel_rfl) (by kernel_rfl) (fun _ _ _ h => h) (Or.inl ⟨by rfl, ?_⟩) (by assumption) ?_; rotate_left; focus (intro w hSw; (try dsimp only at hSw); (try simp only [zk1, zk2, zk3]); go_simp; try with_reducible rfl)); (try simp only [zk1, zk2, zk3]); (try simp only [Act.put, zk4, zk5, zk6])
          refine wpAnyH_done (by kernel_rfl) ?_ _
          have hq0 := H.2.1 0 _ rfl
          have hq1 := H.2.1 1 _ rfl
          have hq2 := H.2.1 2 _ rfl
          have hq3 := H.2.1 3 _ rfl
          by_cases hfr : fo = r
          · have bF : (fo.toList == r.toList) = true := by rw [toList_beq]; exact decide_eq_true hfr
            have bN : (fo.toList != r.toList) = false := by rw [bne, bF]; rfl
            have HF4 := Lib.hid (show ¬ foldW name lv ss tops kz ≠ r by rw [HFW.out]; exact fun e => e hfr)
            clear hfr
            have p0 := P.2.1 0 _ rfl
            have p1 := P.2.1 1 _ rfl
            have p2 := P.2.1 2 _ rfl
            have p3 := P.2.1 3 _ rfl
            have p4 := P.2.1 4 _ rfl
            have p5 := P.2.1 5 _ rfl
            have p6 := P.2.1 6 _ rfl
            have p7 := P.2.1 7 _ rfl
            have p8 := P.2.1 8 _ rfl
            have p9 := P.2.1 9 _ rfl
            have p10 := P.2.1 10 _ rfl
            have p11 := P.2.1 11 _ rfl
            have t0 := Q.2.1 0 _ rfl
            have t1 := Q.2.1 1 _ rfl
            have t2 := Q.2.1 2 _ rfl
            go_wp2_with fail
            clear p0 p1 p2 p3 p4 p5 p6 p7 p8 p9 p10 p11 t0 t1 t2
            skip
            go_loopw [15, 16] (fun n i wr => ∃ k : Nat, k ≤ xs.length ∧ i = .int .i64 k ∧ n = .int .i64 (((vdN rs (j : Int) hh ep r p (xs.take k) : Nat)) : Int) ∧ Ext w8 wr) (fun _ i _ => xs.length - (intOf i).toNat)
            case atStart => exact ⟨0, Nat.zero_le _, rfl, by simp [vdN], Ext.refl _⟩
            case round =>
              obtain ⟨k, hk, rfl, rfl, hx⟩ := hrel
              replace P := P.ext hx
              replace Q := Q.ext hx
              replace X := X.trans hx
              replace HC0 := Lib.hid (fun j hj => (Ext.cell hx _ _ l0).trans (HC0.out j hj))
              replace l0 := Nat.lt_of_lt_of_le l0 (Ext.size hx)
              replace H := H.ext hx
              have p0 := P.2.1 0 _ rfl
              have p1 := P.2.1 1 _ rfl
              have p2 := P.2.1 2 _ rfl
              have p3 := P.2.1 3 _ rfl
              have p4 := P.2.1 4 _ rfl
              have p5 := P.2.1 5 _ rfl
              have p6 := P.2.1 6 _ rfl
              have p7 := P.2.1 7 _ rfl
              have p8 := P.2.1 8 _ rfl
              have p9 := P.2.1 9 _ rfl
              have p10 := P.2.1 10 _ rfl
              have p11 := P.2.1 11 _ rfl
              have t0 := Q.2.1 0 _ rfl
              have t1 := Q.2.1 1 _ rfl
              have t2 := Q.2.1 2 _ rfl
              by_cases hlt : k < xs.length
              · have hlti : (k : Int) < xs.length := by omega
                have HLT := Lib.hid hlt
                have hw1 : IntKind.i64.wrap ((rs.length : Int) - 1) = (rs.length : Int) - 1 := IntWalk.i64_in _ (by omega)
                obtain ⟨⟨-, a7, c7v, hv7, hc7, hm7, g7⟩, hst7⟩ := h7
                injection hv7 with i1 i2 i3
                subst i1 i3
                unfold maxLen at hm7
                rcases g7 with g7 | ⟨q7, o7, rfl, hb7, g7⟩
                · omega
                have e0 : wr.cell? ⟨q7, o7 + k * 5, none⟩ = some (.int .i64 xs[k].by_) := (X.cell q7 _ hb7).trans (g7 _ _ (st_c0 xs k hlt))
                have e1 : wr.cell? ⟨q7, o7 + k * 5 + 1, none⟩ = some (.int .i64 xs[k].s.at_) := (X.cell q7 _ hb7).trans (g7 _ _ (st_c1 xs k hlt))
                have e2 : wr.cell? ⟨q7, o7 + k * 5 + 2, none⟩ = some xs[k].v1 := (X.cell q7 _ hb7).trans (g7 _ _ (st_c2 xs k hlt))
                have e3 : wr.cell? ⟨q7, o7 + k * 5 + 3, none⟩ = some xs[k].v2 := (X.cell q7 _ hb7).trans (g7 _ _ (st_c3 xs k hlt))
                have e4 : wr.cell? ⟨q7, o7 + k * 5 + 4, none⟩ = some xs[k].v3 := (X.cell q7 _ hb7).trans (g7 _ _ (st_c4 xs k hlt))
                obtain ⟨s1, s2, s3⟩ := hst7 xs[k] (List.getElem_mem hlt)
                have HFX := Lib.hid (hX xs[k] (List.getElem_mem hlt))
                have HSU := Lib.hid (vdN_succ rs (j : Int) hh ep r p hlt)
                have hle := vdN_le rs (j : Int) hh ep r p xs k
                clear g7 hst7
                generalize xs[k] = x at *
                generalize vdN rs (j : Int) hh ep r p (xs.take k) = m at *
                obtain ⟨xb, xs', xv1, xv2, xv3⟩ := x
                dsimp only at *
                obtain ⟨a4, c4v, rfl⟩ := s1.form
                obtain ⟨a5, c5v, rfl⟩ := s2.form
                obtain ⟨a6, c6v, rfl⟩ := s3.form
                have eb : Ext wr (wr.alloc (Obj.cells #[.int .i64 xb, .int .i64 xs'.at_, .slice a4 xs'.op.length c4v, .slice a5 xs'.sh.length c5v, .slice a6 xs'.si.length c6v] 76)) := (Ext.refl _).alloc _
                have O := Bx.new wr #[.int .i64 xb, .int .i64 xs'.at_, .slice a4 xs'.op.length c4v, .slice a5 xs'.sh.length c5v, .slice a6 xs'.si.length c6v] 76
                replace P := P.ext eb
                replace Q := Q.ext eb
                replace X := X.trans eb
                replace HC0 := Lib.hid (fun j hj => (Ext.cell eb _ _ l0).trans (HC0.out j hj))
                replace l0 := Nat.lt_of_lt_of_le l0 (Ext.size eb)
                replace H := H.ext eb
                replace hx := hx.trans eb
                go_upto_region 16 with (fail)
                generalize wr.alloc (Obj.cells #[.int .i64 xb, .int .i64 xs'.at_, .slice a4 xs'.op.length c4v, .slice a5 xs'.sh.length c5v, .slice a6 xs'.si.length c6v] 76) = wb at *
                generalize wr.heap.size = E at *
                clear e0 e1 e2 e3 e4 eb
                clear p0 p1 p2 p3 p4 p5 p6 p7 p8 p9 p10 p11 t0 t1 t2
                by_cases hne : xb = (j : Int)
                · have hnb : (xb != (j : Int)) = false := by simp [hne]
                  have HNE := Lib.hid hne
                  clear hne
                  refine wp_region_held_drew (S := (fun W => W.cell? ⟨B, 0, none⟩ = some (.slice (some ⟨q0, o0, none⟩) rs.length c0) ∧ W.cell? ⟨B, 2, none⟩ = some (.int .i64 (nd : Int)) ∧ W.cell? ⟨D, 0, none⟩ = some (.int .i64 hh) ∧ W.cell? ⟨D, 1, none⟩ = some (.int .i64 ep) ∧ W.cell? ⟨D, 2, none⟩ = some (.string r) ∧ W.cell? ⟨D, 3, none⟩ = some (.string p) ∧ W.cell? ⟨E, 0, none⟩ = some (.int .i64 xb) ∧ W.cell? ⟨E, 1, none⟩ = some (.int .i64 xs'.at_) ∧ W.cell? ⟨E, 2, none⟩ = some (.slice a4 xs'.op.length c4v) ∧ W.cell? ⟨E, 3, none⟩ = some (.slice a5 xs'.sh.length c5v) ∧ W.cell? ⟨E, 4, none⟩ = some (.slice a6 xs'.si.length c6v))) (by kernel_rfl) (by exact ⟨Q.2.1 0 _ rfl, Q.2.1 2 _ rfl, H.2.1 0 _ rfl, H.2.1 1 _ rfl, H.2.1 2 _ rfl, H.2.1 3 _ rfl, O.2.1 0 _ rfl, O.2.1 1 _ rfl, O.2.1 2 _ rfl, O.2.1 3 _ rfl, O.2.1 4 _ rfl⟩) (fun hHeld => ?_)
                  have xd : Ext wb wb.drew := (Ext.refl wb).drew
                  replace P := P.ext xd
                  replace Q := Q.ext xd
                  replace X := X.trans xd
                  replace HC0 := Lib.hid (fun j hj => (Ext.cell xd _ _ l0).trans (HC0.out j hj))
                  replace l0 := Nat.lt_of_lt_of_le l0 (Ext.size xd)
                  replace H := H.ext xd
                  replace hx := hx.trans xd
                  replace O := O.ext xd
                  generalize wb.drew = wc3 at *
                  (refine wpAnyH_take (i := 0) (v := ?_) rfl (by kernel_rfl) (by kernel_rfl) (by kernel_rfl) (fun _ _ _ h => h) (Or.inl ⟨by rfl, ?_⟩) (by assumption) ?_; rotate_left; focus (intro w hSw; (try dsimp only at hSw); (try simp only [zk1, zk2]); go_simp; try with_reducible rfl)); (try simp only [zk1, zk2]); (try simp only [Act.put, zk4, zk5, zk6])
                  (refine wpAnyH_take (i := 1) (v := ?_) rfl (by kernel_rfl) (by kernel_rfl) (by kernel_rfl) (fun _ _ _ h => h) (Or.inl ⟨by rfl, ?_⟩) (by assumption) ?_; rotate_left; focus (intro w hSw; (try dsimp only at hSw); (try simp only [zk1, zk2, zk3]); go_simp; try with_reducible rfl)); (try simp only [zk1, zk2, zk3]); (try simp only [Act.put, zk4, zk5, zk6])
                  (refine wpAnyH_take (i := 2) (v := ?_) rfl (by kernel_rfl) (by kernel_rfl) (by kernel_rfl) (fun _ _ _ h => h) (Or.inl ⟨by rfl, ?_⟩) (by assumption) ?_; rotate_left; focus (intro w hSw; (try dsimp only at hSw); (try simp only [zk1, zk2, zk3]); go_simp; try with_reducible rfl)); (try simp only [zk1, zk2, zk3]); (try simp only [Act.put, zk4, zk5, zk6])
                  (refine wpAnyH_take (i := 3) (v := ?_) rfl (by kernel_rfl) (by kernel_rfl) (by kernel_rfl) (fun _ _ _ h => h) (Or.inl ⟨by rfl, ?_⟩) (by assumption) ?_; rotate_left; focus (intro w hSw; (try dsimp only at hSw); (try simp only [zk1, zk2, zk3]); go_simp; try with_reducible rfl)); (try simp only [zk1, zk2, zk3]); (try simp only [Act.put, zk4, zk5, zk6])
                  (refine wpAnyH_take (i := 4) (v := ?_) rfl (by kernel_rfl) (by kernel_rfl) (by kernel_rfl) (fun _ _ _ h => h) (Or.inl ⟨by rfl, ?_⟩) (by assumption) ?_; rotate_left; focus (intro w hSw; (try dsimp only at hSw); (try simp only [zk1, zk2, zk3]); go_simp; try with_reducible rfl)); (try simp only [zk1, zk2, zk3]); (try simp only [Act.put, zk4, zk5, zk6])
                  (refine wpAnyH_take (i := 5) rfl (by kernel_rfl) (by kernel_rfl) (by kernel_rfl) (fun _ _ _ h => h) (Or.inr ⟨by rfl, rfl⟩) (by assumption) ?_); (try simp only [zk1, zk2, zk3]); (try simp only [Act.put, zk4, zk5, zk6])
                  (refine wpAnyH_take (i := 6) rfl (by kernel_rfl) (by kernel_rfl) (by kernel_rfl) (fun _ _ _ h => h) (Or.inr ⟨by rfl, rfl⟩) (by assumption) ?_); (try simp only [zk1, zk2, zk3]); (try simp only [Act.put, zk4, zk5, zk6])
                  (refine wpAnyH_take (i := 7) rfl (by kernel_rfl) (by kernel_rfl) (by kernel_rfl) (fun _ _ _ h => h) (Or.inr ⟨by rfl, rfl⟩) (by assumption) ?_); (try simp only [zk1, zk2, zk3]); (try simp only [Act.put, zk4, zk5, zk6])
                  (refine wpAnyH_take (i := 8) rfl (by kernel_rfl) (by kernel_rfl) (by kernel_rfl) (fun _ _ _ h => h) (Or.inr ⟨by rfl, rfl⟩) (by assumption) ?_); (try simp only [zk1, zk2, zk3]); (try simp only [Act.put, zk4, zk5, zk6])
                  (refine wpAnyH_take (i := 9) rfl (by kernel_rfl) (by kernel_rfl) (by kernel_rfl) (fun _ _ _ h => h) (Or.inr ⟨by rfl, rfl⟩) (by assumption) ?_); (try simp only [zk1, zk2, zk3]); (try simp only [Act.put, zk4, zk5, zk6])
                  (refine wpAnyH_take (i := 10) rfl (by kernel_rfl) (by kernel_rfl) (by kernel_rfl) (fun _ _ _ h => h) (Or.inr ⟨by rfl, rfl⟩) (by assumption) ?_); (try simp only [zk1, zk2, zk3]); (try simp only [Act.put, zk4, zk5, zk6])
                  (refine wpAnyH_take (i := 11) rfl (by kernel_rfl) (by kernel_rfl) (by kernel_rfl) (fun _ _ _ h => h) (Or.inr ⟨by rfl, rfl⟩) (by assumption) ?_); (try simp only [zk1, zk2, zk3]); (try simp only [Act.put, zk4, zk5, zk6])
                  (refine wpAnyH_take (i := 12) (v := ?_) rfl (by kernel_rfl) (by kernel_rfl) (by kernel_rfl) (fun _ _ _ h => h) (Or.inl ⟨by rfl, ?_⟩) (by assumption) ?_; rotate_left; focus (intro w hSw; (try dsimp only at hSw); (try simp only [zk1, zk2, zk3]); go_simp; try with_reducible rfl)); (try simp only [zk1, zk2, zk3]); (try simp only [Act.put, zk4, zk5, zk6])
                  (refine wpAnyH_take (i := 13) (v := ?_) rfl (by kernel_rfl) (by kernel_rfl) (by kernel_rfl) (fun _ _ _ h => h) (Or.inl ⟨by rfl, ?_⟩) (by assumption) ?_; rotate_left; focus (intro w hSw; (try dsimp only at hSw); (try simp only [zk1, zk2, zk3]); go_simp; try with_reducible rfl)); (try simp only [zk1, zk2, zk3]); (try simp only [Act.put, zk4, zk5, zk6])
                  (refine wpAnyH_take (i := 14) rfl (by kernel_rfl) (by kernel_rfl) (by kernel_rfl) (fun _ _ _ h => h) (Or.inr ⟨by rfl, rfl⟩) (by assumption) ?_); (try simp only [zk1, zk2, zk3]); (try simp only [Act.put, zk4, zk5, zk6])
                  (refine wpAnyH_take (i := 15) rfl (by kernel_rfl) (by kernel_rfl) (by kernel_rfl) (fun _ _ _ h => h) (Or.inr ⟨by rfl, rfl⟩) (by assumption) ?_); (try simp only [zk1, zk2, zk3]); (try simp only [Act.put, zk4, zk5, zk6])
                  (refine wpAnyH_take (i := 16) rfl (by kernel_rfl) (by kernel_rfl) (by kernel_rfl) (fun _ _ _ h => h) (Or.inr ⟨by rfl, rfl⟩) (by assumption) ?_); (try simp only [zk1, zk2, zk3]); (try simp only [Act.put, zk4, zk5, zk6])
                  (refine wpAnyH_take (i := 17) rfl (by kernel_rfl) (by kernel_rfl) (by kernel_rfl) (fun _ _ _ h => h) (Or.inr ⟨by rfl, rfl⟩) (by assumption) ?_); (try simp only [zk1, zk2, zk3]); (try simp only [Act.put, zk4, zk5, zk6])
                  (refine wpAnyH_take (i := 18) rfl (by kernel_rfl) (by kernel_rfl) (by kernel_rfl) (fun _ _ _ h => h) (Or.inr ⟨by rfl, rfl⟩) (by assumption) ?_); (try simp only [zk1, zk2, zk3]); (try simp only [Act.put, zk4, zk5, zk6])
                  (refine wpAnyH_take (i := 19) rfl (by kernel_rfl) (by kernel_rfl) (by kernel_rfl) (fun _ _ _ h => h) (Or.inr ⟨by rfl, rfl⟩) (by assumption) ?_); (try simp only [zk1, zk2, zk3]); (try simp only [Act.put, zk4, zk5, zk6])
                  (refine wpAnyH_take (i := 20) rfl (by kernel_rfl) (by kernel_rfl) (by kernel_rfl) (fun _ _ _ h => h) (Or.inr ⟨by rfl, rfl⟩) (by assumption) ?_); (try simp only [zk1, zk2, zk3]); (try simp only [Act.put, zk4, zk5, zk6])
                  (refine wpAnyH_take (i := 21) rfl (by kernel_rfl) (by kernel_rfl) (by kernel_rfl) (fun _ _ _ h => h) (Or.inr ⟨by rfl, rfl⟩) (by assumption) ?_); (try simp only [zk1, zk2, zk3]); (try simp only [Act.put, zk4, zk5, zk6])
                  (refine wpAnyH_take (i := 22) rfl (by kernel_rfl) (by kernel_rfl) (by kernel_rfl) (fun _ _ _ h => h) (Or.inr ⟨by rfl, rfl⟩) (by assumption) ?_); (try simp only [zk1, zk2, zk3]); (try simp only [Act.put, zk4, zk5, zk6])
                  (refine wpAnyH_take (i := 23) rfl (by kernel_rfl) (by kernel_rfl) (by kernel_rfl) (fun _ _ _ h => h) (Or.inr ⟨by rfl, rfl⟩) (by assumption) ?_); (try simp only [zk1, zk2, zk3]); (try simp only [Act.put, zk4, zk5, zk6])
                  (refine wpAnyH_take (i := 24) (v := ?_) rfl (by kernel_rfl) (by kernel_rfl) (by kernel_rfl) (fun _ _ _ h => h) (Or.inl ⟨by rfl, ?_⟩) (by assumption) ?_; rotate_left; focus (intro w hSw; (try dsimp only at hSw); (try simp only [zk1, zk2, zk3]); go_simp; try with_reducible rfl)); (try simp only [zk1, zk2, zk3]); (try simp only [Act.put, zk4, zk5, zk6])
                  refine wpAnyH_done (by kernel_rfl) ?_ _
                  have HVB := Lib.hid (show vdB rs (j : Int) hh ep r p ⟨xb, xs', .slice a4 xs'.op.length c4v, .slice a5 xs'.sh.length c5v, .slice a6 xs'.si.length c6v⟩ = false by rw [vdB]; simp [HNE.out])
                  go_wp2
                  go_roundw
                  case rel => exact ⟨k + 1, HLT.out, by go_num, congrArg (Value.int .i64) (by rw [HSU.out, HVB.out]; simp), hx⟩
                  case measure => simp [intOf]; (have := HLT.out); omega
                · have hnb : (xb != (j : Int)) = true := by simp [hne]
                  have HNE := Lib.hid hne
                  clear hne
                  obtain ⟨ki, hki⟩ : ∃ z, inB xb 0 ((rs.length : Int) - 1) = z := ⟨_, rfl⟩
                  have KI := Lib.hid hki
                  cases ki
                  · clear hki
                    refine wp_region_held_drew (S := (fun W => W.cell? ⟨B, 0, none⟩ = some (.slice (some ⟨q0, o0, none⟩) rs.length c0) ∧ W.cell? ⟨B, 2, none⟩ = some (.int .i64 (nd : Int)) ∧ W.cell? ⟨D, 0, none⟩ = some (.int .i64 hh) ∧ W.cell? ⟨D, 1, none⟩ = some (.int .i64 ep) ∧ W.cell? ⟨D, 2, none⟩ = some (.string r) ∧ W.cell? ⟨D, 3, none⟩ = some (.string p) ∧ W.cell? ⟨E, 0, none⟩ = some (.int .i64 xb) ∧ W.cell? ⟨E, 1, none⟩ = some (.int .i64 xs'.at_) ∧ W.cell? ⟨E, 2, none⟩ = some (.slice a4 xs'.op.length c4v) ∧ W.cell? ⟨E, 3, none⟩ = some (.slice a5 xs'.sh.length c5v) ∧ W.cell? ⟨E, 4, none⟩ = some (.slice a6 xs'.si.length c6v))) (by kernel_rfl) (by exact ⟨Q.2.1 0 _ rfl, Q.2.1 2 _ rfl, H.2.1 0 _ rfl, H.2.1 1 _ rfl, H.2.1 2 _ rfl, H.2.1 3 _ rfl, O.2.1 0 _ rfl, O.2.1 1 _ rfl, O.2.1 2 _ rfl, O.2.1 3 _ rfl, O.2.1 4 _ rfl⟩) (fun hHeld => ?_)
                    have xd : Ext wb wb.drew := (Ext.refl wb).drew
                    replace P := P.ext xd
                    replace Q := Q.ext xd
                    replace X := X.trans xd
                    replace HC0 := Lib.hid (fun j hj => (Ext.cell xd _ _ l0).trans (HC0.out j hj))
                    replace l0 := Nat.lt_of_lt_of_le l0 (Ext.size xd)
                    replace H := H.ext xd
                    replace hx := hx.trans xd
                    replace O := O.ext xd
                    generalize wb.drew = wc3 at *
                    (refine wpAnyH_take (i := 0) (v := ?_) rfl (by kernel_rfl) (by kernel_rfl) (by kernel_rfl) (fun _ _ _ h => h) (Or.inl ⟨by rfl, ?_⟩) (by assumption) ?_; rotate_left; focus (intro w hSw; (try dsimp only at hSw); (try simp only [zk1, zk2]); go_simp; try with_reducible rfl)); (try simp only [zk1, zk2]); (try simp only [Act.put, zk4, zk5, zk6])
                    (refine wpAnyH_take (i := 1) (v := ?_) rfl (by kernel_rfl) (by kernel_rfl) (by kernel_rfl) (fun _ _ _ h => h) (Or.inl ⟨by rfl, ?_⟩) (by assumption) ?_; rotate_left; focus (intro w hSw; (try dsimp only at hSw); (try simp only [zk1, zk2, zk3]); go_simp; try with_reducible rfl)); (try simp only [zk1, zk2, zk3]); (try simp only [Act.put, zk4, zk5, zk6])
                    (refine wpAnyH_take (i := 2) (v := ?_) rfl (by kernel_rfl) (by kernel_rfl) (by kernel_rfl) (fun _ _ _ h => h) (Or.inl ⟨by rfl, ?_⟩) (by assumption) ?_; rotate_left; focus (intro w hSw; (try dsimp only at hSw); (try simp only [zk1, zk2, zk3]); go_simp; try with_reducible rfl)); (try simp only [zk1, zk2, zk3]); (try simp only [Act.put, zk4, zk5, zk6])
                    (refine wpAnyH_take (i := 3) (v := ?_) rfl (by kernel_rfl) (by kernel_rfl) (by kernel_rfl) (fun _ _ _ h => h) (Or.inl ⟨by rfl, ?_⟩) (by assumption) ?_; rotate_left; focus (intro w hSw; (try dsimp only at hSw); (try simp only [zk1, zk2, zk3]); go_simp; try with_reducible rfl)); (try simp only [zk1, zk2, zk3]); (try simp only [Act.put, zk4, zk5, zk6])
                    (refine wpAnyH_take (i := 4) (v := ?_) rfl (by kernel_rfl) (by kernel_rfl) (by kernel_rfl) (fun _ _ _ h => h) (Or.inl ⟨by rfl, ?_⟩) (by assumption) ?_; rotate_left; focus (intro w hSw; (try dsimp only at hSw); (try simp only [zk1, zk2, zk3]); go_simp; try with_reducible rfl)); (try simp only [zk1, zk2, zk3]); (try simp only [Act.put, zk4, zk5, zk6])
                    (refine wpAnyH_take (i := 5) (v := ?_) rfl (by kernel_rfl) (by kernel_rfl) (by kernel_rfl) (fun _ _ _ h => h) (Or.inl ⟨by rfl, ?_⟩) (by assumption) ?_; rotate_left; focus (intro w hSw; (try dsimp only at hSw); (try simp only [zk1, zk2, zk3]); go_simp; try with_reducible rfl)); (try simp only [zk1, zk2, zk3]); (try simp only [Act.put, zk4, zk5, zk6])
                    (refine wpAnyH_take (i := 6) (v := ?_) rfl (by kernel_rfl) (by kernel_rfl) (by kernel_rfl) (fun _ _ _ h => h) (Or.inl ⟨by rfl, ?_⟩) (by assumption) ?_; rotate_left; focus (intro w hSw; (try dsimp only at hSw); (try simp only [zk1, zk2, zk3]); go_simp; try with_reducible rfl)); (try simp only [zk1, zk2, zk3]); (try simp only [Act.put, zk4, zk5, zk6])
                    (refine wpAnyH_take (i := 7) (v := ?_) rfl (by kernel_rfl) (by kernel_rfl) (by kernel_rfl) (fun _ _ _ h => h) (Or.inl ⟨by rfl, ?_⟩) (by assumption) ?_; rotate_left; focus (intro w hSw; (try dsimp only at hSw); (try simp only [zk1, zk2, zk3]); go_simp; try with_reducible rfl)); (try simp only [zk1, zk2, zk3]); (try simp only [Act.put, zk4, zk5, zk6])
                    (refine wpAnyH_take (i := 8) (v := ?_) rfl (by kernel_rfl) (by kernel_rfl) (by kernel_rfl) (fun _ _ _ h => h) (Or.inl ⟨by rfl, ?_⟩) (by assumption) ?_; rotate_left; focus (intro w hSw; (try dsimp only at hSw); (try simp only [zk1, zk2, zk3]); go_simp; try with_reducible rfl)); (try simp only [zk1, zk2, zk3]); (try simp only [Act.put, zk4, zk5, zk6])
                    (refine wpAnyH_take (i := 9) (v := ?_) rfl (by kernel_rfl) (by kernel_rfl) (by kernel_rfl) (fun _ _ _ h => h) (Or.inl ⟨by rfl, ?_⟩) (by assumption) ?_; rotate_left; focus (intro w hSw; (try dsimp only at hSw); (try simp only [zk1, zk2, zk3]); go_simp; try with_reducible rfl)); (try simp only [zk1, zk2, zk3]); (try simp only [Act.put, zk4, zk5, zk6])
                    (refine wpAnyH_take (i := 10) (v := .int .i64 ((rs.length : Int) - 1)) rfl (by kernel_rfl) (by kernel_rfl) (by kernel_rfl) (fun _ _ _ h => h) (Or.inl ⟨by rfl, ?_⟩) (by assumption) ?_; focus (intro w hSw; (try dsimp only at hSw); (try simp only [zk1, zk2, zk3]); go_simp; (first | done | simp [hw1]))); (try simp only [zk1, zk2, zk3]); (try simp only [Act.put, zk4, zk5, zk6])
                    (refine wpAnyH_ready (rs := [11]) (by kernel_rfl) (by simp) ?_; refine AllReadyH.cons rfl (fun K hK => ?_) AllReadyH.nil; (try simp only [zk1, zk2, zk3]))
                    go_simp
                    go_at_call 27
                    refine (spec_l01In _ _ _ _).mono ?_
                    rw [KI.out]
                    rintro e w' ⟨rfl, rfl⟩
                    (try dsimp only)
                    refine hK.out _ _ (by exact ⟨Q.2.1 0 _ rfl, Q.2.1 2 _ rfl, H.2.1 0 _ rfl, H.2.1 1 _ rfl, H.2.1 2 _ rfl, H.2.1 3 _ rfl, O.2.1 0 _ rfl, O.2.1 1 _ rfl, O.2.1 2 _ rfl, O.2.1 3 _ rfl, O.2.1 4 _ rfl⟩) (fun hHeld => ?_)
                    clear hK K
                    (refine wpAnyH_take (i := 12) (v := ?_) rfl (by kernel_rfl) (by kernel_rfl) (by kernel_rfl) (fun _ _ _ h => h) (Or.inl ⟨by rfl, ?_⟩) (by assumption) ?_; rotate_left; focus (intro w hSw; (try dsimp only at hSw); (try simp only [zk1, zk2, zk3]); go_simp; try with_reducible rfl)); (try simp only [zk1, zk2, zk3]); (try simp only [Act.put, zk4, zk5, zk6])
                    (refine wpAnyH_take (i := 13) (v := ?_) rfl (by kernel_rfl) (by kernel_rfl) (by kernel_rfl) (fun _ _ _ h => h) (Or.inl ⟨by rfl, ?_⟩) (by assumption) ?_; rotate_left; focus (intro w hSw; (try dsimp only at hSw); (try simp only [zk1, zk2, zk3]); go_simp; try with_reducible rfl)); (try simp only [zk1, zk2, zk3]); (try simp only [Act.put, zk4, zk5, zk6])
                    (refine wpAnyH_take (i := 14) rfl (by kernel_rfl) (by kernel_rfl) (by kernel_rfl) (fun _ _ _ h => h) (Or.inr ⟨by rfl, rfl⟩) (by assumption) ?_); (try simp only [zk1, zk2, zk3]); (try simp only [Act.put, zk4, zk5, zk6])
                    (refine wpAnyH_take (i := 15) rfl (by kernel_rfl) (by kernel_rfl) (by kernel_rfl) (fun _ _ _ h => h) (Or.inr ⟨by rfl, rfl⟩) (by assumption) ?_); (try simp only [zk1, zk2, zk3]); (try simp only [Act.put, zk4, zk5, zk6])
                    (refine wpAnyH_take (i := 16) rfl (by kernel_rfl) (by kernel_rfl) (by kernel_rfl) (fun _ _ _ h => h) (Or.inr ⟨by rfl, rfl⟩) (by assumption) ?_); (try simp only [zk1, zk2, zk3]); (try simp only [Act.put, zk4, zk5, zk6])
                    (refine wpAnyH_take (i := 17) rfl (by kernel_rfl) (by kernel_rfl) (by kernel_rfl) (fun _ _ _ h => h) (Or.inr ⟨by rfl, rfl⟩) (by assumption) ?_); (try simp only [zk1, zk2, zk3]); (try simp only [Act.put, zk4, zk5, zk6])
                    (refine wpAnyH_take (i := 18) rfl (by kernel_rfl) (by kernel_rfl) (by kernel_rfl) (fun _ _ _ h => h) (Or.inr ⟨by rfl, rfl⟩) (by assumption) ?_); (try simp only [zk1, zk2, zk3]); (try simp only [Act.put, zk4, zk5, zk6])
                    (refine wpAnyH_take (i := 19) rfl (by kernel_rfl) (by kernel_rfl) (by kernel_rfl) (fun _ _ _ h => h) (Or.inr ⟨by rfl, rfl⟩) (by assumption) ?_); (try simp only [zk1, zk2, zk3]); (try simp only [Act.put, zk4, zk5, zk6])
                    (refine wpAnyH_take (i := 20) rfl (by kernel_rfl) (by kernel_rfl) (by kernel_rfl) (fun _ _ _ h => h) (Or.inr ⟨by rfl, rfl⟩) (by assumption) ?_); (try simp only [zk1, zk2, zk3]); (try simp only [Act.put, zk4, zk5, zk6])
                    (refine wpAnyH_take (i := 21) rfl (by kernel_rfl) (by kernel_rfl) (by kernel_rfl) (fun _ _ _ h => h) (Or.inr ⟨by rfl, rfl⟩) (by assumption) ?_); (try simp only [zk1, zk2, zk3]); (try simp only [Act.put, zk4, zk5, zk6])
                    (refine wpAnyH_take (i := 22) rfl (by kernel_rfl) (by kernel_rfl) (by kernel_rfl) (fun _ _ _ h => h) (Or.inr ⟨by rfl, rfl⟩) (by assumption) ?_); (try simp only [zk1, zk2, zk3]); (try simp only [Act.put, zk4, zk5, zk6])
                    (refine wpAnyH_take (i := 23) rfl (by kernel_rfl) (by kernel_rfl) (by kernel_rfl) (fun _ _ _ h => h) (Or.inr ⟨by rfl, rfl⟩) (by assumption) ?_); (try simp only [zk1, zk2, zk3]); (try simp only [Act.put, zk4, zk5, zk6])
                    (refine wpAnyH_take (i := 24) (v := ?_) rfl (by kernel_rfl) (by kernel_rfl) (by kernel_rfl) (fun _ _ _ h => h) (Or.inl ⟨by rfl, ?_⟩) (by assumption) ?_; rotate_left; focus (intro w hSw; (try dsimp only at hSw); (try simp only [zk1, zk2, zk3]); go_simp; try with_reducible rfl)); (try simp only [zk1, zk2, zk3]); (try simp only [Act.put, zk4, zk5, zk6])
                    refine wpAnyH_done (by kernel_rfl) ?_ _
                    have HVB := Lib.hid (show vdB rs (j : Int) hh ep r p ⟨xb, xs', .slice a4 xs'.op.length c4v, .slice a5 xs'.sh.length c5v, .slice a6 xs'.si.length c6v⟩ = false by rw [vdB, KI.out]; rfl)
                    go_wp2
                    go_roundw
                    case rel => exact ⟨k + 1, HLT.out, by go_num, congrArg (Value.int .i64) (by rw [HSU.out, HVB.out]; simp), hx⟩
                    case measure => simp [intOf]; (have := HLT.out); omega
                  · obtain ⟨hx0, hx1⟩ := inB_true.1 hki
                    clear hki
                    obtain ⟨jx, rfl⟩ := Int.eq_ofNat_of_zero_le hx0
                    have hjx : jx < rs.length := by omega
                    have hjx1 : (jx : Int) < rs.length := by omega
                    obtain ⟨rx, hrx⟩ : ∃ z, rs.getD jx ⟨#[]⟩ = z := ⟨_, rfl⟩
                    have HRX := Lib.hid hrx
                    have ex := HC0.out jx hjx
                    rw [hrx] at ex
                    clear hrx
                    obtain ⟨kv, hkv⟩ : ∃ z, stampOkB rx hh ep r p xs' = z := ⟨_, rfl⟩
                    have KV := Lib.hid hkv
                    clear hkv
                    refine wp_region_held_drew (S := (fun W => W.cell? ⟨B, 0, none⟩ = some (.slice (some ⟨q0, o0, none⟩) rs.length c0) ∧ W.cell? ⟨B, 2, none⟩ = some (.int .i64 (nd : Int)) ∧ W.cell? ⟨D, 0, none⟩ = some (.int .i64 hh) ∧ W.cell? ⟨D, 1, none⟩ = some (.int .i64 ep) ∧ W.cell? ⟨D, 2, none⟩ = some (.string r) ∧ W.cell? ⟨D, 3, none⟩ = some (.string p) ∧ W.cell? ⟨E, 0, none⟩ = some (.int .i64 (jx : Int)) ∧ W.cell? ⟨E, 1, none⟩ = some (.int .i64 xs'.at_) ∧ W.cell? ⟨E, 2, none⟩ = some (.slice a4 xs'.op.length c4v) ∧ W.cell? ⟨E, 3, none⟩ = some (.slice a5 xs'.sh.length c5v) ∧ W.cell? ⟨E, 4, none⟩ = some (.slice a6 xs'.si.length c6v) ∧ W.cell? ⟨q0, o0 + jx, none⟩ = some (.string rx))) (by kernel_rfl) (by exact ⟨Q.2.1 0 _ rfl, Q.2.1 2 _ rfl, H.2.1 0 _ rfl, H.2.1 1 _ rfl, H.2.1 2 _ rfl, H.2.1 3 _ rfl, O.2.1 0 _ rfl, O.2.1 1 _ rfl, O.2.1 2 _ rfl, O.2.1 3 _ rfl, O.2.1 4 _ rfl, ex⟩) (fun hHeld => ?_)
                    have xd : Ext wb wb.drew := (Ext.refl wb).drew
                    replace ex := (Ext.cell xd _ _ l0).trans ex
                    replace P := P.ext xd
                    replace Q := Q.ext xd
                    replace X := X.trans xd
                    replace HC0 := Lib.hid (fun j hj => (Ext.cell xd _ _ l0).trans (HC0.out j hj))
                    replace l0 := Nat.lt_of_lt_of_le l0 (Ext.size xd)
                    replace H := H.ext xd
                    replace hx := hx.trans xd
                    replace O := O.ext xd
                    generalize wb.drew = wc3 at *
                    (refine wpAnyH_take (i := 0) (v := ?_) rfl (by kernel_rfl) (by kernel_rfl) (by kernel_rfl) (fun _ _ _ h => h) (Or.inl ⟨by rfl, ?_⟩) (by assumption) ?_; rotate_left; focus (intro w hSw; (try dsimp only at hSw); (try simp only [zk1, zk2]); go_simp; try with_reducible rfl)); (try simp only [zk1, zk2]); (try simp only [Act.put, zk4, zk5, zk6])
                    (refine wpAnyH_take (i := 1) (v := ?_) rfl (by kernel_rfl) (by kernel_rfl) (by kernel_rfl) (fun _ _ _ h => h) (Or.inl ⟨by rfl, ?_⟩) (by assumption) ?_; rotate_left; focus (intro w hSw; (try dsimp only at hSw); (try simp only [zk1, zk2, zk3]); go_simp; try with_reducible rfl)); (try simp only [zk1, zk2, zk3]); (try simp only [Act.put, zk4, zk5, zk6])
                    (refine wpAnyH_take (i := 2) (v := ?_) rfl (by kernel_rfl) (by kernel_rfl) (by kernel_rfl) (fun _ _ _ h => h) (Or.inl ⟨by rfl, ?_⟩) (by assumption) ?_; rotate_left; focus (intro w hSw; (try dsimp only at hSw); (try simp only [zk1, zk2, zk3]); go_simp; try with_reducible rfl)); (try simp only [zk1, zk2, zk3]); (try simp only [Act.put, zk4, zk5, zk6])
                    (refine wpAnyH_take (i := 3) (v := ?_) rfl (by kernel_rfl) (by kernel_rfl) (by kernel_rfl) (fun _ _ _ h => h) (Or.inl ⟨by rfl, ?_⟩) (by assumption) ?_; rotate_left; focus (intro w hSw; (try dsimp only at hSw); (try simp only [zk1, zk2, zk3]); go_simp; try with_reducible rfl)); (try simp only [zk1, zk2, zk3]); (try simp only [Act.put, zk4, zk5, zk6])
                    (refine wpAnyH_take (i := 4) (v := ?_) rfl (by kernel_rfl) (by kernel_rfl) (by kernel_rfl) (fun _ _ _ h => h) (Or.inl ⟨by rfl, ?_⟩) (by assumption) ?_; rotate_left; focus (intro w hSw; (try dsimp only at hSw); (try simp only [zk1, zk2, zk3]); go_simp; try with_reducible rfl)); (try simp only [zk1, zk2, zk3]); (try simp only [Act.put, zk4, zk5, zk6])
                    (refine wpAnyH_take (i := 5) (v := ?_) rfl (by kernel_rfl) (by kernel_rfl) (by kernel_rfl) (fun _ _ _ h => h) (Or.inl ⟨by rfl, ?_⟩) (by assumption) ?_; rotate_left; focus (intro w hSw; (try dsimp only at hSw); (try simp only [zk1, zk2, zk3]); go_simp; try with_reducible rfl)); (try simp only [zk1, zk2, zk3]); (try simp only [Act.put, zk4, zk5, zk6])
                    (refine wpAnyH_take (i := 6) (v := ?_) rfl (by kernel_rfl) (by kernel_rfl) (by kernel_rfl) (fun _ _ _ h => h) (Or.inl ⟨by rfl, ?_⟩) (by assumption) ?_; rotate_left; focus (intro w hSw; (try dsimp only at hSw); (try simp only [zk1, zk2, zk3]); go_simp; try with_reducible rfl)); (try simp only [zk1, zk2, zk3]); (try simp only [Act.put, zk4, zk5, zk6])
                    (refine wpAnyH_take (i := 7) (v := ?_) rfl (by kernel_rfl) (by kernel_rfl) (by kernel_rfl) (fun _ _ _ h => h) (Or.inl ⟨by rfl, ?_⟩) (by assumption) ?_; rotate_left; focus (intro w hSw; (try dsimp only at hSw); (try simp only [zk1, zk2, zk3]); go_simp; try with_reducible rfl)); (try simp only [zk1, zk2, zk3]); (try simp only [Act.put, zk4, zk5, zk6])
                    (refine wpAnyH_take (i := 8) (v := ?_) rfl (by kernel_rfl) (by kernel_rfl) (by kernel_rfl) (fun _ _ _ h => h) (Or.inl ⟨by rfl, ?_⟩) (by assumption) ?_; rotate_left; focus (intro w hSw; (try dsimp only at hSw); (try simp only [zk1, zk2, zk3]); go_simp; try with_reducible rfl)); (try simp only [zk1, zk2, zk3]); (try simp only [Act.put, zk4, zk5, zk6])
                    (refine wpAnyH_take (i := 9) (v := ?_) rfl (by kernel_rfl) (by kernel_rfl) (by kernel_rfl) (fun _ _ _ h => h) (Or.inl ⟨by rfl, ?_⟩) (by assumption) ?_; rotate_left; focus (intro w hSw; (try dsimp only at hSw); (try simp only [zk1, zk2, zk3]); go_simp; try with_reducible rfl)); (try simp only [zk1, zk2, zk3]); (try simp only [Act.put, zk4, zk5, zk6])
                    (refine wpAnyH_take (i := 10) (v := .int .i64 ((rs.length : Int) - 1)) rfl (by kernel_rfl) (by kernel_rfl) (by kernel_rfl) (fun _ _ _ h => h) (Or.inl ⟨by rfl, ?_⟩) (by assumption) ?_; focus (intro w hSw; (try dsimp only at hSw); (try simp only [zk1, zk2, zk3]); go_simp; (first | done | simp [hw1]))); (try simp only [zk1, zk2, zk3]); (try simp only [Act.put, zk4, zk5, zk6])
                    (refine wpAnyH_ready (rs := [11]) (by kernel_rfl) (by simp) ?_; refine AllReadyH.cons rfl (fun K hK => ?_) AllReadyH.nil; (try simp only [zk1, zk2, zk3]))
                    go_simp
                    go_at_call 27
                    refine (spec_l01In _ _ _ _).mono ?_
                    rw [KI.out]
                    rintro e w' ⟨rfl, rfl⟩
                    (try dsimp only)
                    refine hK.out _ _ (by exact ⟨Q.2.1 0 _ rfl, Q.2.1 2 _ rfl, H.2.1 0 _ rfl, H.2.1 1 _ rfl, H.2.1 2 _ rfl, H.2.1 3 _ rfl, O.2.1 0 _ rfl, O.2.1 1 _ rfl, O.2.1 2 _ rfl, O.2.1 3 _ rfl, O.2.1 4 _ rfl, ex⟩) (fun hHeld => ?_)
                    clear hK K
                    (refine wpAnyH_take (i := 12) (v := ?_) rfl (by kernel_rfl) (by kernel_rfl) (by kernel_rfl) (fun _ _ _ h => h) (Or.inl ⟨by rfl, ?_⟩) (by assumption) ?_; rotate_left; focus (intro w hSw; (try dsimp only at hSw); (try simp only [zk1, zk2, zk3]); go_simp; try with_reducible rfl)); (try simp only [zk1, zk2, zk3]); (try simp only [Act.put, zk4, zk5, zk6])
                    (refine wpAnyH_take (i := 13) (v := ?_) rfl (by kernel_rfl) (by kernel_rfl) (by kernel_rfl) (fun _ _ _ h => h) (Or.inl ⟨by rfl, ?_⟩) (by assumption) ?_; rotate_left; focus (intro w hSw; (try dsimp only at hSw); (try simp only [zk1, zk2, zk3]); go_simp; try with_reducible rfl)); (try simp only [zk1, zk2, zk3]); (try simp only [Act.put, zk4, zk5, zk6])
                    (refine wpAnyH_take (i := 14) (v := ?_) rfl (by kernel_rfl) (by kernel_rfl) (by kernel_rfl) (fun _ _ _ h => h) (Or.inl ⟨by rfl, ?_⟩) (by assumption) ?_; rotate_left; focus (intro w hSw; (try dsimp only at hSw); (try simp only [zk1, zk2, zk3]); go_simp; try with_reducible rfl)); (try simp only [zk1, zk2, zk3]); (try simp only [Act.put, zk4, zk5, zk6])
                    (refine wpAnyH_take (i := 15) (v := ?_) rfl (by kernel_rfl) (by kernel_rfl) (by kernel_rfl) (fun _ _ _ h => h) (Or.inl ⟨by rfl, ?_⟩) (by assumption) ?_; rotate_left; focus (intro w hSw; (try dsimp only at hSw); (try simp only [zk1, zk2, zk3]); go_simp; try with_reducible rfl)); (try simp only [zk1, zk2, zk3]); (try simp only [Act.put, zk4, zk5, zk6])
                    (refine wpAnyH_take (i := 16) (v := ?_) rfl (by kernel_rfl) (by kernel_rfl) (by kernel_rfl) (fun _ _ _ h => h) (Or.inl ⟨by rfl, ?_⟩) (by assumption) ?_; rotate_left; focus (intro w hSw; (try dsimp only at hSw); (try simp only [zk1, zk2, zk3]); go_simp; try with_reducible rfl)); (try simp only [zk1, zk2, zk3]); (try simp only [Act.put, zk4, zk5, zk6])
                    (refine wpAnyH_take (i := 17) (v := ?_) rfl (by kernel_rfl) (by kernel_rfl) (by kernel_rfl) (fun _ _ _ h => h) (Or.inl ⟨by rfl, ?_⟩) (by assumption) ?_; rotate_left; focus (intro w hSw; (try dsimp only at hSw); (try simp only [zk1, zk2, zk3]); go_simp; try with_reducible rfl)); (try simp only [zk1, zk2, zk3]); (try simp only [Act.put, zk4, zk5, zk6])
                    (refine wpAnyH_take (i := 18) (v := .pointer (some ⟨q0, o0 + jx, none⟩)) rfl (by kernel_rfl) (by kernel_rfl) (by kernel_rfl) (fun _ _ _ h => h) (Or.inl ⟨by rfl, ?_⟩) (by assumption) ?_; focus (intro w hSw; (try dsimp only at hSw); (try simp only [zk1, zk2, zk3]); go_simp; (try simp))); (try simp only [zk1, zk2, zk3]); (try simp only [Act.put, zk4, zk5, zk6])
                    (refine wpAnyH_take (i := 19) (v := ?_) rfl (by kernel_rfl) (by kernel_rfl) (by kernel_rfl) (fun _ _ _ h => h) (Or.inl ⟨by rfl, ?_⟩) (by assumption) ?_; rotate_left; focus (intro w hSw; (try dsimp only at hSw); (try simp only [zk1, zk2, zk3]); go_simp; try with_reducible rfl)); (try simp only [zk1, zk2, zk3]); (try simp only [Act.put, zk4, zk5, zk6])
                    (refine wpAnyH_take (i := 20) (v := ?_) rfl (by kernel_rfl) (by kernel_rfl) (by kernel_rfl) (fun _ _ _ h => h) (Or.inl ⟨by rfl, ?_⟩) (by assumption) ?_; rotate_left; focus (intro w hSw; (try dsimp only at hSw); (try simp only [zk1, zk2, zk3]); go_simp; try with_reducible rfl)); (try simp only [zk1, zk2, zk3]); (try simp only [Act.put, zk4, zk5, zk6])
                    (refine wpAnyH_take (i := 21) (v := ?_) rfl (by kernel_rfl) (by kernel_rfl) (by kernel_rfl) (fun _ _ _ h => h) (Or.inl ⟨by rfl, ?_⟩) (by assumption) ?_; rotate_left; focus (intro w hSw; (try dsimp only at hSw); (try simp only [zk1, zk2, zk3]); go_simp; try with_reducible rfl)); (try simp only [zk1, zk2, zk3]); (try simp only [Act.put, zk4, zk5, zk6])
                    (refine wpAnyH_take (i := 22) (v := ?_) rfl (by kernel_rfl) (by kernel_rfl) (by kernel_rfl) (fun _ _ _ h => h) (Or.inl ⟨by rfl, ?_⟩) (by assumption) ?_; rotate_left; focus (intro w hSw; (try dsimp only at hSw); (try simp only [zk1, zk2, zk3]); go_simp; try with_reducible rfl)); (try simp only [zk1, zk2, zk3]); (try simp only [Act.put, zk4, zk5, zk6])
                    (refine wpAnyH_ready (rs := [23]) (by kernel_rfl) (by simp) ?_; refine AllReadyH.cons rfl (fun K hK => ?_) AllReadyH.nil; (try simp only [zk1, zk2, zk3]))
                    go_simp
                    go_at_call 28
                    refine (spec_StampOk rx hh ep r p _ _ _ xs' _ (s1.ext X) (s2.ext X) (s3.ext X) HFX.out).mono ?_
                    rw [KV.out]
                    rintro e wd ⟨rfl, xd3⟩
                    replace ex := (Ext.cell xd3 _ _ l0).trans ex
                    replace P := P.ext xd3
                    replace Q := Q.ext xd3
                    replace X := X.trans xd3
                    replace HC0 := Lib.hid (fun j hj => (Ext.cell xd3 _ _ l0).trans (HC0.out j hj))
                    replace l0 := Nat.lt_of_lt_of_le l0 (Ext.size xd3)
                    replace H := H.ext xd3
                    replace hx := hx.trans xd3
                    replace O := O.ext xd3
                    (try dsimp only)
                    refine hK.out _ _ (by exact ⟨Q.2.1 0 _ rfl, Q.2.1 2 _ rfl, H.2.1 0 _ rfl, H.2.1 1 _ rfl, H.2.1 2 _ rfl, H.2.1 3 _ rfl, O.2.1 0 _ rfl, O.2.1 1 _ rfl, O.2.1 2 _ rfl, O.2.1 3 _ rfl, O.2.1 4 _ rfl, ex⟩) (fun hHeld => ?_)
                    clear hK K
                    cases kv
                    · (refine wpAnyH_take (i := 24) (v := ?_) rfl (by kernel_rfl) (by kernel_rfl) (by kernel_rfl) (fun _ _ _ h => h) (Or.inl ⟨by rfl, ?_⟩) (by assumption) ?_; rotate_left; focus (intro w hSw; (try dsimp only at hSw); (try simp only [zk1, zk2, zk3]); go_simp; try with_reducible rfl)); (try simp only [zk1, zk2, zk3]); (try simp only [Act.put, zk4, zk5, zk6])
                      refine wpAnyH_done (by kernel_rfl) ?_ _
                      have HVB := Lib.hid (show vdB rs (j : Int) hh ep r p ⟨(jx : Int), xs', .slice a4 xs'.op.length c4v, .slice a5 xs'.sh.length c5v, .slice a6 xs'.si.length c6v⟩ = false by rw [vdB, KI.out, decide_eq_true (show (jx : Int) ≠ (j : Int) from HNE.out)]; show (true && (true && stampOkB (rs.getD (jx : Int).toNat ⟨#[]⟩) hh ep r p xs')) = _; rw [Int.toNat_natCast, HRX.out, KV.out]; rfl)
                      go_wp2
                      go_roundw
                      case rel => exact ⟨k + 1, HLT.out, by go_num, congrArg (Value.int .i64) (by rw [HSU.out, HVB.out]; simp), hx⟩
                      case measure => simp [intOf]; (have := HLT.out); omega
                    · (refine wpAnyH_take (i := 24) (v := ?_) rfl (by kernel_rfl) (by kernel_rfl) (by kernel_rfl) (fun _ _ _ h => h) (Or.inl ⟨by rfl, ?_⟩) (by assumption) ?_; rotate_left; focus (intro w hSw; (try dsimp only at hSw); (try simp only [zk1, zk2, zk3]); go_simp; try with_reducible rfl)); (try simp only [zk1, zk2, zk3]); (try simp only [Act.put, zk4, zk5, zk6])
                      refine wpAnyH_done (by kernel_rfl) ?_ _
                      have HVB := Lib.hid (show vdB rs (j : Int) hh ep r p ⟨(jx : Int), xs', .slice a4 xs'.op.length c4v, .slice a5 xs'.sh.length c5v, .slice a6 xs'.si.length c6v⟩ = true by rw [vdB, KI.out, decide_eq_true (show (jx : Int) ≠ (j : Int) from HNE.out)]; show (true && (true && stampOkB (rs.getD (jx : Int).toNat ⟨#[]⟩) hh ep r p xs')) = _; rw [Int.toNat_natCast, HRX.out, KV.out]; rfl)
                      go_wp2
                      go_roundw
                      case rel => exact ⟨k + 1, HLT.out, by go_num, congrArg (Value.int .i64) (by rw [HSU.out, HVB.out]; simp), hx⟩
                      case measure => simp [intOf]; (have := HLT.out); omega
              · obtain rfl : k = xs.length := by omega
                simp only [List.take_length]
                by_cases hnd : vdN rs (j : Int) hh ep r p xs < nd
                · have hni : ((vdN rs (j : Int) hh ep r p xs : Nat) : Int) < (nd : Int) := by omega
                  have HV := Lib.hid (show verN rs kz (nd : Int) (j : Int) name epoch lv ss tops hh ep r p S xs = 5 from by rw [verN, if_neg HF1.out, if_neg HF2.out, if_neg HF3.out, if_neg HF4.out, if_pos (by omega)])
                  go_wp2
                  go_ret3
                  exact ⟨ver_no HV.out (by decide), X⟩
                · have hni : ¬ ((vdN rs (j : Int) hh ep r p xs : Nat) : Int) < (nd : Int) := by omega
                  have HV := Lib.hid (show verN rs kz (nd : Int) (j : Int) name epoch lv ss tops hh ep r p S xs = 0 by rw [verN, if_neg HF1.out, if_neg HF2.out, if_neg HF3.out, if_neg HF4.out, if_neg (by omega)])
                  go_wp2_with fail
                  clear p0 p1 p2 p3 p4 p5 p6 p7 p8 p9 p10 p11 t0 t1 t2
                  refine (spec_ProofSays name _ _ lv _ (h1.ext X) ⟨_, _, _, rfl⟩).mono ?_
                  rintro e w9 ⟨rfl, x9⟩
                  go_wp2
                  go_ret3
                  exact ⟨ver_yes HV.out, X.trans x9⟩
          · have bF : (fo.toList == r.toList) = false := by rw [toList_beq]; exact decide_eq_false hfr
            have bN : (fo.toList != r.toList) = true := by rw [bne, bF]; rfl
            have HV := Lib.hid (show verN rs kz (nd : Int) (j : Int) name epoch lv ss tops hh ep r p S xs = 4 from by rw [verN, if_neg HF1.out, if_neg HF2.out, if_neg HF3.out, if_pos (show foldW name lv ss tops kz ≠ r by rw [HFW.out]; exact hfr)])
            go_wp2
            go_ret3
            exact ⟨ver_no HV.out (by decide), X⟩
      · have hbb : (ep != epoch) = true := by simp [hb]
        have HV := Lib.hid (show verN rs kz (nd : Int) (j : Int) name epoch lv ss tops hh ep r p S xs = 2 from by rw [verN, if_neg HF1.out, if_pos (fun e => hb e.2)])
        go_wp2
        go_ret3
        exact ⟨ver_no HV.out (by decide), X⟩
    · have hab : (hh != (j : Int)) = true := by simp [ha]
      have HV := Lib.hid (show verN rs kz (nd : Int) (j : Int) name epoch lv ss tops hh ep r p S xs = 2 from by rw [verN, if_neg HF1.out, if_pos (fun e => ha e.1)])
      go_wp2
      go_ret3
      exact ⟨ver_no HV.out (by decide), X⟩
end Go.Proofs.YtckipgijfgeghaaGreatDoor
