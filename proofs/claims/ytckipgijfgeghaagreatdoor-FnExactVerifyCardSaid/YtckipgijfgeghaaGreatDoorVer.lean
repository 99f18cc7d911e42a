/- The form of a whole proof: both. -/
import Derived.Test.YtckipgijfgeghaaGreatDoorWhl
import Derived.Test.YtckipgijfgeghaaGreatDoorTrust
import Derived.Test.YtckipgijfgeghaaGreatDoorPOk
import Derived.Deep.DeepCutAuto
import Derived.Deep.RegionHeld3
import Derived.IntWalk
namespace Go.Proofs.YtckipgijfgeghaaGreatDoor
open Go.RowKit

def ascB (xs : List Int) (k : Nat) : Bool := (List.range k).all fun i => decide (xs.getD i 0 < xs.getD (i + 1) 0)
theorem ascB_succ (xs : List Int) (k : Nat) : ascB xs (k + 1) = (ascB xs k && decide (xs.getD k 0 < xs.getD (k + 1) 0)) := by simp [ascB, List.range_succ]
theorem ascB_no {xs : List Int} {k n : Nat} (hk : k < n) (h : ¬ xs.getD k 0 < xs.getD (k + 1) 0) : ascB xs n = false := by
  cases ha : ascB xs n
  · rfl
  · have := List.all_eq_true.1 ha k (List.mem_range.2 hk)
    rw [decide_eq_true_eq] at this
    exact absurd this h
def formB (rs : List ByteArray) (K need house : Int) (name : ByteArray) (lv : List Leaf) (ss tops : List ByteArray) (bys : List Int) : Bool :=
  trustOk rs K need && (inB house 0 ((rs.length : Int) - 1) && (proofOk name lv ss 16 && (decide ((ss.length : Int) = 8 - K) && (decide ((tops.length : Int) = K) && (wide tops 16 && ascB bys (bys.length - 1))))))
theorem bys_at {xs : List StW} {k : Nat} (h : k < xs.length) : (xs.map StW.by_).getD k 0 = xs[k].by_ := by
  rw [List.getD_eq_getElem?_getD, List.getElem?_map, List.getElem?_eq_getElem h]
  rfl
theorem trust_bd {rs : List ByteArray} {K need : Int} (h : trustOk rs K need = true) : 1 ≤ rs.length ∧ rs.length ≤ 3 ∧ 0 ≤ K ∧ K ≤ 2 ∧ 0 ≤ need ∧ need ≤ 2 := by
  simp only [trustOk, Bool.and_eq_true, inB_true] at h
  omega
theorem form_tops {tops : List ByteArray} {K : Int} (h : (wide tops 16 && decide ((tops.length : Int) = K)) = false) : ∀ b : Bool, (decide ((tops.length : Int) = K) && (wide tops 16 && b)) = false := by
  intro b
  cases h1 : wide tops 16 <;> cases h2 : decide ((tops.length : Int) = K) <;> simp_all
theorem form_tops2 {tops : List ByteArray} {K : Int} (h : (wide tops 16 && decide ((tops.length : Int) = K)) = true) : wide tops 16 = true ∧ (tops.length : Int) = K := by
  simpa using h
set_option maxRecDepth 100000 in
set_option maxHeartbeats 12800000 in
theorem spec_l15Form (v0 v1 v2 v3 v4 v5 v6 v7 : Value) (rs : List ByteArray) (K need house : Int) (name : ByteArray) (lv : List Leaf) (ss tops : List ByteArray) (hh ep : Int) (r p : ByteArray) (S : SigV) (xs : List StW) (w : World) (h0 : Strs w v0 rs) (h1 : Lvs w v1 lv) (h2 : Strs w v2 ss) (h3 : Strs w v3 tops) (h4 : Strs w v4 S.op) (h5 : Strs w v5 S.sh) (h6 : Strs w v6 S.si) (h7 : Sts w v7 xs) (hs0 : ∀ s ∈ rs, s.size ≤ maxLen) (hnm : name.size ≤ maxLen) (hf : LeafFit lv) (hs2 : ∀ s ∈ ss, s.size ≤ maxLen) (hs3 : ∀ s ∈ tops, s.size ≤ maxLen) :
    Calls Tryz.prog 22 #[.agg #[v0, .int .i64 K, .int .i64 need], .int .i64 house, .string name, .agg #[v1, v2, v3, .int .i64 hh, .int .i64 ep, .string r, .string p, .int .i64 S.at_, v4, v5, v6, v7]] w fun e w' => e = .returned (.bool (formB rs K need house name lv ss tops (xs.map StW.by_))) ∧ Ext w w' := by
  obtain ⟨b0, c0, rfl⟩ := h0.form
  obtain ⟨b1, c1, rfl⟩ := h1.form
  obtain ⟨b2, c2, rfl⟩ := h2.form
  obtain ⟨b3, c3, rfl⟩ := h3.form
  obtain ⟨b4, c4, rfl⟩ := h4.form
  obtain ⟨b5, c5, rfl⟩ := h5.form
  obtain ⟨b6, c6, rfl⟩ := h6.form
  obtain ⟨b7, c7, rfl⟩ := h7.form
  have Q : Bx ((w.alloc (Obj.cells #[.slice b0 rs.length c0, .int .i64 K, .int .i64 need] 41)).alloc (Obj.cells #[.slice b1 lv.length c1, .slice b2 ss.length c2, .slice b3 tops.length c3, .int .i64 hh, .int .i64 ep, .string r, .string p, .int .i64 S.at_, .slice b4 S.op.length c4, .slice b5 S.sh.length c5, .slice b6 S.si.length c6, .slice b7 xs.length c7] 52)) w.heap.size [.slice b0 rs.length c0, .int .i64 K, .int .i64 need] := (Bx.new w _ _).ext ((Ext.refl _).alloc _)
  have P : Bx ((w.alloc (Obj.cells #[.slice b0 rs.length c0, .int .i64 K, .int .i64 need] 41)).alloc (Obj.cells #[.slice b1 lv.length c1, .slice b2 ss.length c2, .slice b3 tops.length c3, .int .i64 hh, .int .i64 ep, .string r, .string p, .int .i64 S.at_, .slice b4 S.op.length c4, .slice b5 S.sh.length c5, .slice b6 S.si.length c6, .slice b7 xs.length c7] 52)) (w.heap.size + 1) [.slice b1 lv.length c1, .slice b2 ss.length c2, .slice b3 tops.length c3, .int .i64 hh, .int .i64 ep, .string r, .string p, .int .i64 S.at_, .slice b4 S.op.length c4, .slice b5 S.sh.length c5, .slice b6 S.si.length c6, .slice b7 xs.length c7] := by
    have e := Bx.new (w.alloc (Obj.cells #[.slice b0 rs.length c0, .int .i64 K, .int .i64 need] 41)) #[.slice b1 lv.length c1, .slice b2 ss.length c2, .slice b3 tops.length c3, .int .i64 hh, .int .i64 ep, .string r, .string p, .int .i64 S.at_, .slice b4 S.op.length c4, .slice b5 S.sh.length c5, .slice b6 S.si.length c6, .slice b7 xs.length c7] 52
    rw [World.size_alloc] at e
    exact e
  have X : Ext w ((w.alloc (Obj.cells #[.slice b0 rs.length c0, .int .i64 K, .int .i64 need] 41)).alloc (Obj.cells #[.slice b1 lv.length c1, .slice b2 ss.length c2, .slice b3 tops.length c3, .int .i64 hh, .int .i64 ep, .string r, .string p, .int .i64 S.at_, .slice b4 S.op.length c4, .slice b5 S.sh.length c5, .slice b6 S.si.length c6, .slice b7 xs.length c7] 52)) := ((Ext.refl w).alloc _).alloc _
  go_enter Tryz.func22, Tryz.ntmps22
  go_wp2_with fail
  generalize (w.alloc (Obj.cells #[.slice b0 rs.length c0, .int .i64 K, .int .i64 need] 41)).alloc (Obj.cells #[.slice b1 lv.length c1, .slice b2 ss.length c2, .slice b3 tops.length c3, .int .i64 hh, .int .i64 ep, .string r, .string p, .int .i64 S.at_, .slice b4 S.op.length c4, .slice b5 S.sh.length c5, .slice b6 S.si.length c6, .slice b7 xs.length c7] 52) = W0 at *
  generalize w.heap.size = B at *
  obtain ⟨ka, hk_ka⟩ : ∃ z, trustOk rs K need = z := ⟨_, rfl⟩
  have K_ka := Lib.hid hk_ka
  clear hk_ka
  refine (spec_TrustOk _ rs K need _ (h0.ext X) hs0).mono ?_
  rw [K_ka.out]
  rintro e w_ka ⟨rfl, x_ka⟩
  replace P := P.ext x_ka
  replace Q := Q.ext x_ka
  replace X := X.trans x_ka
  cases ka
  · have p0 := P.2.1 0 _ rfl
    have p1 := P.2.1 1 _ rfl
    have p2 := P.2.1 2 _ rfl
    have p3 := P.2.1 3 _ rfl
    have p4 := P.2.1 4 _ rfl
    have p5 := P.2.1 5 _ rfl
    have p6 := P.2.1 6 _ rfl
    have p7 := P.2.1 7 _ rfl
    have p8 := P.2.1 8 _ rfl
    have p9 := P.2.1 9 _ rfl
    have p10 := P.2.1 10 _ rfl
    have p11 := P.2.1 11 _ rfl
    have t0 := Q.2.1 0 _ rfl
    have t1 := Q.2.1 1 _ rfl
    have t2 := Q.2.1 2 _ rfl
    have hno : formB rs K need house name lv ss tops (xs.map StW.by_) = false := by rw [formB, K_ka.out]; rfl
    have R := Lib.hid hno
    clear hno
    go_wp2
    go_ret
    exact ⟨ret_bool R.out.symm, X⟩
  · have p0 := P.2.1 0 _ rfl
    have p1 := P.2.1 1 _ rfl
    have p2 := P.2.1 2 _ rfl
    have p3 := P.2.1 3 _ rfl
    have p4 := P.2.1 4 _ rfl
    have p5 := P.2.1 5 _ rfl
    have p6 := P.2.1 6 _ rfl
    have p7 := P.2.1 7 _ rfl
    have p8 := P.2.1 8 _ rfl
    have p9 := P.2.1 9 _ rfl
    have p10 := P.2.1 10 _ rfl
    have p11 := P.2.1 11 _ rfl
    have t0 := Q.2.1 0 _ rfl
    have t1 := Q.2.1 1 _ rfl
    have t2 := Q.2.1 2 _ rfl
    obtain ⟨hr1, hr2, hK1, hK2, hN1, hN2⟩ := trust_bd K_ka.out
    have hrl : (1 : Int) ≤ rs.length := by omega
    have hrl2 : (rs.length : Int) ≤ 3 := by omega
    go_wp2_with fail
    clear p0 p1 p2 p3 p4 p5 p6 p7 p8 p9 p10 p11 t0 t1 t2
    obtain ⟨kb, hk_kb⟩ : ∃ z, inB house 0 ((rs.length : Int) - 1) = z := ⟨_, rfl⟩
    have K_kb := Lib.hid hk_kb
    clear hk_kb
    refine (spec_l01In _ _ _ _).mono ?_
    rw [K_kb.out]
    rintro e w' ⟨rfl, rfl⟩
    cases kb
    · have p0 := P.2.1 0 _ rfl
      have p1 := P.2.1 1 _ rfl
      have p2 := P.2.1 2 _ rfl
      have p3 := P.2.1 3 _ rfl
      have p4 := P.2.1 4 _ rfl
      have p5 := P.2.1 5 _ rfl
      have p6 := P.2.1 6 _ rfl
      have p7 := P.2.1 7 _ rfl
      have p8 := P.2.1 8 _ rfl
      have p9 := P.2.1 9 _ rfl
      have p10 := P.2.1 10 _ rfl
      have p11 := P.2.1 11 _ rfl
      have t0 := Q.2.1 0 _ rfl
      have t1 := Q.2.1 1 _ rfl
      have t2 := Q.2.1 2 _ rfl
      have hno : formB rs K need house name lv ss tops (xs.map StW.by_) = false := by rw [formB, K_ka.out, K_kb.out]; rfl
      have R := Lib.hid hno
      clear hno
      go_wp2
      go_ret
      exact ⟨ret_bool R.out.symm, X⟩
    · have p0 := P.2.1 0 _ rfl
      have p1 := P.2.1 1 _ rfl
      have p2 := P.2.1 2 _ rfl
      have p3 := P.2.1 3 _ rfl
      have p4 := P.2.1 4 _ rfl
      have p5 := P.2.1 5 _ rfl
      have p6 := P.2.1 6 _ rfl
      have p7 := P.2.1 7 _ rfl
      have p8 := P.2.1 8 _ rfl
      have p9 := P.2.1 9 _ rfl
      have p10 := P.2.1 10 _ rfl
      have p11 := P.2.1 11 _ rfl
      have t0 := Q.2.1 0 _ rfl
      have t1 := Q.2.1 1 _ rfl
      have t2 := Q.2.1 2 _ rfl
      go_wp2_with fail
      clear p0 p1 p2 p3 p4 p5 p6 p7 p8 p9 p10 p11 t0 t1 t2
      obtain ⟨kc, hk_kc⟩ : ∃ z, proofOk name lv ss 16 = z := ⟨_, rfl⟩
      have K_kc := Lib.hid hk_kc
      clear hk_kc
      refine (spec_ProofOk name _ _ lv ss 16 _ hnm (h1.ext X) hf (h2.ext X) hs2).mono ?_
      rw [K_kc.out]
      rintro e w_kc ⟨rfl, x_kc⟩
      replace P := P.ext x_kc
      replace Q := Q.ext x_kc
      replace X := X.trans x_kc
      cases kc
      · have p0 := P.2.1 0 _ rfl
        have p1 := P.2.1 1 _ rfl
        have p2 := P.2.1 2 _ rfl
        have p3 := P.2.1 3 _ rfl
        have p4 := P.2.1 4 _ rfl
        have p5 := P.2.1 5 _ rfl
        have p6 := P.2.1 6 _ rfl
        have p7 := P.2.1 7 _ rfl
        have p8 := P.2.1 8 _ rfl
        have p9 := P.2.1 9 _ rfl
        have p10 := P.2.1 10 _ rfl
        have p11 := P.2.1 11 _ rfl
        have t0 := Q.2.1 0 _ rfl
        have t1 := Q.2.1 1 _ rfl
        have t2 := Q.2.1 2 _ rfl
        have hno : formB rs K need house name lv ss tops (xs.map StW.by_) = false := by rw [formB, K_ka.out, K_kb.out, K_kc.out]; rfl
        have R := Lib.hid hno
        clear hno
        go_wp2
        go_ret
        exact ⟨ret_bool R.out.symm, X⟩
      · have p0 := P.2.1 0 _ rfl
        have p1 := P.2.1 1 _ rfl
        have p2 := P.2.1 2 _ rfl
        have p3 := P.2.1 3 _ rfl
        have p4 := P.2.1 4 _ rfl
        have p5 := P.2.1 5 _ rfl
        have p6 := P.2.1 6 _ rfl
        have p7 := P.2.1 7 _ rfl
        have p8 := P.2.1 8 _ rfl
        have p9 := P.2.1 9 _ rfl
        have p10 := P.2.1 10 _ rfl
        have p11 := P.2.1 11 _ rfl
        have t0 := Q.2.1 0 _ rfl
        have t1 := Q.2.1 1 _ rfl
        have t2 := Q.2.1 2 _ rfl
        by_cases hsd : (ss.length : Int) = 8 - K
        · have HSD := Lib.hid (decide_eq_true hsd)
          have hsb : ((ss.length : Int) != 8 - K) = false := by simp [hsd]
          clear hsd
          by_cases htl : (tops.length : Int) = K
          · have HTL := Lib.hid (decide_eq_true htl)
            have htb : ((tops.length : Int) != K) = false := by simp [htl]
            clear htl
            go_wp2_with fail
            clear p0 p1 p2 p3 p4 p5 p6 p7 p8 p9 p10 p11 t0 t1 t2
            obtain ⟨kd, hkd⟩ : ∃ z, wide tops 16 = z := ⟨_, rfl⟩
            have K_kd := Lib.hid hkd
            clear hkd
            refine (spec_l11Wide _ tops 16 _ (h3.ext X) hs3).mono ?_
            rw [show (wide tops 16 && inB 16 1 32) = kd by rw [K_kd.out]; simp [show inB 16 1 32 = true from rfl]]
            rintro e w' ⟨rfl, rfl⟩
            cases kd
            · have p0 := P.2.1 0 _ rfl
              have p1 := P.2.1 1 _ rfl
              have p2 := P.2.1 2 _ rfl
              have p3 := P.2.1 3 _ rfl
              have p4 := P.2.1 4 _ rfl
              have p5 := P.2.1 5 _ rfl
              have p6 := P.2.1 6 _ rfl
              have p7 := P.2.1 7 _ rfl
              have p8 := P.2.1 8 _ rfl
              have p9 := P.2.1 9 _ rfl
              have p10 := P.2.1 10 _ rfl
              have p11 := P.2.1 11 _ rfl
              have t0 := Q.2.1 0 _ rfl
              have t1 := Q.2.1 1 _ rfl
              have t2 := Q.2.1 2 _ rfl
              have hno : formB rs K need house name lv ss tops (xs.map StW.by_) = false := by rw [formB, K_ka.out, K_kb.out, K_kc.out, HSD.out, HTL.out, K_kd.out]; rfl
              have R := Lib.hid hno
              clear hno
              go_wp2
              go_ret
              exact ⟨ret_bool R.out.symm, X⟩
            · have p0 := P.2.1 0 _ rfl
              have p1 := P.2.1 1 _ rfl
              have p2 := P.2.1 2 _ rfl
              have p3 := P.2.1 3 _ rfl
              have p4 := P.2.1 4 _ rfl
              have p5 := P.2.1 5 _ rfl
              have p6 := P.2.1 6 _ rfl
              have p7 := P.2.1 7 _ rfl
              have p8 := P.2.1 8 _ rfl
              have p9 := P.2.1 9 _ rfl
              have p10 := P.2.1 10 _ rfl
              have p11 := P.2.1 11 _ rfl
              have t0 := Q.2.1 0 _ rfl
              have t1 := Q.2.1 1 _ rfl
              have t2 := Q.2.1 2 _ rfl
              have HEV := Lib.hid (show formB rs K need house name lv ss tops (xs.map StW.by_) = ascB (xs.map StW.by_) ((xs.map StW.by_).length - 1) by rw [formB, K_ka.out, K_kb.out, K_kc.out, HSD.out, HTL.out, K_kd.out]; rfl)
              go_upto_region 3 with (fail)
              clear p0 p1 p2 p3 p4 p5 p6 p7 p8 p9 p10 p11 t0 t1 t2
              have XL := X
              go_wp2_with fail
              go_loopw [9] (fun i wr => ∃ k : Nat, i = .int .i64 ((k : Int) + 1) ∧ (k = 0 ∨ k + 1 ≤ xs.length) ∧ ascB (xs.map StW.by_) k = true ∧ Ext w_kc wr) (fun i _ => xs.length + 1 - (intOf i).toNat)
              case atStart => exact ⟨0, rfl, Or.inl rfl, rfl, Ext.refl _⟩
              case round =>
                obtain ⟨k, rfl, hk, hasc, hx⟩ := hrel
                have HASC := Lib.hid hasc
                clear hasc
                replace P := P.ext hx
                replace Q := Q.ext hx
                replace X := X.trans hx
                have p11 := P.2.1 11 _ rfl
                by_cases hlt : k + 1 < xs.length
                · have hlti : (k : Int) + 1 < xs.length := by omega
                  obtain ⟨⟨-, a7, c7v, hv7, hc7, hm7, g7⟩, hst7⟩ := h7
                  injection hv7 with i1 i2 i3
                  subst i1 i3
                  rcases g7 with g7 | ⟨q7, o7, rfl, hb7, g7⟩
                  · omega
                  have e0 : wr.cell? ⟨q7, o7 + k * 5, none⟩ = some (.int .i64 xs[k].by_) := (X.cell q7 _ hb7).trans (g7 _ _ (st_c0 xs k (by omega)))
                  have e1 : wr.cell? ⟨q7, o7 + (k + 1) * 5, none⟩ = some (.int .i64 xs[k + 1].by_) := (X.cell q7 _ hb7).trans (g7 _ _ (st_c0 xs (k + 1) hlt))
                  have HB0 := Lib.hid (bys_at (xs := xs) (k := k) (by omega))
                  have HB1 := Lib.hid (bys_at (xs := xs) (k := k + 1) hlt)
                  clear g7 hst7
                  generalize xs[k].by_ = n0 at *
                  generalize xs[k + 1].by_ = n1 at *
                  have hz0 : (0 : Int) ≤ k := by omega
                  have hz1 : (k : Int) < xs.length := by omega
                  have hz2 : (0 : Int) ≤ (k : Int) + 1 := by omega
                  have hz3 : ((k : Int) + 1).toNat = k + 1 := by omega
                  unfold maxLen at hm7
                  have hwk : IntKind.i64.wrap (k : Int) = k := IntWalk.i64_in _ (by omega)
                  have hwk1 : IntKind.i64.wrap ((k : Int) + 1) = (k : Int) + 1 := IntWalk.i64_in _ (by omega)
                  have l7 : q7 < wr.heap.size := Nat.lt_of_lt_of_le hb7 X.size
                  by_cases hn : n0 < n1
                  · have hnn : ¬ n1 ≤ n0 := by omega
                    have HN := Lib.hid hn
                    clear hn
                    go_wp2_with fail
                    clear p11
                    refine wp_region_held_drew (S := (fun W => W.cell? ⟨(B + 1), 11, none⟩ = some (.slice (some ⟨q7, o7, none⟩) xs.length c7) ∧ W.cell? ⟨q7, o7 + k * 5, none⟩ = some (.int .i64 n0) ∧ W.cell? ⟨q7, o7 + (k + 1) * 5, none⟩ = some (.int .i64 n1))) (by kernel_rfl) (by exact ⟨P.2.1 11 _ rfl, e0, e1⟩) (fun hHeld => ?_)
                    have xd : Ext wr wr.drew := (Ext.refl wr).drew
                    replace P := P.ext xd
                    replace Q := Q.ext xd
                    replace X := X.trans xd
                    replace hx := hx.trans xd
                    replace e0 := (Ext.cell xd _ _ l7).trans e0
                    replace e1 := (Ext.cell xd _ _ l7).trans e1
                    replace l7 := Nat.lt_of_lt_of_le l7 (Ext.size xd)
                    generalize wr.drew = wq at *
                    (refine wpAnyH_take (i := 0) (v := ?_) rfl (by kernel_rfl) (by kernel_rfl) (by kernel_rfl) (fun _ _ _ h => h) (Or.inl ⟨by rfl, ?_⟩) (by assumption) ?_; rotate_left; focus (intro w hSw; (try dsimp only at hSw); (try simp only [zk1, zk2]); go_simp; try with_reducible rfl)); (try simp only [zk1, zk2]); (try simp only [Act.put, zk4, zk5, zk6])
                    (refine wpAnyH_take (i := 1) (v := ?_) rfl (by kernel_rfl) (by kernel_rfl) (by kernel_rfl) (fun _ _ _ h => h) (Or.inl ⟨by rfl, ?_⟩) (by assumption) ?_; rotate_left; focus (intro w hSw; (try dsimp only at hSw); (try simp only [zk1, zk2, zk3]); go_simp; try with_reducible rfl)); (try simp only [zk1, zk2, zk3]); (try simp only [Act.put, zk4, zk5, zk6])
                    (refine wpAnyH_take (i := 2) (v := ?_) rfl (by kernel_rfl) (by kernel_rfl) (by kernel_rfl) (fun _ _ _ h => h) (Or.inl ⟨by rfl, ?_⟩) (by assumption) ?_; rotate_left; focus (intro w hSw; (try dsimp only at hSw); (try simp only [zk1, zk2, zk3]); go_simp; try with_reducible rfl)); (try simp only [zk1, zk2, zk3]); (try simp only [Act.put, zk4, zk5, zk6])
                    (refine wpAnyH_take (i := 3) (v := .int .i64 k) rfl (by kernel_rfl) (by kernel_rfl) (by kernel_rfl) (fun _ _ _ h => h) (Or.inl ⟨by rfl, ?_⟩) (by assumption) ?_; focus (intro w hSw; (try dsimp only at hSw); (try simp only [zk1, zk2, zk3]); go_simp; (first | done | simp [hwk]))); (try simp only [zk1, zk2, zk3]); (try simp only [Act.put, zk4, zk5, zk6])
                    (refine wpAnyH_take (i := 4) (v := .pointer (some ⟨q7, o7 + k * 5, none⟩)) rfl (by kernel_rfl) (by kernel_rfl) (by kernel_rfl) (fun _ _ _ h => h) (Or.inl ⟨by rfl, ?_⟩) (by assumption) ?_; focus (intro w hSw; (try dsimp only at hSw); (try simp only [zk1, zk2, zk3]); go_simp; (try simp))); (try simp only [zk1, zk2, zk3]); (try simp only [Act.put, zk4, zk5, zk6])
                    (refine wpAnyH_take (i := 5) (v := ?_) rfl (by kernel_rfl) (by kernel_rfl) (by kernel_rfl) (fun _ _ _ h => h) (Or.inl ⟨by rfl, ?_⟩) (by assumption) ?_; rotate_left; focus (intro w hSw; (try dsimp only at hSw); (try simp only [zk1, zk2, zk3]); go_simp; try with_reducible rfl)); (try simp only [zk1, zk2, zk3]); (try simp only [Act.put, zk4, zk5, zk6])
                    (refine wpAnyH_take (i := 6) (v := ?_) rfl (by kernel_rfl) (by kernel_rfl) (by kernel_rfl) (fun _ _ _ h => h) (Or.inl ⟨by rfl, ?_⟩) (by assumption) ?_; rotate_left; focus (intro w hSw; (try dsimp only at hSw); (try simp only [zk1, zk2, zk3]); go_simp; try with_reducible rfl)); (try simp only [zk1, zk2, zk3]); (try simp only [Act.put, zk4, zk5, zk6])
                    (refine wpAnyH_take (i := 7) (v := ?_) rfl (by kernel_rfl) (by kernel_rfl) (by kernel_rfl) (fun _ _ _ h => h) (Or.inl ⟨by rfl, ?_⟩) (by assumption) ?_; rotate_left; focus (intro w hSw; (try dsimp only at hSw); (try simp only [zk1, zk2, zk3]); go_simp; try with_reducible rfl)); (try simp only [zk1, zk2, zk3]); (try simp only [Act.put, zk4, zk5, zk6])
                    (refine wpAnyH_take (i := 8) (v := ?_) rfl (by kernel_rfl) (by kernel_rfl) (by kernel_rfl) (fun _ _ _ h => h) (Or.inl ⟨by rfl, ?_⟩) (by assumption) ?_; rotate_left; focus (intro w hSw; (try dsimp only at hSw); (try simp only [zk1, zk2, zk3]); go_simp; try with_reducible rfl)); (try simp only [zk1, zk2, zk3]); (try simp only [Act.put, zk4, zk5, zk6])
                    (refine wpAnyH_take (i := 9) (v := ?_) rfl (by kernel_rfl) (by kernel_rfl) (by kernel_rfl) (fun _ _ _ h => h) (Or.inl ⟨by rfl, ?_⟩) (by assumption) ?_; rotate_left; focus (intro w hSw; (try dsimp only at hSw); (try simp only [zk1, zk2, zk3]); go_simp; try with_reducible rfl)); (try simp only [zk1, zk2, zk3]); (try simp only [Act.put, zk4, zk5, zk6])
                    (refine wpAnyH_take (i := 10) (v := .pointer (some ⟨q7, o7 + (k + 1) * 5, none⟩)) rfl (by kernel_rfl) (by kernel_rfl) (by kernel_rfl) (fun _ _ _ h => h) (Or.inl ⟨by rfl, ?_⟩) (by assumption) ?_; focus (intro w hSw; (try dsimp only at hSw); (try simp only [zk1, zk2, zk3]); go_simp; (try simp))); (try simp only [zk1, zk2, zk3]); (try simp only [Act.put, zk4, zk5, zk6])
                    (refine wpAnyH_take (i := 11) (v := ?_) rfl (by kernel_rfl) (by kernel_rfl) (by kernel_rfl) (fun _ _ _ h => h) (Or.inl ⟨by rfl, ?_⟩) (by assumption) ?_; rotate_left; focus (intro w hSw; (try dsimp only at hSw); (try simp only [zk1, zk2, zk3]); go_simp; try with_reducible rfl)); (try simp only [zk1, zk2, zk3]); (try simp only [Act.put, zk4, zk5, zk6])
                    (refine wpAnyH_take (i := 12) (v := ?_) rfl (by kernel_rfl) (by kernel_rfl) (by kernel_rfl) (fun _ _ _ h => h) (Or.inl ⟨by rfl, ?_⟩) (by assumption) ?_; rotate_left; focus (intro w hSw; (try dsimp only at hSw); (try simp only [zk1, zk2, zk3]); go_simp; try with_reducible rfl)); (try simp only [zk1, zk2, zk3]); (try simp only [Act.put, zk4, zk5, zk6])
                    (refine wpAnyH_take (i := 13) (v := ?_) rfl (by kernel_rfl) (by kernel_rfl) (by kernel_rfl) (fun _ _ _ h => h) (Or.inl ⟨by rfl, ?_⟩) (by assumption) ?_; rotate_left; focus (intro w hSw; (try dsimp only at hSw); (try simp only [zk1, zk2, zk3]); go_simp; try with_reducible rfl)); (try simp only [zk1, zk2, zk3]); (try simp only [Act.put, zk4, zk5, zk6])
                    refine wpAnyH_done (by kernel_rfl) ?_ _
                    go_wp2
                    go_roundw
                    case rel => exact ⟨k + 1, by go_num, Or.inr (by omega), by rw [ascB_succ, HASC.out, HB0.out, HB1.out, decide_eq_true HN.out]; rfl, hx⟩
                    case measure => simp [intOf]; omega
                  · have hnn : n1 ≤ n0 := by omega
                    have hno : formB rs K need house name lv ss tops (xs.map StW.by_) = false := by rw [HEV.out]; exact ascB_no (k := k) (by rw [List.length_map]; omega) (by rw [HB0.out, HB1.out]; exact hn)
                    have R := Lib.hid hno
                    clear hno hn
                    go_wp2_with fail
                    clear p11
                    refine wp_region_held_drew (S := (fun W => W.cell? ⟨(B + 1), 11, none⟩ = some (.slice (some ⟨q7, o7, none⟩) xs.length c7) ∧ W.cell? ⟨q7, o7 + k * 5, none⟩ = some (.int .i64 n0) ∧ W.cell? ⟨q7, o7 + (k + 1) * 5, none⟩ = some (.int .i64 n1))) (by kernel_rfl) (by exact ⟨P.2.1 11 _ rfl, e0, e1⟩) (fun hHeld => ?_)
                    have xd : Ext wr wr.drew := (Ext.refl wr).drew
                    replace P := P.ext xd
                    replace Q := Q.ext xd
                    replace X := X.trans xd
                    replace hx := hx.trans xd
                    replace e0 := (Ext.cell xd _ _ l7).trans e0
                    replace e1 := (Ext.cell xd _ _ l7).trans e1
                    replace l7 := Nat.lt_of_lt_of_le l7 (Ext.size xd)
                    generalize wr.drew = wq at *
                    (refine wpAnyH_take (i := 0) (v := ?_) rfl (by kernel_rfl) (by kernel_rfl) (by kernel_rfl) (fun _ _ _ h => h) (Or.inl ⟨by rfl, ?_⟩) (by assumption) ?_; rotate_left; focus (intro w hSw; (try dsimp only at hSw); (try simp only [zk1, zk2]); go_simp; try with_reducible rfl)); (try simp only [zk1, zk2]); (try simp only [Act.put, zk4, zk5, zk6])
                    (refine wpAnyH_take (i := 1) (v := ?_) rfl (by kernel_rfl) (by kernel_rfl) (by kernel_rfl) (fun _ _ _ h => h) (Or.inl ⟨by rfl, ?_⟩) (by assumption) ?_; rotate_left; focus (intro w hSw; (try dsimp only at hSw); (try simp only [zk1, zk2, zk3]); go_simp; try with_reducible rfl)); (try simp only [zk1, zk2, zk3]); (try simp only [Act.put, zk4, zk5, zk6])
                    (refine wpAnyH_take (i := 2) (v := ?_) rfl (by kernel_rfl) (by kernel_rfl) (by kernel_rfl) (fun _ _ _ h => h) (Or.inl ⟨by rfl, ?_⟩) (by assumption) ?_; rotate_left; focus (intro w hSw; (try dsimp only at hSw); (try simp only [zk1, zk2, zk3]); go_simp; try with_reducible rfl)); (try simp only [zk1, zk2, zk3]); (try simp only [Act.put, zk4, zk5, zk6])
                    (refine wpAnyH_take (i := 3) (v := .int .i64 k) rfl (by kernel_rfl) (by kernel_rfl) (by kernel_rfl) (fun _ _ _ h => h) (Or.inl ⟨by rfl, ?_⟩) (by assumption) ?_; focus (intro w hSw; (try dsimp only at hSw); (try simp only [zk1, zk2, zk3]); go_simp; (first | done | simp [hwk]))); (try simp only [zk1, zk2, zk3]); (try simp only [Act.put, zk4, zk5, zk6])
                    (refine wpAnyH_take (i := 4) (v := .pointer (some ⟨q7, o7 + k * 5, none⟩)) rfl (by kernel_rfl) (by kernel_rfl) (by kernel_rfl) (fun _ _ _ h => h) (Or.inl ⟨by rfl, ?_⟩) (by assumption) ?_; focus (intro w hSw; (try dsimp only at hSw); (try simp only [zk1, zk2, zk3]); go_simp; (try simp))); (try simp only [zk1, zk2, zk3]); (try simp only [Act.put, zk4, zk5, zk6])
                    (refine wpAnyH_take (i := 5) (v := ?_) rfl (by kernel_rfl) (by kernel_rfl) (by kernel_rfl) (fun _ _ _ h => h) (Or.inl ⟨by rfl, ?_⟩) (by assumption) ?_; rotate_left; focus (intro w hSw; (try dsimp only at hSw); (try simp only [zk1, zk2, zk3]); go_simp; try with_reducible rfl)); (try simp only [zk1, zk2, zk3]); (try simp only [Act.put, zk4, zk5, zk6])
                    (refine wpAnyH_take (i := 6) (v := ?_) rfl (by kernel_rfl) (by kernel_rfl) (by kernel_rfl) (fun _ _ _ h => h) (Or.inl ⟨by rfl, ?_⟩) (by assumption) ?_; rotate_left; focus (intro w hSw; (try dsimp only at hSw); (try simp only [zk1, zk2, zk3]); go_simp; try with_reducible rfl)); (try simp only [zk1, zk2, zk3]); (try simp only [Act.put, zk4, zk5, zk6])
                    (refine wpAnyH_take (i := 7) (v := ?_) rfl (by kernel_rfl) (by kernel_rfl) (by kernel_rfl) (fun _ _ _ h => h) (Or.inl ⟨by rfl, ?_⟩) (by assumption) ?_; rotate_left; focus (intro w hSw; (try dsimp only at hSw); (try simp only [zk1, zk2, zk3]); go_simp; try with_reducible rfl)); (try simp only [zk1, zk2, zk3]); (try simp only [Act.put, zk4, zk5, zk6])
                    (refine wpAnyH_take (i := 8) (v := ?_) rfl (by kernel_rfl) (by kernel_rfl) (by kernel_rfl) (fun _ _ _ h => h) (Or.inl ⟨by rfl, ?_⟩) (by assumption) ?_; rotate_left; focus (intro w hSw; (try dsimp only at hSw); (try simp only [zk1, zk2, zk3]); go_simp; try with_reducible rfl)); (try simp only [zk1, zk2, zk3]); (try simp only [Act.put, zk4, zk5, zk6])
                    (refine wpAnyH_take (i := 9) (v := ?_) rfl (by kernel_rfl) (by kernel_rfl) (by kernel_rfl) (fun _ _ _ h => h) (Or.inl ⟨by rfl, ?_⟩) (by assumption) ?_; rotate_left; focus (intro w hSw; (try dsimp only at hSw); (try simp only [zk1, zk2, zk3]); go_simp; try with_reducible rfl)); (try simp only [zk1, zk2, zk3]); (try simp only [Act.put, zk4, zk5, zk6])
                    (refine wpAnyH_take (i := 10) (v := .pointer (some ⟨q7, o7 + (k + 1) * 5, none⟩)) rfl (by kernel_rfl) (by kernel_rfl) (by kernel_rfl) (fun _ _ _ h => h) (Or.inl ⟨by rfl, ?_⟩) (by assumption) ?_; focus (intro w hSw; (try dsimp only at hSw); (try simp only [zk1, zk2, zk3]); go_simp; (try simp))); (try simp only [zk1, zk2, zk3]); (try simp only [Act.put, zk4, zk5, zk6])
                    (refine wpAnyH_take (i := 11) (v := ?_) rfl (by kernel_rfl) (by kernel_rfl) (by kernel_rfl) (fun _ _ _ h => h) (Or.inl ⟨by rfl, ?_⟩) (by assumption) ?_; rotate_left; focus (intro w hSw; (try dsimp only at hSw); (try simp only [zk1, zk2, zk3]); go_simp; try with_reducible rfl)); (try simp only [zk1, zk2, zk3]); (try simp only [Act.put, zk4, zk5, zk6])
                    (refine wpAnyH_take (i := 12) (v := ?_) rfl (by kernel_rfl) (by kernel_rfl) (by kernel_rfl) (fun _ _ _ h => h) (Or.inl ⟨by rfl, ?_⟩) (by assumption) ?_; rotate_left; focus (intro w hSw; (try dsimp only at hSw); (try simp only [zk1, zk2, zk3]); go_simp; try with_reducible rfl)); (try simp only [zk1, zk2, zk3]); (try simp only [Act.put, zk4, zk5, zk6])
                    (refine wpAnyH_take (i := 13) (v := ?_) rfl (by kernel_rfl) (by kernel_rfl) (by kernel_rfl) (fun _ _ _ h => h) (Or.inl ⟨by rfl, ?_⟩) (by assumption) ?_; rotate_left; focus (intro w hSw; (try dsimp only at hSw); (try simp only [zk1, zk2, zk3]); go_simp; try with_reducible rfl)); (try simp only [zk1, zk2, zk3]); (try simp only [Act.put, zk4, zk5, zk6])
                    refine wpAnyH_done (by kernel_rfl) ?_ _
                    go_wp2
                    go_ret
                    exact ⟨ret_bool R.out.symm, X⟩
                · have hlti : ¬ (k : Int) + 1 < xs.length := by omega
                  have hyes : formB rs K need house name lv ss tops (xs.map StW.by_) = true := by rw [HEV.out, List.length_map, show xs.length - 1 = k by omega]; exact HASC.out
                  have R := Lib.hid hyes
                  clear hyes
                  go_wp2
                  go_ret
                  exact ⟨ret_bool R.out.symm, X⟩
          · have htb : ((tops.length : Int) != K) = true := by simp [htl]
            have hno : formB rs K need house name lv ss tops (xs.map StW.by_) = false := by rw [formB, K_ka.out, K_kb.out, K_kc.out, HSD.out, decide_eq_false htl]; rfl
            have R := Lib.hid hno
            clear hno
            clear htl
            go_wp2
            go_ret
            exact ⟨ret_bool R.out.symm, X⟩
        · have hsb : ((ss.length : Int) != 8 - K) = true := by simp [hsd]
          have hno : formB rs K need house name lv ss tops (xs.map StW.by_) = false := by rw [formB, K_ka.out, K_kb.out, K_kc.out, decide_eq_false hsd]; rfl
          have R := Lib.hid hno
          clear hno
          clear hsd
          go_wp2
          go_ret
          exact ⟨ret_bool R.out.symm, X⟩
set_option maxRecDepth 100000 in
set_option maxHeartbeats 12800000 in
theorem impl_wholeForm (v0 v1 v2 v3 v4 v5 v6 v7 : Value) (rs : List ByteArray) (K need house : Int) (name : ByteArray) (lv : List Leaf) (ss tops : List ByteArray) (hh ep : Int) (r p : ByteArray) (S : SigV) (xs : List StW) (w : World) (h0 : Strs w v0 rs) (h1 : Lvs w v1 lv) (h2 : Strs w v2 ss) (h3 : Strs w v3 tops) (h4 : Strs w v4 S.op) (h5 : Strs w v5 S.sh) (h6 : Strs w v6 S.si) (h7 : Sts w v7 xs) (hs0 : ∀ s ∈ rs, s.size ≤ maxLen) (hnm : name.size ≤ maxLen) (hf : LeafFit lv) (hs2 : ∀ s ∈ ss, s.size ≤ maxLen) (hs3 : ∀ s ∈ tops, s.size ≤ maxLen) (hT : Tabs w) :
    Calls Tryz.prog 34 #[.agg #[v0, .int .i64 K, .int .i64 need], .int .i64 house, .string name, .agg #[v1, v2, v3, .int .i64 hh, .int .i64 ep, .string r, .string p, .int .i64 S.at_, v4, v5, v6, v7]] w fun e w' => e = .returned (.bool (formB rs K need house name lv ss tops (xs.map StW.by_))) ∧ Ext w w' := by
  obtain ⟨b0, c0, rfl⟩ := h0.form
  obtain ⟨b1, c1, rfl⟩ := h1.form
  obtain ⟨b2, c2, rfl⟩ := h2.form
  obtain ⟨b3, c3, rfl⟩ := h3.form
  obtain ⟨b4, c4, rfl⟩ := h4.form
  obtain ⟨b5, c5, rfl⟩ := h5.form
  obtain ⟨b6, c6, rfl⟩ := h6.form
  obtain ⟨b7, c7, rfl⟩ := h7.form
  have HT := Lib.hid hT
  clear hT
  have Q : Bx ((w.alloc (Obj.cells #[.slice b0 rs.length c0, .int .i64 K, .int .i64 need] 41)).alloc (Obj.cells #[.slice b1 lv.length c1, .slice b2 ss.length c2, .slice b3 tops.length c3, .int .i64 hh, .int .i64 ep, .string r, .string p, .int .i64 S.at_, .slice b4 S.op.length c4, .slice b5 S.sh.length c5, .slice b6 S.si.length c6, .slice b7 xs.length c7] 52)) w.heap.size [.slice b0 rs.length c0, .int .i64 K, .int .i64 need] := (Bx.new w _ _).ext ((Ext.refl _).alloc _)
  have P : Bx ((w.alloc (Obj.cells #[.slice b0 rs.length c0, .int .i64 K, .int .i64 need] 41)).alloc (Obj.cells #[.slice b1 lv.length c1, .slice b2 ss.length c2, .slice b3 tops.length c3, .int .i64 hh, .int .i64 ep, .string r, .string p, .int .i64 S.at_, .slice b4 S.op.length c4, .slice b5 S.sh.length c5, .slice b6 S.si.length c6, .slice b7 xs.length c7] 52)) (w.heap.size + 1) [.slice b1 lv.length c1, .slice b2 ss.length c2, .slice b3 tops.length c3, .int .i64 hh, .int .i64 ep, .string r, .string p, .int .i64 S.at_, .slice b4 S.op.length c4, .slice b5 S.sh.length c5, .slice b6 S.si.length c6, .slice b7 xs.length c7] := by
    have e := Bx.new (w.alloc (Obj.cells #[.slice b0 rs.length c0, .int .i64 K, .int .i64 need] 41)) #[.slice b1 lv.length c1, .slice b2 ss.length c2, .slice b3 tops.length c3, .int .i64 hh, .int .i64 ep, .string r, .string p, .int .i64 S.at_, .slice b4 S.op.length c4, .slice b5 S.sh.length c5, .slice b6 S.si.length c6, .slice b7 xs.length c7] 52
    rw [World.size_alloc] at e
    exact e
  have X : Ext w ((w.alloc (Obj.cells #[.slice b0 rs.length c0, .int .i64 K, .int .i64 need] 41)).alloc (Obj.cells #[.slice b1 lv.length c1, .slice b2 ss.length c2, .slice b3 tops.length c3, .int .i64 hh, .int .i64 ep, .string r, .string p, .int .i64 S.at_, .slice b4 S.op.length c4, .slice b5 S.sh.length c5, .slice b6 S.si.length c6, .slice b7 xs.length c7] 52)) := ((Ext.refl w).alloc _).alloc _
  go_enter Tryz.func34, Tryz.ntmps34
  go_wp2_with fail
  generalize (w.alloc (Obj.cells #[.slice b0 rs.length c0, .int .i64 K, .int .i64 need] 41)).alloc (Obj.cells #[.slice b1 lv.length c1, .slice b2 ss.length c2, .slice b3 tops.length c3, .int .i64 hh, .int .i64 ep, .string r, .string p, .int .i64 S.at_, .slice b4 S.op.length c4, .slice b5 S.sh.length c5, .slice b6 S.si.length c6, .slice b7 xs.length c7] 52) = W0 at *
  generalize w.heap.size = B at *
  obtain ⟨ka, hk_ka⟩ : ∃ z, trustOk rs K need = z := ⟨_, rfl⟩
  have K_ka := Lib.hid hk_ka
  clear hk_ka
  refine (impl_TrustOk _ rs K need _ (h0.ext X) hs0).mono ?_
  rw [K_ka.out]
  rintro e w_ka ⟨rfl, x_ka⟩
  replace P := P.ext x_ka
  replace Q := Q.ext x_ka
  replace X := X.trans x_ka
  cases ka
  · have p0 := P.2.1 0 _ rfl
    have p1 := P.2.1 1 _ rfl
    have p2 := P.2.1 2 _ rfl
    have p3 := P.2.1 3 _ rfl
    have p4 := P.2.1 4 _ rfl
    have p5 := P.2.1 5 _ rfl
    have p6 := P.2.1 6 _ rfl
    have p7 := P.2.1 7 _ rfl
    have p8 := P.2.1 8 _ rfl
    have p9 := P.2.1 9 _ rfl
    have p10 := P.2.1 10 _ rfl
    have p11 := P.2.1 11 _ rfl
    have t0 := Q.2.1 0 _ rfl
    have t1 := Q.2.1 1 _ rfl
    have t2 := Q.2.1 2 _ rfl
    have hno : formB rs K need house name lv ss tops (xs.map StW.by_) = false := by rw [formB, K_ka.out]; rfl
    have R := Lib.hid hno
    clear hno
    go_wp2
    go_ret
    exact ⟨ret_bool R.out.symm, X⟩
  · have p0 := P.2.1 0 _ rfl
    have p1 := P.2.1 1 _ rfl
    have p2 := P.2.1 2 _ rfl
    have p3 := P.2.1 3 _ rfl
    have p4 := P.2.1 4 _ rfl
    have p5 := P.2.1 5 _ rfl
    have p6 := P.2.1 6 _ rfl
    have p7 := P.2.1 7 _ rfl
    have p8 := P.2.1 8 _ rfl
    have p9 := P.2.1 9 _ rfl
    have p10 := P.2.1 10 _ rfl
    have p11 := P.2.1 11 _ rfl
    have t0 := Q.2.1 0 _ rfl
    have t1 := Q.2.1 1 _ rfl
    have t2 := Q.2.1 2 _ rfl
    obtain ⟨hr1, hr2, hK1, hK2, hN1, hN2⟩ := trust_bd K_ka.out
    have hrl : (1 : Int) ≤ rs.length := by omega
    have hrl2 : (rs.length : Int) ≤ 3 := by omega
    go_wp2_with fail
    clear p0 p1 p2 p3 p4 p5 p6 p7 p8 p9 p10 p11 t0 t1 t2
    obtain ⟨kb, hk_kb⟩ : ∃ z, inB house 0 ((rs.length : Int) - 1) = z := ⟨_, rfl⟩
    have K_kb := Lib.hid hk_kb
    clear hk_kb
    refine (impl_in _ _ _ _).mono ?_
    rw [K_kb.out]
    rintro e w' ⟨rfl, rfl⟩
    cases kb
    · have p0 := P.2.1 0 _ rfl
      have p1 := P.2.1 1 _ rfl
      have p2 := P.2.1 2 _ rfl
      have p3 := P.2.1 3 _ rfl
      have p4 := P.2.1 4 _ rfl
      have p5 := P.2.1 5 _ rfl
      have p6 := P.2.1 6 _ rfl
      have p7 := P.2.1 7 _ rfl
      have p8 := P.2.1 8 _ rfl
      have p9 := P.2.1 9 _ rfl
      have p10 := P.2.1 10 _ rfl
      have p11 := P.2.1 11 _ rfl
      have t0 := Q.2.1 0 _ rfl
      have t1 := Q.2.1 1 _ rfl
      have t2 := Q.2.1 2 _ rfl
      have hno : formB rs K need house name lv ss tops (xs.map StW.by_) = false := by rw [formB, K_ka.out, K_kb.out]; rfl
      have R := Lib.hid hno
      clear hno
      go_wp2
      go_ret
      exact ⟨ret_bool R.out.symm, X⟩
    · have p0 := P.2.1 0 _ rfl
      have p1 := P.2.1 1 _ rfl
      have p2 := P.2.1 2 _ rfl
      have p3 := P.2.1 3 _ rfl
      have p4 := P.2.1 4 _ rfl
      have p5 := P.2.1 5 _ rfl
      have p6 := P.2.1 6 _ rfl
      have p7 := P.2.1 7 _ rfl
      have p8 := P.2.1 8 _ rfl
      have p9 := P.2.1 9 _ rfl
      have p10 := P.2.1 10 _ rfl
      have p11 := P.2.1 11 _ rfl
      have t0 := Q.2.1 0 _ rfl
      have t1 := Q.2.1 1 _ rfl
      have t2 := Q.2.1 2 _ rfl
      go_wp2_with fail
      clear p0 p1 p2 p3 p4 p5 p6 p7 p8 p9 p10 p11 t0 t1 t2
      obtain ⟨kc, hk_kc⟩ : ∃ z, proofOk name lv ss 16 = z := ⟨_, rfl⟩
      have K_kc := Lib.hid hk_kc
      clear hk_kc
      refine (impl_ProofOk name _ _ lv ss 16 _ hnm (h1.ext X) hf (h2.ext X) hs2 (HT.out.ext X)).mono ?_
      rw [K_kc.out]
      rintro e w_kc ⟨rfl, x_kc⟩
      replace P := P.ext x_kc
      replace Q := Q.ext x_kc
      replace X := X.trans x_kc
      cases kc
      · have p0 := P.2.1 0 _ rfl
        have p1 := P.2.1 1 _ rfl
        have p2 := P.2.1 2 _ rfl
        have p3 := P.2.1 3 _ rfl
        have p4 := P.2.1 4 _ rfl
        have p5 := P.2.1 5 _ rfl
        have p6 := P.2.1 6 _ rfl
        have p7 := P.2.1 7 _ rfl
        have p8 := P.2.1 8 _ rfl
        have p9 := P.2.1 9 _ rfl
        have p10 := P.2.1 10 _ rfl
        have p11 := P.2.1 11 _ rfl
        have t0 := Q.2.1 0 _ rfl
        have t1 := Q.2.1 1 _ rfl
        have t2 := Q.2.1 2 _ rfl
        have hno : formB rs K need house name lv ss tops (xs.map StW.by_) = false := by rw [formB, K_ka.out, K_kb.out, K_kc.out]; rfl
        have R := Lib.hid hno
        clear hno
        go_wp2
        go_ret
        exact ⟨ret_bool R.out.symm, X⟩
      · have p0 := P.2.1 0 _ rfl
        have p1 := P.2.1 1 _ rfl
        have p2 := P.2.1 2 _ rfl
        have p3 := P.2.1 3 _ rfl
        have p4 := P.2.1 4 _ rfl
        have p5 := P.2.1 5 _ rfl
        have p6 := P.2.1 6 _ rfl
        have p7 := P.2.1 7 _ rfl
        have p8 := P.2.1 8 _ rfl
        have p9 := P.2.1 9 _ rfl
        have p10 := P.2.1 10 _ rfl
        have p11 := P.2.1 11 _ rfl
        have t0 := Q.2.1 0 _ rfl
        have t1 := Q.2.1 1 _ rfl
        have t2 := Q.2.1 2 _ rfl
        by_cases hsd : (ss.length : Int) = 8 - K
        · have HSD := Lib.hid (decide_eq_true hsd)
          have hsb : ((ss.length : Int) != 8 - K) = false := by simp [hsd]
          clear hsd
          go_wp2_with fail
          clear p0 p1 p2 p3 p4 p5 p6 p7 p8 p9 p10 p11 t0 t1 t2
          obtain ⟨kd, hkd⟩ : ∃ z, (wide tops 16 && decide ((tops.length : Int) = K)) = z := ⟨_, rfl⟩
          have K_kd := Lib.hid hkd
          clear hkd
          refine (impl_haveWidth _ tops K 16 _ (h3.ext X) hs3).mono ?_
          rw [K_kd.out]
          rintro e w' ⟨rfl, rfl⟩
          have HTW := Lib.hid (form_tops (tops := tops) (K := K))
          cases kd
          · have p0 := P.2.1 0 _ rfl
            have p1 := P.2.1 1 _ rfl
            have p2 := P.2.1 2 _ rfl
            have p3 := P.2.1 3 _ rfl
            have p4 := P.2.1 4 _ rfl
            have p5 := P.2.1 5 _ rfl
            have p6 := P.2.1 6 _ rfl
            have p7 := P.2.1 7 _ rfl
            have p8 := P.2.1 8 _ rfl
            have p9 := P.2.1 9 _ rfl
            have p10 := P.2.1 10 _ rfl
            have p11 := P.2.1 11 _ rfl
            have t0 := Q.2.1 0 _ rfl
            have t1 := Q.2.1 1 _ rfl
            have t2 := Q.2.1 2 _ rfl
            have hno : formB rs K need house name lv ss tops (xs.map StW.by_) = false := by rw [formB, K_ka.out, K_kb.out, K_kc.out, HSD.out]; have := HTW.out K_kd.out; simp [this]
            have R := Lib.hid hno
            clear hno
            go_wp2
            go_ret
            exact ⟨ret_bool R.out.symm, X⟩
          · have p0 := P.2.1 0 _ rfl
            have p1 := P.2.1 1 _ rfl
            have p2 := P.2.1 2 _ rfl
            have p3 := P.2.1 3 _ rfl
            have p4 := P.2.1 4 _ rfl
            have p5 := P.2.1 5 _ rfl
            have p6 := P.2.1 6 _ rfl
            have p7 := P.2.1 7 _ rfl
            have p8 := P.2.1 8 _ rfl
            have p9 := P.2.1 9 _ rfl
            have p10 := P.2.1 10 _ rfl
            have p11 := P.2.1 11 _ rfl
            have t0 := Q.2.1 0 _ rfl
            have t1 := Q.2.1 1 _ rfl
            have t2 := Q.2.1 2 _ rfl
            obtain ⟨hwd, htl⟩ := form_tops2 K_kd.out
            have HEV := Lib.hid (show formB rs K need house name lv ss tops (xs.map StW.by_) = ascB (xs.map StW.by_) ((xs.map StW.by_).length - 1) by rw [formB, K_ka.out, K_kb.out, K_kc.out, HSD.out, decide_eq_true htl, hwd]; rfl)
            clear htl hwd
            go_upto_region 3 with (fail)
            clear p0 p1 p2 p3 p4 p5 p6 p7 p8 p9 p10 p11 t0 t1 t2
            have XL := X
            go_wp2_with fail
            go_loopw [9] (fun i wr => ∃ k : Nat, i = .int .i64 ((k : Int) + 1) ∧ (k = 0 ∨ k + 1 ≤ xs.length) ∧ ascB (xs.map StW.by_) k = true ∧ Ext w_kc wr) (fun i _ => xs.length + 1 - (intOf i).toNat)
            case atStart => exact ⟨0, rfl, Or.inl rfl, rfl, Ext.refl _⟩
            case round =>
              obtain ⟨k, rfl, hk, hasc, hx⟩ := hrel
              have HASC := Lib.hid hasc
              clear hasc
              replace P := P.ext hx
              replace Q := Q.ext hx
              replace X := X.trans hx
              have p11 := P.2.1 11 _ rfl
              by_cases hlt : k + 1 < xs.length
              · have hlti : (k : Int) + 1 < xs.length := by omega
                obtain ⟨⟨-, a7, c7v, hv7, hc7, hm7, g7⟩, hst7⟩ := h7
                injection hv7 with i1 i2 i3
                subst i1 i3
                rcases g7 with g7 | ⟨q7, o7, rfl, hb7, g7⟩
                · omega
                have e0 : wr.cell? ⟨q7, o7 + k * 5, none⟩ = some (.int .i64 xs[k].by_) := (X.cell q7 _ hb7).trans (g7 _ _ (st_c0 xs k (by omega)))
                have e1 : wr.cell? ⟨q7, o7 + (k + 1) * 5, none⟩ = some (.int .i64 xs[k + 1].by_) := (X.cell q7 _ hb7).trans (g7 _ _ (st_c0 xs (k + 1) hlt))
                have HB0 := Lib.hid (bys_at (xs := xs) (k := k) (by omega))
                have HB1 := Lib.hid (bys_at (xs := xs) (k := k + 1) hlt)
                clear g7 hst7
                generalize xs[k].by_ = n0 at *
                generalize xs[k + 1].by_ = n1 at *
                have hz0 : (0 : Int) ≤ k := by omega
                have hz1 : (k : Int) < xs.length := by omega
                have hz2 : (0 : Int) ≤ (k : Int) + 1 := by omega
                have hz3 : ((k : Int) + 1).toNat = k + 1 := by omega
                unfold maxLen at hm7
                have hwk : IntKind.i64.wrap (k : Int) = k := IntWalk.i64_in _ (by omega)
                have hwk1 : IntKind.i64.wrap ((k : Int) + 1) = (k : Int) + 1 := IntWalk.i64_in _ (by omega)
                have l7 : q7 < wr.heap.size := Nat.lt_of_lt_of_le hb7 X.size
                by_cases hn : n0 < n1
                · have hnn : ¬ n1 ≤ n0 := by omega
                  have HN := Lib.hid hn
                  clear hn
                  go_wp2_with fail
                  clear p11
                  refine wp_region_held_drew (S := (fun W => W.cell? ⟨(B + 1), 11, none⟩ = some (.slice (some ⟨q7, o7, none⟩) xs.length c7) ∧ W.cell? ⟨q7, o7 + k * 5, none⟩ = some (.int .i64 n0) ∧ W.cell? ⟨q7, o7 + (k + 1) * 5, none⟩ = some (.int .i64 n1))) (by kernel_rfl) (by exact ⟨P.2.1 11 _ rfl, e0, e1⟩) (fun hHeld => ?_)
                  have xd : Ext wr wr.drew := (Ext.refl wr).drew
                  replace P := P.ext xd
                  replace Q := Q.ext xd
                  replace X := X.trans xd
                  replace hx := hx.trans xd
                  replace e0 := (Ext.cell xd _ _ l7).trans e0
                  replace e1 := (Ext.cell xd _ _ l7).trans e1
                  replace l7 := Nat.lt_of_lt_of_le l7 (Ext.size xd)
                  generalize wr.drew = wq at *
                  (refine wpAnyH_take (i := 0) (v := ?_) rfl (by kernel_rfl) (by kernel_rfl) (by kernel_rfl) (fun _ _ _ h => h) (Or.inl ⟨by rfl, ?_⟩) (by assumption) ?_; rotate_left; focus (intro w hSw; (try dsimp only at hSw); (try simp only [zk1, zk2]); go_simp; try with_reducible rfl)); (try simp only [zk1, zk2]); (try simp only [Act.put, zk4, zk5, zk6])
                  (refine wpAnyH_take (i := 1) (v := ?_) rfl (by kernel_rfl) (by kernel_rfl) (by kernel_rfl) (fun _ _ _ h => h) (Or.inl ⟨by rfl, ?_⟩) (by assumption) ?_; rotate_left; focus (intro w hSw; (try dsimp only at hSw); (try simp only [zk1, zk2, zk3]); go_simp; try with_reducible rfl)); (try simp only [zk1, zk2, zk3]); (try simp only [Act.put, zk4, zk5, zk6])
                  (refine wpAnyH_take (i := 2) (v := ?_) rfl (by kernel_rfl) (by kernel_rfl) (by kernel_rfl) (fun _ _ _ h => h) (Or.inl ⟨by rfl, ?_⟩) (by assumption) ?_; rotate_left; focus (intro w hSw; (try dsimp only at hSw); (try simp only [zk1, zk2, zk3]); go_simp; try with_reducible rfl)); (try simp only [zk1, zk2, zk3]); (try simp only [Act.put, zk4, zk5, zk6])
                  (refine wpAnyH_take (i := 3) (v := .int .i64 k) rfl (by kernel_rfl) (by kernel_rfl) (by kernel_rfl) (fun _ _ _ h => h) (Or.inl ⟨by rfl, ?_⟩) (by assumption) ?_; focus (intro w hSw; (try dsimp only at hSw); (try simp only [zk1, zk2, zk3]); go_simp; (first | done | simp [hwk]))); (try simp only [zk1, zk2, zk3]); (try simp only [Act.put, zk4, zk5, zk6])
                  (refine wpAnyH_take (i := 4) (v := .pointer (some ⟨q7, o7 + k * 5, none⟩)) rfl (by kernel_rfl) (by kernel_rfl) (by kernel_rfl) (fun _ _ _ h => h) (Or.inl ⟨by rfl, ?_⟩) (by assumption) ?_; focus (intro w hSw; (try dsimp only at hSw); (try simp only [zk1, zk2, zk3]); go_simp; (try simp))); (try simp only [zk1, zk2, zk3]); (try simp only [Act.put, zk4, zk5, zk6])
                  (refine wpAnyH_take (i := 5) (v := ?_) rfl (by kernel_rfl) (by kernel_rfl) (by kernel_rfl) (fun _ _ _ h => h) (Or.inl ⟨by rfl, ?_⟩) (by assumption) ?_; rotate_left; focus (intro w hSw; (try dsimp only at hSw); (try simp only [zk1, zk2, zk3]); go_simp; try with_reducible rfl)); (try simp only [zk1, zk2, zk3]); (try simp only [Act.put, zk4, zk5, zk6])
                  (refine wpAnyH_take (i := 6) (v := ?_) rfl (by kernel_rfl) (by kernel_rfl) (by kernel_rfl) (fun _ _ _ h => h) (Or.inl ⟨by rfl, ?_⟩) (by assumption) ?_; rotate_left; focus (intro w hSw; (try dsimp only at hSw); (try simp only [zk1, zk2, zk3]); go_simp; try with_reducible rfl)); (try simp only [zk1, zk2, zk3]); (try simp only [Act.put, zk4, zk5, zk6])
                  (refine wpAnyH_take (i := 7) (v := ?_) rfl (by kernel_rfl) (by kernel_rfl) (by kernel_rfl) (fun _ _ _ h => h) (Or.inl ⟨by rfl, ?_⟩) (by assumption) ?_; rotate_left; focus (intro w hSw; (try dsimp only at hSw); (try simp only [zk1, zk2, zk3]); go_simp; try with_reducible rfl)); (try simp only [zk1, zk2, zk3]); (try simp only [Act.put, zk4, zk5, zk6])
                  (refine wpAnyH_take (i := 8) (v := ?_) rfl (by kernel_rfl) (by kernel_rfl) (by kernel_rfl) (fun _ _ _ h => h) (Or.inl ⟨by rfl, ?_⟩) (by assumption) ?_; rotate_left; focus (intro w hSw; (try dsimp only at hSw); (try simp only [zk1, zk2, zk3]); go_simp; try with_reducible rfl)); (try simp only [zk1, zk2, zk3]); (try simp only [Act.put, zk4, zk5, zk6])
                  (refine wpAnyH_take (i := 9) (v := ?_) rfl (by kernel_rfl) (by kernel_rfl) (by kernel_rfl) (fun _ _ _ h => h) (Or.inl ⟨by rfl, ?_⟩) (by assumption) ?_; rotate_left; focus (intro w hSw; (try dsimp only at hSw); (try simp only [zk1, zk2, zk3]); go_simp; try with_reducible rfl)); (try simp only [zk1, zk2, zk3]); (try simp only [Act.put, zk4, zk5, zk6])
                  (refine wpAnyH_take (i := 10) (v := .pointer (some ⟨q7, o7 + (k + 1) * 5, none⟩)) rfl (by kernel_rfl) (by kernel_rfl) (by kernel_rfl) (fun _ _ _ h => h) (Or.inl ⟨by rfl, ?_⟩) (by assumption) ?_; focus (intro w hSw; (try dsimp only at hSw); (try simp only [zk1, zk2, zk3]); go_simp; (try simp))); (try simp only [zk1, zk2, zk3]); (try simp only [Act.put, zk4, zk5, zk6])
                  (refine wpAnyH_take (i := 11) (v := ?_) rfl (by kernel_rfl) (by kernel_rfl) (by kernel_rfl) (fun _ _ _ h => h) (Or.inl ⟨by rfl, ?_⟩) (by assumption) ?_; rotate_left; focus (intro w hSw; (try dsimp only at hSw); (try simp only [zk1, zk2, zk3]); go_simp; try with_reducible rfl)); (try simp only [zk1, zk2, zk3]); (try simp only [Act.put, zk4, zk5, zk6])
                  (refine wpAnyH_take (i := 12) (v := ?_) rfl (by kernel_rfl) (by kernel_rfl) (by kernel_rfl) (fun _ _ _ h => h) (Or.inl ⟨by rfl, ?_⟩) (by assumption) ?_; rotate_left; focus (intro w hSw; (try dsimp only at hSw); (try simp only [zk1, zk2, zk3]); go_simp; try with_reducible rfl)); (try simp only [zk1, zk2, zk3]); (try simp only [Act.put, zk4, zk5, zk6])
                  (refine wpAnyH_take (i := 13) (v := ?_) rfl (by kernel_rfl) (by kernel_rfl) (by kernel_rfl) (fun _ _ _ h => h) (Or.inl ⟨by rfl, ?_⟩) (by assumption) ?_; rotate_left; focus (intro w hSw; (try dsimp only at hSw); (try simp only [zk1, zk2, zk3]); go_simp; try with_reducible rfl)); (try simp only [zk1, zk2, zk3]); (try simp only [Act.put, zk4, zk5, zk6])
                  refine wpAnyH_done (by kernel_rfl) ?_ _
                  go_wp2
                  go_roundw
                  case rel => exact ⟨k + 1, by go_num, Or.inr (by omega), by rw [ascB_succ, HASC.out, HB0.out, HB1.out, decide_eq_true HN.out]; rfl, hx⟩
                  case measure => simp [intOf]; omega
                · have hnn : n1 ≤ n0 := by omega
                  have hno : formB rs K need house name lv ss tops (xs.map StW.by_) = false := by rw [HEV.out]; exact ascB_no (k := k) (by rw [List.length_map]; omega) (by rw [HB0.out, HB1.out]; exact hn)
                  have R := Lib.hid hno
                  clear hno hn
                  go_wp2_with fail
                  clear p11
                  refine wp_region_held_drew (S := (fun W => W.cell? ⟨(B + 1), 11, none⟩ = some (.slice (some ⟨q7, o7, none⟩) xs.length c7) ∧ W.cell? ⟨q7, o7 + k * 5, none⟩ = some (.int .i64 n0) ∧ W.cell? ⟨q7, o7 + (k + 1) * 5, none⟩ = some (.int .i64 n1))) (by kernel_rfl) (by exact ⟨P.2.1 11 _ rfl, e0, e1⟩) (fun hHeld => ?_)
                  have xd : Ext wr wr.drew := (Ext.refl wr).drew
                  replace P := P.ext xd
                  replace Q := Q.ext xd
                  replace X := X.trans xd
                  replace hx := hx.trans xd
                  replace e0 := (Ext.cell xd _ _ l7).trans e0
                  replace e1 := (Ext.cell xd _ _ l7).trans e1
                  replace l7 := Nat.lt_of_lt_of_le l7 (Ext.size xd)
                  generalize wr.drew = wq at *
                  (refine wpAnyH_take (i := 0) (v := ?_) rfl (by kernel_rfl) (by kernel_rfl) (by kernel_rfl) (fun _ _ _ h => h) (Or.inl ⟨by rfl, ?_⟩) (by assumption) ?_; rotate_left; focus (intro w hSw; (try dsimp only at hSw); (try simp only [zk1, zk2]); go_simp; try with_reducible rfl)); (try simp only [zk1, zk2]); (try simp only [Act.put, zk4, zk5, zk6])
                  (refine wpAnyH_take (i := 1) (v := ?_) rfl (by kernel_rfl) (by kernel_rfl) (by kernel_rfl) (fun _ _ _ h => h) (Or.inl ⟨by rfl, ?_⟩) (by assumption) ?_; rotate_left; focus (intro w hSw; (try dsimp only at hSw); (try simp only [zk1, zk2, zk3]); go_simp; try with_reducible rfl)); (try simp only [zk1, zk2, zk3]); (try simp only [Act.put, zk4, zk5, zk6])
                  (refine wpAnyH_take (i := 2) (v := ?_) rfl (by kernel_rfl) (by kernel_rfl) (by kernel_rfl) (fun _ _ _ h => h) (Or.inl ⟨by rfl, ?_⟩) (by assumption) ?_; rotate_left; focus (intro w hSw; (try dsimp only at hSw); (try simp only [zk1, zk2, zk3]); go_simp; try with_reducible rfl)); (try simp only [zk1, zk2, zk3]); (try simp only [Act.put, zk4, zk5, zk6])
                  (refine wpAnyH_take (i := 3) (v := .int .i64 k) rfl (by kernel_rfl) (by kernel_rfl) (by kernel_rfl) (fun _ _ _ h => h) (Or.inl ⟨by rfl, ?_⟩) (by assumption) ?_; focus (intro w hSw; (try dsimp only at hSw); (try simp only [zk1, zk2, zk3]); go_simp; (first | done | simp [hwk]))); (try simp only [zk1, zk2, zk3]); (try simp only [Act.put, zk4, zk5, zk6])
                  (refine wpAnyH_take (i := 4) (v := .pointer (some ⟨q7, o7 + k * 5, none⟩)) rfl (by kernel_rfl) (by kernel_rfl) (by kernel_rfl) (fun _ _ _ h => h) (Or.inl ⟨by rfl, ?_⟩) (by assumption) ?_; focus (intro w hSw; (try dsimp only at hSw); (try simp only [zk1, zk2, zk3]); go_simp; (try simp))); (try simp only [zk1, zk2, zk3]); (try simp only [Act.put, zk4, zk5, zk6])
                  (refine wpAnyH_take (i := 5) (v := ?_) rfl (by kernel_rfl) (by kernel_rfl) (by kernel_rfl) (fun _ _ _ h => h) (Or.inl ⟨by rfl, ?_⟩) (by assumption) ?_; rotate_left; focus (intro w hSw; (try dsimp only at hSw); (try simp only [zk1, zk2, zk3]); go_simp; try with_reducible rfl)); (try simp only [zk1, zk2, zk3]); (try simp only [Act.put, zk4, zk5, zk6])
                  (refine wpAnyH_take (i := 6) (v := ?_) rfl (by kernel_rfl) (by kernel_rfl) (by kernel_rfl) (fun _ _ _ h => h) (Or.inl ⟨by rfl, ?_⟩) (by assumption) ?_; rotate_left; focus (intro w hSw; (try dsimp only at hSw); (try simp only [zk1, zk2, zk3]); go_simp; try with_reducible rfl)); (try simp only [zk1, zk2, zk3]); (try simp only [Act.put, zk4, zk5, zk6])
                  (refine wpAnyH_take (i := 7) (v := ?_) rfl (by kernel_rfl) (by kernel_rfl) (by kernel_rfl) (fun _ _ _ h => h) (Or.inl ⟨by rfl, ?_⟩) (by assumption) ?_; rotate_left; focus (intro w hSw; (try dsimp only at hSw); (try simp only [zk1, zk2, zk3]); go_simp; try with_reducible rfl)); (try simp only [zk1, zk2, zk3]); (try simp only [Act.put, zk4, zk5, zk6])
                  (refine wpAnyH_take (i := 8) (v := ?_) rfl (by kernel_rfl) (by kernel_rfl) (by kernel_rfl) (fun _ _ _ h => h) (Or.inl ⟨by rfl, ?_⟩) (by assumption) ?_; rotate_left; focus (intro w hSw; (try dsimp only at hSw); (try simp only [zk1, zk2, zk3]); go_simp; try with_reducible rfl)); (try simp only [zk1, zk2, zk3]); (try simp only [Act.put, zk4, zk5, zk6])
                  (refine wpAnyH_take (i := 9) (v := ?_) rfl (by kernel_rfl) (by kernel_rfl) (by kernel_rfl) (fun _ _ _ h => h) (Or.inl ⟨by rfl, ?_⟩) (by assumption) ?_; rotate_left; focus (intro w hSw; (try dsimp only at hSw); (try simp only [zk1, zk2, zk3]); go_simp; try with_reducible rfl)); (try simp only [zk1, zk2, zk3]); (try simp only [Act.put, zk4, zk5, zk6])
                  (refine wpAnyH_take (i := 10) (v := .pointer (some ⟨q7, o7 + (k + 1) * 5, none⟩)) rfl (by kernel_rfl) (by kernel_rfl) (by kernel_rfl) (fun _ _ _ h => h) (Or.inl ⟨by rfl, ?_⟩) (by assumption) ?_; focus (intro w hSw; (try dsimp only at hSw); (try simp only [zk1, zk2, zk3]); go_simp; (try simp))); (try simp only [zk1, zk2, zk3]); (try simp only [Act.put, zk4, zk5, zk6])
                  (refine wpAnyH_take (i := 11) (v := ?_) rfl (by kernel_rfl) (by kernel_rfl) (by kernel_rfl) (fun _ _ _ h => h) (Or.inl ⟨by rfl, ?_⟩) (by assumption) ?_; rotate_left; focus (intro w hSw; (try dsimp only at hSw); (try simp only [zk1, zk2, zk3]); go_simp; try with_reducible rfl)); (try simp only [zk1, zk2, zk3]); (try simp only [Act.put, zk4, zk5, zk6])
                  (refine wpAnyH_take (i := 12) (v := ?_) rfl (by kernel_rfl) (by kernel_rfl) (by kernel_rfl) (fun _ _ _ h => h) (Or.inl ⟨by rfl, ?_⟩) (by assumption) ?_; rotate_left; focus (intro w hSw; (try dsimp only at hSw); (try simp only [zk1, zk2, zk3]); go_simp; try with_reducible rfl)); (try simp only [zk1, zk2, zk3]); (try simp only [Act.put, zk4, zk5, zk6])
                  (refine wpAnyH_take (i := 13) (v := ?_) rfl (by kernel_rfl) (by kernel_rfl) (by kernel_rfl) (fun _ _ _ h => h) (Or.inl ⟨by rfl, ?_⟩) (by assumption) ?_; rotate_left; focus (intro w hSw; (try dsimp only at hSw); (try simp only [zk1, zk2, zk3]); go_simp; try with_reducible rfl)); (try simp only [zk1, zk2, zk3]); (try simp only [Act.put, zk4, zk5, zk6])
                  refine wpAnyH_done (by kernel_rfl) ?_ _
                  go_wp2
                  go_ret
                  exact ⟨ret_bool R.out.symm, X⟩
              · have hlti : ¬ (k : Int) + 1 < xs.length := by omega
                have hyes : formB rs K need house name lv ss tops (xs.map StW.by_) = true := by rw [HEV.out, List.length_map, show xs.length - 1 = k by omega]; exact HASC.out
                have R := Lib.hid hyes
                clear hyes
                go_wp2
                go_ret
                exact ⟨ret_bool R.out.symm, X⟩
        · have hsb : ((ss.length : Int) != 8 - K) = true := by simp [hsd]
          have hno : formB rs K need house name lv ss tops (xs.map StW.by_) = false := by rw [formB, K_ka.out, K_kb.out, K_kc.out, decide_eq_false hsd]; rfl
          have R := Lib.hid hno
          clear hno
          clear hsd
          go_wp2
          go_ret
          exact ⟨ret_bool R.out.symm, X⟩
end Go.Proofs.YtckipgijfgeghaaGreatDoor
