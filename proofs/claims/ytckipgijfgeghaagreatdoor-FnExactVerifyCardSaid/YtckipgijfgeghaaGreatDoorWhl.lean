/- Whole proofs: what the laws do with them. -/
import Derived.Test.YtckipgijfgeghaaGreatDoorStm2
import Derived.Test.YtckipgijfgeghaaGreatDoorLTxA
import Derived.Test.YtckipgijfgeghaaGreatDoorSeal
import Derived.Deep.DeepCutAuto
namespace Go.Proofs.YtckipgijfgeghaaGreatDoor
open Go.RowKit

def chI (z : Int) (f : Int → Int) : Int := if z < 0 then -1 else f z
theorem chI_no {z : Int} (f : Int → Int) (h : z < 0) : chI z f = -1 := by rw [chI, if_pos h]
theorem chI_yes {z : Int} (f : Int → Int) (h : 0 ≤ z) : chI z f = f z := by rw [chI, if_neg (by omega)]
def szw (left : Int) (A B C : Nat) (D E : List Nat) : Int := chI (szp left A B) fun z1 => chI (szr z1 C) fun z2 => chI (szl z2 D) fun z3 => chI (szl z3 E) fun z4 => z4
theorem szp_two (left : Int) (n m : Nat) (hl : 0 ≤ left ∧ left ≤ 1048576) : szp left n m = -1 ∨ (0 ≤ szp left n m ∧ szp left n m ≤ 1048576 ∧ n ≤ 1048576 ∧ m ≤ 1048576) := by
  rcases szr_two left n hl with h | ⟨z, h, h0, h1, h2⟩
  · exact Or.inl (szp_neg h)
  · rw [szp_pos h h0]
    rcases szr_two z m ⟨h0, h1⟩ with k | ⟨y, k, k0, k1, k2⟩
    · exact Or.inl k
    · exact Or.inr (by omega)
theorem szr_two' (left : Int) (n : Nat) (hl : 0 ≤ left ∧ left ≤ 1048576) : szr left n = -1 ∨ (0 ≤ szr left n ∧ szr left n ≤ 1048576 ∧ n ≤ 1048576) := by
  rcases szr_two left n hl with h | ⟨z, h, h0, h1, h2⟩
  · exact Or.inl h
  · exact Or.inr (by omega)
theorem szl_two' (left : Int) (n : List Nat) (hl : 0 ≤ left ∧ left ≤ 1048576) : szl left n = -1 ∨ (0 ≤ szl left n ∧ szl left n ≤ 1048576 ∧ ∀ a ∈ n, a ≤ 1048576) := by
  rcases szl_two n left hl with h | ⟨z, h, h0, h1, h2⟩
  · exact Or.inl h
  · exact Or.inr ⟨by omega, by omega, h2⟩
theorem szw_two (A B C : Nat) (D E : List Nat) : szw 1048576 A B C D E = -1 ∨ (0 ≤ szw 1048576 A B C D E ∧ A ≤ 1048576 ∧ B ≤ 1048576 ∧ C ≤ 1048576 ∧ (∀ a ∈ D, a ≤ 1048576) ∧ ∀ a ∈ E, a ≤ 1048576) := by
  rcases szp_two 1048576 A B ⟨by decide, by decide⟩ with h1 | ⟨h1, k1, a1, b1⟩
  · exact Or.inl (by rw [szw, h1]; rfl)
  rcases szr_two' _ C ⟨h1, k1⟩ with h2 | ⟨h2, k2, c2⟩
  · exact Or.inl (by rw [szw, chI_yes _ h1, h2]; rfl)
  rcases szl_two' _ D ⟨h2, k2⟩ with h3 | ⟨h3, k3, d3⟩
  · exact Or.inl (by rw [szw, chI_yes _ h1, chI_yes _ h2, h3]; rfl)
  rcases szl_two' _ E ⟨h3, k3⟩ with h4 | ⟨h4, k4, e4⟩
  · exact Or.inl (by rw [szw, chI_yes _ h1, chI_yes _ h2, chI_yes _ h3, h4]; rfl)
  · exact Or.inr ⟨by rw [szw, chI_yes _ h1, chI_yes _ h2, chI_yes _ h3, chI_yes _ h4]; exact h4, a1, b1, c2, d3, e4⟩
set_option maxRecDepth 100000 in
set_option maxHeartbeats 3200000 in
theorem laws_szWhole (v1 v2 v3 v4 v5 v6 v7 : Value) (lv : List Leaf) (ss tops : List ByteArray) (hh ep : Int) (r p : ByteArray) (S : SigV) (xs : List StW) (left : Int) (w : World) (h1 : Lvs w v1 lv) (h2 : Strs w v2 ss) (h3 : Strs w v3 tops) (h4 : Strs w v4 S.op) (h5 : Strs w v5 S.sh) (h6 : Strs w v6 S.si) (h7 : Sts w v7 xs) (hf : LeafFit lv) (hs2 : ∀ s ∈ ss, s.size ≤ maxLen) (hs3 : ∀ s ∈ tops, s.size ≤ maxLen) (hr : r.size ≤ maxLen) (hp : p.size ≤ maxLen) (hS : SigFit S) (hX : ∀ x ∈ xs, SigFit x.s) (hl : 0 ≤ left ∧ left ≤ 1048576) :
    Calls Tryz.prog 6 #[.agg #[v1, v2, v3, .int .i64 hh, .int .i64 ep, .string r, .string p, .int .i64 S.at_, v4, v5, v6, v7], .int .i64 left] w fun e w' => e = .returned (.int .i64 (szw left (lv.length + leafBytes lv) (ss.length + sizes ss) (strN tops) (sealN r p S) (stN xs))) ∧ Ext w w' := by
  obtain ⟨b1, c1, rfl⟩ := h1.form
  obtain ⟨b2, c2, rfl⟩ := h2.form
  obtain ⟨b3, c3, rfl⟩ := h3.form
  obtain ⟨b4, c4, rfl⟩ := h4.form
  obtain ⟨b5, c5, rfl⟩ := h5.form
  obtain ⟨b6, c6, rfl⟩ := h6.form
  obtain ⟨b7, c7, rfl⟩ := h7.form
  have P := Bx.new w #[.slice b1 lv.length c1, .slice b2 ss.length c2, .slice b3 tops.length c3, .int .i64 hh, .int .i64 ep, .string r, .string p, .int .i64 S.at_, .slice b4 S.op.length c4, .slice b5 S.sh.length c5, .slice b6 S.si.length c6, .slice b7 xs.length c7] 36
  have X : Ext w (w.alloc (Obj.cells #[.slice b1 lv.length c1, .slice b2 ss.length c2, .slice b3 tops.length c3, .int .i64 hh, .int .i64 ep, .string r, .string p, .int .i64 S.at_, .slice b4 S.op.length c4, .slice b5 S.sh.length c5, .slice b6 S.si.length c6, .slice b7 xs.length c7] 36)) := (Ext.refl w).alloc _
  go_enter Tryz.func6, Tryz.ntmps6
  go_wp2_with fail
  generalize w.alloc (Obj.cells #[.slice b1 lv.length c1, .slice b2 ss.length c2, .slice b3 tops.length c3, .int .i64 hh, .int .i64 ep, .string r, .string p, .int .i64 S.at_, .slice b4 S.op.length c4, .slice b5 S.sh.length c5, .slice b6 S.si.length c6, .slice b7 xs.length c7] 36) = W0 at *
  generalize w.heap.size = B at *
  obtain ⟨z1, hz1⟩ : ∃ z, szp left (lv.length + leafBytes lv) (ss.length + sizes ss) = z := ⟨_, rfl⟩
  have hc1 := szp_two left (lv.length + leafBytes lv) (ss.length + sizes ss) hl
  rw [hz1] at hc1
  have Z1 := Lib.hid hz1
  clear hz1
  refine (laws_szProof _ _ lv ss _ _ (h1.ext X) hf (h2.ext X) hs2 hl).mono ?_
  rw [Z1.out]
  rintro e w1 ⟨rfl, x1⟩
  replace P := P.ext x1
  replace X := X.trans x1
  rcases hc1 with rfl | hc1
  · go_wp2
    go_ret
    exact ⟨ret_int (by rw [szw, Z1.out]; rfl), X⟩
  · have y1 := hc1.1
    have k1 := hc1.2.1
    clear hc1
    obtain ⟨z2, hz2⟩ : ∃ z, szr z1 (strN tops) = z := ⟨_, rfl⟩
    have hc2 := szr_two' z1 (strN tops) ⟨y1, k1⟩
    rw [hz2] at hc2
    have Z2 := Lib.hid hz2
    clear hz2
    have p0 := P.2.1 0 _ rfl
    have p1 := P.2.1 1 _ rfl
    have p2 := P.2.1 2 _ rfl
    have p3 := P.2.1 3 _ rfl
    have p4 := P.2.1 4 _ rfl
    have p5 := P.2.1 5 _ rfl
    have p6 := P.2.1 6 _ rfl
    have p7 := P.2.1 7 _ rfl
    have p8 := P.2.1 8 _ rfl
    have p9 := P.2.1 9 _ rfl
    have p10 := P.2.1 10 _ rfl
    have p11 := P.2.1 11 _ rfl
    go_wp2_with fail
    clear p0 p1 p2 p3 p4 p5 p6 p7 p8 p9 p10 p11
    refine (laws_szStringS _ tops _ _ (h3.ext X) ⟨y1, k1⟩ hs3).mono ?_
    rw [show szr z1 (tops.length + sizes tops) = z2 from Z2.out]
    rintro e w' ⟨rfl, rfl⟩
    rcases hc2 with rfl | hc2
    · go_wp2
      go_ret
      exact ⟨ret_int (by rw [szw, Z1.out, chI_yes _ y1, Z2.out]; rfl), X⟩
    · have y2 := hc2.1
      have k2 := hc2.2.1
      clear hc2
      obtain ⟨z3, hz3⟩ : ∃ z, szl z2 (sealN r p S) = z := ⟨_, rfl⟩
      have hc3 := szl_two' z2 (sealN r p S) ⟨y2, k2⟩
      rw [hz3] at hc3
      have Z3 := Lib.hid hz3
      clear hz3
      have p0 := P.2.1 0 _ rfl
      have p1 := P.2.1 1 _ rfl
      have p2 := P.2.1 2 _ rfl
      have p3 := P.2.1 3 _ rfl
      have p4 := P.2.1 4 _ rfl
      have p5 := P.2.1 5 _ rfl
      have p6 := P.2.1 6 _ rfl
      have p7 := P.2.1 7 _ rfl
      have p8 := P.2.1 8 _ rfl
      have p9 := P.2.1 9 _ rfl
      have p10 := P.2.1 10 _ rfl
      have p11 := P.2.1 11 _ rfl
      go_wp2_with fail
      clear p0 p1 p2 p3 p4 p5 p6 p7 p8 p9 p10 p11
      refine (laws_szSeal hh ep r p _ _ _ S _ _ (h4.ext X) (h5.ext X) (h6.ext X) hr hp hS ⟨y2, k2⟩).mono ?_
      rw [Z3.out]
      rintro e w3 ⟨rfl, x3⟩
      replace P := P.ext x3
      replace X := X.trans x3
      rcases hc3 with rfl | hc3
      · go_wp2
        go_ret
        exact ⟨ret_int (by rw [szw, Z1.out, chI_yes _ y1, Z2.out, chI_yes _ y2, Z3.out]; rfl), X⟩
      · have y3 := hc3.1
        have k3 := hc3.2.1
        clear hc3
        obtain ⟨z4, hz4⟩ : ∃ z, szl z3 (stN xs) = z := ⟨_, rfl⟩
        have hc4 := szl_two' z3 (stN xs) ⟨y3, k3⟩
        rw [hz4] at hc4
        have Z4 := Lib.hid hz4
        clear hz4
        have p0 := P.2.1 0 _ rfl
        have p1 := P.2.1 1 _ rfl
        have p2 := P.2.1 2 _ rfl
        have p3 := P.2.1 3 _ rfl
        have p4 := P.2.1 4 _ rfl
        have p5 := P.2.1 5 _ rfl
        have p6 := P.2.1 6 _ rfl
        have p7 := P.2.1 7 _ rfl
        have p8 := P.2.1 8 _ rfl
        have p9 := P.2.1 9 _ rfl
        have p10 := P.2.1 10 _ rfl
        have p11 := P.2.1 11 _ rfl
        go_wp2_with fail
        clear p0 p1 p2 p3 p4 p5 p6 p7 p8 p9 p10 p11
        refine (laws_szStampS _ xs _ _ (h7.ext X) hX ⟨y3, k3⟩).mono ?_
        rw [Z4.out]
        rintro e w4 ⟨rfl, x4⟩
        replace P := P.ext x4
        replace X := X.trans x4
        rcases hc4 with rfl | hc4
        · go_wp2
          go_ret
          exact ⟨ret_int (by rw [szw, Z1.out, chI_yes _ y1, Z2.out, chI_yes _ y2, Z3.out, chI_yes _ y3, Z4.out]; rfl), X⟩
        · have y4 := hc4.1
          go_wp2
          go_ret
          exact ⟨ret_int (by rw [szw, Z1.out, chI_yes _ y1, Z2.out, chI_yes _ y2, Z3.out, chI_yes _ y3, Z4.out, chI_yes _ y4]), X⟩
set_option maxRecDepth 100000 in
set_option maxHeartbeats 6400000 in
theorem laws_toWhole (v1 v2 v3 v4 v5 v6 v7 : Value) (lv : List Leaf) (ss tops : List ByteArray) (hh ep : Int) (r p : ByteArray) (S : SigV) (xs : List StW) (w : World) (h1 : Lvs w v1 lv) (h2 : Strs w v2 ss) (h3 : Strs w v3 tops) (h4 : Strs w v4 S.op) (h5 : Strs w v5 S.sh) (h6 : Strs w v6 S.si) (h7 : Sts w v7 xs) (n1 : lv.length ≤ 1099511627776) (n2 : ss.length ≤ 1099511627776) (n3 : tops.length ≤ 1099511627776) (n4 : S.op.length ≤ 1099511627776) (n5 : S.sh.length ≤ 1099511627776) (n6 : S.si.length ≤ 1099511627776) (n7 : xs.length ≤ 1099511627776) (n8 : ∀ x ∈ xs, x.s.op.length ≤ 1099511627776 ∧ x.s.sh.length ≤ 1099511627776 ∧ x.s.si.length ≤ 1099511627776) :
    Calls Tryz.prog 9 #[.agg #[v1, v2, v3, .int .i64 hh, .int .i64 ep, .string r, .string p, .int .i64 S.at_, v4, v5, v6, v7]] w fun e w' => ∃ d1 e1 d2 e2 d3 e3 d4 e4 d5 e5 d6 e6 ys d7 e7, e = .returned (.agg #[.slice d1 lv.length e1, .slice d2 ss.length e2, .slice d3 tops.length e3, .int .i64 hh, .int .i64 ep, .string r, .string p, .int .i64 S.at_, .slice d4 S.op.length e4, .slice d5 S.sh.length e5, .slice d6 S.si.length e6, .slice d7 ys.length e7]) ∧ ys.map StW.pure = xs.map StW.pure ∧ Lvs w' (.slice d1 lv.length e1) lv ∧ Strs w' (.slice d2 ss.length e2) ss ∧ Strs w' (.slice d3 tops.length e3) tops ∧ Strs w' (.slice d4 S.op.length e4) S.op ∧ Strs w' (.slice d5 S.sh.length e5) S.sh ∧ Strs w' (.slice d6 S.si.length e6) S.si ∧ Sts w' (.slice d7 ys.length e7) ys ∧ Ext w w' := by
  obtain ⟨b1, c1, rfl⟩ := h1.form
  obtain ⟨b2, c2, rfl⟩ := h2.form
  obtain ⟨b3, c3, rfl⟩ := h3.form
  obtain ⟨b4, c4, rfl⟩ := h4.form
  obtain ⟨b5, c5, rfl⟩ := h5.form
  obtain ⟨b6, c6, rfl⟩ := h6.form
  obtain ⟨b7, c7, rfl⟩ := h7.form
  go_enter Tryz.func9, Tryz.ntmps9
  go_wp2_with fail
  have P : Bx (((w.alloc (Obj.cells #[.slice b1 lv.length c1, .slice b2 ss.length c2, .slice b3 tops.length c3, .int .i64 hh, .int .i64 ep, .string r, .string p, .int .i64 S.at_, .slice b4 S.op.length c4, .slice b5 S.sh.length c5, .slice b6 S.si.length c6, .slice b7 xs.length c7] 36)).alloc (Obj.cells #[.slice none 0 0, .slice none 0 0, .slice none 0 0, .int .i64 0, .int .i64 0, .string ⟨#[]⟩, .string ⟨#[]⟩, .int .i64 0, .slice none 0 0, .slice none 0 0, .slice none 0 0, .slice none 0 0] 52)).alloc (Obj.cells #[.slice none 0 0, .slice none 0 0, .slice none 0 0, .int .i64 0, .int .i64 0, .string ⟨#[]⟩, .string ⟨#[]⟩, .int .i64 0, .slice none 0 0, .slice none 0 0, .slice none 0 0, .slice none 0 0] 52)) w.heap.size [.slice b1 lv.length c1, .slice b2 ss.length c2, .slice b3 tops.length c3, .int .i64 hh, .int .i64 ep, .string r, .string p, .int .i64 S.at_, .slice b4 S.op.length c4, .slice b5 S.sh.length c5, .slice b6 S.si.length c6, .slice b7 xs.length c7] := ((Bx.new w _ _).ext ((Ext.refl _).alloc _)).ext ((Ext.refl _).alloc _)
  have R : Bx (((w.alloc (Obj.cells #[.slice b1 lv.length c1, .slice b2 ss.length c2, .slice b3 tops.length c3, .int .i64 hh, .int .i64 ep, .string r, .string p, .int .i64 S.at_, .slice b4 S.op.length c4, .slice b5 S.sh.length c5, .slice b6 S.si.length c6, .slice b7 xs.length c7] 36)).alloc (Obj.cells #[.slice none 0 0, .slice none 0 0, .slice none 0 0, .int .i64 0, .int .i64 0, .string ⟨#[]⟩, .string ⟨#[]⟩, .int .i64 0, .slice none 0 0, .slice none 0 0, .slice none 0 0, .slice none 0 0] 52)).alloc (Obj.cells #[.slice none 0 0, .slice none 0 0, .slice none 0 0, .int .i64 0, .int .i64 0, .string ⟨#[]⟩, .string ⟨#[]⟩, .int .i64 0, .slice none 0 0, .slice none 0 0, .slice none 0 0, .slice none 0 0] 52)) (w.heap.size + 1) [.slice none 0 0, .slice none 0 0, .slice none 0 0, .int .i64 0, .int .i64 0, .string ⟨#[]⟩, .string ⟨#[]⟩, .int .i64 0, .slice none 0 0, .slice none 0 0, .slice none 0 0, .slice none 0 0] := by
    have e := (Bx.new (w.alloc (Obj.cells #[.slice b1 lv.length c1, .slice b2 ss.length c2, .slice b3 tops.length c3, .int .i64 hh, .int .i64 ep, .string r, .string p, .int .i64 S.at_, .slice b4 S.op.length c4, .slice b5 S.sh.length c5, .slice b6 S.si.length c6, .slice b7 xs.length c7] 36)) #[.slice none 0 0, .slice none 0 0, .slice none 0 0, .int .i64 0, .int .i64 0, .string ⟨#[]⟩, .string ⟨#[]⟩, .int .i64 0, .slice none 0 0, .slice none 0 0, .slice none 0 0, .slice none 0 0] 52).ext ((Ext.refl _).alloc (Obj.cells #[.slice none 0 0, .slice none 0 0, .slice none 0 0, .int .i64 0, .int .i64 0, .string ⟨#[]⟩, .string ⟨#[]⟩, .int .i64 0, .slice none 0 0, .slice none 0 0, .slice none 0 0, .slice none 0 0] 52))
    rw [World.size_alloc] at e
    exact e
  have Q : Bx (((w.alloc (Obj.cells #[.slice b1 lv.length c1, .slice b2 ss.length c2, .slice b3 tops.length c3, .int .i64 hh, .int .i64 ep, .string r, .string p, .int .i64 S.at_, .slice b4 S.op.length c4, .slice b5 S.sh.length c5, .slice b6 S.si.length c6, .slice b7 xs.length c7] 36)).alloc (Obj.cells #[.slice none 0 0, .slice none 0 0, .slice none 0 0, .int .i64 0, .int .i64 0, .string ⟨#[]⟩, .string ⟨#[]⟩, .int .i64 0, .slice none 0 0, .slice none 0 0, .slice none 0 0, .slice none 0 0] 52)).alloc (Obj.cells #[.slice none 0 0, .slice none 0 0, .slice none 0 0, .int .i64 0, .int .i64 0, .string ⟨#[]⟩, .string ⟨#[]⟩, .int .i64 0, .slice none 0 0, .slice none 0 0, .slice none 0 0, .slice none 0 0] 52)) (w.heap.size + 2) [.slice none 0 0, .slice none 0 0, .slice none 0 0, .int .i64 0, .int .i64 0, .string ⟨#[]⟩, .string ⟨#[]⟩, .int .i64 0, .slice none 0 0, .slice none 0 0, .slice none 0 0, .slice none 0 0] := by
    have e := Bx.new ((w.alloc (Obj.cells #[.slice b1 lv.length c1, .slice b2 ss.length c2, .slice b3 tops.length c3, .int .i64 hh, .int .i64 ep, .string r, .string p, .int .i64 S.at_, .slice b4 S.op.length c4, .slice b5 S.sh.length c5, .slice b6 S.si.length c6, .slice b7 xs.length c7] 36)).alloc (Obj.cells #[.slice none 0 0, .slice none 0 0, .slice none 0 0, .int .i64 0, .int .i64 0, .string ⟨#[]⟩, .string ⟨#[]⟩, .int .i64 0, .slice none 0 0, .slice none 0 0, .slice none 0 0, .slice none 0 0] 52)) #[.slice none 0 0, .slice none 0 0, .slice none 0 0, .int .i64 0, .int .i64 0, .string ⟨#[]⟩, .string ⟨#[]⟩, .int .i64 0, .slice none 0 0, .slice none 0 0, .slice none 0 0, .slice none 0 0] 52
    rw [World.size_alloc, World.size_alloc] at e
    exact e
  have X : Ext w (((w.alloc (Obj.cells #[.slice b1 lv.length c1, .slice b2 ss.length c2, .slice b3 tops.length c3, .int .i64 hh, .int .i64 ep, .string r, .string p, .int .i64 S.at_, .slice b4 S.op.length c4, .slice b5 S.sh.length c5, .slice b6 S.si.length c6, .slice b7 xs.length c7] 36)).alloc (Obj.cells #[.slice none 0 0, .slice none 0 0, .slice none 0 0, .int .i64 0, .int .i64 0, .string ⟨#[]⟩, .string ⟨#[]⟩, .int .i64 0, .slice none 0 0, .slice none 0 0, .slice none 0 0, .slice none 0 0] 52)).alloc (Obj.cells #[.slice none 0 0, .slice none 0 0, .slice none 0 0, .int .i64 0, .int .i64 0, .string ⟨#[]⟩, .string ⟨#[]⟩, .int .i64 0, .slice none 0 0, .slice none 0 0, .slice none 0 0, .slice none 0 0] 52)) := (((Ext.refl w).alloc _).alloc _).alloc _
  generalize ((w.alloc (Obj.cells #[.slice b1 lv.length c1, .slice b2 ss.length c2, .slice b3 tops.length c3, .int .i64 hh, .int .i64 ep, .string r, .string p, .int .i64 S.at_, .slice b4 S.op.length c4, .slice b5 S.sh.length c5, .slice b6 S.si.length c6, .slice b7 xs.length c7] 36)).alloc (Obj.cells #[.slice none 0 0, .slice none 0 0, .slice none 0 0, .int .i64 0, .int .i64 0, .string ⟨#[]⟩, .string ⟨#[]⟩, .int .i64 0, .slice none 0 0, .slice none 0 0, .slice none 0 0, .slice none 0 0] 52)).alloc (Obj.cells #[.slice none 0 0, .slice none 0 0, .slice none 0 0, .int .i64 0, .int .i64 0, .string ⟨#[]⟩, .string ⟨#[]⟩, .int .i64 0, .slice none 0 0, .slice none 0 0, .slice none 0 0, .slice none 0 0] 52) = W0 at *
  have lq : w.heap.size + 2 < W0.heap.size := Q.1
  have lqw := Q.1
  refine (laws_toProof _ _ lv ss _ (h1.ext X) (h2.ext X) n1 n2).mono ?_
  rintro e V1 ⟨d1, e1, d2, e2, rfl, o1, o2, x⟩
  replace P := P.ext x
  replace R := R.ext x
  replace Q := Q.ext x
  replace X := X.trans x
  clear x
  have o1 := own_mono o1 (show w.heap.size + 3 ≤ _ by omega)
  have o2 := own_mono o2 (show w.heap.size + 3 ≤ _ by omega)
  have lqv := Q.1
  have z0 := Q.2.1 0 _ rfl
  have z1 := Q.2.1 1 _ rfl
  have z2 := Q.2.1 2 _ rfl
  have z3 := Q.2.1 3 _ rfl
  have z4 := Q.2.1 4 _ rfl
  have z5 := Q.2.1 5 _ rfl
  have z6 := Q.2.1 6 _ rfl
  have z7 := Q.2.1 7 _ rfl
  have z8 := Q.2.1 8 _ rfl
  have z9 := Q.2.1 9 _ rfl
  have z10 := Q.2.1 10 _ rfl
  have z11 := Q.2.1 11 _ rfl
  have f0 := Q.2.2 0
  have f1 := Q.2.2 1
  have f2 := Q.2.2 2
  have f3 := Q.2.2 3
  have f4 := Q.2.2 4
  have f5 := Q.2.2 5
  have f6 := Q.2.2 6
  have f7 := Q.2.2 7
  have f8 := Q.2.2 8
  have f9 := Q.2.2 9
  have f10 := Q.2.2 10
  have f11 := Q.2.2 11
  have Q9 := ((Q.set 0 (.slice d1 lv.length e1) (by simp)).set 1 (.slice d2 ss.length e2) (by simp))
  have P9 := ((P.far (c := w.heap.size + 2) (by omega) 0 (.slice d1 lv.length e1)).far (c := w.heap.size + 2) (by omega) 1 (.slice d2 ss.length e2))
  have R9 := ((R.far (c := w.heap.size + 2) (by omega) 0 (.slice d1 lv.length e1)).far (c := w.heap.size + 2) (by omega) 1 (.slice d2 ss.length e2))
  have X9 : Ext w ((V1.setCell ⟨(w.heap.size + 2), 0, none⟩ (.slice d1 lv.length e1)).setCell ⟨(w.heap.size + 2), 1, none⟩ (.slice d2 ss.length e2)) := ((X.setCell (by dsimp only; omega) (.slice d1 lv.length e1)).setCell (by dsimp only; omega) (.slice d2 ss.length e2))
  have o19 := (own_below (own_below o1 (p := ⟨w.heap.size + 2, 0, none⟩) (u := .slice d1 lv.length e1) (show w.heap.size + 2 < w.heap.size + 3 by omega)) (p := ⟨w.heap.size + 2, 1, none⟩) (u := .slice d2 ss.length e2) (show w.heap.size + 2 < w.heap.size + 3 by omega))
  have o29 := (own_below (own_below o2 (p := ⟨w.heap.size + 2, 0, none⟩) (u := .slice d1 lv.length e1) (show w.heap.size + 2 < w.heap.size + 3 by omega)) (p := ⟨w.heap.size + 2, 1, none⟩) (u := .slice d2 ss.length e2) (show w.heap.size + 2 < w.heap.size + 3 by omega))
  go_upto_region 3 with (fail)
  generalize (V1.setCell ⟨(w.heap.size + 2), 0, none⟩ (.slice d1 lv.length e1)).setCell ⟨(w.heap.size + 2), 1, none⟩ (.slice d2 ss.length e2) = W1 at *
  clear z0 f0 z1 f1 z2 f2 z3 f3 z4 f4 z5 f5 z6 f6 z7 f7 z8 f8 z9 f9 z10 f10 z11 f11 P Q R X o1 o2
  have P := P9
  have Q := Q9
  have R := R9
  have X := X9
  have o1 := o19
  have o2 := o29
  clear P9 Q9 R9 X9 o19 o29
  simp only [List.set_cons_succ, List.set_cons_zero] at Q
  have p0 := P.2.1 0 _ rfl
  have p1 := P.2.1 1 _ rfl
  have p2 := P.2.1 2 _ rfl
  have p3 := P.2.1 3 _ rfl
  have p4 := P.2.1 4 _ rfl
  have p5 := P.2.1 5 _ rfl
  have p6 := P.2.1 6 _ rfl
  have p7 := P.2.1 7 _ rfl
  have p8 := P.2.1 8 _ rfl
  have p9 := P.2.1 9 _ rfl
  have p10 := P.2.1 10 _ rfl
  have p11 := P.2.1 11 _ rfl
  go_wp2_with fail
  clear p0 p1 p2 p3 p4 p5 p6 p7 p8 p9 p10 p11
  have lqw := Q.1
  refine (laws_toStringS _ tops _ (h3.ext X) n3).mono ?_
  rintro e V2 ⟨d3, e3, rfl, o3, x⟩
  replace P := P.ext x
  replace R := R.ext x
  replace Q := Q.ext x
  replace X := X.trans x
  replace o1 := own_ext o1 x
  replace o2 := own_ext o2 x
  clear x
  have o3 := own_mono o3 (show w.heap.size + 3 ≤ _ by omega)
  have lqv := Q.1
  have z0 := Q.2.1 0 _ rfl
  have z1 := Q.2.1 1 _ rfl
  have z2 := Q.2.1 2 _ rfl
  have z3 := Q.2.1 3 _ rfl
  have z4 := Q.2.1 4 _ rfl
  have z5 := Q.2.1 5 _ rfl
  have z6 := Q.2.1 6 _ rfl
  have z7 := Q.2.1 7 _ rfl
  have z8 := Q.2.1 8 _ rfl
  have z9 := Q.2.1 9 _ rfl
  have z10 := Q.2.1 10 _ rfl
  have z11 := Q.2.1 11 _ rfl
  have f0 := Q.2.2 0
  have f1 := Q.2.2 1
  have f2 := Q.2.2 2
  have f3 := Q.2.2 3
  have f4 := Q.2.2 4
  have f5 := Q.2.2 5
  have f6 := Q.2.2 6
  have f7 := Q.2.2 7
  have f8 := Q.2.2 8
  have f9 := Q.2.2 9
  have f10 := Q.2.2 10
  have f11 := Q.2.2 11
  have Q9 := (Q.set 2 (.slice d3 tops.length e3) (by simp))
  have P9 := (P.far (c := w.heap.size + 2) (by omega) 2 (.slice d3 tops.length e3))
  have R9 := (R.far (c := w.heap.size + 2) (by omega) 2 (.slice d3 tops.length e3))
  have X9 : Ext w (V2.setCell ⟨(w.heap.size + 2), 2, none⟩ (.slice d3 tops.length e3)) := (X.setCell (by dsimp only; omega) (.slice d3 tops.length e3))
  have o19 := (own_below o1 (p := ⟨w.heap.size + 2, 2, none⟩) (u := .slice d3 tops.length e3) (show w.heap.size + 2 < w.heap.size + 3 by omega))
  have o29 := (own_below o2 (p := ⟨w.heap.size + 2, 2, none⟩) (u := .slice d3 tops.length e3) (show w.heap.size + 2 < w.heap.size + 3 by omega))
  have o39 := (own_below o3 (p := ⟨w.heap.size + 2, 2, none⟩) (u := .slice d3 tops.length e3) (show w.heap.size + 2 < w.heap.size + 3 by omega))
  go_upto_region 4 with (fail)
  generalize V2.setCell ⟨(w.heap.size + 2), 2, none⟩ (.slice d3 tops.length e3) = W2 at *
  clear z0 f0 z1 f1 z2 f2 z3 f3 z4 f4 z5 f5 z6 f6 z7 f7 z8 f8 z9 f9 z10 f10 z11 f11 P Q R X o1 o2 o3
  have P := P9
  have Q := Q9
  have R := R9
  have X := X9
  have o1 := o19
  have o2 := o29
  have o3 := o39
  clear P9 Q9 R9 X9 o19 o29 o39
  simp only [List.set_cons_succ, List.set_cons_zero] at Q
  have p0 := P.2.1 0 _ rfl
  have p1 := P.2.1 1 _ rfl
  have p2 := P.2.1 2 _ rfl
  have p3 := P.2.1 3 _ rfl
  have p4 := P.2.1 4 _ rfl
  have p5 := P.2.1 5 _ rfl
  have p6 := P.2.1 6 _ rfl
  have p7 := P.2.1 7 _ rfl
  have p8 := P.2.1 8 _ rfl
  have p9 := P.2.1 9 _ rfl
  have p10 := P.2.1 10 _ rfl
  have p11 := P.2.1 11 _ rfl
  go_wp2_with fail
  clear p0 p1 p2 p3 p4 p5 p6 p7 p8 p9 p10 p11
  have lqw := Q.1
  refine (laws_toSeal hh ep r p _ _ _ S _ (h4.ext X) (h5.ext X) (h6.ext X) n4 n5 n6).mono ?_
  rintro e V3 ⟨u4, u5, u6, rfl, o4, o5, o6, x⟩
  obtain ⟨d4, e4, rfl⟩ := own_any o4
  obtain ⟨d5, e5, rfl⟩ := own_any o5
  obtain ⟨d6, e6, rfl⟩ := own_any o6
  replace P := P.ext x
  replace R := R.ext x
  replace Q := Q.ext x
  replace X := X.trans x
  replace o1 := own_ext o1 x
  replace o2 := own_ext o2 x
  replace o3 := own_ext o3 x
  clear x
  have o4 := own_mono o4 (show w.heap.size + 3 ≤ _ by omega)
  have o5 := own_mono o5 (show w.heap.size + 3 ≤ _ by omega)
  have o6 := own_mono o6 (show w.heap.size + 3 ≤ _ by omega)
  have lqv := Q.1
  have z0 := Q.2.1 0 _ rfl
  have z1 := Q.2.1 1 _ rfl
  have z2 := Q.2.1 2 _ rfl
  have z3 := Q.2.1 3 _ rfl
  have z4 := Q.2.1 4 _ rfl
  have z5 := Q.2.1 5 _ rfl
  have z6 := Q.2.1 6 _ rfl
  have z7 := Q.2.1 7 _ rfl
  have z8 := Q.2.1 8 _ rfl
  have z9 := Q.2.1 9 _ rfl
  have z10 := Q.2.1 10 _ rfl
  have z11 := Q.2.1 11 _ rfl
  have f0 := Q.2.2 0
  have f1 := Q.2.2 1
  have f2 := Q.2.2 2
  have f3 := Q.2.2 3
  have f4 := Q.2.2 4
  have f5 := Q.2.2 5
  have f6 := Q.2.2 6
  have f7 := Q.2.2 7
  have f8 := Q.2.2 8
  have f9 := Q.2.2 9
  have f10 := Q.2.2 10
  have f11 := Q.2.2 11
  have Q9 := ((((((((Q.set 3 (.int .i64 hh) (by simp)).set 4 (.int .i64 ep) (by simp)).set 5 (.string r) (by simp)).set 6 (.string p) (by simp)).set 7 (.int .i64 S.at_) (by simp)).set 8 (.slice d4 S.op.length e4) (by simp)).set 9 (.slice d5 S.sh.length e5) (by simp)).set 10 (.slice d6 S.si.length e6) (by simp))
  have P9 := ((((((((P.far (c := w.heap.size + 2) (by omega) 3 (.int .i64 hh)).far (c := w.heap.size + 2) (by omega) 4 (.int .i64 ep)).far (c := w.heap.size + 2) (by omega) 5 (.string r)).far (c := w.heap.size + 2) (by omega) 6 (.string p)).far (c := w.heap.size + 2) (by omega) 7 (.int .i64 S.at_)).far (c := w.heap.size + 2) (by omega) 8 (.slice d4 S.op.length e4)).far (c := w.heap.size + 2) (by omega) 9 (.slice d5 S.sh.length e5)).far (c := w.heap.size + 2) (by omega) 10 (.slice d6 S.si.length e6))
  have R9 := ((((((((R.far (c := w.heap.size + 2) (by omega) 3 (.int .i64 hh)).far (c := w.heap.size + 2) (by omega) 4 (.int .i64 ep)).far (c := w.heap.size + 2) (by omega) 5 (.string r)).far (c := w.heap.size + 2) (by omega) 6 (.string p)).far (c := w.heap.size + 2) (by omega) 7 (.int .i64 S.at_)).far (c := w.heap.size + 2) (by omega) 8 (.slice d4 S.op.length e4)).far (c := w.heap.size + 2) (by omega) 9 (.slice d5 S.sh.length e5)).far (c := w.heap.size + 2) (by omega) 10 (.slice d6 S.si.length e6))
  have X9 : Ext w ((((((((V3.setCell ⟨(w.heap.size + 2), 3, none⟩ (.int .i64 hh)).setCell ⟨(w.heap.size + 2), 4, none⟩ (.int .i64 ep)).setCell ⟨(w.heap.size + 2), 5, none⟩ (.string r)).setCell ⟨(w.heap.size + 2), 6, none⟩ (.string p)).setCell ⟨(w.heap.size + 2), 7, none⟩ (.int .i64 S.at_)).setCell ⟨(w.heap.size + 2), 8, none⟩ (.slice d4 S.op.length e4)).setCell ⟨(w.heap.size + 2), 9, none⟩ (.slice d5 S.sh.length e5)).setCell ⟨(w.heap.size + 2), 10, none⟩ (.slice d6 S.si.length e6)) := ((((((((X.setCell (by dsimp only; omega) (.int .i64 hh)).setCell (by dsimp only; omega) (.int .i64 ep)).setCell (by dsimp only; omega) (.string r)).setCell (by dsimp only; omega) (.string p)).setCell (by dsimp only; omega) (.int .i64 S.at_)).setCell (by dsimp only; omega) (.slice d4 S.op.length e4)).setCell (by dsimp only; omega) (.slice d5 S.sh.length e5)).setCell (by dsimp only; omega) (.slice d6 S.si.length e6))
  have o19 := (own_below (own_below (own_below (own_below (own_below (own_below (own_below (own_below o1 (p := ⟨w.heap.size + 2, 3, none⟩) (u := .int .i64 hh) (show w.heap.size + 2 < w.heap.size + 3 by omega)) (p := ⟨w.heap.size + 2, 4, none⟩) (u := .int .i64 ep) (show w.heap.size + 2 < w.heap.size + 3 by omega)) (p := ⟨w.heap.size + 2, 5, none⟩) (u := .string r) (show w.heap.size + 2 < w.heap.size + 3 by omega)) (p := ⟨w.heap.size + 2, 6, none⟩) (u := .string p) (show w.heap.size + 2 < w.heap.size + 3 by omega)) (p := ⟨w.heap.size + 2, 7, none⟩) (u := .int .i64 S.at_) (show w.heap.size + 2 < w.heap.size + 3 by omega)) (p := ⟨w.heap.size + 2, 8, none⟩) (u := .slice d4 S.op.length e4) (show w.heap.size + 2 < w.heap.size + 3 by omega)) (p := ⟨w.heap.size + 2, 9, none⟩) (u := .slice d5 S.sh.length e5) (show w.heap.size + 2 < w.heap.size + 3 by omega)) (p := ⟨w.heap.size + 2, 10, none⟩) (u := .slice d6 S.si.length e6) (show w.heap.size + 2 < w.heap.size + 3 by omega))
  have o29 := (own_below (own_below (own_below (own_below (own_below (own_below (own_below (own_below o2 (p := ⟨w.heap.size + 2, 3, none⟩) (u := .int .i64 hh) (show w.heap.size + 2 < w.heap.size + 3 by omega)) (p := ⟨w.heap.size + 2, 4, none⟩) (u := .int .i64 ep) (show w.heap.size + 2 < w.heap.size + 3 by omega)) (p := ⟨w.heap.size + 2, 5, none⟩) (u := .string r) (show w.heap.size + 2 < w.heap.size + 3 by omega)) (p := ⟨w.heap.size + 2, 6, none⟩) (u := .string p) (show w.heap.size + 2 < w.heap.size + 3 by omega)) (p := ⟨w.heap.size + 2, 7, none⟩) (u := .int .i64 S.at_) (show w.heap.size + 2 < w.heap.size + 3 by omega)) (p := ⟨w.heap.size + 2, 8, none⟩) (u := .slice d4 S.op.length e4) (show w.heap.size + 2 < w.heap.size + 3 by omega)) (p := ⟨w.heap.size + 2, 9, none⟩) (u := .slice d5 S.sh.length e5) (show w.heap.size + 2 < w.heap.size + 3 by omega)) (p := ⟨w.heap.size + 2, 10, none⟩) (u := .slice d6 S.si.length e6) (show w.heap.size + 2 < w.heap.size + 3 by omega))
  have o39 := (own_below (own_below (own_below (own_below (own_below (own_below (own_below (own_below o3 (p := ⟨w.heap.size + 2, 3, none⟩) (u := .int .i64 hh) (show w.heap.size + 2 < w.heap.size + 3 by omega)) (p := ⟨w.heap.size + 2, 4, none⟩) (u := .int .i64 ep) (show w.heap.size + 2 < w.heap.size + 3 by omega)) (p := ⟨w.heap.size + 2, 5, none⟩) (u := .string r) (show w.heap.size + 2 < w.heap.size + 3 by omega)) (p := ⟨w.heap.size + 2, 6, none⟩) (u := .string p) (show w.heap.size + 2 < w.heap.size + 3 by omega)) (p := ⟨w.heap.size + 2, 7, none⟩) (u := .int .i64 S.at_) (show w.heap.size + 2 < w.heap.size + 3 by omega)) (p := ⟨w.heap.size + 2, 8, none⟩) (u := .slice d4 S.op.length e4) (show w.heap.size + 2 < w.heap.size + 3 by omega)) (p := ⟨w.heap.size + 2, 9, none⟩) (u := .slice d5 S.sh.length e5) (show w.heap.size + 2 < w.heap.size + 3 by omega)) (p := ⟨w.heap.size + 2, 10, none⟩) (u := .slice d6 S.si.length e6) (show w.heap.size + 2 < w.heap.size + 3 by omega))
  have o49 := (own_below (own_below (own_below (own_below (own_below (own_below (own_below (own_below o4 (p := ⟨w.heap.size + 2, 3, none⟩) (u := .int .i64 hh) (show w.heap.size + 2 < w.heap.size + 3 by omega)) (p := ⟨w.heap.size + 2, 4, none⟩) (u := .int .i64 ep) (show w.heap.size + 2 < w.heap.size + 3 by omega)) (p := ⟨w.heap.size + 2, 5, none⟩) (u := .string r) (show w.heap.size + 2 < w.heap.size + 3 by omega)) (p := ⟨w.heap.size + 2, 6, none⟩) (u := .string p) (show w.heap.size + 2 < w.heap.size + 3 by omega)) (p := ⟨w.heap.size + 2, 7, none⟩) (u := .int .i64 S.at_) (show w.heap.size + 2 < w.heap.size + 3 by omega)) (p := ⟨w.heap.size + 2, 8, none⟩) (u := .slice d4 S.op.length e4) (show w.heap.size + 2 < w.heap.size + 3 by omega)) (p := ⟨w.heap.size + 2, 9, none⟩) (u := .slice d5 S.sh.length e5) (show w.heap.size + 2 < w.heap.size + 3 by omega)) (p := ⟨w.heap.size + 2, 10, none⟩) (u := .slice d6 S.si.length e6) (show w.heap.size + 2 < w.heap.size + 3 by omega))
  have o59 := (own_below (own_below (own_below (own_below (own_below (own_below (own_below (own_below o5 (p := ⟨w.heap.size + 2, 3, none⟩) (u := .int .i64 hh) (show w.heap.size + 2 < w.heap.size + 3 by omega)) (p := ⟨w.heap.size + 2, 4, none⟩) (u := .int .i64 ep) (show w.heap.size + 2 < w.heap.size + 3 by omega)) (p := ⟨w.heap.size + 2, 5, none⟩) (u := .string r) (show w.heap.size + 2 < w.heap.size + 3 by omega)) (p := ⟨w.heap.size + 2, 6, none⟩) (u := .string p) (show w.heap.size + 2 < w.heap.size + 3 by omega)) (p := ⟨w.heap.size + 2, 7, none⟩) (u := .int .i64 S.at_) (show w.heap.size + 2 < w.heap.size + 3 by omega)) (p := ⟨w.heap.size + 2, 8, none⟩) (u := .slice d4 S.op.length e4) (show w.heap.size + 2 < w.heap.size + 3 by omega)) (p := ⟨w.heap.size + 2, 9, none⟩) (u := .slice d5 S.sh.length e5) (show w.heap.size + 2 < w.heap.size + 3 by omega)) (p := ⟨w.heap.size + 2, 10, none⟩) (u := .slice d6 S.si.length e6) (show w.heap.size + 2 < w.heap.size + 3 by omega))
  have o69 := (own_below (own_below (own_below (own_below (own_below (own_below (own_below (own_below o6 (p := ⟨w.heap.size + 2, 3, none⟩) (u := .int .i64 hh) (show w.heap.size + 2 < w.heap.size + 3 by omega)) (p := ⟨w.heap.size + 2, 4, none⟩) (u := .int .i64 ep) (show w.heap.size + 2 < w.heap.size + 3 by omega)) (p := ⟨w.heap.size + 2, 5, none⟩) (u := .string r) (show w.heap.size + 2 < w.heap.size + 3 by omega)) (p := ⟨w.heap.size + 2, 6, none⟩) (u := .string p) (show w.heap.size + 2 < w.heap.size + 3 by omega)) (p := ⟨w.heap.size + 2, 7, none⟩) (u := .int .i64 S.at_) (show w.heap.size + 2 < w.heap.size + 3 by omega)) (p := ⟨w.heap.size + 2, 8, none⟩) (u := .slice d4 S.op.length e4) (show w.heap.size + 2 < w.heap.size + 3 by omega)) (p := ⟨w.heap.size + 2, 9, none⟩) (u := .slice d5 S.sh.length e5) (show w.heap.size + 2 < w.heap.size + 3 by omega)) (p := ⟨w.heap.size + 2, 10, none⟩) (u := .slice d6 S.si.length e6) (show w.heap.size + 2 < w.heap.size + 3 by omega))
  go_upto_region 5 with (fail)
  generalize (((((((V3.setCell ⟨(w.heap.size + 2), 3, none⟩ (.int .i64 hh)).setCell ⟨(w.heap.size + 2), 4, none⟩ (.int .i64 ep)).setCell ⟨(w.heap.size + 2), 5, none⟩ (.string r)).setCell ⟨(w.heap.size + 2), 6, none⟩ (.string p)).setCell ⟨(w.heap.size + 2), 7, none⟩ (.int .i64 S.at_)).setCell ⟨(w.heap.size + 2), 8, none⟩ (.slice d4 S.op.length e4)).setCell ⟨(w.heap.size + 2), 9, none⟩ (.slice d5 S.sh.length e5)).setCell ⟨(w.heap.size + 2), 10, none⟩ (.slice d6 S.si.length e6) = W3 at *
  clear z0 f0 z1 f1 z2 f2 z3 f3 z4 f4 z5 f5 z6 f6 z7 f7 z8 f8 z9 f9 z10 f10 z11 f11 P Q R X o1 o2 o3 o4 o5 o6
  have P := P9
  have Q := Q9
  have R := R9
  have X := X9
  have o1 := o19
  have o2 := o29
  have o3 := o39
  have o4 := o49
  have o5 := o59
  have o6 := o69
  clear P9 Q9 R9 X9 o19 o29 o39 o49 o59 o69
  simp only [List.set_cons_succ, List.set_cons_zero] at Q
  have p0 := P.2.1 0 _ rfl
  have p1 := P.2.1 1 _ rfl
  have p2 := P.2.1 2 _ rfl
  have p3 := P.2.1 3 _ rfl
  have p4 := P.2.1 4 _ rfl
  have p5 := P.2.1 5 _ rfl
  have p6 := P.2.1 6 _ rfl
  have p7 := P.2.1 7 _ rfl
  have p8 := P.2.1 8 _ rfl
  have p9 := P.2.1 9 _ rfl
  have p10 := P.2.1 10 _ rfl
  have p11 := P.2.1 11 _ rfl
  go_wp2_with fail
  clear p0 p1 p2 p3 p4 p5 p6 p7 p8 p9 p10 p11
  have lqw := Q.1
  refine (laws_toStampS _ xs _ (h7.ext X) n7 n8).mono ?_
  rintro e V4 ⟨ys, d7, e7, rfl, hpure, o7, x⟩
  have HPU := Lib.hid hpure
  clear hpure
  replace P := P.ext x
  replace R := R.ext x
  replace Q := Q.ext x
  replace X := X.trans x
  replace o1 := own_ext o1 x
  replace o2 := own_ext o2 x
  replace o3 := own_ext o3 x
  replace o4 := own_ext o4 x
  replace o5 := own_ext o5 x
  replace o6 := own_ext o6 x
  clear x
  replace o7 := o7.mono (show w.heap.size + 3 ≤ _ by omega)
  have lqv := Q.1
  have z0 := Q.2.1 0 _ rfl
  have z1 := Q.2.1 1 _ rfl
  have z2 := Q.2.1 2 _ rfl
  have z3 := Q.2.1 3 _ rfl
  have z4 := Q.2.1 4 _ rfl
  have z5 := Q.2.1 5 _ rfl
  have z6 := Q.2.1 6 _ rfl
  have z7 := Q.2.1 7 _ rfl
  have z8 := Q.2.1 8 _ rfl
  have z9 := Q.2.1 9 _ rfl
  have z10 := Q.2.1 10 _ rfl
  have z11 := Q.2.1 11 _ rfl
  have f0 := Q.2.2 0
  have f1 := Q.2.2 1
  have f2 := Q.2.2 2
  have f3 := Q.2.2 3
  have f4 := Q.2.2 4
  have f5 := Q.2.2 5
  have f6 := Q.2.2 6
  have f7 := Q.2.2 7
  have f8 := Q.2.2 8
  have f9 := Q.2.2 9
  have f10 := Q.2.2 10
  have f11 := Q.2.2 11
  have Q9 := (Q.set 11 (.slice d7 ys.length e7) (by simp))
  have P9 := (P.far (c := w.heap.size + 2) (by omega) 11 (.slice d7 ys.length e7))
  have R9 := (R.far (c := w.heap.size + 2) (by omega) 11 (.slice d7 ys.length e7))
  have X9 : Ext w (V4.setCell ⟨(w.heap.size + 2), 11, none⟩ (.slice d7 ys.length e7)) := (X.setCell (by dsimp only; omega) (.slice d7 ys.length e7))
  have o19 := (own_below o1 (p := ⟨w.heap.size + 2, 11, none⟩) (u := .slice d7 ys.length e7) (show w.heap.size + 2 < w.heap.size + 3 by omega))
  have o29 := (own_below o2 (p := ⟨w.heap.size + 2, 11, none⟩) (u := .slice d7 ys.length e7) (show w.heap.size + 2 < w.heap.size + 3 by omega))
  have o39 := (own_below o3 (p := ⟨w.heap.size + 2, 11, none⟩) (u := .slice d7 ys.length e7) (show w.heap.size + 2 < w.heap.size + 3 by omega))
  have o49 := (own_below o4 (p := ⟨w.heap.size + 2, 11, none⟩) (u := .slice d7 ys.length e7) (show w.heap.size + 2 < w.heap.size + 3 by omega))
  have o59 := (own_below o5 (p := ⟨w.heap.size + 2, 11, none⟩) (u := .slice d7 ys.length e7) (show w.heap.size + 2 < w.heap.size + 3 by omega))
  have o69 := (own_below o6 (p := ⟨w.heap.size + 2, 11, none⟩) (u := .slice d7 ys.length e7) (show w.heap.size + 2 < w.heap.size + 3 by omega))
  have o79 := (o7.set (b := w.heap.size + 2) (show w.heap.size + 2 < w.heap.size + 3 by omega) 11 (.slice d7 ys.length e7))
  go_upto_region 6 with (fail)
  generalize V4.setCell ⟨(w.heap.size + 2), 11, none⟩ (.slice d7 ys.length e7) = W4 at *
  clear z0 f0 z1 f1 z2 f2 z3 f3 z4 f4 z5 f5 z6 f6 z7 f7 z8 f8 z9 f9 z10 f10 z11 f11 P Q R X o1 o2 o3 o4 o5 o6 o7
  have P := P9
  have Q := Q9
  have R := R9
  have X := X9
  have o1 := o19
  have o2 := o29
  have o3 := o39
  have o4 := o49
  have o5 := o59
  have o6 := o69
  have o7 := o79
  clear P9 Q9 R9 X9 o19 o29 o39 o49 o59 o69 o79
  simp only [List.set_cons_succ, List.set_cons_zero] at Q
  have p0 := Q.2.1 0 _ rfl
  have p1 := Q.2.1 1 _ rfl
  have p2 := Q.2.1 2 _ rfl
  have p3 := Q.2.1 3 _ rfl
  have p4 := Q.2.1 4 _ rfl
  have p5 := Q.2.1 5 _ rfl
  have p6 := Q.2.1 6 _ rfl
  have p7 := Q.2.1 7 _ rfl
  have p8 := Q.2.1 8 _ rfl
  have p9 := Q.2.1 9 _ rfl
  have p10 := Q.2.1 10 _ rfl
  have p11 := Q.2.1 11 _ rfl
  have z0 := R.2.1 0 _ rfl
  have z1 := R.2.1 1 _ rfl
  have z2 := R.2.1 2 _ rfl
  have z3 := R.2.1 3 _ rfl
  have z4 := R.2.1 4 _ rfl
  have z5 := R.2.1 5 _ rfl
  have z6 := R.2.1 6 _ rfl
  have z7 := R.2.1 7 _ rfl
  have z8 := R.2.1 8 _ rfl
  have z9 := R.2.1 9 _ rfl
  have z10 := R.2.1 10 _ rfl
  have z11 := R.2.1 11 _ rfl
  have f0 := R.2.2 0
  have f1 := R.2.2 1
  have f2 := R.2.2 2
  have f3 := R.2.2 3
  have f4 := R.2.2 4
  have f5 := R.2.2 5
  have f6 := R.2.2 6
  have f7 := R.2.2 7
  have f8 := R.2.2 8
  have f9 := R.2.2 9
  have f10 := R.2.2 10
  have f11 := R.2.2 11
  have XF : Ext w ((((((((((((W4.setCell ⟨(w.heap.size + 1), 0, none⟩ (.slice d1 lv.length e1)).setCell ⟨(w.heap.size + 1), 1, none⟩ (.slice d2 ss.length e2)).setCell ⟨(w.heap.size + 1), 2, none⟩ (.slice d3 tops.length e3)).setCell ⟨(w.heap.size + 1), 3, none⟩ (.int .i64 hh)).setCell ⟨(w.heap.size + 1), 4, none⟩ (.int .i64 ep)).setCell ⟨(w.heap.size + 1), 5, none⟩ (.string r)).setCell ⟨(w.heap.size + 1), 6, none⟩ (.string p)).setCell ⟨(w.heap.size + 1), 7, none⟩ (.int .i64 S.at_)).setCell ⟨(w.heap.size + 1), 8, none⟩ (.slice d4 S.op.length e4)).setCell ⟨(w.heap.size + 1), 9, none⟩ (.slice d5 S.sh.length e5)).setCell ⟨(w.heap.size + 1), 10, none⟩ (.slice d6 S.si.length e6)).setCell ⟨(w.heap.size + 1), 11, none⟩ (.slice d7 ys.length e7)) := ((((((((((((X.setCell (by dsimp only; omega) _).setCell (by dsimp only; omega) _).setCell (by dsimp only; omega) _).setCell (by dsimp only; omega) _).setCell (by dsimp only; omega) _).setCell (by dsimp only; omega) _).setCell (by dsimp only; omega) _).setCell (by dsimp only; omega) _).setCell (by dsimp only; omega) _).setCell (by dsimp only; omega) _).setCell (by dsimp only; omega) _).setCell (by dsimp only; omega) _)
  have RF := ((((((((((((R.set 0 (.slice d1 lv.length e1) (by simp)).set 1 (.slice d2 ss.length e2) (by simp)).set 2 (.slice d3 tops.length e3) (by simp)).set 3 (.int .i64 hh) (by simp)).set 4 (.int .i64 ep) (by simp)).set 5 (.string r) (by simp)).set 6 (.string p) (by simp)).set 7 (.int .i64 S.at_) (by simp)).set 8 (.slice d4 S.op.length e4) (by simp)).set 9 (.slice d5 S.sh.length e5) (by simp)).set 10 (.slice d6 S.si.length e6) (by simp)).set 11 (.slice d7 ys.length e7) (by simp))
  have o1F := (own_below (own_below (own_below (own_below (own_below (own_below (own_below (own_below (own_below (own_below (own_below (own_below o1 (p := ⟨w.heap.size + 1, 0, none⟩) (u := .slice d1 lv.length e1) (show w.heap.size + 1 < w.heap.size + 3 by omega)) (p := ⟨w.heap.size + 1, 1, none⟩) (u := .slice d2 ss.length e2) (show w.heap.size + 1 < w.heap.size + 3 by omega)) (p := ⟨w.heap.size + 1, 2, none⟩) (u := .slice d3 tops.length e3) (show w.heap.size + 1 < w.heap.size + 3 by omega)) (p := ⟨w.heap.size + 1, 3, none⟩) (u := .int .i64 hh) (show w.heap.size + 1 < w.heap.size + 3 by omega)) (p := ⟨w.heap.size + 1, 4, none⟩) (u := .int .i64 ep) (show w.heap.size + 1 < w.heap.size + 3 by omega)) (p := ⟨w.heap.size + 1, 5, none⟩) (u := .string r) (show w.heap.size + 1 < w.heap.size + 3 by omega)) (p := ⟨w.heap.size + 1, 6, none⟩) (u := .string p) (show w.heap.size + 1 < w.heap.size + 3 by omega)) (p := ⟨w.heap.size + 1, 7, none⟩) (u := .int .i64 S.at_) (show w.heap.size + 1 < w.heap.size + 3 by omega)) (p := ⟨w.heap.size + 1, 8, none⟩) (u := .slice d4 S.op.length e4) (show w.heap.size + 1 < w.heap.size + 3 by omega)) (p := ⟨w.heap.size + 1, 9, none⟩) (u := .slice d5 S.sh.length e5) (show w.heap.size + 1 < w.heap.size + 3 by omega)) (p := ⟨w.heap.size + 1, 10, none⟩) (u := .slice d6 S.si.length e6) (show w.heap.size + 1 < w.heap.size + 3 by omega)) (p := ⟨w.heap.size + 1, 11, none⟩) (u := .slice d7 ys.length e7) (show w.heap.size + 1 < w.heap.size + 3 by omega))
  have o2F := (own_below (own_below (own_below (own_below (own_below (own_below (own_below (own_below (own_below (own_below (own_below (own_below o2 (p := ⟨w.heap.size + 1, 0, none⟩) (u := .slice d1 lv.length e1) (show w.heap.size + 1 < w.heap.size + 3 by omega)) (p := ⟨w.heap.size + 1, 1, none⟩) (u := .slice d2 ss.length e2) (show w.heap.size + 1 < w.heap.size + 3 by omega)) (p := ⟨w.heap.size + 1, 2, none⟩) (u := .slice d3 tops.length e3) (show w.heap.size + 1 < w.heap.size + 3 by omega)) (p := ⟨w.heap.size + 1, 3, none⟩) (u := .int .i64 hh) (show w.heap.size + 1 < w.heap.size + 3 by omega)) (p := ⟨w.heap.size + 1, 4, none⟩) (u := .int .i64 ep) (show w.heap.size + 1 < w.heap.size + 3 by omega)) (p := ⟨w.heap.size + 1, 5, none⟩) (u := .string r) (show w.heap.size + 1 < w.heap.size + 3 by omega)) (p := ⟨w.heap.size + 1, 6, none⟩) (u := .string p) (show w.heap.size + 1 < w.heap.size + 3 by omega)) (p := ⟨w.heap.size + 1, 7, none⟩) (u := .int .i64 S.at_) (show w.heap.size + 1 < w.heap.size + 3 by omega)) (p := ⟨w.heap.size + 1, 8, none⟩) (u := .slice d4 S.op.length e4) (show w.heap.size + 1 < w.heap.size + 3 by omega)) (p := ⟨w.heap.size + 1, 9, none⟩) (u := .slice d5 S.sh.length e5) (show w.heap.size + 1 < w.heap.size + 3 by omega)) (p := ⟨w.heap.size + 1, 10, none⟩) (u := .slice d6 S.si.length e6) (show w.heap.size + 1 < w.heap.size + 3 by omega)) (p := ⟨w.heap.size + 1, 11, none⟩) (u := .slice d7 ys.length e7) (show w.heap.size + 1 < w.heap.size + 3 by omega))
  have o3F := (own_below (own_below (own_below (own_below (own_below (own_below (own_below (own_below (own_below (own_below (own_below (own_below o3 (p := ⟨w.heap.size + 1, 0, none⟩) (u := .slice d1 lv.length e1) (show w.heap.size + 1 < w.heap.size + 3 by omega)) (p := ⟨w.heap.size + 1, 1, none⟩) (u := .slice d2 ss.length e2) (show w.heap.size + 1 < w.heap.size + 3 by omega)) (p := ⟨w.heap.size + 1, 2, none⟩) (u := .slice d3 tops.length e3) (show w.heap.size + 1 < w.heap.size + 3 by omega)) (p := ⟨w.heap.size + 1, 3, none⟩) (u := .int .i64 hh) (show w.heap.size + 1 < w.heap.size + 3 by omega)) (p := ⟨w.heap.size + 1, 4, none⟩) (u := .int .i64 ep) (show w.heap.size + 1 < w.heap.size + 3 by omega)) (p := ⟨w.heap.size + 1, 5, none⟩) (u := .string r) (show w.heap.size + 1 < w.heap.size + 3 by omega)) (p := ⟨w.heap.size + 1, 6, none⟩) (u := .string p) (show w.heap.size + 1 < w.heap.size + 3 by omega)) (p := ⟨w.heap.size + 1, 7, none⟩) (u := .int .i64 S.at_) (show w.heap.size + 1 < w.heap.size + 3 by omega)) (p := ⟨w.heap.size + 1, 8, none⟩) (u := .slice d4 S.op.length e4) (show w.heap.size + 1 < w.heap.size + 3 by omega)) (p := ⟨w.heap.size + 1, 9, none⟩) (u := .slice d5 S.sh.length e5) (show w.heap.size + 1 < w.heap.size + 3 by omega)) (p := ⟨w.heap.size + 1, 10, none⟩) (u := .slice d6 S.si.length e6) (show w.heap.size + 1 < w.heap.size + 3 by omega)) (p := ⟨w.heap.size + 1, 11, none⟩) (u := .slice d7 ys.length e7) (show w.heap.size + 1 < w.heap.size + 3 by omega))
  have o4F := (own_below (own_below (own_below (own_below (own_below (own_below (own_below (own_below (own_below (own_below (own_below (own_below o4 (p := ⟨w.heap.size + 1, 0, none⟩) (u := .slice d1 lv.length e1) (show w.heap.size + 1 < w.heap.size + 3 by omega)) (p := ⟨w.heap.size + 1, 1, none⟩) (u := .slice d2 ss.length e2) (show w.heap.size + 1 < w.heap.size + 3 by omega)) (p := ⟨w.heap.size + 1, 2, none⟩) (u := .slice d3 tops.length e3) (show w.heap.size + 1 < w.heap.size + 3 by omega)) (p := ⟨w.heap.size + 1, 3, none⟩) (u := .int .i64 hh) (show w.heap.size + 1 < w.heap.size + 3 by omega)) (p := ⟨w.heap.size + 1, 4, none⟩) (u := .int .i64 ep) (show w.heap.size + 1 < w.heap.size + 3 by omega)) (p := ⟨w.heap.size + 1, 5, none⟩) (u := .string r) (show w.heap.size + 1 < w.heap.size + 3 by omega)) (p := ⟨w.heap.size + 1, 6, none⟩) (u := .string p) (show w.heap.size + 1 < w.heap.size + 3 by omega)) (p := ⟨w.heap.size + 1, 7, none⟩) (u := .int .i64 S.at_) (show w.heap.size + 1 < w.heap.size + 3 by omega)) (p := ⟨w.heap.size + 1, 8, none⟩) (u := .slice d4 S.op.length e4) (show w.heap.size + 1 < w.heap.size + 3 by omega)) (p := ⟨w.heap.size + 1, 9, none⟩) (u := .slice d5 S.sh.length e5) (show w.heap.size + 1 < w.heap.size + 3 by omega)) (p := ⟨w.heap.size + 1, 10, none⟩) (u := .slice d6 S.si.length e6) (show w.heap.size + 1 < w.heap.size + 3 by omega)) (p := ⟨w.heap.size + 1, 11, none⟩) (u := .slice d7 ys.length e7) (show w.heap.size + 1 < w.heap.size + 3 by omega))
  have o5F := (own_below (own_below (own_below (own_below (own_below (own_below (own_below (own_below (own_below (own_below (own_below (own_below o5 (p := ⟨w.heap.size + 1, 0, none⟩) (u := .slice d1 lv.length e1) (show w.heap.size + 1 < w.heap.size + 3 by omega)) (p := ⟨w.heap.size + 1, 1, none⟩) (u := .slice d2 ss.length e2) (show w.heap.size + 1 < w.heap.size + 3 by omega)) (p := ⟨w.heap.size + 1, 2, none⟩) (u := .slice d3 tops.length e3) (show w.heap.size + 1 < w.heap.size + 3 by omega)) (p := ⟨w.heap.size + 1, 3, none⟩) (u := .int .i64 hh) (show w.heap.size + 1 < w.heap.size + 3 by omega)) (p := ⟨w.heap.size + 1, 4, none⟩) (u := .int .i64 ep) (show w.heap.size + 1 < w.heap.size + 3 by omega)) (p := ⟨w.heap.size + 1, 5, none⟩) (u := .string r) (show w.heap.size + 1 < w.heap.size + 3 by omega)) (p := ⟨w.heap.size + 1, 6, none⟩) (u := .string p) (show w.heap.size + 1 < w.heap.size + 3 by omega)) (p := ⟨w.heap.size + 1, 7, none⟩) (u := .int .i64 S.at_) (show w.heap.size + 1 < w.heap.size + 3 by omega)) (p := ⟨w.heap.size + 1, 8, none⟩) (u := .slice d4 S.op.length e4) (show w.heap.size + 1 < w.heap.size + 3 by omega)) (p := ⟨w.heap.size + 1, 9, none⟩) (u := .slice d5 S.sh.length e5) (show w.heap.size + 1 < w.heap.size + 3 by omega)) (p := ⟨w.heap.size + 1, 10, none⟩) (u := .slice d6 S.si.length e6) (show w.heap.size + 1 < w.heap.size + 3 by omega)) (p := ⟨w.heap.size + 1, 11, none⟩) (u := .slice d7 ys.length e7) (show w.heap.size + 1 < w.heap.size + 3 by omega))
  have o6F := (own_below (own_below (own_below (own_below (own_below (own_below (own_below (own_below (own_below (own_below (own_below (own_below o6 (p := ⟨w.heap.size + 1, 0, none⟩) (u := .slice d1 lv.length e1) (show w.heap.size + 1 < w.heap.size + 3 by omega)) (p := ⟨w.heap.size + 1, 1, none⟩) (u := .slice d2 ss.length e2) (show w.heap.size + 1 < w.heap.size + 3 by omega)) (p := ⟨w.heap.size + 1, 2, none⟩) (u := .slice d3 tops.length e3) (show w.heap.size + 1 < w.heap.size + 3 by omega)) (p := ⟨w.heap.size + 1, 3, none⟩) (u := .int .i64 hh) (show w.heap.size + 1 < w.heap.size + 3 by omega)) (p := ⟨w.heap.size + 1, 4, none⟩) (u := .int .i64 ep) (show w.heap.size + 1 < w.heap.size + 3 by omega)) (p := ⟨w.heap.size + 1, 5, none⟩) (u := .string r) (show w.heap.size + 1 < w.heap.size + 3 by omega)) (p := ⟨w.heap.size + 1, 6, none⟩) (u := .string p) (show w.heap.size + 1 < w.heap.size + 3 by omega)) (p := ⟨w.heap.size + 1, 7, none⟩) (u := .int .i64 S.at_) (show w.heap.size + 1 < w.heap.size + 3 by omega)) (p := ⟨w.heap.size + 1, 8, none⟩) (u := .slice d4 S.op.length e4) (show w.heap.size + 1 < w.heap.size + 3 by omega)) (p := ⟨w.heap.size + 1, 9, none⟩) (u := .slice d5 S.sh.length e5) (show w.heap.size + 1 < w.heap.size + 3 by omega)) (p := ⟨w.heap.size + 1, 10, none⟩) (u := .slice d6 S.si.length e6) (show w.heap.size + 1 < w.heap.size + 3 by omega)) (p := ⟨w.heap.size + 1, 11, none⟩) (u := .slice d7 ys.length e7) (show w.heap.size + 1 < w.heap.size + 3 by omega))
  have o7F := ((((((((((((o7.set (b := w.heap.size + 1) (show w.heap.size + 1 < w.heap.size + 3 by omega) 0 (.slice d1 lv.length e1)).set (b := w.heap.size + 1) (show w.heap.size + 1 < w.heap.size + 3 by omega) 1 (.slice d2 ss.length e2)).set (b := w.heap.size + 1) (show w.heap.size + 1 < w.heap.size + 3 by omega) 2 (.slice d3 tops.length e3)).set (b := w.heap.size + 1) (show w.heap.size + 1 < w.heap.size + 3 by omega) 3 (.int .i64 hh)).set (b := w.heap.size + 1) (show w.heap.size + 1 < w.heap.size + 3 by omega) 4 (.int .i64 ep)).set (b := w.heap.size + 1) (show w.heap.size + 1 < w.heap.size + 3 by omega) 5 (.string r)).set (b := w.heap.size + 1) (show w.heap.size + 1 < w.heap.size + 3 by omega) 6 (.string p)).set (b := w.heap.size + 1) (show w.heap.size + 1 < w.heap.size + 3 by omega) 7 (.int .i64 S.at_)).set (b := w.heap.size + 1) (show w.heap.size + 1 < w.heap.size + 3 by omega) 8 (.slice d4 S.op.length e4)).set (b := w.heap.size + 1) (show w.heap.size + 1 < w.heap.size + 3 by omega) 9 (.slice d5 S.sh.length e5)).set (b := w.heap.size + 1) (show w.heap.size + 1 < w.heap.size + 3 by omega) 10 (.slice d6 S.si.length e6)).set (b := w.heap.size + 1) (show w.heap.size + 1 < w.heap.size + 3 by omega) 11 (.slice d7 ys.length e7))
  go_wp2
  generalize (((((((((((W4.setCell ⟨(w.heap.size + 1), 0, none⟩ (.slice d1 lv.length e1)).setCell ⟨(w.heap.size + 1), 1, none⟩ (.slice d2 ss.length e2)).setCell ⟨(w.heap.size + 1), 2, none⟩ (.slice d3 tops.length e3)).setCell ⟨(w.heap.size + 1), 3, none⟩ (.int .i64 hh)).setCell ⟨(w.heap.size + 1), 4, none⟩ (.int .i64 ep)).setCell ⟨(w.heap.size + 1), 5, none⟩ (.string r)).setCell ⟨(w.heap.size + 1), 6, none⟩ (.string p)).setCell ⟨(w.heap.size + 1), 7, none⟩ (.int .i64 S.at_)).setCell ⟨(w.heap.size + 1), 8, none⟩ (.slice d4 S.op.length e4)).setCell ⟨(w.heap.size + 1), 9, none⟩ (.slice d5 S.sh.length e5)).setCell ⟨(w.heap.size + 1), 10, none⟩ (.slice d6 S.si.length e6)).setCell ⟨(w.heap.size + 1), 11, none⟩ (.slice d7 ys.length e7) = WF at *
  clear z0 f0 z1 f1 z2 f2 z3 f3 z4 f4 z5 f5 z6 f6 z7 f7 z8 f8 z9 f9 z10 f10 z11 f11
  have k0 := RF.2.1 0 _ rfl
  have k1 := RF.2.1 1 _ rfl
  have k2 := RF.2.1 2 _ rfl
  have k3 := RF.2.1 3 _ rfl
  have k4 := RF.2.1 4 _ rfl
  have k5 := RF.2.1 5 _ rfl
  have k6 := RF.2.1 6 _ rfl
  have k7 := RF.2.1 7 _ rfl
  have k8 := RF.2.1 8 _ rfl
  have k9 := RF.2.1 9 _ rfl
  have k10 := RF.2.1 10 _ rfl
  have k11 := RF.2.1 11 _ rfl
  refine bodyPost_ret (v := .agg #[.slice d1 lv.length e1, .slice d2 ss.length e2, .slice d3 tops.length e3, .int .i64 hh, .int .i64 ep, .string r, .string p, .int .i64 S.at_, .slice d4 S.op.length e4, .slice d5 S.sh.length e5, .slice d6 S.si.length e6, .slice d7 ys.length e7]) (by simp [results, Tryz.results9, go_sem, k0, k1, k2, k3, k4, k5, k6, k7, k8, k9, k10, k11]) rfl ?_
  exact ⟨d1, e1, d2, e2, d3, e3, d4, e4, d5, e5, d6, e6, ys, d7, e7, rfl, HPU.out, Row.of_owns o1F, Row.of_owns o2F, Row.of_owns o3F, Row.of_owns o4F, Row.of_owns o5F, Row.of_owns o6F, o7F.sts, XF⟩
set_option maxRecDepth 100000 in
set_option maxHeartbeats 3200000 in
theorem laws_eqWholeT (v1 v2 v3 v4 v5 v6 v7 u1 u2 u3 u4 u5 u6 u7 : Value) (lv : List Leaf) (ss tops : List ByteArray) (hh ep : Int) (r p : ByteArray) (S : SigV) (xs : List StW) (ys : List StW) (w : World) (h1 : Lvs w v1 lv) (h2 : Strs w v2 ss) (h3 : Strs w v3 tops) (h4 : Strs w v4 S.op) (h5 : Strs w v5 S.sh) (h6 : Strs w v6 S.si) (h7 : Sts w v7 xs) (g1 : Lvs w u1 lv) (g2 : Strs w u2 ss) (g3 : Strs w u3 tops) (g4 : Strs w u4 S.op) (g5 : Strs w u5 S.sh) (g6 : Strs w u6 S.si) (g7 : Sts w u7 ys) (hp : xs.map StW.pure = ys.map StW.pure) :
    Calls Tryz.prog 12 #[.agg #[v1, v2, v3, .int .i64 hh, .int .i64 ep, .string r, .string p, .int .i64 S.at_, v4, v5, v6, v7], .agg #[u1, u2, u3, .int .i64 hh, .int .i64 ep, .string r, .string p, .int .i64 S.at_, u4, u5, u6, u7]] w fun e w' => e = .returned (.bool true) ∧ Ext w w' := by
  obtain ⟨b1, c1, rfl⟩ := h1.form
  obtain ⟨b2, c2, rfl⟩ := h2.form
  obtain ⟨b3, c3, rfl⟩ := h3.form
  obtain ⟨b4, c4, rfl⟩ := h4.form
  obtain ⟨b5, c5, rfl⟩ := h5.form
  obtain ⟨b6, c6, rfl⟩ := h6.form
  obtain ⟨b7, c7, rfl⟩ := h7.form
  obtain ⟨d1, e1, rfl⟩ := g1.form
  obtain ⟨d2, e2, rfl⟩ := g2.form
  obtain ⟨d3, e3, rfl⟩ := g3.form
  obtain ⟨d4, e4, rfl⟩ := g4.form
  obtain ⟨d5, e5, rfl⟩ := g5.form
  obtain ⟨d6, e6, rfl⟩ := g6.form
  obtain ⟨d7, e7, rfl⟩ := g7.form
  go_enter Tryz.func12, Tryz.ntmps12
  go_wp2_with fail
  have P : Bx ((w.alloc (Obj.cells #[.slice b1 lv.length c1, .slice b2 ss.length c2, .slice b3 tops.length c3, .int .i64 hh, .int .i64 ep, .string r, .string p, .int .i64 S.at_, .slice b4 S.op.length c4, .slice b5 S.sh.length c5, .slice b6 S.si.length c6, .slice b7 xs.length c7] 52)).alloc (Obj.cells #[.slice d1 lv.length e1, .slice d2 ss.length e2, .slice d3 tops.length e3, .int .i64 hh, .int .i64 ep, .string r, .string p, .int .i64 S.at_, .slice d4 S.op.length e4, .slice d5 S.sh.length e5, .slice d6 S.si.length e6, .slice d7 ys.length e7] 52)) w.heap.size [.slice b1 lv.length c1, .slice b2 ss.length c2, .slice b3 tops.length c3, .int .i64 hh, .int .i64 ep, .string r, .string p, .int .i64 S.at_, .slice b4 S.op.length c4, .slice b5 S.sh.length c5, .slice b6 S.si.length c6, .slice b7 xs.length c7] := (Bx.new w _ _).ext ((Ext.refl _).alloc _)
  have Q : Bx ((w.alloc (Obj.cells #[.slice b1 lv.length c1, .slice b2 ss.length c2, .slice b3 tops.length c3, .int .i64 hh, .int .i64 ep, .string r, .string p, .int .i64 S.at_, .slice b4 S.op.length c4, .slice b5 S.sh.length c5, .slice b6 S.si.length c6, .slice b7 xs.length c7] 52)).alloc (Obj.cells #[.slice d1 lv.length e1, .slice d2 ss.length e2, .slice d3 tops.length e3, .int .i64 hh, .int .i64 ep, .string r, .string p, .int .i64 S.at_, .slice d4 S.op.length e4, .slice d5 S.sh.length e5, .slice d6 S.si.length e6, .slice d7 ys.length e7] 52)) (w.heap.size + 1) [.slice d1 lv.length e1, .slice d2 ss.length e2, .slice d3 tops.length e3, .int .i64 hh, .int .i64 ep, .string r, .string p, .int .i64 S.at_, .slice d4 S.op.length e4, .slice d5 S.sh.length e5, .slice d6 S.si.length e6, .slice d7 ys.length e7] := by
    have e := Bx.new (w.alloc (Obj.cells #[.slice b1 lv.length c1, .slice b2 ss.length c2, .slice b3 tops.length c3, .int .i64 hh, .int .i64 ep, .string r, .string p, .int .i64 S.at_, .slice b4 S.op.length c4, .slice b5 S.sh.length c5, .slice b6 S.si.length c6, .slice b7 xs.length c7] 52)) #[.slice d1 lv.length e1, .slice d2 ss.length e2, .slice d3 tops.length e3, .int .i64 hh, .int .i64 ep, .string r, .string p, .int .i64 S.at_, .slice d4 S.op.length e4, .slice d5 S.sh.length e5, .slice d6 S.si.length e6, .slice d7 ys.length e7] 52
    rw [World.size_alloc] at e
    exact e
  have X : Ext w ((w.alloc (Obj.cells #[.slice b1 lv.length c1, .slice b2 ss.length c2, .slice b3 tops.length c3, .int .i64 hh, .int .i64 ep, .string r, .string p, .int .i64 S.at_, .slice b4 S.op.length c4, .slice b5 S.sh.length c5, .slice b6 S.si.length c6, .slice b7 xs.length c7] 52)).alloc (Obj.cells #[.slice d1 lv.length e1, .slice d2 ss.length e2, .slice d3 tops.length e3, .int .i64 hh, .int .i64 ep, .string r, .string p, .int .i64 S.at_, .slice d4 S.op.length e4, .slice d5 S.sh.length e5, .slice d6 S.si.length e6, .slice d7 ys.length e7] 52)) := ((Ext.refl w).alloc _).alloc _
  generalize (w.alloc (Obj.cells #[.slice b1 lv.length c1, .slice b2 ss.length c2, .slice b3 tops.length c3, .int .i64 hh, .int .i64 ep, .string r, .string p, .int .i64 S.at_, .slice b4 S.op.length c4, .slice b5 S.sh.length c5, .slice b6 S.si.length c6, .slice b7 xs.length c7] 52)).alloc (Obj.cells #[.slice d1 lv.length e1, .slice d2 ss.length e2, .slice d3 tops.length e3, .int .i64 hh, .int .i64 ep, .string r, .string p, .int .i64 S.at_, .slice d4 S.op.length e4, .slice d5 S.sh.length e5, .slice d6 S.si.length e6, .slice d7 ys.length e7] 52) = W0 at *
  refine (laws_eqProof _ _ _ _ lv lv ss ss _ (h1.ext X) (h2.ext X) (g1.ext X) (g2.ext X)).mono ?_
  rw [show (decide (lv = lv) && decide (ss = ss)) = true by simp]
  rintro e w1 ⟨rfl, x1⟩
  replace P := P.ext x1
  replace Q := Q.ext x1
  replace X := X.trans x1
  have p0 := P.2.1 0 _ rfl
  have p1 := P.2.1 1 _ rfl
  have p2 := P.2.1 2 _ rfl
  have p3 := P.2.1 3 _ rfl
  have p4 := P.2.1 4 _ rfl
  have p5 := P.2.1 5 _ rfl
  have p6 := P.2.1 6 _ rfl
  have p7 := P.2.1 7 _ rfl
  have p8 := P.2.1 8 _ rfl
  have p9 := P.2.1 9 _ rfl
  have p10 := P.2.1 10 _ rfl
  have p11 := P.2.1 11 _ rfl
  have q0 := Q.2.1 0 _ rfl
  have q1 := Q.2.1 1 _ rfl
  have q2 := Q.2.1 2 _ rfl
  have q3 := Q.2.1 3 _ rfl
  have q4 := Q.2.1 4 _ rfl
  have q5 := Q.2.1 5 _ rfl
  have q6 := Q.2.1 6 _ rfl
  have q7 := Q.2.1 7 _ rfl
  have q8 := Q.2.1 8 _ rfl
  have q9 := Q.2.1 9 _ rfl
  have q10 := Q.2.1 10 _ rfl
  have q11 := Q.2.1 11 _ rfl
  go_wp2_with fail
  clear p0 q0 p1 q1 p2 q2 p3 q3 p4 q4 p5 q5 p6 q6 p7 q7 p8 q8 p9 q9 p10 q10 p11 q11
  refine (laws_eqStringS _ _ tops tops _ (h3.ext X) (g3.ext X)).mono ?_
  rw [show decide (tops = tops) = true by simp]
  rintro e w2 ⟨rfl, x2⟩
  replace P := P.ext x2
  replace Q := Q.ext x2
  replace X := X.trans x2
  have p0 := P.2.1 0 _ rfl
  have p1 := P.2.1 1 _ rfl
  have p2 := P.2.1 2 _ rfl
  have p3 := P.2.1 3 _ rfl
  have p4 := P.2.1 4 _ rfl
  have p5 := P.2.1 5 _ rfl
  have p6 := P.2.1 6 _ rfl
  have p7 := P.2.1 7 _ rfl
  have p8 := P.2.1 8 _ rfl
  have p9 := P.2.1 9 _ rfl
  have p10 := P.2.1 10 _ rfl
  have p11 := P.2.1 11 _ rfl
  have q0 := Q.2.1 0 _ rfl
  have q1 := Q.2.1 1 _ rfl
  have q2 := Q.2.1 2 _ rfl
  have q3 := Q.2.1 3 _ rfl
  have q4 := Q.2.1 4 _ rfl
  have q5 := Q.2.1 5 _ rfl
  have q6 := Q.2.1 6 _ rfl
  have q7 := Q.2.1 7 _ rfl
  have q8 := Q.2.1 8 _ rfl
  have q9 := Q.2.1 9 _ rfl
  have q10 := Q.2.1 10 _ rfl
  have q11 := Q.2.1 11 _ rfl
  go_wp2_with fail
  clear p0 q0 p1 q1 p2 q2 p3 q3 p4 q4 p5 q5 p6 q6 p7 q7 p8 q8 p9 q9 p10 q10 p11 q11
  refine (laws_eqSealT hh ep r p _ _ _ _ _ _ S _ (h4.ext X) (h5.ext X) (h6.ext X) (g4.ext X) (g5.ext X) (g6.ext X)).mono ?_
  skip
  rintro e w3 ⟨rfl, x3⟩
  replace P := P.ext x3
  replace Q := Q.ext x3
  replace X := X.trans x3
  have p0 := P.2.1 0 _ rfl
  have p1 := P.2.1 1 _ rfl
  have p2 := P.2.1 2 _ rfl
  have p3 := P.2.1 3 _ rfl
  have p4 := P.2.1 4 _ rfl
  have p5 := P.2.1 5 _ rfl
  have p6 := P.2.1 6 _ rfl
  have p7 := P.2.1 7 _ rfl
  have p8 := P.2.1 8 _ rfl
  have p9 := P.2.1 9 _ rfl
  have p10 := P.2.1 10 _ rfl
  have p11 := P.2.1 11 _ rfl
  have q0 := Q.2.1 0 _ rfl
  have q1 := Q.2.1 1 _ rfl
  have q2 := Q.2.1 2 _ rfl
  have q3 := Q.2.1 3 _ rfl
  have q4 := Q.2.1 4 _ rfl
  have q5 := Q.2.1 5 _ rfl
  have q6 := Q.2.1 6 _ rfl
  have q7 := Q.2.1 7 _ rfl
  have q8 := Q.2.1 8 _ rfl
  have q9 := Q.2.1 9 _ rfl
  have q10 := Q.2.1 10 _ rfl
  have q11 := Q.2.1 11 _ rfl
  go_wp2_with fail
  clear p0 q0 p1 q1 p2 q2 p3 q3 p4 q4 p5 q5 p6 q6 p7 q7 p8 q8 p9 q9 p10 q10 p11 q11
  refine (laws_eqStampST _ _ xs ys _ (h7.ext X) (g7.ext X) hp).mono ?_
  skip
  rintro e w4 ⟨rfl, x4⟩
  replace P := P.ext x4
  replace Q := Q.ext x4
  replace X := X.trans x4
  go_wp2
  go_ret
  exact ⟨rfl, X⟩
end Go.Proofs.YtckipgijfgeghaaGreatDoor
