/- The texts of a proof and its hash; the laws on ProofTexts and ProofHash. -/
import Derived.Test.YtckipgijfgeghaaGreatDoorPOk
import Derived.Test.YtckipgijfgeghaaGreatDoorBktA
import Derived.Test.YtckipgijfgeghaaGreatDoorFold
import Derived.Test.YtckipgijfgeghaaGreatDoorHashA
namespace Go.Proofs.YtckipgijfgeghaaGreatDoor
open Go.RowKit

theorem proofOk_parts {n : ByteArray} {xs : List Leaf} {ss : List ByteArray} {wd : Int} (h : proofOk n xs ss wd = true) : nameOk n = true ∧ leavesOk xs = true ∧ ss.length ≤ 8 ∧ inB wd 1 32 = true ∧ wide ss wd = true := by
  rw [proofOk, Bool.and_eq_true, Bool.and_eq_true] at h
  obtain ⟨h1, h2, -⟩ := h
  simp only [proofWell, Bool.and_eq_true, decide_eq_true_eq] at h2
  exact ⟨h1, h2.1, h2.2.1, h2.2.2.1, h2.2.2.2⟩
theorem foldSt_32 (h : ByteArray) (i l wd : Int) (ss : List ByteArray) (hh : h.size ≤ 32) : ∀ k, (foldSt h i l wd ss k).size ≤ 32
  | 0 => hh
  | _ + 1 => tagH_le _ _ _
theorem pair_well {b : Int} {h s : ByteArray} (hh : h.size ≤ 32) (hs : s.size ≤ 32) : tagWell 3 (pairOf b h s) = true := by
  refine tag_yes (by decide) ?_ ?_
  · unfold pairOf; split <;> simp
  · intro p hp
    unfold pairOf at hp
    split at hp <;> simp only [List.mem_cons, List.not_mem_nil, or_false] at hp <;> rcases hp with rfl | rfl <;> omega
/-- the texts of a proof, up to step k -/
def prUp (n : ByteArray) (xs : List Leaf) (ss : List ByteArray) (wd : Int) (k : Nat) : List ByteArray := bucketT xs :: foldTxs (cutT (bucketT xs) wd) (idxT n) 8 wd ss k
theorem prUp_len (n xs ss wd) (k : Nat) : (prUp n xs ss wd k).length = k + 1 := by simp [prUp, foldTxs_len]
theorem prUp_succ (n xs ss wd) (k : Nat) : prUp n xs ss wd (k + 1) = prUp n xs ss wd k ++ [foldTx (cutT (bucketT xs) wd) (idxT n) 8 wd ss k] := by rw [prUp, foldTxs_succ]; rfl
theorem getD_fit {ss : List ByteArray} {m : Nat} (h : ∀ s ∈ ss, s.size ≤ m) (k : Nat) : (ss.getD k ⟨#[]⟩).size ≤ m := by
  rw [List.getD_eq_getElem?_getD]
  cases e : ss[k]? with
  | none => exact Nat.zero_le _
  | some s => exact h s (List.mem_of_getElem? e)
theorem prUp_last (n : ByteArray) (xs : List Leaf) (ss : List ByteArray) (wd : Int) (h : ∀ s ∈ ss, s.size ≤ 32) (k : Nat) : cutT ((prUp n xs ss wd k).getD k ⟨#[]⟩) wd = foldSt (cutT (bucketT xs) wd) (idxT n) 8 wd ss k := by
  cases k with
  | zero => rfl
  | succ k =>
    have e : (prUp n xs ss wd (k + 1)).getD (k + 1) ⟨#[]⟩ = foldTx (cutT (bucketT xs) wd) (idxT n) 8 wd ss k := by
      rw [prUp_succ, List.getD_eq_getElem?_getD, List.getElem?_append_right (by rw [prUp_len]; omega), prUp_len]
      simp
    have hw := pair_well (b := bitT (idxT n) (8 - 1 - k)) (foldSt_32 (cutT (bucketT xs) wd) (idxT n) 8 wd ss (cutT_le _ _) k) (getD_fit h k)
    rw [e, foldSt, tagH, if_pos hw]
    rfl
theorem prUp_fit (n : ByteArray) (xs : List Leaf) (ss : List ByteArray) (wd : Int) (k : Nat) : ∀ s ∈ prUp n xs ss wd k, s.size ≤ 1073741824 := by
  intro s hs
  rw [prUp, List.mem_cons, foldTxs, List.mem_map] at hs
  rcases hs with rfl | ⟨j, -, rfl⟩
  · exact tagTx_size _ _
  · exact tagTx_size _ _
def prTexts (n : ByteArray) (xs : List Leaf) (ss : List ByteArray) (wd : Int) : List ByteArray := if proofOk n xs ss wd = true then prUp n xs ss wd ss.length else []
theorem prTexts_no {n xs ss wd} (h : proofOk n xs ss wd = false) : prTexts n xs ss wd = [] := by rw [prTexts, h]; rfl
theorem prTexts_yes {n xs ss wd} (h : proofOk n xs ss wd = true) : prTexts n xs ss wd = prUp n xs ss wd ss.length := by rw [prTexts, if_pos h]
theorem prTexts_fit (n : ByteArray) (xs : List Leaf) (ss : List ByteArray) (wd : Int) : ∀ s ∈ prTexts n xs ss wd, s.size ≤ 1073741824 := by
  unfold prTexts
  split
  · exact prUp_fit _ _ _ _ _
  · intro s hs; cases hs
/-- how many there are -/
theorem prTexts_len (n : ByteArray) (xs : List Leaf) (ss : List ByteArray) (wd : Int) : (prTexts n xs ss wd).length ≤ 9 := by
  cases h : proofOk n xs ss wd
  · rw [prTexts_no h]; exact Nat.zero_le _
  · rw [prTexts_yes h, prUp_len]
    have := (proofOk_parts h).2.2.1
    omega
/-- the hash to which a proof leads -/
def prHash (n : ByteArray) (xs : List Leaf) (ss : List ByteArray) (wd : Int) : ByteArray := if (prTexts n xs ss wd).length = 0 then ⟨#[]⟩ else cutT ((prTexts n xs ss wd).getD ((prTexts n xs ss wd).length - 1) ⟨#[]⟩) wd
theorem prUp_at (n : ByteArray) (xs : List Leaf) (ss : List ByteArray) (wd : Int) (k : Nat) : ((prUp n xs ss wd k).map Value.string)[k]? = some (.string ((prUp n xs ss wd k).getD k ⟨#[]⟩)) := by
  have hl : k < (prUp n xs ss wd k).length := by rw [prUp_len]; omega
  rw [List.getElem?_map, List.getD_eq_getElem?_getD, List.getElem?_eq_getElem hl]
  rfl
theorem prUp_fitAt (n : ByteArray) (xs : List Leaf) (ss : List ByteArray) (wd : Int) (k : Nat) : ((prUp n xs ss wd k).getD k ⟨#[]⟩).size ≤ 1073741824 := getD_fit (prUp_fit n xs ss wd k) k
theorem own_forms {w : World} {base : Nat} {e : TypeId} {size n : Nat} {v : Value} {xs : List Value} (h : w.ownsRow base e size v n xs) : (v = .slice none 0 0 ∧ n = 0) ∨ ∃ g cap, v = .slice (some ⟨g, 0, none⟩) n cap := by
  rcases h.2 with ⟨h1, h2⟩ | ⟨g, cap, -, hv, -⟩
  · exact Or.inl ⟨h1, h2⟩
  · exact Or.inr ⟨g, cap, hv⟩
theorem own_cells {w : World} {base : Nat} {e : TypeId} {n g cap : Nat} {xs : List Value} (h : w.ownsRow base e 1 (.slice (some ⟨g, 0, none⟩) n cap) n xs) : ∀ j u, xs[j]? = some u → w.cell? ((⟨g, 0, none⟩ : Addr).add j) = some u := by
  intro j u hu
  have hj : j < xs.length := (List.getElem?_eq_some_iff.1 hu).1
  have hl := h.1
  have e := World.ownsRow.cellAt (g := g) h j (by omega)
  rw [show (⟨g, 0, none⟩ : Addr).add j = ⟨g, j, none⟩ by simp [Addr.add]; exact fun h => h.symm, e]
  exact hu

set_option maxRecDepth 100000 in
set_option maxHeartbeats 1600000 in
theorem spec_ProofTexts (n : ByteArray) (v u : Value) (xs : List Leaf) (ss : List ByteArray) (wd : Int) (w : World) (hn : n.size ≤ maxLen) (h : Lvs w v xs) (hf : LeafFit xs) (hu : Strs w u ss) (hs : ∀ s ∈ ss, s.size ≤ maxLen) :
    Calls Tryz.prog 65 #[.string n, .agg #[v, u], .int .i64 wd] w fun e w' => ∃ a c, e = .returned (.slice a (prTexts n xs ss wd).length c) ∧ OwnStrs w' w.heap.size (.slice a (prTexts n xs ss wd).length c) (prTexts n xs ss wd) ∧ Ext w w' := by
  obtain ⟨a, c, rfl⟩ := h.form
  obtain ⟨b, d, hv2⟩ := hu.form
  cases hk : proofOk n xs ss wd
  · subst hv2
    have HK := Lib.hid hk
    have R := Lib.hid (prTexts_no hk)
    clear hk
    go_enter Tryz.func65, Tryz.ntmps65
    go_wp2_with (go_at_call 57; refine (spec_ProofOk n _ _ xs ss wd _ hn (h.ext (by repeat (first | (with_reducible first | exact Ext.refl _ | assumption | apply Ext.alloc | apply Ext.drew | apply Ext.drewN | refine Ext.setCell ?_ ?_ _ | refine Ext.trans ?_ (by assumption)) | (show _ ≤ _; first | omega | (dsimp only; omega) | (simp; done) | (simp; omega))))) hf (hu.ext (by repeat (first | (with_reducible first | exact Ext.refl _ | assumption | apply Ext.alloc | apply Ext.drew | apply Ext.drewN | refine Ext.setCell ?_ ?_ _ | refine Ext.trans ?_ (by assumption)) | (show _ ≤ _; first | omega | (dsimp only; omega) | (simp; done) | (simp; omega))))) hs).mono ?_; rw [HK.out]; rintro e w1 ⟨rfl, x1⟩)
    go_ret
    have l1 := Ext.size (show Ext w w1 from (by repeat (first | (with_reducible first | exact Ext.refl _ | assumption | apply Ext.alloc | apply Ext.drew | apply Ext.drewN | refine Ext.setCell ?_ ?_ _ | refine Ext.trans ?_ (by assumption)) | (show _ ≤ _; first | omega | (dsimp only; omega) | (simp; done) | (simp; omega)))))
    exact ⟨_, _, by rw [R.out]; rfl, by rw [R.out]; exact World.ownsRow_lit w1 #[] 0 l1 (Nat.zero_le _) rfl, (by repeat (first | (with_reducible first | exact Ext.refl _ | assumption | apply Ext.alloc | apply Ext.drew | apply Ext.drewN | refine Ext.setCell ?_ ?_ _ | refine Ext.trans ?_ (by assumption)) | (show _ ≤ _; first | omega | (dsimp only; omega) | (simp; done) | (simp; omega))))⟩
  · have R := Lib.hid (prTexts_yes hk)
    obtain ⟨k1, k2, k3, k4, k5⟩ := proofOk_parts hk
    have hfit := wide_fit k4 k5
    have hnsz : n.size ≤ 1073741824 := by have := nameOk_size k1; omega
    have HK := Lib.hid hk
    have HF := Lib.hid hfit
    have HL := Lib.hid (show bucketTx xs = bucketT xs by rw [bucketTx, if_pos k2])
    have HO := Lib.hid k2
    obtain ⟨i0, hi, hz0, hz1, hz2⟩ := info_parts infoString
    obtain ⟨-, a1, c1, hv, hc1, hm1, g1⟩ := id hu
    have hz : (bucketT xs).size ≤ 1073741824 := tagTx_size _ _
    subst hv2
    injection hv with e1 e2 e3
    subst e1 e3
    clear hk k1 k2 k4 k5 e2 hfit
    go_enter Tryz.func65, Tryz.ntmps65
    go_wp2_with fail
    refine (spec_ProofOk n _ _ xs ss wd _ hn (h.ext (by repeat (first | (with_reducible first | exact Ext.refl _ | assumption | apply Ext.alloc | apply Ext.drew | apply Ext.drewN | refine Ext.setCell ?_ ?_ _ | refine Ext.trans ?_ (by assumption)) | (show _ ≤ _; first | omega | (dsimp only; omega) | (simp; done) | (simp; omega))))) hf (hu.ext (by repeat (first | (with_reducible first | exact Ext.refl _ | assumption | apply Ext.alloc | apply Ext.drew | apply Ext.drewN | refine Ext.setCell ?_ ?_ _ | refine Ext.trans ?_ (by assumption)) | (show _ ≤ _; first | omega | (dsimp only; omega) | (simp; done) | (simp; omega))))) hs).mono ?_
    rw [HK.out]
    rintro e w1 ⟨rfl, x1⟩
    have E_x1 := Old.of x1; (repeat (first | (replace E_x1 := Old.undrew E_x1) | (replace E_x1 := Old.undrewN E_x1))); have c_E_x1 := Old.cell E_x1; have f_E_x1 := Old.frozen E_x1; have z_E_x1 := Old.size E_x1; try simp only [World.size_alloc] at c_E_x1 f_E_x1 z_E_x1; try have l_E_x1 := Nat.lt_of_succ_le z_E_x1; try have m_E_x1 := Nat.lt_of_succ_lt l_E_x1; try have n_E_x1 := Nat.lt_of_succ_lt m_E_x1
    have q0 := c_E_x1 (w.heap.size) 0 (by omega); simp [go_sem] at q0; have q1 := c_E_x1 (w.heap.size) 1 (by omega); simp [go_sem] at q1
    go_wp2_with fail
    refine (spec_IndexOf n _ hnsz).mono ?_
    rintro e w2 ⟨rfl, x2⟩
    have y2 : Ext w1 w2 := (by repeat (first | (with_reducible first | exact Ext.refl _ | assumption | apply Ext.alloc | apply Ext.drew | apply Ext.drewN | refine Ext.setCell ?_ ?_ _ | refine Ext.trans ?_ (by assumption)) | (show _ ≤ _; first | omega | (dsimp only; omega) | (simp; done) | (simp; omega))))
    have r0 := (y2.cell _ _ l_E_x1).trans q0
    go_wp2_with fail
    refine (spec_BucketText _ xs _ (h.ext (by repeat (first | (with_reducible first | exact Ext.refl _ | assumption | apply Ext.alloc | apply Ext.drew | apply Ext.drewN | refine Ext.setCell ?_ ?_ _ | refine Ext.trans ?_ (by assumption)) | (show _ ≤ _; first | omega | (dsimp only; omega) | (simp; done) | (simp; omega))))) hf).mono ?_
    rw [HL.out, HO.out]
    rintro e w3 ⟨rfl, x3⟩
    have y3 : Ext w1 w3 := (by repeat (first | (with_reducible first | exact Ext.refl _ | assumption | apply Ext.alloc | apply Ext.drew | apply Ext.drewN | refine Ext.setCell ?_ ?_ _ | refine Ext.trans ?_ (by assumption)) | (show _ ≤ _; first | omega | (dsimp only; omega) | (simp; done) | (simp; omega))))
    have z3 : Ext w w3 := (by repeat (first | (with_reducible first | exact Ext.refl _ | assumption | apply Ext.alloc | apply Ext.drew | apply Ext.drewN | refine Ext.setCell ?_ ?_ _ | refine Ext.trans ?_ (by assumption)) | (show _ ≤ _; first | omega | (dsimp only; omega) | (simp; done) | (simp; omega))))
    have ll := l_E_x1
    have lw3 := z3.size
    clear c_E_x1 f_E_x1 r0
    generalize hB : bucketT xs = B at *
    have HB := Lib.hid hB
    clear hB
    go_wp2
    go_loopw [10, 11] (fun o i wr => ∃ k : Nat, k ≤ ss.length ∧ i = .int .i64 k ∧ wr.ownsRow w1.heap.size 9 1 o (k + 1) ((prUp n xs ss wd k).map Value.string) ∧ Ext w1 wr) (fun _ i _ => ss.length - (intOf i).toNat)
    case atStart =>
      refine ⟨0, Nat.zero_le _, rfl, ?_, (by repeat (first | (with_reducible first | exact Ext.refl _ | assumption | apply Ext.alloc | apply Ext.drew | apply Ext.drewN | refine Ext.setCell ?_ ?_ _ | refine Ext.trans ?_ (by assumption)) | (show _ ≤ _; first | omega | (dsimp only; omega) | (simp; done) | (simp; omega))))⟩
      have e := World.ownsRow_lit (base := w1.heap.size) (e := 9) (size := 1) w3 #[Value.string B] 1 y3.size (by decide) rfl
      have hp : (prUp n xs ss wd 0).map Value.string = [Value.string B] := by simp [prUp, foldTxs, HB.out]
      rw [hp]
      exact e
    case round =>
      obtain ⟨k, hk, rfl, own, hx⟩ := hrel
      obtain ⟨g, cap, rfl⟩ := own_form own (by omega)
      have p1 : wr.cell? ⟨w.heap.size, 1, none⟩ = some (.slice b ss.length d) := (hx.cell _ _ ll).trans q1
      by_cases hlt : k < ss.length
      · rcases g1 with g1 | ⟨b1, o1, rfl, hb1, g1⟩
        · omega
        have xw : Ext w wr := (by repeat (first | (with_reducible first | exact Ext.refl _ | assumption | apply Ext.alloc | apply Ext.drew | apply Ext.drewN | refine Ext.setCell ?_ ?_ _ | refine Ext.trans ?_ (by assumption)) | (show _ ≤ _; first | omega | (dsimp only; omega) | (simp; done) | (simp; omega))))
        have lb : b1 < wr.heap.size := Nat.lt_of_lt_of_le hb1 xw.size
        have lx : w.heap.size < wr.heap.size := Nat.lt_of_lt_of_le ll hx.size
        have f1 : wr.cell? ⟨b1, o1 + k, none⟩ = some (.string (ss.getD k ⟨#[]⟩)) := (xw.cell b1 _ hb1).trans (g1 k _ (by simp [hlt, List.getD_eq_getElem?_getD]))
        have f2 : wr.cell? ⟨g, k, none⟩ = some (.string ((prUp n xs ss wd k).getD k ⟨#[]⟩)) := (World.ownsRow.cellAt (g := g) own k (by omega)).trans (prUp_at n xs ss wd k)
        have hL := prUp_fitAt n xs ss wd k
        have HC := Lib.hid (prUp_last n xs ss wd HF.out k)
        have HS := Lib.hid (prUp_succ n xs ss wd k)
        have hz1 := foldSt_32 (cutT (bucketT xs) wd) (idxT n) 8 wd ss (cutT_le _ _) k
        have hz2 := getD_fit HF.out k
        have HT := Lib.hid (show foldTx (cutT (bucketT xs) wd) (idxT n) 8 wd ss k = tagTx 3 (pairOf (bitT (idxT n) (7 - k)) (foldSt (cutT (bucketT xs) wd) (idxT n) 8 wd ss k) (ss.getD k ⟨#[]⟩)) by rw [foldTx, show (8 : Int) - 1 - k = 7 - k by omega])
        have HO2 := Lib.hid own
        have i1 : (k : Int) < (k : Int) + 1 := by omega
        clear own g1
        generalize (prUp n xs ss wd k).getD k ⟨#[]⟩ = L at *
        generalize foldSt (cutT (bucketT xs) wd) (idxT n) 8 wd ss k = H at *
        generalize ss.getD k ⟨#[]⟩ = s at *
        have hw7 : IntKind.i64.wrap (7 - (k : Int)) = 7 - (k : Int) := IntWalk.i64_in _ (by omega)
        go_wp2_with fail
        refine (spec_CutDigest L wd _ hL).mono ?_
        rw [HC.out]
        rintro e w4 ⟨rfl, x4⟩
        have y4 : Ext wr w4 := (by repeat (first | (with_reducible first | exact Ext.refl _ | assumption | apply Ext.alloc | apply Ext.drew | apply Ext.drewN | refine Ext.setCell ?_ ?_ _ | refine Ext.trans ?_ (by assumption)) | (show _ ≤ _; first | omega | (dsimp only; omega) | (simp; done) | (simp; omega))))
        have p4 := (y4.cell _ _ lx).trans p1
        have f4 := (y4.cell _ _ lb).trans f1
        have l4 : w.heap.size < w4.heap.size := Nat.lt_of_lt_of_le lx y4.size
        have lb4 : b1 < w4.heap.size := Nat.lt_of_lt_of_le lb y4.size
        rcases bitT_01 (idxT n) (7 - k) with hb | hb
        · have P := Lib.hid (fun W B => strs_pair0 W B H s (bitT (idxT n) (7 - k)) 9 (by rw [hb]; decide))
          have F := Lib.hid (fit_pair (b := bitT (idxT n) (7 - k)) (le_max hz1 (by omega)) (le_max hz2 (by omega)))
          have HB2 := Lib.hid hb
          clear hb hz1 hz2
          go_wp2_with fail
          refine (spec_BitOf _ _ _).mono ?_
          rw [HB2.out]
          rintro e w' ⟨rfl, rfl⟩
          go_wp2_with fail
          refine (spec_TagText 3 _ (pairOf (bitT (idxT n) (7 - k)) H s) _ (by exact P.out _ _ (by simp)) F.out).mono ?_
          rintro e w5 ⟨rfl, x5⟩
          have y5 : Ext wr w5 := (by repeat (first | (with_reducible first | exact Ext.refl _ | assumption | apply Ext.alloc | apply Ext.drew | apply Ext.drewN | refine Ext.setCell ?_ ?_ _ | refine Ext.trans ?_ (by assumption)) | (show _ ≤ _; first | omega | (dsimp only; omega) | (simp; done) | (simp; omega))))
          have own5 := own_ext HO2.out y5
          have l5 := y5.size
          have xs5 := hx.size
          generalize tagTx 3 (pairOf (bitT (idxT n) (7 - k)) H s) = T at *
          go_wp2_with (at_builtin; refine wpList_append_own _ rfl (.tmp 69) (.tmp 71) 22 rfl w1.heap.size 9 i0 (.string ⟨#[]⟩) 1 16 Tryz.underlying22 hi hz0 hz1 hz2 rfl (by decide) _ _ _ rfl (own5.alloc _) ⟨w5.heap.size, 0, none⟩ 1 1 [.string T] rfl rfl ?c1 ?c2 ?c3 ?c4 ?c5 ?_)
          case c1 => exact news1 _ _ _
          case c2 => exact fun u hu => by rw [List.mem_singleton] at hu; rw [hu]; rfl
          case c3 => unfold maxLen; omega
          case c4 => omega
          case c5 => simp; omega
          intro v' w6 own6 hgrow _
          have hx6 : Ext w1 w6 := own_ext_of ((hx.trans y5).alloc _) (own5.alloc _) hgrow (Nat.le_refl _)
          have HO3 := Lib.hid own6
          clear own6 own5 hgrow
          obtain ⟨a', c', rfl⟩ := own_any HO3.out
          go_wp2
          go_roundw
          case rel => exact ⟨k + 1, by omega, by go_num, by rw [HS.out, HT.out, List.map_append]; exact HO3.out, hx6⟩
          case measure => simp [intOf]; omega
        · have P := Lib.hid (fun W B => strs_pair1 W B H s (bitT (idxT n) (7 - k)) 9 hb)
          have F := Lib.hid (fit_pair (b := bitT (idxT n) (7 - k)) (le_max hz1 (by omega)) (le_max hz2 (by omega)))
          have HB2 := Lib.hid hb
          clear hb hz1 hz2
          go_wp2_with fail
          refine (spec_BitOf _ _ _).mono ?_
          rw [HB2.out]
          rintro e w' ⟨rfl, rfl⟩
          go_wp2_with fail
          refine (spec_TagText 3 _ (pairOf (bitT (idxT n) (7 - k)) H s) _ (by exact P.out _ _ (by simp)) F.out).mono ?_
          rintro e w5 ⟨rfl, x5⟩
          have y5 : Ext wr w5 := (by repeat (first | (with_reducible first | exact Ext.refl _ | assumption | apply Ext.alloc | apply Ext.drew | apply Ext.drewN | refine Ext.setCell ?_ ?_ _ | refine Ext.trans ?_ (by assumption)) | (show _ ≤ _; first | omega | (dsimp only; omega) | (simp; done) | (simp; omega))))
          have own5 := own_ext HO2.out y5
          have l5 := y5.size
          have xs5 := hx.size
          generalize tagTx 3 (pairOf (bitT (idxT n) (7 - k)) H s) = T at *
          go_wp2_with (at_builtin; refine wpList_append_own _ rfl (.tmp 69) (.tmp 71) 22 rfl w1.heap.size 9 i0 (.string ⟨#[]⟩) 1 16 Tryz.underlying22 hi hz0 hz1 hz2 rfl (by decide) _ _ _ rfl (own5.alloc _) ⟨w5.heap.size, 0, none⟩ 1 1 [.string T] rfl rfl ?c1 ?c2 ?c3 ?c4 ?c5 ?_)
          case c1 => exact news1 _ _ _
          case c2 => exact fun u hu => by rw [List.mem_singleton] at hu; rw [hu]; rfl
          case c3 => unfold maxLen; omega
          case c4 => omega
          case c5 => simp; omega
          intro v' w6 own6 hgrow _
          have hx6 : Ext w1 w6 := own_ext_of ((hx.trans y5).alloc _) (own5.alloc _) hgrow (Nat.le_refl _)
          have HO3 := Lib.hid own6
          clear own6 own5 hgrow
          obtain ⟨a', c', rfl⟩ := own_any HO3.out
          go_wp2
          go_roundw
          case rel => exact ⟨k + 1, by omega, by go_num, by rw [HS.out, HT.out, List.map_append]; exact HO3.out, hx6⟩
          case measure => simp [intOf]; omega
      · obtain rfl : k = ss.length := by omega
        have HO2 := Lib.hid own
        have hlen := Lib.hid (show (prTexts n xs ss wd).length = ss.length + 1 by rw [R.out, prUp_len])
        have hm := z3.size
        have l1 : w.heap.size ≤ w1.heap.size := by omega
        clear own g1
        go_wp2
        go_ret
        refine ⟨some ⟨g, 0, none⟩, cap, by rw [hlen.out]; rfl, ?_, (by repeat (first | (with_reducible first | exact Ext.refl _ | assumption | apply Ext.alloc | apply Ext.drew | apply Ext.drewN | refine Ext.setCell ?_ ?_ _ | refine Ext.trans ?_ (by assumption)) | (show _ ≤ _; first | omega | (dsimp only; omega) | (simp; done) | (simp; omega))))⟩
        unfold OwnStrs
        rw [hlen.out, R.out]
        exact own_mono HO2.out l1

set_option maxRecDepth 100000 in
set_option maxHeartbeats 1600000 in
theorem impl_ProofTexts (n : ByteArray) (v u : Value) (xs : List Leaf) (ss : List ByteArray) (wd : Int) (w : World) (hn : n.size ≤ maxLen) (h : Lvs w v xs) (hf : LeafFit xs) (hu : Strs w u ss) (hs : ∀ s ∈ ss, s.size ≤ maxLen) (hT : Tabs w) :
    Calls Tryz.prog 50 #[.string n, .agg #[v, u], .int .i64 wd] w fun e w' => ∃ a c, e = .returned (.slice a (prTexts n xs ss wd).length c) ∧ OwnStrs w' w.heap.size (.slice a (prTexts n xs ss wd).length c) (prTexts n xs ss wd) ∧ Ext w w' := by
  have HT := Lib.hid hT
  clear hT
  obtain ⟨a, c, rfl⟩ := h.form
  obtain ⟨b, d, rfl⟩ := hu.form
  cases hk : proofOk n xs ss wd
  · have HK := Lib.hid hk
    have R := Lib.hid (prTexts_no hk)
    clear hk
    go_enter Tryz.func50, Tryz.ntmps50
    go_wp2_with (go_at_call 74; refine (impl_ProofOk n _ _ xs ss wd _ hn (h.ext (by repeat (first | (with_reducible first | exact Ext.refl _ | assumption | apply Ext.alloc | apply Ext.drew | apply Ext.drewN | refine Ext.setCell ?_ ?_ _ | refine Ext.trans ?_ (by assumption)) | (show _ ≤ _; first | omega | (dsimp only; omega) | (simp; done) | (simp; omega))))) hf (hu.ext (by repeat (first | (with_reducible first | exact Ext.refl _ | assumption | apply Ext.alloc | apply Ext.drew | apply Ext.drewN | refine Ext.setCell ?_ ?_ _ | refine Ext.trans ?_ (by assumption)) | (show _ ≤ _; first | omega | (dsimp only; omega) | (simp; done) | (simp; omega))))) hs (by exact HT.out.ext (by repeat (first | (with_reducible first | exact Ext.refl _ | assumption | apply Ext.alloc | apply Ext.drew | apply Ext.drewN | refine Ext.setCell ?_ ?_ _ | refine Ext.trans ?_ (by assumption)) | (show _ ≤ _; first | omega | (dsimp only; omega) | (simp; done) | (simp; omega)))))).mono ?_; rw [HK.out]; rintro e w1 ⟨rfl, x1⟩)
    go_ret
    exact ⟨none, 0, by rw [R.out]; rfl, by rw [R.out]; exact World.ownsRow_nil _ _ _ _, (by repeat (first | (with_reducible first | exact Ext.refl _ | assumption | apply Ext.alloc | apply Ext.drew | apply Ext.drewN | refine Ext.setCell ?_ ?_ _ | refine Ext.trans ?_ (by assumption)) | (show _ ≤ _; first | omega | (dsimp only; omega) | (simp; done) | (simp; omega))))⟩
  · have R := Lib.hid (prTexts_yes hk)
    obtain ⟨k1, k2, k3, k4, k5⟩ := proofOk_parts hk
    have hfit := wide_fit k4 k5
    have hnsz : n.size ≤ 1073741824 := by have := nameOk_size k1; omega
    have HK := Lib.hid hk
    have HF := Lib.hid hfit
    have hlen := Lib.hid (show (prTexts n xs ss wd).length = ss.length + 1 by rw [R.out, prUp_len])
    have HP := Lib.hid (show prTexts n xs ss wd = [bucketT xs] ++ foldTxs (cutT (bucketT xs) wd) (idxT n) 8 wd ss ss.length by rw [R.out]; rfl)
    have hz : (bucketT xs).size ≤ 1073741824 := tagTx_size _ _
    have hct := le_max (cutT_le (bucketT xs) wd) (by omega)
    have HL := Lib.hid k2
    have HS := Lib.hid (show (0 : Int) ≤ 8 ∧ (8 : Int) ≤ 8 ∧ (ss.length : Int) ≤ 8 by omega)
    clear hk k1 k2 k4 k5 hfit
    obtain ⟨i0, hi, hz0, hz1, hz2⟩ := info_parts infoString
    go_enter Tryz.func50, Tryz.ntmps50
    go_wp2_with fail
    refine (impl_ProofOk n _ _ xs ss wd _ hn (h.ext (by repeat (first | (with_reducible first | exact Ext.refl _ | assumption | apply Ext.alloc | apply Ext.drew | apply Ext.drewN | refine Ext.setCell ?_ ?_ _ | refine Ext.trans ?_ (by assumption)) | (show _ ≤ _; first | omega | (dsimp only; omega) | (simp; done) | (simp; omega))))) hf (hu.ext (by repeat (first | (with_reducible first | exact Ext.refl _ | assumption | apply Ext.alloc | apply Ext.drew | apply Ext.drewN | refine Ext.setCell ?_ ?_ _ | refine Ext.trans ?_ (by assumption)) | (show _ ≤ _; first | omega | (dsimp only; omega) | (simp; done) | (simp; omega))))) hs (by exact HT.out.ext (by repeat (first | (with_reducible first | exact Ext.refl _ | assumption | apply Ext.alloc | apply Ext.drew | apply Ext.drewN | refine Ext.setCell ?_ ?_ _ | refine Ext.trans ?_ (by assumption)) | (show _ ≤ _; first | omega | (dsimp only; omega) | (simp; done) | (simp; omega)))))).mono ?_
    rw [HK.out]
    rintro e w1 ⟨rfl, x1⟩
    have E_x1 := Old.of x1; (repeat (first | (replace E_x1 := Old.undrew E_x1) | (replace E_x1 := Old.undrewN E_x1))); have c_E_x1 := Old.cell E_x1; have f_E_x1 := Old.frozen E_x1; have z_E_x1 := Old.size E_x1; try simp only [World.size_alloc] at c_E_x1 f_E_x1 z_E_x1; try have l_E_x1 := Nat.lt_of_succ_le z_E_x1; try have m_E_x1 := Nat.lt_of_succ_lt l_E_x1; try have n_E_x1 := Nat.lt_of_succ_lt m_E_x1
    have q0 := c_E_x1 (w.heap.size) 0 (by omega); simp [go_sem] at q0; have q1 := c_E_x1 (w.heap.size) 1 (by omega); simp [go_sem] at q1
    go_wp2_with fail
    refine (impl_bucketText _ xs _ (h.ext (by repeat (first | (with_reducible first | exact Ext.refl _ | assumption | apply Ext.alloc | apply Ext.drew | apply Ext.drewN | refine Ext.setCell ?_ ?_ _ | refine Ext.trans ?_ (by assumption)) | (show _ ≤ _; first | omega | (dsimp only; omega) | (simp; done) | (simp; omega))))) HL.out).mono ?_
    rintro e w2 ⟨rfl, x2⟩
    have y2 : Ext w1 w2 := (by repeat (first | (with_reducible first | exact Ext.refl _ | assumption | apply Ext.alloc | apply Ext.drew | apply Ext.drewN | refine Ext.setCell ?_ ?_ _ | refine Ext.trans ?_ (by assumption)) | (show _ ≤ _; first | omega | (dsimp only; omega) | (simp; done) | (simp; omega))))
    have q2 := (y2.cell _ _ l_E_x1).trans q1
    have l2 : w.heap.size < w2.heap.size := Nat.lt_of_lt_of_le l_E_x1 y2.size
    clear c_E_x1 f_E_x1 q0 q1
    go_wp2_with fail
    go_region_held3 (fun W => W.cell? ⟨w.heap.size, 1, none⟩ = some (.slice b ss.length d)) (first | exact q2 | exact (ya.cell _ _ l2).trans q2 | exact (yb.cell _ _ l2).trans q2 | exact (yc.cell _ _ l2).trans q2) (first | (go_at_call 81; refine (impl_CutDigest (bucketT xs) wd _ hz (by exact HT.out.ext (by repeat (first | (with_reducible first | exact Ext.refl _ | assumption | apply Ext.alloc | apply Ext.drew | apply Ext.drewN | refine Ext.setCell ?_ ?_ _ | refine Ext.trans ?_ (by assumption)) | (show _ ≤ _; first | omega | (dsimp only; omega) | (simp; done) | (simp; omega)))))).mono ?_; rintro e wa ⟨rfl, xa⟩; have ya : Ext w2 wa := (by repeat (first | (with_reducible first | exact Ext.refl _ | assumption | apply Ext.alloc | apply Ext.drew | apply Ext.drewN | refine Ext.setCell ?_ ?_ _ | refine Ext.trans ?_ (by assumption)) | (show _ ≤ _; first | omega | (dsimp only; omega) | (simp; done) | (simp; omega))))) | (go_at_call 38; refine (impl_IndexOf n _ hnsz (by exact HT.out.ext (by repeat (first | (with_reducible first | exact Ext.refl _ | assumption | apply Ext.alloc | apply Ext.drew | apply Ext.drewN | refine Ext.setCell ?_ ?_ _ | refine Ext.trans ?_ (by assumption)) | (show _ ≤ _; first | omega | (dsimp only; omega) | (simp; done) | (simp; omega)))))).mono ?_; rintro e wb ⟨rfl, xb⟩; have yb : Ext w2 wb := (by repeat (first | (with_reducible first | exact Ext.refl _ | assumption | apply Ext.alloc | apply Ext.drew | apply Ext.drewN | refine Ext.setCell ?_ ?_ _ | refine Ext.trans ?_ (by assumption)) | (show _ ≤ _; first | omega | (dsimp only; omega) | (simp; done) | (simp; omega))))) | (go_at_call 80; refine (impl_foldTexts (cutT (bucketT xs) wd) (idxT n) 8 _ ss wd _ hct (hu.ext (by repeat (first | (with_reducible first | exact Ext.refl _ | assumption | apply Ext.alloc | apply Ext.drew | apply Ext.drewN | refine Ext.setCell ?_ ?_ _ | refine Ext.trans ?_ (by assumption)) | (show _ ≤ _; first | omega | (dsimp only; omega) | (simp; done) | (simp; omega))))) hs HS.out (by exact HT.out.ext (by repeat (first | (with_reducible first | exact Ext.refl _ | assumption | apply Ext.alloc | apply Ext.drew | apply Ext.drewN | refine Ext.setCell ?_ ?_ _ | refine Ext.trans ?_ (by assumption)) | (show _ ≤ _; first | omega | (dsimp only; omega) | (simp; done) | (simp; omega)))))).mono ?_; rintro e wc ⟨af, cf, rfl, of, xc⟩; have yc : Ext w2 wc := (by repeat (first | (with_reducible first | exact Ext.refl _ | assumption | apply Ext.alloc | apply Ext.drew | apply Ext.drewN | refine Ext.setCell ?_ ?_ _ | refine Ext.trans ?_ (by assumption)) | (show _ ≤ _; first | omega | (dsimp only; omega) | (simp; done) | (simp; omega))))))
    all_goals
      have xw : Ext w wc := (by repeat (first | (with_reducible first | exact Ext.refl _ | assumption | apply Ext.alloc | apply Ext.drew | apply Ext.drewN | refine Ext.setCell ?_ ?_ _ | refine Ext.trans ?_ (by assumption)) | (show _ ≤ _; first | omega | (dsimp only; omega) | (simp; done) | (simp; omega))))
      have lc := xw.size
      have hlit := World.ownsRow_lit (base := w.heap.size) (e := 9) (size := 1) wc #[Value.string (bucketT xs)] 1 lc (by decide) rfl
      rcases own_forms of with ⟨hv, h0⟩ | ⟨g, cap, hv⟩
      · rw [hv]
        have H0 := Lib.hid h0
        clear of h0 hv
        go_wp2_with (at_builtin; refine wpList_append_own_none rfl (.tmp 31) (.tmp 32) 22 rfl w.heap.size 9 i0 1 Tryz.underlying22 hi _ _ [Value.string (bucketT xs)] rfl hlit rfl ?_)
        go_ret
        have hp : prTexts n xs ss wd = [bucketT xs] := by rw [HP.out, H0.out]; simp [foldTxs]
        refine ⟨some ⟨wc.heap.size, 0, none⟩, 1, by rw [hp]; rfl, ?_, (by repeat (first | (with_reducible first | exact Ext.refl _ | assumption | apply Ext.alloc | apply Ext.drew | apply Ext.drewN | refine Ext.setCell ?_ ?_ _ | refine Ext.trans ?_ (by assumption)) | (show _ ≤ _; first | omega | (dsimp only; omega) | (simp; done) | (simp; omega))))⟩
        rw [hp]
        exact hlit
      · injection hv with e1 e2 e3
        subst e1 e3
        clear e2
        have hcs := own_cells (of.alloc (Obj.cells #[Value.string (bucketT xs)] 9))
        clear of
        go_wp2_with (at_builtin; refine wpList_append_own _ rfl (.tmp 31) (.tmp 32) 22 rfl w.heap.size 9 i0 (.string ⟨#[]⟩) 1 16 Tryz.underlying22 hi hz0 hz1 hz2 rfl (by decide) _ _ _ rfl hlit ⟨g, 0, none⟩ ss.length cf ((foldTxs (cutT (bucketT xs) wd) (idxT n) 8 wd ss ss.length).map Value.string) rfl (by simp [foldTxs_len]) hcs ?c2 ?c3 ?c4 ?c5 ?_)
        case c2 => first | (intro u hu; rw [List.mem_map] at hu; obtain ⟨t, -, rfl⟩ := hu; rfl) | (intro u hu; rfl)
        case c3 => unfold maxLen; omega
        case c4 => omega
        case c5 => first | omega | (simp; omega)
        intro v' w6 own6 hgrow _
        have hx6 : Ext w w6 := own_ext_of (xw.alloc _) hlit hgrow (Nat.le_refl _)
        rw [Nat.add_comm] at own6
        obtain ⟨a', c', rfl⟩ := own_any own6
        have HO6 := Lib.hid own6
        clear own6 hgrow hlit hcs
        go_wp2
        go_ret
        refine ⟨a', c', by rw [hlen.out]; rfl, ?_, hx6⟩
        unfold OwnStrs
        rw [hlen.out, HP.out, List.map_append]
        exact HO6.out

theorem prHash_no {n xs ss wd} (h : (prTexts n xs ss wd).length = 0) : prHash n xs ss wd = ⟨#[]⟩ := by rw [prHash, if_pos h]
theorem prHash_yes {n xs ss wd} {j : Nat} (h : (prTexts n xs ss wd).length = j + 1) : prHash n xs ss wd = cutT ((prTexts n xs ss wd).getD j ⟨#[]⟩) wd := by
  rw [prHash, if_neg (by omega), h]
  rfl
theorem str_at (ys : List ByteArray) (j : Nat) (h : j < ys.length) : (ys.map Value.string)[j]? = some (.string (ys.getD j ⟨#[]⟩)) := by
  rw [List.getElem?_map, List.getD_eq_getElem?_getD, List.getElem?_eq_getElem h]
  rfl

set_option maxRecDepth 100000 in
set_option maxHeartbeats 800000 in
theorem spec_ProofHash (n : ByteArray) (v u : Value) (xs : List Leaf) (ss : List ByteArray) (wd : Int) (w : World) (hn : n.size ≤ maxLen) (h : Lvs w v xs) (hf : LeafFit xs) (hu : Strs w u ss) (hs : ∀ s ∈ ss, s.size ≤ maxLen) :
    Calls Tryz.prog 25 #[.string n, .agg #[v, u], .int .i64 wd] w fun e w' => e = .returned (.string (prHash n xs ss wd)) ∧ Ext w w' := by
  obtain ⟨a, c, rfl⟩ := h.form
  obtain ⟨b, d, rfl⟩ := hu.form
  have hl9 := prTexts_len n xs ss wd
  have hfit := prTexts_fit n xs ss wd
  have R0 := Lib.hid (prHash_no (n := n) (xs := xs) (ss := ss) (wd := wd))
  have R1 := Lib.hid (fun j => prHash_yes (n := n) (xs := xs) (ss := ss) (wd := wd) (j := j))
  go_enter Tryz.func25, Tryz.ntmps25
  go_wp2_with fail
  refine (spec_ProofTexts n _ _ xs ss wd _ hn (h.ext (by repeat (first | (with_reducible first | exact Ext.refl _ | assumption | apply Ext.alloc | apply Ext.drew | apply Ext.drewN | refine Ext.setCell ?_ ?_ _ | refine Ext.trans ?_ (by assumption)) | (show _ ≤ _; first | omega | (dsimp only; omega) | (simp; done) | (simp; omega))))) hf (hu.ext (by repeat (first | (with_reducible first | exact Ext.refl _ | assumption | apply Ext.alloc | apply Ext.drew | apply Ext.drewN | refine Ext.setCell ?_ ?_ _ | refine Ext.trans ?_ (by assumption)) | (show _ ≤ _; first | omega | (dsimp only; omega) | (simp; done) | (simp; omega))))) hs).mono ?_
  generalize prTexts n xs ss wd = L at *
  rintro e w1 ⟨a1, c1, rfl, o1, x1⟩
  by_cases h0 : L.length = 0
  · have R := Lib.hid (R0.out h0)
    have hi0 : ((L.length : Int) == 0) = true := by simp [h0]
    have hd0 : decide ((L.length : Int) = 0) = true := by simp [h0]
    clear o1 h0
    go_wp2
    go_ret
    exact ⟨ret_str R.out.symm, (by repeat (first | (with_reducible first | exact Ext.refl _ | assumption | apply Ext.alloc | apply Ext.drew | apply Ext.drewN | refine Ext.setCell ?_ ?_ _ | refine Ext.trans ?_ (by assumption)) | (show _ ≤ _; first | omega | (dsimp only; omega) | (simp; done) | (simp; omega))))⟩
  · obtain ⟨j, hj⟩ : ∃ j, L.length = j + 1 := ⟨L.length - 1, by omega⟩
    have R := Lib.hid (R1.out j hj)
    obtain ⟨g, cap, hv⟩ := own_form o1 (by omega)
    injection hv with e1 e2 e3
    subst e1 e3
    have f1 : w1.cell? ⟨g, j, none⟩ = some (.string (L.getD j ⟨#[]⟩)) := (World.ownsRow.cellAt (g := g) o1 j (by omega)).trans (str_at L j (by omega))
    have hz := getD_fit hfit j
    have hi0 : ((L.length : Int) == 0) = false := by rw [beq_eq_false_iff_ne]; omega
    have hd0 : decide ((L.length : Int) = 0) = false := decide_eq_false (by omega)
    have hw : IntKind.i64.wrap ((L.length : Int) - 1) = (j : Int) := by rw [IntWalk.i64_in _ (by omega)]; omega
    have i1 : (0 : Int) ≤ (j : Int) := by omega
    have i2 : (j : Int) < L.length := by omega
    clear o1 h0 e2 hj
    generalize L.getD j ⟨#[]⟩ = T at *
    go_wp2_with fail
    refine (spec_CutDigest T wd _ hz).mono ?_
    rintro e w2 ⟨rfl, x2⟩
    go_wp2
    go_ret
    exact ⟨ret_str R.out.symm, (by repeat (first | (with_reducible first | exact Ext.refl _ | assumption | apply Ext.alloc | apply Ext.drew | apply Ext.drewN | refine Ext.setCell ?_ ?_ _ | refine Ext.trans ?_ (by assumption)) | (show _ ≤ _; first | omega | (dsimp only; omega) | (simp; done) | (simp; omega))))⟩

set_option maxRecDepth 100000 in
set_option maxHeartbeats 800000 in
theorem impl_ProofHash (n : ByteArray) (v u : Value) (xs : List Leaf) (ss : List ByteArray) (wd : Int) (w : World) (hn : n.size ≤ maxLen) (h : Lvs w v xs) (hf : LeafFit xs) (hu : Strs w u ss) (hs : ∀ s ∈ ss, s.size ≤ maxLen) (hT : Tabs w) :
    Calls Tryz.prog 37 #[.string n, .agg #[v, u], .int .i64 wd] w fun e w' => e = .returned (.string (prHash n xs ss wd)) ∧ Ext w w' := by
  have HT := Lib.hid hT
  clear hT
  obtain ⟨a, c, rfl⟩ := h.form
  obtain ⟨b, d, rfl⟩ := hu.form
  have hl9 := prTexts_len n xs ss wd
  have hfit := prTexts_fit n xs ss wd
  have R0 := Lib.hid (prHash_no (n := n) (xs := xs) (ss := ss) (wd := wd))
  have R1 := Lib.hid (fun j => prHash_yes (n := n) (xs := xs) (ss := ss) (wd := wd) (j := j))
  go_enter Tryz.func37, Tryz.ntmps37
  go_wp2_with fail
  refine (impl_ProofTexts n _ _ xs ss wd _ hn (h.ext (by repeat (first | (with_reducible first | exact Ext.refl _ | assumption | apply Ext.alloc | apply Ext.drew | apply Ext.drewN | refine Ext.setCell ?_ ?_ _ | refine Ext.trans ?_ (by assumption)) | (show _ ≤ _; first | omega | (dsimp only; omega) | (simp; done) | (simp; omega))))) hf (hu.ext (by repeat (first | (with_reducible first | exact Ext.refl _ | assumption | apply Ext.alloc | apply Ext.drew | apply Ext.drewN | refine Ext.setCell ?_ ?_ _ | refine Ext.trans ?_ (by assumption)) | (show _ ≤ _; first | omega | (dsimp only; omega) | (simp; done) | (simp; omega))))) hs (by exact HT.out.ext (by repeat (first | (with_reducible first | exact Ext.refl _ | assumption | apply Ext.alloc | apply Ext.drew | apply Ext.drewN | refine Ext.setCell ?_ ?_ _ | refine Ext.trans ?_ (by assumption)) | (show _ ≤ _; first | omega | (dsimp only; omega) | (simp; done) | (simp; omega)))))).mono ?_
  generalize prTexts n xs ss wd = L at *
  rintro e w1 ⟨a1, c1, rfl, o1, x1⟩
  by_cases h0 : L.length = 0
  · have R := Lib.hid (R0.out h0)
    have hi0 : ((L.length : Int) == 0) = true := by simp [h0]
    have hd0 : decide ((L.length : Int) = 0) = true := by simp [h0]
    clear o1 h0
    go_wp2
    go_ret
    exact ⟨ret_str R.out.symm, (by repeat (first | (with_reducible first | exact Ext.refl _ | assumption | apply Ext.alloc | apply Ext.drew | apply Ext.drewN | refine Ext.setCell ?_ ?_ _ | refine Ext.trans ?_ (by assumption)) | (show _ ≤ _; first | omega | (dsimp only; omega) | (simp; done) | (simp; omega))))⟩
  · obtain ⟨j, hj⟩ : ∃ j, L.length = j + 1 := ⟨L.length - 1, by omega⟩
    have R := Lib.hid (R1.out j hj)
    obtain ⟨g, cap, hv⟩ := own_form o1 (by omega)
    injection hv with e1 e2 e3
    subst e1 e3
    have f1 : w1.cell? ⟨g, j, none⟩ = some (.string (L.getD j ⟨#[]⟩)) := (World.ownsRow.cellAt (g := g) o1 j (by omega)).trans (str_at L j (by omega))
    have hz := getD_fit hfit j
    have hi0 : ((L.length : Int) == 0) = false := by rw [beq_eq_false_iff_ne]; omega
    have hd0 : decide ((L.length : Int) = 0) = false := decide_eq_false (by omega)
    have hw : IntKind.i64.wrap ((L.length : Int) - 1) = (j : Int) := by rw [IntWalk.i64_in _ (by omega)]; omega
    have i1 : (0 : Int) ≤ (j : Int) := by omega
    have i2 : (j : Int) < L.length := by omega
    clear o1 h0 e2 hj
    generalize L.getD j ⟨#[]⟩ = T at *
    go_wp2_with fail
    refine (impl_CutDigest T wd _ hz (by exact HT.out.ext (by repeat (first | (with_reducible first | exact Ext.refl _ | assumption | apply Ext.alloc | apply Ext.drew | apply Ext.drewN | refine Ext.setCell ?_ ?_ _ | refine Ext.trans ?_ (by assumption)) | (show _ ≤ _; first | omega | (dsimp only; omega) | (simp; done) | (simp; omega)))))).mono ?_
    rintro e w2 ⟨rfl, x2⟩
    go_wp2
    go_ret
    exact ⟨ret_str R.out.symm, (by repeat (first | (with_reducible first | exact Ext.refl _ | assumption | apply Ext.alloc | apply Ext.drew | apply Ext.drewN | refine Ext.setCell ?_ ?_ _ | refine Ext.trans ?_ (by assumption)) | (show _ ≤ _; first | omega | (dsimp only; omega) | (simp; done) | (simp; omega))))⟩

end Go.Proofs.YtckipgijfgeghaaGreatDoor
