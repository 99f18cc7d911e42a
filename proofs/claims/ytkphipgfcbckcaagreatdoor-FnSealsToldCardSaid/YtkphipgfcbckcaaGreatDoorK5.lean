/- SgLA, DrawH, HHash, StTD, DSlA. -/
import Derived.Test.YtkphipgfcbckcaaGreatDoorK4
namespace Go.Proofs.YtkphipgfcbckcaaGreatDoor
open Go.RowKit

theorem top_16 : ∀ (n : Nat) (xs : List ByteArray), xs.length = 2 ^ n → (∀ s ∈ xs, s.size = 16) → (topT 16 n xs).size = 16
  | 0, xs, hl, hs => by
    match xs, hl with
    | [x], _ => exact hs x (by simp)
  | n + 1, xs, hl, hs => by
    rw [topT]
    refine top_16 n _ (by rw [upL_length, hl, Nat.pow_succ]; omega) fun s hs' => ?_
    rw [upL, upK, List.mem_map] at hs'
    obtain ⟨j, hj, rfl⟩ := hs'
    rw [List.mem_range] at hj
    have g : ∀ i, i < xs.length → (xs.getD i ⟨#[]⟩).size = 16 := fun i hi => by
      rw [List.getD_eq_getElem?_getD, List.getElem?_eq_getElem hi]
      exact hs _ (List.getElem_mem hi)
    have g0 := g (2 * j) (by omega)
    have g1 := g (2 * j + 1) (by omega)
    have hw : tagWell 3 [xs.getD (2 * j) ⟨#[]⟩, xs.getD (2 * j + 1) ⟨#[]⟩] = true := tag_yes (by decide) (by simp) (fun p hp => by
      simp only [List.mem_cons, List.not_mem_nil, or_false] at hp
      rcases hp with rfl | rfl <;> omega)
    have := cutT_size (tagTx 3 [xs.getD (2 * j) ⟨#[]⟩, xs.getD (2 * j + 1) ⟨#[]⟩]) 16 (by decide)
    rw [pairH, tagH, if_pos hw]
    omega
theorem poolK_16 {seed : ByteArray} (h : seed.size ≤ 100) : ∀ s ∈ poolK seed 16, s.size = 16 := by
  intro s hs
  rw [poolK, List.mem_map] at hs
  obtain ⟨j, hj, rfl⟩ := hs
  rw [List.mem_range] at hj
  exact pub_16 (by rw [pubOk, decide_eq_true h, inB_true.2 (by omega)]; rfl)
theorem poolK_at (seed : ByteArray) {k : Nat} (h : k < 16) : (poolK seed 16).getD k ⟨#[]⟩ = pubT seed k := by
  rw [poolK, List.getD_eq_getElem?_getD, List.getElem?_map, List.getElem?_range h]
  rfl
theorem sgnOp_at (seed : ByteArray) (a : Int) (text : ByteArray) {k : Nat} (h : k < 8) : (sgnOpK seed a text 8).getD k ⟨#[]⟩ = secT seed a k (bitT (sgIdx text) k) := by
  rw [sgnOpK, List.getD_eq_getElem?_getD, List.getElem?_map, List.getElem?_range h]
  rfl
theorem sgnSh_at (seed : ByteArray) (a : Int) (text : ByteArray) {k : Nat} (h : k < 8) : (sgnShK seed a text 8).getD k ⟨#[]⟩ = lkH (secT seed a k (1 - bitT (sgIdx text) k)) := by
  rw [sgnShK, List.getD_eq_getElem?_getD, List.getElem?_map, List.getElem?_range h]
  rfl
theorem up_16 {n : Nat} {xs : List ByteArray} (hl : xs.length = 2 ^ (n + 1)) (hs : ∀ s ∈ xs, s.size = 16) : ∀ s ∈ upL xs 16, s.size = 16 := by
  intro s hs'
  rw [upL, upK, List.mem_map] at hs'
  obtain ⟨j, hj, rfl⟩ := hs'
  rw [List.mem_range] at hj
  have g : ∀ i, i < xs.length → (xs.getD i ⟨#[]⟩).size = 16 := fun i hi => by
    rw [List.getD_eq_getElem?_getD, List.getElem?_eq_getElem hi]
    exact hs _ (List.getElem_mem hi)
  have g0 := g (2 * j) (by omega)
  have g1 := g (2 * j + 1) (by omega)
  have hw : tagWell 3 [xs.getD (2 * j) ⟨#[]⟩, xs.getD (2 * j + 1) ⟨#[]⟩] = true := tag_yes (by decide) (by simp) (fun p hp => by
    simp only [List.mem_cons, List.not_mem_nil, or_false] at hp
    rcases hp with rfl | rfl <;> omega)
  have := cutT_size (tagTx 3 [xs.getD (2 * j) ⟨#[]⟩, xs.getD (2 * j + 1) ⟨#[]⟩]) 16 (by decide)
  rw [pairH, tagH, if_pos hw]
  omega
theorem upL_pow {n : Nat} {xs : List ByteArray} (hl : xs.length = 2 ^ (n + 1)) : (upL xs 16).length = 2 ^ n := by rw [upL_length, hl, Nat.pow_succ]; omega
theorem side_16 : ∀ (n a : Nat) (xs : List ByteArray), xs.length = 2 ^ n → a < 2 ^ n → (∀ s ∈ xs, s.size = 16) → ∀ s ∈ sideT 16 n a xs, s.size = 16
  | 0, _, _, _, _, _ => fun s h => by simp [sideT] at h
  | n + 1, a, xs, hl, ha, hs => fun s h => by
    rw [sideT, List.mem_cons] at h
    rw [Nat.pow_succ] at ha
    rcases h with rfl | h
    · have := beside_lt ha
      rw [List.getD_eq_getElem?_getD, List.getElem?_eq_getElem (by rw [hl, Nat.pow_succ]; exact this)]
      exact hs _ (List.getElem_mem _)
    · exact side_16 n (a / 2) _ (upL_pow hl) (by omega) (up_16 hl hs) s h
theorem sgSt_cons (h : ByteArray) (a : Nat) (s0 : ByteArray) (ss : List ByteArray) : ∀ k, sgSt h a (s0 :: ss) (k + 1) = sgSt (tagH 3 (sgPair (a % 2) h s0) 16) (a / 2) ss k
  | 0 => by simp [sgSt]
  | k + 1 => by
    rw [sgSt, sgSt_cons h a s0 ss k, sgSt, List.getD_cons_succ, Nat.pow_succ, Nat.mul_comm (2 ^ k) 2, ← Nat.div_div_eq_div_mul]
theorem sg_climb : ∀ (n a : Nat) (xs : List ByteArray), xs.length = 2 ^ n → a < 2 ^ n → sgSt (xs.getD a ⟨#[]⟩) a (sideT 16 n a xs) n = topT 16 n xs
  | 0, a, xs, _, ha => by
    obtain rfl : a = 0 := by omega
    rfl
  | n + 1, a, xs, hl, ha => by
    rw [sideT, sgSt_cons, topT]
    rw [Nat.pow_succ] at ha
    have e : tagH 3 (sgPair (a % 2) (xs.getD a ⟨#[]⟩) (xs.getD (besideN a) ⟨#[]⟩)) 16 = (upL xs 16).getD (a / 2) ⟨#[]⟩ := by
      have hm : (upL xs 16).getD (a / 2) ⟨#[]⟩ = pairH xs 16 (a / 2) := by
        rw [upL, upK, List.getD_eq_getElem?_getD, List.getElem?_map, List.getElem?_range (by rw [hl, Nat.pow_succ]; omega)]
        rfl
      rw [hm, pairH, sgPair, besideN]
      by_cases h2 : a % 2 = 0
      · rw [if_pos h2, if_pos h2, show 2 * (a / 2) = a by omega]
      · rw [if_neg h2, if_neg h2, show 2 * (a / 2) = a - 1 by omega, show a - 1 + 1 = a by omega]
    rw [e]
    exact sg_climb n (a / 2) _ (upL_pow hl) (by omega)
theorem lk_pub (seed text : ByteArray) (a : Int) (z : Int) (si : List ByteArray) : ∀ n, n ≤ 8 → lkL (sgIdx text) ⟨z, sgnOpK seed a text 8, sgnShK seed a text 8, si⟩ n = pubL seed a (2 * n)
  | 0, _ => rfl
  | n + 1, h => by
    have g1 := sgnOp_at seed a text (k := n) (by omega)
    have g2 := sgnSh_at seed a text (k := n) (by omega)
    rw [lkL_succ, lk_pub seed text a z si n (by omega), show 2 * (n + 1) = 2 * n + 1 + 1 by omega, pubL_succ, pubL_succ, show (2 * n) / 2 = n by omega, show (2 * n) % 2 = 0 by omega, show (2 * n + 1) / 2 = n by omega, show (2 * n + 1) % 2 = 1 by omega, List.append_assoc]
    congr 1
    rcases bitT_two (sgIdx text) n with hb | hb
    · rw [lkPair_0 hb]
      show [lkH ((sgnOpK seed a text 8).getD n ⟨#[]⟩), (sgnShK seed a text 8).getD n ⟨#[]⟩] = _
      rw [g1, g2, hb]
      rfl
    · rw [lkPair_1 hb]
      show [(sgnShK seed a text 8).getD n ⟨#[]⟩, lkH ((sgnOpK seed a text 8).getD n ⟨#[]⟩)] = _
      rw [g1, g2, hb]
      rfl
/-- what the program signs is right by its root -/
theorem sg_law {seed text : ByteArray} {a : Int} (h : sgnOk seed (poolK seed 16) a text = true) : sgRoot text (sgnV seed (poolK seed 16) a text) = poolRt (poolK seed 16) := by
  obtain ⟨hl, ⟨h0, h1⟩, -, hsd, hp⟩ := sgnOk_true h
  obtain ⟨a, rfl⟩ := Int.eq_ofNat_of_zero_le h0
  rw [sgn_yes h, sgRoot, poolRt_yes hl]
  show sgSt (tagH 6 (lkL (sgIdx text) ⟨a, sgnOpK seed a text 8, sgnShK seed a text 8, _⟩ 8) 16) _ (sideT 16 4 a (poolK seed 16)) (sideT 16 4 a (poolK seed 16)).length = _
  rw [lk_pub seed text a a _ 8 (Nat.le_refl _), ← pub_yes (seed := seed) (a := a) (by rw [pubOk, decide_eq_true hsd, inB_true.2 ⟨h0, h1⟩]; rfl), hp, sideT_length]
  exact sg_climb 4 a _ hl (by omega)
theorem sg_well {seed text : ByteArray} {a : Int} (h : sgnOk seed (poolK seed 16) a text = true) : sigWell (sgnV seed (poolK seed 16) a text) = true := by
  obtain ⟨hl, ⟨h0, h1⟩, -, hsd, -⟩ := sgnOk_true h
  obtain ⟨a, rfl⟩ := Int.eq_ofNat_of_zero_le h0
  rw [sgn_yes h, sigWell]
  have w1 : wide (sgnOpK seed a text 8) 16 = true := by
    rw [wide, List.all_eq_true]
    intro s hs
    rw [sgnOpK, List.mem_map] at hs
    obtain ⟨j, -, rfl⟩ := hs
    exact decide_eq_true (by rw [sec_16 _ _ _ hsd]; rfl)
  have w2 : wide (sgnShK seed a text 8) 16 = true := by
    rw [wide, List.all_eq_true]
    intro s hs
    rw [sgnShK, List.mem_map] at hs
    obtain ⟨j, -, rfl⟩ := hs
    have := sec_16 (seed := seed) a (j : Int) (1 - bitT (sgIdx text) (j : Int)) hsd
    exact decide_eq_true (by rw [lk_16 (by omega)]; rfl)
  have w3 : wide (sideT 16 4 a (poolK seed 16)) 16 = true := by
    rw [wide, List.all_eq_true]
    intro s hs
    exact decide_eq_true (by rw [side_16 4 a _ hl (by omega) (poolK_16 hsd) s hs]; rfl)
  show (inB a 0 15 && _) = true
  simp only [w1, w2, w3, Int.toNat_natCast, inB_true.2 ⟨h0, h1⟩, sgnOp_len, sgnSh_len, sideT_length]
  rfl
theorem sgn_pool {seed text : ByteArray} {a : Nat} (ha : a < 16) (hsd : seed.size ≤ 100) (ht : text.size ≤ 200) : sgnOk seed (poolK seed 16) a text = true := by
  rw [sgnOk, decide_eq_true (poolK_len seed 16), inB_true.2 (by omega), decide_eq_true ht, decide_eq_true hsd, show ((a : Nat) : Int).toNat = a from rfl, poolK_at seed ha]
  simp
end Go.Proofs.YtkphipgfcbckcaaGreatDoor
namespace Go.Proofs.YtkphipgfcbckcaaGreatDoor
open Go.RowKit

theorem Cur.far {w : World} {b c : Nat} (h : Cur w b) (hc : b < c) (o : Nat) (u : Value) : Cur (w.setCell ⟨c, o, none⟩ u) b := by
  obtain ⟨v, xs, i, n, hb, c0, c1, c2, fz, hi, hl, hcd⟩ := h
  have hn : ∀ k j, k ≤ b → (w.setCell ⟨c, o, none⟩ u).cell? ⟨k, j, none⟩ = w.cell? ⟨k, j, none⟩ := fun k j hk => World.cell?_setCell_other _ _ _ _ (fun e => by have := congrArg Addr.block e; dsimp only at this; omega)
  exact ⟨v, xs, i, n, by rw [World.size_setCell]; exact hb, (hn _ _ (Nat.le_refl _)).trans c0, (hn _ _ (Nat.le_refl _)).trans c1, (hn _ _ (Nat.le_refl _)).trans c2, fun j => by rw [World.frozen?_setCell]; exact fz j, hi, hl, hcd.keep fun k j hk => hn k j (Nat.le_of_lt hk)⟩
theorem pool_16 {seed : ByteArray} (h : seed.size ≤ 100) : (poolRt (poolK seed 16)).size = 16 := by
  rw [poolRt_yes (poolK_len seed 16)]
  exact top_16 4 _ (poolK_len seed 16) (poolK_16 h)
theorem sg_ok {seed text : ByteArray} {a : Int} (h : sgnOk seed (poolK seed 16) a text = true) : sigOkB (poolRt (poolK seed 16)) text (sgnV seed (poolK seed 16) a text) = true := by
  rw [sigOkB, sg_well h, sg_law h, decide_eq_true (sgnOk_true h).2.2.1, decide_eq_true rfl]
  rfl
theorem sgn_at {seed text : ByteArray} {pool : List ByteArray} {a : Int} (h : sgnOk seed pool a text = true) : (sgnV seed pool a text).at_ = a := by rw [sgn_yes h]
end Go.Proofs.YtkphipgfcbckcaaGreatDoor

namespace Go.Proofs.YtkphipgfcbckcaaGreatDoor
open Go.RowKit

theorem Code.ext {w w' : World} {b b' : Nat} {v : Value} {xs : List Int} (h : Code w b v xs) (hb : b ≤ w.heap.size) (hx : Ext w w') (hb' : b ≤ b') : Code w' b' v xs := by
  obtain ⟨a, cap, rfl, h1, h2⟩ := h
  refine ⟨a, cap, rfl, h1, ?_⟩
  rcases h2 with h2 | ⟨g, o, rfl, hg, h2⟩
  · exact Or.inl h2
  · exact Or.inr ⟨g, o, rfl, by omega, fun j hj => (hx.cell _ _ (by omega)).trans (h2 j hj)⟩
theorem long_set (n k : Nat) (hk : k < n) (x : Int) : ((List.replicate k x ++ List.replicate (n - k) 0).map (Value.int .u8)).set k (.int .u8 x) = (List.replicate (k + 1) x ++ List.replicate (n - (k + 1)) 0).map (Value.int .u8) := by
  rw [List.map_append, List.set_append_right _ _ (by simp)]
  simp only [List.length_map, List.length_replicate, Nat.sub_self]
  rw [show n - k = (n - (k + 1)) + 1 by omega, List.replicate_succ, List.replicate_succ']
  simp
set_option maxHeartbeats 800000 in
theorem spec_l01Long (n : Nat) (x : Int) (w : World) (hn : n ≤ 1048576) :
    Calls Tryz.prog 71 #[.int .i64 n, .int .u8 x] w fun e w' => ∃ s : ByteArray, e = .returned (.string s) ∧ s.size = n ∧ Ext w w' := by
  obtain ⟨i0, hi, hz0, hz1, hz2⟩ := info_parts infoByte
  go_enter Tryz.func71, Tryz.ntmps71
  go_wp2_with (at_make; refine wpList_make_full _ rfl _ _ 22 rfl w.heap.size 5 i0 _ 1 Tryz.underlying22 hi hz0 hz1 _ _ _ _ n rfl rfl rfl rfl (by rw [hz2]; omega) (by unfold maxLen; omega) (Nat.le_refl _) ?_; intro w1 hown1 hgrow1)
  have hx1 : Ext w w1 := (Ext.refl w).grown hgrow1 (by simp)
  rw [Nat.mul_one, show (Value.int .u8 0).cells = #[.int .u8 0] from rfl, toList_madeCells_one] at hown1
  go_loopw [6] (fun i wr => ∃ k : Nat, k ≤ n ∧ i = .int .i64 k ∧ wr.ownsRow w.heap.size 5 1 (.slice (some ⟨w.heap.size, 0, none⟩) n n) n ((List.replicate k x ++ List.replicate (n - k) 0).map (Value.int .u8)) ∧ Ext w wr) (fun i _ => n - (intOf i).toNat)
  case atStart => exact ⟨0, Nat.zero_le _, rfl, by simpa using hown1, hx1⟩
  case round =>
    obtain ⟨k, hk, rfl, hown, hx⟩ := hrel
    by_cases hlt : k < n
    · have hlt' : (k : Int) < n := by omega
      have hk0 : (0 : Int) ≤ k := by omega
      have e2 : wr.cell? ⟨w.heap.size, k, none⟩ = some (.int .u8 0) := by
        rw [hown.cellAt k (by omega)]
        rw [show n - k = (n - (k + 1)) + 1 by omega, List.replicate_succ, List.map_append, List.getElem?_append_right (by simp)]
        simp
      have e3 : wr.frozen? ⟨w.heap.size, k, none⟩ = false := hown.frozenAt k
      have S := hown.stored k (.int .u8 x)
      rw [long_set n k hlt] at S
      have HS := Lib.hid S
      clear S hown hown1 hgrow1
      go_wp2
      go_roundw
      case rel => exact ⟨k + 1, by omega, by go_num, HS.out.1, hx.setCell (Nat.le_refl _) _⟩
      case measure => simp [intOf]; omega
    · have hlt' : ¬ (k : Int) < n := by omega
      obtain ⟨s, hs, hcv⟩ := own_str hown
      go_wp2
      go_ret
      exact ⟨s, rfl, hs, hx⟩
set_option maxHeartbeats 800000 in
theorem spec_l13Root (b : Nat) (w : World) (h : Cur w b) :
    Calls Tryz.prog 50 #[.pointer (some ⟨b, 0, none⟩)] w fun e w' => ∃ s : ByteArray, e = .returned (.string s) ∧ s.size = 16 ∧ Cur w' b ∧ Mut b w w' := by
  go_enter Tryz.func50, Tryz.ntmps50
  go_wp2_with fail
  refine (spec_l01Text b 2 _ h (by omega)).mono ?_
  rintro e w1 ⟨s, rfl, hs, C1, M1⟩
  go_wp2_with fail
  have hz : (cutT s 16).size = 16 := by
    have := cutT_size s 16 (by decide)
    omega
  refine (spec_CutDigest s 16 _ (by omega)).mono ?_
  generalize cutT s 16 = r at *
  rintro e w2 ⟨rfl, x2⟩
  go_wp2
  go_ret
  exact ⟨_, rfl, hz, C1.ext x2, M1.trans (Mut.of_ext x2)⟩
end Go.Proofs.YtkphipgfcbckcaaGreatDoor

namespace Go.Proofs.YtkphipgfcbckcaaGreatDoor
open Go.RowKit

def headH (h ep : Int) (r p : ByteArray) : ByteArray := if headOk h ep r p = true then tagH 4 [headText h ep r p] 16 else ⟨#[]⟩
theorem headText_le (h ep : Int) (r p : ByteArray) : (headText h ep r p).size ≤ 34 := by
  cases hh : headOk h ep r p
  · rw [headText, if_neg (by rw [hh]; decide)]; exact Nat.zero_le _
  · obtain ⟨-, -, h1, h2, -⟩ := headOk_true hh
    rw [headText, if_pos hh, ByteArray.size_append, ByteArray.size_append, strOfNums_size]
    simp only [List.length_cons, List.length_nil]
    omega
set_option maxHeartbeats 800000 in
theorem impl_HeadHash (h ep : Int) (r p : ByteArray) (w : World) (hT : Tabs w) :
    Calls Tryz.prog 27 #[.agg #[.int .i64 h, .int .i64 ep, .string r, .string p]] w fun e w' => e = .returned (.string (headH h ep r p)) ∧ Ext w w' := by
  have HT := Lib.hid hT
  have hz := headText_le h ep r p
  clear hT
  cases hh : headOk h ep r p
  · have R := Lib.hid (show headH h ep r p = ⟨#[]⟩ by rw [headH, if_neg (by rw [hh]; decide)])
    have H := Lib.hid hh
    clear hh
    go_enter Tryz.func27, Tryz.ntmps27
    go_wp2_with (go_at_call 60; refine (impl_HeadText _ _ _ _ _).mono ?_; rw [H.out]; rintro e w1 ⟨rfl, x1⟩; have E_x1 := Old.of x1; (repeat (first | (replace E_x1 := Old.undrew E_x1) | (replace E_x1 := Old.undrewN E_x1))); have c_E_x1 := Old.cell E_x1; have f_E_x1 := Old.frozen E_x1; have z_E_x1 := Old.size E_x1; try simp only [World.size_alloc] at c_E_x1 f_E_x1 z_E_x1; try have l_E_x1 := Nat.lt_of_succ_le z_E_x1; try have m_E_x1 := Nat.lt_of_succ_lt l_E_x1; try have n_E_x1 := Nat.lt_of_succ_lt m_E_x1)
    go_ret
    exact ⟨ret_str R.out.symm, (by repeat (first | (with_reducible first | exact Ext.refl _ | assumption | apply Ext.alloc | apply Ext.drew | apply Ext.drewN | refine Ext.setCell ?_ ?_ _ | refine Ext.trans ?_ (by assumption)) | (show _ ≤ _; first | omega | (dsimp only; omega) | (simp; done) | (simp; omega))))⟩
  · have R := Lib.hid (show headH h ep r p = tagH 4 [headText h ep r p] 16 by rw [headH, if_pos hh])
    have H := Lib.hid hh
    clear hh
    go_enter Tryz.func27, Tryz.ntmps27
    go_wp2_with (go_at_call 60; refine (impl_HeadText _ _ _ _ _).mono ?_; rw [H.out]; rintro e w1 ⟨rfl, x1⟩; have E_x1 := Old.of x1; (repeat (first | (replace E_x1 := Old.undrew E_x1) | (replace E_x1 := Old.undrewN E_x1))); have c_E_x1 := Old.cell E_x1; have f_E_x1 := Old.frozen E_x1; have z_E_x1 := Old.size E_x1; try simp only [World.size_alloc] at c_E_x1 f_E_x1 z_E_x1; try have l_E_x1 := Nat.lt_of_succ_le z_E_x1; try have m_E_x1 := Nat.lt_of_succ_lt l_E_x1; try have n_E_x1 := Nat.lt_of_succ_lt m_E_x1)
    refine (impl_hashOf 4 _ [headText h ep r p] 16 _ (by exact strs_lit1 _ _ _) (fit1 (le_max hz (by omega))) (by exact HT.out.ext (by repeat (first | (with_reducible first | exact Ext.refl _ | assumption | apply Ext.alloc | apply Ext.drew | apply Ext.drewN | refine Ext.setCell ?_ ?_ _ | refine Ext.trans ?_ (by assumption)) | (show _ ≤ _; first | omega | (dsimp only; omega) | (simp; done) | (simp; omega)))))).mono ?_
    rintro e w2 ⟨rfl, x2⟩
    go_wp2
    go_ret
    exact ⟨ret_str R.out.symm, (by repeat (first | (with_reducible first | exact Ext.refl _ | assumption | apply Ext.alloc | apply Ext.drew | apply Ext.drewN | refine Ext.setCell ?_ ?_ _ | refine Ext.trans ?_ (by assumption)) | (show _ ≤ _; first | omega | (dsimp only; omega) | (simp; done) | (simp; omega))))⟩
set_option maxHeartbeats 800000 in
theorem spec_HeadHash (h ep : Int) (r p : ByteArray) (w : World) :
    Calls Tryz.prog 31 #[.agg #[.int .i64 h, .int .i64 ep, .string r, .string p]] w fun e w' => e = .returned (.string (headH h ep r p)) ∧ Ext w w' := by
  have hz := headText_le h ep r p
  cases hh : headOk h ep r p
  · have R := Lib.hid (show headH h ep r p = ⟨#[]⟩ by rw [headH, if_neg (by rw [hh]; decide)])
    have H := Lib.hid hh
    clear hh
    go_enter Tryz.func31, Tryz.ntmps31
    go_wp2_with (go_at_call 67; refine (spec_HeadText _ _ _ _ _).mono ?_; rw [H.out]; rintro e w1 ⟨rfl, x1⟩; have E_x1 := Old.of x1; (repeat (first | (replace E_x1 := Old.undrew E_x1) | (replace E_x1 := Old.undrewN E_x1))); have c_E_x1 := Old.cell E_x1; have f_E_x1 := Old.frozen E_x1; have z_E_x1 := Old.size E_x1; try simp only [World.size_alloc] at c_E_x1 f_E_x1 z_E_x1; try have l_E_x1 := Nat.lt_of_succ_le z_E_x1; try have m_E_x1 := Nat.lt_of_succ_lt l_E_x1; try have n_E_x1 := Nat.lt_of_succ_lt m_E_x1)
    go_ret
    exact ⟨ret_str R.out.symm, (by repeat (first | (with_reducible first | exact Ext.refl _ | assumption | apply Ext.alloc | apply Ext.drew | apply Ext.drewN | refine Ext.setCell ?_ ?_ _ | refine Ext.trans ?_ (by assumption)) | (show _ ≤ _; first | omega | (dsimp only; omega) | (simp; done) | (simp; omega))))⟩
  · have R := Lib.hid (show headH h ep r p = tagH 4 [headText h ep r p] 16 by rw [headH, if_pos hh])
    have H := Lib.hid hh
    clear hh
    go_enter Tryz.func31, Tryz.ntmps31
    go_wp2_with (go_at_call 67; refine (spec_HeadText _ _ _ _ _).mono ?_; rw [H.out]; rintro e w1 ⟨rfl, x1⟩; have E_x1 := Old.of x1; (repeat (first | (replace E_x1 := Old.undrew E_x1) | (replace E_x1 := Old.undrewN E_x1))); have c_E_x1 := Old.cell E_x1; have f_E_x1 := Old.frozen E_x1; have z_E_x1 := Old.size E_x1; try simp only [World.size_alloc] at c_E_x1 f_E_x1 z_E_x1; try have l_E_x1 := Nat.lt_of_succ_le z_E_x1; try have m_E_x1 := Nat.lt_of_succ_lt l_E_x1; try have n_E_x1 := Nat.lt_of_succ_lt m_E_x1)
    refine (spec_TagHash 4 _ [headText h ep r p] 16 _ (by exact strs_lit1 _ _ _) (fit1 (le_max hz (by omega)))).mono ?_
    rintro e w2 ⟨rfl, x2⟩
    go_wp2
    go_ret
    exact ⟨ret_str R.out.symm, (by repeat (first | (with_reducible first | exact Ext.refl _ | assumption | apply Ext.alloc | apply Ext.drew | apply Ext.drewN | refine Ext.setCell ?_ ?_ _ | refine Ext.trans ?_ (by assumption)) | (show _ ≤ _; first | omega | (dsimp only; omega) | (simp; done) | (simp; omega))))⟩
end Go.Proofs.YtkphipgfcbckcaaGreatDoor

namespace Go.Proofs.YtkphipgfcbckcaaGreatDoor
open Go.RowKit

def stampH (h ep : Int) (r p : ByteArray) : ByteArray := tagH 8 [headH h ep r p] 16
theorem headH_32 (h ep : Int) (r p : ByteArray) : (headH h ep r p).size ≤ 32 := by
  unfold headH
  split
  · exact tagH_le _ _ _
  · exact Nat.zero_le _
theorem headH_le (h ep : Int) (r p : ByteArray) : (headH h ep r p).size ≤ maxLen := le_max (headH_32 h ep r p) (by omega)
set_option maxHeartbeats 800000 in
theorem impl_stampText (h ep : Int) (r p : ByteArray) (w : World) (hT : Tabs w) :
    Calls Tryz.prog 33 #[.agg #[.int .i64 h, .int .i64 ep, .string r, .string p]] w fun e w' => e = .returned (.string (stampH h ep r p)) ∧ Ext w w' := by
  have HT := Lib.hid hT
  clear hT
  have ff := fit1 (headH_le h ep r p)
  have R := Lib.hid (show stampH h ep r p = tagH 8 [headH h ep r p] 16 from rfl)
  go_enter Tryz.func33, Tryz.ntmps33
  go_wp2_with fail
  refine (impl_HeadHash _ _ _ _ _ (by exact HT.out.ext (by repeat (first | (with_reducible first | exact Ext.refl _ | assumption | apply Ext.alloc | apply Ext.drew | apply Ext.drewN | refine Ext.setCell ?_ ?_ _ | refine Ext.trans ?_ (by assumption)) | (show _ ≤ _; first | omega | (dsimp only; omega) | (simp; done) | (simp; omega)))))).mono ?_
  generalize headH h ep r p = H at *
  rintro e w1 ⟨rfl, x1⟩
  go_wp2_with fail
  refine (impl_hashOf 8 _ [H] 16 _ (by exact strs_lit1 _ _ _) ff (by exact HT.out.ext (by repeat (first | (with_reducible first | exact Ext.refl _ | assumption | apply Ext.alloc | apply Ext.drew | apply Ext.drewN | refine Ext.setCell ?_ ?_ _ | refine Ext.trans ?_ (by assumption)) | (show _ ≤ _; first | omega | (dsimp only; omega) | (simp; done) | (simp; omega)))))).mono ?_
  rintro e w2 ⟨rfl, x2⟩
  go_wp2
  go_ret
  exact ⟨ret_str R.out.symm, (by repeat (first | (with_reducible first | exact Ext.refl _ | assumption | apply Ext.alloc | apply Ext.drew | apply Ext.drewN | refine Ext.setCell ?_ ?_ _ | refine Ext.trans ?_ (by assumption)) | (show _ ≤ _; first | omega | (dsimp only; omega) | (simp; done) | (simp; omega))))⟩
set_option maxHeartbeats 800000 in
theorem spec_l14Stamp (h ep : Int) (r p : ByteArray) (w : World) :
    Calls Tryz.prog 35 #[.agg #[.int .i64 h, .int .i64 ep, .string r, .string p]] w fun e w' => e = .returned (.string (stampH h ep r p)) ∧ Ext w w' := by
  have ff := fit1 (headH_le h ep r p)
  have R := Lib.hid (show stampH h ep r p = tagH 8 [headH h ep r p] 16 from rfl)
  go_enter Tryz.func35, Tryz.ntmps35
  go_wp2_with fail
  refine (spec_HeadHash _ _ _ _ _).mono ?_
  generalize headH h ep r p = H at *
  rintro e w1 ⟨rfl, x1⟩
  go_wp2_with fail
  refine (spec_TagHash 8 _ [H] 16 _ (by exact strs_lit1 _ _ _) ff).mono ?_
  rintro e w2 ⟨rfl, x2⟩
  go_wp2
  go_ret
  exact ⟨ret_str R.out.symm, (by repeat (first | (with_reducible first | exact Ext.refl _ | assumption | apply Ext.alloc | apply Ext.drew | apply Ext.drewN | refine Ext.setCell ?_ ?_ _ | refine Ext.trans ?_ (by assumption)) | (show _ ≤ _; first | omega | (dsimp only; omega) | (simp; done) | (simp; omega))))⟩
end Go.Proofs.YtkphipgfcbckcaaGreatDoor
namespace Go.Proofs.YtkphipgfcbckcaaGreatDoor
open Go.RowKit

def sealOkB (root : ByteArray) (hh ep : Int) (r p : ByteArray) (s : SigV) : Bool := headOk hh ep r p && (decide (s.at_ = sealAt ep) && sigOkB root (headH hh ep r p) s)
end Go.Proofs.YtkphipgfcbckcaaGreatDoor

namespace Go.Proofs.YtkphipgfcbckcaaGreatDoor
open Go.RowKit

/-- what a signed head is -/
def slV (seed : ByteArray) (pool : List ByteArray) (h ep : Int) (r p : ByteArray) : SigV := if headOk h ep r p = true then sgnV seed pool (sealAt ep) (headH h ep r p) else ⟨0, [], [], []⟩
def slK (seed : ByteArray) (pool : List ByteArray) (h ep : Int) (r p : ByteArray) : Bool := headOk h ep r p && sgnOk seed pool (sealAt ep) (headH h ep r p)
def slI (ok : Bool) (h : Int) : Int := if ok = true then h else 0
def slS (ok : Bool) (r : ByteArray) : ByteArray := if ok = true then r else ⟨#[]⟩
set_option maxRecDepth 100000 in
set_option maxHeartbeats 6400000 in
theorem spec_SealHead (seed : ByteArray) (v : Value) (pool : List ByteArray) (h ep : Int) (r p : ByteArray) (w : World) (hst : Strs w v pool) (hs : ∀ s ∈ pool, s.size ≤ maxLen) (hsol : Solid v) :
    Calls Tryz.prog 7 #[.string seed, v, .agg #[.int .i64 h, .int .i64 ep, .string r, .string p]] w fun e w' => ∃ a1 c1 a2 c2 a3 c3, e = .returned (.tuple #[.agg #[.int .i64 (slI (slK seed pool h ep r p) h), .int .i64 (slI (slK seed pool h ep r p) ep), .string (slS (slK seed pool h ep r p) r), .string (slS (slK seed pool h ep r p) p), .int .i64 (slV seed pool h ep r p).at_, .slice a1 (slV seed pool h ep r p).op.length c1, .slice a2 (slV seed pool h ep r p).sh.length c2, .slice a3 (slV seed pool h ep r p).si.length c3], .bool (slK seed pool h ep r p)]) ∧ SigOwn w' w.heap.size (.slice a1 (slV seed pool h ep r p).op.length c1) (.slice a2 (slV seed pool h ep r p).sh.length c2) (.slice a3 (slV seed pool h ep r p).si.length c3) (slV seed pool h ep r p) ∧ Ext w w' := by
  obtain ⟨pa, pc, rfl⟩ := hst.form
  have HST := Lib.hid hst
  clear hst
  cases hh : headOk h ep r p
  · have HV := Lib.hid (show slV seed pool h ep r p = ⟨0, [], [], []⟩ by rw [slV, if_neg (by rw [hh]; decide)])
    have HK := Lib.hid (show slK seed pool h ep r p = false by rw [slK, hh]; rfl)
    have HH := Lib.hid hh
    clear hh
    go_enter Tryz.func7, Tryz.ntmps7
    go_wp2_with fail
    have P : Bx ((w.alloc (Obj.cells #[.int .i64 h, .int .i64 ep, .string r, .string p] 26)).alloc (Obj.cells #[.int .i64 0, .int .i64 0, .string ⟨#[]⟩, .string ⟨#[]⟩, .int .i64 0, .slice none 0 0, .slice none 0 0, .slice none 0 0] 32)) w.heap.size [.int .i64 h, .int .i64 ep, .string r, .string p] := (Bx.new w _ _).ext ((Ext.refl _).alloc _)
    have R := Bx.new (w.alloc (Obj.cells #[.int .i64 h, .int .i64 ep, .string r, .string p] 26)) #[.int .i64 0, .int .i64 0, .string ⟨#[]⟩, .string ⟨#[]⟩, .int .i64 0, .slice none 0 0, .slice none 0 0, .slice none 0 0] 32
    rw [World.size_alloc] at R
    have X : Ext w ((w.alloc (Obj.cells #[.int .i64 h, .int .i64 ep, .string r, .string p] 26)).alloc (Obj.cells #[.int .i64 0, .int .i64 0, .string ⟨#[]⟩, .string ⟨#[]⟩, .int .i64 0, .slice none 0 0, .slice none 0 0, .slice none 0 0] 32)) := ((Ext.refl w).alloc _).alloc _
    replace HST := Lib.hid (HST.out.ext X)
    generalize (w.alloc (Obj.cells #[.int .i64 h, .int .i64 ep, .string r, .string p] 26)).alloc (Obj.cells #[.int .i64 0, .int .i64 0, .string ⟨#[]⟩, .string ⟨#[]⟩, .int .i64 0, .slice none 0 0, .slice none 0 0, .slice none 0 0] 32) = W0 at *
    refine (spec_HeadOk _ _ _ _ _).mono ?_
    rw [HH.out]
    rintro e w1 ⟨rfl, x1⟩
    replace P := P.ext x1
    replace R := R.ext x1
    replace HST := Lib.hid (HST.out.ext x1)
    replace X := X.trans x1
    have z0 := R.2.1 0 _ rfl
    have z1 := R.2.1 1 _ rfl
    have z2 := R.2.1 2 _ rfl
    have z3 := R.2.1 3 _ rfl
    have z4 := R.2.1 4 _ rfl
    have z5 := R.2.1 5 _ rfl
    have z6 := R.2.1 6 _ rfl
    have z7 := R.2.1 7 _ rfl
    have f0 := R.2.2 0
    have f1 := R.2.2 1
    have f2 := R.2.2 2
    have f3 := R.2.2 3
    have f4 := R.2.2 4
    have f5 := R.2.2 5
    have f6 := R.2.2 6
    have f7 := R.2.2 7
    have XF : Ext w ((((((((w1.setCell ⟨w.heap.size + 1, 0, none⟩ (.int .i64 0)).setCell ⟨w.heap.size + 1, 1, none⟩ (.int .i64 0)).setCell ⟨w.heap.size + 1, 2, none⟩ (.string ⟨#[]⟩)).setCell ⟨w.heap.size + 1, 3, none⟩ (.string ⟨#[]⟩)).setCell ⟨w.heap.size + 1, 4, none⟩ (.int .i64 0)).setCell ⟨w.heap.size + 1, 5, none⟩ (.slice none 0 0)).setCell ⟨w.heap.size + 1, 6, none⟩ (.slice none 0 0)).setCell ⟨w.heap.size + 1, 7, none⟩ (.slice none 0 0)) := ((((((((X.setCell (by dsimp only; omega) _).setCell (by dsimp only; omega) _).setCell (by dsimp only; omega) _).setCell (by dsimp only; omega) _).setCell (by dsimp only; omega) _).setCell (by dsimp only; omega) _).setCell (by dsimp only; omega) _).setCell (by dsimp only; omega) _)
    have RF := ((((((((R.set 0 (.int .i64 0) (by simp)).set 1 (.int .i64 0) (by simp)).set 2 (.string ⟨#[]⟩) (by simp)).set 3 (.string ⟨#[]⟩) (by simp)).set 4 (.int .i64 0) (by simp)).set 5 (.slice none 0 0) (by simp)).set 6 (.slice none 0 0) (by simp)).set 7 (.slice none 0 0) (by simp))
    go_wp2
    generalize (((((((w1.setCell ⟨w.heap.size + 1, 0, none⟩ (.int .i64 0)).setCell ⟨w.heap.size + 1, 1, none⟩ (.int .i64 0)).setCell ⟨w.heap.size + 1, 2, none⟩ (.string ⟨#[]⟩)).setCell ⟨w.heap.size + 1, 3, none⟩ (.string ⟨#[]⟩)).setCell ⟨w.heap.size + 1, 4, none⟩ (.int .i64 0)).setCell ⟨w.heap.size + 1, 5, none⟩ (.slice none 0 0)).setCell ⟨w.heap.size + 1, 6, none⟩ (.slice none 0 0)).setCell ⟨w.heap.size + 1, 7, none⟩ (.slice none 0 0) = WF at *
    have k0 := RF.2.1 0 _ rfl
    have k1 := RF.2.1 1 _ rfl
    have k2 := RF.2.1 2 _ rfl
    have k3 := RF.2.1 3 _ rfl
    have k4 := RF.2.1 4 _ rfl
    have k5 := RF.2.1 5 _ rfl
    have k6 := RF.2.1 6 _ rfl
    have k7 := RF.2.1 7 _ rfl
    refine bodyPost_ret (v := .tuple #[.agg #[.int .i64 0, .int .i64 0, .string ⟨#[]⟩, .string ⟨#[]⟩, .int .i64 0, .slice none 0 0, .slice none 0 0, .slice none 0 0], .bool false]) (by simp [results, Tryz.results7, go_sem, k0, k1, k2, k3, k4, k5, k6, k7]) rfl ?_
    rw [HV.out, HK.out]
    exact ⟨_, _, _, _, _, _, rfl, sigOwn_nil _ _, XF⟩
  · have HV := Lib.hid (show slV seed pool h ep r p = sgnV seed pool (sealAt ep) (headH h ep r p) by rw [slV, if_pos hh])
    have HK := Lib.hid (show slK seed pool h ep r p = sgnOk seed pool (sealAt ep) (headH h ep r p) by rw [slK, hh]; rfl)
    have HH := Lib.hid hh
    clear hh
    rw [HV.out, HK.out]
    clear HV HK
    go_enter Tryz.func7, Tryz.ntmps7
    go_wp2_with fail
    have P : Bx ((w.alloc (Obj.cells #[.int .i64 h, .int .i64 ep, .string r, .string p] 26)).alloc (Obj.cells #[.int .i64 0, .int .i64 0, .string ⟨#[]⟩, .string ⟨#[]⟩, .int .i64 0, .slice none 0 0, .slice none 0 0, .slice none 0 0] 32)) w.heap.size [.int .i64 h, .int .i64 ep, .string r, .string p] := (Bx.new w _ _).ext ((Ext.refl _).alloc _)
    have R := Bx.new (w.alloc (Obj.cells #[.int .i64 h, .int .i64 ep, .string r, .string p] 26)) #[.int .i64 0, .int .i64 0, .string ⟨#[]⟩, .string ⟨#[]⟩, .int .i64 0, .slice none 0 0, .slice none 0 0, .slice none 0 0] 32
    rw [World.size_alloc] at R
    have X : Ext w ((w.alloc (Obj.cells #[.int .i64 h, .int .i64 ep, .string r, .string p] 26)).alloc (Obj.cells #[.int .i64 0, .int .i64 0, .string ⟨#[]⟩, .string ⟨#[]⟩, .int .i64 0, .slice none 0 0, .slice none 0 0, .slice none 0 0] 32)) := ((Ext.refl w).alloc _).alloc _
    replace HST := Lib.hid (HST.out.ext X)
    generalize (w.alloc (Obj.cells #[.int .i64 h, .int .i64 ep, .string r, .string p] 26)).alloc (Obj.cells #[.int .i64 0, .int .i64 0, .string ⟨#[]⟩, .string ⟨#[]⟩, .int .i64 0, .slice none 0 0, .slice none 0 0, .slice none 0 0] 32) = W0 at *
    refine (spec_HeadOk _ _ _ _ _).mono ?_
    rw [HH.out]
    rintro e w1 ⟨rfl, x1⟩
    replace P := P.ext x1
    replace R := R.ext x1
    replace HST := Lib.hid (HST.out.ext x1)
    replace X := X.trans x1
    have p0 := P.2.1 0 _ rfl
    have p1 := P.2.1 1 _ rfl
    have p2 := P.2.1 2 _ rfl
    have p3 := P.2.1 3 _ rfl
    go_wp2_with fail
    clear p0 p1 p2 p3
    refine wp_region_held_drew (S := (fun W => W.cell? ⟨w.heap.size, 0, none⟩ = some (.int .i64 h) ∧ W.cell? ⟨w.heap.size, 1, none⟩ = some (.int .i64 ep) ∧ W.cell? ⟨w.heap.size, 2, none⟩ = some (.string r) ∧ W.cell? ⟨w.heap.size, 3, none⟩ = some (.string p))) (by kernel_rfl) (by exact ⟨P.2.1 0 _ rfl, P.2.1 1 _ rfl, P.2.1 2 _ rfl, P.2.1 3 _ rfl⟩) (fun hHeld => ?_)
    have xd : Ext w1 w1.drew := (Ext.refl w1).drew
    replace P := P.ext xd
    replace R := R.ext xd
    replace HST := Lib.hid (HST.out.ext xd)
    replace X := X.trans xd
    generalize w1.drew = w2 at *
    have p0 := P.2.1 0 _ rfl
    have p1 := P.2.1 1 _ rfl
    have p2 := P.2.1 2 _ rfl
    have p3 := P.2.1 3 _ rfl
    (refine wpAnyH_take (i := 0) (v := ?_) rfl (by kernel_rfl) (by kernel_rfl) (by kernel_rfl) (fun _ _ _ h => h) (Or.inl ⟨by rfl, ?_⟩) (by assumption) ?_; rotate_left; focus (intro w hSw; (try dsimp only at hSw); (try simp only [zk1, zk2]); go_simp; try with_reducible rfl)); (try simp only [zk1, zk2]); (try simp only [Act.put, zk4, zk5, zk6])
    (refine wpAnyH_take (i := 1) (v := ?_) rfl (by kernel_rfl) (by kernel_rfl) (by kernel_rfl) (fun _ _ _ h => h) (Or.inl ⟨by rfl, ?_⟩) (by assumption) ?_; rotate_left; focus (intro w hSw; (try dsimp only at hSw); (try simp only [zk1, zk2, zk3]); go_simp; try with_reducible rfl)); (try simp only [zk1, zk2, zk3]); (try simp only [Act.put, zk4, zk5, zk6])
    (refine wpAnyH_take (i := 2) (v := ?_) rfl (by kernel_rfl) (by kernel_rfl) (by kernel_rfl) (fun _ _ _ h => h) (Or.inl ⟨by rfl, ?_⟩) (by assumption) ?_; rotate_left; focus (intro w hSw; (try dsimp only at hSw); (try simp only [zk1, zk2, zk3]); go_simp; try with_reducible rfl)); (try simp only [zk1, zk2, zk3]); (try simp only [Act.put, zk4, zk5, zk6])
    (refine wpAnyH_take (i := 3) (v := ?_) rfl (by kernel_rfl) (by kernel_rfl) (by kernel_rfl) (fun _ _ _ h => h) (Or.inl ⟨by rfl, ?_⟩) (by assumption) ?_; rotate_left; focus (intro w hSw; (try dsimp only at hSw); (try simp only [zk1, zk2, zk3]); go_simp; try with_reducible rfl)); (try simp only [zk1, zk2, zk3]); (try simp only [Act.put, zk4, zk5, zk6])
    (refine wpAnyH_take (i := 5) (v := ?_) rfl (by kernel_rfl) (by kernel_rfl) (by kernel_rfl) (fun _ _ _ h => h) (Or.inl ⟨by rfl, ?_⟩) (by assumption) ?_; rotate_left; focus (intro w hSw; (try dsimp only at hSw); (try simp only [zk1, zk2, zk3]); go_simp; try with_reducible rfl)); (try simp only [zk1, zk2, zk3]); (try simp only [Act.put, zk4, zk5, zk6])
    refine wpAnyH_ready (rs := [4, 11]) (by kernel_rfl) (by simp) ?_
    refine AllReadyH.cons rfl (fun K hK => ?_) (AllReadyH.cons rfl (fun K hK => ?_) AllReadyH.nil)
    · (try simp only [zk1, zk2, zk3])
      go_simp
      go_at_call 30
      refine (spec_SealAt ep _).mono ?_
      generalize hsa : sealAt ep = sa at *
      have HSA := Lib.hid hsa
      clear hsa
      rintro e w' ⟨rfl, rfl⟩
      (try dsimp only)
      refine hK.out _ _ (by exact ⟨P.2.1 0 _ rfl, P.2.1 1 _ rfl, P.2.1 2 _ rfl, P.2.1 3 _ rfl⟩) (fun hHeld => ?_)
      clear hK K
      refine wpAnyH_ready (rs := [6, 11]) (by kernel_rfl) (by simp) ?_
      refine AllReadyH.cons rfl (fun K hK => ?_) (AllReadyH.cons rfl (fun K hK => ?_) AllReadyH.nil)
      · (try simp only [zk1, zk2, zk3])
        go_simp
        go_at_call 31
        refine (spec_HeadHash h ep r p _).mono ?_
        generalize htx : headH h ep r p = tx at *
        have HTX := Lib.hid htx
        clear htx
        rintro e u4 ⟨rfl, xh⟩
        (try clear p0 p1 p2 p3)
        replace P := P.ext xh
        replace R := R.ext xh
        replace HST := Lib.hid (HST.out.ext xh)
        replace X := X.trans xh
        (try dsimp only)
        refine hK.out _ _ (by exact ⟨P.2.1 0 _ rfl, P.2.1 1 _ rfl, P.2.1 2 _ rfl, P.2.1 3 _ rfl⟩) (fun hHeld => ?_)
        clear hK K
        refine wpAnyH_ready (rs := [7, 11]) (by kernel_rfl) (by simp) ?_
        refine AllReadyH.cons rfl (fun K hK => ?_) (AllReadyH.cons rfl (fun K hK => ?_) AllReadyH.nil)
        · (try simp only [zk1, zk2, zk3])
          go_simp
          go_at_call 29
          refine (spec_SignText seed tx _ pool sa _ HST.out hs hsol).mono ?_
          generalize hS : sgnV seed pool sa tx = S at *
          generalize hok : sgnOk seed pool sa tx = ok at *
          have HS := Lib.hid hS
          have HO := Lib.hid hok
          have HZ := Lib.hid (show ok = false → S = ⟨0, [], [], []⟩ from fun e => by rw [← hS]; exact sgn_no (hok.trans e))
          clear hS hok
          rintro e u5 ⟨a1, c1, a2, c2, a3, c3, rfl, so, xs⟩
          have lr : w.heap.size + 1 < u4.heap.size := R.1
          have SO := so.mono (show w.heap.size + 2 ≤ u4.heap.size by omega)
          clear so
          have B0 := fun v n l (o : World.ownsRow u5 (w.heap.size + 2) 9 1 v n l) k (hk : v.ownBlock = some k) => (own_lt o k hk).2
          have B1 := fun k hk => Nat.ne_of_lt (B0 _ _ _ SO.1 k hk)
          have B2 := fun k hk => Nat.ne_of_lt (B0 _ _ _ SO.2.1 k hk)
          have B3 := fun k hk => Nat.ne_of_lt (B0 _ _ _ SO.2.2.1 k hk)
          clear B0
          replace P := P.ext xs
          replace R := R.ext xs
          replace HST := Lib.hid (HST.out.ext xs)
          replace X := X.trans xs
          (try dsimp only)
          refine hK.out _ _ (by exact ⟨P.2.1 0 _ rfl, P.2.1 1 _ rfl, P.2.1 2 _ rfl, P.2.1 3 _ rfl⟩) (fun hHeld => ?_)
          clear hK K
          (refine wpAnyH_take (i := 8) (v := ?_) rfl (by kernel_rfl) (by kernel_rfl) (by kernel_rfl) (fun _ _ _ h => h) (Or.inl ⟨by rfl, ?_⟩) (by assumption) ?_; rotate_left; focus (intro w hSw; (try dsimp only at hSw); (try simp only [zk1, zk2, zk3]); go_simp; try with_reducible rfl)); (try simp only [zk1, zk2, zk3]); (try simp only [Act.put, zk4, zk5, zk6])
          (refine wpAnyH_take (i := 9) (v := ?_) rfl (by kernel_rfl) (by kernel_rfl) (by kernel_rfl) (fun _ _ _ h => h) (Or.inl ⟨by rfl, ?_⟩) (by assumption) ?_; rotate_left; focus (intro w hSw; (try dsimp only at hSw); (try simp only [zk1, zk2, zk3]); go_simp; try with_reducible rfl)); (try simp only [zk1, zk2, zk3]); (try simp only [Act.put, zk4, zk5, zk6])
          (refine wpAnyH_take (i := 10) (v := ?_) rfl (by kernel_rfl) (by kernel_rfl) (by kernel_rfl) (fun _ _ _ h => h) (Or.inl ⟨by rfl, ?_⟩) (by assumption) ?_; rotate_left; focus (intro w hSw; (try dsimp only at hSw); (try simp only [zk1, zk2, zk3]); go_simp; try with_reducible rfl)); (try simp only [zk1, zk2, zk3]); (try simp only [Act.put, zk4, zk5, zk6])
          refine wpAnyH_ready (rs := [11]) (by kernel_rfl) (by simp) ?_
          refine AllReadyH.cons rfl (fun K hK => ?_) AllReadyH.nil
          (try simp only [zk1, zk2, zk3])
          go_simp
          have ez : Ext u5 (u5.alloc (Obj.cells #[.int .i64 0, .slice none 0 0, .slice none 0 0, .slice none 0 0] 30)) := (Ext.refl _).alloc _
          have Q := Bx.new u5 #[.int .i64 0, .slice none 0 0, .slice none 0 0, .slice none 0 0] 30
          have lq : w.heap.size + 1 < u5.heap.size := R.1
          replace P := P.ext ez
          replace R := R.ext ez
          replace HST := Lib.hid (HST.out.ext ez)
          replace X := X.trans ez
          replace SO := SO.ext ez
          generalize u5.alloc (Obj.cells #[.int .i64 0, .slice none 0 0, .slice none 0 0, .slice none 0 0] 30) = u6 at *
          generalize hqb : u5.heap.size = qb at *
          clear hqb
          (try dsimp only)
          refine hK.out _ _ (by exact ⟨P.2.1 0 _ rfl, P.2.1 1 _ rfl, P.2.1 2 _ rfl, P.2.1 3 _ rfl⟩) (fun hHeld => ?_)
          clear hK K
          have lr2 : qb ≠ w.heap.size + 1 := by omega
          have z0 := Q.2.1 0 _ rfl
          have z1 := Q.2.1 1 _ rfl
          have z2 := Q.2.1 2 _ rfl
          have z3 := Q.2.1 3 _ rfl
          have f0 := Q.2.2 0
          have f1 := Q.2.2 1
          have f2 := Q.2.2 2
          have f3 := Q.2.2 3
          have XQ : Ext w ((((u6.setCell ⟨qb, 0, none⟩ (.int .i64 S.at_)).setCell ⟨qb, 1, none⟩ (.slice a1 S.op.length c1)).setCell ⟨qb, 2, none⟩ (.slice a2 S.sh.length c2)).setCell ⟨qb, 3, none⟩ (.slice a3 S.si.length c3)) := ((((X.setCell (by dsimp only; omega) _).setCell (by dsimp only; omega) _).setCell (by dsimp only; omega) _).setCell (by dsimp only; omega) _)
          have QQ := ((((Q.set 0 (.int .i64 S.at_) (by simp)).set 1 (.slice a1 S.op.length c1) (by simp)).set 2 (.slice a2 S.sh.length c2) (by simp)).set 3 (.slice a3 S.si.length c3) (by simp))
          have PQ := ((((P.far (c := qb) (by omega) 0 (.int .i64 S.at_)).far (c := qb) (by omega) 1 (.slice a1 S.op.length c1)).far (c := qb) (by omega) 2 (.slice a2 S.sh.length c2)).far (c := qb) (by omega) 3 (.slice a3 S.si.length c3))
          have RQ := ((((R.far (c := qb) (by omega) 0 (.int .i64 S.at_)).far (c := qb) (by omega) 1 (.slice a1 S.op.length c1)).far (c := qb) (by omega) 2 (.slice a2 S.sh.length c2)).far (c := qb) (by omega) 3 (.slice a3 S.si.length c3))
          have SQ := ((((SO.far B1 B2 B3 0 (.int .i64 S.at_)).far B1 B2 B3 1 (.slice a1 S.op.length c1)).far B1 B2 B3 2 (.slice a2 S.sh.length c2)).far B1 B2 B3 3 (.slice a3 S.si.length c3))
          clear HST
          (refine wpAnyH_ready (rs := [12]) (by kernel_rfl) (by simp) ?_; refine AllReadyH.cons rfl (fun K hK => ?_) AllReadyH.nil; (try simp only [zk1, zk2, zk3]))
          go_simp
          clear z0 z1 z2 z3 f0 f1 f2 f3
          replace P := PQ
          replace Q := QQ
          replace R := RQ
          replace SO := SQ
          replace X := XQ
          clear PQ QQ RQ SQ XQ
          generalize (((u6.setCell ⟨qb, 0, none⟩ (.int .i64 S.at_)).setCell ⟨qb, 1, none⟩ (.slice a1 S.op.length c1)).setCell ⟨qb, 2, none⟩ (.slice a2 S.sh.length c2)).setCell ⟨qb, 3, none⟩ (.slice a3 S.si.length c3) = W6 at *
          (try dsimp only)
          refine hK.out _ _ (by exact ⟨P.2.1 0 _ rfl, P.2.1 1 _ rfl, P.2.1 2 _ rfl, P.2.1 3 _ rfl⟩) (fun hHeld => ?_)
          clear hK K
          (refine wpAnyH_take (i := 13) (v := ?_) rfl (by kernel_rfl) (by kernel_rfl) (by kernel_rfl) (fun _ _ _ h => h) (Or.inl ⟨by rfl, ?_⟩) (by assumption) ?_; rotate_left; focus (intro w hSw; (try dsimp only at hSw); (try simp only [zk1, zk2, zk3]); go_simp; try with_reducible rfl)); (try simp only [zk1, zk2, zk3]); (try simp only [Act.put, zk4, zk5, zk6])
          refine wpAnyH_done (by kernel_rfl) ?_ _
          cases ok
          · have hz := HZ.out rfl
            clear HZ
            subst hz
            have z0 := R.2.1 0 _ rfl
            have z1 := R.2.1 1 _ rfl
            have z2 := R.2.1 2 _ rfl
            have z3 := R.2.1 3 _ rfl
            have z4 := R.2.1 4 _ rfl
            have z5 := R.2.1 5 _ rfl
            have z6 := R.2.1 6 _ rfl
            have z7 := R.2.1 7 _ rfl
            have f0 := R.2.2 0
            have f1 := R.2.2 1
            have f2 := R.2.2 2
            have f3 := R.2.2 3
            have f4 := R.2.2 4
            have f5 := R.2.2 5
            have f6 := R.2.2 6
            have f7 := R.2.2 7
            have XF : Ext w ((((((((W6.setCell ⟨w.heap.size + 1, 0, none⟩ (.int .i64 0)).setCell ⟨w.heap.size + 1, 1, none⟩ (.int .i64 0)).setCell ⟨w.heap.size + 1, 2, none⟩ (.string ⟨#[]⟩)).setCell ⟨w.heap.size + 1, 3, none⟩ (.string ⟨#[]⟩)).setCell ⟨w.heap.size + 1, 4, none⟩ (.int .i64 0)).setCell ⟨w.heap.size + 1, 5, none⟩ (.slice none 0 0)).setCell ⟨w.heap.size + 1, 6, none⟩ (.slice none 0 0)).setCell ⟨w.heap.size + 1, 7, none⟩ (.slice none 0 0)) := ((((((((X.setCell (by dsimp only; omega) _).setCell (by dsimp only; omega) _).setCell (by dsimp only; omega) _).setCell (by dsimp only; omega) _).setCell (by dsimp only; omega) _).setCell (by dsimp only; omega) _).setCell (by dsimp only; omega) _).setCell (by dsimp only; omega) _)
            have RF := ((((((((R.set 0 (.int .i64 0) (by simp)).set 1 (.int .i64 0) (by simp)).set 2 (.string ⟨#[]⟩) (by simp)).set 3 (.string ⟨#[]⟩) (by simp)).set 4 (.int .i64 0) (by simp)).set 5 (.slice none 0 0) (by simp)).set 6 (.slice none 0 0) (by simp)).set 7 (.slice none 0 0) (by simp))
            skip
            go_wp2
            generalize (((((((W6.setCell ⟨w.heap.size + 1, 0, none⟩ (.int .i64 0)).setCell ⟨w.heap.size + 1, 1, none⟩ (.int .i64 0)).setCell ⟨w.heap.size + 1, 2, none⟩ (.string ⟨#[]⟩)).setCell ⟨w.heap.size + 1, 3, none⟩ (.string ⟨#[]⟩)).setCell ⟨w.heap.size + 1, 4, none⟩ (.int .i64 0)).setCell ⟨w.heap.size + 1, 5, none⟩ (.slice none 0 0)).setCell ⟨w.heap.size + 1, 6, none⟩ (.slice none 0 0)).setCell ⟨w.heap.size + 1, 7, none⟩ (.slice none 0 0) = WF at *
            have k0 := RF.2.1 0 _ rfl
            have k1 := RF.2.1 1 _ rfl
            have k2 := RF.2.1 2 _ rfl
            have k3 := RF.2.1 3 _ rfl
            have k4 := RF.2.1 4 _ rfl
            have k5 := RF.2.1 5 _ rfl
            have k6 := RF.2.1 6 _ rfl
            have k7 := RF.2.1 7 _ rfl
            refine bodyPost_ret (v := .tuple #[.agg #[.int .i64 0, .int .i64 0, .string ⟨#[]⟩, .string ⟨#[]⟩, .int .i64 0, .slice none 0 0, .slice none 0 0, .slice none 0 0], .bool false]) (by simp [results, Tryz.results7, go_sem, k0, k1, k2, k3, k4, k5, k6, k7]) rfl ?_
            rw [HSA.out, HTX.out, HS.out, HO.out]
            exact ⟨none, 0, none, 0, none, 0, rfl, sigOwn_nil _ _, XF⟩
          · have p0 := P.2.1 0 _ rfl
            have p1 := P.2.1 1 _ rfl
            have p2 := P.2.1 2 _ rfl
            have p3 := P.2.1 3 _ rfl
            have q0 := Q.2.1 0 _ rfl
            have q1 := Q.2.1 1 _ rfl
            have q2 := Q.2.1 2 _ rfl
            have q3 := Q.2.1 3 _ rfl
            have z0 := R.2.1 0 _ rfl
            have z1 := R.2.1 1 _ rfl
            have z2 := R.2.1 2 _ rfl
            have z3 := R.2.1 3 _ rfl
            have z4 := R.2.1 4 _ rfl
            have z5 := R.2.1 5 _ rfl
            have z6 := R.2.1 6 _ rfl
            have z7 := R.2.1 7 _ rfl
            have f0 := R.2.2 0
            have f1 := R.2.2 1
            have f2 := R.2.2 2
            have f3 := R.2.2 3
            have f4 := R.2.2 4
            have f5 := R.2.2 5
            have f6 := R.2.2 6
            have f7 := R.2.2 7
            have XF : Ext w ((((((((W6.setCell ⟨w.heap.size + 1, 0, none⟩ (.int .i64 h)).setCell ⟨w.heap.size + 1, 1, none⟩ (.int .i64 ep)).setCell ⟨w.heap.size + 1, 2, none⟩ (.string r)).setCell ⟨w.heap.size + 1, 3, none⟩ (.string p)).setCell ⟨w.heap.size + 1, 4, none⟩ (.int .i64 S.at_)).setCell ⟨w.heap.size + 1, 5, none⟩ (.slice a1 S.op.length c1)).setCell ⟨w.heap.size + 1, 6, none⟩ (.slice a2 S.sh.length c2)).setCell ⟨w.heap.size + 1, 7, none⟩ (.slice a3 S.si.length c3)) := ((((((((X.setCell (by dsimp only; omega) _).setCell (by dsimp only; omega) _).setCell (by dsimp only; omega) _).setCell (by dsimp only; omega) _).setCell (by dsimp only; omega) _).setCell (by dsimp only; omega) _).setCell (by dsimp only; omega) _).setCell (by dsimp only; omega) _)
            have RF := ((((((((R.set 0 (.int .i64 h) (by simp)).set 1 (.int .i64 ep) (by simp)).set 2 (.string r) (by simp)).set 3 (.string p) (by simp)).set 4 (.int .i64 S.at_) (by simp)).set 5 (.slice a1 S.op.length c1) (by simp)).set 6 (.slice a2 S.sh.length c2) (by simp)).set 7 (.slice a3 S.si.length c3) (by simp))
            have SF := (((((((SO.set (b := w.heap.size + 1) (by omega) 0 (.int .i64 h)).set (b := w.heap.size + 1) (by omega) 1 (.int .i64 ep)).set (b := w.heap.size + 1) (by omega) 2 (.string r)).set (b := w.heap.size + 1) (by omega) 3 (.string p)).set (b := w.heap.size + 1) (by omega) 4 (.int .i64 S.at_)).set (b := w.heap.size + 1) (by omega) 5 (.slice a1 S.op.length c1)).set (b := w.heap.size + 1) (by omega) 6 (.slice a2 S.sh.length c2)).set (b := w.heap.size + 1) (by omega) 7 (.slice a3 S.si.length c3)
            go_wp2
            generalize (((((((W6.setCell ⟨w.heap.size + 1, 0, none⟩ (.int .i64 h)).setCell ⟨w.heap.size + 1, 1, none⟩ (.int .i64 ep)).setCell ⟨w.heap.size + 1, 2, none⟩ (.string r)).setCell ⟨w.heap.size + 1, 3, none⟩ (.string p)).setCell ⟨w.heap.size + 1, 4, none⟩ (.int .i64 S.at_)).setCell ⟨w.heap.size + 1, 5, none⟩ (.slice a1 S.op.length c1)).setCell ⟨w.heap.size + 1, 6, none⟩ (.slice a2 S.sh.length c2)).setCell ⟨w.heap.size + 1, 7, none⟩ (.slice a3 S.si.length c3) = WF at *
            have k0 := RF.2.1 0 _ rfl
            have k1 := RF.2.1 1 _ rfl
            have k2 := RF.2.1 2 _ rfl
            have k3 := RF.2.1 3 _ rfl
            have k4 := RF.2.1 4 _ rfl
            have k5 := RF.2.1 5 _ rfl
            have k6 := RF.2.1 6 _ rfl
            have k7 := RF.2.1 7 _ rfl
            refine bodyPost_ret (v := .tuple #[.agg #[.int .i64 h, .int .i64 ep, .string r, .string p, .int .i64 S.at_, .slice a1 S.op.length c1, .slice a2 S.sh.length c2, .slice a3 S.si.length c3], .bool true]) (by simp [results, Tryz.results7, go_sem, k0, k1, k2, k3, k4, k5, k6, k7]) rfl ?_
            rw [HSA.out, HTX.out, HS.out, HO.out]
            exact ⟨a1, c1, a2, c2, a3, c3, rfl, SF.mono (by omega), XF⟩
        · (try simp only [zk1, zk2, zk3])
          go_simp
          have ez : Ext u4 (u4.alloc (Obj.cells #[.int .i64 0, .slice none 0 0, .slice none 0 0, .slice none 0 0] 30)) := (Ext.refl _).alloc _
          have Q := Bx.new u4 #[.int .i64 0, .slice none 0 0, .slice none 0 0, .slice none 0 0] 30
          have lq : w.heap.size + 1 < u4.heap.size := R.1
          replace P := P.ext ez
          replace R := R.ext ez
          replace HST := Lib.hid (HST.out.ext ez)
          replace X := X.trans ez
          generalize u4.alloc (Obj.cells #[.int .i64 0, .slice none 0 0, .slice none 0 0, .slice none 0 0] 30) = u5 at *
          generalize hqb : u4.heap.size = qb at *
          clear hqb
          (try dsimp only)
          refine hK.out _ _ (by exact ⟨P.2.1 0 _ rfl, P.2.1 1 _ rfl, P.2.1 2 _ rfl, P.2.1 3 _ rfl⟩) (fun hHeld => ?_)
          clear hK K
          (refine wpAnyH_ready (rs := [7]) (by kernel_rfl) (by simp) ?_; refine AllReadyH.cons rfl (fun K hK => ?_) AllReadyH.nil)
          (try simp only [zk1, zk2, zk3])
          go_simp
          go_at_call 29
          refine (spec_SignText seed tx _ pool sa _ HST.out hs hsol).mono ?_
          generalize hS : sgnV seed pool sa tx = S at *
          generalize hok : sgnOk seed pool sa tx = ok at *
          have HS := Lib.hid hS
          have HO := Lib.hid hok
          have HZ := Lib.hid (show ok = false → S = ⟨0, [], [], []⟩ from fun e => by rw [← hS]; exact sgn_no (hok.trans e))
          clear hS hok
          rintro e u6 ⟨a1, c1, a2, c2, a3, c3, rfl, so, xs⟩
          have lr : w.heap.size + 1 < u5.heap.size := R.1
          have lqs : qb < u5.heap.size := Q.1
          have nq : qb ≠ w.heap.size + 1 := by omega
          have B1 := fun k (hk : Value.ownBlock (.slice a1 S.op.length c1) = some k) => Nat.ne_of_gt (Nat.lt_of_lt_of_le lqs (own_lt so.1 k hk).1)
          have B2 := fun k (hk : Value.ownBlock (.slice a2 S.sh.length c2) = some k) => Nat.ne_of_gt (Nat.lt_of_lt_of_le lqs (own_lt so.2.1 k hk).1)
          have B3 := fun k (hk : Value.ownBlock (.slice a3 S.si.length c3) = some k) => Nat.ne_of_gt (Nat.lt_of_lt_of_le lqs (own_lt so.2.2.1 k hk).1)
          have SO := so.mono (show w.heap.size + 2 ≤ u5.heap.size by omega)
          clear so
          replace P := P.ext xs
          replace R := R.ext xs
          replace HST := Lib.hid (HST.out.ext xs)
          replace X := X.trans xs
          replace Q := Q.ext xs
          (try dsimp only)
          refine hK.out _ _ (by exact ⟨P.2.1 0 _ rfl, P.2.1 1 _ rfl, P.2.1 2 _ rfl, P.2.1 3 _ rfl⟩) (fun hHeld => ?_)
          clear hK K
          (refine wpAnyH_take (i := 8) (v := ?_) rfl (by kernel_rfl) (by kernel_rfl) (by kernel_rfl) (fun _ _ _ h => h) (Or.inl ⟨by rfl, ?_⟩) (by assumption) ?_; rotate_left; focus (intro w hSw; (try dsimp only at hSw); (try simp only [zk1, zk2, zk3]); go_simp; try with_reducible rfl)); (try simp only [zk1, zk2, zk3]); (try simp only [Act.put, zk4, zk5, zk6])
          (refine wpAnyH_take (i := 9) (v := ?_) rfl (by kernel_rfl) (by kernel_rfl) (by kernel_rfl) (fun _ _ _ h => h) (Or.inl ⟨by rfl, ?_⟩) (by assumption) ?_; rotate_left; focus (intro w hSw; (try dsimp only at hSw); (try simp only [zk1, zk2, zk3]); go_simp; try with_reducible rfl)); (try simp only [zk1, zk2, zk3]); (try simp only [Act.put, zk4, zk5, zk6])
          (refine wpAnyH_take (i := 10) (v := ?_) rfl (by kernel_rfl) (by kernel_rfl) (by kernel_rfl) (fun _ _ _ h => h) (Or.inl ⟨by rfl, ?_⟩) (by assumption) ?_; rotate_left; focus (intro w hSw; (try dsimp only at hSw); (try simp only [zk1, zk2, zk3]); go_simp; try with_reducible rfl)); (try simp only [zk1, zk2, zk3]); (try simp only [Act.put, zk4, zk5, zk6])
          have lr2 : qb ≠ w.heap.size + 1 := by omega
          have z0 := Q.2.1 0 _ rfl
          have z1 := Q.2.1 1 _ rfl
          have z2 := Q.2.1 2 _ rfl
          have z3 := Q.2.1 3 _ rfl
          have f0 := Q.2.2 0
          have f1 := Q.2.2 1
          have f2 := Q.2.2 2
          have f3 := Q.2.2 3
          have XQ : Ext w ((((u6.setCell ⟨qb, 0, none⟩ (.int .i64 S.at_)).setCell ⟨qb, 1, none⟩ (.slice a1 S.op.length c1)).setCell ⟨qb, 2, none⟩ (.slice a2 S.sh.length c2)).setCell ⟨qb, 3, none⟩ (.slice a3 S.si.length c3)) := ((((X.setCell (by dsimp only; omega) _).setCell (by dsimp only; omega) _).setCell (by dsimp only; omega) _).setCell (by dsimp only; omega) _)
          have QQ := ((((Q.set 0 (.int .i64 S.at_) (by simp)).set 1 (.slice a1 S.op.length c1) (by simp)).set 2 (.slice a2 S.sh.length c2) (by simp)).set 3 (.slice a3 S.si.length c3) (by simp))
          have PQ := ((((P.far (c := qb) (by omega) 0 (.int .i64 S.at_)).far (c := qb) (by omega) 1 (.slice a1 S.op.length c1)).far (c := qb) (by omega) 2 (.slice a2 S.sh.length c2)).far (c := qb) (by omega) 3 (.slice a3 S.si.length c3))
          have RQ := ((((R.far (c := qb) (by omega) 0 (.int .i64 S.at_)).far (c := qb) (by omega) 1 (.slice a1 S.op.length c1)).far (c := qb) (by omega) 2 (.slice a2 S.sh.length c2)).far (c := qb) (by omega) 3 (.slice a3 S.si.length c3))
          have SQ := ((((SO.far B1 B2 B3 0 (.int .i64 S.at_)).far B1 B2 B3 1 (.slice a1 S.op.length c1)).far B1 B2 B3 2 (.slice a2 S.sh.length c2)).far B1 B2 B3 3 (.slice a3 S.si.length c3))
          clear HST
          (refine wpAnyH_ready (rs := [12]) (by kernel_rfl) (by simp) ?_; refine AllReadyH.cons rfl (fun K hK => ?_) AllReadyH.nil; (try simp only [zk1, zk2, zk3]))
          go_simp
          clear z0 z1 z2 z3 f0 f1 f2 f3
          replace P := PQ
          replace Q := QQ
          replace R := RQ
          replace SO := SQ
          replace X := XQ
          clear PQ QQ RQ SQ XQ
          generalize (((u6.setCell ⟨qb, 0, none⟩ (.int .i64 S.at_)).setCell ⟨qb, 1, none⟩ (.slice a1 S.op.length c1)).setCell ⟨qb, 2, none⟩ (.slice a2 S.sh.length c2)).setCell ⟨qb, 3, none⟩ (.slice a3 S.si.length c3) = W6 at *
          (try dsimp only)
          refine hK.out _ _ (by exact ⟨P.2.1 0 _ rfl, P.2.1 1 _ rfl, P.2.1 2 _ rfl, P.2.1 3 _ rfl⟩) (fun hHeld => ?_)
          clear hK K
          (refine wpAnyH_take (i := 13) (v := ?_) rfl (by kernel_rfl) (by kernel_rfl) (by kernel_rfl) (fun _ _ _ h => h) (Or.inl ⟨by rfl, ?_⟩) (by assumption) ?_; rotate_left; focus (intro w hSw; (try dsimp only at hSw); (try simp only [zk1, zk2, zk3]); go_simp; try with_reducible rfl)); (try simp only [zk1, zk2, zk3]); (try simp only [Act.put, zk4, zk5, zk6])
          refine wpAnyH_done (by kernel_rfl) ?_ _
          cases ok
          · have hz := HZ.out rfl
            clear HZ
            subst hz
            have z0 := R.2.1 0 _ rfl
            have z1 := R.2.1 1 _ rfl
            have z2 := R.2.1 2 _ rfl
            have z3 := R.2.1 3 _ rfl
            have z4 := R.2.1 4 _ rfl
            have z5 := R.2.1 5 _ rfl
            have z6 := R.2.1 6 _ rfl
            have z7 := R.2.1 7 _ rfl
            have f0 := R.2.2 0
            have f1 := R.2.2 1
            have f2 := R.2.2 2
            have f3 := R.2.2 3
            have f4 := R.2.2 4
            have f5 := R.2.2 5
            have f6 := R.2.2 6
            have f7 := R.2.2 7
            have XF : Ext w ((((((((W6.setCell ⟨w.heap.size + 1, 0, none⟩ (.int .i64 0)).setCell ⟨w.heap.size + 1, 1, none⟩ (.int .i64 0)).setCell ⟨w.heap.size + 1, 2, none⟩ (.string ⟨#[]⟩)).setCell ⟨w.heap.size + 1, 3, none⟩ (.string ⟨#[]⟩)).setCell ⟨w.heap.size + 1, 4, none⟩ (.int .i64 0)).setCell ⟨w.heap.size + 1, 5, none⟩ (.slice none 0 0)).setCell ⟨w.heap.size + 1, 6, none⟩ (.slice none 0 0)).setCell ⟨w.heap.size + 1, 7, none⟩ (.slice none 0 0)) := ((((((((X.setCell (by dsimp only; omega) _).setCell (by dsimp only; omega) _).setCell (by dsimp only; omega) _).setCell (by dsimp only; omega) _).setCell (by dsimp only; omega) _).setCell (by dsimp only; omega) _).setCell (by dsimp only; omega) _).setCell (by dsimp only; omega) _)
            have RF := ((((((((R.set 0 (.int .i64 0) (by simp)).set 1 (.int .i64 0) (by simp)).set 2 (.string ⟨#[]⟩) (by simp)).set 3 (.string ⟨#[]⟩) (by simp)).set 4 (.int .i64 0) (by simp)).set 5 (.slice none 0 0) (by simp)).set 6 (.slice none 0 0) (by simp)).set 7 (.slice none 0 0) (by simp))
            skip
            go_wp2
            generalize (((((((W6.setCell ⟨w.heap.size + 1, 0, none⟩ (.int .i64 0)).setCell ⟨w.heap.size + 1, 1, none⟩ (.int .i64 0)).setCell ⟨w.heap.size + 1, 2, none⟩ (.string ⟨#[]⟩)).setCell ⟨w.heap.size + 1, 3, none⟩ (.string ⟨#[]⟩)).setCell ⟨w.heap.size + 1, 4, none⟩ (.int .i64 0)).setCell ⟨w.heap.size + 1, 5, none⟩ (.slice none 0 0)).setCell ⟨w.heap.size + 1, 6, none⟩ (.slice none 0 0)).setCell ⟨w.heap.size + 1, 7, none⟩ (.slice none 0 0) = WF at *
            have k0 := RF.2.1 0 _ rfl
            have k1 := RF.2.1 1 _ rfl
            have k2 := RF.2.1 2 _ rfl
            have k3 := RF.2.1 3 _ rfl
            have k4 := RF.2.1 4 _ rfl
            have k5 := RF.2.1 5 _ rfl
            have k6 := RF.2.1 6 _ rfl
            have k7 := RF.2.1 7 _ rfl
            refine bodyPost_ret (v := .tuple #[.agg #[.int .i64 0, .int .i64 0, .string ⟨#[]⟩, .string ⟨#[]⟩, .int .i64 0, .slice none 0 0, .slice none 0 0, .slice none 0 0], .bool false]) (by simp [results, Tryz.results7, go_sem, k0, k1, k2, k3, k4, k5, k6, k7]) rfl ?_
            rw [HSA.out, HTX.out, HS.out, HO.out]
            exact ⟨none, 0, none, 0, none, 0, rfl, sigOwn_nil _ _, XF⟩
          · have p0 := P.2.1 0 _ rfl
            have p1 := P.2.1 1 _ rfl
            have p2 := P.2.1 2 _ rfl
            have p3 := P.2.1 3 _ rfl
            have q0 := Q.2.1 0 _ rfl
            have q1 := Q.2.1 1 _ rfl
            have q2 := Q.2.1 2 _ rfl
            have q3 := Q.2.1 3 _ rfl
            have z0 := R.2.1 0 _ rfl
            have z1 := R.2.1 1 _ rfl
            have z2 := R.2.1 2 _ rfl
            have z3 := R.2.1 3 _ rfl
            have z4 := R.2.1 4 _ rfl
            have z5 := R.2.1 5 _ rfl
            have z6 := R.2.1 6 _ rfl
            have z7 := R.2.1 7 _ rfl
            have f0 := R.2.2 0
            have f1 := R.2.2 1
            have f2 := R.2.2 2
            have f3 := R.2.2 3
            have f4 := R.2.2 4
            have f5 := R.2.2 5
            have f6 := R.2.2 6
            have f7 := R.2.2 7
            have XF : Ext w ((((((((W6.setCell ⟨w.heap.size + 1, 0, none⟩ (.int .i64 h)).setCell ⟨w.heap.size + 1, 1, none⟩ (.int .i64 ep)).setCell ⟨w.heap.size + 1, 2, none⟩ (.string r)).setCell ⟨w.heap.size + 1, 3, none⟩ (.string p)).setCell ⟨w.heap.size + 1, 4, none⟩ (.int .i64 S.at_)).setCell ⟨w.heap.size + 1, 5, none⟩ (.slice a1 S.op.length c1)).setCell ⟨w.heap.size + 1, 6, none⟩ (.slice a2 S.sh.length c2)).setCell ⟨w.heap.size + 1, 7, none⟩ (.slice a3 S.si.length c3)) := ((((((((X.setCell (by dsimp only; omega) _).setCell (by dsimp only; omega) _).setCell (by dsimp only; omega) _).setCell (by dsimp only; omega) _).setCell (by dsimp only; omega) _).setCell (by dsimp only; omega) _).setCell (by dsimp only; omega) _).setCell (by dsimp only; omega) _)
            have RF := ((((((((R.set 0 (.int .i64 h) (by simp)).set 1 (.int .i64 ep) (by simp)).set 2 (.string r) (by simp)).set 3 (.string p) (by simp)).set 4 (.int .i64 S.at_) (by simp)).set 5 (.slice a1 S.op.length c1) (by simp)).set 6 (.slice a2 S.sh.length c2) (by simp)).set 7 (.slice a3 S.si.length c3) (by simp))
            have SF := (((((((SO.set (b := w.heap.size + 1) (by omega) 0 (.int .i64 h)).set (b := w.heap.size + 1) (by omega) 1 (.int .i64 ep)).set (b := w.heap.size + 1) (by omega) 2 (.string r)).set (b := w.heap.size + 1) (by omega) 3 (.string p)).set (b := w.heap.size + 1) (by omega) 4 (.int .i64 S.at_)).set (b := w.heap.size + 1) (by omega) 5 (.slice a1 S.op.length c1)).set (b := w.heap.size + 1) (by omega) 6 (.slice a2 S.sh.length c2)).set (b := w.heap.size + 1) (by omega) 7 (.slice a3 S.si.length c3)
            go_wp2
            generalize (((((((W6.setCell ⟨w.heap.size + 1, 0, none⟩ (.int .i64 h)).setCell ⟨w.heap.size + 1, 1, none⟩ (.int .i64 ep)).setCell ⟨w.heap.size + 1, 2, none⟩ (.string r)).setCell ⟨w.heap.size + 1, 3, none⟩ (.string p)).setCell ⟨w.heap.size + 1, 4, none⟩ (.int .i64 S.at_)).setCell ⟨w.heap.size + 1, 5, none⟩ (.slice a1 S.op.length c1)).setCell ⟨w.heap.size + 1, 6, none⟩ (.slice a2 S.sh.length c2)).setCell ⟨w.heap.size + 1, 7, none⟩ (.slice a3 S.si.length c3) = WF at *
            have k0 := RF.2.1 0 _ rfl
            have k1 := RF.2.1 1 _ rfl
            have k2 := RF.2.1 2 _ rfl
            have k3 := RF.2.1 3 _ rfl
            have k4 := RF.2.1 4 _ rfl
            have k5 := RF.2.1 5 _ rfl
            have k6 := RF.2.1 6 _ rfl
            have k7 := RF.2.1 7 _ rfl
            refine bodyPost_ret (v := .tuple #[.agg #[.int .i64 h, .int .i64 ep, .string r, .string p, .int .i64 S.at_, .slice a1 S.op.length c1, .slice a2 S.sh.length c2, .slice a3 S.si.length c3], .bool true]) (by simp [results, Tryz.results7, go_sem, k0, k1, k2, k3, k4, k5, k6, k7]) rfl ?_
            rw [HSA.out, HTX.out, HS.out, HO.out]
            exact ⟨a1, c1, a2, c2, a3, c3, rfl, SF.mono (by omega), XF⟩
      · (try simp only [zk1, zk2, zk3])
        go_simp
        have ez : Ext w2 (w2.alloc (Obj.cells #[.int .i64 0, .slice none 0 0, .slice none 0 0, .slice none 0 0] 30)) := (Ext.refl _).alloc _
        have Q := Bx.new w2 #[.int .i64 0, .slice none 0 0, .slice none 0 0, .slice none 0 0] 30
        have lq : w.heap.size + 1 < w2.heap.size := R.1
        replace P := P.ext ez
        replace R := R.ext ez
        replace HST := Lib.hid (HST.out.ext ez)
        replace X := X.trans ez
        generalize w2.alloc (Obj.cells #[.int .i64 0, .slice none 0 0, .slice none 0 0, .slice none 0 0] 30) = u4 at *
        generalize hqb : w2.heap.size = qb at *
        clear hqb
        (try dsimp only)
        refine hK.out _ _ (by exact ⟨P.2.1 0 _ rfl, P.2.1 1 _ rfl, P.2.1 2 _ rfl, P.2.1 3 _ rfl⟩) (fun hHeld => ?_)
        clear hK K
        (refine wpAnyH_ready (rs := [6]) (by kernel_rfl) (by simp) ?_; refine AllReadyH.cons rfl (fun K hK => ?_) AllReadyH.nil)
        (try simp only [zk1, zk2, zk3])
        go_simp
        go_at_call 31
        refine (spec_HeadHash h ep r p _).mono ?_
        generalize htx : headH h ep r p = tx at *
        have HTX := Lib.hid htx
        clear htx
        rintro e u5 ⟨rfl, xh⟩
        (try clear p0 p1 p2 p3)
        replace P := P.ext xh
        replace R := R.ext xh
        replace HST := Lib.hid (HST.out.ext xh)
        replace X := X.trans xh
        replace Q := Q.ext xh
        (try dsimp only)
        refine hK.out _ _ (by exact ⟨P.2.1 0 _ rfl, P.2.1 1 _ rfl, P.2.1 2 _ rfl, P.2.1 3 _ rfl⟩) (fun hHeld => ?_)
        clear hK K
        (refine wpAnyH_ready (rs := [7]) (by kernel_rfl) (by simp) ?_; refine AllReadyH.cons rfl (fun K hK => ?_) AllReadyH.nil)
        (try simp only [zk1, zk2, zk3])
        go_simp
        go_at_call 29
        refine (spec_SignText seed tx _ pool sa _ HST.out hs hsol).mono ?_
        generalize hS : sgnV seed pool sa tx = S at *
        generalize hok : sgnOk seed pool sa tx = ok at *
        have HS := Lib.hid hS
        have HO := Lib.hid hok
        have HZ := Lib.hid (show ok = false → S = ⟨0, [], [], []⟩ from fun e => by rw [← hS]; exact sgn_no (hok.trans e))
        clear hS hok
        rintro e u6 ⟨a1, c1, a2, c2, a3, c3, rfl, so, xs⟩
        have lr : w.heap.size + 1 < u5.heap.size := R.1
        have lqs : qb < u5.heap.size := Q.1
        have nq : qb ≠ w.heap.size + 1 := by omega
        have B1 := fun k (hk : Value.ownBlock (.slice a1 S.op.length c1) = some k) => Nat.ne_of_gt (Nat.lt_of_lt_of_le lqs (own_lt so.1 k hk).1)
        have B2 := fun k (hk : Value.ownBlock (.slice a2 S.sh.length c2) = some k) => Nat.ne_of_gt (Nat.lt_of_lt_of_le lqs (own_lt so.2.1 k hk).1)
        have B3 := fun k (hk : Value.ownBlock (.slice a3 S.si.length c3) = some k) => Nat.ne_of_gt (Nat.lt_of_lt_of_le lqs (own_lt so.2.2.1 k hk).1)
        have SO := so.mono (show w.heap.size + 2 ≤ u5.heap.size by omega)
        clear so
        replace P := P.ext xs
        replace R := R.ext xs
        replace HST := Lib.hid (HST.out.ext xs)
        replace X := X.trans xs
        replace Q := Q.ext xs
        (try dsimp only)
        refine hK.out _ _ (by exact ⟨P.2.1 0 _ rfl, P.2.1 1 _ rfl, P.2.1 2 _ rfl, P.2.1 3 _ rfl⟩) (fun hHeld => ?_)
        clear hK K
        (refine wpAnyH_take (i := 8) (v := ?_) rfl (by kernel_rfl) (by kernel_rfl) (by kernel_rfl) (fun _ _ _ h => h) (Or.inl ⟨by rfl, ?_⟩) (by assumption) ?_; rotate_left; focus (intro w hSw; (try dsimp only at hSw); (try simp only [zk1, zk2, zk3]); go_simp; try with_reducible rfl)); (try simp only [zk1, zk2, zk3]); (try simp only [Act.put, zk4, zk5, zk6])
        (refine wpAnyH_take (i := 9) (v := ?_) rfl (by kernel_rfl) (by kernel_rfl) (by kernel_rfl) (fun _ _ _ h => h) (Or.inl ⟨by rfl, ?_⟩) (by assumption) ?_; rotate_left; focus (intro w hSw; (try dsimp only at hSw); (try simp only [zk1, zk2, zk3]); go_simp; try with_reducible rfl)); (try simp only [zk1, zk2, zk3]); (try simp only [Act.put, zk4, zk5, zk6])
        (refine wpAnyH_take (i := 10) (v := ?_) rfl (by kernel_rfl) (by kernel_rfl) (by kernel_rfl) (fun _ _ _ h => h) (Or.inl ⟨by rfl, ?_⟩) (by assumption) ?_; rotate_left; focus (intro w hSw; (try dsimp only at hSw); (try simp only [zk1, zk2, zk3]); go_simp; try with_reducible rfl)); (try simp only [zk1, zk2, zk3]); (try simp only [Act.put, zk4, zk5, zk6])
        have lr2 : qb ≠ w.heap.size + 1 := by omega
        have z0 := Q.2.1 0 _ rfl
        have z1 := Q.2.1 1 _ rfl
        have z2 := Q.2.1 2 _ rfl
        have z3 := Q.2.1 3 _ rfl
        have f0 := Q.2.2 0
        have f1 := Q.2.2 1
        have f2 := Q.2.2 2
        have f3 := Q.2.2 3
        have XQ : Ext w ((((u6.setCell ⟨qb, 0, none⟩ (.int .i64 S.at_)).setCell ⟨qb, 1, none⟩ (.slice a1 S.op.length c1)).setCell ⟨qb, 2, none⟩ (.slice a2 S.sh.length c2)).setCell ⟨qb, 3, none⟩ (.slice a3 S.si.length c3)) := ((((X.setCell (by dsimp only; omega) _).setCell (by dsimp only; omega) _).setCell (by dsimp only; omega) _).setCell (by dsimp only; omega) _)
        have QQ := ((((Q.set 0 (.int .i64 S.at_) (by simp)).set 1 (.slice a1 S.op.length c1) (by simp)).set 2 (.slice a2 S.sh.length c2) (by simp)).set 3 (.slice a3 S.si.length c3) (by simp))
        have PQ := ((((P.far (c := qb) (by omega) 0 (.int .i64 S.at_)).far (c := qb) (by omega) 1 (.slice a1 S.op.length c1)).far (c := qb) (by omega) 2 (.slice a2 S.sh.length c2)).far (c := qb) (by omega) 3 (.slice a3 S.si.length c3))
        have RQ := ((((R.far (c := qb) (by omega) 0 (.int .i64 S.at_)).far (c := qb) (by omega) 1 (.slice a1 S.op.length c1)).far (c := qb) (by omega) 2 (.slice a2 S.sh.length c2)).far (c := qb) (by omega) 3 (.slice a3 S.si.length c3))
        have SQ := ((((SO.far B1 B2 B3 0 (.int .i64 S.at_)).far B1 B2 B3 1 (.slice a1 S.op.length c1)).far B1 B2 B3 2 (.slice a2 S.sh.length c2)).far B1 B2 B3 3 (.slice a3 S.si.length c3))
        clear HST
        (refine wpAnyH_ready (rs := [12]) (by kernel_rfl) (by simp) ?_; refine AllReadyH.cons rfl (fun K hK => ?_) AllReadyH.nil; (try simp only [zk1, zk2, zk3]))
        go_simp
        clear z0 z1 z2 z3 f0 f1 f2 f3
        replace P := PQ
        replace Q := QQ
        replace R := RQ
        replace SO := SQ
        replace X := XQ
        clear PQ QQ RQ SQ XQ
        generalize (((u6.setCell ⟨qb, 0, none⟩ (.int .i64 S.at_)).setCell ⟨qb, 1, none⟩ (.slice a1 S.op.length c1)).setCell ⟨qb, 2, none⟩ (.slice a2 S.sh.length c2)).setCell ⟨qb, 3, none⟩ (.slice a3 S.si.length c3) = W6 at *
        (try dsimp only)
        refine hK.out _ _ (by exact ⟨P.2.1 0 _ rfl, P.2.1 1 _ rfl, P.2.1 2 _ rfl, P.2.1 3 _ rfl⟩) (fun hHeld => ?_)
        clear hK K
        (refine wpAnyH_take (i := 13) (v := ?_) rfl (by kernel_rfl) (by kernel_rfl) (by kernel_rfl) (fun _ _ _ h => h) (Or.inl ⟨by rfl, ?_⟩) (by assumption) ?_; rotate_left; focus (intro w hSw; (try dsimp only at hSw); (try simp only [zk1, zk2, zk3]); go_simp; try with_reducible rfl)); (try simp only [zk1, zk2, zk3]); (try simp only [Act.put, zk4, zk5, zk6])
        refine wpAnyH_done (by kernel_rfl) ?_ _
        cases ok
        · have hz := HZ.out rfl
          clear HZ
          subst hz
          have z0 := R.2.1 0 _ rfl
          have z1 := R.2.1 1 _ rfl
          have z2 := R.2.1 2 _ rfl
          have z3 := R.2.1 3 _ rfl
          have z4 := R.2.1 4 _ rfl
          have z5 := R.2.1 5 _ rfl
          have z6 := R.2.1 6 _ rfl
          have z7 := R.2.1 7 _ rfl
          have f0 := R.2.2 0
          have f1 := R.2.2 1
          have f2 := R.2.2 2
          have f3 := R.2.2 3
          have f4 := R.2.2 4
          have f5 := R.2.2 5
          have f6 := R.2.2 6
          have f7 := R.2.2 7
          have XF : Ext w ((((((((W6.setCell ⟨w.heap.size + 1, 0, none⟩ (.int .i64 0)).setCell ⟨w.heap.size + 1, 1, none⟩ (.int .i64 0)).setCell ⟨w.heap.size + 1, 2, none⟩ (.string ⟨#[]⟩)).setCell ⟨w.heap.size + 1, 3, none⟩ (.string ⟨#[]⟩)).setCell ⟨w.heap.size + 1, 4, none⟩ (.int .i64 0)).setCell ⟨w.heap.size + 1, 5, none⟩ (.slice none 0 0)).setCell ⟨w.heap.size + 1, 6, none⟩ (.slice none 0 0)).setCell ⟨w.heap.size + 1, 7, none⟩ (.slice none 0 0)) := ((((((((X.setCell (by dsimp only; omega) _).setCell (by dsimp only; omega) _).setCell (by dsimp only; omega) _).setCell (by dsimp only; omega) _).setCell (by dsimp only; omega) _).setCell (by dsimp only; omega) _).setCell (by dsimp only; omega) _).setCell (by dsimp only; omega) _)
          have RF := ((((((((R.set 0 (.int .i64 0) (by simp)).set 1 (.int .i64 0) (by simp)).set 2 (.string ⟨#[]⟩) (by simp)).set 3 (.string ⟨#[]⟩) (by simp)).set 4 (.int .i64 0) (by simp)).set 5 (.slice none 0 0) (by simp)).set 6 (.slice none 0 0) (by simp)).set 7 (.slice none 0 0) (by simp))
          skip
          go_wp2
          generalize (((((((W6.setCell ⟨w.heap.size + 1, 0, none⟩ (.int .i64 0)).setCell ⟨w.heap.size + 1, 1, none⟩ (.int .i64 0)).setCell ⟨w.heap.size + 1, 2, none⟩ (.string ⟨#[]⟩)).setCell ⟨w.heap.size + 1, 3, none⟩ (.string ⟨#[]⟩)).setCell ⟨w.heap.size + 1, 4, none⟩ (.int .i64 0)).setCell ⟨w.heap.size + 1, 5, none⟩ (.slice none 0 0)).setCell ⟨w.heap.size + 1, 6, none⟩ (.slice none 0 0)).setCell ⟨w.heap.size + 1, 7, none⟩ (.slice none 0 0) = WF at *
          have k0 := RF.2.1 0 _ rfl
          have k1 := RF.2.1 1 _ rfl
          have k2 := RF.2.1 2 _ rfl
          have k3 := RF.2.1 3 _ rfl
          have k4 := RF.2.1 4 _ rfl
          have k5 := RF.2.1 5 _ rfl
          have k6 := RF.2.1 6 _ rfl
          have k7 := RF.2.1 7 _ rfl
          refine bodyPost_ret (v := .tuple #[.agg #[.int .i64 0, .int .i64 0, .string ⟨#[]⟩, .string ⟨#[]⟩, .int .i64 0, .slice none 0 0, .slice none 0 0, .slice none 0 0], .bool false]) (by simp [results, Tryz.results7, go_sem, k0, k1, k2, k3, k4, k5, k6, k7]) rfl ?_
          rw [HSA.out, HTX.out, HS.out, HO.out]
          exact ⟨none, 0, none, 0, none, 0, rfl, sigOwn_nil _ _, XF⟩
        · have p0 := P.2.1 0 _ rfl
          have p1 := P.2.1 1 _ rfl
          have p2 := P.2.1 2 _ rfl
          have p3 := P.2.1 3 _ rfl
          have q0 := Q.2.1 0 _ rfl
          have q1 := Q.2.1 1 _ rfl
          have q2 := Q.2.1 2 _ rfl
          have q3 := Q.2.1 3 _ rfl
          have z0 := R.2.1 0 _ rfl
          have z1 := R.2.1 1 _ rfl
          have z2 := R.2.1 2 _ rfl
          have z3 := R.2.1 3 _ rfl
          have z4 := R.2.1 4 _ rfl
          have z5 := R.2.1 5 _ rfl
          have z6 := R.2.1 6 _ rfl
          have z7 := R.2.1 7 _ rfl
          have f0 := R.2.2 0
          have f1 := R.2.2 1
          have f2 := R.2.2 2
          have f3 := R.2.2 3
          have f4 := R.2.2 4
          have f5 := R.2.2 5
          have f6 := R.2.2 6
          have f7 := R.2.2 7
          have XF : Ext w ((((((((W6.setCell ⟨w.heap.size + 1, 0, none⟩ (.int .i64 h)).setCell ⟨w.heap.size + 1, 1, none⟩ (.int .i64 ep)).setCell ⟨w.heap.size + 1, 2, none⟩ (.string r)).setCell ⟨w.heap.size + 1, 3, none⟩ (.string p)).setCell ⟨w.heap.size + 1, 4, none⟩ (.int .i64 S.at_)).setCell ⟨w.heap.size + 1, 5, none⟩ (.slice a1 S.op.length c1)).setCell ⟨w.heap.size + 1, 6, none⟩ (.slice a2 S.sh.length c2)).setCell ⟨w.heap.size + 1, 7, none⟩ (.slice a3 S.si.length c3)) := ((((((((X.setCell (by dsimp only; omega) _).setCell (by dsimp only; omega) _).setCell (by dsimp only; omega) _).setCell (by dsimp only; omega) _).setCell (by dsimp only; omega) _).setCell (by dsimp only; omega) _).setCell (by dsimp only; omega) _).setCell (by dsimp only; omega) _)
          have RF := ((((((((R.set 0 (.int .i64 h) (by simp)).set 1 (.int .i64 ep) (by simp)).set 2 (.string r) (by simp)).set 3 (.string p) (by simp)).set 4 (.int .i64 S.at_) (by simp)).set 5 (.slice a1 S.op.length c1) (by simp)).set 6 (.slice a2 S.sh.length c2) (by simp)).set 7 (.slice a3 S.si.length c3) (by simp))
          have SF := (((((((SO.set (b := w.heap.size + 1) (by omega) 0 (.int .i64 h)).set (b := w.heap.size + 1) (by omega) 1 (.int .i64 ep)).set (b := w.heap.size + 1) (by omega) 2 (.string r)).set (b := w.heap.size + 1) (by omega) 3 (.string p)).set (b := w.heap.size + 1) (by omega) 4 (.int .i64 S.at_)).set (b := w.heap.size + 1) (by omega) 5 (.slice a1 S.op.length c1)).set (b := w.heap.size + 1) (by omega) 6 (.slice a2 S.sh.length c2)).set (b := w.heap.size + 1) (by omega) 7 (.slice a3 S.si.length c3)
          go_wp2
          generalize (((((((W6.setCell ⟨w.heap.size + 1, 0, none⟩ (.int .i64 h)).setCell ⟨w.heap.size + 1, 1, none⟩ (.int .i64 ep)).setCell ⟨w.heap.size + 1, 2, none⟩ (.string r)).setCell ⟨w.heap.size + 1, 3, none⟩ (.string p)).setCell ⟨w.heap.size + 1, 4, none⟩ (.int .i64 S.at_)).setCell ⟨w.heap.size + 1, 5, none⟩ (.slice a1 S.op.length c1)).setCell ⟨w.heap.size + 1, 6, none⟩ (.slice a2 S.sh.length c2)).setCell ⟨w.heap.size + 1, 7, none⟩ (.slice a3 S.si.length c3) = WF at *
          have k0 := RF.2.1 0 _ rfl
          have k1 := RF.2.1 1 _ rfl
          have k2 := RF.2.1 2 _ rfl
          have k3 := RF.2.1 3 _ rfl
          have k4 := RF.2.1 4 _ rfl
          have k5 := RF.2.1 5 _ rfl
          have k6 := RF.2.1 6 _ rfl
          have k7 := RF.2.1 7 _ rfl
          refine bodyPost_ret (v := .tuple #[.agg #[.int .i64 h, .int .i64 ep, .string r, .string p, .int .i64 S.at_, .slice a1 S.op.length c1, .slice a2 S.sh.length c2, .slice a3 S.si.length c3], .bool true]) (by simp [results, Tryz.results7, go_sem, k0, k1, k2, k3, k4, k5, k6, k7]) rfl ?_
          rw [HSA.out, HTX.out, HS.out, HO.out]
          exact ⟨a1, c1, a2, c2, a3, c3, rfl, SF.mono (by omega), XF⟩
    · (try simp only [zk1, zk2, zk3])
      go_simp
      have ez : Ext w2 (w2.alloc (Obj.cells #[.int .i64 0, .slice none 0 0, .slice none 0 0, .slice none 0 0] 30)) := (Ext.refl _).alloc _
      have Q := Bx.new w2 #[.int .i64 0, .slice none 0 0, .slice none 0 0, .slice none 0 0] 30
      have lq : w.heap.size + 1 < w2.heap.size := R.1
      replace P := P.ext ez
      replace R := R.ext ez
      replace HST := Lib.hid (HST.out.ext ez)
      replace X := X.trans ez
      generalize w2.alloc (Obj.cells #[.int .i64 0, .slice none 0 0, .slice none 0 0, .slice none 0 0] 30) = u3 at *
      generalize hqb : w2.heap.size = qb at *
      clear hqb
      (try dsimp only)
      refine hK.out _ _ (by exact ⟨P.2.1 0 _ rfl, P.2.1 1 _ rfl, P.2.1 2 _ rfl, P.2.1 3 _ rfl⟩) (fun hHeld => ?_)
      clear hK K
      (refine wpAnyH_ready (rs := [4]) (by kernel_rfl) (by simp) ?_; refine AllReadyH.cons rfl (fun K hK => ?_) AllReadyH.nil)
      (try simp only [zk1, zk2, zk3])
      go_simp
      go_at_call 30
      refine (spec_SealAt ep _).mono ?_
      generalize hsa : sealAt ep = sa at *
      have HSA := Lib.hid hsa
      clear hsa
      rintro e w' ⟨rfl, rfl⟩
      (try dsimp only)
      refine hK.out _ _ (by exact ⟨P.2.1 0 _ rfl, P.2.1 1 _ rfl, P.2.1 2 _ rfl, P.2.1 3 _ rfl⟩) (fun hHeld => ?_)
      clear hK K
      (refine wpAnyH_ready (rs := [6]) (by kernel_rfl) (by simp) ?_; refine AllReadyH.cons rfl (fun K hK => ?_) AllReadyH.nil)
      (try simp only [zk1, zk2, zk3])
      go_simp
      go_at_call 31
      refine (spec_HeadHash h ep r p _).mono ?_
      generalize htx : headH h ep r p = tx at *
      have HTX := Lib.hid htx
      clear htx
      rintro e u5 ⟨rfl, xh⟩
      (try clear p0 p1 p2 p3)
      replace P := P.ext xh
      replace R := R.ext xh
      replace HST := Lib.hid (HST.out.ext xh)
      replace X := X.trans xh
      replace Q := Q.ext xh
      (try dsimp only)
      refine hK.out _ _ (by exact ⟨P.2.1 0 _ rfl, P.2.1 1 _ rfl, P.2.1 2 _ rfl, P.2.1 3 _ rfl⟩) (fun hHeld => ?_)
      clear hK K
      (refine wpAnyH_ready (rs := [7]) (by kernel_rfl) (by simp) ?_; refine AllReadyH.cons rfl (fun K hK => ?_) AllReadyH.nil)
      (try simp only [zk1, zk2, zk3])
      go_simp
      go_at_call 29
      refine (spec_SignText seed tx _ pool sa _ HST.out hs hsol).mono ?_
      generalize hS : sgnV seed pool sa tx = S at *
      generalize hok : sgnOk seed pool sa tx = ok at *
      have HS := Lib.hid hS
      have HO := Lib.hid hok
      have HZ := Lib.hid (show ok = false → S = ⟨0, [], [], []⟩ from fun e => by rw [← hS]; exact sgn_no (hok.trans e))
      clear hS hok
      rintro e u6 ⟨a1, c1, a2, c2, a3, c3, rfl, so, xs⟩
      have lr : w.heap.size + 1 < u5.heap.size := R.1
      have lqs : qb < u5.heap.size := Q.1
      have nq : qb ≠ w.heap.size + 1 := by omega
      have B1 := fun k (hk : Value.ownBlock (.slice a1 S.op.length c1) = some k) => Nat.ne_of_gt (Nat.lt_of_lt_of_le lqs (own_lt so.1 k hk).1)
      have B2 := fun k (hk : Value.ownBlock (.slice a2 S.sh.length c2) = some k) => Nat.ne_of_gt (Nat.lt_of_lt_of_le lqs (own_lt so.2.1 k hk).1)
      have B3 := fun k (hk : Value.ownBlock (.slice a3 S.si.length c3) = some k) => Nat.ne_of_gt (Nat.lt_of_lt_of_le lqs (own_lt so.2.2.1 k hk).1)
      have SO := so.mono (show w.heap.size + 2 ≤ u5.heap.size by omega)
      clear so
      replace P := P.ext xs
      replace R := R.ext xs
      replace HST := Lib.hid (HST.out.ext xs)
      replace X := X.trans xs
      replace Q := Q.ext xs
      (try dsimp only)
      refine hK.out _ _ (by exact ⟨P.2.1 0 _ rfl, P.2.1 1 _ rfl, P.2.1 2 _ rfl, P.2.1 3 _ rfl⟩) (fun hHeld => ?_)
      clear hK K
      (refine wpAnyH_take (i := 8) (v := ?_) rfl (by kernel_rfl) (by kernel_rfl) (by kernel_rfl) (fun _ _ _ h => h) (Or.inl ⟨by rfl, ?_⟩) (by assumption) ?_; rotate_left; focus (intro w hSw; (try dsimp only at hSw); (try simp only [zk1, zk2, zk3]); go_simp; try with_reducible rfl)); (try simp only [zk1, zk2, zk3]); (try simp only [Act.put, zk4, zk5, zk6])
      (refine wpAnyH_take (i := 9) (v := ?_) rfl (by kernel_rfl) (by kernel_rfl) (by kernel_rfl) (fun _ _ _ h => h) (Or.inl ⟨by rfl, ?_⟩) (by assumption) ?_; rotate_left; focus (intro w hSw; (try dsimp only at hSw); (try simp only [zk1, zk2, zk3]); go_simp; try with_reducible rfl)); (try simp only [zk1, zk2, zk3]); (try simp only [Act.put, zk4, zk5, zk6])
      (refine wpAnyH_take (i := 10) (v := ?_) rfl (by kernel_rfl) (by kernel_rfl) (by kernel_rfl) (fun _ _ _ h => h) (Or.inl ⟨by rfl, ?_⟩) (by assumption) ?_; rotate_left; focus (intro w hSw; (try dsimp only at hSw); (try simp only [zk1, zk2, zk3]); go_simp; try with_reducible rfl)); (try simp only [zk1, zk2, zk3]); (try simp only [Act.put, zk4, zk5, zk6])
      have lr2 : qb ≠ w.heap.size + 1 := by omega
      have z0 := Q.2.1 0 _ rfl
      have z1 := Q.2.1 1 _ rfl
      have z2 := Q.2.1 2 _ rfl
      have z3 := Q.2.1 3 _ rfl
      have f0 := Q.2.2 0
      have f1 := Q.2.2 1
      have f2 := Q.2.2 2
      have f3 := Q.2.2 3
      have XQ : Ext w ((((u6.setCell ⟨qb, 0, none⟩ (.int .i64 S.at_)).setCell ⟨qb, 1, none⟩ (.slice a1 S.op.length c1)).setCell ⟨qb, 2, none⟩ (.slice a2 S.sh.length c2)).setCell ⟨qb, 3, none⟩ (.slice a3 S.si.length c3)) := ((((X.setCell (by dsimp only; omega) _).setCell (by dsimp only; omega) _).setCell (by dsimp only; omega) _).setCell (by dsimp only; omega) _)
      have QQ := ((((Q.set 0 (.int .i64 S.at_) (by simp)).set 1 (.slice a1 S.op.length c1) (by simp)).set 2 (.slice a2 S.sh.length c2) (by simp)).set 3 (.slice a3 S.si.length c3) (by simp))
      have PQ := ((((P.far (c := qb) (by omega) 0 (.int .i64 S.at_)).far (c := qb) (by omega) 1 (.slice a1 S.op.length c1)).far (c := qb) (by omega) 2 (.slice a2 S.sh.length c2)).far (c := qb) (by omega) 3 (.slice a3 S.si.length c3))
      have RQ := ((((R.far (c := qb) (by omega) 0 (.int .i64 S.at_)).far (c := qb) (by omega) 1 (.slice a1 S.op.length c1)).far (c := qb) (by omega) 2 (.slice a2 S.sh.length c2)).far (c := qb) (by omega) 3 (.slice a3 S.si.length c3))
      have SQ := ((((SO.far B1 B2 B3 0 (.int .i64 S.at_)).far B1 B2 B3 1 (.slice a1 S.op.length c1)).far B1 B2 B3 2 (.slice a2 S.sh.length c2)).far B1 B2 B3 3 (.slice a3 S.si.length c3))
      clear HST
      (refine wpAnyH_ready (rs := [12]) (by kernel_rfl) (by simp) ?_; refine AllReadyH.cons rfl (fun K hK => ?_) AllReadyH.nil; (try simp only [zk1, zk2, zk3]))
      go_simp
      clear z0 z1 z2 z3 f0 f1 f2 f3
      replace P := PQ
      replace Q := QQ
      replace R := RQ
      replace SO := SQ
      replace X := XQ
      clear PQ QQ RQ SQ XQ
      generalize (((u6.setCell ⟨qb, 0, none⟩ (.int .i64 S.at_)).setCell ⟨qb, 1, none⟩ (.slice a1 S.op.length c1)).setCell ⟨qb, 2, none⟩ (.slice a2 S.sh.length c2)).setCell ⟨qb, 3, none⟩ (.slice a3 S.si.length c3) = W6 at *
      (try dsimp only)
      refine hK.out _ _ (by exact ⟨P.2.1 0 _ rfl, P.2.1 1 _ rfl, P.2.1 2 _ rfl, P.2.1 3 _ rfl⟩) (fun hHeld => ?_)
      clear hK K
      (refine wpAnyH_take (i := 13) (v := ?_) rfl (by kernel_rfl) (by kernel_rfl) (by kernel_rfl) (fun _ _ _ h => h) (Or.inl ⟨by rfl, ?_⟩) (by assumption) ?_; rotate_left; focus (intro w hSw; (try dsimp only at hSw); (try simp only [zk1, zk2, zk3]); go_simp; try with_reducible rfl)); (try simp only [zk1, zk2, zk3]); (try simp only [Act.put, zk4, zk5, zk6])
      refine wpAnyH_done (by kernel_rfl) ?_ _
      cases ok
      · have hz := HZ.out rfl
        clear HZ
        subst hz
        have z0 := R.2.1 0 _ rfl
        have z1 := R.2.1 1 _ rfl
        have z2 := R.2.1 2 _ rfl
        have z3 := R.2.1 3 _ rfl
        have z4 := R.2.1 4 _ rfl
        have z5 := R.2.1 5 _ rfl
        have z6 := R.2.1 6 _ rfl
        have z7 := R.2.1 7 _ rfl
        have f0 := R.2.2 0
        have f1 := R.2.2 1
        have f2 := R.2.2 2
        have f3 := R.2.2 3
        have f4 := R.2.2 4
        have f5 := R.2.2 5
        have f6 := R.2.2 6
        have f7 := R.2.2 7
        have XF : Ext w ((((((((W6.setCell ⟨w.heap.size + 1, 0, none⟩ (.int .i64 0)).setCell ⟨w.heap.size + 1, 1, none⟩ (.int .i64 0)).setCell ⟨w.heap.size + 1, 2, none⟩ (.string ⟨#[]⟩)).setCell ⟨w.heap.size + 1, 3, none⟩ (.string ⟨#[]⟩)).setCell ⟨w.heap.size + 1, 4, none⟩ (.int .i64 0)).setCell ⟨w.heap.size + 1, 5, none⟩ (.slice none 0 0)).setCell ⟨w.heap.size + 1, 6, none⟩ (.slice none 0 0)).setCell ⟨w.heap.size + 1, 7, none⟩ (.slice none 0 0)) := ((((((((X.setCell (by dsimp only; omega) _).setCell (by dsimp only; omega) _).setCell (by dsimp only; omega) _).setCell (by dsimp only; omega) _).setCell (by dsimp only; omega) _).setCell (by dsimp only; omega) _).setCell (by dsimp only; omega) _).setCell (by dsimp only; omega) _)
        have RF := ((((((((R.set 0 (.int .i64 0) (by simp)).set 1 (.int .i64 0) (by simp)).set 2 (.string ⟨#[]⟩) (by simp)).set 3 (.string ⟨#[]⟩) (by simp)).set 4 (.int .i64 0) (by simp)).set 5 (.slice none 0 0) (by simp)).set 6 (.slice none 0 0) (by simp)).set 7 (.slice none 0 0) (by simp))
        skip
        go_wp2
        generalize (((((((W6.setCell ⟨w.heap.size + 1, 0, none⟩ (.int .i64 0)).setCell ⟨w.heap.size + 1, 1, none⟩ (.int .i64 0)).setCell ⟨w.heap.size + 1, 2, none⟩ (.string ⟨#[]⟩)).setCell ⟨w.heap.size + 1, 3, none⟩ (.string ⟨#[]⟩)).setCell ⟨w.heap.size + 1, 4, none⟩ (.int .i64 0)).setCell ⟨w.heap.size + 1, 5, none⟩ (.slice none 0 0)).setCell ⟨w.heap.size + 1, 6, none⟩ (.slice none 0 0)).setCell ⟨w.heap.size + 1, 7, none⟩ (.slice none 0 0) = WF at *
        have k0 := RF.2.1 0 _ rfl
        have k1 := RF.2.1 1 _ rfl
        have k2 := RF.2.1 2 _ rfl
        have k3 := RF.2.1 3 _ rfl
        have k4 := RF.2.1 4 _ rfl
        have k5 := RF.2.1 5 _ rfl
        have k6 := RF.2.1 6 _ rfl
        have k7 := RF.2.1 7 _ rfl
        refine bodyPost_ret (v := .tuple #[.agg #[.int .i64 0, .int .i64 0, .string ⟨#[]⟩, .string ⟨#[]⟩, .int .i64 0, .slice none 0 0, .slice none 0 0, .slice none 0 0], .bool false]) (by simp [results, Tryz.results7, go_sem, k0, k1, k2, k3, k4, k5, k6, k7]) rfl ?_
        rw [HSA.out, HTX.out, HS.out, HO.out]
        exact ⟨none, 0, none, 0, none, 0, rfl, sigOwn_nil _ _, XF⟩
      · have p0 := P.2.1 0 _ rfl
        have p1 := P.2.1 1 _ rfl
        have p2 := P.2.1 2 _ rfl
        have p3 := P.2.1 3 _ rfl
        have q0 := Q.2.1 0 _ rfl
        have q1 := Q.2.1 1 _ rfl
        have q2 := Q.2.1 2 _ rfl
        have q3 := Q.2.1 3 _ rfl
        have z0 := R.2.1 0 _ rfl
        have z1 := R.2.1 1 _ rfl
        have z2 := R.2.1 2 _ rfl
        have z3 := R.2.1 3 _ rfl
        have z4 := R.2.1 4 _ rfl
        have z5 := R.2.1 5 _ rfl
        have z6 := R.2.1 6 _ rfl
        have z7 := R.2.1 7 _ rfl
        have f0 := R.2.2 0
        have f1 := R.2.2 1
        have f2 := R.2.2 2
        have f3 := R.2.2 3
        have f4 := R.2.2 4
        have f5 := R.2.2 5
        have f6 := R.2.2 6
        have f7 := R.2.2 7
        have XF : Ext w ((((((((W6.setCell ⟨w.heap.size + 1, 0, none⟩ (.int .i64 h)).setCell ⟨w.heap.size + 1, 1, none⟩ (.int .i64 ep)).setCell ⟨w.heap.size + 1, 2, none⟩ (.string r)).setCell ⟨w.heap.size + 1, 3, none⟩ (.string p)).setCell ⟨w.heap.size + 1, 4, none⟩ (.int .i64 S.at_)).setCell ⟨w.heap.size + 1, 5, none⟩ (.slice a1 S.op.length c1)).setCell ⟨w.heap.size + 1, 6, none⟩ (.slice a2 S.sh.length c2)).setCell ⟨w.heap.size + 1, 7, none⟩ (.slice a3 S.si.length c3)) := ((((((((X.setCell (by dsimp only; omega) _).setCell (by dsimp only; omega) _).setCell (by dsimp only; omega) _).setCell (by dsimp only; omega) _).setCell (by dsimp only; omega) _).setCell (by dsimp only; omega) _).setCell (by dsimp only; omega) _).setCell (by dsimp only; omega) _)
        have RF := ((((((((R.set 0 (.int .i64 h) (by simp)).set 1 (.int .i64 ep) (by simp)).set 2 (.string r) (by simp)).set 3 (.string p) (by simp)).set 4 (.int .i64 S.at_) (by simp)).set 5 (.slice a1 S.op.length c1) (by simp)).set 6 (.slice a2 S.sh.length c2) (by simp)).set 7 (.slice a3 S.si.length c3) (by simp))
        have SF := (((((((SO.set (b := w.heap.size + 1) (by omega) 0 (.int .i64 h)).set (b := w.heap.size + 1) (by omega) 1 (.int .i64 ep)).set (b := w.heap.size + 1) (by omega) 2 (.string r)).set (b := w.heap.size + 1) (by omega) 3 (.string p)).set (b := w.heap.size + 1) (by omega) 4 (.int .i64 S.at_)).set (b := w.heap.size + 1) (by omega) 5 (.slice a1 S.op.length c1)).set (b := w.heap.size + 1) (by omega) 6 (.slice a2 S.sh.length c2)).set (b := w.heap.size + 1) (by omega) 7 (.slice a3 S.si.length c3)
        go_wp2
        generalize (((((((W6.setCell ⟨w.heap.size + 1, 0, none⟩ (.int .i64 h)).setCell ⟨w.heap.size + 1, 1, none⟩ (.int .i64 ep)).setCell ⟨w.heap.size + 1, 2, none⟩ (.string r)).setCell ⟨w.heap.size + 1, 3, none⟩ (.string p)).setCell ⟨w.heap.size + 1, 4, none⟩ (.int .i64 S.at_)).setCell ⟨w.heap.size + 1, 5, none⟩ (.slice a1 S.op.length c1)).setCell ⟨w.heap.size + 1, 6, none⟩ (.slice a2 S.sh.length c2)).setCell ⟨w.heap.size + 1, 7, none⟩ (.slice a3 S.si.length c3) = WF at *
        have k0 := RF.2.1 0 _ rfl
        have k1 := RF.2.1 1 _ rfl
        have k2 := RF.2.1 2 _ rfl
        have k3 := RF.2.1 3 _ rfl
        have k4 := RF.2.1 4 _ rfl
        have k5 := RF.2.1 5 _ rfl
        have k6 := RF.2.1 6 _ rfl
        have k7 := RF.2.1 7 _ rfl
        refine bodyPost_ret (v := .tuple #[.agg #[.int .i64 h, .int .i64 ep, .string r, .string p, .int .i64 S.at_, .slice a1 S.op.length c1, .slice a2 S.sh.length c2, .slice a3 S.si.length c3], .bool true]) (by simp [results, Tryz.results7, go_sem, k0, k1, k2, k3, k4, k5, k6, k7]) rfl ?_
        rw [HSA.out, HTX.out, HS.out, HO.out]
        exact ⟨a1, c1, a2, c2, a3, c3, rfl, SF.mono (by omega), XF⟩
end Go.Proofs.YtkphipgfcbckcaaGreatDoor
namespace Go.Proofs.YtkphipgfcbckcaaGreatDoor
open Go.RowKit

theorem spec_l14Seed (n : Int) (w : World) (hn : 0 ≤ n ∧ n ≤ 3) :
    Calls Tryz.prog 23 #[.int .i64 n] w fun e w' => ∃ s : ByteArray, e = .returned (.string s) ∧ s.size ≤ 6 ∧ Ext w w' := by
  have hcv := conv_lit1
  have z0 : (strOfNums [48 + n]).size = 1 := strOfNums_size _
  go_enter Tryz.func23, Tryz.ntmps23
  go_wp2
  go_ret
  exact ⟨_, rfl, by rw [ByteArray.size_append, z0]; decide, (by repeat (first | (with_reducible first | exact Ext.refl _ | assumption | apply Ext.alloc | apply Ext.drew | apply Ext.drewN | refine Ext.setCell ?_ ?_ _ | refine Ext.trans ?_ (by assumption)) | (show _ ≤ _; first | omega | (dsimp only; omega) | (simp; done) | (simp; omega))))⟩
theorem seal_law {seed : ByteArray} {hh ep : Int} {r p : ByteArray} (hs : seed.size ≤ 100) (hok : headOk hh ep r p = true) :
    slK seed (poolK seed 16) hh ep r p = true ∧ sealOkB (poolRt (poolK seed 16)) hh ep r p (slV seed (poolK seed 16) hh ep r p) = true := by
  obtain ⟨-, he, -⟩ := headOk_true hok
  obtain ⟨a, ha⟩ := Int.eq_ofNat_of_zero_le (show 0 ≤ sealAt ep by rw [sealAt, if_pos (inB_true.2 (by omega))]; omega)
  have ha16 : a < 16 := by
    have : sealAt ep = ep - 1 := by rw [sealAt, if_pos (inB_true.2 (by omega))]
    omega
  have hk : sgnOk seed (poolK seed 16) (sealAt ep) (headH hh ep r p) = true := by rw [ha]; exact sgn_pool ha16 hs (Nat.le_trans (headH_32 _ _ _ _) (by decide))
  have hv : slV seed (poolK seed 16) hh ep r p = sgnV seed (poolK seed 16) (sealAt ep) (headH hh ep r p) := by rw [slV, if_pos hok]
  refine ⟨by rw [slK, hok, hk]; rfl, ?_⟩
  rw [hv, sealOkB, hok, sgn_at hk, decide_eq_true rfl, sg_ok hk]
  rfl
set_option maxRecDepth 100000 in
set_option maxHeartbeats 6400000 in
theorem spec_l14Seal (b : Nat) (w : World) (h : Cur w b) :
    Calls Tryz.prog 69 #[.pointer (some ⟨b, 0, none⟩)] w fun e w' => ∃ (hh ep : Int) (r p root : ByteArray) (S : SigV) (a1 a2 a3 : Option Addr) (c1 c2 c3 : Nat), e = .returned (.tuple #[.agg #[.int .i64 hh, .int .i64 ep, .string r, .string p, .int .i64 S.at_, .slice a1 S.op.length c1, .slice a2 S.sh.length c2, .slice a3 S.si.length c3], .string root]) ∧ root.size = 16 ∧ r.size = 16 ∧ sealOkB root hh ep r p S = true ∧ SigOwn w' w.heap.size (.slice a1 S.op.length c1) (.slice a2 S.sh.length c2) (.slice a3 S.si.length c3) S ∧ Cur w' b ∧ Mut b w w' := by
  have e0 : Ext w (w.alloc (Obj.cells #[.int .i64 0, .int .i64 0, .string ⟨#[]⟩, .string ⟨#[]⟩, .int .i64 0, .slice none 0 0, .slice none 0 0, .slice none 0 0] 32)) := (Ext.refl w).alloc _
  have R := Bx.new w #[.int .i64 0, .int .i64 0, .string ⟨#[]⟩, .string ⟨#[]⟩, .int .i64 0, .slice none 0 0, .slice none 0 0, .slice none 0 0] 32
  have hbw := h.lt
  have hwb : w.heap.size ≠ b := by omega
  go_enter Tryz.func69, Tryz.ntmps69
  go_wp2_with fail
  generalize w.alloc (Obj.cells #[.int .i64 0, .int .i64 0, .string ⟨#[]⟩, .string ⟨#[]⟩, .int .i64 0, .slice none 0 0, .slice none 0 0, .slice none 0 0] 32) = W0 at *
  refine (spec_l01Below _ 3 _ (h.ext e0) (by omega)).mono ?_
  rintro e w1 ⟨hh, rfl, hhb, C1, M1'⟩
  have M1 := (Mut.of_ext (b := b) e0).trans M1'
  replace R := R.mut M1' hwb
  go_wp2_with fail
  refine (spec_l01Below _ 4 _ C1 (by omega)).mono ?_
  rintro e w2 ⟨q, rfl, hq, C2, M2⟩
  replace M1 := M1.trans M2
  replace R := R.mut M2 hwb
  go_wp2_with fail
  refine (spec_l13Root _ _ C2).mono ?_
  rintro e w3 ⟨r, rfl, hr, C3, M3⟩
  replace M1 := M1.trans M3
  replace R := R.mut M3 hwb
  clear C1 C2 M1' M2 M3 h e0
  have hb3 := C3.lt
  have hw3 : w.heap.size < w3.heap.size := R.1
  have hbh : w3.heap.size ≠ b := by omega
  by_cases hq1 : q = 0
  · subst hq1
    have e4 : Ext w3 (w3.alloc (Obj.cells #[.int .i64 hh, .int .i64 1, .string r, .string ⟨#[]⟩] 26)) := (Ext.refl _).alloc _
    have H := Bx.new w3 #[.int .i64 hh, .int .i64 1, .string r, .string ⟨#[]⟩] 26
    have C := C3.ext e4
    have M := M1.trans (Mut.of_ext e4)
    replace R := R.ext e4
    clear C3 M1
    have h1 := H.2.1 1 _ rfl
    go_wp2_with fail
    generalize w3.alloc (Obj.cells #[.int .i64 hh, .int .i64 1, .string r, .string ⟨#[]⟩] 26) = w4 at *
    clear e4 h1
    refine (spec_l14Seed hh _ (by omega)).mono ?_
    rintro e w7 ⟨seed, rfl, hsd, x7⟩
    replace R := R.ext x7
    replace C := C.ext x7
    replace M := M.trans (Mut.of_ext x7)
    replace H := H.ext x7
    have hok : headOk hh 1 r ⟨#[]⟩ = true := by simp only [headOk, Bool.and_eq_true, inB_true, decide_eq_true_eq]; exact ⟨by omega, by omega, hr, by simp; rfl⟩
    obtain ⟨hk, hsl⟩ := seal_law (seed := seed) (by omega) hok
    have HK := Lib.hid hk
    have HSL := Lib.hid hsl
    have RS := Lib.hid (pool_16 (seed := seed) (by omega))
    have HPF := Lib.hid (fun (s : ByteArray) (hs : s ∈ poolK seed 16) => show s.size ≤ maxLen by have := poolK_fit seed 16 s hs; unfold maxLen; omega)
    have HPL := Lib.hid (poolK_len seed 16)
    clear hok hk hsl
    go_wp2_with fail
    refine (spec_PoolOf seed _).mono ?_
    rintro e w8 ⟨pa, pc, rfl, own, x8⟩
    replace R := R.ext x8
    replace C := C.ext x8
    replace M := M.trans (Mut.of_ext x8)
    replace H := H.ext x8
    obtain ⟨g, c', he⟩ := own_form own (by rw [poolK_len]; omega)
    injection he with e1 e2 e3
    subst e1 e3
    clear e2
    have ST := Lib.hid own.strs
    clear own
    generalize poolK seed 16 = pool at *
    have h0 := H.2.1 0 _ rfl
    have h1 := H.2.1 1 _ rfl
    have h2 := H.2.1 2 _ rfl
    have h3 := H.2.1 3 _ rfl
    have LWR := R.1
    go_wp2_with fail
    refine (spec_SealHead seed _ pool hh 1 r ⟨#[]⟩ _ ST.out HPF.out (solid_some _ _ _ _)).mono ?_
    generalize slV seed pool hh 1 r ⟨#[]⟩ = S at *
    rw [HK.out, show slI true hh = hh from rfl, show slI true 1 = 1 from rfl, show slS true r = r from rfl, show slS true ⟨#[]⟩ = ⟨#[]⟩ from rfl]
    rintro e w9 ⟨a1, c1, a2, c2, a3, c3, rfl, so, x9⟩
    clear h0 h1 h2 h3
    have SO := so.mono (show w.heap.size + 1 ≤ w8.heap.size from LWR)
    clear so
    replace R := R.ext x9
    replace C := C.ext x9
    replace M := M.trans (Mut.of_ext x9)
    replace H := H.ext x9
    replace ST := Lib.hid (ST.out.ext x9)
    have e10 : Ext w9 (w9.alloc (Obj.cells #[.int .i64 hh, .int .i64 1, .string r, .string ⟨#[]⟩, .int .i64 S.at_, .slice a1 S.op.length c1, .slice a2 S.sh.length c2, .slice a3 S.si.length c3] 32)) := (Ext.refl _).alloc _
    have Q := Bx.new w9 #[.int .i64 hh, .int .i64 1, .string r, .string ⟨#[]⟩, .int .i64 S.at_, .slice a1 S.op.length c1, .slice a2 S.sh.length c2, .slice a3 S.si.length c3] 32
    have hq9 : w.heap.size < w9.heap.size := R.1
    replace R := R.ext e10
    replace C := C.ext e10
    replace M := M.trans (Mut.of_ext e10)
    replace H := H.ext e10
    replace ST := Lib.hid (ST.out.ext e10)
    replace SO := SO.ext e10
    go_wp2_with fail
    generalize w9.alloc (Obj.cells #[.int .i64 hh, .int .i64 1, .string r, .string ⟨#[]⟩, .int .i64 S.at_, .slice a1 S.op.length c1, .slice a2 S.sh.length c2, .slice a3 S.si.length c3] 32) = w10 at *
    generalize w9.heap.size = qb at *
    clear e10
    refine wp_region_held_drew (S := (fun W => W.cell? ⟨qb, 0, none⟩ = some (.int .i64 hh) ∧ W.cell? ⟨qb, 1, none⟩ = some (.int .i64 1) ∧ W.cell? ⟨qb, 2, none⟩ = some (.string r) ∧ W.cell? ⟨qb, 3, none⟩ = some (.string ⟨#[]⟩) ∧ W.cell? ⟨qb, 4, none⟩ = some (.int .i64 S.at_) ∧ W.cell? ⟨qb, 5, none⟩ = some (.slice a1 S.op.length c1) ∧ W.cell? ⟨qb, 6, none⟩ = some (.slice a2 S.sh.length c2) ∧ W.cell? ⟨qb, 7, none⟩ = some (.slice a3 S.si.length c3))) (by kernel_rfl) (by exact ⟨Q.2.1 0 _ rfl, Q.2.1 1 _ rfl, Q.2.1 2 _ rfl, Q.2.1 3 _ rfl, Q.2.1 4 _ rfl, Q.2.1 5 _ rfl, Q.2.1 6 _ rfl, Q.2.1 7 _ rfl⟩) (fun hHeld => ?_)
    have xd : Ext w10 w10.drew := (Ext.refl w10).drew
    replace R := R.ext xd
    replace C := C.ext xd
    replace M := M.trans (Mut.of_ext xd)
    replace H := H.ext xd
    replace ST := Lib.hid (ST.out.ext xd)
    replace SO := SO.ext xd
    replace Q := Q.ext xd
    generalize w10.drew = w11 at *
    have q0 := Q.2.1 0 _ rfl
    have q1 := Q.2.1 1 _ rfl
    have q2 := Q.2.1 2 _ rfl
    have q3 := Q.2.1 3 _ rfl
    have q4 := Q.2.1 4 _ rfl
    have q5 := Q.2.1 5 _ rfl
    have q6 := Q.2.1 6 _ rfl
    have q7 := Q.2.1 7 _ rfl
    (refine wpAnyH_take (i := 0) (v := ?_) rfl (by kernel_rfl) (by kernel_rfl) (by kernel_rfl) (fun _ _ _ h => h) (Or.inl ⟨by rfl, ?_⟩) (by assumption) ?_; rotate_left; focus (intro w hSw; (try dsimp only at hSw); (try simp only [zk1, zk2]); go_simp; try with_reducible rfl)); (try simp only [zk1, zk2]); (try simp only [Act.put, zk4, zk5, zk6])
    (refine wpAnyH_take (i := 1) (v := ?_) rfl (by kernel_rfl) (by kernel_rfl) (by kernel_rfl) (fun _ _ _ h => h) (Or.inl ⟨by rfl, ?_⟩) (by assumption) ?_; rotate_left; focus (intro w hSw; (try dsimp only at hSw); (try simp only [zk1, zk2, zk3]); go_simp; try with_reducible rfl)); (try simp only [zk1, zk2, zk3]); (try simp only [Act.put, zk4, zk5, zk6])
    (refine wpAnyH_ready (rs := [2]) (by kernel_rfl) (by simp) ?_; refine AllReadyH.cons rfl (fun K hK => ?_) AllReadyH.nil; (try simp only [zk1, zk2, zk3]))
    go_simp
    go_at_call 88
    refine (spec_PoolRoot _ pool _ ST.out HPF.out (solid_some _ _ _ _)).mono ?_
    generalize poolRt pool = rt at *
    rintro e w12 ⟨rfl, x12⟩
    clear q0 q1 q2 q3 q4 q5 q6 q7
    replace R := R.ext x12
    replace C := C.ext x12
    replace M := M.trans (Mut.of_ext x12)
    replace H := H.ext x12
    replace ST := Lib.hid (ST.out.ext x12)
    replace SO := SO.ext x12
    replace Q := Q.ext x12
    (try dsimp only)
    refine hK.out _ _ (by exact ⟨Q.2.1 0 _ rfl, Q.2.1 1 _ rfl, Q.2.1 2 _ rfl, Q.2.1 3 _ rfl, Q.2.1 4 _ rfl, Q.2.1 5 _ rfl, Q.2.1 6 _ rfl, Q.2.1 7 _ rfl⟩) (fun hHeld => ?_)
    clear hK K
    have z0 := R.2.1 0 _ rfl
    have z1 := R.2.1 1 _ rfl
    have z2 := R.2.1 2 _ rfl
    have z3 := R.2.1 3 _ rfl
    have z4 := R.2.1 4 _ rfl
    have z5 := R.2.1 5 _ rfl
    have z6 := R.2.1 6 _ rfl
    have z7 := R.2.1 7 _ rfl
    have zf0 := R.2.2 0
    have zf1 := R.2.2 1
    have zf2 := R.2.2 2
    have zf3 := R.2.2 3
    have zf4 := R.2.2 4
    have zf5 := R.2.2 5
    have zf6 := R.2.2 6
    have zf7 := R.2.2 7
    have RF := ((((((((R.set 0 (.int .i64 hh) (by simp)).set 1 (.int .i64 1) (by simp)).set 2 (.string r) (by simp)).set 3 (.string ⟨#[]⟩) (by simp)).set 4 (.int .i64 S.at_) (by simp)).set 5 (.slice a1 S.op.length c1) (by simp)).set 6 (.slice a2 S.sh.length c2) (by simp)).set 7 (.slice a3 S.si.length c3) (by simp))
    have SF := ((((((((SO.set (b := w.heap.size) (by omega) 0 (.int .i64 hh)).set (b := w.heap.size) (by omega) 1 (.int .i64 1)).set (b := w.heap.size) (by omega) 2 (.string r)).set (b := w.heap.size) (by omega) 3 (.string ⟨#[]⟩)).set (b := w.heap.size) (by omega) 4 (.int .i64 S.at_)).set (b := w.heap.size) (by omega) 5 (.slice a1 S.op.length c1)).set (b := w.heap.size) (by omega) 6 (.slice a2 S.sh.length c2)).set (b := w.heap.size) (by omega) 7 (.slice a3 S.si.length c3))
    have CF := ((((((((C.far hbw 0 (.int .i64 hh)).far hbw 1 (.int .i64 1)).far hbw 2 (.string r)).far hbw 3 (.string ⟨#[]⟩)).far hbw 4 (.int .i64 S.at_)).far hbw 5 (.slice a1 S.op.length c1)).far hbw 6 (.slice a2 S.sh.length c2)).far hbw 7 (.slice a3 S.si.length c3))
    have MF : Mut b w ((((((((w12.setCell ⟨w.heap.size, 0, none⟩ (.int .i64 hh)).setCell ⟨w.heap.size, 1, none⟩ (.int .i64 1)).setCell ⟨w.heap.size, 2, none⟩ (.string r)).setCell ⟨w.heap.size, 3, none⟩ (.string ⟨#[]⟩)).setCell ⟨w.heap.size, 4, none⟩ (.int .i64 S.at_)).setCell ⟨w.heap.size, 5, none⟩ (.slice a1 S.op.length c1)).setCell ⟨w.heap.size, 6, none⟩ (.slice a2 S.sh.length c2)).setCell ⟨w.heap.size, 7, none⟩ (.slice a3 S.si.length c3)) := (mut_new (mut_new (mut_new (mut_new (mut_new (mut_new (mut_new (mut_new M 0 (.int .i64 hh)) 1 (.int .i64 1)) 2 (.string r)) 3 (.string ⟨#[]⟩)) 4 (.int .i64 S.at_)) 5 (.slice a1 S.op.length c1)) 6 (.slice a2 S.sh.length c2)) 7 (.slice a3 S.si.length c3))
    have QF := ((((((((Q.far (c := w.heap.size) (by omega) 0 (.int .i64 hh)).far (c := w.heap.size) (by omega) 1 (.int .i64 1)).far (c := w.heap.size) (by omega) 2 (.string r)).far (c := w.heap.size) (by omega) 3 (.string ⟨#[]⟩)).far (c := w.heap.size) (by omega) 4 (.int .i64 S.at_)).far (c := w.heap.size) (by omega) 5 (.slice a1 S.op.length c1)).far (c := w.heap.size) (by omega) 6 (.slice a2 S.sh.length c2)).far (c := w.heap.size) (by omega) 7 (.slice a3 S.si.length c3))
    clear Q
    have Q := QF
    clear QF
    (refine wpAnyH_ready (rs := [3]) (by kernel_rfl) (by simp) ?_; refine AllReadyH.cons rfl (fun K hK => ?_) AllReadyH.nil; (try simp only [zk1, zk2, zk3]))
    go_simp
    clear z0 zf0 z1 zf1 z2 zf2 z3 zf3 z4 zf4 z5 zf5 z6 zf6 z7 zf7
    generalize (((((((w12.setCell ⟨w.heap.size, 0, none⟩ (.int .i64 hh)).setCell ⟨w.heap.size, 1, none⟩ (.int .i64 1)).setCell ⟨w.heap.size, 2, none⟩ (.string r)).setCell ⟨w.heap.size, 3, none⟩ (.string ⟨#[]⟩)).setCell ⟨w.heap.size, 4, none⟩ (.int .i64 S.at_)).setCell ⟨w.heap.size, 5, none⟩ (.slice a1 S.op.length c1)).setCell ⟨w.heap.size, 6, none⟩ (.slice a2 S.sh.length c2)).setCell ⟨w.heap.size, 7, none⟩ (.slice a3 S.si.length c3) = WF at *
    (try dsimp only)
    refine hK.out _ _ (by exact ⟨Q.2.1 0 _ rfl, Q.2.1 1 _ rfl, Q.2.1 2 _ rfl, Q.2.1 3 _ rfl, Q.2.1 4 _ rfl, Q.2.1 5 _ rfl, Q.2.1 6 _ rfl, Q.2.1 7 _ rfl⟩) (fun hHeld => ?_)
    clear hK K
    (refine wpAnyH_take (i := 4) (v := ?_) rfl (by kernel_rfl) (by kernel_rfl) (by kernel_rfl) (fun _ _ _ h => h) (Or.inl ⟨by rfl, ?_⟩) (by assumption) ?_; rotate_left; focus (intro w hSw; (try dsimp only at hSw); (try simp only [zk1, zk2, zk3]); go_simp; try with_reducible rfl)); (try simp only [zk1, zk2, zk3]); (try simp only [Act.put, zk4, zk5, zk6])
    refine wpAnyH_done (by kernel_rfl) ?_ _
    have k0 := RF.2.1 0 _ rfl
    have k1 := RF.2.1 1 _ rfl
    have k2 := RF.2.1 2 _ rfl
    have k3 := RF.2.1 3 _ rfl
    have k4 := RF.2.1 4 _ rfl
    have k5 := RF.2.1 5 _ rfl
    have k6 := RF.2.1 6 _ rfl
    have k7 := RF.2.1 7 _ rfl
    go_wp2
    refine bodyPost_ret (v := .tuple #[.agg #[.int .i64 hh, .int .i64 1, .string r, .string ⟨#[]⟩, .int .i64 S.at_, .slice a1 S.op.length c1, .slice a2 S.sh.length c2, .slice a3 S.si.length c3], .string rt]) (by simp [results, Tryz.results69, go_sem, k0, k1, k2, k3, k4, k5, k6, k7]) rfl ?_
    exact ⟨hh, 1, r, ⟨#[]⟩, rt, S, a1, a2, a3, c1, c2, c3, rfl, RS.out, hr, HSL.out, SF.mono (by omega), CF, MF⟩
  · have hq2 : 1 < 1 + q := by omega
    have e4 : Ext w3 (w3.alloc (Obj.cells #[.int .i64 hh, .int .i64 (1 + q), .string r, .string ⟨#[]⟩] 26)) := (Ext.refl _).alloc _
    have H := Bx.new w3 #[.int .i64 hh, .int .i64 (1 + q), .string r, .string ⟨#[]⟩] 26
    have C := C3.ext e4
    have M := M1.trans (Mut.of_ext e4)
    replace R := R.ext e4
    clear C3 M1
    have h1 := H.2.1 1 _ rfl
    go_wp2_with fail
    generalize w3.alloc (Obj.cells #[.int .i64 hh, .int .i64 (1 + q), .string r, .string ⟨#[]⟩] 26) = w4 at *
    clear e4 h1
    refine (spec_l13Root _ _ C).mono ?_
    rintro e w5 ⟨p, rfl, hp, C5, M5⟩
    replace M := M.trans M5
    replace R := R.mut M5 hwb
    replace H := H.mut M5 hbh
    clear C M5
    have C := C5
    clear C5
    have h3 := H.2.1 3 _ rfl
    have f3 := H.2.2 3
    have HF := H.set 3 (.string p) (by simp)
    have RF := R.far (c := w3.heap.size) (by omega) 3 (.string p)
    have CF := C.far (c := w3.heap.size) hb3 3 (.string p)
    have MF := mut_new (c := w3.heap.size) M 3 (.string p) (by omega)
    clear H R C M
    have H := HF
    have R := RF
    have C := CF
    have M := MF
    clear HF RF CF MF
    go_wp2_with fail
    clear h3 f3
    generalize w5.setCell ⟨w3.heap.size, 3, none⟩ (.string p) = w6 at *
    refine (spec_l14Seed hh _ (by omega)).mono ?_
    rintro e w7 ⟨seed, rfl, hsd, x7⟩
    replace R := R.ext x7
    replace C := C.ext x7
    replace M := M.trans (Mut.of_ext x7)
    replace H := H.ext x7
    have hok : headOk hh (1 + q) r p = true := by simp only [headOk, Bool.and_eq_true, inB_true, decide_eq_true_eq]; exact ⟨by omega, by omega, hr, by rw [if_neg (by omega)]; exact decide_eq_true hp⟩
    obtain ⟨hk, hsl⟩ := seal_law (seed := seed) (by omega) hok
    have HK := Lib.hid hk
    have HSL := Lib.hid hsl
    have RS := Lib.hid (pool_16 (seed := seed) (by omega))
    have HPF := Lib.hid (fun (s : ByteArray) (hs : s ∈ poolK seed 16) => show s.size ≤ maxLen by have := poolK_fit seed 16 s hs; unfold maxLen; omega)
    have HPL := Lib.hid (poolK_len seed 16)
    clear hok hk hsl
    go_wp2_with fail
    refine (spec_PoolOf seed _).mono ?_
    rintro e w8 ⟨pa, pc, rfl, own, x8⟩
    replace R := R.ext x8
    replace C := C.ext x8
    replace M := M.trans (Mut.of_ext x8)
    replace H := H.ext x8
    obtain ⟨g, c', he⟩ := own_form own (by rw [poolK_len]; omega)
    injection he with e1 e2 e3
    subst e1 e3
    clear e2
    have ST := Lib.hid own.strs
    clear own
    generalize poolK seed 16 = pool at *
    have h0 := H.2.1 0 _ rfl
    have h1 := H.2.1 1 _ rfl
    have h2 := H.2.1 2 _ rfl
    have h3 := H.2.1 3 _ rfl
    have LWR := R.1
    go_wp2_with fail
    refine (spec_SealHead seed _ pool hh (1 + q) r p _ ST.out HPF.out (solid_some _ _ _ _)).mono ?_
    generalize slV seed pool hh (1 + q) r p = S at *
    rw [HK.out, show slI true hh = hh from rfl, show slI true (1 + q) = (1 + q) from rfl, show slS true r = r from rfl, show slS true p = p from rfl]
    rintro e w9 ⟨a1, c1, a2, c2, a3, c3, rfl, so, x9⟩
    clear h0 h1 h2 h3
    have SO := so.mono (show w.heap.size + 1 ≤ w8.heap.size from LWR)
    clear so
    replace R := R.ext x9
    replace C := C.ext x9
    replace M := M.trans (Mut.of_ext x9)
    replace H := H.ext x9
    replace ST := Lib.hid (ST.out.ext x9)
    have e10 : Ext w9 (w9.alloc (Obj.cells #[.int .i64 hh, .int .i64 (1 + q), .string r, .string p, .int .i64 S.at_, .slice a1 S.op.length c1, .slice a2 S.sh.length c2, .slice a3 S.si.length c3] 32)) := (Ext.refl _).alloc _
    have Q := Bx.new w9 #[.int .i64 hh, .int .i64 (1 + q), .string r, .string p, .int .i64 S.at_, .slice a1 S.op.length c1, .slice a2 S.sh.length c2, .slice a3 S.si.length c3] 32
    have hq9 : w.heap.size < w9.heap.size := R.1
    replace R := R.ext e10
    replace C := C.ext e10
    replace M := M.trans (Mut.of_ext e10)
    replace H := H.ext e10
    replace ST := Lib.hid (ST.out.ext e10)
    replace SO := SO.ext e10
    go_wp2_with fail
    generalize w9.alloc (Obj.cells #[.int .i64 hh, .int .i64 (1 + q), .string r, .string p, .int .i64 S.at_, .slice a1 S.op.length c1, .slice a2 S.sh.length c2, .slice a3 S.si.length c3] 32) = w10 at *
    generalize w9.heap.size = qb at *
    clear e10
    refine wp_region_held_drew (S := (fun W => W.cell? ⟨qb, 0, none⟩ = some (.int .i64 hh) ∧ W.cell? ⟨qb, 1, none⟩ = some (.int .i64 (1 + q)) ∧ W.cell? ⟨qb, 2, none⟩ = some (.string r) ∧ W.cell? ⟨qb, 3, none⟩ = some (.string p) ∧ W.cell? ⟨qb, 4, none⟩ = some (.int .i64 S.at_) ∧ W.cell? ⟨qb, 5, none⟩ = some (.slice a1 S.op.length c1) ∧ W.cell? ⟨qb, 6, none⟩ = some (.slice a2 S.sh.length c2) ∧ W.cell? ⟨qb, 7, none⟩ = some (.slice a3 S.si.length c3))) (by kernel_rfl) (by exact ⟨Q.2.1 0 _ rfl, Q.2.1 1 _ rfl, Q.2.1 2 _ rfl, Q.2.1 3 _ rfl, Q.2.1 4 _ rfl, Q.2.1 5 _ rfl, Q.2.1 6 _ rfl, Q.2.1 7 _ rfl⟩) (fun hHeld => ?_)
    have xd : Ext w10 w10.drew := (Ext.refl w10).drew
    replace R := R.ext xd
    replace C := C.ext xd
    replace M := M.trans (Mut.of_ext xd)
    replace H := H.ext xd
    replace ST := Lib.hid (ST.out.ext xd)
    replace SO := SO.ext xd
    replace Q := Q.ext xd
    generalize w10.drew = w11 at *
    have q0 := Q.2.1 0 _ rfl
    have q1 := Q.2.1 1 _ rfl
    have q2 := Q.2.1 2 _ rfl
    have q3 := Q.2.1 3 _ rfl
    have q4 := Q.2.1 4 _ rfl
    have q5 := Q.2.1 5 _ rfl
    have q6 := Q.2.1 6 _ rfl
    have q7 := Q.2.1 7 _ rfl
    (refine wpAnyH_take (i := 0) (v := ?_) rfl (by kernel_rfl) (by kernel_rfl) (by kernel_rfl) (fun _ _ _ h => h) (Or.inl ⟨by rfl, ?_⟩) (by assumption) ?_; rotate_left; focus (intro w hSw; (try dsimp only at hSw); (try simp only [zk1, zk2]); go_simp; try with_reducible rfl)); (try simp only [zk1, zk2]); (try simp only [Act.put, zk4, zk5, zk6])
    (refine wpAnyH_take (i := 1) (v := ?_) rfl (by kernel_rfl) (by kernel_rfl) (by kernel_rfl) (fun _ _ _ h => h) (Or.inl ⟨by rfl, ?_⟩) (by assumption) ?_; rotate_left; focus (intro w hSw; (try dsimp only at hSw); (try simp only [zk1, zk2, zk3]); go_simp; try with_reducible rfl)); (try simp only [zk1, zk2, zk3]); (try simp only [Act.put, zk4, zk5, zk6])
    (refine wpAnyH_ready (rs := [2]) (by kernel_rfl) (by simp) ?_; refine AllReadyH.cons rfl (fun K hK => ?_) AllReadyH.nil; (try simp only [zk1, zk2, zk3]))
    go_simp
    go_at_call 88
    refine (spec_PoolRoot _ pool _ ST.out HPF.out (solid_some _ _ _ _)).mono ?_
    generalize poolRt pool = rt at *
    rintro e w12 ⟨rfl, x12⟩
    clear q0 q1 q2 q3 q4 q5 q6 q7
    replace R := R.ext x12
    replace C := C.ext x12
    replace M := M.trans (Mut.of_ext x12)
    replace H := H.ext x12
    replace ST := Lib.hid (ST.out.ext x12)
    replace SO := SO.ext x12
    replace Q := Q.ext x12
    (try dsimp only)
    refine hK.out _ _ (by exact ⟨Q.2.1 0 _ rfl, Q.2.1 1 _ rfl, Q.2.1 2 _ rfl, Q.2.1 3 _ rfl, Q.2.1 4 _ rfl, Q.2.1 5 _ rfl, Q.2.1 6 _ rfl, Q.2.1 7 _ rfl⟩) (fun hHeld => ?_)
    clear hK K
    have z0 := R.2.1 0 _ rfl
    have z1 := R.2.1 1 _ rfl
    have z2 := R.2.1 2 _ rfl
    have z3 := R.2.1 3 _ rfl
    have z4 := R.2.1 4 _ rfl
    have z5 := R.2.1 5 _ rfl
    have z6 := R.2.1 6 _ rfl
    have z7 := R.2.1 7 _ rfl
    have zf0 := R.2.2 0
    have zf1 := R.2.2 1
    have zf2 := R.2.2 2
    have zf3 := R.2.2 3
    have zf4 := R.2.2 4
    have zf5 := R.2.2 5
    have zf6 := R.2.2 6
    have zf7 := R.2.2 7
    have RF := ((((((((R.set 0 (.int .i64 hh) (by simp)).set 1 (.int .i64 (1 + q)) (by simp)).set 2 (.string r) (by simp)).set 3 (.string p) (by simp)).set 4 (.int .i64 S.at_) (by simp)).set 5 (.slice a1 S.op.length c1) (by simp)).set 6 (.slice a2 S.sh.length c2) (by simp)).set 7 (.slice a3 S.si.length c3) (by simp))
    have SF := ((((((((SO.set (b := w.heap.size) (by omega) 0 (.int .i64 hh)).set (b := w.heap.size) (by omega) 1 (.int .i64 (1 + q))).set (b := w.heap.size) (by omega) 2 (.string r)).set (b := w.heap.size) (by omega) 3 (.string p)).set (b := w.heap.size) (by omega) 4 (.int .i64 S.at_)).set (b := w.heap.size) (by omega) 5 (.slice a1 S.op.length c1)).set (b := w.heap.size) (by omega) 6 (.slice a2 S.sh.length c2)).set (b := w.heap.size) (by omega) 7 (.slice a3 S.si.length c3))
    have CF := ((((((((C.far hbw 0 (.int .i64 hh)).far hbw 1 (.int .i64 (1 + q))).far hbw 2 (.string r)).far hbw 3 (.string p)).far hbw 4 (.int .i64 S.at_)).far hbw 5 (.slice a1 S.op.length c1)).far hbw 6 (.slice a2 S.sh.length c2)).far hbw 7 (.slice a3 S.si.length c3))
    have MF : Mut b w ((((((((w12.setCell ⟨w.heap.size, 0, none⟩ (.int .i64 hh)).setCell ⟨w.heap.size, 1, none⟩ (.int .i64 (1 + q))).setCell ⟨w.heap.size, 2, none⟩ (.string r)).setCell ⟨w.heap.size, 3, none⟩ (.string p)).setCell ⟨w.heap.size, 4, none⟩ (.int .i64 S.at_)).setCell ⟨w.heap.size, 5, none⟩ (.slice a1 S.op.length c1)).setCell ⟨w.heap.size, 6, none⟩ (.slice a2 S.sh.length c2)).setCell ⟨w.heap.size, 7, none⟩ (.slice a3 S.si.length c3)) := (mut_new (mut_new (mut_new (mut_new (mut_new (mut_new (mut_new (mut_new M 0 (.int .i64 hh)) 1 (.int .i64 (1 + q))) 2 (.string r)) 3 (.string p)) 4 (.int .i64 S.at_)) 5 (.slice a1 S.op.length c1)) 6 (.slice a2 S.sh.length c2)) 7 (.slice a3 S.si.length c3))
    have QF := ((((((((Q.far (c := w.heap.size) (by omega) 0 (.int .i64 hh)).far (c := w.heap.size) (by omega) 1 (.int .i64 (1 + q))).far (c := w.heap.size) (by omega) 2 (.string r)).far (c := w.heap.size) (by omega) 3 (.string p)).far (c := w.heap.size) (by omega) 4 (.int .i64 S.at_)).far (c := w.heap.size) (by omega) 5 (.slice a1 S.op.length c1)).far (c := w.heap.size) (by omega) 6 (.slice a2 S.sh.length c2)).far (c := w.heap.size) (by omega) 7 (.slice a3 S.si.length c3))
    clear Q
    have Q := QF
    clear QF
    (refine wpAnyH_ready (rs := [3]) (by kernel_rfl) (by simp) ?_; refine AllReadyH.cons rfl (fun K hK => ?_) AllReadyH.nil; (try simp only [zk1, zk2, zk3]))
    go_simp
    clear z0 zf0 z1 zf1 z2 zf2 z3 zf3 z4 zf4 z5 zf5 z6 zf6 z7 zf7
    generalize (((((((w12.setCell ⟨w.heap.size, 0, none⟩ (.int .i64 hh)).setCell ⟨w.heap.size, 1, none⟩ (.int .i64 (1 + q))).setCell ⟨w.heap.size, 2, none⟩ (.string r)).setCell ⟨w.heap.size, 3, none⟩ (.string p)).setCell ⟨w.heap.size, 4, none⟩ (.int .i64 S.at_)).setCell ⟨w.heap.size, 5, none⟩ (.slice a1 S.op.length c1)).setCell ⟨w.heap.size, 6, none⟩ (.slice a2 S.sh.length c2)).setCell ⟨w.heap.size, 7, none⟩ (.slice a3 S.si.length c3) = WF at *
    (try dsimp only)
    refine hK.out _ _ (by exact ⟨Q.2.1 0 _ rfl, Q.2.1 1 _ rfl, Q.2.1 2 _ rfl, Q.2.1 3 _ rfl, Q.2.1 4 _ rfl, Q.2.1 5 _ rfl, Q.2.1 6 _ rfl, Q.2.1 7 _ rfl⟩) (fun hHeld => ?_)
    clear hK K
    (refine wpAnyH_take (i := 4) (v := ?_) rfl (by kernel_rfl) (by kernel_rfl) (by kernel_rfl) (fun _ _ _ h => h) (Or.inl ⟨by rfl, ?_⟩) (by assumption) ?_; rotate_left; focus (intro w hSw; (try dsimp only at hSw); (try simp only [zk1, zk2, zk3]); go_simp; try with_reducible rfl)); (try simp only [zk1, zk2, zk3]); (try simp only [Act.put, zk4, zk5, zk6])
    refine wpAnyH_done (by kernel_rfl) ?_ _
    have k0 := RF.2.1 0 _ rfl
    have k1 := RF.2.1 1 _ rfl
    have k2 := RF.2.1 2 _ rfl
    have k3 := RF.2.1 3 _ rfl
    have k4 := RF.2.1 4 _ rfl
    have k5 := RF.2.1 5 _ rfl
    have k6 := RF.2.1 6 _ rfl
    have k7 := RF.2.1 7 _ rfl
    go_wp2
    refine bodyPost_ret (v := .tuple #[.agg #[.int .i64 hh, .int .i64 (1 + q), .string r, .string p, .int .i64 S.at_, .slice a1 S.op.length c1, .slice a2 S.sh.length c2, .slice a3 S.si.length c3], .string rt]) (by simp [results, Tryz.results69, go_sem, k0, k1, k2, k3, k4, k5, k6, k7]) rfl ?_
    exact ⟨hh, (1 + q), r, p, rt, S, a1, a2, a3, c1, c2, c3, rfl, RS.out, hr, HSL.out, SF.mono (by omega), CF, MF⟩
end Go.Proofs.YtkphipgfcbckcaaGreatDoor
