/- SgL, DSdL in one text. -/
import Derived.Test.YtliebkhfddmhjaaDoorSgnP
import Derived.Test.YtliebkhfddmhjaaDoorCurA
import Derived.Test.YtliebkhfddmhjaaDoorSgO
import Derived.Test.YtliebkhfddmhjaaDoorSgFt
import Derived.Test.YtliebkhfddmhjaaDoorMutL
namespace Go.Proofs.YtliebkhfddmhjaaDoor
open Go.RowKit

theorem top_16 : ∀ (n : Nat) (xs : List ByteArray), xs.length = 2 ^ n → (∀ s ∈ xs, s.size = 16) → (topT 16 n xs).size = 16
  | 0, xs, hl, hs => by
    match xs, hl with
    | [x], _ => exact hs x (by simp)
  | n + 1, xs, hl, hs => by
    rw [topT]
    refine top_16 n _ (by rw [upL_length, hl, Nat.pow_succ]; omega) fun s hs' => ?_
    rw [upL, upK, List.mem_map] at hs'
    obtain ⟨j, hj, rfl⟩ := hs'
    rw [List.mem_range] at hj
    have g : ∀ i, i < xs.length → (xs.getD i ⟨#[]⟩).size = 16 := fun i hi => by
      rw [List.getD_eq_getElem?_getD, List.getElem?_eq_getElem hi]
      exact hs _ (List.getElem_mem hi)
    have g0 := g (2 * j) (by omega)
    have g1 := g (2 * j + 1) (by omega)
    have hw : tagWell 3 [xs.getD (2 * j) ⟨#[]⟩, xs.getD (2 * j + 1) ⟨#[]⟩] = true := tag_yes (by decide) (by simp) (fun p hp => by
      simp only [List.mem_cons, List.not_mem_nil, or_false] at hp
      rcases hp with rfl | rfl <;> omega)
    have := cutT_size (tagTx 3 [xs.getD (2 * j) ⟨#[]⟩, xs.getD (2 * j + 1) ⟨#[]⟩]) 16 (by decide)
    rw [pairH, tagH, if_pos hw]
    omega
theorem poolK_16 {seed : ByteArray} (h : seed.size ≤ 100) : ∀ s ∈ poolK seed 16, s.size = 16 := by
  intro s hs
  rw [poolK, List.mem_map] at hs
  obtain ⟨j, hj, rfl⟩ := hs
  rw [List.mem_range] at hj
  exact pub_16 (by rw [pubOk, decide_eq_true h, inB_true.2 (by omega)]; rfl)
theorem poolK_at (seed : ByteArray) {k : Nat} (h : k < 16) : (poolK seed 16).getD k ⟨#[]⟩ = pubT seed k := by
  rw [poolK, List.getD_eq_getElem?_getD, List.getElem?_map, List.getElem?_range h]
  rfl
theorem sgnOp_at (seed : ByteArray) (a : Int) (text : ByteArray) {k : Nat} (h : k < 8) : (sgnOpK seed a text 8).getD k ⟨#[]⟩ = secT seed a k (bitT (sgIdx text) k) := by
  rw [sgnOpK, List.getD_eq_getElem?_getD, List.getElem?_map, List.getElem?_range h]
  rfl
theorem sgnSh_at (seed : ByteArray) (a : Int) (text : ByteArray) {k : Nat} (h : k < 8) : (sgnShK seed a text 8).getD k ⟨#[]⟩ = lkH (secT seed a k (1 - bitT (sgIdx text) k)) := by
  rw [sgnShK, List.getD_eq_getElem?_getD, List.getElem?_map, List.getElem?_range h]
  rfl
theorem up_16 {n : Nat} {xs : List ByteArray} (hl : xs.length = 2 ^ (n + 1)) (hs : ∀ s ∈ xs, s.size = 16) : ∀ s ∈ upL xs 16, s.size = 16 := by
  intro s hs'
  rw [upL, upK, List.mem_map] at hs'
  obtain ⟨j, hj, rfl⟩ := hs'
  rw [List.mem_range] at hj
  have g : ∀ i, i < xs.length → (xs.getD i ⟨#[]⟩).size = 16 := fun i hi => by
    rw [List.getD_eq_getElem?_getD, List.getElem?_eq_getElem hi]
    exact hs _ (List.getElem_mem hi)
  have g0 := g (2 * j) (by omega)
  have g1 := g (2 * j + 1) (by omega)
  have hw : tagWell 3 [xs.getD (2 * j) ⟨#[]⟩, xs.getD (2 * j + 1) ⟨#[]⟩] = true := tag_yes (by decide) (by simp) (fun p hp => by
    simp only [List.mem_cons, List.not_mem_nil, or_false] at hp
    rcases hp with rfl | rfl <;> omega)
  have := cutT_size (tagTx 3 [xs.getD (2 * j) ⟨#[]⟩, xs.getD (2 * j + 1) ⟨#[]⟩]) 16 (by decide)
  rw [pairH, tagH, if_pos hw]
  omega
theorem upL_pow {n : Nat} {xs : List ByteArray} (hl : xs.length = 2 ^ (n + 1)) : (upL xs 16).length = 2 ^ n := by rw [upL_length, hl, Nat.pow_succ]; omega
theorem side_16 : ∀ (n a : Nat) (xs : List ByteArray), xs.length = 2 ^ n → a < 2 ^ n → (∀ s ∈ xs, s.size = 16) → ∀ s ∈ sideT 16 n a xs, s.size = 16
  | 0, _, _, _, _, _ => fun s h => by simp [sideT] at h
  | n + 1, a, xs, hl, ha, hs => fun s h => by
    rw [sideT, List.mem_cons] at h
    rw [Nat.pow_succ] at ha
    rcases h with rfl | h
    · have := beside_lt ha
      rw [List.getD_eq_getElem?_getD, List.getElem?_eq_getElem (by rw [hl, Nat.pow_succ]; exact this)]
      exact hs _ (List.getElem_mem _)
    · exact side_16 n (a / 2) _ (upL_pow hl) (by omega) (up_16 hl hs) s h
theorem sgSt_cons (h : ByteArray) (a : Nat) (s0 : ByteArray) (ss : List ByteArray) : ∀ k, sgSt h a (s0 :: ss) (k + 1) = sgSt (tagH 3 (sgPair (a % 2) h s0) 16) (a / 2) ss k
  | 0 => by simp [sgSt]
  | k + 1 => by
    rw [sgSt, sgSt_cons h a s0 ss k, sgSt, List.getD_cons_succ, Nat.pow_succ, Nat.mul_comm (2 ^ k) 2, ← Nat.div_div_eq_div_mul]
theorem sg_climb : ∀ (n a : Nat) (xs : List ByteArray), xs.length = 2 ^ n → a < 2 ^ n → sgSt (xs.getD a ⟨#[]⟩) a (sideT 16 n a xs) n = topT 16 n xs
  | 0, a, xs, _, ha => by
    obtain rfl : a = 0 := by omega
    rfl
  | n + 1, a, xs, hl, ha => by
    rw [sideT, sgSt_cons, topT]
    rw [Nat.pow_succ] at ha
    have e : tagH 3 (sgPair (a % 2) (xs.getD a ⟨#[]⟩) (xs.getD (besideN a) ⟨#[]⟩)) 16 = (upL xs 16).getD (a / 2) ⟨#[]⟩ := by
      have hm : (upL xs 16).getD (a / 2) ⟨#[]⟩ = pairH xs 16 (a / 2) := by
        rw [upL, upK, List.getD_eq_getElem?_getD, List.getElem?_map, List.getElem?_range (by rw [hl, Nat.pow_succ]; omega)]
        rfl
      rw [hm, pairH, sgPair, besideN]
      by_cases h2 : a % 2 = 0
      · rw [if_pos h2, if_pos h2, show 2 * (a / 2) = a by omega]
      · rw [if_neg h2, if_neg h2, show 2 * (a / 2) = a - 1 by omega, show a - 1 + 1 = a by omega]
    rw [e]
    exact sg_climb n (a / 2) _ (upL_pow hl) (by omega)
theorem lk_pub (seed text : ByteArray) (a : Int) (z : Int) (si : List ByteArray) : ∀ n, n ≤ 8 → lkL (sgIdx text) ⟨z, sgnOpK seed a text 8, sgnShK seed a text 8, si⟩ n = pubL seed a (2 * n)
  | 0, _ => rfl
  | n + 1, h => by
    have g1 := sgnOp_at seed a text (k := n) (by omega)
    have g2 := sgnSh_at seed a text (k := n) (by omega)
    rw [lkL_succ, lk_pub seed text a z si n (by omega), show 2 * (n + 1) = 2 * n + 1 + 1 by omega, pubL_succ, pubL_succ, show (2 * n) / 2 = n by omega, show (2 * n) % 2 = 0 by omega, show (2 * n + 1) / 2 = n by omega, show (2 * n + 1) % 2 = 1 by omega, List.append_assoc]
    congr 1
    rcases bitT_two (sgIdx text) n with hb | hb
    · rw [lkPair_0 hb]
      show [lkH ((sgnOpK seed a text 8).getD n ⟨#[]⟩), (sgnShK seed a text 8).getD n ⟨#[]⟩] = _
      rw [g1, g2, hb]
      rfl
    · rw [lkPair_1 hb]
      show [(sgnShK seed a text 8).getD n ⟨#[]⟩, lkH ((sgnOpK seed a text 8).getD n ⟨#[]⟩)] = _
      rw [g1, g2, hb]
      rfl
/-- what the program signs is right by its root -/
theorem sg_law {seed text : ByteArray} {a : Int} (h : sgnOk seed (poolK seed 16) a text = true) : sgRoot text (sgnV seed (poolK seed 16) a text) = poolRt (poolK seed 16) := by
  obtain ⟨hl, ⟨h0, h1⟩, -, hsd, hp⟩ := sgnOk_true h
  obtain ⟨a, rfl⟩ := Int.eq_ofNat_of_zero_le h0
  rw [sgn_yes h, sgRoot, poolRt_yes hl]
  show sgSt (tagH 6 (lkL (sgIdx text) ⟨a, sgnOpK seed a text 8, sgnShK seed a text 8, _⟩ 8) 16) _ (sideT 16 4 a (poolK seed 16)) (sideT 16 4 a (poolK seed 16)).length = _
  rw [lk_pub seed text a a _ 8 (Nat.le_refl _), ← pub_yes (seed := seed) (a := a) (by rw [pubOk, decide_eq_true hsd, inB_true.2 ⟨h0, h1⟩]; rfl), hp, sideT_length]
  exact sg_climb 4 a _ hl (by omega)
theorem sg_well {seed text : ByteArray} {a : Int} (h : sgnOk seed (poolK seed 16) a text = true) : sigWell (sgnV seed (poolK seed 16) a text) = true := by
  obtain ⟨hl, ⟨h0, h1⟩, -, hsd, -⟩ := sgnOk_true h
  obtain ⟨a, rfl⟩ := Int.eq_ofNat_of_zero_le h0
  rw [sgn_yes h, sigWell]
  have w1 : wide (sgnOpK seed a text 8) 16 = true := by
    rw [wide, List.all_eq_true]
    intro s hs
    rw [sgnOpK, List.mem_map] at hs
    obtain ⟨j, -, rfl⟩ := hs
    exact decide_eq_true (by rw [sec_16 _ _ _ hsd]; rfl)
  have w2 : wide (sgnShK seed a text 8) 16 = true := by
    rw [wide, List.all_eq_true]
    intro s hs
    rw [sgnShK, List.mem_map] at hs
    obtain ⟨j, -, rfl⟩ := hs
    have := sec_16 (seed := seed) a (j : Int) (1 - bitT (sgIdx text) (j : Int)) hsd
    exact decide_eq_true (by rw [lk_16 (by omega)]; rfl)
  have w3 : wide (sideT 16 4 a (poolK seed 16)) 16 = true := by
    rw [wide, List.all_eq_true]
    intro s hs
    exact decide_eq_true (by rw [side_16 4 a _ hl (by omega) (poolK_16 hsd) s hs]; rfl)
  show (inB a 0 15 && _) = true
  simp only [w1, w2, w3, Int.toNat_natCast, inB_true.2 ⟨h0, h1⟩, sgnOp_len, sgnSh_len, sideT_length]
  rfl
theorem sgn_pool {seed text : ByteArray} {a : Nat} (ha : a < 16) (hsd : seed.size ≤ 100) (ht : text.size ≤ 200) : sgnOk seed (poolK seed 16) a text = true := by
  rw [sgnOk, decide_eq_true (poolK_len seed 16), inB_true.2 (by omega), decide_eq_true ht, decide_eq_true hsd, show ((a : Nat) : Int).toNat = a from rfl, poolK_at seed ha]
  simp
end Go.Proofs.YtliebkhfddmhjaaDoor
namespace Go.Proofs.YtliebkhfddmhjaaDoor
open Go.RowKit

theorem Cur.far {w : World} {b c : Nat} (h : Cur w b) (hc : b < c) (o : Nat) (u : Value) : Cur (w.setCell ⟨c, o, none⟩ u) b := by
  obtain ⟨v, xs, i, n, hb, c0, c1, c2, fz, hi, hl, hcd⟩ := h
  have hn : ∀ k j, k ≤ b → (w.setCell ⟨c, o, none⟩ u).cell? ⟨k, j, none⟩ = w.cell? ⟨k, j, none⟩ := fun k j hk => World.cell?_setCell_other _ _ _ _ (fun e => by have := congrArg Addr.block e; dsimp only at this; omega)
  exact ⟨v, xs, i, n, by rw [World.size_setCell]; exact hb, (hn _ _ (Nat.le_refl _)).trans c0, (hn _ _ (Nat.le_refl _)).trans c1, (hn _ _ (Nat.le_refl _)).trans c2, fun j => by rw [World.frozen?_setCell]; exact fz j, hi, hl, hcd.keep fun k j hk => hn k j (Nat.le_of_lt hk)⟩
theorem pool_16 {seed : ByteArray} (h : seed.size ≤ 100) : (poolRt (poolK seed 16)).size = 16 := by
  rw [poolRt_yes (poolK_len seed 16)]
  exact top_16 4 _ (poolK_len seed 16) (poolK_16 h)
theorem sg_ok {seed text : ByteArray} {a : Int} (h : sgnOk seed (poolK seed 16) a text = true) : sigOkB (poolRt (poolK seed 16)) text (sgnV seed (poolK seed 16) a text) = true := by
  rw [sigOkB, sg_well h, sg_law h, decide_eq_true (sgnOk_true h).2.2.1, decide_eq_true rfl]
  rfl
theorem sgn_at {seed text : ByteArray} {pool : List ByteArray} {a : Int} (h : sgnOk seed pool a text = true) : (sgnV seed pool a text).at_ = a := by rw [sgn_yes h]
end Go.Proofs.YtliebkhfddmhjaaDoor
