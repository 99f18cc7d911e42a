/- SgL, DSgn, DSd in one text. -/
import Derived.Test.YtliebkhfddmhjaaDoorSgnP
import Derived.Test.YtliebkhfddmhjaaDoorPub
import Derived.Test.YtliebkhfddmhjaaDoorPool
import Derived.Test.YtliebkhfddmhjaaDoorCur3
import Derived.Test.YtliebkhfddmhjaaDoorDrawH
import Derived.Test.YtliebkhfddmhjaaDoorSgnA
import Derived.Test.YtliebkhfddmhjaaDoorSgO
import Derived.Test.YtliebkhfddmhjaaDoorRdA
namespace Go.Proofs.YtliebkhfddmhjaaDoor
open Go.RowKit

theorem top_16 : ∀ (n : Nat) (xs : List ByteArray), xs.length = 2 ^ n → (∀ s ∈ xs, s.size = 16) → (topT 16 n xs).size = 16
  | 0, xs, hl, hs => by
    match xs, hl with
    | [x], _ => exact hs x (by simp)
  | n + 1, xs, hl, hs => by
    rw [topT]
    refine top_16 n _ (by rw [upL_length, hl, Nat.pow_succ]; omega) fun s hs' => ?_
    rw [upL, upK, List.mem_map] at hs'
    obtain ⟨j, hj, rfl⟩ := hs'
    rw [List.mem_range] at hj
    have g : ∀ i, i < xs.length → (xs.getD i ⟨#[]⟩).size = 16 := fun i hi => by
      rw [List.getD_eq_getElem?_getD, List.getElem?_eq_getElem hi]
      exact hs _ (List.getElem_mem hi)
    have g0 := g (2 * j) (by omega)
    have g1 := g (2 * j + 1) (by omega)
    have hw : tagWell 3 [xs.getD (2 * j) ⟨#[]⟩, xs.getD (2 * j + 1) ⟨#[]⟩] = true := tag_yes (by decide) (by simp) (fun p hp => by
      simp only [List.mem_cons, List.not_mem_nil, or_false] at hp
      rcases hp with rfl | rfl <;> omega)
    have := cutT_size (tagTx 3 [xs.getD (2 * j) ⟨#[]⟩, xs.getD (2 * j + 1) ⟨#[]⟩]) 16 (by decide)
    rw [pairH, tagH, if_pos hw]
    omega
theorem poolK_16 {seed : ByteArray} (h : seed.size ≤ 100) : ∀ s ∈ poolK seed 16, s.size = 16 := by
  intro s hs
  rw [poolK, List.mem_map] at hs
  obtain ⟨j, hj, rfl⟩ := hs
  rw [List.mem_range] at hj
  exact pub_16 (by rw [pubOk, decide_eq_true h, inB_true.2 (by omega)]; rfl)
theorem poolK_at (seed : ByteArray) {k : Nat} (h : k < 16) : (poolK seed 16).getD k ⟨#[]⟩ = pubT seed k := by
  rw [poolK, List.getD_eq_getElem?_getD, List.getElem?_map, List.getElem?_range h]
  rfl
theorem sgnOp_at (seed : ByteArray) (a : Int) (text : ByteArray) {k : Nat} (h : k < 8) : (sgnOpK seed a text 8).getD k ⟨#[]⟩ = secT seed a k (bitT (sgIdx text) k) := by
  rw [sgnOpK, List.getD_eq_getElem?_getD, List.getElem?_map, List.getElem?_range h]
  rfl
theorem sgnSh_at (seed : ByteArray) (a : Int) (text : ByteArray) {k : Nat} (h : k < 8) : (sgnShK seed a text 8).getD k ⟨#[]⟩ = lkH (secT seed a k (1 - bitT (sgIdx text) k)) := by
  rw [sgnShK, List.getD_eq_getElem?_getD, List.getElem?_map, List.getElem?_range h]
  rfl
theorem up_16 {n : Nat} {xs : List ByteArray} (hl : xs.length = 2 ^ (n + 1)) (hs : ∀ s ∈ xs, s.size = 16) : ∀ s ∈ upL xs 16, s.size = 16 := by
  intro s hs'
  rw [upL, upK, List.mem_map] at hs'
  obtain ⟨j, hj, rfl⟩ := hs'
  rw [List.mem_range] at hj
  have g : ∀ i, i < xs.length → (xs.getD i ⟨#[]⟩).size = 16 := fun i hi => by
    rw [List.getD_eq_getElem?_getD, List.getElem?_eq_getElem hi]
    exact hs _ (List.getElem_mem hi)
  have g0 := g (2 * j) (by omega)
  have g1 := g (2 * j + 1) (by omega)
  have hw : tagWell 3 [xs.getD (2 * j) ⟨#[]⟩, xs.getD (2 * j + 1) ⟨#[]⟩] = true := tag_yes (by decide) (by simp) (fun p hp => by
    simp only [List.mem_cons, List.not_mem_nil, or_false] at hp
    rcases hp with rfl | rfl <;> omega)
  have := cutT_size (tagTx 3 [xs.getD (2 * j) ⟨#[]⟩, xs.getD (2 * j + 1) ⟨#[]⟩]) 16 (by decide)
  rw [pairH, tagH, if_pos hw]
  omega
theorem upL_pow {n : Nat} {xs : List ByteArray} (hl : xs.length = 2 ^ (n + 1)) : (upL xs 16).length = 2 ^ n := by rw [upL_length, hl, Nat.pow_succ]; omega
theorem side_16 : ∀ (n a : Nat) (xs : List ByteArray), xs.length = 2 ^ n → a < 2 ^ n → (∀ s ∈ xs, s.size = 16) → ∀ s ∈ sideT 16 n a xs, s.size = 16
  | 0, _, _, _, _, _ => fun s h => by simp [sideT] at h
  | n + 1, a, xs, hl, ha, hs => fun s h => by
    rw [sideT, List.mem_cons] at h
    rw [Nat.pow_succ] at ha
    rcases h with rfl | h
    · have := beside_lt ha
      rw [List.getD_eq_getElem?_getD, List.getElem?_eq_getElem (by rw [hl, Nat.pow_succ]; exact this)]
      exact hs _ (List.getElem_mem _)
    · exact side_16 n (a / 2) _ (upL_pow hl) (by omega) (up_16 hl hs) s h
theorem sgSt_cons (h : ByteArray) (a : Nat) (s0 : ByteArray) (ss : List ByteArray) : ∀ k, sgSt h a (s0 :: ss) (k + 1) = sgSt (tagH 3 (sgPair (a % 2) h s0) 16) (a / 2) ss k
  | 0 => by simp [sgSt]
  | k + 1 => by
    rw [sgSt, sgSt_cons h a s0 ss k, sgSt, List.getD_cons_succ, Nat.pow_succ, Nat.mul_comm (2 ^ k) 2, ← Nat.div_div_eq_div_mul]
theorem sg_climb : ∀ (n a : Nat) (xs : List ByteArray), xs.length = 2 ^ n → a < 2 ^ n → sgSt (xs.getD a ⟨#[]⟩) a (sideT 16 n a xs) n = topT 16 n xs
  | 0, a, xs, _, ha => by
    obtain rfl : a = 0 := by omega
    rfl
  | n + 1, a, xs, hl, ha => by
    rw [sideT, sgSt_cons, topT]
    rw [Nat.pow_succ] at ha
    have e : tagH 3 (sgPair (a % 2) (xs.getD a ⟨#[]⟩) (xs.getD (besideN a) ⟨#[]⟩)) 16 = (upL xs 16).getD (a / 2) ⟨#[]⟩ := by
      have hm : (upL xs 16).getD (a / 2) ⟨#[]⟩ = pairH xs 16 (a / 2) := by
        rw [upL, upK, List.getD_eq_getElem?_getD, List.getElem?_map, List.getElem?_range (by rw [hl, Nat.pow_succ]; omega)]
        rfl
      rw [hm, pairH, sgPair, besideN]
      by_cases h2 : a % 2 = 0
      · rw [if_pos h2, if_pos h2, show 2 * (a / 2) = a by omega]
      · rw [if_neg h2, if_neg h2, show 2 * (a / 2) = a - 1 by omega, show a - 1 + 1 = a by omega]
    rw [e]
    exact sg_climb n (a / 2) _ (upL_pow hl) (by omega)
theorem lk_pub (seed text : ByteArray) (a : Int) (z : Int) (si : List ByteArray) : ∀ n, n ≤ 8 → lkL (sgIdx text) ⟨z, sgnOpK seed a text 8, sgnShK seed a text 8, si⟩ n = pubL seed a (2 * n)
  | 0, _ => rfl
  | n + 1, h => by
    have g1 := sgnOp_at seed a text (k := n) (by omega)
    have g2 := sgnSh_at seed a text (k := n) (by omega)
    rw [lkL_succ, lk_pub seed text a z si n (by omega), show 2 * (n + 1) = 2 * n + 1 + 1 by omega, pubL_succ, pubL_succ, show (2 * n) / 2 = n by omega, show (2 * n) % 2 = 0 by omega, show (2 * n + 1) / 2 = n by omega, show (2 * n + 1) % 2 = 1 by omega, List.append_assoc]
    congr 1
    rcases bitT_two (sgIdx text) n with hb | hb
    · rw [lkPair_0 hb]
      show [lkH ((sgnOpK seed a text 8).getD n ⟨#[]⟩), (sgnShK seed a text 8).getD n ⟨#[]⟩] = _
      rw [g1, g2, hb]
      rfl
    · rw [lkPair_1 hb]
      show [(sgnShK seed a text 8).getD n ⟨#[]⟩, lkH ((sgnOpK seed a text 8).getD n ⟨#[]⟩)] = _
      rw [g1, g2, hb]
      rfl
/-- what the program signs is right by its root -/
theorem sg_law {seed text : ByteArray} {a : Int} (h : sgnOk seed (poolK seed 16) a text = true) : sgRoot text (sgnV seed (poolK seed 16) a text) = poolRt (poolK seed 16) := by
  obtain ⟨hl, ⟨h0, h1⟩, -, hsd, hp⟩ := sgnOk_true h
  obtain ⟨a, rfl⟩ := Int.eq_ofNat_of_zero_le h0
  rw [sgn_yes h, sgRoot, poolRt_yes hl]
  show sgSt (tagH 6 (lkL (sgIdx text) ⟨a, sgnOpK seed a text 8, sgnShK seed a text 8, _⟩ 8) 16) _ (sideT 16 4 a (poolK seed 16)) (sideT 16 4 a (poolK seed 16)).length = _
  rw [lk_pub seed text a a _ 8 (Nat.le_refl _), ← pub_yes (seed := seed) (a := a) (by rw [pubOk, decide_eq_true hsd, inB_true.2 ⟨h0, h1⟩]; rfl), hp, sideT_length]
  exact sg_climb 4 a _ hl (by omega)
theorem sg_well {seed text : ByteArray} {a : Int} (h : sgnOk seed (poolK seed 16) a text = true) : sigWell (sgnV seed (poolK seed 16) a text) = true := by
  obtain ⟨hl, ⟨h0, h1⟩, -, hsd, -⟩ := sgnOk_true h
  obtain ⟨a, rfl⟩ := Int.eq_ofNat_of_zero_le h0
  rw [sgn_yes h, sigWell]
  have w1 : wide (sgnOpK seed a text 8) 16 = true := by
    rw [wide, List.all_eq_true]
    intro s hs
    rw [sgnOpK, List.mem_map] at hs
    obtain ⟨j, -, rfl⟩ := hs
    exact decide_eq_true (by rw [sec_16 _ _ _ hsd]; rfl)
  have w2 : wide (sgnShK seed a text 8) 16 = true := by
    rw [wide, List.all_eq_true]
    intro s hs
    rw [sgnShK, List.mem_map] at hs
    obtain ⟨j, -, rfl⟩ := hs
    have := sec_16 (seed := seed) a (j : Int) (1 - bitT (sgIdx text) (j : Int)) hsd
    exact decide_eq_true (by rw [lk_16 (by omega)]; rfl)
  have w3 : wide (sideT 16 4 a (poolK seed 16)) 16 = true := by
    rw [wide, List.all_eq_true]
    intro s hs
    exact decide_eq_true (by rw [side_16 4 a _ hl (by omega) (poolK_16 hsd) s hs]; rfl)
  show (inB a 0 15 && _) = true
  simp only [w1, w2, w3, Int.toNat_natCast, inB_true.2 ⟨h0, h1⟩, sgnOp_len, sgnSh_len, sideT_length]
  rfl
theorem sgn_pool {seed text : ByteArray} {a : Nat} (ha : a < 16) (hsd : seed.size ≤ 100) (ht : text.size ≤ 200) : sgnOk seed (poolK seed 16) a text = true := by
  rw [sgnOk, decide_eq_true (poolK_len seed 16), inB_true.2 (by omega), decide_eq_true ht, decide_eq_true hsd, show ((a : Nat) : Int).toNat = a from rfl, poolK_at seed ha]
  simp
end Go.Proofs.YtliebkhfddmhjaaDoor
namespace Go.Proofs.YtliebkhfddmhjaaDoor
open Go.RowKit

def sds : List ByteArray := [⟨#[111, 110, 101]⟩, ⟨#[116, 119, 111]⟩, ⟨#[116, 104, 114, 101, 101]⟩]
theorem sds_5 : ∀ s ∈ sds, s.size ≤ 5 := by decide +kernel
set_option maxHeartbeats 800000 in
theorem spec_l05Seed (b : Nat) (w : World) (h : Cur w b) :
    Calls Tryd.prog 164 #[.pointer (some ⟨b, 0, none⟩)] w fun e w' => ∃ s : ByteArray, e = .returned (.string s) ∧ s.size ≤ 5 ∧ Cur w' b ∧ Mut b w w' := by
  go_enter Tryd.func164, Tryd.ntmps164
  go_wp2_with fail
  refine (spec_l01Pick b _ sds _ (h.ext (by repeat (first | (with_reducible first | exact Ext.refl _ | assumption | apply Ext.alloc | apply Ext.drew | apply Ext.drewN | refine Ext.setCell ?_ ?_ _ | refine Ext.trans ?_ (by assumption)) | (show _ ≤ _; first | omega | (dsimp only; omega) | (simp; done) | (simp; omega))))) (by exact strs_lit w sds 3 _ _ rfl rfl (by omega)) (own_not h.lt) (by decide) (by decide)).mono ?_
  rintro e w1 ⟨s, hs, rfl, C1, M1⟩
  have M2 : Mut b w w1 := (Mut.of_ext ((Ext.refl w).alloc _)).trans M1
  have HZ := sds_5 s hs
  clear hs
  go_wp2
  go_ret
  exact ⟨s, rfl, HZ, C1, M2⟩
theorem strs_drop1 {w : World} {g n c : Nat} {xs : List ByteArray} (h : Strs w (.slice (some ⟨g, 0, none⟩) n c) xs) (hn : 1 < xs.length) : Strs w (.slice (some ⟨g, 1, none⟩) (xs.length - 1) (c - 1)) (xs.drop 1) := by
  obtain ⟨hl, a, c', he, hc, hm, hcase⟩ := h
  injection he with e1 e2 e3
  subst e1 e3
  have hlen : (xs.drop 1).length = xs.length - 1 := List.length_drop
  rcases hcase with h0 | ⟨b, o, hb, hlt, hcell⟩
  · omega
  · simp only [Option.some.injEq, Addr.mk.injEq, and_true] at hb
    obtain ⟨rfl, rfl⟩ := hb
    refine ⟨by simp, _, _, by rw [hlen], by omega, by omega, Or.inr ⟨g, 1, rfl, hlt, fun j u hu => ?_⟩⟩
    have := hcell (1 + j) u (by rw [List.map_drop, List.getElem?_drop] at hu; exact hu)
    rwa [Nat.zero_add] at this
end Go.Proofs.YtliebkhfddmhjaaDoor
namespace Go.Proofs.YtliebkhfddmhjaaDoor
open Go.RowKit

theorem Cur.far {w : World} {b c : Nat} (h : Cur w b) (hc : b < c) (o : Nat) (u : Value) : Cur (w.setCell ⟨c, o, none⟩ u) b := by
  obtain ⟨v, xs, i, n, hb, c0, c1, c2, fz, hi, hl, hcd⟩ := h
  have hn : ∀ k j, k ≤ b → (w.setCell ⟨c, o, none⟩ u).cell? ⟨k, j, none⟩ = w.cell? ⟨k, j, none⟩ := fun k j hk => World.cell?_setCell_other _ _ _ _ (fun e => by have := congrArg Addr.block e; dsimp only at this; omega)
  exact ⟨v, xs, i, n, by rw [World.size_setCell]; exact hb, (hn _ _ (Nat.le_refl _)).trans c0, (hn _ _ (Nat.le_refl _)).trans c1, (hn _ _ (Nat.le_refl _)).trans c2, fun j => by rw [World.frozen?_setCell]; exact fz j, hi, hl, hcd.keep fun k j hk => hn k j (Nat.le_of_lt hk)⟩
theorem pool_16 {seed : ByteArray} (h : seed.size ≤ 100) : (poolRt (poolK seed 16)).size = 16 := by
  rw [poolRt_yes (poolK_len seed 16)]
  exact top_16 4 _ (poolK_len seed 16) (poolK_16 h)
theorem sg_ok {seed text : ByteArray} {a : Int} (h : sgnOk seed (poolK seed 16) a text = true) : sigOkB (poolRt (poolK seed 16)) text (sgnV seed (poolK seed 16) a text) = true := by
  rw [sigOkB, sg_well h, sg_law h, decide_eq_true (sgnOk_true h).2.2.1, decide_eq_true rfl]
  rfl
theorem sgn_at {seed text : ByteArray} {pool : List ByteArray} {a : Int} (h : sgnOk seed pool a text = true) : (sgnV seed pool a text).at_ = a := by rw [sgn_yes h]
set_option maxRecDepth 100000 in
set_option maxHeartbeats 1600000 in
theorem spec_l05Signed (b : Nat) (w : World) (h : Cur w b) :
    Calls Tryd.prog 95 #[.pointer (some ⟨b, 0, none⟩)] w fun e w' => ∃ (root text : ByteArray) (S : SigV) (a1 a2 a3 : Option Addr) (c1 c2 c3 : Nat), e = .returned (.tuple #[.string root, .string text, .agg #[.int .i64 S.at_, .slice a1 S.op.length c1, .slice a2 S.sh.length c2, .slice a3 S.si.length c3]]) ∧ root.size = 16 ∧ text.size ≤ 9 ∧ sigOkB root text S = true ∧ SigOwn w' w.heap.size (.slice a1 S.op.length c1) (.slice a2 S.sh.length c2) (.slice a3 S.si.length c3) S ∧ Cur w' b ∧ Mut b w w' := by
  go_enter Tryd.func95, Tryd.ntmps95
  go_wp2_with fail
  have e0 : Ext w (w.alloc (Obj.cells #[.int .i64 0, .slice none 0 0, .slice none 0 0, .slice none 0 0] 28)) := (Ext.refl w).alloc _
  have R := Bx.new w #[.int .i64 0, .slice none 0 0, .slice none 0 0, .slice none 0 0] 28
  generalize w.alloc (Obj.cells #[.int .i64 0, .slice none 0 0, .slice none 0 0, .slice none 0 0] 28) = W0 at *
  refine (spec_l05Seed _ _ (h.ext e0)).mono ?_
  rintro e w1 ⟨seed, rfl, hsd, C1, M1'⟩
  have M1 := (Mut.of_ext (b := b) e0).trans M1'
  go_wp2_with fail
  refine (spec_l01Below _ 16 _ C1 (by omega)).mono ?_
  rintro e w2 ⟨a, rfl, ha, C2, M2⟩
  go_wp2_with fail
  refine (spec_l01Below _ 9 _ C2 (by omega)).mono ?_
  rintro e w3 ⟨n, rfl, hn, C3, M3⟩
  obtain ⟨n, rfl⟩ := Int.eq_ofNat_of_zero_le hn.1
  obtain ⟨a, rfl⟩ := Int.eq_ofNat_of_zero_le ha.1
  go_wp2_with fail
  refine (spec_l01Text _ (1 + n) _ C3 (by omega)).mono ?_
  rintro e w4 ⟨text, rfl, hte, C4, M4⟩
  have M5 : Mut b w w4 := ((M1.trans M2).trans M3).trans M4
  go_wp2_with fail
  refine (spec_PoolOf seed _).mono ?_
  rintro e w5 ⟨pa, pc, rfl, own, x5⟩
  obtain ⟨g, c', he⟩ := own_form own (by rw [poolK_len]; omega)
  injection he with e1 e2 e3
  subst e1 e3
  have ST := Lib.hid own.strs
  have OK := Lib.hid (sgn_pool (seed := seed) (text := text) (a := a) (by omega) (by omega) (by omega))
  have SK := Lib.hid (sg_ok OK.out)
  have RS := Lib.hid (pool_16 (seed := seed) (by omega))
  have HPF := Lib.hid (fun (s : ByteArray) (hs : s ∈ poolK seed 16) => show s.size ≤ maxLen by have := poolK_fit seed 16 s hs; unfold maxLen; omega)
  have HPL := Lib.hid (poolK_len seed 16)
  have C5 := C4.ext x5
  have M6 := M5.trans (Mut.of_ext x5)
  clear own
  generalize hpo : poolK seed 16 = pool at *
  clear hpo
  go_wp2_with fail
  refine (spec_SignText seed text _ pool a _ (by rw [HPL.out]; exact ST.out) HPF.out (solid_some _ _ _ _)).mono ?_
  generalize hS : sgnV seed pool a text = S at *
  clear hS
  rw [OK.out]
  rintro e w6 ⟨a1, c1, a2, c2, a3, c3, rfl, so, x6⟩
  have ST2 := Lib.hid (ST.out.ext x6)
  have SO := Lib.hid so
  have C6 := C5.ext x6
  clear e2
  have M7 := M6.trans (Mut.of_ext x6)
  have z := M6.size
  clear so ST
  go_wp2_with fail
  have e7 : Ext w6 (w6.alloc (Obj.cells #[.int .i64 S.at_, .slice a1 S.op.length c1, .slice a2 S.sh.length c2, .slice a3 S.si.length c3] 28)) := (Ext.refl w6).alloc _
  have P := Bx.new w6 #[.int .i64 S.at_, .slice a1 S.op.length c1, .slice a2 S.sh.length c2, .slice a3 S.si.length c3] 28
  have C8 := C6.ext e7
  have M8 := M7.trans (Mut.of_ext e7)
  have ST3 := Lib.hid (ST2.out.ext e7)
  have SO3 := Lib.hid (SO.out.ext e7)
  replace ST2 := ST3
  replace SO := SO3
  clear ST3 SO3
  have hbw : b < w.heap.size := h.lt
  have hwb : w.heap.size ≠ b := by omega
  have XL : w.heap.size < w5.heap.size := by have r0 := R.1; have r1 := M1'.size; have r2 := M2.size; have r3 := M3.size; have r4 := M4.size; have r5 := x5.size; omega
  replace R := ((((R.mut M1' hwb).mut M2 hwb).mut M3 hwb).mut M4 hwb).ext (x5.trans (x6.trans e7))
  have lw := M6.size
  generalize w6.alloc (Obj.cells #[.int .i64 S.at_, .slice a1 S.op.length c1, .slice a2 S.sh.length c2, .slice a3 S.si.length c3] 28) = w7 at *
  skip
  have XC := Ext.refl w7
  refine wp_region_held_drew (S := (fun W => W.cell? ⟨w6.heap.size, 0, none⟩ = some (.int .i64 S.at_) ∧ W.cell? ⟨w6.heap.size, 1, none⟩ = some (.slice a1 S.op.length c1) ∧ W.cell? ⟨w6.heap.size, 2, none⟩ = some (.slice a2 S.sh.length c2) ∧ W.cell? ⟨w6.heap.size, 3, none⟩ = some (.slice a3 S.si.length c3))) (by kernel_rfl) (by exact ⟨P.2.1 0 _ rfl, P.2.1 1 _ rfl, P.2.1 2 _ rfl, P.2.1 3 _ rfl⟩) (fun hHeld => ?_)
  have xd : Ext w7 w7.drew := (Ext.refl w7).drew
  replace P := P.ext xd
  replace R := R.ext xd
  replace ST2 := Lib.hid (ST2.out.ext xd)
  replace SO := Lib.hid (SO.out.ext xd)
  replace XC := XC.trans xd
  replace M8 := M8.trans (Mut.of_ext xd)
  replace C8 := C8.ext xd
  generalize w7.drew = w8 at *
  have p0 := P.2.1 0 _ rfl
  have p1 := P.2.1 1 _ rfl
  have p2 := P.2.1 2 _ rfl
  have p3 := P.2.1 3 _ rfl
  (refine wpAnyH_take (i := 0) (v := ?_) rfl (by kernel_rfl) (by kernel_rfl) (by kernel_rfl) (fun _ _ _ h => h) (Or.inl ⟨by rfl, ?_⟩) (by assumption) ?_; rotate_left; focus (intro w hSw; (try dsimp only at hSw); (try simp only [List.getElem_toArray, List.getElem_cons_zero]); go_simp; try with_reducible rfl)); (try simp only [List.getElem_toArray, List.getElem_cons_zero]); (try simp only [Act.put, List.setIfInBounds_toArray, List.set_cons_zero, List.set_cons_succ])
  (refine wpAnyH_take (i := 2) (v := ?_) rfl (by kernel_rfl) (by kernel_rfl) (by kernel_rfl) (fun _ _ _ h => h) (Or.inl ⟨by rfl, ?_⟩) (by assumption) ?_; rotate_left; focus (intro w hSw; (try dsimp only at hSw); (try simp only [List.getElem_toArray, List.getElem_cons_zero, List.getElem_cons_succ]); go_simp; try with_reducible rfl)); (try simp only [List.getElem_toArray, List.getElem_cons_zero, List.getElem_cons_succ]); (try simp only [Act.put, List.setIfInBounds_toArray, List.set_cons_zero, List.set_cons_succ])
  (refine wpAnyH_take (i := 3) (v := ?_) rfl (by kernel_rfl) (by kernel_rfl) (by kernel_rfl) (fun _ _ _ h => h) (Or.inl ⟨by rfl, ?_⟩) (by assumption) ?_; rotate_left; focus (intro w hSw; (try dsimp only at hSw); (try simp only [List.getElem_toArray, List.getElem_cons_zero, List.getElem_cons_succ]); go_simp; try with_reducible rfl)); (try simp only [List.getElem_toArray, List.getElem_cons_zero, List.getElem_cons_succ]); (try simp only [Act.put, List.setIfInBounds_toArray, List.set_cons_zero, List.set_cons_succ])
  (refine wpAnyH_ready (rs := [1]) (by kernel_rfl) (by simp) ?_; refine AllReadyH.cons rfl (fun K hK => ?_) AllReadyH.nil; (try simp only [List.getElem_toArray, List.getElem_cons_zero, List.getElem_cons_succ]))
  go_simp
  go_at_call 55
  refine (spec_PoolRoot _ pool _ (by rw [HPL.out]; exact ST2.out) HPF.out (solid_some _ _ _ _)).mono ?_
  generalize poolRt pool = rt at *
  rintro e w9 ⟨rfl, x9⟩
  clear p0 p1 p2 p3
  replace P := P.ext x9
  replace R := R.ext x9
  replace ST2 := Lib.hid (ST2.out.ext x9)
  replace SO := Lib.hid (SO.out.ext x9)
  replace XC := XC.trans x9
  replace M8 := M8.trans (Mut.of_ext x9)
  replace C8 := C8.ext x9
  (try dsimp only)
  refine hK.out _ _ (by exact ⟨P.2.1 0 _ rfl, P.2.1 1 _ rfl, P.2.1 2 _ rfl, P.2.1 3 _ rfl⟩) (fun hHeld => ?_)
  clear hK K
  (refine wpAnyH_take (i := 4) (v := ?_) rfl (by kernel_rfl) (by kernel_rfl) (by kernel_rfl) (fun _ _ _ h => h) (Or.inl ⟨by rfl, ?_⟩) (by assumption) ?_; rotate_left; focus (intro w hSw; (try dsimp only at hSw); (try simp only [List.getElem_toArray, List.getElem_cons_zero, List.getElem_cons_succ]); go_simp; try with_reducible rfl)); (try simp only [List.getElem_toArray, List.getElem_cons_zero, List.getElem_cons_succ]); (try simp only [Act.put, List.setIfInBounds_toArray, List.set_cons_zero, List.set_cons_succ])
  (refine wpAnyH_take (i := 5) (v := ?_) rfl (by kernel_rfl) (by kernel_rfl) (by kernel_rfl) (fun _ _ _ h => h) (Or.inl ⟨by rfl, ?_⟩) (by assumption) ?_; rotate_left; focus (intro w hSw; (try dsimp only at hSw); (try simp only [List.getElem_toArray, List.getElem_cons_zero, List.getElem_cons_succ]); go_simp; try with_reducible rfl)); (try simp only [List.getElem_toArray, List.getElem_cons_zero, List.getElem_cons_succ]); (try simp only [Act.put, List.setIfInBounds_toArray, List.set_cons_zero, List.set_cons_succ])
  have z0 := R.2.1 0 _ rfl
  have z1 := R.2.1 1 _ rfl
  have z2 := R.2.1 2 _ rfl
  have z3 := R.2.1 3 _ rfl
  have f0 := R.2.2 0
  have f1 := R.2.2 1
  have f2 := R.2.2 2
  have f3 := R.2.2 3
  have nw : w.heap.size ≠ w6.heap.size := by have := x6.size; omega
  have RF := ((((R.set 0 (.int .i64 S.at_) (by simp)).set 1 (.slice a1 S.op.length c1) (by simp)).set 2 (.slice a2 S.sh.length c2) (by simp)).set 3 (.slice a3 S.si.length c3) (by simp))
  have PF := ((((P.far (c := w.heap.size) nw 0 (.int .i64 S.at_)).far (c := w.heap.size) nw 1 (.slice a1 S.op.length c1)).far (c := w.heap.size) nw 2 (.slice a2 S.sh.length c2)).far (c := w.heap.size) nw 3 (.slice a3 S.si.length c3))
  have SF := Lib.hid (((((SO.out.set (b := w.heap.size) XL 0 (.int .i64 S.at_)).set (b := w.heap.size) XL 1 (.slice a1 S.op.length c1)).set (b := w.heap.size) XL 2 (.slice a2 S.sh.length c2)).set (b := w.heap.size) XL 3 (.slice a3 S.si.length c3)))
  have MS : Mut b w ((((w9.setCell ⟨w.heap.size, 0, none⟩ (.int .i64 S.at_)).setCell ⟨w.heap.size, 1, none⟩ (.slice a1 S.op.length c1)).setCell ⟨w.heap.size, 2, none⟩ (.slice a2 S.sh.length c2)).setCell ⟨w.heap.size, 3, none⟩ (.slice a3 S.si.length c3)) := mut_new (mut_new (mut_new (mut_new M8 _ _) _ _) _ _) _ _
  have CS : Cur ((((w9.setCell ⟨w.heap.size, 0, none⟩ (.int .i64 S.at_)).setCell ⟨w.heap.size, 1, none⟩ (.slice a1 S.op.length c1)).setCell ⟨w.heap.size, 2, none⟩ (.slice a2 S.sh.length c2)).setCell ⟨w.heap.size, 3, none⟩ (.slice a3 S.si.length c3)) b := (((C8.far hbw _ _).far hbw _ _).far hbw _ _).far hbw _ _
  (refine wpAnyH_ready (rs := [6]) (by kernel_rfl) (by simp) ?_; refine AllReadyH.cons rfl (fun K hK => ?_) AllReadyH.nil; (try simp only [List.getElem_toArray, List.getElem_cons_zero, List.getElem_cons_succ]))
  go_simp
  clear z0 z1 z2 z3 f0 f1 f2 f3
  replace P := PF
  clear PF SO
  generalize (((w9.setCell ⟨w.heap.size, 0, none⟩ (.int .i64 S.at_)).setCell ⟨w.heap.size, 1, none⟩ (.slice a1 S.op.length c1)).setCell ⟨w.heap.size, 2, none⟩ (.slice a2 S.sh.length c2)).setCell ⟨w.heap.size, 3, none⟩ (.slice a3 S.si.length c3) = WF at *
  (try dsimp only)
  refine hK.out _ _ (by exact ⟨P.2.1 0 _ rfl, P.2.1 1 _ rfl, P.2.1 2 _ rfl, P.2.1 3 _ rfl⟩) (fun hHeld => ?_)
  clear hK K
  refine wpAnyH_done (by kernel_rfl) ?_ _
  have k0 := RF.2.1 0 _ rfl
  have k1 := RF.2.1 1 _ rfl
  have k2 := RF.2.1 2 _ rfl
  have k3 := RF.2.1 3 _ rfl
  go_wp2
  refine bodyPost_ret (v := .tuple #[.string rt, .string text, .agg #[.int .i64 S.at_, .slice a1 S.op.length c1, .slice a2 S.sh.length c2, .slice a3 S.si.length c3]]) (by simp [results, Tryd.results95, go_sem, k0, k1, k2, k3]) rfl ?_
  exact ⟨rt, text, S, a1, a2, a3, c1, c2, c3, rfl, RS.out, by omega, SK.out, SF.out.mono lw, CS, MS⟩
set_option maxHeartbeats 800000 in
theorem spec_DrawSigned (v : Value) (bs : List Int) (w : World) (h : Code w w.heap.size v bs) (hl : bs.length ≤ 1048576) :
    Calls Tryd.prog 28 #[v] w fun e w' => ∃ (root text : ByteArray) (S : SigV) (a1 a2 a3 : Option Addr) (c1 c2 c3 : Nat), e = .returned (.tuple #[.string root, .string text, .agg #[.int .i64 S.at_, .slice a1 S.op.length c1, .slice a2 S.sh.length c2, .slice a3 S.si.length c3]]) ∧ root.size = 16 ∧ text.size ≤ 9 ∧ sigOkB root text S = true ∧ SigOwn w' w.heap.size (.slice a1 S.op.length c1) (.slice a2 S.sh.length c2) (.slice a3 S.si.length c3) S ∧ Ext w w' := by
  have e0 : Ext w (w.alloc (Obj.cells #[.int .i64 0, .slice none 0 0, .slice none 0 0, .slice none 0 0] 28)) := (Ext.refl w).alloc _
  have R := Bx.new w #[.int .i64 0, .slice none 0 0, .slice none 0 0, .slice none 0 0] 28
  go_enter Tryd.func28, Tryd.ntmps28
  go_wp2_with fail
  generalize w.alloc (Obj.cells #[.int .i64 0, .slice none 0 0, .slice none 0 0, .slice none 0 0] 28) = W0 at *
  refine (spec_l01New v bs _ (h.ext (Nat.le_refl _) e0 e0.size) hl).mono ?_
  rintro e w1 ⟨rfl, C1, x1⟩
  have R1 := R.ext x1
  have X1 := e0.trans x1
  have l0 : w.heap.size < W0.heap.size := R.1
  clear R
  go_wp2_with fail
  refine (spec_l05Signed _ _ C1).mono ?_
  rintro e w2 ⟨root, text, S, a1, a2, a3, c1, c2, c3, rfl, hr, ht, hok, so, C2, M2⟩
  have R := R1.mut M2 (by omega)
  have X := X1.mut M2 e0.size
  have SO := so.mono (show w.heap.size + 1 ≤ w1.heap.size by have := x1.size; omega)
  have HR := Lib.hid hr
  have HO := Lib.hid hok
  clear so hr hok R1 X1
  have z0 := R.2.1 0 _ rfl
  have z1 := R.2.1 1 _ rfl
  have z2 := R.2.1 2 _ rfl
  have z3 := R.2.1 3 _ rfl
  have f0 := R.2.2 0
  have f1 := R.2.2 1
  have f2 := R.2.2 2
  have f3 := R.2.2 3
  have XF : Ext w ((((w2.setCell ⟨w.heap.size, 0, none⟩ (.int .i64 S.at_)).setCell ⟨w.heap.size, 1, none⟩ (.slice a1 S.op.length c1)).setCell ⟨w.heap.size, 2, none⟩ (.slice a2 S.sh.length c2)).setCell ⟨w.heap.size, 3, none⟩ (.slice a3 S.si.length c3)) := ((((X.setCell (by dsimp only; omega) _).setCell (by dsimp only; omega) _).setCell (by dsimp only; omega) _).setCell (by dsimp only; omega) _)
  have RF := ((((R.set 0 (.int .i64 S.at_) (by simp)).set 1 (.slice a1 S.op.length c1) (by simp)).set 2 (.slice a2 S.sh.length c2) (by simp)).set 3 (.slice a3 S.si.length c3) (by simp))
  have SF := ((((SO.set (b := w.heap.size) (by omega) 0 (.int .i64 S.at_)).set (b := w.heap.size) (by omega) 1 (.slice a1 S.op.length c1)).set (b := w.heap.size) (by omega) 2 (.slice a2 S.sh.length c2)).set (b := w.heap.size) (by omega) 3 (.slice a3 S.si.length c3))
  go_wp2
  generalize (((w2.setCell ⟨w.heap.size, 0, none⟩ (.int .i64 S.at_)).setCell ⟨w.heap.size, 1, none⟩ (.slice a1 S.op.length c1)).setCell ⟨w.heap.size, 2, none⟩ (.slice a2 S.sh.length c2)).setCell ⟨w.heap.size, 3, none⟩ (.slice a3 S.si.length c3) = WF at *
  clear z0 f0 z1 f1 z2 f2 z3 f3
  have k0 := RF.2.1 0 _ rfl
  have k1 := RF.2.1 1 _ rfl
  have k2 := RF.2.1 2 _ rfl
  have k3 := RF.2.1 3 _ rfl
  refine bodyPost_ret (v := .tuple #[.string root, .string text, .agg #[.int .i64 S.at_, .slice a1 S.op.length c1, .slice a2 S.sh.length c2, .slice a3 S.si.length c3]]) (by simp [results, Tryd.results28, go_sem, k0, k1, k2, k3]) rfl ?_
  exact ⟨root, text, S, a1, a2, a3, c1, c2, c3, rfl, HR.out, ht, HO.out, SF.mono (by omega), XF⟩
end Go.Proofs.YtliebkhfddmhjaaDoor
