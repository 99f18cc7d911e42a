/- sort.swapRange_func, sort.rotate_func at elements of k cells, over any program. -/
import Derived.Test.YtckipgijfgeghaaDoorSyp
import Derived.Shelf.SlSortFuncK.SWK
import Derived.Shelf.SlSortFuncK.HeapSortK
import Derived.Shelf.GgSortMore.Bridge
import Derived.WalkKit
import Derived.Deep.LoopGhost
namespace Go.Proofs.YtckipgijfgeghaaDoor
open Go.Shelf Go.RowKit Go.Lib Go.Sort Go.SymP
variable {P : Program} {ρ : Ren} {α : Type} [Inhabited α] {enc : α → List Value} {k : Nat}

theorem swk_of_alloc {w W : World} {o : Obj} {blk off : Nat} {dk : Array α} (hblk : blk < w.heap.size) (h : SWK enc k (w.alloc o) blk off dk W) : SWK enc k w blk off dk W := by
  obtain ⟨n, os, rfl⟩ := h
  refine ⟨n, #[o] ++ os, ?_⟩
  unfold sortWorldK
  rw [alloc_eq_grow, ahead_grow, putRowK_grow enc k (Sort.ahead w n) _ blk off _ hblk, grow_grow]
theorem swk_trans {w W W' : World} {blk off : Nat} {dk dk' : Array α} (h : SWK enc k w blk off dk W) (hblk : blk < w.heap.size) (hs : dk'.size = dk.size) (h' : SWK enc k W blk off dk' W') : SWK enc k w blk off dk' W' := by
  obtain ⟨n, os, rfl⟩ := h'
  exact h.on hblk n dk' os hs
theorem swk_cell {w W : World} {blk off : Nat} {dk : Array α} (h : SWK enc k w blk off dk W) (a : Addr) (h1 : a.block ≠ blk) (h2 : a.block < w.heap.size) : W.cell? a = w.cell? a := by
  obtain ⟨n, os, rfl⟩ := h
  exact cell?_sortWorldK_other enc k w blk off n dk os a h1 h2
/-- the box of the two functions, in every world of the sort -/
theorem swk_box {w W : World} {blk off : Nat} {dk : Array α} {x y : Value} {t : TypeId} (hblk : blk < w.heap.size) (h : SWK enc k (w.alloc (.cells #[x, y] t)) blk off dk W) :
    W.cell? ⟨w.heap.size, 0, none⟩ = some x ∧ W.cell? ⟨w.heap.size, 1, none⟩ = some y := by
  have hne : w.heap.size ≠ blk := by omega
  exact ⟨by rw [swk_cell h _ hne (by simp)]; simp, by rw [swk_cell h _ hne (by simp)]; simp⟩

set_option maxHeartbeats 2000000 in
set_option maxRecDepth 100000 in
theorem swapRange_w (L : LaysGt.n49 P ρ) (enc : α → List Value) (k : Nat) (hk : ∀ x, (enc x).length = k) (lf : Fn) (la lb : Array Value) (sf : Nat) (sb : Array Value) (blk off a b n : Nat) (d : Array α) (w : World)
    (hswap : SwapSwapsK P sf sb enc k blk off d.size) (hH : HoldsK enc k w blk off d) (hblk : blk < w.heap.size) (h1 : a + n ≤ d.size) (h2 : b + n ≤ d.size) (hsz : d.size < 4611686018427387904) :
    Calls P (ρ.f 49) #[.agg #[.func lf la lb, .func (.func sf) #[] sb], .int .i64 a, .int .i64 b, .int .i64 n] w fun e w' => e = .returned (.tuple #[]) ∧ SWK enc k w blk off (swr a b n d) w' := by
  have mixed := L.mixed; have t0 := L.t0; have a0 := L.a0; have z0 := L.z0; have v0 := L.v0; have t3 := L.t3; have a3 := L.a3; have z3 := L.z3; have v3 := L.v3; have t4 := L.t4; have a4 := L.a4; have z4 := L.z4; have v4 := L.v4; have t26 := L.t26; have a26 := L.a26; have z26 := L.z26; have v26 := L.v26; have t38 := L.t38; have a38 := L.a38; have z38 := L.z38; have v38 := L.v38; have t42 := L.t42; have a42 := L.a42; have z42 := L.z42; have v42 := L.v42
  have u42 := run_underlying L.t42
  have S0 : Aside (SWK enc k (w.alloc (.cells #[.func lf la lb, .func (.func sf) #[] sb] (ρ.t 42))) blk off (swr a b 0 d) (w.alloc (.cells #[.func lf la lb, .func (.func sf) #[] sb] (ρ.t 42)))) :=
    SWK.start (by rw [alloc_eq_grow]; exact holdsK_grow enc k w _ blk off d hblk hH)
  have H0 : Aside (HoldsK enc k (w.alloc (.cells #[.func lf la lb, .func (.func sf) #[] sb] (ρ.t 42))) blk off d) := by rw [alloc_eq_grow]; exact holdsK_grow enc k w _ blk off d hblk hH
  have HS : Aside _ := hswap
  clear hH hswap
  go_enter L.f49, BodyGt.n49_ntmps ρ
  go_wp2
  go_loopg [8] n (fun g1 vi wr => ∃ i : Nat, vi = .int .i64 i ∧ i ≤ n ∧ n - i ≤ g1 ∧ Aside (SWK enc k (w.alloc (.cells #[.func lf la lb, .func (.func sf) #[] sb] (ρ.t 42))) blk off (swr a b i d) wr))
  case atStart => exact ⟨0, rfl, Nat.zero_le _, Nat.le_refl _, S0⟩
  case round =>
    obtain ⟨i, rfl, hin, hg, S⟩ := hrel
    have c1 := (swk_box hblk S.out).2
    by_cases hlt : i < n
    · have hs := HS.out wr (swr a b i d) (S.out.holds (by simp; omega) H0.out (swr_size _ _ _ _)) (swr_size _ _ _ _) (a + i) (b + i) (by omega) (by omega)
      have S1 : Aside _ := S.out.swap hk (by simp; omega) (a + i) (b + i) (by rw [swr_size]; omega) (by rw [swr_size]; omega)
      rw [show ((a + i : Nat) : Int) = (a : Int) + (i : Int) by omega, show ((b + i : Nat) : Int) = (b : Int) + (i : Int) by omega] at hs
      generalize ((wr.setCells blk (off + (a + i) * k) (enc (swr a b i d)[b + i]!)).setCells blk (off + (b + i) * k) (enc (swr a b i d)[a + i]!)) = w3 at hs S1
      go_wp2
      go_roundg (n - (i + 1))
      case measure => omega
      case rel => exact ⟨i + 1, by go_num, by omega, Nat.le_refl _, S1⟩
    · obtain rfl : i = n := by omega
      go_wp2
      go_end0
      exact ⟨rfl, swk_of_alloc hblk S.out⟩

set_option maxHeartbeats 4000000 in
set_option maxRecDepth 100000 in
theorem rotate_w (L : LaysGt.n42 P ρ) (enc : α → List Value) (k : Nat) (hk : ∀ x, (enc x).length = k) (lf : Fn) (la lb : Array Value) (sf : Nat) (sb : Array Value) (blk off a m b : Nat) (d : Array α) (w : World)
    (hswap : SwapSwapsK P sf sb enc k blk off d.size) (hH : HoldsK enc k w blk off d) (hblk : blk < w.heap.size) (h1 : a < m) (h2 : m < b) (h3 : b ≤ d.size) (hsz : d.size < 4611686018427387904) :
    Calls P (ρ.f 42) #[.agg #[.func lf la lb, .func (.func sf) #[] sb], .int .i64 a, .int .i64 m, .int .i64 b] w fun e w' => e = .returned (.tuple #[]) ∧ SWK enc k w blk off (rot m (m - a) (b - m) d) w' := by
  have mixed := L.mixed; have t0 := L.t0; have a0 := L.a0; have z0 := L.z0; have v0 := L.v0; have t3 := L.t3; have a3 := L.a3; have z3 := L.z3; have v3 := L.v3; have t4 := L.t4; have a4 := L.a4; have z4 := L.z4; have v4 := L.v4; have t26 := L.t26; have a26 := L.a26; have z26 := L.z26; have v26 := L.v26; have t38 := L.t38; have a38 := L.a38; have z38 := L.z38; have v38 := L.v38; have t42 := L.t42; have a42 := L.a42; have z42 := L.z42; have v42 := L.v42
  have u42 := run_underlying L.t42
  have e49 : ∀ args w, (callFunc (ρ.f 49) args).run P w = .ok (.enter (ρ.f 49) args) w := enters_of L.f49 (by kernel_rfl) rfl
  have SW : ∀ (W : World) (x y n : Nat) (dk : Array α), HoldsK enc k W blk off dk → dk.size = d.size → blk < W.heap.size → x + n ≤ d.size → y + n ≤ d.size →
      Calls P (ρ.f 49) #[.agg #[.func lf la lb, .func (.func sf) #[] sb], .int .i64 x, .int .i64 y, .int .i64 n] W fun e w' => e = .returned (.tuple #[]) ∧ SWK enc k W blk off (swr x y n dk) w' := fun W x y n dk hd hs hb hx hy =>
    swapRange_w { L with } enc k hk lf la lb sf sb blk off x y n dk W (by rw [hs]; exact hswap) hd hb (by omega) (by omega) (by omega)
  have SWa : Aside _ := SW
  have S0 : Aside (SWK enc k (w.alloc (.cells #[.func lf la lb, .func (.func sf) #[] sb] (ρ.t 42))) blk off d (w.alloc (.cells #[.func lf la lb, .func (.func sf) #[] sb] (ρ.t 42)))) :=
    SWK.start (by rw [alloc_eq_grow]; exact holdsK_grow enc k w _ blk off d hblk hH)
  have H0 : Aside (HoldsK enc k (w.alloc (.cells #[.func lf la lb, .func (.func sf) #[] sb] (ρ.t 42))) blk off d) := by rw [alloc_eq_grow]; exact holdsK_grow enc k w _ blk off d hblk hH
  clear hH hswap SW
  go_enter L.f42, BodyGt.n42_ntmps ρ
  go_wp2
  go_loopg [8, 9] (b - a) (fun g1 vi vj wr => ∃ (i j : Nat) (dk : Array α), vi = .int .i64 i ∧ vj = .int .i64 j ∧ 0 < i ∧ i ≤ m ∧ 0 < j ∧ m + j ≤ b ∧ i + j ≤ g1 ∧ dk.size = d.size ∧
      Aside (SWK enc k (w.alloc (.cells #[.func lf la lb, .func (.func sf) #[] sb] (ρ.t 42))) blk off dk wr ∧ rot m i j dk = rot m (m - a) (b - m) d))
  case atStart => exact ⟨m - a, b - m, d, by congr 1; omega, by congr 1; omega, by omega, by omega, by omega, by omega, by omega, rfl, (⟨S0, rfl⟩ : _ ∧ _)⟩
  case round =>
    obtain ⟨i, j, dk, rfl, rfl, hi, him, hj, hjb, hg, hds, S⟩ := hrel
    have cc := swk_box hblk S.out.1
    have c0 := cc.1
    have c1 := cc.2
    clear cc
    have hHk : Aside (HoldsK enc k wr blk off dk) := S.out.1.holds (by simp; omega) H0.out hds
    have hb' : blk < wr.heap.size := S.out.1.lt (by simp; omega)
    by_cases heq : i = j
    · subst heq
      have hc := SWa.out wr (m - i) m i dk hHk.out hds hb' (by omega) (by omega)
      rw [show ((m - i : Nat) : Int) = (m : Int) - (i : Int) by omega] at hc
      go_wp2_with (go_at_fn (ρ.f 49); refine hc.mono ?_; rintro e w' ⟨rfl, Sx⟩)
      go_end0
      refine ⟨rfl, ?_⟩
      rw [← S.out.2]
      have e1 : rot m i i dk = swr (m - i) m i dk := by unfold rot; rw [dif_pos rfl]
      rw [e1]
      exact swk_of_alloc hblk (swk_trans S.out.1 (by simp; omega) (swr_size _ _ _ _) Sx)
    · by_cases hgt : j < i
      · have hc := SWa.out wr (m - i) m j dk hHk.out hds hb' (by omega) (by omega)
        rw [show ((m - i : Nat) : Int) = (m : Int) - (i : Int) by omega] at hc
        have hne : ¬ ((i : Int) = (j : Int)) := by omega
        go_wp2_with (go_at_fn (ρ.f 49); refine hc.mono ?_; rintro e w' ⟨rfl, Sx⟩)
        go_roundg (i - j + j)
        case measure => omega
        case rel =>
          have e1 : rot m i j dk = rot m (i - j) j (swr (m - i) m j dk) := by
            conv => lhs; unfold rot
            rw [dif_neg heq, dif_neg (by omega), if_pos hgt]
          exact ⟨i - j, j, swr (m - i) m j dk, by congr 1; omega, rfl, by omega, by omega, hj, hjb, Nat.le_refl _, by rw [swr_size]; exact hds,
            (⟨swk_trans S.out.1 (by simp; omega) (swr_size _ _ _ _) Sx, by rw [← e1]; exact S.out.2⟩ : _ ∧ _)⟩
      · have hc := SWa.out wr (m - i) (m + j - i) i dk hHk.out hds hb' (by omega) (by omega)
        rw [show ((m - i : Nat) : Int) = (m : Int) - (i : Int) by omega, show ((m + j - i : Nat) : Int) = (m : Int) + (j : Int) - (i : Int) by omega] at hc
        have hne : ¬ ((i : Int) = (j : Int)) := by omega
        go_wp2_with (go_at_fn (ρ.f 49); refine hc.mono ?_; rintro e w' ⟨rfl, Sx⟩)
        go_roundg (i + (j - i))
        case measure => omega
        case rel =>
          have e1 : rot m i j dk = rot m i (j - i) (swr (m - i) (m + j - i) i dk) := by
            conv => lhs; unfold rot
            rw [dif_neg heq, dif_neg (by omega), if_neg hgt]
          exact ⟨i, j - i, swr (m - i) (m + j - i) i dk, rfl, by congr 1; omega, hi, him, by omega, by omega, Nat.le_refl _, by rw [swr_size]; exact hds,
            (⟨swk_trans S.out.1 (by simp; omega) (swr_size _ _ _ _) Sx, by rw [← e1]; exact S.out.2⟩ : _ ∧ _)⟩
end Go.Proofs.YtckipgijfgeghaaDoor
