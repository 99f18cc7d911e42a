/- sort.symMerge_func at elements of k cells, over any program. -/
import Derived.Test.YtckipgijfgeghaaDoorSw1
namespace Go.Proofs.YtckipgijfgeghaaDoor
open Go.Shelf Go.RowKit Go.Lib Go.Sort Go.SymP
variable {P : Program} {ρ : Ren} {α : Type} [Inhabited α]
theorem bs_end (t : Nat → Bool) (s : Nat) : bs t s s = s := by unfold bs; rw [if_neg (Nat.lt_irrefl s)]
theorem bs_up {t : Nat → Bool} {s r : Nat} (h : s < r) (ht : t ((s + r) / 2) = true) : bs t s r = bs t ((s + r) / 2 + 1) r := by
  conv => lhs; unfold bs
  rw [if_pos h, if_pos ht]
theorem bs_down {t : Nat → Bool} {s r : Nat} (h : s < r) (ht : t ((s + r) / 2) = false) : bs t s r = bs t s ((s + r) / 2) := by
  conv => lhs; unfold bs
  rw [if_pos h, if_neg (by simp [ht])]
set_option maxHeartbeats 4000000 in
set_option maxRecDepth 100000 in
theorem symMerge_left (L : LaysGt.n30 P ρ) (enc : α → List Value) (k : Nat) (hk : ∀ x, (enc x).length = k) (lt : α → α → Bool) (g : Nat) (lb : Array Value) (sf : Nat) (sb : Array Value) (eg : ∀ args w, (callFunc g args).run P w = .ok (.enter g args) w) (blk off size : Nat) (hsz : size < 4611686018427387904)
    (hswap : SwapSwapsK P sf sb enc k blk off size) (a m b : Nat) (d : Array α) (w : World) (hless : LessReadsK P g lb enc k lt blk off size w) (hds : d.size = size) (hH : HoldsK enc k w blk off d) (hblk : blk < w.heap.size) (h1 : a < m) (h2 : m < b) (h3 : b ≤ size) (hc : m - a = 1) :
    Calls P (ρ.f 30) #[.agg #[.func (.func g) #[] lb, .func (.func sf) #[] sb], .int .i64 a, .int .i64 m, .int .i64 b] w fun e w' => e = .returned (.tuple #[]) ∧ SWK enc k w blk off (shu a (bs (fun h => lt d[h]! d[a]!) m b - 1 - a) d) w' := by
  have mixed := L.mixed; have t0 := L.t0; have a0 := L.a0; have z0 := L.z0; have v0 := L.v0; have t3 := L.t3; have a3 := L.a3; have z3 := L.z3; have v3 := L.v3; have t4 := L.t4; have a4 := L.a4; have z4 := L.z4; have v4 := L.v4; have t26 := L.t26; have a26 := L.a26; have z26 := L.z26; have v26 := L.v26; have t38 := L.t38; have a38 := L.a38; have z38 := L.z38; have v38 := L.v38; have t42 := L.t42; have a42 := L.a42; have z42 := L.z42; have v42 := L.v42; have t47 := L.t47; have a47 := L.a47; have z47 := L.z47; have v47 := L.v47
  have u42 := run_underlying L.t42; have u3 := run_underlying L.t3; have u4 := run_underlying L.t4; have u47 := run_underlying L.t47
  have L0 : Aside (LessReadsK P g lb enc k lt blk off size (w.alloc (.cells #[.func (.func g) #[] lb, .func (.func sf) #[] sb] (ρ.t 42)))) := by have := hless.grow hblk #[(.cells #[.func (.func g) #[] lb, .func (.func sf) #[] sb] (ρ.t 42))]; rw [← alloc_eq_grow] at this; exact this
  have H0 : Aside (HoldsK enc k (w.alloc (.cells #[.func (.func g) #[] lb, .func (.func sf) #[] sb] (ρ.t 42))) blk off d) := by rw [alloc_eq_grow]; exact holdsK_grow enc k w _ blk off d hblk hH
  have S0 : Aside (SWK enc k (w.alloc (.cells #[.func (.func g) #[] lb, .func (.func sf) #[] sb] (ρ.t 42))) blk off d (w.alloc (.cells #[.func (.func g) #[] lb, .func (.func sf) #[] sb] (ρ.t 42)))) := SWK.start H0.out
  have hb0 : blk < ((w.alloc (.cells #[.func (.func g) #[] lb, .func (.func sf) #[] sb] (ρ.t 42)))).heap.size := by simp; omega
  have HS : Aside _ := hswap
  clear hH hswap hless
  have hcz : (m : Int) - (a : Int) = 1 := by omega
  go_enter L.f30, BodyGt.n30_ntmps ρ
  go_wp2
  go_loopg [8, 9] (b - m) (fun g1 vi vj wr => ∃ i j : Nat, vi = .int .i64 i ∧ vj = .int .i64 j ∧ m ≤ i ∧ i ≤ j ∧ j ≤ b ∧ j - i ≤ g1 ∧
      Aside (SWK enc k (w.alloc (.cells #[.func (.func g) #[] lb, .func (.func sf) #[] sb] (ρ.t 42))) blk off d wr ∧ bs (fun h => lt d[h]! d[a]!) i j = bs (fun h => lt d[h]! d[a]!) m b))
  case atStart => exact ⟨m, b, rfl, rfl, Nat.le_refl _, by omega, Nat.le_refl _, Nat.le_refl _, (⟨S0, rfl⟩ : _ ∧ _)⟩
  case round =>
    obtain ⟨i, j, rfl, rfl, hmi, hij, hjb, hg, S⟩ := hrel
    have c0 := (swk_box hblk S.out.1).1
    by_cases hlt : i < j
    · have hl := S.out.1.less L0.out hds ((i + j) / 2) a (by omega) (by omega)
      rw [show (((i + j) / 2 : Nat) : Int) = ((i : Int) + (j : Int)) / 2 by omega] at hl
      cases ht : lt d[(i + j) / 2]! d[a]! <;> rw [ht] at hl
      · have HT : Aside (lt d[(i + j) / 2]! d[a]! = false) := ht
        clear ht
        go_wp2_with (go_at_fn g; refine hl.mono ?_; rintro e w' ⟨rfl, q, rfl⟩)
        go_roundg ((i + j) / 2 - i)
        case measure => omega
        case rel => exact ⟨i, (i + j) / 2, rfl, by first | rfl | (congr 1; done) | (congr 1; omega), hmi, by omega, by omega, Nat.le_refl _, (⟨S.out.1.drewN q, by rw [← bs_down hlt HT.out]; exact S.out.2⟩ : _ ∧ _)⟩
      · have HT : Aside (lt d[(i + j) / 2]! d[a]! = true) := ht
        clear ht
        go_wp2_with (go_at_fn g; refine hl.mono ?_; rintro e w' ⟨rfl, q, rfl⟩)
        go_roundg (j - ((i + j) / 2 + 1))
        case measure => omega
        case rel => exact ⟨(i + j) / 2 + 1, j, by first | rfl | (congr 1; done) | (congr 1; omega), rfl, by omega, by omega, hjb, Nat.le_refl _, (⟨S.out.1.drewN q, by rw [← bs_up hlt HT.out]; exact S.out.2⟩ : _ ∧ _)⟩
    · obtain rfl : j = i := by omega
      have E : Aside (bs (fun h => lt d[h]! d[a]!) m b = j) := by have := S.out.2; rw [bs_end] at this; exact this.symm
      clear c0
      go_wp2
      go_loopg [11] (j - 1 - a) (fun g1 vi wx => ∃ n : Nat, vi = .int .i64 ((a : Int) + (n : Int)) ∧ n ≤ j - 1 - a ∧ j - 1 - a - n ≤ g1 ∧ Aside (SWK enc k (w.alloc (.cells #[.func (.func g) #[] lb, .func (.func sf) #[] sb] (ρ.t 42))) blk off (shu a n d) wx))
      case atStart => exact ⟨0, by first | rfl | (congr 1; done) | (congr 1; omega), Nat.zero_le _, Nat.le_refl _, S.out.1⟩
      case round =>
        obtain ⟨n, rfl, hn, hg2, S2⟩ := hrel
        have c1 := (swk_box hblk S2.out).2
        by_cases hlt2 : n < j - 1 - a
        · have hs := HS.out wr (shu a n d) (S2.out.holds hb0 H0.out (shu_size _ _ _)) (by rw [shu_size]; exact hds) (a + n) (a + n + 1) (by omega) (by omega)
          have S3 : Aside _ := S2.out.swap hk hb0 (a + n) (a + n + 1) (by rw [shu_size]; omega) (by rw [shu_size]; omega)
          rw [show ((a + n : Nat) : Int) = (a : Int) + (n : Int) by omega, show ((a + n + 1 : Nat) : Int) = (a : Int) + (n : Int) + 1 by omega] at hs
          generalize ((wr.setCells blk (off + (a + n) * k) (enc (shu a n d)[a + n + 1]!)).setCells blk (off + (a + n + 1) * k) (enc (shu a n d)[a + n]!)) = w3 at hs S3
          have hltz : (a : Int) + (n : Int) < (j : Int) - 1 := by omega
          go_wp2
          go_roundg (j - 1 - a - (n + 1))
          case measure => omega
          case rel => exact ⟨n + 1, by first | rfl | (congr 1; done) | (congr 1; omega), by omega, Nat.le_refl _, S3⟩
        · obtain rfl : n = j - 1 - a := by omega
          have hltz : ¬ ((a : Int) + ((j - 1 - a : Nat) : Int) < (j : Int) - 1) := by omega
          go_wp2
          (try simp only [Exit.inBlock, Exit.then]); refine bodyPost_ret (results_none rfl _ _ _) rfl ?_
          refine ⟨rfl, ?_⟩
          rw [E.out]
          exact swk_of_alloc hblk S2.out
set_option maxHeartbeats 4000000 in
set_option maxRecDepth 100000 in
theorem symMerge_right (L : LaysGt.n30 P ρ) (enc : α → List Value) (k : Nat) (hk : ∀ x, (enc x).length = k) (lt : α → α → Bool) (g : Nat) (lb : Array Value) (sf : Nat) (sb : Array Value) (eg : ∀ args w, (callFunc g args).run P w = .ok (.enter g args) w) (blk off size : Nat) (hsz : size < 4611686018427387904)
    (hswap : SwapSwapsK P sf sb enc k blk off size) (a m b : Nat) (d : Array α) (w : World) (hless : LessReadsK P g lb enc k lt blk off size w) (hds : d.size = size) (hH : HoldsK enc k w blk off d) (hblk : blk < w.heap.size) (h1 : a < m) (h2 : m < b) (h3 : b ≤ size) (hn : ¬ m - a = 1) (hc : b - m = 1) :
    Calls P (ρ.f 30) #[.agg #[.func (.func g) #[] lb, .func (.func sf) #[] sb], .int .i64 a, .int .i64 m, .int .i64 b] w fun e w' => e = .returned (.tuple #[]) ∧ SWK enc k w blk off (shd m (m - bs (fun h => !lt d[m]! d[h]!) a m) d) w' := by
  have mixed := L.mixed; have t0 := L.t0; have a0 := L.a0; have z0 := L.z0; have v0 := L.v0; have t3 := L.t3; have a3 := L.a3; have z3 := L.z3; have v3 := L.v3; have t4 := L.t4; have a4 := L.a4; have z4 := L.z4; have v4 := L.v4; have t26 := L.t26; have a26 := L.a26; have z26 := L.z26; have v26 := L.v26; have t38 := L.t38; have a38 := L.a38; have z38 := L.z38; have v38 := L.v38; have t42 := L.t42; have a42 := L.a42; have z42 := L.z42; have v42 := L.v42; have t47 := L.t47; have a47 := L.a47; have z47 := L.z47; have v47 := L.v47
  have u42 := run_underlying L.t42; have u3 := run_underlying L.t3; have u4 := run_underlying L.t4; have u47 := run_underlying L.t47
  have L0 : Aside (LessReadsK P g lb enc k lt blk off size (w.alloc (.cells #[.func (.func g) #[] lb, .func (.func sf) #[] sb] (ρ.t 42)))) := by have := hless.grow hblk #[(.cells #[.func (.func g) #[] lb, .func (.func sf) #[] sb] (ρ.t 42))]; rw [← alloc_eq_grow] at this; exact this
  have H0 : Aside (HoldsK enc k (w.alloc (.cells #[.func (.func g) #[] lb, .func (.func sf) #[] sb] (ρ.t 42))) blk off d) := by rw [alloc_eq_grow]; exact holdsK_grow enc k w _ blk off d hblk hH
  have S0 : Aside (SWK enc k (w.alloc (.cells #[.func (.func g) #[] lb, .func (.func sf) #[] sb] (ρ.t 42))) blk off d (w.alloc (.cells #[.func (.func g) #[] lb, .func (.func sf) #[] sb] (ρ.t 42)))) := SWK.start H0.out
  have hb0 : blk < ((w.alloc (.cells #[.func (.func g) #[] lb, .func (.func sf) #[] sb] (ρ.t 42)))).heap.size := by simp; omega
  have HS : Aside _ := hswap
  clear hH hswap hless
  have hnz : ¬ ((m : Int) - (a : Int) = 1) := by omega
  have hnb : ((m : Int) - (a : Int) == 1) = false := by simp; omega
  have hcz : (b : Int) - (m : Int) = 1 := by omega
  go_enter L.f30, BodyGt.n30_ntmps ρ
  go_wp2
  go_loopg [12, 13] (m - a) (fun g1 vi vj wr => ∃ i j : Nat, vi = .int .i64 i ∧ vj = .int .i64 j ∧ a ≤ i ∧ i ≤ j ∧ j ≤ m ∧ j - i ≤ g1 ∧
      Aside (SWK enc k (w.alloc (.cells #[.func (.func g) #[] lb, .func (.func sf) #[] sb] (ρ.t 42))) blk off d wr ∧ bs (fun h => !lt d[m]! d[h]!) i j = bs (fun h => !lt d[m]! d[h]!) a m))
  case atStart => exact ⟨a, m, rfl, rfl, Nat.le_refl _, by omega, Nat.le_refl _, Nat.le_refl _, (⟨S0, rfl⟩ : _ ∧ _)⟩
  case round =>
    obtain ⟨i, j, rfl, rfl, hmi, hij, hjb, hg, S⟩ := hrel
    have c0 := (swk_box hblk S.out.1).1
    by_cases hlt : i < j
    · have hl := S.out.1.less L0.out hds m ((i + j) / 2) (by omega) (by omega)
      rw [show (((i + j) / 2 : Nat) : Int) = ((i : Int) + (j : Int)) / 2 by omega] at hl
      cases ht : lt d[m]! d[(i + j) / 2]! <;> rw [ht] at hl
      · have HT : Aside (lt d[m]! d[(i + j) / 2]! = false) := ht
        clear ht
        go_wp2_with (go_at_fn g; refine hl.mono ?_; rintro e w' ⟨rfl, q, rfl⟩)
        go_roundg (j - ((i + j) / 2 + 1))
        case measure => omega
        case rel => exact ⟨(i + j) / 2 + 1, j, by first | rfl | (congr 1; done) | (congr 1; omega), rfl, by omega, by omega, hjb, Nat.le_refl _, (⟨S.out.1.drewN q, by rw [← bs_up hlt (by simp [HT.out])]; exact S.out.2⟩ : _ ∧ _)⟩
      · have HT : Aside (lt d[m]! d[(i + j) / 2]! = true) := ht
        clear ht
        go_wp2_with (go_at_fn g; refine hl.mono ?_; rintro e w' ⟨rfl, q, rfl⟩)
        go_roundg ((i + j) / 2 - i)
        case measure => omega
        case rel => exact ⟨i, (i + j) / 2, rfl, by first | rfl | (congr 1; done) | (congr 1; omega), hmi, by omega, by omega, Nat.le_refl _, (⟨S.out.1.drewN q, by rw [← bs_down hlt (by simp [HT.out])]; exact S.out.2⟩ : _ ∧ _)⟩
    · obtain rfl : j = i := by omega
      have E : Aside (bs (fun h => !lt d[m]! d[h]!) a m = j) := by have := S.out.2; rw [bs_end] at this; exact this.symm
      clear c0
      go_wp2
      go_loopg [15] (m - j) (fun g1 vi wx => ∃ n : Nat, vi = .int .i64 ((m : Int) - (n : Int)) ∧ n ≤ m - j ∧ m - j - n ≤ g1 ∧ Aside (SWK enc k (w.alloc (.cells #[.func (.func g) #[] lb, .func (.func sf) #[] sb] (ρ.t 42))) blk off (shd m n d) wx))
      case atStart => exact ⟨0, by first | rfl | (congr 1; done) | (congr 1; omega), Nat.zero_le _, Nat.le_refl _, S.out.1⟩
      case round =>
        obtain ⟨n, rfl, hn2, hg2, S2⟩ := hrel
        have c1 := (swk_box hblk S2.out).2
        by_cases hlt2 : n < m - j
        · have hs := HS.out wr (shd m n d) (S2.out.holds hb0 H0.out (shd_size _ _ _)) (by rw [shd_size]; exact hds) (m - n) (m - n - 1) (by omega) (by omega)
          have S3 : Aside _ := S2.out.swap hk hb0 (m - n) (m - n - 1) (by rw [shd_size]; omega) (by rw [shd_size]; omega)
          rw [show ((m - n : Nat) : Int) = (m : Int) - (n : Int) by omega, show ((m - n - 1 : Nat) : Int) = (m : Int) - (n : Int) - 1 by omega] at hs
          generalize ((wr.setCells blk (off + (m - n) * k) (enc (shd m n d)[m - n - 1]!)).setCells blk (off + (m - n - 1) * k) (enc (shd m n d)[m - n]!)) = w3 at hs S3
          have hltz : (j : Int) < (m : Int) - (n : Int) := by omega
          go_wp2
          go_roundg (m - j - (n + 1))
          case measure => omega
          case rel => exact ⟨n + 1, by first | rfl | (congr 1; done) | (congr 1; omega), by omega, Nat.le_refl _, S3⟩
        · obtain rfl : n = m - j := by omega
          have hltz : ¬ ((j : Int) < (m : Int) - ((m - j : Nat) : Int)) := by omega
          go_wp2
          (try simp only [Exit.inBlock, Exit.then]); refine bodyPost_ret (results_none rfl _ _ _) rfl ?_
          refine ⟨rfl, ?_⟩
          rw [E.out]
          exact swk_of_alloc hblk S2.out
theorem symM_gen (lt : α → α → Bool) {a m b : Nat} {d d1 d2 d3 : Array α} (h1 : ¬ m - a = 1) (h2 : ¬ b - m = 1) (h3 : a < m) (h4 : m < b)
    (e1 : d1 = if symS lt a m b d < m ∧ m < (a + b) / 2 + m - symS lt a m b d then rot m (m - symS lt a m b d) ((a + b) / 2 + m - symS lt a m b d - m) d else d)
    (e2 : d2 = if a < symS lt a m b d ∧ symS lt a m b d < (a + b) / 2 then symM lt a (symS lt a m b d) ((a + b) / 2) d1 else d1)
    (e3 : d3 = if (a + b) / 2 < (a + b) / 2 + m - symS lt a m b d ∧ (a + b) / 2 + m - symS lt a m b d < b then symM lt ((a + b) / 2) ((a + b) / 2 + m - symS lt a m b d) b d2 else d2) : symM lt a m b d = d3 := by
  unfold symM
  rw [if_neg h1, if_neg h2, dif_pos ⟨by omega, by omega⟩]
  dsimp only
  rw [e3, e2, e1]
set_option maxHeartbeats 4000000 in
set_option maxRecDepth 100000 in
theorem symMerge_hi (L : LaysGt.n30 P ρ) (enc : α → List Value) (k : Nat) (hk : ∀ x, (enc x).length = k) (lt : α → α → Bool) (g : Nat) (lb : Array Value) (sf : Nat) (sb : Array Value) (eg : ∀ args w, (callFunc g args).run P w = .ok (.enter g args) w) (blk off size : Nat) (hsz : size < 4611686018427387904)
    (hswap : SwapSwapsK P sf sb enc k blk off size) (a m b : Nat) (d : Array α) (w : World) (hless : LessReadsK P g lb enc k lt blk off size w) (hds : d.size = size) (hH : HoldsK enc k w blk off d) (hblk : blk < w.heap.size) (h1 : a < m) (h2 : m < b) (h3 : b ≤ size)
    (IH : ∀ (a' m' b' : Nat) (d' : Array α) (w' : World), b' - a' < b - a → LessReadsK P g lb enc k lt blk off size w' → d'.size = size → HoldsK enc k w' blk off d' → blk < w'.heap.size → a' < m' → m' < b' → b' ≤ size →
      Calls P (ρ.f 30) #[.agg #[.func (.func g) #[] lb, .func (.func sf) #[] sb], .int .i64 a', .int .i64 m', .int .i64 b'] w' fun e w2 => e = .returned (.tuple #[]) ∧ SWK enc k w' blk off (symM lt a' m' b' d') w2) (hn : ¬ m - a = 1) (hc : ¬ b - m = 1) (hm : (a + b) / 2 < m) :
    Calls P (ρ.f 30) #[.agg #[.func (.func g) #[] lb, .func (.func sf) #[] sb], .int .i64 a, .int .i64 m, .int .i64 b] w fun e w' => e = .returned (.tuple #[]) ∧ SWK enc k w blk off (symM lt a m b d) w' := by
  have mixed := L.mixed; have t0 := L.t0; have a0 := L.a0; have z0 := L.z0; have v0 := L.v0; have t3 := L.t3; have a3 := L.a3; have z3 := L.z3; have v3 := L.v3; have t4 := L.t4; have a4 := L.a4; have z4 := L.z4; have v4 := L.v4; have t26 := L.t26; have a26 := L.a26; have z26 := L.z26; have v26 := L.v26; have t38 := L.t38; have a38 := L.a38; have z38 := L.z38; have v38 := L.v38; have t42 := L.t42; have a42 := L.a42; have z42 := L.z42; have v42 := L.v42; have t47 := L.t47; have a47 := L.a47; have z47 := L.z47; have v47 := L.v47
  have u42 := run_underlying L.t42; have u3 := run_underlying L.t3; have u4 := run_underlying L.t4; have u47 := run_underlying L.t47
  have L0 : Aside (LessReadsK P g lb enc k lt blk off size (w.alloc (.cells #[.func (.func g) #[] lb, .func (.func sf) #[] sb] (ρ.t 42)))) := by have := hless.grow hblk #[(.cells #[.func (.func g) #[] lb, .func (.func sf) #[] sb] (ρ.t 42))]; rw [← alloc_eq_grow] at this; exact this
  have H0 : Aside (HoldsK enc k (w.alloc (.cells #[.func (.func g) #[] lb, .func (.func sf) #[] sb] (ρ.t 42))) blk off d) := by rw [alloc_eq_grow]; exact holdsK_grow enc k w _ blk off d hblk hH
  have S0 : Aside (SWK enc k (w.alloc (.cells #[.func (.func g) #[] lb, .func (.func sf) #[] sb] (ρ.t 42))) blk off d (w.alloc (.cells #[.func (.func g) #[] lb, .func (.func sf) #[] sb] (ρ.t 42)))) := SWK.start H0.out
  have hb0 : blk < ((w.alloc (.cells #[.func (.func g) #[] lb, .func (.func sf) #[] sb] (ρ.t 42)))).heap.size := by simp; omega
  have HS : Aside _ := hswap
  have e42 : ∀ args w, (callFunc (ρ.f 42) args).run P w = .ok (.enter (ρ.f 42) args) w := enters_of L.f42 (by kernel_rfl) rfl
  have e30 : ∀ args w, (callFunc (ρ.f 30) args).run P w = .ok (.enter (ρ.f 30) args) w := enters_of L.f30 (by kernel_rfl) rfl
  have RT : Aside (∀ (W : World) (dk : Array α) (s e : Nat), SWK enc k (w.alloc (.cells #[.func (.func g) #[] lb, .func (.func sf) #[] sb] (ρ.t 42))) blk off dk W → dk.size = size → s < m → m < e → e ≤ b →
      Calls P (ρ.f 42) #[.agg #[.func (.func g) #[] lb, .func (.func sf) #[] sb], .int .i64 s, .int .i64 m, .int .i64 e] W fun ee w' => ee = .returned (.tuple #[]) ∧ SWK enc k (w.alloc (.cells #[.func (.func g) #[] lb, .func (.func sf) #[] sb] (ρ.t 42))) blk off (rot m (m - s) (e - m) dk) w') := fun W dk s e hS hs x1 x2 x3 =>
    (rotate_w { L with } enc k hk (.func g) #[] lb sf sb blk off s m e dk W (by rw [hs]; exact hswap) (hS.holds hb0 H0.out (by rw [hs, hds])) (hS.lt hb0) x1 x2 (by omega) (by omega)).mono fun _ _ ⟨he, hx⟩ => ⟨he, swk_trans hS hb0 (rot_size _ _ _ _) hx⟩
  have RS : Aside (∀ (W : World) (dk : Array α) (x y z : Nat), SWK enc k (w.alloc (.cells #[.func (.func g) #[] lb, .func (.func sf) #[] sb] (ρ.t 42))) blk off dk W → dk.size = size → x < y → y < z → z ≤ b → z - x < b - a →
      Calls P (ρ.f 30) #[.agg #[.func (.func g) #[] lb, .func (.func sf) #[] sb], .int .i64 x, .int .i64 y, .int .i64 z] W fun ee w' => ee = .returned (.tuple #[]) ∧ SWK enc k (w.alloc (.cells #[.func (.func g) #[] lb, .func (.func sf) #[] sb] (ρ.t 42))) blk off (symM lt x y z dk) w') := fun W dk x y z hS hs x1 x2 x3 x4 =>
    (IH x y z dk W x4 (hS.lessReads L0.out hb0 hs) hs (hS.holds hb0 H0.out (by rw [hs, hds])) (hS.lt hb0) x1 x2 (by omega)).mono fun _ _ ⟨he, hx⟩ => ⟨he, swk_trans hS hb0 (symM_size lt _ _ _ _) hx⟩
  clear hH hswap hless IH
  have G : Aside (∀ d1 d2 d3 : Array α, _ → _ → _ → symM lt a m b d = d3) := fun d1 d2 d3 e1 e2 e3 => symM_gen lt (d1 := d1) (d2 := d2) hn hc h1 h2 e1 e2 e3
  have hnz : ¬ ((m : Int) - (a : Int) = 1) := by omega
  have hnb : ((m : Int) - (a : Int) == 1) = false := by simp; omega
  have hcz : ¬ ((b : Int) - (m : Int) = 1) := by omega
  have hs0 : bs (fun c => !lt d[(a + b) / 2 + m - 1 - c]! d[c]!) ((a + b) / 2 + m - b) ((a + b) / 2) = symS lt a m b d := by unfold symS; simp [hm]
  generalize hM : (a + b) / 2 = M at *
  have hMz : ((a : Int) + (b : Int)) / 2 = (M : Int) := by omega
  have hab : a < M ∧ M < b := by omega
  have HM : Aside ((a + b) / 2 = M) := hM
  have hmz : (M : Int) < (m : Int) := by omega
  have hcb : ((b : Int) - (m : Int) == 1) = false := by simp; omega
  have hmb : decide ((M : Int) < (m : Int)) = true := by simp; omega
  have HS0 : Aside (bs (fun c => !lt d[M + m - 1 - c]! d[c]!) (M + m - b) M = symS lt a m b d) := hs0
  clear hM hs0
  go_enter L.f30, BodyGt.n30_ntmps ρ
  go_wp2
  go_loopg [18, 19] (m - a + M) (fun g1 vi vj wr => ∃ i j : Nat, vi = .int .i64 i ∧ vj = .int .i64 j ∧ (M + m - b) ≤ i ∧ i ≤ j ∧ j ≤ M ∧ j - i ≤ g1 ∧
      Aside (SWK enc k (w.alloc (.cells #[.func (.func g) #[] lb, .func (.func sf) #[] sb] (ρ.t 42))) blk off d wr ∧ bs (fun c => !lt d[M + m - 1 - c]! d[c]!) i j = symS lt a m b d))
  case atStart => exact ⟨(M + m - b), M, by first | rfl | (congr 1; done) | (congr 1; omega), by first | rfl | (congr 1; done) | (congr 1; omega), Nat.le_refl _, by omega, Nat.le_refl _, by omega, (⟨S0, HS0.out⟩ : _ ∧ _)⟩
  case round =>
    obtain ⟨i, j, rfl, rfl, hmi, hij, hjb, hg, S⟩ := hrel
    have cc := swk_box hblk S.out.1
    have c0 := cc.1
    by_cases hlt : i < j
    · clear cc
      have hl := S.out.1.less L0.out hds (M + m - 1 - (i + j) / 2) ((i + j) / 2) (by omega) (by omega)
      rw [show (((i + j) / 2 : Nat) : Int) = ((i : Int) + (j : Int)) / 2 by omega, show ((M + m - 1 - (i + j) / 2 : Nat) : Int) = (M : Int) + (m : Int) - 1 - ((i : Int) + (j : Int)) / 2 by omega] at hl
      cases ht : lt d[M + m - 1 - (i + j) / 2]! d[(i + j) / 2]! <;> rw [ht] at hl
      · have HT : Aside (lt d[M + m - 1 - (i + j) / 2]! d[(i + j) / 2]! = false) := ht
        clear ht
        go_wp2_with (go_at_fn g; refine hl.mono ?_; rintro e w' ⟨rfl, q, rfl⟩)
        go_roundg (j - ((i + j) / 2 + 1))
        case measure => omega
        case rel => exact ⟨(i + j) / 2 + 1, j, by first | rfl | (congr 1; done) | (congr 1; omega), rfl, by omega, by omega, hjb, Nat.le_refl _, (⟨S.out.1.drewN q, by rw [← bs_up hlt (by simp [HT.out])]; exact S.out.2⟩ : _ ∧ _)⟩
      · have HT : Aside (lt d[M + m - 1 - (i + j) / 2]! d[(i + j) / 2]! = true) := ht
        clear ht
        go_wp2_with (go_at_fn g; refine hl.mono ?_; rintro e w' ⟨rfl, q, rfl⟩)
        go_roundg ((i + j) / 2 - i)
        case measure => omega
        case rel => exact ⟨i, (i + j) / 2, rfl, by first | rfl | (congr 1; done) | (congr 1; omega), hmi, by omega, by omega, Nat.le_refl _, (⟨S.out.1.drewN q, by rw [← bs_down hlt (by simp [HT.out])]; exact S.out.2⟩ : _ ∧ _)⟩
    · obtain rfl : j = i := by omega
      have E : j = symS lt a m b d := by have := S.out.2; rw [bs_end] at this; exact this
      have c1 := cc.2
      clear cc
      have hG := G.out
      rw [← E] at hG
      have HG : Aside _ := hG
      have S1 := S.out.1
      clear hG G S E HS0
      generalize he : M + m - j = e at HG
      have hez : (M : Int) + (m : Int) - (j : Int) = (e : Int) := by omega
      have hje : j ≤ m ∧ j ≤ M ∧ a ≤ j ∧ m ≤ e ∧ M ≤ e ∧ e ≤ b ∧ e + j = M + m := by omega
      clear he
      obtain ⟨d1, hd1⟩ : ∃ d1, d1 = if j < m ∧ m < e then rot m (m - j) (e - m) d else d := ⟨_, rfl⟩
      obtain ⟨d2, hd2⟩ : ∃ d2, d2 = if a < j ∧ j < M then symM lt a j M d1 else d1 := ⟨_, rfl⟩
      obtain ⟨d3, hd3⟩ : ∃ d3, d3 = if M < e ∧ e < b then symM lt M e b d2 else d2 := ⟨_, rfl⟩
      have HD : Aside (symM lt a m b d = d3) := HG.out d1 d2 d3 hd1 hd2 hd3
      have hz1 : d1.size = size := by rw [hd1, ← hds]; split <;> simp [rot_size]
      have hz2 : d2.size = size := by rw [hd2, ← hz1]; split <;> simp [symM_size]
      have T1 : Aside (∀ W, SWK enc k (w.alloc (.cells #[.func (.func g) #[] lb, .func (.func sf) #[] sb] (ρ.t 42))) blk off d W → j < m → m < e → Calls P (ρ.f 42) #[.agg #[.func (.func g) #[] lb, .func (.func sf) #[] sb], .int .i64 j, .int .i64 m, .int .i64 e] W fun ee w' => ee = .returned (.tuple #[]) ∧ SWK enc k (w.alloc (.cells #[.func (.func g) #[] lb, .func (.func sf) #[] sb] (ρ.t 42))) blk off d1 w') := fun W hS x1 x2 => by
        rw [hd1, if_pos ⟨x1, x2⟩]; exact RT.out W d j e hS hds x1 x2 (by omega)
      have T2 : Aside (∀ W, SWK enc k (w.alloc (.cells #[.func (.func g) #[] lb, .func (.func sf) #[] sb] (ρ.t 42))) blk off d1 W → a < j → j < M → Calls P (ρ.f 30) #[.agg #[.func (.func g) #[] lb, .func (.func sf) #[] sb], .int .i64 a, .int .i64 j, .int .i64 M] W fun ee w' => ee = .returned (.tuple #[]) ∧ SWK enc k (w.alloc (.cells #[.func (.func g) #[] lb, .func (.func sf) #[] sb] (ρ.t 42))) blk off d2 w') := fun W hS x1 x2 => by
        rw [hd2, if_pos ⟨x1, x2⟩]; exact RS.out W d1 a j M hS hz1 x1 x2 (by omega) (by omega)
      have T3 : Aside (∀ W, SWK enc k (w.alloc (.cells #[.func (.func g) #[] lb, .func (.func sf) #[] sb] (ρ.t 42))) blk off d2 W → M < e → e < b → Calls P (ρ.f 30) #[.agg #[.func (.func g) #[] lb, .func (.func sf) #[] sb], .int .i64 M, .int .i64 e, .int .i64 b] W fun ee w' => ee = .returned (.tuple #[]) ∧ SWK enc k (w.alloc (.cells #[.func (.func g) #[] lb, .func (.func sf) #[] sb] (ρ.t 42))) blk off d3 w') := fun W hS x1 x2 => by
        rw [hd3, if_pos ⟨x1, x2⟩]; exact RS.out W d2 M e b hS hz2 x1 x2 (by omega) (by omega)
      have N1 : Aside (∀ W, SWK enc k (w.alloc (.cells #[.func (.func g) #[] lb, .func (.func sf) #[] sb] (ρ.t 42))) blk off d W → ¬ (j < m ∧ m < e) → SWK enc k (w.alloc (.cells #[.func (.func g) #[] lb, .func (.func sf) #[] sb] (ρ.t 42))) blk off d1 W) := fun W hS x => by rw [hd1, if_neg x]; exact hS
      have N2 : Aside (∀ W, SWK enc k (w.alloc (.cells #[.func (.func g) #[] lb, .func (.func sf) #[] sb] (ρ.t 42))) blk off d1 W → ¬ (a < j ∧ j < M) → SWK enc k (w.alloc (.cells #[.func (.func g) #[] lb, .func (.func sf) #[] sb] (ρ.t 42))) blk off d2 W) := fun W hS x => by rw [hd2, if_neg x]; exact hS
      have N3 : Aside (∀ W, SWK enc k (w.alloc (.cells #[.func (.func g) #[] lb, .func (.func sf) #[] sb] (ρ.t 42))) blk off d2 W → ¬ (M < e ∧ e < b) → SWK enc k (w.alloc (.cells #[.func (.func g) #[] lb, .func (.func sf) #[] sb] (ρ.t 42))) blk off d3 W) := fun W hS x => by rw [hd3, if_neg x]; exact hS
      have BX1 : Aside (∀ W (dk : Array α), SWK enc k (w.alloc (.cells #[.func (.func g) #[] lb, .func (.func sf) #[] sb] (ρ.t 42))) blk off dk W → W.cell? ⟨w.heap.size, 0, none⟩ = some (.func (.func g) #[] lb) ∧ W.cell? ⟨w.heap.size, 1, none⟩ = some (.func (.func sf) #[] sb)) := fun W dk h => swk_box hblk h
      have S1a : Aside (SWK enc k (w.alloc (.cells #[.func (.func g) #[] lb, .func (.func sf) #[] sb] (ρ.t 42))) blk off d wr) := S1
      clear hd1 hd2 hd3 HG RT RS hz1 hz2 S1
      by_cases p1 : j < m <;> by_cases p2 : j < M <;> by_cases p3 : a < j <;> by_cases p4 : e < b
      · first
        | (exfalso; omega)
        | (skip
           have q1 : (m : Int) < (e : Int) := by omega
           have q2 : (M : Int) < (e : Int) := by omega
           have S1 := S1a.out
           go_wp2_with (first | (go_at_fn (ρ.f 42); refine (T1.out _ S1 p1 (by omega)).mono ?_; rintro ee w1 ⟨rfl, S2⟩; obtain ⟨b10, b11⟩ := BX1.out _ _ S2; skip) | (go_at_fn (ρ.f 30); refine (T2.out _ S2 p3 p2).mono ?_; rintro ee w2 ⟨rfl, S3⟩; obtain ⟨b20, b21⟩ := BX1.out _ _ S3; skip) | (go_at_fn (ρ.f 30); refine (T3.out _ S3 (by omega) p4).mono ?_; rintro ee w3 ⟨rfl, S4⟩; obtain ⟨b30, b31⟩ := BX1.out _ _ S4; skip))
           go_end0
           refine ⟨rfl, ?_⟩
           rw [HD.out]
           exact swk_of_alloc hblk S4)
      · first
        | (exfalso; omega)
        | (skip
           have q1 : (m : Int) < (e : Int) := by omega
           have q2 : (M : Int) < (e : Int) := by omega
           have S1 := S1a.out
           go_wp2_with (first | (go_at_fn (ρ.f 42); refine (T1.out _ S1 p1 (by omega)).mono ?_; rintro ee w1 ⟨rfl, S2⟩; obtain ⟨b10, b11⟩ := BX1.out _ _ S2; skip) | (go_at_fn (ρ.f 30); refine (T2.out _ S2 p3 p2).mono ?_; rintro ee w2 ⟨rfl, S3⟩; obtain ⟨b20, b21⟩ := BX1.out _ _ S3; have S4 := N3.out _ S3 (fun h => by omega)))
           go_end0
           refine ⟨rfl, ?_⟩
           rw [HD.out]
           exact swk_of_alloc hblk S4)
      · first
        | (exfalso; omega)
        | (skip
           have q1 : (m : Int) < (e : Int) := by omega
           have q2 : (M : Int) < (e : Int) := by omega
           have S1 := S1a.out
           go_wp2_with (first | (go_at_fn (ρ.f 42); refine (T1.out _ S1 p1 (by omega)).mono ?_; rintro ee w1 ⟨rfl, S2⟩; obtain ⟨b10, b11⟩ := BX1.out _ _ S2; have S3 := N2.out _ S2 (fun h => by omega)) | (go_at_fn (ρ.f 30); refine (T3.out _ S3 (by omega) p4).mono ?_; rintro ee w3 ⟨rfl, S4⟩; obtain ⟨b30, b31⟩ := BX1.out _ _ S4; skip))
           go_end0
           refine ⟨rfl, ?_⟩
           rw [HD.out]
           exact swk_of_alloc hblk S4)
      · first
        | (exfalso; omega)
        | (skip
           have q1 : (m : Int) < (e : Int) := by omega
           have q2 : (M : Int) < (e : Int) := by omega
           have S1 := S1a.out
           go_wp2_with (first | (go_at_fn (ρ.f 42); refine (T1.out _ S1 p1 (by omega)).mono ?_; rintro ee w1 ⟨rfl, S2⟩; obtain ⟨b10, b11⟩ := BX1.out _ _ S2; have S3 := N2.out _ S2 (fun h => by omega); have S4 := N3.out _ S3 (fun h => by omega)))
           go_end0
           refine ⟨rfl, ?_⟩
           rw [HD.out]
           exact swk_of_alloc hblk S4)
      · first
        | (exfalso; omega)
        | (skip
           have q1 : ¬ ((m : Int) < (e : Int)) := by omega
           have q2 : (M : Int) < (e : Int) := by omega
           have S1 := S1a.out
           have S2 := N1.out _ S1 (fun h => by omega)
           have S3 := N2.out _ S2 (fun h => by omega)
           go_wp2_with (first | (go_at_fn (ρ.f 30); refine (T3.out _ S3 (by omega) p4).mono ?_; rintro ee w3 ⟨rfl, S4⟩; obtain ⟨b30, b31⟩ := BX1.out _ _ S4; skip))
           go_end0
           refine ⟨rfl, ?_⟩
           rw [HD.out]
           exact swk_of_alloc hblk S4)
      · first
        | (exfalso; omega)
        | (skip
           have q1 : ¬ ((m : Int) < (e : Int)) := by omega
           have q2 : (M : Int) < (e : Int) := by omega
           have S1 := S1a.out
           have S2 := N1.out _ S1 (fun h => by omega)
           have S3 := N2.out _ S2 (fun h => by omega)
           have S4 := N3.out _ S3 (fun h => by omega)
           go_wp2
           go_end0
           refine ⟨rfl, ?_⟩
           rw [HD.out]
           exact swk_of_alloc hblk S4)
      · first
        | (exfalso; omega)
        | (skip
           have q1 : ¬ ((m : Int) < (e : Int)) := by omega
           have q2 : (M : Int) < (e : Int) := by omega
           have S1 := S1a.out
           have S2 := N1.out _ S1 (fun h => by omega)
           have S3 := N2.out _ S2 (fun h => by omega)
           go_wp2_with (first | (go_at_fn (ρ.f 30); refine (T3.out _ S3 (by omega) p4).mono ?_; rintro ee w3 ⟨rfl, S4⟩; obtain ⟨b30, b31⟩ := BX1.out _ _ S4; skip))
           go_end0
           refine ⟨rfl, ?_⟩
           rw [HD.out]
           exact swk_of_alloc hblk S4)
      · first
        | (exfalso; omega)
        | (skip
           have q1 : ¬ ((m : Int) < (e : Int)) := by omega
           have q2 : (M : Int) < (e : Int) := by omega
           have S1 := S1a.out
           have S2 := N1.out _ S1 (fun h => by omega)
           have S3 := N2.out _ S2 (fun h => by omega)
           have S4 := N3.out _ S3 (fun h => by omega)
           go_wp2
           go_end0
           refine ⟨rfl, ?_⟩
           rw [HD.out]
           exact swk_of_alloc hblk S4)
      · first
        | (exfalso; omega)
        | (skip
           have q1 : (m : Int) < (e : Int) := by omega
           have q2 : ¬ ((M : Int) < (e : Int)) := by omega
           have S1 := S1a.out
           have S2 := N1.out _ S1 (fun h => by omega)
           go_wp2_with (first | (go_at_fn (ρ.f 30); refine (T2.out _ S2 p3 p2).mono ?_; rintro ee w2 ⟨rfl, S3⟩; obtain ⟨b20, b21⟩ := BX1.out _ _ S3; have S4 := N3.out _ S3 (fun h => by omega)))
           go_end0
           refine ⟨rfl, ?_⟩
           rw [HD.out]
           exact swk_of_alloc hblk S4)
      · first
        | (exfalso; omega)
        | (skip
           have q1 : (m : Int) < (e : Int) := by omega
           have q2 : ¬ ((M : Int) < (e : Int)) := by omega
           have S1 := S1a.out
           have S2 := N1.out _ S1 (fun h => by omega)
           go_wp2_with (first | (go_at_fn (ρ.f 30); refine (T2.out _ S2 p3 p2).mono ?_; rintro ee w2 ⟨rfl, S3⟩; obtain ⟨b20, b21⟩ := BX1.out _ _ S3; have S4 := N3.out _ S3 (fun h => by omega)))
           go_end0
           refine ⟨rfl, ?_⟩
           rw [HD.out]
           exact swk_of_alloc hblk S4)
      · first
        | (exfalso; omega)
        | (skip
           have q1 : (m : Int) < (e : Int) := by omega
           have q2 : ¬ ((M : Int) < (e : Int)) := by omega
           have S1 := S1a.out
           have S2 := N1.out _ S1 (fun h => by omega)
           have S3 := N2.out _ S2 (fun h => by omega)
           have S4 := N3.out _ S3 (fun h => by omega)
           go_wp2
           go_end0
           refine ⟨rfl, ?_⟩
           rw [HD.out]
           exact swk_of_alloc hblk S4)
      · first
        | (exfalso; omega)
        | (skip
           have q1 : (m : Int) < (e : Int) := by omega
           have q2 : ¬ ((M : Int) < (e : Int)) := by omega
           have S1 := S1a.out
           have S2 := N1.out _ S1 (fun h => by omega)
           have S3 := N2.out _ S2 (fun h => by omega)
           have S4 := N3.out _ S3 (fun h => by omega)
           go_wp2
           go_end0
           refine ⟨rfl, ?_⟩
           rw [HD.out]
           exact swk_of_alloc hblk S4)
      · first
        | (exfalso; omega)
        | (skip
           have q1 : ¬ ((m : Int) < (e : Int)) := by omega
           have q2 : ¬ ((M : Int) < (e : Int)) := by omega
           have S1 := S1a.out
           have S2 := N1.out _ S1 (fun h => by omega)
           have S3 := N2.out _ S2 (fun h => by omega)
           have S4 := N3.out _ S3 (fun h => by omega)
           go_wp2
           go_end0
           refine ⟨rfl, ?_⟩
           rw [HD.out]
           exact swk_of_alloc hblk S4)
      · first
        | (exfalso; omega)
        | (skip
           have q1 : ¬ ((m : Int) < (e : Int)) := by omega
           have q2 : ¬ ((M : Int) < (e : Int)) := by omega
           have S1 := S1a.out
           have S2 := N1.out _ S1 (fun h => by omega)
           have S3 := N2.out _ S2 (fun h => by omega)
           have S4 := N3.out _ S3 (fun h => by omega)
           go_wp2
           go_end0
           refine ⟨rfl, ?_⟩
           rw [HD.out]
           exact swk_of_alloc hblk S4)
      · first
        | (exfalso; omega)
        | (skip
           have q1 : ¬ ((m : Int) < (e : Int)) := by omega
           have q2 : ¬ ((M : Int) < (e : Int)) := by omega
           have S1 := S1a.out
           have S2 := N1.out _ S1 (fun h => by omega)
           have S3 := N2.out _ S2 (fun h => by omega)
           have S4 := N3.out _ S3 (fun h => by omega)
           go_wp2
           go_end0
           refine ⟨rfl, ?_⟩
           rw [HD.out]
           exact swk_of_alloc hblk S4)
      · first
        | (exfalso; omega)
        | (skip
           have q1 : ¬ ((m : Int) < (e : Int)) := by omega
           have q2 : ¬ ((M : Int) < (e : Int)) := by omega
           have S1 := S1a.out
           have S2 := N1.out _ S1 (fun h => by omega)
           have S3 := N2.out _ S2 (fun h => by omega)
           have S4 := N3.out _ S3 (fun h => by omega)
           go_wp2
           go_end0
           refine ⟨rfl, ?_⟩
           rw [HD.out]
           exact swk_of_alloc hblk S4)
set_option maxHeartbeats 4000000 in
set_option maxRecDepth 100000 in
theorem symMerge_lo (L : LaysGt.n30 P ρ) (enc : α → List Value) (k : Nat) (hk : ∀ x, (enc x).length = k) (lt : α → α → Bool) (g : Nat) (lb : Array Value) (sf : Nat) (sb : Array Value) (eg : ∀ args w, (callFunc g args).run P w = .ok (.enter g args) w) (blk off size : Nat) (hsz : size < 4611686018427387904)
    (hswap : SwapSwapsK P sf sb enc k blk off size) (a m b : Nat) (d : Array α) (w : World) (hless : LessReadsK P g lb enc k lt blk off size w) (hds : d.size = size) (hH : HoldsK enc k w blk off d) (hblk : blk < w.heap.size) (h1 : a < m) (h2 : m < b) (h3 : b ≤ size)
    (IH : ∀ (a' m' b' : Nat) (d' : Array α) (w' : World), b' - a' < b - a → LessReadsK P g lb enc k lt blk off size w' → d'.size = size → HoldsK enc k w' blk off d' → blk < w'.heap.size → a' < m' → m' < b' → b' ≤ size →
      Calls P (ρ.f 30) #[.agg #[.func (.func g) #[] lb, .func (.func sf) #[] sb], .int .i64 a', .int .i64 m', .int .i64 b'] w' fun e w2 => e = .returned (.tuple #[]) ∧ SWK enc k w' blk off (symM lt a' m' b' d') w2) (hn : ¬ m - a = 1) (hc : ¬ b - m = 1) (hm : ¬ (a + b) / 2 < m) :
    Calls P (ρ.f 30) #[.agg #[.func (.func g) #[] lb, .func (.func sf) #[] sb], .int .i64 a, .int .i64 m, .int .i64 b] w fun e w' => e = .returned (.tuple #[]) ∧ SWK enc k w blk off (symM lt a m b d) w' := by
  have mixed := L.mixed; have t0 := L.t0; have a0 := L.a0; have z0 := L.z0; have v0 := L.v0; have t3 := L.t3; have a3 := L.a3; have z3 := L.z3; have v3 := L.v3; have t4 := L.t4; have a4 := L.a4; have z4 := L.z4; have v4 := L.v4; have t26 := L.t26; have a26 := L.a26; have z26 := L.z26; have v26 := L.v26; have t38 := L.t38; have a38 := L.a38; have z38 := L.z38; have v38 := L.v38; have t42 := L.t42; have a42 := L.a42; have z42 := L.z42; have v42 := L.v42; have t47 := L.t47; have a47 := L.a47; have z47 := L.z47; have v47 := L.v47
  have u42 := run_underlying L.t42; have u3 := run_underlying L.t3; have u4 := run_underlying L.t4; have u47 := run_underlying L.t47
  have L0 : Aside (LessReadsK P g lb enc k lt blk off size (w.alloc (.cells #[.func (.func g) #[] lb, .func (.func sf) #[] sb] (ρ.t 42)))) := by have := hless.grow hblk #[(.cells #[.func (.func g) #[] lb, .func (.func sf) #[] sb] (ρ.t 42))]; rw [← alloc_eq_grow] at this; exact this
  have H0 : Aside (HoldsK enc k (w.alloc (.cells #[.func (.func g) #[] lb, .func (.func sf) #[] sb] (ρ.t 42))) blk off d) := by rw [alloc_eq_grow]; exact holdsK_grow enc k w _ blk off d hblk hH
  have S0 : Aside (SWK enc k (w.alloc (.cells #[.func (.func g) #[] lb, .func (.func sf) #[] sb] (ρ.t 42))) blk off d (w.alloc (.cells #[.func (.func g) #[] lb, .func (.func sf) #[] sb] (ρ.t 42)))) := SWK.start H0.out
  have hb0 : blk < ((w.alloc (.cells #[.func (.func g) #[] lb, .func (.func sf) #[] sb] (ρ.t 42)))).heap.size := by simp; omega
  have HS : Aside _ := hswap
  have e42 : ∀ args w, (callFunc (ρ.f 42) args).run P w = .ok (.enter (ρ.f 42) args) w := enters_of L.f42 (by kernel_rfl) rfl
  have e30 : ∀ args w, (callFunc (ρ.f 30) args).run P w = .ok (.enter (ρ.f 30) args) w := enters_of L.f30 (by kernel_rfl) rfl
  have RT : Aside (∀ (W : World) (dk : Array α) (s e : Nat), SWK enc k (w.alloc (.cells #[.func (.func g) #[] lb, .func (.func sf) #[] sb] (ρ.t 42))) blk off dk W → dk.size = size → s < m → m < e → e ≤ b →
      Calls P (ρ.f 42) #[.agg #[.func (.func g) #[] lb, .func (.func sf) #[] sb], .int .i64 s, .int .i64 m, .int .i64 e] W fun ee w' => ee = .returned (.tuple #[]) ∧ SWK enc k (w.alloc (.cells #[.func (.func g) #[] lb, .func (.func sf) #[] sb] (ρ.t 42))) blk off (rot m (m - s) (e - m) dk) w') := fun W dk s e hS hs x1 x2 x3 =>
    (rotate_w { L with } enc k hk (.func g) #[] lb sf sb blk off s m e dk W (by rw [hs]; exact hswap) (hS.holds hb0 H0.out (by rw [hs, hds])) (hS.lt hb0) x1 x2 (by omega) (by omega)).mono fun _ _ ⟨he, hx⟩ => ⟨he, swk_trans hS hb0 (rot_size _ _ _ _) hx⟩
  have RS : Aside (∀ (W : World) (dk : Array α) (x y z : Nat), SWK enc k (w.alloc (.cells #[.func (.func g) #[] lb, .func (.func sf) #[] sb] (ρ.t 42))) blk off dk W → dk.size = size → x < y → y < z → z ≤ b → z - x < b - a →
      Calls P (ρ.f 30) #[.agg #[.func (.func g) #[] lb, .func (.func sf) #[] sb], .int .i64 x, .int .i64 y, .int .i64 z] W fun ee w' => ee = .returned (.tuple #[]) ∧ SWK enc k (w.alloc (.cells #[.func (.func g) #[] lb, .func (.func sf) #[] sb] (ρ.t 42))) blk off (symM lt x y z dk) w') := fun W dk x y z hS hs x1 x2 x3 x4 =>
    (IH x y z dk W x4 (hS.lessReads L0.out hb0 hs) hs (hS.holds hb0 H0.out (by rw [hs, hds])) (hS.lt hb0) x1 x2 (by omega)).mono fun _ _ ⟨he, hx⟩ => ⟨he, swk_trans hS hb0 (symM_size lt _ _ _ _) hx⟩
  clear hH hswap hless IH
  have G : Aside (∀ d1 d2 d3 : Array α, _ → _ → _ → symM lt a m b d = d3) := fun d1 d2 d3 e1 e2 e3 => symM_gen lt (d1 := d1) (d2 := d2) hn hc h1 h2 e1 e2 e3
  have hnz : ¬ ((m : Int) - (a : Int) = 1) := by omega
  have hnb : ((m : Int) - (a : Int) == 1) = false := by simp; omega
  have hcz : ¬ ((b : Int) - (m : Int) = 1) := by omega
  have hs0 : bs (fun c => !lt d[(a + b) / 2 + m - 1 - c]! d[c]!) a m = symS lt a m b d := by unfold symS; simp [hm]
  generalize hM : (a + b) / 2 = M at *
  have hMz : ((a : Int) + (b : Int)) / 2 = (M : Int) := by omega
  have hab : a < M ∧ M < b := by omega
  have HM : Aside ((a + b) / 2 = M) := hM
  have hmz : ¬ ((M : Int) < (m : Int)) := by omega
  have hcb : ((b : Int) - (m : Int) == 1) = false := by simp; omega
  have hmb : decide ((M : Int) < (m : Int)) = false := by simp; omega
  have HS0 : Aside (bs (fun c => !lt d[M + m - 1 - c]! d[c]!) a m = symS lt a m b d) := hs0
  clear hM hs0
  go_enter L.f30, BodyGt.n30_ntmps ρ
  go_wp2
  go_loopg [18, 19] (m - a + M) (fun g1 vi vj wr => ∃ i j : Nat, vi = .int .i64 i ∧ vj = .int .i64 j ∧ a ≤ i ∧ i ≤ j ∧ j ≤ m ∧ j - i ≤ g1 ∧
      Aside (SWK enc k (w.alloc (.cells #[.func (.func g) #[] lb, .func (.func sf) #[] sb] (ρ.t 42))) blk off d wr ∧ bs (fun c => !lt d[M + m - 1 - c]! d[c]!) i j = symS lt a m b d))
  case atStart => exact ⟨a, m, by first | rfl | (congr 1; done) | (congr 1; omega), by first | rfl | (congr 1; done) | (congr 1; omega), Nat.le_refl _, by omega, Nat.le_refl _, by omega, (⟨S0, HS0.out⟩ : _ ∧ _)⟩
  case round =>
    obtain ⟨i, j, rfl, rfl, hmi, hij, hjb, hg, S⟩ := hrel
    have cc := swk_box hblk S.out.1
    have c0 := cc.1
    by_cases hlt : i < j
    · clear cc
      have hl := S.out.1.less L0.out hds (M + m - 1 - (i + j) / 2) ((i + j) / 2) (by omega) (by omega)
      rw [show (((i + j) / 2 : Nat) : Int) = ((i : Int) + (j : Int)) / 2 by omega, show ((M + m - 1 - (i + j) / 2 : Nat) : Int) = (M : Int) + (m : Int) - 1 - ((i : Int) + (j : Int)) / 2 by omega] at hl
      cases ht : lt d[M + m - 1 - (i + j) / 2]! d[(i + j) / 2]! <;> rw [ht] at hl
      · have HT : Aside (lt d[M + m - 1 - (i + j) / 2]! d[(i + j) / 2]! = false) := ht
        clear ht
        go_wp2_with (go_at_fn g; refine hl.mono ?_; rintro e w' ⟨rfl, q, rfl⟩)
        go_roundg (j - ((i + j) / 2 + 1))
        case measure => omega
        case rel => exact ⟨(i + j) / 2 + 1, j, by first | rfl | (congr 1; done) | (congr 1; omega), rfl, by omega, by omega, hjb, Nat.le_refl _, (⟨S.out.1.drewN q, by rw [← bs_up hlt (by simp [HT.out])]; exact S.out.2⟩ : _ ∧ _)⟩
      · have HT : Aside (lt d[M + m - 1 - (i + j) / 2]! d[(i + j) / 2]! = true) := ht
        clear ht
        go_wp2_with (go_at_fn g; refine hl.mono ?_; rintro e w' ⟨rfl, q, rfl⟩)
        go_roundg ((i + j) / 2 - i)
        case measure => omega
        case rel => exact ⟨i, (i + j) / 2, rfl, by first | rfl | (congr 1; done) | (congr 1; omega), hmi, by omega, by omega, Nat.le_refl _, (⟨S.out.1.drewN q, by rw [← bs_down hlt (by simp [HT.out])]; exact S.out.2⟩ : _ ∧ _)⟩
    · obtain rfl : j = i := by omega
      have E : j = symS lt a m b d := by have := S.out.2; rw [bs_end] at this; exact this
      have c1 := cc.2
      clear cc
      have hG := G.out
      rw [← E] at hG
      have HG : Aside _ := hG
      have S1 := S.out.1
      clear hG G S E HS0
      generalize he : M + m - j = e at HG
      have hez : (M : Int) + (m : Int) - (j : Int) = (e : Int) := by omega
      have hje : j ≤ m ∧ j ≤ M ∧ a ≤ j ∧ m ≤ e ∧ M ≤ e ∧ e ≤ b ∧ e + j = M + m := by omega
      clear he
      obtain ⟨d1, hd1⟩ : ∃ d1, d1 = if j < m ∧ m < e then rot m (m - j) (e - m) d else d := ⟨_, rfl⟩
      obtain ⟨d2, hd2⟩ : ∃ d2, d2 = if a < j ∧ j < M then symM lt a j M d1 else d1 := ⟨_, rfl⟩
      obtain ⟨d3, hd3⟩ : ∃ d3, d3 = if M < e ∧ e < b then symM lt M e b d2 else d2 := ⟨_, rfl⟩
      have HD : Aside (symM lt a m b d = d3) := HG.out d1 d2 d3 hd1 hd2 hd3
      have hz1 : d1.size = size := by rw [hd1, ← hds]; split <;> simp [rot_size]
      have hz2 : d2.size = size := by rw [hd2, ← hz1]; split <;> simp [symM_size]
      have T1 : Aside (∀ W, SWK enc k (w.alloc (.cells #[.func (.func g) #[] lb, .func (.func sf) #[] sb] (ρ.t 42))) blk off d W → j < m → m < e → Calls P (ρ.f 42) #[.agg #[.func (.func g) #[] lb, .func (.func sf) #[] sb], .int .i64 j, .int .i64 m, .int .i64 e] W fun ee w' => ee = .returned (.tuple #[]) ∧ SWK enc k (w.alloc (.cells #[.func (.func g) #[] lb, .func (.func sf) #[] sb] (ρ.t 42))) blk off d1 w') := fun W hS x1 x2 => by
        rw [hd1, if_pos ⟨x1, x2⟩]; exact RT.out W d j e hS hds x1 x2 (by omega)
      have T2 : Aside (∀ W, SWK enc k (w.alloc (.cells #[.func (.func g) #[] lb, .func (.func sf) #[] sb] (ρ.t 42))) blk off d1 W → a < j → j < M → Calls P (ρ.f 30) #[.agg #[.func (.func g) #[] lb, .func (.func sf) #[] sb], .int .i64 a, .int .i64 j, .int .i64 M] W fun ee w' => ee = .returned (.tuple #[]) ∧ SWK enc k (w.alloc (.cells #[.func (.func g) #[] lb, .func (.func sf) #[] sb] (ρ.t 42))) blk off d2 w') := fun W hS x1 x2 => by
        rw [hd2, if_pos ⟨x1, x2⟩]; exact RS.out W d1 a j M hS hz1 x1 x2 (by omega) (by omega)
      have T3 : Aside (∀ W, SWK enc k (w.alloc (.cells #[.func (.func g) #[] lb, .func (.func sf) #[] sb] (ρ.t 42))) blk off d2 W → M < e → e < b → Calls P (ρ.f 30) #[.agg #[.func (.func g) #[] lb, .func (.func sf) #[] sb], .int .i64 M, .int .i64 e, .int .i64 b] W fun ee w' => ee = .returned (.tuple #[]) ∧ SWK enc k (w.alloc (.cells #[.func (.func g) #[] lb, .func (.func sf) #[] sb] (ρ.t 42))) blk off d3 w') := fun W hS x1 x2 => by
        rw [hd3, if_pos ⟨x1, x2⟩]; exact RS.out W d2 M e b hS hz2 x1 x2 (by omega) (by omega)
      have N1 : Aside (∀ W, SWK enc k (w.alloc (.cells #[.func (.func g) #[] lb, .func (.func sf) #[] sb] (ρ.t 42))) blk off d W → ¬ (j < m ∧ m < e) → SWK enc k (w.alloc (.cells #[.func (.func g) #[] lb, .func (.func sf) #[] sb] (ρ.t 42))) blk off d1 W) := fun W hS x => by rw [hd1, if_neg x]; exact hS
      have N2 : Aside (∀ W, SWK enc k (w.alloc (.cells #[.func (.func g) #[] lb, .func (.func sf) #[] sb] (ρ.t 42))) blk off d1 W → ¬ (a < j ∧ j < M) → SWK enc k (w.alloc (.cells #[.func (.func g) #[] lb, .func (.func sf) #[] sb] (ρ.t 42))) blk off d2 W) := fun W hS x => by rw [hd2, if_neg x]; exact hS
      have N3 : Aside (∀ W, SWK enc k (w.alloc (.cells #[.func (.func g) #[] lb, .func (.func sf) #[] sb] (ρ.t 42))) blk off d2 W → ¬ (M < e ∧ e < b) → SWK enc k (w.alloc (.cells #[.func (.func g) #[] lb, .func (.func sf) #[] sb] (ρ.t 42))) blk off d3 W) := fun W hS x => by rw [hd3, if_neg x]; exact hS
      have BX1 : Aside (∀ W (dk : Array α), SWK enc k (w.alloc (.cells #[.func (.func g) #[] lb, .func (.func sf) #[] sb] (ρ.t 42))) blk off dk W → W.cell? ⟨w.heap.size, 0, none⟩ = some (.func (.func g) #[] lb) ∧ W.cell? ⟨w.heap.size, 1, none⟩ = some (.func (.func sf) #[] sb)) := fun W dk h => swk_box hblk h
      have S1a : Aside (SWK enc k (w.alloc (.cells #[.func (.func g) #[] lb, .func (.func sf) #[] sb] (ρ.t 42))) blk off d wr) := S1
      clear hd1 hd2 hd3 HG RT RS hz1 hz2 S1
      by_cases p1 : j < m <;> by_cases p2 : j < M <;> by_cases p3 : a < j <;> by_cases p4 : e < b
      · first
        | (exfalso; omega)
        | (skip
           have q1 : (m : Int) < (e : Int) := by omega
           have q2 : (M : Int) < (e : Int) := by omega
           have S1 := S1a.out
           go_wp2_with (first | (go_at_fn (ρ.f 42); refine (T1.out _ S1 p1 (by omega)).mono ?_; rintro ee w1 ⟨rfl, S2⟩; obtain ⟨b10, b11⟩ := BX1.out _ _ S2; skip) | (go_at_fn (ρ.f 30); refine (T2.out _ S2 p3 p2).mono ?_; rintro ee w2 ⟨rfl, S3⟩; obtain ⟨b20, b21⟩ := BX1.out _ _ S3; skip) | (go_at_fn (ρ.f 30); refine (T3.out _ S3 (by omega) p4).mono ?_; rintro ee w3 ⟨rfl, S4⟩; obtain ⟨b30, b31⟩ := BX1.out _ _ S4; skip))
           go_end0
           refine ⟨rfl, ?_⟩
           rw [HD.out]
           exact swk_of_alloc hblk S4)
      · first
        | (exfalso; omega)
        | (skip
           have q1 : (m : Int) < (e : Int) := by omega
           have q2 : (M : Int) < (e : Int) := by omega
           have S1 := S1a.out
           go_wp2_with (first | (go_at_fn (ρ.f 42); refine (T1.out _ S1 p1 (by omega)).mono ?_; rintro ee w1 ⟨rfl, S2⟩; obtain ⟨b10, b11⟩ := BX1.out _ _ S2; skip) | (go_at_fn (ρ.f 30); refine (T2.out _ S2 p3 p2).mono ?_; rintro ee w2 ⟨rfl, S3⟩; obtain ⟨b20, b21⟩ := BX1.out _ _ S3; have S4 := N3.out _ S3 (fun h => by omega)))
           go_end0
           refine ⟨rfl, ?_⟩
           rw [HD.out]
           exact swk_of_alloc hblk S4)
      · first
        | (exfalso; omega)
        | (skip
           have q1 : (m : Int) < (e : Int) := by omega
           have q2 : (M : Int) < (e : Int) := by omega
           have S1 := S1a.out
           go_wp2_with (first | (go_at_fn (ρ.f 42); refine (T1.out _ S1 p1 (by omega)).mono ?_; rintro ee w1 ⟨rfl, S2⟩; obtain ⟨b10, b11⟩ := BX1.out _ _ S2; have S3 := N2.out _ S2 (fun h => by omega)) | (go_at_fn (ρ.f 30); refine (T3.out _ S3 (by omega) p4).mono ?_; rintro ee w3 ⟨rfl, S4⟩; obtain ⟨b30, b31⟩ := BX1.out _ _ S4; skip))
           go_end0
           refine ⟨rfl, ?_⟩
           rw [HD.out]
           exact swk_of_alloc hblk S4)
      · first
        | (exfalso; omega)
        | (skip
           have q1 : (m : Int) < (e : Int) := by omega
           have q2 : (M : Int) < (e : Int) := by omega
           have S1 := S1a.out
           go_wp2_with (first | (go_at_fn (ρ.f 42); refine (T1.out _ S1 p1 (by omega)).mono ?_; rintro ee w1 ⟨rfl, S2⟩; obtain ⟨b10, b11⟩ := BX1.out _ _ S2; have S3 := N2.out _ S2 (fun h => by omega); have S4 := N3.out _ S3 (fun h => by omega)))
           go_end0
           refine ⟨rfl, ?_⟩
           rw [HD.out]
           exact swk_of_alloc hblk S4)
      · first
        | (exfalso; omega)
        | (skip
           have q1 : ¬ ((m : Int) < (e : Int)) := by omega
           have q2 : (M : Int) < (e : Int) := by omega
           have S1 := S1a.out
           have S2 := N1.out _ S1 (fun h => by omega)
           have S3 := N2.out _ S2 (fun h => by omega)
           go_wp2_with (first | (go_at_fn (ρ.f 30); refine (T3.out _ S3 (by omega) p4).mono ?_; rintro ee w3 ⟨rfl, S4⟩; obtain ⟨b30, b31⟩ := BX1.out _ _ S4; skip))
           go_end0
           refine ⟨rfl, ?_⟩
           rw [HD.out]
           exact swk_of_alloc hblk S4)
      · first
        | (exfalso; omega)
        | (skip
           have q1 : ¬ ((m : Int) < (e : Int)) := by omega
           have q2 : (M : Int) < (e : Int) := by omega
           have S1 := S1a.out
           have S2 := N1.out _ S1 (fun h => by omega)
           have S3 := N2.out _ S2 (fun h => by omega)
           have S4 := N3.out _ S3 (fun h => by omega)
           go_wp2
           go_end0
           refine ⟨rfl, ?_⟩
           rw [HD.out]
           exact swk_of_alloc hblk S4)
      · first
        | (exfalso; omega)
        | (skip
           have q1 : ¬ ((m : Int) < (e : Int)) := by omega
           have q2 : (M : Int) < (e : Int) := by omega
           have S1 := S1a.out
           have S2 := N1.out _ S1 (fun h => by omega)
           have S3 := N2.out _ S2 (fun h => by omega)
           go_wp2_with (first | (go_at_fn (ρ.f 30); refine (T3.out _ S3 (by omega) p4).mono ?_; rintro ee w3 ⟨rfl, S4⟩; obtain ⟨b30, b31⟩ := BX1.out _ _ S4; skip))
           go_end0
           refine ⟨rfl, ?_⟩
           rw [HD.out]
           exact swk_of_alloc hblk S4)
      · first
        | (exfalso; omega)
        | (skip
           have q1 : ¬ ((m : Int) < (e : Int)) := by omega
           have q2 : (M : Int) < (e : Int) := by omega
           have S1 := S1a.out
           have S2 := N1.out _ S1 (fun h => by omega)
           have S3 := N2.out _ S2 (fun h => by omega)
           have S4 := N3.out _ S3 (fun h => by omega)
           go_wp2
           go_end0
           refine ⟨rfl, ?_⟩
           rw [HD.out]
           exact swk_of_alloc hblk S4)
      · first
        | (exfalso; omega)
        | (skip
           have q1 : (m : Int) < (e : Int) := by omega
           have q2 : ¬ ((M : Int) < (e : Int)) := by omega
           have S1 := S1a.out
           have S2 := N1.out _ S1 (fun h => by omega)
           go_wp2_with (first | (go_at_fn (ρ.f 30); refine (T2.out _ S2 p3 p2).mono ?_; rintro ee w2 ⟨rfl, S3⟩; obtain ⟨b20, b21⟩ := BX1.out _ _ S3; have S4 := N3.out _ S3 (fun h => by omega)))
           go_end0
           refine ⟨rfl, ?_⟩
           rw [HD.out]
           exact swk_of_alloc hblk S4)
      · first
        | (exfalso; omega)
        | (skip
           have q1 : (m : Int) < (e : Int) := by omega
           have q2 : ¬ ((M : Int) < (e : Int)) := by omega
           have S1 := S1a.out
           have S2 := N1.out _ S1 (fun h => by omega)
           go_wp2_with (first | (go_at_fn (ρ.f 30); refine (T2.out _ S2 p3 p2).mono ?_; rintro ee w2 ⟨rfl, S3⟩; obtain ⟨b20, b21⟩ := BX1.out _ _ S3; have S4 := N3.out _ S3 (fun h => by omega)))
           go_end0
           refine ⟨rfl, ?_⟩
           rw [HD.out]
           exact swk_of_alloc hblk S4)
      · first
        | (exfalso; omega)
        | (skip
           have q1 : (m : Int) < (e : Int) := by omega
           have q2 : ¬ ((M : Int) < (e : Int)) := by omega
           have S1 := S1a.out
           have S2 := N1.out _ S1 (fun h => by omega)
           have S3 := N2.out _ S2 (fun h => by omega)
           have S4 := N3.out _ S3 (fun h => by omega)
           go_wp2
           go_end0
           refine ⟨rfl, ?_⟩
           rw [HD.out]
           exact swk_of_alloc hblk S4)
      · first
        | (exfalso; omega)
        | (skip
           have q1 : (m : Int) < (e : Int) := by omega
           have q2 : ¬ ((M : Int) < (e : Int)) := by omega
           have S1 := S1a.out
           have S2 := N1.out _ S1 (fun h => by omega)
           have S3 := N2.out _ S2 (fun h => by omega)
           have S4 := N3.out _ S3 (fun h => by omega)
           go_wp2
           go_end0
           refine ⟨rfl, ?_⟩
           rw [HD.out]
           exact swk_of_alloc hblk S4)
      · first
        | (exfalso; omega)
        | (skip
           have q1 : ¬ ((m : Int) < (e : Int)) := by omega
           have q2 : ¬ ((M : Int) < (e : Int)) := by omega
           have S1 := S1a.out
           have S2 := N1.out _ S1 (fun h => by omega)
           have S3 := N2.out _ S2 (fun h => by omega)
           have S4 := N3.out _ S3 (fun h => by omega)
           go_wp2
           go_end0
           refine ⟨rfl, ?_⟩
           rw [HD.out]
           exact swk_of_alloc hblk S4)
      · first
        | (exfalso; omega)
        | (skip
           have q1 : ¬ ((m : Int) < (e : Int)) := by omega
           have q2 : ¬ ((M : Int) < (e : Int)) := by omega
           have S1 := S1a.out
           have S2 := N1.out _ S1 (fun h => by omega)
           have S3 := N2.out _ S2 (fun h => by omega)
           have S4 := N3.out _ S3 (fun h => by omega)
           go_wp2
           go_end0
           refine ⟨rfl, ?_⟩
           rw [HD.out]
           exact swk_of_alloc hblk S4)
      · first
        | (exfalso; omega)
        | (skip
           have q1 : ¬ ((m : Int) < (e : Int)) := by omega
           have q2 : ¬ ((M : Int) < (e : Int)) := by omega
           have S1 := S1a.out
           have S2 := N1.out _ S1 (fun h => by omega)
           have S3 := N2.out _ S2 (fun h => by omega)
           have S4 := N3.out _ S3 (fun h => by omega)
           go_wp2
           go_end0
           refine ⟨rfl, ?_⟩
           rw [HD.out]
           exact swk_of_alloc hblk S4)
      · first
        | (exfalso; omega)
        | (skip
           have q1 : ¬ ((m : Int) < (e : Int)) := by omega
           have q2 : ¬ ((M : Int) < (e : Int)) := by omega
           have S1 := S1a.out
           have S2 := N1.out _ S1 (fun h => by omega)
           have S3 := N2.out _ S2 (fun h => by omega)
           have S4 := N3.out _ S3 (fun h => by omega)
           go_wp2
           go_end0
           refine ⟨rfl, ?_⟩
           rw [HD.out]
           exact swk_of_alloc hblk S4)
end Go.Proofs.YtckipgijfgeghaaDoor
