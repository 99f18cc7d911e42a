/- sort.symMerge_func and sort.stable_func at elements of k cells, over any program. -/
import Derived.Test.YtckipgijfgeghaaDoorSw2
import Derived.Shelf.GgSortMore.Stable
import Derived.Shelf.GgSortFunc.SmallK
namespace Go.Proofs.YtckipgijfgeghaaDoor
open Go.Shelf Go.RowKit Go.Lib Go.Sort Go.SymP
variable {P : Program} {ρ : Ren} {α : Type} [Inhabited α]
theorem symMerge_w (L : LaysGt.n30 P ρ) (enc : α → List Value) (k : Nat) (hk : ∀ x, (enc x).length = k) (lt : α → α → Bool) (g : Nat) (lb : Array Value) (sf : Nat) (sb : Array Value) (eg : ∀ args w, (callFunc g args).run P w = .ok (.enter g args) w) (blk off size : Nat) (hsz : size < 4611686018427387904)
    (hswap : SwapSwapsK P sf sb enc k blk off size) : ∀ (n a m b : Nat) (d : Array α) (w : World), b - a ≤ n → LessReadsK P g lb enc k lt blk off size w → d.size = size → HoldsK enc k w blk off d → blk < w.heap.size → a < m → m < b → b ≤ size →
    Calls P (ρ.f 30) #[.agg #[.func (.func g) #[] lb, .func (.func sf) #[] sb], .int .i64 a, .int .i64 m, .int .i64 b] w fun e w' => e = .returned (.tuple #[]) ∧ SWK enc k w blk off (symM lt a m b d) w' := by
  intro n
  induction n with
  | zero => intro a m b d w h _ _ _ _ h1 h2 _; exfalso; omega
  | succ n ih =>
    intro a m b d w hn hless hds hH hblk h1 h2 h3
    by_cases c1 : m - a = 1
    · have e : symM lt a m b d = shu a (bs (fun h => lt d[h]! d[a]!) m b - 1 - a) d := by unfold symM; rw [if_pos c1]
      rw [e]
      exact symMerge_left L enc k hk lt g lb sf sb eg blk off size hsz hswap a m b d w hless hds hH hblk h1 h2 h3 c1
    by_cases c2 : b - m = 1
    · have e : symM lt a m b d = shd m (m - bs (fun h => !lt d[m]! d[h]!) a m) d := by unfold symM; rw [if_neg c1, if_pos c2]
      rw [e]
      exact symMerge_right L enc k hk lt g lb sf sb eg blk off size hsz hswap a m b d w hless hds hH hblk h1 h2 h3 c1 c2
    by_cases c3 : (a + b) / 2 < m
    · exact symMerge_hi L enc k hk lt g lb sf sb eg blk off size hsz hswap a m b d w hless hds hH hblk h1 h2 h3 (fun a' m' b' d' w' hl x1 x2 x3 x4 x5 x6 x7 => ih a' m' b' d' w' (by omega) x1 x2 x3 x4 x5 x6 x7) c1 c2 c3
    · exact symMerge_lo L enc k hk lt g lb sf sb eg blk off size hsz hswap a m b d w hless hds hH hblk h1 h2 h3 (fun a' m' b' d' w' hl x1 x2 x3 x4 x5 x6 x7 => ih a' m' b' d' w' (by omega) x1 x2 x3 x4 x5 x6 x7) c1 c2 c3

set_option maxHeartbeats 4000000 in
set_option maxRecDepth 100000 in
theorem stable_w (L : LaysGt.n15 P ρ) (enc : α → List Value) (k : Nat) (hk : ∀ x, (enc x).length = k) (lt : α → α → Bool) (hO : SWO lt) (g : Nat) (lb : Array Value) (sf : Nat) (sb : Array Value) (eg : ∀ args w, (callFunc g args).run P w = .ok (.enter g args) w) (blk off size : Nat) (hsz : size < 1152921504606846976)
    (hswap : SwapSwapsK P sf sb enc k blk off size) (d : Array α) (w : World) (hless : LessReadsK P g lb enc k lt blk off size w) (hds : d.size = size) (hH : HoldsK enc k w blk off d) (hblk : blk < w.heap.size) :
    Calls P (ρ.f 15) #[.agg #[.func (.func g) #[] lb, .func (.func sf) #[] sb], .int .i64 size] w fun e w' => e = .returned (.tuple #[]) ∧ ∃ d', PermIn 0 size d d' ∧ SortedIn lt 0 size d' ∧ SWK enc k w blk off d' w' := by
  have mixed := L.mixed; have t0 := L.t0; have a0 := L.a0; have z0 := L.z0; have v0 := L.v0; have t3 := L.t3; have a3 := L.a3; have z3 := L.z3; have v3 := L.v3; have t4 := L.t4; have a4 := L.a4; have z4 := L.z4; have v4 := L.v4; have t26 := L.t26; have a26 := L.a26; have z26 := L.z26; have v26 := L.v26; have t38 := L.t38; have a38 := L.a38; have z38 := L.z38; have v38 := L.v38; have t42 := L.t42; have a42 := L.a42; have z42 := L.z42; have v42 := L.v42; have t47 := L.t47; have a47 := L.a47; have z47 := L.z47; have v47 := L.v47
  have u42 := run_underlying L.t42; have u3 := run_underlying L.t3; have u4 := run_underlying L.t4; have u47 := run_underlying L.t47
  have e29 : ∀ args w, (callFunc (ρ.f 29) args).run P w = .ok (.enter (ρ.f 29) args) w := enters_of L.f29 (by kernel_rfl) rfl
  have e30 : ∀ args w, (callFunc (ρ.f 30) args).run P w = .ok (.enter (ρ.f 30) args) w := enters_of L.f30 (by kernel_rfl) rfl
  have LI : LaysGg.n26 P ρ.viaGt := ({ L with } : LaysGt.n29 P ρ).elder
  have L0 : Aside (LessReadsK P g lb enc k lt blk off size (w.alloc (.cells #[.func (.func g) #[] lb, .func (.func sf) #[] sb] (ρ.t 42)))) := by have := hless.grow hblk #[(.cells #[.func (.func g) #[] lb, .func (.func sf) #[] sb] (ρ.t 42))]; rw [← alloc_eq_grow] at this; exact this
  have H0 : Aside (HoldsK enc k (w.alloc (.cells #[.func (.func g) #[] lb, .func (.func sf) #[] sb] (ρ.t 42))) blk off d) := by rw [alloc_eq_grow]; exact holdsK_grow enc k w _ blk off d hblk hH
  have S0 : Aside (SWK enc k (w.alloc (.cells #[.func (.func g) #[] lb, .func (.func sf) #[] sb] (ρ.t 42))) blk off d (w.alloc (.cells #[.func (.func g) #[] lb, .func (.func sf) #[] sb] (ρ.t 42)))) := SWK.start H0.out
  have hb0 : blk < ((w.alloc (.cells #[.func (.func g) #[] lb, .func (.func sf) #[] sb] (ρ.t 42)))).heap.size := by simp; omega
  have BX1 : Aside (∀ (W : World) (dk : Array α), SWK enc k (w.alloc (.cells #[.func (.func g) #[] lb, .func (.func sf) #[] sb] (ρ.t 42))) blk off dk W → W.cell? ⟨w.heap.size, 0, none⟩ = some (.func (.func g) #[] lb) ∧ W.cell? ⟨w.heap.size, 1, none⟩ = some (.func (.func sf) #[] sb)) := fun W dk h => swk_box hblk h
  have RI : Aside (∀ (W : World) (dk : Array α) (x y : Nat), SWK enc k (w.alloc (.cells #[.func (.func g) #[] lb, .func (.func sf) #[] sb] (ρ.t 42))) blk off dk W → dk.size = size → x ≤ y → y ≤ size →
      Calls P (ρ.f 29) #[.agg #[.func (.func g) #[] lb, .func (.func sf) #[] sb], .int .i64 x, .int .i64 y] W fun ee w' => ee = .returned (.tuple #[]) ∧ ∃ d', PermIn x y dk d' ∧ SortedIn lt x y d' ∧ d'.size = size ∧ SWK enc k (w.alloc (.cells #[.func (.func g) #[] lb, .func (.func sf) #[] sb] (ρ.t 42))) blk off d' w') := fun W dk x y hS hs x1 x2 =>
    (Any.insertionSort_func_cells_w LI enc k hk lt g lb sf sb blk off x y dk W eg (by rw [hs]; exact hS.lessReads L0.out hb0 hs) (by rw [hs]; exact hswap) (hS.holds hb0 H0.out (by rw [hs, hds])) (hS.lt hb0) x1 (by omega) (by omega)).mono fun _ _ ⟨he, n, os, hw⟩ =>
      have hi := insertionSort_holds (lt := lt) hO dk x y x1 (by omega)
      ⟨he, _, hi.1, hi.2, hi.1.1.trans hs, swk_trans hS hb0 hi.1.1 ⟨n, os, hw⟩⟩
  have RS : Aside (∀ (W : World) (dk : Array α) (x y z : Nat), SWK enc k (w.alloc (.cells #[.func (.func g) #[] lb, .func (.func sf) #[] sb] (ρ.t 42))) blk off dk W → dk.size = size → x < y → y < z → z ≤ size → SortedIn lt x y dk → SortedIn lt y z dk →
      Calls P (ρ.f 30) #[.agg #[.func (.func g) #[] lb, .func (.func sf) #[] sb], .int .i64 x, .int .i64 y, .int .i64 z] W fun ee w' => ee = .returned (.tuple #[]) ∧ ∃ d', PermIn x z dk d' ∧ SortedIn lt x z d' ∧ d'.size = size ∧ SWK enc k (w.alloc (.cells #[.func (.func g) #[] lb, .func (.func sf) #[] sb] (ρ.t 42))) blk off d' w') := fun W dk x y z hS hs x1 x2 x3 x4 x5 =>
    (symMerge_w { L with } enc k hk lt g lb sf sb eg blk off size (by omega) hswap (z - x) x y z dk W (Nat.le_refl _) (hS.lessReads L0.out hb0 hs) hs (hS.holds hb0 H0.out (by rw [hs, hds])) (hS.lt hb0) x1 x2 x3).mono fun _ _ ⟨he, hx⟩ =>
      have hi := symM_holds hO x y z dk x1 x2 (by omega) x4 x5
      ⟨he, _, hi.1, hi.2, hi.1.1.trans hs, swk_trans hS hb0 hi.1.1 hx⟩
  clear hH hswap hless
  go_enter L.f15, BodyGt.n15_ntmps ρ
  go_wp2
  go_loopg [5, 6] size (fun g1 va vb wr => ∃ (t A : Nat) (dk : Array α), va = .int .i64 A ∧ vb = .int .i64 ((A : Int) + 20) ∧ A ≤ size ∧ size - A ≤ g1 ∧ dk.size = size ∧
      Aside (A = t * 20 ∧ PermIn 0 size d dk ∧ Blk lt 20 (t * 20) dk ∧ SWK enc k (w.alloc (.cells #[.func (.func g) #[] lb, .func (.func sf) #[] sb] (ρ.t 42))) blk off dk wr))
  case atStart => exact ⟨0, 0, d, rfl, rfl, Nat.zero_le _, Nat.le_refl _, hds, (⟨rfl, permIn_refl _ _ _, blk_zero _ _, S0⟩ : _ ∧ _)⟩
  case round =>
    obtain ⟨t, A, dk, rfl, rfl, hA, hg, hdk, S⟩ := hrel
    obtain ⟨c0, c1⟩ := BX1.out _ _ S.out.2.2.2
    by_cases hle : A + 20 ≤ size
    · have hlez : (A : Int) + 20 ≤ (size : Int) := by omega
      have hc := RI.out wr dk A (A + 20) S.out.2.2.2 hdk (by omega) hle
      rw [show ((A + 20 : Nat) : Int) = (A : Int) + 20 by omega] at hc
      go_wp2_with (go_at_fn (ρ.f 29); refine hc.mono ?_; rintro e w' ⟨rfl, d', q1, q2, q3, q4⟩)
      go_roundg (size - (A + 20))
      case measure => omega
      case rel =>
        exact ⟨t + 1, A + 20, d', by first | rfl | (congr 1; done) | (congr 1; omega), by first | rfl | (congr 1; done) | (congr 1; omega), hle, Nat.le_refl _, q3, (⟨by rw [Nat.add_mul, ← S.out.1], permIn_trans _ _ _ _ _ S.out.2.1 (permIn_mono _ _ A (A + 20) 0 size (by omega) hle (by omega) q1),
          by
            have e : (t + 1) * 20 = A + 20 := by rw [Nat.add_mul, ← S.out.1]
            rw [e]
            exact blk_step (t := t) (by omega) S.out.2.2.1 (by rw [← S.out.1]; exact q1) (by rw [← S.out.1]; exact q2), q4⟩ : _ ∧ _)⟩
    · have hlez : ¬ ((A : Int) + 20 ≤ (size : Int)) := by omega
      have hc := RI.out wr dk A size S.out.2.2.2 hdk hA (Nat.le_refl _)
      have hc' : Calls P (ρ.f 29) #[.agg #[.func (.func g) #[] lb, .func (.func sf) #[] sb], .int .i64 A, .int .i64 size] wr fun ee w' => ee = .returned (.tuple #[]) ∧ ∃ d', Aside (d'.size = size ∧ PermIn 0 size d d' ∧ Blk lt 20 size d' ∧ SWK enc k (w.alloc (.cells #[.func (.func g) #[] lb, .func (.func sf) #[] sb] (ρ.t 42))) blk off d' w') :=
        hc.mono fun _ _ ⟨he, d', q1, q2, q3, q4⟩ => ⟨he, d', (⟨q3, permIn_trans _ _ _ _ _ S.out.2.1 (permIn_mono _ _ A size 0 size (by omega) (Nat.le_refl _) (by omega) q1),
          blk_step (t := t) (by omega) S.out.2.2.1 (by rw [← S.out.1]; exact q1) (by rw [← S.out.1]; exact q2), q4⟩ : _ ∧ _)⟩
      clear hc S RI
      go_wp2_with (go_at_fn (ρ.f 29); refine hc'.mono ?_; rintro e w1 ⟨rfl, d', S1⟩)
      go_loopg [4] size (fun g1 vs wr => ∃ (s : Nat) (dk : Array α), vs = .int .i64 s ∧ 0 < s ∧ s ≤ 2 * size + 20 ∧ size - s ≤ g1 ∧ dk.size = size ∧
          Aside (PermIn 0 size d dk ∧ Blk lt s size dk ∧ SWK enc k (w.alloc (.cells #[.func (.func g) #[] lb, .func (.func sf) #[] sb] (ρ.t 42))) blk off dk wr))
      case atStart => exact ⟨20, d', rfl, by omega, by omega, by omega, S1.out.1, S1.out.2⟩
      case round =>
        clear c0 c1
        obtain ⟨s, dk, rfl, hs0, hs1, hg, hdk, S⟩ := hrel
        by_cases hlt : s < size
        · have hltz : (s : Int) < (size : Int) := by omega
          go_wp2
          go_loopg [5, 6] size (fun g1 va vb wr => ∃ (t A : Nat) (dk : Array α), va = .int .i64 A ∧ vb = .int .i64 ((A : Int) + 2 * (s : Int)) ∧ A ≤ size ∧ size - A ≤ g1 ∧ dk.size = size ∧
              Aside (A = t * (2 * s) ∧ PermIn 0 size d dk ∧ Two lt s (t * (2 * s)) size dk ∧ SWK enc k (w.alloc (.cells #[.func (.func g) #[] lb, .func (.func sf) #[] sb] (ρ.t 42))) blk off dk wr))
          case atStart => exact ⟨0, 0, dk, rfl, by first | rfl | (congr 1; done) | (congr 1; omega), Nat.zero_le _, Nat.le_refl _, hdk, (⟨by omega, S.out.1, by rw [Nat.zero_mul]; exact two_start S.out.2.1, S.out.2.2⟩ : _ ∧ _)⟩
          case round =>
            clear S S1
            obtain ⟨t, A, dk, rfl, rfl, hA, hg2, hdk, S⟩ := hrel
            obtain ⟨c0, c1⟩ := BX1.out _ _ S.out.2.2.2
            by_cases hle : A + 2 * s ≤ size
            · have hlez : (A : Int) + 2 * (s : Int) ≤ (size : Int) := by omega
              have hc := RS.out wr dk A (A + s) (A + 2 * s) S.out.2.2.2 hdk (by omega) (by omega) hle (by rw [S.out.1]; exact two_left S.out.2.2.1 (by rw [← S.out.1]; omega)) (by rw [S.out.1]; exact two_right S.out.2.2.1 (by rw [← S.out.1]; omega) (by omega))
              rw [show ((A + s : Nat) : Int) = (A : Int) + (s : Int) by omega, show ((A + 2 * s : Nat) : Int) = (A : Int) + 2 * (s : Int) by omega] at hc
              go_wp2_with (go_at_fn (ρ.f 30); refine hc.mono ?_; rintro e w' ⟨rfl, d', q1, q2, q3, q4⟩)
              go_roundg (size - (A + 2 * s))
              case measure => omega
              case rel =>
                have e : (t + 1) * (2 * s) = A + 2 * s := by rw [Nat.add_mul, Nat.one_mul, ← S.out.1]
                exact ⟨t + 1, A + 2 * s, d', by first | rfl | (congr 1; done) | (congr 1; omega), by first | rfl | (congr 1; done) | (congr 1; omega), hle, Nat.le_refl _, q3, (⟨e.symm, permIn_trans _ _ _ _ _ S.out.2.1 (permIn_mono _ _ A (A + 2 * s) 0 size (by omega) hle (by omega) q1),
                  by
                    rw [e]
                    exact two_step (t := t) hs0 S.out.2.2.1 (by rw [← S.out.1]; exact q1) (by rw [← S.out.1]; exact q2) (by rw [← S.out.1]; omega), q4⟩ : _ ∧ _)⟩
            · have hlez : ¬ ((A : Int) + 2 * (s : Int) ≤ (size : Int)) := by omega
              by_cases hm : A + s < size
              · have hmz : (A : Int) + (s : Int) < (size : Int) := by omega
                have hc := RS.out wr dk A (A + s) size S.out.2.2.2 hdk (by omega) hm (Nat.le_refl _) (by rw [S.out.1]; exact two_left S.out.2.2.1 (by rw [← S.out.1]; omega)) (by rw [S.out.1]; exact two_right S.out.2.2.1 (Nat.le_refl _) (by rw [← S.out.1]; omega))
                rw [show ((A + s : Nat) : Int) = (A : Int) + (s : Int) by omega] at hc
                go_wp2_with (go_at_fn (ρ.f 30); refine hc.mono ?_; rintro e w' ⟨rfl, d', q1, q2, q3, q4⟩)
                go_roundg (size - 2 * s)
                case measure => omega
                case rel =>
                  exact ⟨2 * s, d', by first | rfl | (congr 1; done) | (congr 1; omega), by omega, by omega, Nat.le_refl _, q3, (⟨permIn_trans _ _ _ _ _ S.out.2.1 (permIn_mono _ _ A size 0 size (by omega) (Nat.le_refl _) (by omega) q1),
                    two_end (two_step (t := t) hs0 S.out.2.2.1 (by rw [← S.out.1]; exact q1) (by rw [← S.out.1]; exact q2) (by rw [← S.out.1]; omega)), q4⟩ : _ ∧ _)⟩
              · have hmz : ¬ ((A : Int) + (s : Int) < (size : Int)) := by omega
                go_wp2
                go_roundg (size - 2 * s)
                case measure => omega
                case rel =>
                  exact ⟨2 * s, dk, by first | rfl | (congr 1; done) | (congr 1; omega), by omega, by omega, Nat.le_refl _, hdk, (⟨S.out.2.1, two_short (t := t) hs0 S.out.2.2.1 (by rw [← S.out.1]; omega), S.out.2.2.2⟩ : _ ∧ _)⟩
        · have hltz : ¬ ((s : Int) < (size : Int)) := by omega
          go_wp2
          go_end0
          exact ⟨rfl, dk, S.out.1, blk_end S.out.2.1 (by omega), swk_of_alloc hblk S.out.2.2⟩

/-- sort.SliceStable at two elements or more, of any length: a permutation, sorted. -/
theorem sliceStable_w (L : LaysGt.n8 P ρ) (t e : TypeId) (i ie : TypeInfo) (hi : P.info? t = some i) (hd : i.desc = .slice e) (hpk : P.packed t = false) (hie : P.info? e = some ie) (ke : Nat) (hke : ∀ w, (Extern.Rtype.kind e).run P w = .ok ke w)
    (enc : α → List Value) (k : Nat) (hk : ∀ x, (enc x).length = k) (hs1 : ie.size = k) (hagg : ∀ w, (isAgg e).run P w = .ok true w) (h1 : ∀ x, ∀ v ∈ enc x, v.oneCell' = true) (lt : α → α → Bool) (hO : SWO lt) (g : Nat) (lb : Array Value)
    (eg : ∀ args w, (callFunc g args).run P w = .ok (.enter g args) w) (blk off c : Nat) (d : Array α) (h2 : 2 ≤ d.size) (hsz : d.size < 1152921504606846976)
    (f : Nat) (hf : P.funcs.findIdx? (·.name == "internal/reflectlite" ++ ".Swapper$" ++ toString (swapperK d.size ie ke)) = some f)
    (gS : Bool) (hx : ∀ args W, (callFunc f args).run P W = ((Extern.ReflectliteSwapper.swap gS args).run P W).andThen fun v w' => .ok (.value v) w')
    (w : World) (hless : LessReadsK P g lb enc k lt blk off d.size w) (hH : HoldsK enc k w blk off d) (hblk : blk < w.heap.size) :
    Calls P (ρ.f 8) #[.iface t (.slice (some ⟨blk, off, none⟩) d.size c), .func (.func g) #[] lb] w fun e w' =>
      e = .returned (.tuple #[]) ∧ ∃ d', PermIn 0 d.size d d' ∧ SortedIn lt 0 d.size d' ∧ SWK enc k w blk off d' w' := by
  refine Any.sort_SliceStable_of_stable L t e i ie hi hd hpk hie ke hke _ d.size c (by omega) f hf (.func g) #[] lb w _ ?_
  have hB : sliceBound P e ie ke (some ⟨blk, off, none⟩) d.size c = #[.slice (some ⟨blk, off, none⟩) d.size c, typeHandle P e] := by
    unfold sliceBound; rw [if_neg (swapperK_gt _ _ _ h2)]
  have hW : stableWorld P ρ t (some ⟨blk, off, none⟩) d.size c w = grow w #[.cells #[.slice (some ⟨blk, off, none⟩) d.size c] t, .cells #[.pointer (some ⟨P.globals.size, t, none⟩), .pointer (some ⟨w.heap.size, 0, none⟩), .int .u64 151] (ρ.t 36)] := by
    unfold stableWorld; rw [alloc_eq_grow, alloc_eq_grow, grow_grow]; rfl
  generalize (#[.cells #[.slice (some ⟨blk, off, none⟩) d.size c] t, .cells #[.pointer (some ⟨P.globals.size, t, none⟩), .pointer (some ⟨w.heap.size, 0, none⟩), .int .u64 151] (ρ.t 36)] : Array Obj) = os0 at hW
  rw [hB, hW]
  have hp := stable_w (P := P) (ρ := ρ) { L with } enc k hk lt hO g lb f _ eg blk off d.size hsz
    (swapSwapsK_of_literal gS f hx e ie hie enc k hk hs1 hagg h1 blk off d.size c) d (grow w os0) (hless.grow hblk os0) rfl (holdsK_grow enc k w _ blk off d hblk hH) (by rw [size_grow]; omega)
  refine hp.mono ?_
  rintro e w' ⟨rfl, d', q1, q2, n, os, rfl⟩
  exact ⟨rfl, d', q1, q2, n, os0 ++ os, by unfold sortWorldK; rw [ahead_grow, putRowK_grow enc k (Sort.ahead w n) _ blk off _ hblk, grow_grow]⟩
end Go.Proofs.YtckipgijfgeghaaDoor
