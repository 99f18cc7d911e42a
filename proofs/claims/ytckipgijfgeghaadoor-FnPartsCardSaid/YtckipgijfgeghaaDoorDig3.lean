/- The digest of the reference. -/
import Derived.Test.YtckipgijfgeghaaDoorDig1
import Derived.Test.YtckipgijfgeghaaDoorStrA
import Derived.StillTailTactics
namespace Go.Proofs.YtckipgijfgeghaaDoor
open Go.RowKit

/-- block B holds the rounds' words, whole -/
def KeysAt (w : World) (B : Nat) : Prop := w.heap[B]? = some (.cells keysV 98 (0, 0))
theorem KeysAt.ext {w w' : World} {B : Nat} (h : KeysAt w B) (hx : Ext w w') : KeysAt w' B := (hx.block B (Array.getElem?_eq_some_iff.1 h).1).trans h
theorem KeysAt.lt {w : World} {B : Nat} (h : KeysAt w B) : B < w.heap.size := (Array.getElem?_eq_some_iff.1 h).1
theorem KeysAt.other {w : World} {B : Nat} (h : KeysAt w B) {p : Addr} (v : Value) (hp : p.block ≠ B) : KeysAt (w.setCell p v) B := by
  unfold KeysAt World.setCell
  rw [Array.getElem?_modify, if_neg hp]
  exact h
theorem KeysAt.oct {w : World} {b B : Nat} {x0 x1 x2 x3 x4 x5 x6 x7 : Value} (h : KeysAt w B) (hb : b ≠ B) : KeysAt (oct w b x0 x1 x2 x3 x4 x5 x6 x7) B :=
  (((((((h.other _ hb).other _ hb).other _ hb).other _ hb).other _ hb).other _ hb).other _ hb).other _ hb
theorem keys_load {w : World} {B : Nat} (h : KeysAt w B) : (Instr.loadAt 98 (.pointer (some ⟨B, 0, none⟩))).run Tryd.prog w = .ok (.agg keysV) w := by
  simp only [Instr.loadAt, Instr.sureAddr, Sem.run_bind, Sem.run_pure, Result.andThen_ok]
  exact run_loadVar_row w B 98 98 keysV (0, 0) _ h Tryd.underlying98 rfl (by rw [keys_size]; kernel_rfl)

theorem wpStill_load {P : Program} {ops rest : List Oper} {w : World} {Q : Act → Prop} {a : Act} {o : Oper} (hg : o.guard = none) (ty : TypeId) (x : Operand) (ho : o.op = .load ty x) (p v : Value) (hx : a.eval x = p)
    (hr : (Instr.loadAt ty p).run P w = .ok v w) (h : wpStill P ops.toArray w Q rest (a.put o.dst v)) : wpStill P ops.toArray w Q (o :: rest) a := by
  unfold wpStill
  rw [if_pos (by simp [Region.wanted, hg])]
  unfold Oper.still execOp
  simp only [ho, hx, Sem.run_bind, hr, Result.andThen_ok, Sem.run_pure]
  exact ⟨rfl, h⟩
attribute [local go_sem ↓] W32.shr_i W32.byt_i
theorem ext_block (P : ByteArray) (k : Nat) (s : St) (h : shaN P k = s) : shaN P (k + 1) = shaB (P.extract (64 * k) (64 * k + 64)) s := by
  rw [shaN, h]
theorem spec_l03FirstL (w : World) :
    Calls Tryd.prog 84 #[] w fun e w' => e = .returned (.agg #[.int .u32 st0.a.i, .int .u32 st0.b.i, .int .u32 st0.c.i, .int .u32 st0.d.i, .int .u32 st0.e.i, .int .u32 st0.f.i, .int .u32 st0.g.i, .int .u32 st0.h.i]) ∧ Ext w w' := spec_l03First w
theorem spec_l03BlockL (st : St) (s : ByteArray) (w : World) (h : s.size = 64) :
    Calls Tryd.prog 87 #[.agg #[.int .u32 st.a.i, .int .u32 st.b.i, .int .u32 st.c.i, .int .u32 st.d.i, .int .u32 st.e.i, .int .u32 st.f.i, .int .u32 st.g.i, .int .u32 st.h.i], .string s, .agg keysV] w fun e w' => e = .returned (.agg #[.int .u32 (shaB s st).a.i, .int .u32 (shaB s st).b.i, .int .u32 (shaB s st).c.i, .int .u32 (shaB s st).d.i, .int .u32 (shaB s st).e.i, .int .u32 (shaB s st).f.i, .int .u32 (shaB s st).g.i, .int .u32 (shaB s st).h.i]) ∧ Ext w w' :=
  spec_l03Block st s w h
/-- the bytes of the first j words, noughts behind them -/
def digL (s : St) (j : Nat) : List Value := ((s.list.take j).flatMap W32.nums ++ List.replicate (32 - 4 * j) 0).map (Value.int .u8)
theorem digL_len (s : St) (j : Nat) (h : j ≤ 8) : (digL s j).length = 32 := by
  have : j = 0 ∨ j = 1 ∨ j = 2 ∨ j = 3 ∨ j = 4 ∨ j = 5 ∨ j = 6 ∨ j = 7 ∨ j = 8 := by omega
  rcases this with rfl | rfl | rfl | rfl | rfl | rfl | rfl | rfl | rfl <;> rfl

theorem own4 {w : World} {b e g n cap : Nat} {xs ys : List Value} (k : Nat) (x0 x1 x2 x3 : Int) (h : w.ownsRow b e 1 (.slice (some ⟨g, 0, none⟩) n cap) n xs)
    (he : (((xs.set k (.int .u8 x0)).set (k + 1) (.int .u8 x1)).set (k + 2) (.int .u8 x2)).set (k + 3) (.int .u8 x3) = ys) :
    ((((w.setCell ⟨g, k, none⟩ (.int .u8 x0)).setCell ⟨g, k + 1, none⟩ (.int .u8 x1)).setCell ⟨g, k + 2, none⟩ (.int .u8 x2)).setCell ⟨g, k + 3, none⟩ (.int .u8 x3)).ownsRow b e 1 (.slice (some ⟨g, 0, none⟩) n cap) n ys := by
  subst he
  exact ((((h.stored k _).1.stored (k + 1) _).1.stored (k + 2) _).1.stored (k + 3) _).1

set_option maxRecDepth 100000 in
set_option maxHeartbeats 1600000 in
theorem spec_Digest (t : ByteArray) (w : World) (ht : t.size ≤ 1073741824) :
    Calls Tryd.prog 80 #[.string t] w fun e w' => e = .returned (.string (digT t)) ∧ Ext w w' := by
  obtain ⟨i0, hi, hz0, hz1, hz2⟩ := info_parts infoU8
  have R := Lib.hid (show digT t = strOfNums (shaN (padT t) ((padT t).size / 64)).nums from rfl)
  have hp := padT_blocks t
  have hps := padT_size t
  have hpz := zerosN_le t.size
  go_enter Tryd.func80, Tryd.ntmps80
  go_wp2_with (go_at_call 84; refine (spec_l03FirstL _).mono ?_; rintro e w1 ⟨rfl, x1⟩)
  refine (spec_l03Keys _).mono ?_
  rintro e w2 ⟨rfl, x2⟩
  go_wp2_with (refine wpList_store_row rfl 98 (.tmp 4) (.tmp 10) rfl w2.heap.size keysV rfl rfl 98 (List.replicate 64 (Value.int .u32 0)).toArray (heap_alloc_at _ rfl) (by rw [keys_size]; kernel_rfl) (by rw [keys_size]; rfl) keys_one ?_; rw [setRow_alloc_at _ _ _ rfl])
  refine (spec_PadText t _ ht).mono ?_
  rintro e w3 ⟨rfl, x3⟩
  generalize padT t = P at *
  obtain ⟨N, hN⟩ : ∃ N, P.size = 64 * N := ⟨P.size / 64, by omega⟩
  have HN := Lib.hid hN
  have e0 : P.size / 64 = N := by omega
  have hPb : P.size ≤ 1073742000 := by omega
  rw [e0] at R
  have x12 : Ext w1 w2 := ((Ext.refl w1).alloc _).trans x2
  have x23 : Ext w2 w3 := ((Ext.refl w2).alloc _).trans x3
  have a0 : Arr w3 w1.heap.size st0.list := (((Arr.new w1 st0.list 85).ext x2).alloc _).ext x3
  have k0 : KeysAt w3 w2.heap.size := KeysAt.ext (heap_alloc_at _ rfl) x3
  have y3 : Ext w w3 := (x1.trans x12).trans x23
  have lB : w1.heap.size < w2.heap.size := by have := x2.size; simp at this; omega
  have lw : w.heap.size ≤ w1.heap.size := x1.size
  have A0 := Lib.hid a0
  have K0 := Lib.hid k0
  clear hp hps hpz e0 x1 x2 x3 x12 x23 a0 k0 hN
  go_wp2
  go_loopw [6] (fun v wr => ∃ k : Nat, k ≤ N ∧ v = .int .i64 (64 * (k : Int)) ∧ Ext w wr ∧ Arr wr w1.heap.size (shaN P k).list ∧ KeysAt wr w2.heap.size) (fun v _ => P.size - (intOf v).toNat)
  case atStart => exact ⟨0, by omega, rfl, y3, A0.out, K0.out⟩
  case round =>
    clear A0 K0 y3
    obtain ⟨k, hk, rfl, hx, a, hkeys⟩ := hrel
    by_cases hlt : k < N
    · have hq0 : 64 * (k : Int) < P.size := by have := HN.out; omega
      have hq1 : (0 : Int) ≤ 64 * (k : Int) := by omega
      have hq2 : 64 * (k : Int) + 64 ≤ P.size := by have := HN.out; omega
      have hq3 : 64 * (k : Int) ≤ 64 * (k : Int) + 64 := by omega
      have hw1 : IntKind.i64.wrap (64 * (k : Int) + 64) = 64 * (k : Int) + 64 := IntWalk.i64_in _ (by omega)
      have hn1 : (64 * (k : Int)).toNat = 64 * k := by omega
      have hn2 : (64 * (k : Int) + 64).toNat = 64 * k + 64 := by omega
      have HS := Lib.hid (show (P.extract (64 * k) (64 * k + 64)).size = 64 by rw [ByteArray.size_extract]; omega)
      generalize hs0 : shaN P k = s at *
      have HS1 := Lib.hid (ext_block P k s hs0)
      have hkl : KeysAt wr.drew w2.heap.size := hkeys
      have lz := a.1
      have lz3 := hkeys.lt
      have v0 := a.cell 0 (by rw [st_len]; omega)
      have v1 := a.cell 1 (by rw [st_len]; omega)
      have v2 := a.cell 2 (by rw [st_len]; omega)
      have v3 := a.cell 3 (by rw [st_len]; omega)
      have v4 := a.cell 4 (by rw [st_len]; omega)
      have v5 := a.cell 5 (by rw [st_len]; omega)
      have v6 := a.cell 6 (by rw [st_len]; omega)
      have v7 := a.cell 7 (by rw [st_len]; omega)
      simp only [St.list, List.getD_cons_zero, List.getD_cons_succ] at v0 v1 v2 v3 v4 v5 v6 v7
      have A := Lib.hid a
      have HK := Lib.hid hkeys
      clear a hs0 hkeys
      go_wp2
      go_still_tail 7, (by kernel_rfl)
      refine wpStill_load rfl 98 (.tmp 4) rfl _ _ rfl (keys_load hkl) ?_
      refine wpStill_nil ?_
      change wpList _ _ _ _ _ wr.drew
      go_wp2_with fail
      refine (spec_l03BlockL s (P.extract (64 * k) (64 * k + 64)) _ HS.out).mono ?_
      rintro e w4 ⟨rfl, y2⟩
      have y3 : Ext wr w4 := Old.ext (Old.undrew (Old.of y2))
      have lz2 := y3.size
      have a2 := A.out.ext y3
      have hk2 := HK.out.ext y3
      generalize shaB (P.extract (64 * k) (64 * k + 64)) s = u at *
      have r0 := a2.cell 0 (by rw [st_len]; omega)
      have r1 := a2.cell 1 (by rw [st_len]; omega)
      have r2 := a2.cell 2 (by rw [st_len]; omega)
      have r3 := a2.cell 3 (by rw [st_len]; omega)
      have r4 := a2.cell 4 (by rw [st_len]; omega)
      have r5 := a2.cell 5 (by rw [st_len]; omega)
      have r6 := a2.cell 6 (by rw [st_len]; omega)
      have r7 := a2.cell 7 (by rw [st_len]; omega)
      have f0 := a2.free 0 (by rw [st_len]; omega)
      have f1 := a2.free 1 (by rw [st_len]; omega)
      have f2 := a2.free 2 (by rw [st_len]; omega)
      have f3 := a2.free 3 (by rw [st_len]; omega)
      have f4 := a2.free 4 (by rw [st_len]; omega)
      have f5 := a2.free 5 (by rw [st_len]; omega)
      have f6 := a2.free 6 (by rw [st_len]; omega)
      have f7 := a2.free 7 (by rw [st_len]; omega)
      simp only [St.list, List.getD_cons_zero, List.getD_cons_succ] at r0 r1 r2 r3 r4 r5 r6 r7
      have B := Lib.hid a2
      have BK := Lib.hid hk2
      clear a2 hk2 v0 v1 v2 v3 v4 v5 v6 v7 y2 A HK hkl
      go_wp2
      go_roundw
      case rel =>
        refine ⟨k + 1, by omega, by go_num, ?_, ?_, ?_⟩
        · have hxo : Ext w (oct w4 w1.heap.size (.int .u32 u.a.i) (.int .u32 u.b.i) (.int .u32 u.c.i) (.int .u32 u.d.i) (.int .u32 u.e.i) (.int .u32 u.f.i) (.int .u32 u.g.i) (.int .u32 u.h.i)) := by
            unfold oct
            exact (by repeat (first | (with_reducible first | exact Ext.refl _ | assumption | apply Ext.alloc | apply Ext.drew | apply Ext.drewN | refine Ext.setCell ?_ ?_ _ | refine Ext.trans ?_ (by assumption)) | (show _ ≤ _; first | omega | (dsimp only; omega) | (simp; done) | (simp; omega))))
          exact hxo
        · rw [HS1.out]
          exact oct_put (t := s) u B.out
        · exact KeysAt.oct BK.out (by omega)
      case measure => simp [intOf]; omega
    · obtain rfl : k = N := by omega
      have hq0 : ¬ (64 * (k : Int) < P.size) := by have := HN.out; omega
      generalize shaN P k = s at *
      have A := Lib.hid a
      clear a hkeys
      go_wp2_with (at_make; refine wpList_make_full _ rfl _ _ 22 rfl wr.heap.size 5 i0 _ 1 Tryd.underlying22 hi hz0 hz1 _ _ _ _ 32 rfl rfl rfl rfl (by rw [hz2]; omega) (by unfold maxLen; omega) (Nat.le_refl _) ?_; intro w5 hown1 hgrow1)
      have hx5 : Ext wr w5 := (Ext.refl wr).grown hgrow1 (by simp)
      have o0 : w5.ownsRow wr.heap.size 5 1 (.slice (some ⟨wr.heap.size, 0, none⟩) 32 32) 32 (digL s 0) := by
        rw [show (digL s 0) = (madeCells (Value.int .u8 0).cells (32 * 1)).toList by rw [show (Value.int .u8 0).cells = #[.int .u8 0] from rfl, toList_madeCells_one]; rfl]
        exact hown1
      have AR := Lib.hid (A.out.ext hx5)
      have lA := A.out.1
      have lw5 : w.heap.size ≤ wr.heap.size := hx.size
      have hx6 := hx.trans hx5
      have O0 := Lib.hid o0
      obtain ⟨B5, hB5⟩ : ∃ B5, wr.heap.size = B5 := ⟨_, rfl⟩
      rw [hB5] at O0 lA lw5 ⊢
      clear hown1 hgrow1 hx5 o0 hB5 A hx
      go_wp2
      go_loopw [8] (fun i wr => ∃ j : Nat, j ≤ 8 ∧ i = .int .i64 j ∧ wr.ownsRow B5 5 1 (.slice (some ⟨B5, 0, none⟩) 32 32) 32 (digL s j) ∧ Arr wr w1.heap.size s.list ∧ Ext w wr) (fun i _ => 8 - (intOf i).toNat)
      case atStart => exact ⟨0, by omega, rfl, O0.out, AR.out, hx6⟩
      case round =>
        clear O0 AR hx6
        rename_i wrr0 wrr
        obtain ⟨j, hj, rfl, own, a, hx⟩ := hrel
        by_cases hlt2 : j < 8
        · have v0 := a.cell 0 (by rw [st_len]; omega)
          have v1 := a.cell 1 (by rw [st_len]; omega)
          have v2 := a.cell 2 (by rw [st_len]; omega)
          have v3 := a.cell 3 (by rw [st_len]; omega)
          have v4 := a.cell 4 (by rw [st_len]; omega)
          have v5 := a.cell 5 (by rw [st_len]; omega)
          have v6 := a.cell 6 (by rw [st_len]; omega)
          have v7 := a.cell 7 (by rw [st_len]; omega)
          simp only [St.list, List.getD_cons_zero, List.getD_cons_succ] at v0 v1 v2 v3 v4 v5 v6 v7
          have AR := Lib.hid a
          clear a
          rcases lt8 hlt2 with rfl | rfl | rfl | rfl | rfl | rfl | rfl | rfl
          · have c0 := own.cellAt 0 (by decide)
            have c1 := own.cellAt 1 (by decide)
            have c2 := own.cellAt 2 (by decide)
            have c3 := own.cellAt 3 (by decide)
            have d0 := own.frozenAt 0
            have d1 := own.frozenAt 1
            have d2 := own.frozenAt 2
            have d3 := own.frozenAt 3
            have O := Lib.hid own
            clear own
            go_wp2
            go_roundw
            case rel =>
              refine ⟨1, by omega, rfl, ?_, (((AR.out.other _ (by dsimp only; omega)).other _ (by dsimp only; omega)).other _ (by dsimp only; omega)).other _ (by dsimp only; omega), (by repeat (first | (with_reducible first | exact Ext.refl _ | assumption | apply Ext.alloc | apply Ext.drew | apply Ext.drewN | refine Ext.setCell ?_ ?_ _ | refine Ext.trans ?_ (by assumption)) | (show _ ≤ _; first | omega | (dsimp only; omega) | (simp; done) | (simp; omega))))⟩
              exact own4 0 (s.a.shr 24).byt (s.a.shr 16).byt (s.a.shr 8).byt s.a.byt O.out rfl
            case measure => simp [intOf]
          · have c0 := own.cellAt 4 (by decide)
            have c1 := own.cellAt 5 (by decide)
            have c2 := own.cellAt 6 (by decide)
            have c3 := own.cellAt 7 (by decide)
            have d0 := own.frozenAt 4
            have d1 := own.frozenAt 5
            have d2 := own.frozenAt 6
            have d3 := own.frozenAt 7
            have O := Lib.hid own
            clear own
            go_wp2
            go_roundw
            case rel =>
              refine ⟨2, by omega, rfl, ?_, (((AR.out.other _ (by dsimp only; omega)).other _ (by dsimp only; omega)).other _ (by dsimp only; omega)).other _ (by dsimp only; omega), (by repeat (first | (with_reducible first | exact Ext.refl _ | assumption | apply Ext.alloc | apply Ext.drew | apply Ext.drewN | refine Ext.setCell ?_ ?_ _ | refine Ext.trans ?_ (by assumption)) | (show _ ≤ _; first | omega | (dsimp only; omega) | (simp; done) | (simp; omega))))⟩
              exact own4 4 (s.b.shr 24).byt (s.b.shr 16).byt (s.b.shr 8).byt s.b.byt O.out rfl
            case measure => simp [intOf]
          · have c0 := own.cellAt 8 (by decide)
            have c1 := own.cellAt 9 (by decide)
            have c2 := own.cellAt 10 (by decide)
            have c3 := own.cellAt 11 (by decide)
            have d0 := own.frozenAt 8
            have d1 := own.frozenAt 9
            have d2 := own.frozenAt 10
            have d3 := own.frozenAt 11
            have O := Lib.hid own
            clear own
            go_wp2
            go_roundw
            case rel =>
              refine ⟨3, by omega, rfl, ?_, (((AR.out.other _ (by dsimp only; omega)).other _ (by dsimp only; omega)).other _ (by dsimp only; omega)).other _ (by dsimp only; omega), (by repeat (first | (with_reducible first | exact Ext.refl _ | assumption | apply Ext.alloc | apply Ext.drew | apply Ext.drewN | refine Ext.setCell ?_ ?_ _ | refine Ext.trans ?_ (by assumption)) | (show _ ≤ _; first | omega | (dsimp only; omega) | (simp; done) | (simp; omega))))⟩
              exact own4 8 (s.c.shr 24).byt (s.c.shr 16).byt (s.c.shr 8).byt s.c.byt O.out rfl
            case measure => simp [intOf]
          · have c0 := own.cellAt 12 (by decide)
            have c1 := own.cellAt 13 (by decide)
            have c2 := own.cellAt 14 (by decide)
            have c3 := own.cellAt 15 (by decide)
            have d0 := own.frozenAt 12
            have d1 := own.frozenAt 13
            have d2 := own.frozenAt 14
            have d3 := own.frozenAt 15
            have O := Lib.hid own
            clear own
            go_wp2
            go_roundw
            case rel =>
              refine ⟨4, by omega, rfl, ?_, (((AR.out.other _ (by dsimp only; omega)).other _ (by dsimp only; omega)).other _ (by dsimp only; omega)).other _ (by dsimp only; omega), (by repeat (first | (with_reducible first | exact Ext.refl _ | assumption | apply Ext.alloc | apply Ext.drew | apply Ext.drewN | refine Ext.setCell ?_ ?_ _ | refine Ext.trans ?_ (by assumption)) | (show _ ≤ _; first | omega | (dsimp only; omega) | (simp; done) | (simp; omega))))⟩
              exact own4 12 (s.d.shr 24).byt (s.d.shr 16).byt (s.d.shr 8).byt s.d.byt O.out rfl
            case measure => simp [intOf]
          · have c0 := own.cellAt 16 (by decide)
            have c1 := own.cellAt 17 (by decide)
            have c2 := own.cellAt 18 (by decide)
            have c3 := own.cellAt 19 (by decide)
            have d0 := own.frozenAt 16
            have d1 := own.frozenAt 17
            have d2 := own.frozenAt 18
            have d3 := own.frozenAt 19
            have O := Lib.hid own
            clear own
            go_wp2
            go_roundw
            case rel =>
              refine ⟨5, by omega, rfl, ?_, (((AR.out.other _ (by dsimp only; omega)).other _ (by dsimp only; omega)).other _ (by dsimp only; omega)).other _ (by dsimp only; omega), (by repeat (first | (with_reducible first | exact Ext.refl _ | assumption | apply Ext.alloc | apply Ext.drew | apply Ext.drewN | refine Ext.setCell ?_ ?_ _ | refine Ext.trans ?_ (by assumption)) | (show _ ≤ _; first | omega | (dsimp only; omega) | (simp; done) | (simp; omega))))⟩
              exact own4 16 (s.e.shr 24).byt (s.e.shr 16).byt (s.e.shr 8).byt s.e.byt O.out rfl
            case measure => simp [intOf]
          · have c0 := own.cellAt 20 (by decide)
            have c1 := own.cellAt 21 (by decide)
            have c2 := own.cellAt 22 (by decide)
            have c3 := own.cellAt 23 (by decide)
            have d0 := own.frozenAt 20
            have d1 := own.frozenAt 21
            have d2 := own.frozenAt 22
            have d3 := own.frozenAt 23
            have O := Lib.hid own
            clear own
            go_wp2
            go_roundw
            case rel =>
              refine ⟨6, by omega, rfl, ?_, (((AR.out.other _ (by dsimp only; omega)).other _ (by dsimp only; omega)).other _ (by dsimp only; omega)).other _ (by dsimp only; omega), (by repeat (first | (with_reducible first | exact Ext.refl _ | assumption | apply Ext.alloc | apply Ext.drew | apply Ext.drewN | refine Ext.setCell ?_ ?_ _ | refine Ext.trans ?_ (by assumption)) | (show _ ≤ _; first | omega | (dsimp only; omega) | (simp; done) | (simp; omega))))⟩
              exact own4 20 (s.f.shr 24).byt (s.f.shr 16).byt (s.f.shr 8).byt s.f.byt O.out rfl
            case measure => simp [intOf]
          · have c0 := own.cellAt 24 (by decide)
            have c1 := own.cellAt 25 (by decide)
            have c2 := own.cellAt 26 (by decide)
            have c3 := own.cellAt 27 (by decide)
            have d0 := own.frozenAt 24
            have d1 := own.frozenAt 25
            have d2 := own.frozenAt 26
            have d3 := own.frozenAt 27
            have O := Lib.hid own
            clear own
            go_wp2
            go_roundw
            case rel =>
              refine ⟨7, by omega, rfl, ?_, (((AR.out.other _ (by dsimp only; omega)).other _ (by dsimp only; omega)).other _ (by dsimp only; omega)).other _ (by dsimp only; omega), (by repeat (first | (with_reducible first | exact Ext.refl _ | assumption | apply Ext.alloc | apply Ext.drew | apply Ext.drewN | refine Ext.setCell ?_ ?_ _ | refine Ext.trans ?_ (by assumption)) | (show _ ≤ _; first | omega | (dsimp only; omega) | (simp; done) | (simp; omega))))⟩
              exact own4 24 (s.g.shr 24).byt (s.g.shr 16).byt (s.g.shr 8).byt s.g.byt O.out rfl
            case measure => simp [intOf]
          · have c0 := own.cellAt 28 (by decide)
            have c1 := own.cellAt 29 (by decide)
            have c2 := own.cellAt 30 (by decide)
            have c3 := own.cellAt 31 (by decide)
            have d0 := own.frozenAt 28
            have d1 := own.frozenAt 29
            have d2 := own.frozenAt 30
            have d3 := own.frozenAt 31
            have O := Lib.hid own
            clear own
            go_wp2
            go_roundw
            case rel =>
              refine ⟨8, by omega, rfl, ?_, (((AR.out.other _ (by dsimp only; omega)).other _ (by dsimp only; omega)).other _ (by dsimp only; omega)).other _ (by dsimp only; omega), (by repeat (first | (with_reducible first | exact Ext.refl _ | assumption | apply Ext.alloc | apply Ext.drew | apply Ext.drewN | refine Ext.setCell ?_ ?_ _ | refine Ext.trans ?_ (by assumption)) | (show _ ≤ _; first | omega | (dsimp only; omega) | (simp; done) | (simp; omega))))⟩
              exact own4 28 (s.h.shr 24).byt (s.h.shr 16).byt (s.h.shr 8).byt s.h.byt O.out rfl
            case measure => simp [intOf]
        · obtain rfl : j = 8 := by omega
          have hcv := conv_own (ys := s.nums) own
          clear own a
          go_wp2
          go_ret
          exact ⟨ret_str R.out.symm, hx⟩
end Go.Proofs.YtckipgijfgeghaaDoor
