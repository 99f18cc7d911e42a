/- Cp3, Ovr, ChnA. -/
import Derived.Test.YtkphipgfcbckcaaGreatDoorK5
import Derived.Deep.RegionHeld3
namespace Go.Proofs.YtkphipgfcbckcaaGreatDoor
open Go.RowKit

theorem strs_one3 (xs : List ByteArray) : ∀ u ∈ xs.map Value.string, u.oneCell' = true := by
  intro u hu
  rw [List.mem_map] at hu
  obtain ⟨s, -, rfl⟩ := hu
  rfl
theorem sigOwn_nilA (w : World) (base : Nat) (t : Int) : SigOwn w base (.slice none 0 0) (.slice none 0 0) (.slice none 0 0) ⟨t, [], [], []⟩ := ⟨World.ownsRow_nil _ _ _ _, World.ownsRow_nil _ _ _ _, World.ownsRow_nil _ _ _ _, off_nil _, off_nil _, off_nil _⟩
theorem off_symm3 {v r : Value} (h : Off v r) : Off r v := fun g h1 h2 => h g h2 h1
theorem off_lit {H b : Nat} {r : Value} (h : ∀ g, r.ownBlock = some g → b ≤ g ∧ g < H) : Off (.slice (some ⟨H, 0, none⟩) 0 0) r := fun g hg hr => by
  have h1 : some H = some g := hg
  injection h1 with h1
  have := (h g hr).2
  omega
/-- what holds on the way: the argument's box, the result's, and the three slices as they are by now -/
def Cpy (w V : World) (p1 p2 p3 p4 v1 v2 v3 : Value) (s : SigV) : Prop := Bx V w.heap.size [p1, p2, p3, p4] ∧ Bx V (w.heap.size + 1) [.int .i64 0, .slice none 0 0, .slice none 0 0, .slice none 0 0] ∧ Ext w V ∧ w.heap.size + 2 ≤ V.heap.size ∧ SigOwn V (w.heap.size + 2) v1 v2 v3 s
theorem Cpy.held {w V : World} {p1 p2 p3 p4 v1 v2 v3 : Value} {s : SigV} (h : Cpy w V p1 p2 p3 p4 v1 v2 v3 s) : V.cell? ⟨w.heap.size, 0, none⟩ = some p1 ∧ V.cell? ⟨w.heap.size, 1, none⟩ = some p2 ∧ V.cell? ⟨w.heap.size, 2, none⟩ = some p3 ∧ V.cell? ⟨w.heap.size, 3, none⟩ = some p4 := ⟨h.1.2.1 0 _ rfl, h.1.2.1 1 _ rfl, h.1.2.1 2 _ rfl, h.1.2.1 3 _ rfl⟩
theorem cpy_lit1 {w V : World} {p1 p2 p3 p4 v1 v2 v3 : Value} {t : Int} {y z : List ByteArray} (h : Cpy w V p1 p2 p3 p4 v1 v2 v3 ⟨t, [], y, z⟩) : Cpy w (V.alloc (Obj.cells #[] 9)) p1 p2 p3 p4 (.slice (some ⟨V.heap.size, 0, none⟩) 0 0) v2 v3 ⟨t, [], y, z⟩ := by
  obtain ⟨P, R, X, le, o1, o2, o3, f12, f13, f23⟩ := h
  have e : Ext V (V.alloc (Obj.cells #[] 9)) := (Ext.refl _).alloc _
  have n := World.ownsRow_lit (base := w.heap.size + 2) (e := 9) (size := 1) V #[] 0 le (Nat.zero_le _) rfl
  exact ⟨P.ext e, R.ext e, X.trans e, Nat.le_trans le e.size, n, o2.ext e, o3.ext e, off_lit (own_lt o2), off_lit (own_lt o3), f23⟩
theorem cpy_app1 {w V V' : World} {p1 p2 p3 p4 v1 v2 v3 u : Value} {t : Int} {y z q : List ByteArray} (h : Cpy w V p1 p2 p3 p4 v1 v2 v3 ⟨t, [], y, z⟩) (ho : OwnStrs V' (w.heap.size + 2) u q) (hg : V.grownBy V' v1.ownBlock) (hat : u.ownBlock = v1.ownBlock ∨ u.ownBlock = some V.heap.size) : Cpy w V' p1 p2 p3 p4 u v2 v3 ⟨t, q, y, z⟩ := by
  obtain ⟨P, R, X, le, o1, o2, o3, f12, f13, f23⟩ := h
  exact ⟨P.grown hg (fun e => by have := (own_lt o1 _ e).1; omega), R.grown hg (fun e => by have := (own_lt o1 _ e).1; omega), own_ext_of X o1 hg (by omega), Nat.le_trans le hg.size, ho, own_grown2 o2 hg (fun k hk => f12 k hk), own_grown2 o3 hg (fun k hk => f13 k hk), off_next f12 hat (fun g hg2 => (own_lt o2 g hg2).2), off_next f13 hat (fun g hg2 => (own_lt o3 g hg2).2), f23⟩
theorem cpy_lit2 {w V : World} {p1 p2 p3 p4 v1 v2 v3 : Value} {t : Int} {x z : List ByteArray} (h : Cpy w V p1 p2 p3 p4 v1 v2 v3 ⟨t, x, [], z⟩) : Cpy w (V.alloc (Obj.cells #[] 9)) p1 p2 p3 p4 v1 (.slice (some ⟨V.heap.size, 0, none⟩) 0 0) v3 ⟨t, x, [], z⟩ := by
  obtain ⟨P, R, X, le, o1, o2, o3, f12, f13, f23⟩ := h
  have e : Ext V (V.alloc (Obj.cells #[] 9)) := (Ext.refl _).alloc _
  have n := World.ownsRow_lit (base := w.heap.size + 2) (e := 9) (size := 1) V #[] 0 le (Nat.zero_le _) rfl
  exact ⟨P.ext e, R.ext e, X.trans e, Nat.le_trans le e.size, o1.ext e, n, o3.ext e, off_symm3 (off_lit (own_lt o1)), f13, off_lit (own_lt o3)⟩
theorem cpy_app2 {w V V' : World} {p1 p2 p3 p4 v1 v2 v3 u : Value} {t : Int} {x z q : List ByteArray} (h : Cpy w V p1 p2 p3 p4 v1 v2 v3 ⟨t, x, [], z⟩) (ho : OwnStrs V' (w.heap.size + 2) u q) (hg : V.grownBy V' v2.ownBlock) (hat : u.ownBlock = v2.ownBlock ∨ u.ownBlock = some V.heap.size) : Cpy w V' p1 p2 p3 p4 v1 u v3 ⟨t, x, q, z⟩ := by
  obtain ⟨P, R, X, le, o1, o2, o3, f12, f13, f23⟩ := h
  exact ⟨P.grown hg (fun e => by have := (own_lt o2 _ e).1; omega), R.grown hg (fun e => by have := (own_lt o2 _ e).1; omega), own_ext_of X o2 hg (by omega), Nat.le_trans le hg.size, own_grown2 o1 hg (fun k hk => (off_symm3 f12) k hk), ho, own_grown2 o3 hg (fun k hk => f23 k hk), off_symm3 (off_next (off_symm3 f12) hat (fun g hg2 => (own_lt o1 g hg2).2)), f13, off_next f23 hat (fun g hg2 => (own_lt o3 g hg2).2)⟩
theorem cpy_lit3 {w V : World} {p1 p2 p3 p4 v1 v2 v3 : Value} {t : Int} {x y : List ByteArray} (h : Cpy w V p1 p2 p3 p4 v1 v2 v3 ⟨t, x, y, []⟩) : Cpy w (V.alloc (Obj.cells #[] 9)) p1 p2 p3 p4 v1 v2 (.slice (some ⟨V.heap.size, 0, none⟩) 0 0) ⟨t, x, y, []⟩ := by
  obtain ⟨P, R, X, le, o1, o2, o3, f12, f13, f23⟩ := h
  have e : Ext V (V.alloc (Obj.cells #[] 9)) := (Ext.refl _).alloc _
  have n := World.ownsRow_lit (base := w.heap.size + 2) (e := 9) (size := 1) V #[] 0 le (Nat.zero_le _) rfl
  exact ⟨P.ext e, R.ext e, X.trans e, Nat.le_trans le e.size, o1.ext e, o2.ext e, n, f12, off_symm3 (off_lit (own_lt o1)), off_symm3 (off_lit (own_lt o2))⟩
theorem cpy_app3 {w V V' : World} {p1 p2 p3 p4 v1 v2 v3 u : Value} {t : Int} {x y q : List ByteArray} (h : Cpy w V p1 p2 p3 p4 v1 v2 v3 ⟨t, x, y, []⟩) (ho : OwnStrs V' (w.heap.size + 2) u q) (hg : V.grownBy V' v3.ownBlock) (hat : u.ownBlock = v3.ownBlock ∨ u.ownBlock = some V.heap.size) : Cpy w V' p1 p2 p3 p4 v1 v2 u ⟨t, x, y, q⟩ := by
  obtain ⟨P, R, X, le, o1, o2, o3, f12, f13, f23⟩ := h
  exact ⟨P.grown hg (fun e => by have := (own_lt o3 _ e).1; omega), R.grown hg (fun e => by have := (own_lt o3 _ e).1; omega), own_ext_of X o3 hg (by omega), Nat.le_trans le hg.size, own_grown2 o1 hg (fun k hk => (off_symm3 f13) k hk), own_grown2 o2 hg (fun k hk => (off_symm3 f23) k hk), ho, f12, off_symm3 (off_next (off_symm3 f13) hat (fun g hg2 => (own_lt o1 g hg2).2)), off_symm3 (off_next (off_symm3 f23) hat (fun g hg2 => (own_lt o2 g hg2).2))⟩
theorem cpy_row1 {w V : World} {p1 p2 p3 p4 v1 v2 v3 : Value} {t : Int} {y z : List ByteArray} (h : Cpy w V p1 p2 p3 p4 v1 v2 v3 ⟨t, [], y, z⟩) : V.ownsRow (w.heap.size + 2) 9 1 v1 0 [] := h.2.2.2.2.1
theorem cpy_row2 {w V : World} {p1 p2 p3 p4 v1 v2 v3 : Value} {t : Int} {x z : List ByteArray} (h : Cpy w V p1 p2 p3 p4 v1 v2 v3 ⟨t, x, [], z⟩) : V.ownsRow (w.heap.size + 2) 9 1 v2 0 [] := h.2.2.2.2.2.1
theorem cpy_row3 {w V : World} {p1 p2 p3 p4 v1 v2 v3 : Value} {t : Int} {x y : List ByteArray} (h : Cpy w V p1 p2 p3 p4 v1 v2 v3 ⟨t, x, y, []⟩) : V.ownsRow (w.heap.size + 2) 9 1 v3 0 [] := h.2.2.2.2.2.2.1
theorem cpy_le {w V : World} {p1 p2 p3 p4 v1 v2 v3 : Value} {s : SigV} (h : Cpy w V p1 p2 p3 p4 v1 v2 v3 s) : w.heap.size + 2 ≤ V.heap.size := h.2.2.2.1
theorem cpy_ext {w V : World} {p1 p2 p3 p4 v1 v2 v3 : Value} {s : SigV} (h : Cpy w V p1 p2 p3 p4 v1 v2 v3 s) : Ext w V := h.2.2.1
theorem cpy_fin {w V : World} {p1 p2 p3 p4 v1 v2 v3 : Value} {s : SigV} (h : Cpy w V p1 p2 p3 p4 v1 v2 v3 s) : Bx ((((V.setCell ⟨w.heap.size + 1, 0, none⟩ p1).setCell ⟨w.heap.size + 1, 1, none⟩ v1).setCell ⟨w.heap.size + 1, 2, none⟩ v2).setCell ⟨w.heap.size + 1, 3, none⟩ v3) (w.heap.size + 1) [p1, v1, v2, v3] ∧ Bx ((((V.setCell ⟨w.heap.size + 1, 0, none⟩ p1).setCell ⟨w.heap.size + 1, 1, none⟩ v1).setCell ⟨w.heap.size + 1, 2, none⟩ v2).setCell ⟨w.heap.size + 1, 3, none⟩ v3) w.heap.size [p1, p2, p3, p4] ∧ SigOwn ((((V.setCell ⟨w.heap.size + 1, 0, none⟩ p1).setCell ⟨w.heap.size + 1, 1, none⟩ v1).setCell ⟨w.heap.size + 1, 2, none⟩ v2).setCell ⟨w.heap.size + 1, 3, none⟩ v3) w.heap.size v1 v2 v3 s ∧ Ext w ((((V.setCell ⟨w.heap.size + 1, 0, none⟩ p1).setCell ⟨w.heap.size + 1, 1, none⟩ v1).setCell ⟨w.heap.size + 1, 2, none⟩ v2).setCell ⟨w.heap.size + 1, 3, none⟩ v3) := by
  obtain ⟨P, R, X, le, o1, o2, o3, f12, f13, f23⟩ := h
  exact ⟨((((R.set 0 p1 (by simp)).set 1 v1 (by simp)).set 2 v2 (by simp)).set 3 v3 (by simp)), ((((P.far (c := w.heap.size + 1) (by omega) 0 p1).far (c := w.heap.size + 1) (by omega) 1 v1).far (c := w.heap.size + 1) (by omega) 2 v2).far (c := w.heap.size + 1) (by omega) 3 v3), ⟨own_mono (own_below (own_below (own_below (own_below o1 (p := ⟨w.heap.size + 1, 0, none⟩) (u := p1) (by dsimp only; omega)) (p := ⟨w.heap.size + 1, 1, none⟩) (u := v1) (by dsimp only; omega)) (p := ⟨w.heap.size + 1, 2, none⟩) (u := v2) (by dsimp only; omega)) (p := ⟨w.heap.size + 1, 3, none⟩) (u := v3) (by dsimp only; omega)) (by omega), own_mono (own_below (own_below (own_below (own_below o2 (p := ⟨w.heap.size + 1, 0, none⟩) (u := p1) (by dsimp only; omega)) (p := ⟨w.heap.size + 1, 1, none⟩) (u := v1) (by dsimp only; omega)) (p := ⟨w.heap.size + 1, 2, none⟩) (u := v2) (by dsimp only; omega)) (p := ⟨w.heap.size + 1, 3, none⟩) (u := v3) (by dsimp only; omega)) (by omega), own_mono (own_below (own_below (own_below (own_below o3 (p := ⟨w.heap.size + 1, 0, none⟩) (u := p1) (by dsimp only; omega)) (p := ⟨w.heap.size + 1, 1, none⟩) (u := v1) (by dsimp only; omega)) (p := ⟨w.heap.size + 1, 2, none⟩) (u := v2) (by dsimp only; omega)) (p := ⟨w.heap.size + 1, 3, none⟩) (u := v3) (by dsimp only; omega)) (by omega), f12, f13, f23⟩, ((((X.setCell (p := ⟨w.heap.size + 1, 0, none⟩) (by dsimp only; omega) p1).setCell (p := ⟨w.heap.size + 1, 1, none⟩) (by dsimp only; omega) v1).setCell (p := ⟨w.heap.size + 1, 2, none⟩) (by dsimp only; omega) v2).setCell (p := ⟨w.heap.size + 1, 3, none⟩) (by dsimp only; omega) v3)⟩
set_option maxRecDepth 100000 in
set_option maxHeartbeats 12800000 in
theorem spec_l05Copy (v1 v2 v3 : Value) (s : SigV) (w : World) (h1 : Strs w v1 s.op) (h2 : Strs w v2 s.sh) (h3 : Strs w v3 s.si) (k1 : Solid v1) (k2 : Solid v2) (k3 : Solid v3) (n1 : s.op.length ≤ 1000) (n2 : s.sh.length ≤ 1000) (n3 : s.si.length ≤ 1000) :
    Calls Tryz.prog 89 #[.agg #[.int .i64 s.at_, v1, v2, v3]] w fun e w' => ∃ a1 c1 a2 c2 a3 c3, e = .returned (.agg #[.int .i64 s.at_, .slice a1 s.op.length c1, .slice a2 s.sh.length c2, .slice a3 s.si.length c3]) ∧ SigOwn w' w.heap.size (.slice a1 s.op.length c1) (.slice a2 s.sh.length c2) (.slice a3 s.si.length c3) s ∧ Ext w w' := by
  obtain ⟨i0, hi, hz0, hz1, hz2⟩ := info_parts infoString
  have HA := Lib.hid h1
  have HB := Lib.hid h2
  have HC := Lib.hid h3
  have SA := Lib.hid k1
  have SB := Lib.hid k2
  have SC := Lib.hid k3
  obtain ⟨a0, c0, rfl⟩ := h1.form
  obtain ⟨b0, d0, rfl⟩ := h2.form
  obtain ⟨g0, h0, rfl⟩ := h3.form
  clear h1 h2 h3 k1 k2 k3
  go_enter Tryz.func89, Tryz.ntmps89
  go_wp2_with fail
  have P : Bx ((w.alloc (Obj.cells #[.int .i64 s.at_, .slice a0 s.op.length c0, .slice b0 s.sh.length d0, .slice g0 s.si.length h0] 30)).alloc (Obj.cells #[.int .i64 0, .slice none 0 0, .slice none 0 0, .slice none 0 0] 30)).drew w.heap.size [.int .i64 s.at_, .slice a0 s.op.length c0, .slice b0 s.sh.length d0, .slice g0 s.si.length h0] := ((Bx.new w _ _).ext ((Ext.refl _).alloc _)).ext ((Ext.refl _).drew)
  have R : Bx ((w.alloc (Obj.cells #[.int .i64 s.at_, .slice a0 s.op.length c0, .slice b0 s.sh.length d0, .slice g0 s.si.length h0] 30)).alloc (Obj.cells #[.int .i64 0, .slice none 0 0, .slice none 0 0, .slice none 0 0] 30)).drew (w.heap.size + 1) [.int .i64 0, .slice none 0 0, .slice none 0 0, .slice none 0 0] := by
    have e := (Bx.new (w.alloc (Obj.cells #[.int .i64 s.at_, .slice a0 s.op.length c0, .slice b0 s.sh.length d0, .slice g0 s.si.length h0] 30)) #[.int .i64 0, .slice none 0 0, .slice none 0 0, .slice none 0 0] 30).ext ((Ext.refl _).drew)
    rw [World.size_alloc] at e
    exact e
  have X : Ext w ((w.alloc (Obj.cells #[.int .i64 s.at_, .slice a0 s.op.length c0, .slice b0 s.sh.length d0, .slice g0 s.si.length h0] 30)).alloc (Obj.cells #[.int .i64 0, .slice none 0 0, .slice none 0 0, .slice none 0 0] 30)).drew := (((Ext.refl w).alloc _).alloc _).drew
  have l0 : w.heap.size + 2 ≤ ((w.alloc (Obj.cells #[.int .i64 s.at_, .slice a0 s.op.length c0, .slice b0 s.sh.length d0, .slice g0 s.si.length h0] 30)).alloc (Obj.cells #[.int .i64 0, .slice none 0 0, .slice none 0 0, .slice none 0 0] 30)).drew.heap.size := by show _ ≤ ((w.alloc _).alloc _).heap.size; rw [World.size_alloc, World.size_alloc]; omega
  have I0 : Cpy w ((w.alloc (Obj.cells #[.int .i64 s.at_, .slice a0 s.op.length c0, .slice b0 s.sh.length d0, .slice g0 s.si.length h0] 30)).alloc (Obj.cells #[.int .i64 0, .slice none 0 0, .slice none 0 0, .slice none 0 0] 30)).drew (.int .i64 s.at_) (.slice a0 s.op.length c0) (.slice b0 s.sh.length d0) (.slice g0 s.si.length h0) (.slice none 0 0) (.slice none 0 0) (.slice none 0 0) ⟨s.at_, [], [], []⟩ := ⟨P, R, X, l0, sigOwn_nilA _ _ _⟩
  clear P R X l0
  refine wp_region_held_drew (S := fun W => W.cell? ⟨w.heap.size, 0, none⟩ = some (.int .i64 s.at_) ∧ W.cell? ⟨w.heap.size, 1, none⟩ = some (.slice a0 s.op.length c0) ∧ W.cell? ⟨w.heap.size, 2, none⟩ = some (.slice b0 s.sh.length d0) ∧ W.cell? ⟨w.heap.size, 3, none⟩ = some (.slice g0 s.si.length h0)) (by kernel_rfl) (by exact I0.held) (fun hHeld => ?_)
  generalize ((w.alloc (Obj.cells #[.int .i64 s.at_, .slice a0 s.op.length c0, .slice b0 s.sh.length d0, .slice g0 s.si.length h0] 30)).alloc (Obj.cells #[.int .i64 0, .slice none 0 0, .slice none 0 0, .slice none 0 0] 30)).drew = V0 at *
  (refine wpAnyH_take (i := 0) (v := ?_) rfl (by kernel_rfl) (by kernel_rfl) (by kernel_rfl) (fun _ _ _ h => h) (Or.inl ⟨by rfl, ?_⟩) (by assumption) ?_; rotate_left; focus (intro w hSw; (try dsimp only at hSw); (try simp only [zk1, zk2]); go_simp; try with_reducible rfl)); (try simp only [zk1, zk2]); (try simp only [Act.put, zk4, zk5, zk6])
  (refine wpAnyH_take (i := 1) (v := ?_) rfl (by kernel_rfl) (by kernel_rfl) (by kernel_rfl) (fun _ _ _ h => h) (Or.inl ⟨by rfl, ?_⟩) (by assumption) ?_; rotate_left; focus (intro w hSw; (try dsimp only at hSw); (try simp only [zk1, zk2, zk3]); go_simp; try with_reducible rfl)); (try simp only [zk1, zk2, zk3]); (try simp only [Act.put, zk4, zk5, zk6])
  (refine wpAnyH_take (i := 3) (v := ?_) rfl (by kernel_rfl) (by kernel_rfl) (by kernel_rfl) (fun _ _ _ h => h) (Or.inl ⟨by rfl, ?_⟩) (by assumption) ?_; rotate_left; focus (intro w hSw; (try dsimp only at hSw); (try simp only [zk1, zk2, zk3]); go_simp; try with_reducible rfl)); (try simp only [zk1, zk2, zk3]); (try simp only [Act.put, zk4, zk5, zk6])
  (refine wpAnyH_take (i := 4) (v := ?_) rfl (by kernel_rfl) (by kernel_rfl) (by kernel_rfl) (fun _ _ _ h => h) (Or.inl ⟨by rfl, ?_⟩) (by assumption) ?_; rotate_left; focus (intro w hSw; (try dsimp only at hSw); (try simp only [zk1, zk2, zk3]); go_simp; try with_reducible rfl)); (try simp only [zk1, zk2, zk3]); (try simp only [Act.put, zk4, zk5, zk6])
  (refine wpAnyH_take (i := 7) (v := ?_) rfl (by kernel_rfl) (by kernel_rfl) (by kernel_rfl) (fun _ _ _ h => h) (Or.inl ⟨by rfl, ?_⟩) (by assumption) ?_; rotate_left; focus (intro w hSw; (try dsimp only at hSw); (try simp only [zk1, zk2, zk3]); go_simp; try with_reducible rfl)); (try simp only [zk1, zk2, zk3]); (try simp only [Act.put, zk4, zk5, zk6])
  (refine wpAnyH_take (i := 8) (v := ?_) rfl (by kernel_rfl) (by kernel_rfl) (by kernel_rfl) (fun _ _ _ h => h) (Or.inl ⟨by rfl, ?_⟩) (by assumption) ?_; rotate_left; focus (intro w hSw; (try dsimp only at hSw); (try simp only [zk1, zk2, zk3]); go_simp; try with_reducible rfl)); (try simp only [zk1, zk2, zk3]); (try simp only [Act.put, zk4, zk5, zk6])
  (refine wpAnyH_take (i := 11) (v := ?_) rfl (by kernel_rfl) (by kernel_rfl) (by kernel_rfl) (fun _ _ _ h => h) (Or.inl ⟨by rfl, ?_⟩) (by assumption) ?_; rotate_left; focus (intro w hSw; (try dsimp only at hSw); (try simp only [zk1, zk2, zk3]); go_simp; try with_reducible rfl)); (try simp only [zk1, zk2, zk3]); (try simp only [Act.put, zk4, zk5, zk6])
  (refine wpAnyH_take (i := 12) (v := ?_) rfl (by kernel_rfl) (by kernel_rfl) (by kernel_rfl) (fun _ _ _ h => h) (Or.inl ⟨by rfl, ?_⟩) (by assumption) ?_; rotate_left; focus (intro w hSw; (try dsimp only at hSw); (try simp only [zk1, zk2, zk3]); go_simp; try with_reducible rfl)); (try simp only [zk1, zk2, zk3]); (try simp only [Act.put, zk4, zk5, zk6])
  refine wpAnyH_ready (rs := [2, 6, 10]) (by kernel_rfl) (by simp) ?_
  refine AllReadyH.cons rfl (fun K hK => ?_) (AllReadyH.cons rfl (fun K hK => ?_) (AllReadyH.cons rfl (fun K hK => ?_) (AllReadyH.nil)))
  · (try simp only [zk1, zk2, zk3])
    go_simp
    have IV1 := cpy_lit1 I0
    generalize V0.alloc (Obj.cells #[] 9) = V1 at *
    (try dsimp only)
    refine hK.out _ _ (by exact IV1.held) (fun hHeld => ?_)
    clear hK K
    refine wpAnyH_ready (rs := [5, 6, 10]) (by kernel_rfl) (by simp) ?_
    refine AllReadyH.cons rfl (fun K hK => ?_) (AllReadyH.cons rfl (fun K hK => ?_) (AllReadyH.cons rfl (fun K hK => ?_) (AllReadyH.nil)))
    · refine step_append_any (.tmp 5) (.tmp 7) 24 (by rfl) (by rfl) (w.heap.size + 2) 9 i0 _ 1 16 Tryz.underlying24 hi hz0 hz1 hz2 rfl (by decide) _ _ _ (by rfl) (cpy_row1 IV1) _ s.op.length (s.op.map Value.string) (by rfl) (Strs.ext HA.out (cpy_ext IV1)) SA.out (strs_one3 _) (by unfold maxLen; omega) (by omega) (cpy_le IV1) ?_
      intro aV2 cV2 V2 OV2 gV2 atV2
      have IV2 := cpy_app1 (q := s.op) IV1 (by unfold OwnStrs; simpa only [List.length_nil, List.map_nil, Nat.zero_add, List.nil_append] using OV2) gV2 atV2
      simp only [Nat.zero_add] at IV2 ⊢
      clear OV2 gV2 atV2
      (try dsimp only)
      refine hK.out _ _ (by exact IV2.held) (fun hHeld => ?_)
      clear hK K
      refine wpAnyH_ready (rs := [6, 10]) (by kernel_rfl) (by simp) ?_
      refine AllReadyH.cons rfl (fun K hK => ?_) (AllReadyH.cons rfl (fun K hK => ?_) (AllReadyH.nil))
      · (try simp only [zk1, zk2, zk3])
        go_simp
        have IV3 := cpy_lit2 IV2
        generalize V2.alloc (Obj.cells #[] 9) = V3 at *
        (try dsimp only)
        refine hK.out _ _ (by exact IV3.held) (fun hHeld => ?_)
        clear hK K
        refine wpAnyH_ready (rs := [9, 10]) (by kernel_rfl) (by simp) ?_
        refine AllReadyH.cons rfl (fun K hK => ?_) (AllReadyH.cons rfl (fun K hK => ?_) (AllReadyH.nil))
        · refine step_append_any (.tmp 9) (.tmp 11) 24 (by rfl) (by rfl) (w.heap.size + 2) 9 i0 _ 1 16 Tryz.underlying24 hi hz0 hz1 hz2 rfl (by decide) _ _ _ (by rfl) (cpy_row2 IV3) _ s.sh.length (s.sh.map Value.string) (by rfl) (Strs.ext HB.out (cpy_ext IV3)) SB.out (strs_one3 _) (by unfold maxLen; omega) (by omega) (cpy_le IV3) ?_
          intro aV4 cV4 V4 OV4 gV4 atV4
          have IV4 := cpy_app2 (q := s.sh) IV3 (by unfold OwnStrs; simpa only [List.length_nil, List.map_nil, Nat.zero_add, List.nil_append] using OV4) gV4 atV4
          simp only [Nat.zero_add] at IV4 ⊢
          clear OV4 gV4 atV4
          (try dsimp only)
          refine hK.out _ _ (by exact IV4.held) (fun hHeld => ?_)
          clear hK K
          refine wpAnyH_ready (rs := [10]) (by kernel_rfl) (by simp) ?_
          refine AllReadyH.cons rfl (fun K hK => ?_) (AllReadyH.nil)
          (try simp only [zk1, zk2, zk3])
          go_simp
          have IV5 := cpy_lit3 IV4
          generalize V4.alloc (Obj.cells #[] 9) = V5 at *
          (try dsimp only)
          refine hK.out _ _ (by exact IV5.held) (fun hHeld => ?_)
          clear hK K
          refine wpAnyH_ready (rs := [13]) (by kernel_rfl) (by simp) ?_
          refine AllReadyH.cons rfl (fun K hK => ?_) (AllReadyH.nil)
          refine step_append_any (.tmp 13) (.tmp 15) 24 (by rfl) (by rfl) (w.heap.size + 2) 9 i0 _ 1 16 Tryz.underlying24 hi hz0 hz1 hz2 rfl (by decide) _ _ _ (by rfl) (cpy_row3 IV5) _ s.si.length (s.si.map Value.string) (by rfl) (Strs.ext HC.out (cpy_ext IV5)) SC.out (strs_one3 _) (by unfold maxLen; omega) (by omega) (cpy_le IV5) ?_
          intro aV6 cV6 V6 OV6 gV6 atV6
          have IV6 := cpy_app3 (q := s.si) IV5 (by unfold OwnStrs; simpa only [List.length_nil, List.map_nil, Nat.zero_add, List.nil_append] using OV6) gV6 atV6
          simp only [Nat.zero_add] at IV6 ⊢
          clear OV6 gV6 atV6
          (try dsimp only)
          refine hK.out _ _ (by exact IV6.held) (fun hHeld => ?_)
          clear hK K
          (refine wpAnyH_take (i := 14) (v := ?_) rfl (by kernel_rfl) (by kernel_rfl) (by kernel_rfl) (fun _ _ _ h => h) (Or.inl ⟨by rfl, ?_⟩) (by assumption) ?_; rotate_left; focus (intro w hSw; (try dsimp only at hSw); (try simp only [zk1, zk2, zk3]); go_simp; try with_reducible rfl)); (try simp only [zk1, zk2, zk3]); (try simp only [Act.put, zk4, zk5, zk6])
          obtain ⟨RR, PP, QQ, XF⟩ := cpy_fin IV6
          have r0 := IV6.2.1.2.1 0 _ rfl
          have r1 := IV6.2.1.2.1 1 _ rfl
          have r2 := IV6.2.1.2.1 2 _ rfl
          have r3 := IV6.2.1.2.1 3 _ rfl
          have f0 := IV6.2.1.2.2 0
          have f1 := IV6.2.1.2.2 1
          have f2 := IV6.2.1.2.2 2
          have f3 := IV6.2.1.2.2 3
          (refine wpAnyH_ready (rs := [15]) (by kernel_rfl) (by simp) ?_; refine AllReadyH.cons rfl (fun K hK => ?_) AllReadyH.nil; (try simp only [zk1, zk2, zk3]))
          go_simp
          generalize (((V6.setCell ⟨w.heap.size + 1, 0, none⟩ (.int .i64 s.at_)).setCell ⟨w.heap.size + 1, 1, none⟩ (.slice aV2 s.op.length cV2)).setCell ⟨w.heap.size + 1, 2, none⟩ (.slice aV4 s.sh.length cV4)).setCell ⟨w.heap.size + 1, 3, none⟩ (.slice aV6 s.si.length cV6) = WF at *
          (try dsimp only)
          refine hK.out _ _ (by exact ⟨PP.2.1 0 _ rfl, PP.2.1 1 _ rfl, PP.2.1 2 _ rfl, PP.2.1 3 _ rfl⟩) (fun hHeld => ?_)
          clear hK K
          refine wpAnyH_done (by kernel_rfl) ?_ _
          have k0 := RR.2.1 0 _ rfl
          have k1 := RR.2.1 1 _ rfl
          have k2 := RR.2.1 2 _ rfl
          have k3 := RR.2.1 3 _ rfl
          go_wp2
          refine bodyPost_ret (v := .agg #[.int .i64 s.at_, .slice aV2 s.op.length cV2, .slice aV4 s.sh.length cV4, .slice aV6 s.si.length cV6]) (by simp [results, Tryz.results89, go_sem, k0, k1, k2, k3]) rfl ⟨_, _, _, _, _, _, rfl, QQ, XF⟩
        · (try simp only [zk1, zk2, zk3])
          go_simp
          have IV7 := cpy_lit3 IV3
          generalize V3.alloc (Obj.cells #[] 9) = V7 at *
          (try dsimp only)
          refine hK.out _ _ (by exact IV7.held) (fun hHeld => ?_)
          clear hK K
          refine wpAnyH_ready (rs := [9]) (by kernel_rfl) (by simp) ?_
          refine AllReadyH.cons rfl (fun K hK => ?_) (AllReadyH.nil)
          refine step_append_any (.tmp 9) (.tmp 11) 24 (by rfl) (by rfl) (w.heap.size + 2) 9 i0 _ 1 16 Tryz.underlying24 hi hz0 hz1 hz2 rfl (by decide) _ _ _ (by rfl) (cpy_row2 IV7) _ s.sh.length (s.sh.map Value.string) (by rfl) (Strs.ext HB.out (cpy_ext IV7)) SB.out (strs_one3 _) (by unfold maxLen; omega) (by omega) (cpy_le IV7) ?_
          intro aV8 cV8 V8 OV8 gV8 atV8
          have IV8 := cpy_app2 (q := s.sh) IV7 (by unfold OwnStrs; simpa only [List.length_nil, List.map_nil, Nat.zero_add, List.nil_append] using OV8) gV8 atV8
          simp only [Nat.zero_add] at IV8 ⊢
          clear OV8 gV8 atV8
          (try dsimp only)
          refine hK.out _ _ (by exact IV8.held) (fun hHeld => ?_)
          clear hK K
          refine wpAnyH_ready (rs := [13]) (by kernel_rfl) (by simp) ?_
          refine AllReadyH.cons rfl (fun K hK => ?_) (AllReadyH.nil)
          refine step_append_any (.tmp 13) (.tmp 15) 24 (by rfl) (by rfl) (w.heap.size + 2) 9 i0 _ 1 16 Tryz.underlying24 hi hz0 hz1 hz2 rfl (by decide) _ _ _ (by rfl) (cpy_row3 IV8) _ s.si.length (s.si.map Value.string) (by rfl) (Strs.ext HC.out (cpy_ext IV8)) SC.out (strs_one3 _) (by unfold maxLen; omega) (by omega) (cpy_le IV8) ?_
          intro aV9 cV9 V9 OV9 gV9 atV9
          have IV9 := cpy_app3 (q := s.si) IV8 (by unfold OwnStrs; simpa only [List.length_nil, List.map_nil, Nat.zero_add, List.nil_append] using OV9) gV9 atV9
          simp only [Nat.zero_add] at IV9 ⊢
          clear OV9 gV9 atV9
          (try dsimp only)
          refine hK.out _ _ (by exact IV9.held) (fun hHeld => ?_)
          clear hK K
          (refine wpAnyH_take (i := 14) (v := ?_) rfl (by kernel_rfl) (by kernel_rfl) (by kernel_rfl) (fun _ _ _ h => h) (Or.inl ⟨by rfl, ?_⟩) (by assumption) ?_; rotate_left; focus (intro w hSw; (try dsimp only at hSw); (try simp only [zk1, zk2, zk3]); go_simp; try with_reducible rfl)); (try simp only [zk1, zk2, zk3]); (try simp only [Act.put, zk4, zk5, zk6])
          obtain ⟨RR, PP, QQ, XF⟩ := cpy_fin IV9
          have r0 := IV9.2.1.2.1 0 _ rfl
          have r1 := IV9.2.1.2.1 1 _ rfl
          have r2 := IV9.2.1.2.1 2 _ rfl
          have r3 := IV9.2.1.2.1 3 _ rfl
          have f0 := IV9.2.1.2.2 0
          have f1 := IV9.2.1.2.2 1
          have f2 := IV9.2.1.2.2 2
          have f3 := IV9.2.1.2.2 3
          (refine wpAnyH_ready (rs := [15]) (by kernel_rfl) (by simp) ?_; refine AllReadyH.cons rfl (fun K hK => ?_) AllReadyH.nil; (try simp only [zk1, zk2, zk3]))
          go_simp
          generalize (((V9.setCell ⟨w.heap.size + 1, 0, none⟩ (.int .i64 s.at_)).setCell ⟨w.heap.size + 1, 1, none⟩ (.slice aV2 s.op.length cV2)).setCell ⟨w.heap.size + 1, 2, none⟩ (.slice aV8 s.sh.length cV8)).setCell ⟨w.heap.size + 1, 3, none⟩ (.slice aV9 s.si.length cV9) = WF at *
          (try dsimp only)
          refine hK.out _ _ (by exact ⟨PP.2.1 0 _ rfl, PP.2.1 1 _ rfl, PP.2.1 2 _ rfl, PP.2.1 3 _ rfl⟩) (fun hHeld => ?_)
          clear hK K
          refine wpAnyH_done (by kernel_rfl) ?_ _
          have k0 := RR.2.1 0 _ rfl
          have k1 := RR.2.1 1 _ rfl
          have k2 := RR.2.1 2 _ rfl
          have k3 := RR.2.1 3 _ rfl
          go_wp2
          refine bodyPost_ret (v := .agg #[.int .i64 s.at_, .slice aV2 s.op.length cV2, .slice aV8 s.sh.length cV8, .slice aV9 s.si.length cV9]) (by simp [results, Tryz.results89, go_sem, k0, k1, k2, k3]) rfl ⟨_, _, _, _, _, _, rfl, QQ, XF⟩
      · (try simp only [zk1, zk2, zk3])
        go_simp
        have IV10 := cpy_lit3 IV2
        generalize V2.alloc (Obj.cells #[] 9) = V10 at *
        (try dsimp only)
        refine hK.out _ _ (by exact IV10.held) (fun hHeld => ?_)
        clear hK K
        refine wpAnyH_ready (rs := [6]) (by kernel_rfl) (by simp) ?_
        refine AllReadyH.cons rfl (fun K hK => ?_) (AllReadyH.nil)
        (try simp only [zk1, zk2, zk3])
        go_simp
        have IV11 := cpy_lit2 IV10
        generalize V10.alloc (Obj.cells #[] 9) = V11 at *
        (try dsimp only)
        refine hK.out _ _ (by exact IV11.held) (fun hHeld => ?_)
        clear hK K
        refine wpAnyH_ready (rs := [9]) (by kernel_rfl) (by simp) ?_
        refine AllReadyH.cons rfl (fun K hK => ?_) (AllReadyH.nil)
        refine step_append_any (.tmp 9) (.tmp 11) 24 (by rfl) (by rfl) (w.heap.size + 2) 9 i0 _ 1 16 Tryz.underlying24 hi hz0 hz1 hz2 rfl (by decide) _ _ _ (by rfl) (cpy_row2 IV11) _ s.sh.length (s.sh.map Value.string) (by rfl) (Strs.ext HB.out (cpy_ext IV11)) SB.out (strs_one3 _) (by unfold maxLen; omega) (by omega) (cpy_le IV11) ?_
        intro aV12 cV12 V12 OV12 gV12 atV12
        have IV12 := cpy_app2 (q := s.sh) IV11 (by unfold OwnStrs; simpa only [List.length_nil, List.map_nil, Nat.zero_add, List.nil_append] using OV12) gV12 atV12
        simp only [Nat.zero_add] at IV12 ⊢
        clear OV12 gV12 atV12
        (try dsimp only)
        refine hK.out _ _ (by exact IV12.held) (fun hHeld => ?_)
        clear hK K
        refine wpAnyH_ready (rs := [13]) (by kernel_rfl) (by simp) ?_
        refine AllReadyH.cons rfl (fun K hK => ?_) (AllReadyH.nil)
        refine step_append_any (.tmp 13) (.tmp 15) 24 (by rfl) (by rfl) (w.heap.size + 2) 9 i0 _ 1 16 Tryz.underlying24 hi hz0 hz1 hz2 rfl (by decide) _ _ _ (by rfl) (cpy_row3 IV12) _ s.si.length (s.si.map Value.string) (by rfl) (Strs.ext HC.out (cpy_ext IV12)) SC.out (strs_one3 _) (by unfold maxLen; omega) (by omega) (cpy_le IV12) ?_
        intro aV13 cV13 V13 OV13 gV13 atV13
        have IV13 := cpy_app3 (q := s.si) IV12 (by unfold OwnStrs; simpa only [List.length_nil, List.map_nil, Nat.zero_add, List.nil_append] using OV13) gV13 atV13
        simp only [Nat.zero_add] at IV13 ⊢
        clear OV13 gV13 atV13
        (try dsimp only)
        refine hK.out _ _ (by exact IV13.held) (fun hHeld => ?_)
        clear hK K
        (refine wpAnyH_take (i := 14) (v := ?_) rfl (by kernel_rfl) (by kernel_rfl) (by kernel_rfl) (fun _ _ _ h => h) (Or.inl ⟨by rfl, ?_⟩) (by assumption) ?_; rotate_left; focus (intro w hSw; (try dsimp only at hSw); (try simp only [zk1, zk2, zk3]); go_simp; try with_reducible rfl)); (try simp only [zk1, zk2, zk3]); (try simp only [Act.put, zk4, zk5, zk6])
        obtain ⟨RR, PP, QQ, XF⟩ := cpy_fin IV13
        have r0 := IV13.2.1.2.1 0 _ rfl
        have r1 := IV13.2.1.2.1 1 _ rfl
        have r2 := IV13.2.1.2.1 2 _ rfl
        have r3 := IV13.2.1.2.1 3 _ rfl
        have f0 := IV13.2.1.2.2 0
        have f1 := IV13.2.1.2.2 1
        have f2 := IV13.2.1.2.2 2
        have f3 := IV13.2.1.2.2 3
        (refine wpAnyH_ready (rs := [15]) (by kernel_rfl) (by simp) ?_; refine AllReadyH.cons rfl (fun K hK => ?_) AllReadyH.nil; (try simp only [zk1, zk2, zk3]))
        go_simp
        generalize (((V13.setCell ⟨w.heap.size + 1, 0, none⟩ (.int .i64 s.at_)).setCell ⟨w.heap.size + 1, 1, none⟩ (.slice aV2 s.op.length cV2)).setCell ⟨w.heap.size + 1, 2, none⟩ (.slice aV12 s.sh.length cV12)).setCell ⟨w.heap.size + 1, 3, none⟩ (.slice aV13 s.si.length cV13) = WF at *
        (try dsimp only)
        refine hK.out _ _ (by exact ⟨PP.2.1 0 _ rfl, PP.2.1 1 _ rfl, PP.2.1 2 _ rfl, PP.2.1 3 _ rfl⟩) (fun hHeld => ?_)
        clear hK K
        refine wpAnyH_done (by kernel_rfl) ?_ _
        have k0 := RR.2.1 0 _ rfl
        have k1 := RR.2.1 1 _ rfl
        have k2 := RR.2.1 2 _ rfl
        have k3 := RR.2.1 3 _ rfl
        go_wp2
        refine bodyPost_ret (v := .agg #[.int .i64 s.at_, .slice aV2 s.op.length cV2, .slice aV12 s.sh.length cV12, .slice aV13 s.si.length cV13]) (by simp [results, Tryz.results89, go_sem, k0, k1, k2, k3]) rfl ⟨_, _, _, _, _, _, rfl, QQ, XF⟩
    · (try simp only [zk1, zk2, zk3])
      go_simp
      have IV14 := cpy_lit2 IV1
      generalize V1.alloc (Obj.cells #[] 9) = V14 at *
      (try dsimp only)
      refine hK.out _ _ (by exact IV14.held) (fun hHeld => ?_)
      clear hK K
      refine wpAnyH_ready (rs := [5, 10]) (by kernel_rfl) (by simp) ?_
      refine AllReadyH.cons rfl (fun K hK => ?_) (AllReadyH.cons rfl (fun K hK => ?_) (AllReadyH.nil))
      · refine step_append_any (.tmp 5) (.tmp 7) 24 (by rfl) (by rfl) (w.heap.size + 2) 9 i0 _ 1 16 Tryz.underlying24 hi hz0 hz1 hz2 rfl (by decide) _ _ _ (by rfl) (cpy_row1 IV14) _ s.op.length (s.op.map Value.string) (by rfl) (Strs.ext HA.out (cpy_ext IV14)) SA.out (strs_one3 _) (by unfold maxLen; omega) (by omega) (cpy_le IV14) ?_
        intro aV15 cV15 V15 OV15 gV15 atV15
        have IV15 := cpy_app1 (q := s.op) IV14 (by unfold OwnStrs; simpa only [List.length_nil, List.map_nil, Nat.zero_add, List.nil_append] using OV15) gV15 atV15
        simp only [Nat.zero_add] at IV15 ⊢
        clear OV15 gV15 atV15
        (try dsimp only)
        refine hK.out _ _ (by exact IV15.held) (fun hHeld => ?_)
        clear hK K
        refine wpAnyH_ready (rs := [9, 10]) (by kernel_rfl) (by simp) ?_
        refine AllReadyH.cons rfl (fun K hK => ?_) (AllReadyH.cons rfl (fun K hK => ?_) (AllReadyH.nil))
        · refine step_append_any (.tmp 9) (.tmp 11) 24 (by rfl) (by rfl) (w.heap.size + 2) 9 i0 _ 1 16 Tryz.underlying24 hi hz0 hz1 hz2 rfl (by decide) _ _ _ (by rfl) (cpy_row2 IV15) _ s.sh.length (s.sh.map Value.string) (by rfl) (Strs.ext HB.out (cpy_ext IV15)) SB.out (strs_one3 _) (by unfold maxLen; omega) (by omega) (cpy_le IV15) ?_
          intro aV16 cV16 V16 OV16 gV16 atV16
          have IV16 := cpy_app2 (q := s.sh) IV15 (by unfold OwnStrs; simpa only [List.length_nil, List.map_nil, Nat.zero_add, List.nil_append] using OV16) gV16 atV16
          simp only [Nat.zero_add] at IV16 ⊢
          clear OV16 gV16 atV16
          (try dsimp only)
          refine hK.out _ _ (by exact IV16.held) (fun hHeld => ?_)
          clear hK K
          refine wpAnyH_ready (rs := [10]) (by kernel_rfl) (by simp) ?_
          refine AllReadyH.cons rfl (fun K hK => ?_) (AllReadyH.nil)
          (try simp only [zk1, zk2, zk3])
          go_simp
          have IV17 := cpy_lit3 IV16
          generalize V16.alloc (Obj.cells #[] 9) = V17 at *
          (try dsimp only)
          refine hK.out _ _ (by exact IV17.held) (fun hHeld => ?_)
          clear hK K
          refine wpAnyH_ready (rs := [13]) (by kernel_rfl) (by simp) ?_
          refine AllReadyH.cons rfl (fun K hK => ?_) (AllReadyH.nil)
          refine step_append_any (.tmp 13) (.tmp 15) 24 (by rfl) (by rfl) (w.heap.size + 2) 9 i0 _ 1 16 Tryz.underlying24 hi hz0 hz1 hz2 rfl (by decide) _ _ _ (by rfl) (cpy_row3 IV17) _ s.si.length (s.si.map Value.string) (by rfl) (Strs.ext HC.out (cpy_ext IV17)) SC.out (strs_one3 _) (by unfold maxLen; omega) (by omega) (cpy_le IV17) ?_
          intro aV18 cV18 V18 OV18 gV18 atV18
          have IV18 := cpy_app3 (q := s.si) IV17 (by unfold OwnStrs; simpa only [List.length_nil, List.map_nil, Nat.zero_add, List.nil_append] using OV18) gV18 atV18
          simp only [Nat.zero_add] at IV18 ⊢
          clear OV18 gV18 atV18
          (try dsimp only)
          refine hK.out _ _ (by exact IV18.held) (fun hHeld => ?_)
          clear hK K
          (refine wpAnyH_take (i := 14) (v := ?_) rfl (by kernel_rfl) (by kernel_rfl) (by kernel_rfl) (fun _ _ _ h => h) (Or.inl ⟨by rfl, ?_⟩) (by assumption) ?_; rotate_left; focus (intro w hSw; (try dsimp only at hSw); (try simp only [zk1, zk2, zk3]); go_simp; try with_reducible rfl)); (try simp only [zk1, zk2, zk3]); (try simp only [Act.put, zk4, zk5, zk6])
          obtain ⟨RR, PP, QQ, XF⟩ := cpy_fin IV18
          have r0 := IV18.2.1.2.1 0 _ rfl
          have r1 := IV18.2.1.2.1 1 _ rfl
          have r2 := IV18.2.1.2.1 2 _ rfl
          have r3 := IV18.2.1.2.1 3 _ rfl
          have f0 := IV18.2.1.2.2 0
          have f1 := IV18.2.1.2.2 1
          have f2 := IV18.2.1.2.2 2
          have f3 := IV18.2.1.2.2 3
          (refine wpAnyH_ready (rs := [15]) (by kernel_rfl) (by simp) ?_; refine AllReadyH.cons rfl (fun K hK => ?_) AllReadyH.nil; (try simp only [zk1, zk2, zk3]))
          go_simp
          generalize (((V18.setCell ⟨w.heap.size + 1, 0, none⟩ (.int .i64 s.at_)).setCell ⟨w.heap.size + 1, 1, none⟩ (.slice aV15 s.op.length cV15)).setCell ⟨w.heap.size + 1, 2, none⟩ (.slice aV16 s.sh.length cV16)).setCell ⟨w.heap.size + 1, 3, none⟩ (.slice aV18 s.si.length cV18) = WF at *
          (try dsimp only)
          refine hK.out _ _ (by exact ⟨PP.2.1 0 _ rfl, PP.2.1 1 _ rfl, PP.2.1 2 _ rfl, PP.2.1 3 _ rfl⟩) (fun hHeld => ?_)
          clear hK K
          refine wpAnyH_done (by kernel_rfl) ?_ _
          have k0 := RR.2.1 0 _ rfl
          have k1 := RR.2.1 1 _ rfl
          have k2 := RR.2.1 2 _ rfl
          have k3 := RR.2.1 3 _ rfl
          go_wp2
          refine bodyPost_ret (v := .agg #[.int .i64 s.at_, .slice aV15 s.op.length cV15, .slice aV16 s.sh.length cV16, .slice aV18 s.si.length cV18]) (by simp [results, Tryz.results89, go_sem, k0, k1, k2, k3]) rfl ⟨_, _, _, _, _, _, rfl, QQ, XF⟩
        · (try simp only [zk1, zk2, zk3])
          go_simp
          have IV19 := cpy_lit3 IV15
          generalize V15.alloc (Obj.cells #[] 9) = V19 at *
          (try dsimp only)
          refine hK.out _ _ (by exact IV19.held) (fun hHeld => ?_)
          clear hK K
          refine wpAnyH_ready (rs := [9]) (by kernel_rfl) (by simp) ?_
          refine AllReadyH.cons rfl (fun K hK => ?_) (AllReadyH.nil)
          refine step_append_any (.tmp 9) (.tmp 11) 24 (by rfl) (by rfl) (w.heap.size + 2) 9 i0 _ 1 16 Tryz.underlying24 hi hz0 hz1 hz2 rfl (by decide) _ _ _ (by rfl) (cpy_row2 IV19) _ s.sh.length (s.sh.map Value.string) (by rfl) (Strs.ext HB.out (cpy_ext IV19)) SB.out (strs_one3 _) (by unfold maxLen; omega) (by omega) (cpy_le IV19) ?_
          intro aV20 cV20 V20 OV20 gV20 atV20
          have IV20 := cpy_app2 (q := s.sh) IV19 (by unfold OwnStrs; simpa only [List.length_nil, List.map_nil, Nat.zero_add, List.nil_append] using OV20) gV20 atV20
          simp only [Nat.zero_add] at IV20 ⊢
          clear OV20 gV20 atV20
          (try dsimp only)
          refine hK.out _ _ (by exact IV20.held) (fun hHeld => ?_)
          clear hK K
          refine wpAnyH_ready (rs := [13]) (by kernel_rfl) (by simp) ?_
          refine AllReadyH.cons rfl (fun K hK => ?_) (AllReadyH.nil)
          refine step_append_any (.tmp 13) (.tmp 15) 24 (by rfl) (by rfl) (w.heap.size + 2) 9 i0 _ 1 16 Tryz.underlying24 hi hz0 hz1 hz2 rfl (by decide) _ _ _ (by rfl) (cpy_row3 IV20) _ s.si.length (s.si.map Value.string) (by rfl) (Strs.ext HC.out (cpy_ext IV20)) SC.out (strs_one3 _) (by unfold maxLen; omega) (by omega) (cpy_le IV20) ?_
          intro aV21 cV21 V21 OV21 gV21 atV21
          have IV21 := cpy_app3 (q := s.si) IV20 (by unfold OwnStrs; simpa only [List.length_nil, List.map_nil, Nat.zero_add, List.nil_append] using OV21) gV21 atV21
          simp only [Nat.zero_add] at IV21 ⊢
          clear OV21 gV21 atV21
          (try dsimp only)
          refine hK.out _ _ (by exact IV21.held) (fun hHeld => ?_)
          clear hK K
          (refine wpAnyH_take (i := 14) (v := ?_) rfl (by kernel_rfl) (by kernel_rfl) (by kernel_rfl) (fun _ _ _ h => h) (Or.inl ⟨by rfl, ?_⟩) (by assumption) ?_; rotate_left; focus (intro w hSw; (try dsimp only at hSw); (try simp only [zk1, zk2, zk3]); go_simp; try with_reducible rfl)); (try simp only [zk1, zk2, zk3]); (try simp only [Act.put, zk4, zk5, zk6])
          obtain ⟨RR, PP, QQ, XF⟩ := cpy_fin IV21
          have r0 := IV21.2.1.2.1 0 _ rfl
          have r1 := IV21.2.1.2.1 1 _ rfl
          have r2 := IV21.2.1.2.1 2 _ rfl
          have r3 := IV21.2.1.2.1 3 _ rfl
          have f0 := IV21.2.1.2.2 0
          have f1 := IV21.2.1.2.2 1
          have f2 := IV21.2.1.2.2 2
          have f3 := IV21.2.1.2.2 3
          (refine wpAnyH_ready (rs := [15]) (by kernel_rfl) (by simp) ?_; refine AllReadyH.cons rfl (fun K hK => ?_) AllReadyH.nil; (try simp only [zk1, zk2, zk3]))
          go_simp
          generalize (((V21.setCell ⟨w.heap.size + 1, 0, none⟩ (.int .i64 s.at_)).setCell ⟨w.heap.size + 1, 1, none⟩ (.slice aV15 s.op.length cV15)).setCell ⟨w.heap.size + 1, 2, none⟩ (.slice aV20 s.sh.length cV20)).setCell ⟨w.heap.size + 1, 3, none⟩ (.slice aV21 s.si.length cV21) = WF at *
          (try dsimp only)
          refine hK.out _ _ (by exact ⟨PP.2.1 0 _ rfl, PP.2.1 1 _ rfl, PP.2.1 2 _ rfl, PP.2.1 3 _ rfl⟩) (fun hHeld => ?_)
          clear hK K
          refine wpAnyH_done (by kernel_rfl) ?_ _
          have k0 := RR.2.1 0 _ rfl
          have k1 := RR.2.1 1 _ rfl
          have k2 := RR.2.1 2 _ rfl
          have k3 := RR.2.1 3 _ rfl
          go_wp2
          refine bodyPost_ret (v := .agg #[.int .i64 s.at_, .slice aV15 s.op.length cV15, .slice aV20 s.sh.length cV20, .slice aV21 s.si.length cV21]) (by simp [results, Tryz.results89, go_sem, k0, k1, k2, k3]) rfl ⟨_, _, _, _, _, _, rfl, QQ, XF⟩
      · (try simp only [zk1, zk2, zk3])
        go_simp
        have IV22 := cpy_lit3 IV14
        generalize V14.alloc (Obj.cells #[] 9) = V22 at *
        (try dsimp only)
        refine hK.out _ _ (by exact IV22.held) (fun hHeld => ?_)
        clear hK K
        refine wpAnyH_ready (rs := [5]) (by kernel_rfl) (by simp) ?_
        refine AllReadyH.cons rfl (fun K hK => ?_) (AllReadyH.nil)
        refine step_append_any (.tmp 5) (.tmp 7) 24 (by rfl) (by rfl) (w.heap.size + 2) 9 i0 _ 1 16 Tryz.underlying24 hi hz0 hz1 hz2 rfl (by decide) _ _ _ (by rfl) (cpy_row1 IV22) _ s.op.length (s.op.map Value.string) (by rfl) (Strs.ext HA.out (cpy_ext IV22)) SA.out (strs_one3 _) (by unfold maxLen; omega) (by omega) (cpy_le IV22) ?_
        intro aV23 cV23 V23 OV23 gV23 atV23
        have IV23 := cpy_app1 (q := s.op) IV22 (by unfold OwnStrs; simpa only [List.length_nil, List.map_nil, Nat.zero_add, List.nil_append] using OV23) gV23 atV23
        simp only [Nat.zero_add] at IV23 ⊢
        clear OV23 gV23 atV23
        (try dsimp only)
        refine hK.out _ _ (by exact IV23.held) (fun hHeld => ?_)
        clear hK K
        refine wpAnyH_ready (rs := [9]) (by kernel_rfl) (by simp) ?_
        refine AllReadyH.cons rfl (fun K hK => ?_) (AllReadyH.nil)
        refine step_append_any (.tmp 9) (.tmp 11) 24 (by rfl) (by rfl) (w.heap.size + 2) 9 i0 _ 1 16 Tryz.underlying24 hi hz0 hz1 hz2 rfl (by decide) _ _ _ (by rfl) (cpy_row2 IV23) _ s.sh.length (s.sh.map Value.string) (by rfl) (Strs.ext HB.out (cpy_ext IV23)) SB.out (strs_one3 _) (by unfold maxLen; omega) (by omega) (cpy_le IV23) ?_
        intro aV24 cV24 V24 OV24 gV24 atV24
        have IV24 := cpy_app2 (q := s.sh) IV23 (by unfold OwnStrs; simpa only [List.length_nil, List.map_nil, Nat.zero_add, List.nil_append] using OV24) gV24 atV24
        simp only [Nat.zero_add] at IV24 ⊢
        clear OV24 gV24 atV24
        (try dsimp only)
        refine hK.out _ _ (by exact IV24.held) (fun hHeld => ?_)
        clear hK K
        refine wpAnyH_ready (rs := [13]) (by kernel_rfl) (by simp) ?_
        refine AllReadyH.cons rfl (fun K hK => ?_) (AllReadyH.nil)
        refine step_append_any (.tmp 13) (.tmp 15) 24 (by rfl) (by rfl) (w.heap.size + 2) 9 i0 _ 1 16 Tryz.underlying24 hi hz0 hz1 hz2 rfl (by decide) _ _ _ (by rfl) (cpy_row3 IV24) _ s.si.length (s.si.map Value.string) (by rfl) (Strs.ext HC.out (cpy_ext IV24)) SC.out (strs_one3 _) (by unfold maxLen; omega) (by omega) (cpy_le IV24) ?_
        intro aV25 cV25 V25 OV25 gV25 atV25
        have IV25 := cpy_app3 (q := s.si) IV24 (by unfold OwnStrs; simpa only [List.length_nil, List.map_nil, Nat.zero_add, List.nil_append] using OV25) gV25 atV25
        simp only [Nat.zero_add] at IV25 ⊢
        clear OV25 gV25 atV25
        (try dsimp only)
        refine hK.out _ _ (by exact IV25.held) (fun hHeld => ?_)
        clear hK K
        (refine wpAnyH_take (i := 14) (v := ?_) rfl (by kernel_rfl) (by kernel_rfl) (by kernel_rfl) (fun _ _ _ h => h) (Or.inl ⟨by rfl, ?_⟩) (by assumption) ?_; rotate_left; focus (intro w hSw; (try dsimp only at hSw); (try simp only [zk1, zk2, zk3]); go_simp; try with_reducible rfl)); (try simp only [zk1, zk2, zk3]); (try simp only [Act.put, zk4, zk5, zk6])
        obtain ⟨RR, PP, QQ, XF⟩ := cpy_fin IV25
        have r0 := IV25.2.1.2.1 0 _ rfl
        have r1 := IV25.2.1.2.1 1 _ rfl
        have r2 := IV25.2.1.2.1 2 _ rfl
        have r3 := IV25.2.1.2.1 3 _ rfl
        have f0 := IV25.2.1.2.2 0
        have f1 := IV25.2.1.2.2 1
        have f2 := IV25.2.1.2.2 2
        have f3 := IV25.2.1.2.2 3
        (refine wpAnyH_ready (rs := [15]) (by kernel_rfl) (by simp) ?_; refine AllReadyH.cons rfl (fun K hK => ?_) AllReadyH.nil; (try simp only [zk1, zk2, zk3]))
        go_simp
        generalize (((V25.setCell ⟨w.heap.size + 1, 0, none⟩ (.int .i64 s.at_)).setCell ⟨w.heap.size + 1, 1, none⟩ (.slice aV23 s.op.length cV23)).setCell ⟨w.heap.size + 1, 2, none⟩ (.slice aV24 s.sh.length cV24)).setCell ⟨w.heap.size + 1, 3, none⟩ (.slice aV25 s.si.length cV25) = WF at *
        (try dsimp only)
        refine hK.out _ _ (by exact ⟨PP.2.1 0 _ rfl, PP.2.1 1 _ rfl, PP.2.1 2 _ rfl, PP.2.1 3 _ rfl⟩) (fun hHeld => ?_)
        clear hK K
        refine wpAnyH_done (by kernel_rfl) ?_ _
        have k0 := RR.2.1 0 _ rfl
        have k1 := RR.2.1 1 _ rfl
        have k2 := RR.2.1 2 _ rfl
        have k3 := RR.2.1 3 _ rfl
        go_wp2
        refine bodyPost_ret (v := .agg #[.int .i64 s.at_, .slice aV23 s.op.length cV23, .slice aV24 s.sh.length cV24, .slice aV25 s.si.length cV25]) (by simp [results, Tryz.results89, go_sem, k0, k1, k2, k3]) rfl ⟨_, _, _, _, _, _, rfl, QQ, XF⟩
    · (try simp only [zk1, zk2, zk3])
      go_simp
      have IV26 := cpy_lit3 IV1
      generalize V1.alloc (Obj.cells #[] 9) = V26 at *
      (try dsimp only)
      refine hK.out _ _ (by exact IV26.held) (fun hHeld => ?_)
      clear hK K
      refine wpAnyH_ready (rs := [5, 6]) (by kernel_rfl) (by simp) ?_
      refine AllReadyH.cons rfl (fun K hK => ?_) (AllReadyH.cons rfl (fun K hK => ?_) (AllReadyH.nil))
      · refine step_append_any (.tmp 5) (.tmp 7) 24 (by rfl) (by rfl) (w.heap.size + 2) 9 i0 _ 1 16 Tryz.underlying24 hi hz0 hz1 hz2 rfl (by decide) _ _ _ (by rfl) (cpy_row1 IV26) _ s.op.length (s.op.map Value.string) (by rfl) (Strs.ext HA.out (cpy_ext IV26)) SA.out (strs_one3 _) (by unfold maxLen; omega) (by omega) (cpy_le IV26) ?_
        intro aV27 cV27 V27 OV27 gV27 atV27
        have IV27 := cpy_app1 (q := s.op) IV26 (by unfold OwnStrs; simpa only [List.length_nil, List.map_nil, Nat.zero_add, List.nil_append] using OV27) gV27 atV27
        simp only [Nat.zero_add] at IV27 ⊢
        clear OV27 gV27 atV27
        (try dsimp only)
        refine hK.out _ _ (by exact IV27.held) (fun hHeld => ?_)
        clear hK K
        refine wpAnyH_ready (rs := [6]) (by kernel_rfl) (by simp) ?_
        refine AllReadyH.cons rfl (fun K hK => ?_) (AllReadyH.nil)
        (try simp only [zk1, zk2, zk3])
        go_simp
        have IV28 := cpy_lit2 IV27
        generalize V27.alloc (Obj.cells #[] 9) = V28 at *
        (try dsimp only)
        refine hK.out _ _ (by exact IV28.held) (fun hHeld => ?_)
        clear hK K
        refine wpAnyH_ready (rs := [9]) (by kernel_rfl) (by simp) ?_
        refine AllReadyH.cons rfl (fun K hK => ?_) (AllReadyH.nil)
        refine step_append_any (.tmp 9) (.tmp 11) 24 (by rfl) (by rfl) (w.heap.size + 2) 9 i0 _ 1 16 Tryz.underlying24 hi hz0 hz1 hz2 rfl (by decide) _ _ _ (by rfl) (cpy_row2 IV28) _ s.sh.length (s.sh.map Value.string) (by rfl) (Strs.ext HB.out (cpy_ext IV28)) SB.out (strs_one3 _) (by unfold maxLen; omega) (by omega) (cpy_le IV28) ?_
        intro aV29 cV29 V29 OV29 gV29 atV29
        have IV29 := cpy_app2 (q := s.sh) IV28 (by unfold OwnStrs; simpa only [List.length_nil, List.map_nil, Nat.zero_add, List.nil_append] using OV29) gV29 atV29
        simp only [Nat.zero_add] at IV29 ⊢
        clear OV29 gV29 atV29
        (try dsimp only)
        refine hK.out _ _ (by exact IV29.held) (fun hHeld => ?_)
        clear hK K
        refine wpAnyH_ready (rs := [13]) (by kernel_rfl) (by simp) ?_
        refine AllReadyH.cons rfl (fun K hK => ?_) (AllReadyH.nil)
        refine step_append_any (.tmp 13) (.tmp 15) 24 (by rfl) (by rfl) (w.heap.size + 2) 9 i0 _ 1 16 Tryz.underlying24 hi hz0 hz1 hz2 rfl (by decide) _ _ _ (by rfl) (cpy_row3 IV29) _ s.si.length (s.si.map Value.string) (by rfl) (Strs.ext HC.out (cpy_ext IV29)) SC.out (strs_one3 _) (by unfold maxLen; omega) (by omega) (cpy_le IV29) ?_
        intro aV30 cV30 V30 OV30 gV30 atV30
        have IV30 := cpy_app3 (q := s.si) IV29 (by unfold OwnStrs; simpa only [List.length_nil, List.map_nil, Nat.zero_add, List.nil_append] using OV30) gV30 atV30
        simp only [Nat.zero_add] at IV30 ⊢
        clear OV30 gV30 atV30
        (try dsimp only)
        refine hK.out _ _ (by exact IV30.held) (fun hHeld => ?_)
        clear hK K
        (refine wpAnyH_take (i := 14) (v := ?_) rfl (by kernel_rfl) (by kernel_rfl) (by kernel_rfl) (fun _ _ _ h => h) (Or.inl ⟨by rfl, ?_⟩) (by assumption) ?_; rotate_left; focus (intro w hSw; (try dsimp only at hSw); (try simp only [zk1, zk2, zk3]); go_simp; try with_reducible rfl)); (try simp only [zk1, zk2, zk3]); (try simp only [Act.put, zk4, zk5, zk6])
        obtain ⟨RR, PP, QQ, XF⟩ := cpy_fin IV30
        have r0 := IV30.2.1.2.1 0 _ rfl
        have r1 := IV30.2.1.2.1 1 _ rfl
        have r2 := IV30.2.1.2.1 2 _ rfl
        have r3 := IV30.2.1.2.1 3 _ rfl
        have f0 := IV30.2.1.2.2 0
        have f1 := IV30.2.1.2.2 1
        have f2 := IV30.2.1.2.2 2
        have f3 := IV30.2.1.2.2 3
        (refine wpAnyH_ready (rs := [15]) (by kernel_rfl) (by simp) ?_; refine AllReadyH.cons rfl (fun K hK => ?_) AllReadyH.nil; (try simp only [zk1, zk2, zk3]))
        go_simp
        generalize (((V30.setCell ⟨w.heap.size + 1, 0, none⟩ (.int .i64 s.at_)).setCell ⟨w.heap.size + 1, 1, none⟩ (.slice aV27 s.op.length cV27)).setCell ⟨w.heap.size + 1, 2, none⟩ (.slice aV29 s.sh.length cV29)).setCell ⟨w.heap.size + 1, 3, none⟩ (.slice aV30 s.si.length cV30) = WF at *
        (try dsimp only)
        refine hK.out _ _ (by exact ⟨PP.2.1 0 _ rfl, PP.2.1 1 _ rfl, PP.2.1 2 _ rfl, PP.2.1 3 _ rfl⟩) (fun hHeld => ?_)
        clear hK K
        refine wpAnyH_done (by kernel_rfl) ?_ _
        have k0 := RR.2.1 0 _ rfl
        have k1 := RR.2.1 1 _ rfl
        have k2 := RR.2.1 2 _ rfl
        have k3 := RR.2.1 3 _ rfl
        go_wp2
        refine bodyPost_ret (v := .agg #[.int .i64 s.at_, .slice aV27 s.op.length cV27, .slice aV29 s.sh.length cV29, .slice aV30 s.si.length cV30]) (by simp [results, Tryz.results89, go_sem, k0, k1, k2, k3]) rfl ⟨_, _, _, _, _, _, rfl, QQ, XF⟩
      · (try simp only [zk1, zk2, zk3])
        go_simp
        have IV31 := cpy_lit2 IV26
        generalize V26.alloc (Obj.cells #[] 9) = V31 at *
        (try dsimp only)
        refine hK.out _ _ (by exact IV31.held) (fun hHeld => ?_)
        clear hK K
        refine wpAnyH_ready (rs := [5]) (by kernel_rfl) (by simp) ?_
        refine AllReadyH.cons rfl (fun K hK => ?_) (AllReadyH.nil)
        refine step_append_any (.tmp 5) (.tmp 7) 24 (by rfl) (by rfl) (w.heap.size + 2) 9 i0 _ 1 16 Tryz.underlying24 hi hz0 hz1 hz2 rfl (by decide) _ _ _ (by rfl) (cpy_row1 IV31) _ s.op.length (s.op.map Value.string) (by rfl) (Strs.ext HA.out (cpy_ext IV31)) SA.out (strs_one3 _) (by unfold maxLen; omega) (by omega) (cpy_le IV31) ?_
        intro aV32 cV32 V32 OV32 gV32 atV32
        have IV32 := cpy_app1 (q := s.op) IV31 (by unfold OwnStrs; simpa only [List.length_nil, List.map_nil, Nat.zero_add, List.nil_append] using OV32) gV32 atV32
        simp only [Nat.zero_add] at IV32 ⊢
        clear OV32 gV32 atV32
        (try dsimp only)
        refine hK.out _ _ (by exact IV32.held) (fun hHeld => ?_)
        clear hK K
        refine wpAnyH_ready (rs := [9]) (by kernel_rfl) (by simp) ?_
        refine AllReadyH.cons rfl (fun K hK => ?_) (AllReadyH.nil)
        refine step_append_any (.tmp 9) (.tmp 11) 24 (by rfl) (by rfl) (w.heap.size + 2) 9 i0 _ 1 16 Tryz.underlying24 hi hz0 hz1 hz2 rfl (by decide) _ _ _ (by rfl) (cpy_row2 IV32) _ s.sh.length (s.sh.map Value.string) (by rfl) (Strs.ext HB.out (cpy_ext IV32)) SB.out (strs_one3 _) (by unfold maxLen; omega) (by omega) (cpy_le IV32) ?_
        intro aV33 cV33 V33 OV33 gV33 atV33
        have IV33 := cpy_app2 (q := s.sh) IV32 (by unfold OwnStrs; simpa only [List.length_nil, List.map_nil, Nat.zero_add, List.nil_append] using OV33) gV33 atV33
        simp only [Nat.zero_add] at IV33 ⊢
        clear OV33 gV33 atV33
        (try dsimp only)
        refine hK.out _ _ (by exact IV33.held) (fun hHeld => ?_)
        clear hK K
        refine wpAnyH_ready (rs := [13]) (by kernel_rfl) (by simp) ?_
        refine AllReadyH.cons rfl (fun K hK => ?_) (AllReadyH.nil)
        refine step_append_any (.tmp 13) (.tmp 15) 24 (by rfl) (by rfl) (w.heap.size + 2) 9 i0 _ 1 16 Tryz.underlying24 hi hz0 hz1 hz2 rfl (by decide) _ _ _ (by rfl) (cpy_row3 IV33) _ s.si.length (s.si.map Value.string) (by rfl) (Strs.ext HC.out (cpy_ext IV33)) SC.out (strs_one3 _) (by unfold maxLen; omega) (by omega) (cpy_le IV33) ?_
        intro aV34 cV34 V34 OV34 gV34 atV34
        have IV34 := cpy_app3 (q := s.si) IV33 (by unfold OwnStrs; simpa only [List.length_nil, List.map_nil, Nat.zero_add, List.nil_append] using OV34) gV34 atV34
        simp only [Nat.zero_add] at IV34 ⊢
        clear OV34 gV34 atV34
        (try dsimp only)
        refine hK.out _ _ (by exact IV34.held) (fun hHeld => ?_)
        clear hK K
        (refine wpAnyH_take (i := 14) (v := ?_) rfl (by kernel_rfl) (by kernel_rfl) (by kernel_rfl) (fun _ _ _ h => h) (Or.inl ⟨by rfl, ?_⟩) (by assumption) ?_; rotate_left; focus (intro w hSw; (try dsimp only at hSw); (try simp only [zk1, zk2, zk3]); go_simp; try with_reducible rfl)); (try simp only [zk1, zk2, zk3]); (try simp only [Act.put, zk4, zk5, zk6])
        obtain ⟨RR, PP, QQ, XF⟩ := cpy_fin IV34
        have r0 := IV34.2.1.2.1 0 _ rfl
        have r1 := IV34.2.1.2.1 1 _ rfl
        have r2 := IV34.2.1.2.1 2 _ rfl
        have r3 := IV34.2.1.2.1 3 _ rfl
        have f0 := IV34.2.1.2.2 0
        have f1 := IV34.2.1.2.2 1
        have f2 := IV34.2.1.2.2 2
        have f3 := IV34.2.1.2.2 3
        (refine wpAnyH_ready (rs := [15]) (by kernel_rfl) (by simp) ?_; refine AllReadyH.cons rfl (fun K hK => ?_) AllReadyH.nil; (try simp only [zk1, zk2, zk3]))
        go_simp
        generalize (((V34.setCell ⟨w.heap.size + 1, 0, none⟩ (.int .i64 s.at_)).setCell ⟨w.heap.size + 1, 1, none⟩ (.slice aV32 s.op.length cV32)).setCell ⟨w.heap.size + 1, 2, none⟩ (.slice aV33 s.sh.length cV33)).setCell ⟨w.heap.size + 1, 3, none⟩ (.slice aV34 s.si.length cV34) = WF at *
        (try dsimp only)
        refine hK.out _ _ (by exact ⟨PP.2.1 0 _ rfl, PP.2.1 1 _ rfl, PP.2.1 2 _ rfl, PP.2.1 3 _ rfl⟩) (fun hHeld => ?_)
        clear hK K
        refine wpAnyH_done (by kernel_rfl) ?_ _
        have k0 := RR.2.1 0 _ rfl
        have k1 := RR.2.1 1 _ rfl
        have k2 := RR.2.1 2 _ rfl
        have k3 := RR.2.1 3 _ rfl
        go_wp2
        refine bodyPost_ret (v := .agg #[.int .i64 s.at_, .slice aV32 s.op.length cV32, .slice aV33 s.sh.length cV33, .slice aV34 s.si.length cV34]) (by simp [results, Tryz.results89, go_sem, k0, k1, k2, k3]) rfl ⟨_, _, _, _, _, _, rfl, QQ, XF⟩
  · (try simp only [zk1, zk2, zk3])
    go_simp
    have IV35 := cpy_lit2 I0
    generalize V0.alloc (Obj.cells #[] 9) = V35 at *
    (try dsimp only)
    refine hK.out _ _ (by exact IV35.held) (fun hHeld => ?_)
    clear hK K
    refine wpAnyH_ready (rs := [2, 10]) (by kernel_rfl) (by simp) ?_
    refine AllReadyH.cons rfl (fun K hK => ?_) (AllReadyH.cons rfl (fun K hK => ?_) (AllReadyH.nil))
    · (try simp only [zk1, zk2, zk3])
      go_simp
      have IV36 := cpy_lit1 IV35
      generalize V35.alloc (Obj.cells #[] 9) = V36 at *
      (try dsimp only)
      refine hK.out _ _ (by exact IV36.held) (fun hHeld => ?_)
      clear hK K
      refine wpAnyH_ready (rs := [5, 10]) (by kernel_rfl) (by simp) ?_
      refine AllReadyH.cons rfl (fun K hK => ?_) (AllReadyH.cons rfl (fun K hK => ?_) (AllReadyH.nil))
      · refine step_append_any (.tmp 5) (.tmp 7) 24 (by rfl) (by rfl) (w.heap.size + 2) 9 i0 _ 1 16 Tryz.underlying24 hi hz0 hz1 hz2 rfl (by decide) _ _ _ (by rfl) (cpy_row1 IV36) _ s.op.length (s.op.map Value.string) (by rfl) (Strs.ext HA.out (cpy_ext IV36)) SA.out (strs_one3 _) (by unfold maxLen; omega) (by omega) (cpy_le IV36) ?_
        intro aV37 cV37 V37 OV37 gV37 atV37
        have IV37 := cpy_app1 (q := s.op) IV36 (by unfold OwnStrs; simpa only [List.length_nil, List.map_nil, Nat.zero_add, List.nil_append] using OV37) gV37 atV37
        simp only [Nat.zero_add] at IV37 ⊢
        clear OV37 gV37 atV37
        (try dsimp only)
        refine hK.out _ _ (by exact IV37.held) (fun hHeld => ?_)
        clear hK K
        refine wpAnyH_ready (rs := [9, 10]) (by kernel_rfl) (by simp) ?_
        refine AllReadyH.cons rfl (fun K hK => ?_) (AllReadyH.cons rfl (fun K hK => ?_) (AllReadyH.nil))
        · refine step_append_any (.tmp 9) (.tmp 11) 24 (by rfl) (by rfl) (w.heap.size + 2) 9 i0 _ 1 16 Tryz.underlying24 hi hz0 hz1 hz2 rfl (by decide) _ _ _ (by rfl) (cpy_row2 IV37) _ s.sh.length (s.sh.map Value.string) (by rfl) (Strs.ext HB.out (cpy_ext IV37)) SB.out (strs_one3 _) (by unfold maxLen; omega) (by omega) (cpy_le IV37) ?_
          intro aV38 cV38 V38 OV38 gV38 atV38
          have IV38 := cpy_app2 (q := s.sh) IV37 (by unfold OwnStrs; simpa only [List.length_nil, List.map_nil, Nat.zero_add, List.nil_append] using OV38) gV38 atV38
          simp only [Nat.zero_add] at IV38 ⊢
          clear OV38 gV38 atV38
          (try dsimp only)
          refine hK.out _ _ (by exact IV38.held) (fun hHeld => ?_)
          clear hK K
          refine wpAnyH_ready (rs := [10]) (by kernel_rfl) (by simp) ?_
          refine AllReadyH.cons rfl (fun K hK => ?_) (AllReadyH.nil)
          (try simp only [zk1, zk2, zk3])
          go_simp
          have IV39 := cpy_lit3 IV38
          generalize V38.alloc (Obj.cells #[] 9) = V39 at *
          (try dsimp only)
          refine hK.out _ _ (by exact IV39.held) (fun hHeld => ?_)
          clear hK K
          refine wpAnyH_ready (rs := [13]) (by kernel_rfl) (by simp) ?_
          refine AllReadyH.cons rfl (fun K hK => ?_) (AllReadyH.nil)
          refine step_append_any (.tmp 13) (.tmp 15) 24 (by rfl) (by rfl) (w.heap.size + 2) 9 i0 _ 1 16 Tryz.underlying24 hi hz0 hz1 hz2 rfl (by decide) _ _ _ (by rfl) (cpy_row3 IV39) _ s.si.length (s.si.map Value.string) (by rfl) (Strs.ext HC.out (cpy_ext IV39)) SC.out (strs_one3 _) (by unfold maxLen; omega) (by omega) (cpy_le IV39) ?_
          intro aV40 cV40 V40 OV40 gV40 atV40
          have IV40 := cpy_app3 (q := s.si) IV39 (by unfold OwnStrs; simpa only [List.length_nil, List.map_nil, Nat.zero_add, List.nil_append] using OV40) gV40 atV40
          simp only [Nat.zero_add] at IV40 ⊢
          clear OV40 gV40 atV40
          (try dsimp only)
          refine hK.out _ _ (by exact IV40.held) (fun hHeld => ?_)
          clear hK K
          (refine wpAnyH_take (i := 14) (v := ?_) rfl (by kernel_rfl) (by kernel_rfl) (by kernel_rfl) (fun _ _ _ h => h) (Or.inl ⟨by rfl, ?_⟩) (by assumption) ?_; rotate_left; focus (intro w hSw; (try dsimp only at hSw); (try simp only [zk1, zk2, zk3]); go_simp; try with_reducible rfl)); (try simp only [zk1, zk2, zk3]); (try simp only [Act.put, zk4, zk5, zk6])
          obtain ⟨RR, PP, QQ, XF⟩ := cpy_fin IV40
          have r0 := IV40.2.1.2.1 0 _ rfl
          have r1 := IV40.2.1.2.1 1 _ rfl
          have r2 := IV40.2.1.2.1 2 _ rfl
          have r3 := IV40.2.1.2.1 3 _ rfl
          have f0 := IV40.2.1.2.2 0
          have f1 := IV40.2.1.2.2 1
          have f2 := IV40.2.1.2.2 2
          have f3 := IV40.2.1.2.2 3
          (refine wpAnyH_ready (rs := [15]) (by kernel_rfl) (by simp) ?_; refine AllReadyH.cons rfl (fun K hK => ?_) AllReadyH.nil; (try simp only [zk1, zk2, zk3]))
          go_simp
          generalize (((V40.setCell ⟨w.heap.size + 1, 0, none⟩ (.int .i64 s.at_)).setCell ⟨w.heap.size + 1, 1, none⟩ (.slice aV37 s.op.length cV37)).setCell ⟨w.heap.size + 1, 2, none⟩ (.slice aV38 s.sh.length cV38)).setCell ⟨w.heap.size + 1, 3, none⟩ (.slice aV40 s.si.length cV40) = WF at *
          (try dsimp only)
          refine hK.out _ _ (by exact ⟨PP.2.1 0 _ rfl, PP.2.1 1 _ rfl, PP.2.1 2 _ rfl, PP.2.1 3 _ rfl⟩) (fun hHeld => ?_)
          clear hK K
          refine wpAnyH_done (by kernel_rfl) ?_ _
          have k0 := RR.2.1 0 _ rfl
          have k1 := RR.2.1 1 _ rfl
          have k2 := RR.2.1 2 _ rfl
          have k3 := RR.2.1 3 _ rfl
          go_wp2
          refine bodyPost_ret (v := .agg #[.int .i64 s.at_, .slice aV37 s.op.length cV37, .slice aV38 s.sh.length cV38, .slice aV40 s.si.length cV40]) (by simp [results, Tryz.results89, go_sem, k0, k1, k2, k3]) rfl ⟨_, _, _, _, _, _, rfl, QQ, XF⟩
        · (try simp only [zk1, zk2, zk3])
          go_simp
          have IV41 := cpy_lit3 IV37
          generalize V37.alloc (Obj.cells #[] 9) = V41 at *
          (try dsimp only)
          refine hK.out _ _ (by exact IV41.held) (fun hHeld => ?_)
          clear hK K
          refine wpAnyH_ready (rs := [9]) (by kernel_rfl) (by simp) ?_
          refine AllReadyH.cons rfl (fun K hK => ?_) (AllReadyH.nil)
          refine step_append_any (.tmp 9) (.tmp 11) 24 (by rfl) (by rfl) (w.heap.size + 2) 9 i0 _ 1 16 Tryz.underlying24 hi hz0 hz1 hz2 rfl (by decide) _ _ _ (by rfl) (cpy_row2 IV41) _ s.sh.length (s.sh.map Value.string) (by rfl) (Strs.ext HB.out (cpy_ext IV41)) SB.out (strs_one3 _) (by unfold maxLen; omega) (by omega) (cpy_le IV41) ?_
          intro aV42 cV42 V42 OV42 gV42 atV42
          have IV42 := cpy_app2 (q := s.sh) IV41 (by unfold OwnStrs; simpa only [List.length_nil, List.map_nil, Nat.zero_add, List.nil_append] using OV42) gV42 atV42
          simp only [Nat.zero_add] at IV42 ⊢
          clear OV42 gV42 atV42
          (try dsimp only)
          refine hK.out _ _ (by exact IV42.held) (fun hHeld => ?_)
          clear hK K
          refine wpAnyH_ready (rs := [13]) (by kernel_rfl) (by simp) ?_
          refine AllReadyH.cons rfl (fun K hK => ?_) (AllReadyH.nil)
          refine step_append_any (.tmp 13) (.tmp 15) 24 (by rfl) (by rfl) (w.heap.size + 2) 9 i0 _ 1 16 Tryz.underlying24 hi hz0 hz1 hz2 rfl (by decide) _ _ _ (by rfl) (cpy_row3 IV42) _ s.si.length (s.si.map Value.string) (by rfl) (Strs.ext HC.out (cpy_ext IV42)) SC.out (strs_one3 _) (by unfold maxLen; omega) (by omega) (cpy_le IV42) ?_
          intro aV43 cV43 V43 OV43 gV43 atV43
          have IV43 := cpy_app3 (q := s.si) IV42 (by unfold OwnStrs; simpa only [List.length_nil, List.map_nil, Nat.zero_add, List.nil_append] using OV43) gV43 atV43
          simp only [Nat.zero_add] at IV43 ⊢
          clear OV43 gV43 atV43
          (try dsimp only)
          refine hK.out _ _ (by exact IV43.held) (fun hHeld => ?_)
          clear hK K
          (refine wpAnyH_take (i := 14) (v := ?_) rfl (by kernel_rfl) (by kernel_rfl) (by kernel_rfl) (fun _ _ _ h => h) (Or.inl ⟨by rfl, ?_⟩) (by assumption) ?_; rotate_left; focus (intro w hSw; (try dsimp only at hSw); (try simp only [zk1, zk2, zk3]); go_simp; try with_reducible rfl)); (try simp only [zk1, zk2, zk3]); (try simp only [Act.put, zk4, zk5, zk6])
          obtain ⟨RR, PP, QQ, XF⟩ := cpy_fin IV43
          have r0 := IV43.2.1.2.1 0 _ rfl
          have r1 := IV43.2.1.2.1 1 _ rfl
          have r2 := IV43.2.1.2.1 2 _ rfl
          have r3 := IV43.2.1.2.1 3 _ rfl
          have f0 := IV43.2.1.2.2 0
          have f1 := IV43.2.1.2.2 1
          have f2 := IV43.2.1.2.2 2
          have f3 := IV43.2.1.2.2 3
          (refine wpAnyH_ready (rs := [15]) (by kernel_rfl) (by simp) ?_; refine AllReadyH.cons rfl (fun K hK => ?_) AllReadyH.nil; (try simp only [zk1, zk2, zk3]))
          go_simp
          generalize (((V43.setCell ⟨w.heap.size + 1, 0, none⟩ (.int .i64 s.at_)).setCell ⟨w.heap.size + 1, 1, none⟩ (.slice aV37 s.op.length cV37)).setCell ⟨w.heap.size + 1, 2, none⟩ (.slice aV42 s.sh.length cV42)).setCell ⟨w.heap.size + 1, 3, none⟩ (.slice aV43 s.si.length cV43) = WF at *
          (try dsimp only)
          refine hK.out _ _ (by exact ⟨PP.2.1 0 _ rfl, PP.2.1 1 _ rfl, PP.2.1 2 _ rfl, PP.2.1 3 _ rfl⟩) (fun hHeld => ?_)
          clear hK K
          refine wpAnyH_done (by kernel_rfl) ?_ _
          have k0 := RR.2.1 0 _ rfl
          have k1 := RR.2.1 1 _ rfl
          have k2 := RR.2.1 2 _ rfl
          have k3 := RR.2.1 3 _ rfl
          go_wp2
          refine bodyPost_ret (v := .agg #[.int .i64 s.at_, .slice aV37 s.op.length cV37, .slice aV42 s.sh.length cV42, .slice aV43 s.si.length cV43]) (by simp [results, Tryz.results89, go_sem, k0, k1, k2, k3]) rfl ⟨_, _, _, _, _, _, rfl, QQ, XF⟩
      · (try simp only [zk1, zk2, zk3])
        go_simp
        have IV44 := cpy_lit3 IV36
        generalize V36.alloc (Obj.cells #[] 9) = V44 at *
        (try dsimp only)
        refine hK.out _ _ (by exact IV44.held) (fun hHeld => ?_)
        clear hK K
        refine wpAnyH_ready (rs := [5]) (by kernel_rfl) (by simp) ?_
        refine AllReadyH.cons rfl (fun K hK => ?_) (AllReadyH.nil)
        refine step_append_any (.tmp 5) (.tmp 7) 24 (by rfl) (by rfl) (w.heap.size + 2) 9 i0 _ 1 16 Tryz.underlying24 hi hz0 hz1 hz2 rfl (by decide) _ _ _ (by rfl) (cpy_row1 IV44) _ s.op.length (s.op.map Value.string) (by rfl) (Strs.ext HA.out (cpy_ext IV44)) SA.out (strs_one3 _) (by unfold maxLen; omega) (by omega) (cpy_le IV44) ?_
        intro aV45 cV45 V45 OV45 gV45 atV45
        have IV45 := cpy_app1 (q := s.op) IV44 (by unfold OwnStrs; simpa only [List.length_nil, List.map_nil, Nat.zero_add, List.nil_append] using OV45) gV45 atV45
        simp only [Nat.zero_add] at IV45 ⊢
        clear OV45 gV45 atV45
        (try dsimp only)
        refine hK.out _ _ (by exact IV45.held) (fun hHeld => ?_)
        clear hK K
        refine wpAnyH_ready (rs := [9]) (by kernel_rfl) (by simp) ?_
        refine AllReadyH.cons rfl (fun K hK => ?_) (AllReadyH.nil)
        refine step_append_any (.tmp 9) (.tmp 11) 24 (by rfl) (by rfl) (w.heap.size + 2) 9 i0 _ 1 16 Tryz.underlying24 hi hz0 hz1 hz2 rfl (by decide) _ _ _ (by rfl) (cpy_row2 IV45) _ s.sh.length (s.sh.map Value.string) (by rfl) (Strs.ext HB.out (cpy_ext IV45)) SB.out (strs_one3 _) (by unfold maxLen; omega) (by omega) (cpy_le IV45) ?_
        intro aV46 cV46 V46 OV46 gV46 atV46
        have IV46 := cpy_app2 (q := s.sh) IV45 (by unfold OwnStrs; simpa only [List.length_nil, List.map_nil, Nat.zero_add, List.nil_append] using OV46) gV46 atV46
        simp only [Nat.zero_add] at IV46 ⊢
        clear OV46 gV46 atV46
        (try dsimp only)
        refine hK.out _ _ (by exact IV46.held) (fun hHeld => ?_)
        clear hK K
        refine wpAnyH_ready (rs := [13]) (by kernel_rfl) (by simp) ?_
        refine AllReadyH.cons rfl (fun K hK => ?_) (AllReadyH.nil)
        refine step_append_any (.tmp 13) (.tmp 15) 24 (by rfl) (by rfl) (w.heap.size + 2) 9 i0 _ 1 16 Tryz.underlying24 hi hz0 hz1 hz2 rfl (by decide) _ _ _ (by rfl) (cpy_row3 IV46) _ s.si.length (s.si.map Value.string) (by rfl) (Strs.ext HC.out (cpy_ext IV46)) SC.out (strs_one3 _) (by unfold maxLen; omega) (by omega) (cpy_le IV46) ?_
        intro aV47 cV47 V47 OV47 gV47 atV47
        have IV47 := cpy_app3 (q := s.si) IV46 (by unfold OwnStrs; simpa only [List.length_nil, List.map_nil, Nat.zero_add, List.nil_append] using OV47) gV47 atV47
        simp only [Nat.zero_add] at IV47 ⊢
        clear OV47 gV47 atV47
        (try dsimp only)
        refine hK.out _ _ (by exact IV47.held) (fun hHeld => ?_)
        clear hK K
        (refine wpAnyH_take (i := 14) (v := ?_) rfl (by kernel_rfl) (by kernel_rfl) (by kernel_rfl) (fun _ _ _ h => h) (Or.inl ⟨by rfl, ?_⟩) (by assumption) ?_; rotate_left; focus (intro w hSw; (try dsimp only at hSw); (try simp only [zk1, zk2, zk3]); go_simp; try with_reducible rfl)); (try simp only [zk1, zk2, zk3]); (try simp only [Act.put, zk4, zk5, zk6])
        obtain ⟨RR, PP, QQ, XF⟩ := cpy_fin IV47
        have r0 := IV47.2.1.2.1 0 _ rfl
        have r1 := IV47.2.1.2.1 1 _ rfl
        have r2 := IV47.2.1.2.1 2 _ rfl
        have r3 := IV47.2.1.2.1 3 _ rfl
        have f0 := IV47.2.1.2.2 0
        have f1 := IV47.2.1.2.2 1
        have f2 := IV47.2.1.2.2 2
        have f3 := IV47.2.1.2.2 3
        (refine wpAnyH_ready (rs := [15]) (by kernel_rfl) (by simp) ?_; refine AllReadyH.cons rfl (fun K hK => ?_) AllReadyH.nil; (try simp only [zk1, zk2, zk3]))
        go_simp
        generalize (((V47.setCell ⟨w.heap.size + 1, 0, none⟩ (.int .i64 s.at_)).setCell ⟨w.heap.size + 1, 1, none⟩ (.slice aV45 s.op.length cV45)).setCell ⟨w.heap.size + 1, 2, none⟩ (.slice aV46 s.sh.length cV46)).setCell ⟨w.heap.size + 1, 3, none⟩ (.slice aV47 s.si.length cV47) = WF at *
        (try dsimp only)
        refine hK.out _ _ (by exact ⟨PP.2.1 0 _ rfl, PP.2.1 1 _ rfl, PP.2.1 2 _ rfl, PP.2.1 3 _ rfl⟩) (fun hHeld => ?_)
        clear hK K
        refine wpAnyH_done (by kernel_rfl) ?_ _
        have k0 := RR.2.1 0 _ rfl
        have k1 := RR.2.1 1 _ rfl
        have k2 := RR.2.1 2 _ rfl
        have k3 := RR.2.1 3 _ rfl
        go_wp2
        refine bodyPost_ret (v := .agg #[.int .i64 s.at_, .slice aV45 s.op.length cV45, .slice aV46 s.sh.length cV46, .slice aV47 s.si.length cV47]) (by simp [results, Tryz.results89, go_sem, k0, k1, k2, k3]) rfl ⟨_, _, _, _, _, _, rfl, QQ, XF⟩
    · (try simp only [zk1, zk2, zk3])
      go_simp
      have IV48 := cpy_lit3 IV35
      generalize V35.alloc (Obj.cells #[] 9) = V48 at *
      (try dsimp only)
      refine hK.out _ _ (by exact IV48.held) (fun hHeld => ?_)
      clear hK K
      refine wpAnyH_ready (rs := [2]) (by kernel_rfl) (by simp) ?_
      refine AllReadyH.cons rfl (fun K hK => ?_) (AllReadyH.nil)
      (try simp only [zk1, zk2, zk3])
      go_simp
      have IV49 := cpy_lit1 IV48
      generalize V48.alloc (Obj.cells #[] 9) = V49 at *
      (try dsimp only)
      refine hK.out _ _ (by exact IV49.held) (fun hHeld => ?_)
      clear hK K
      refine wpAnyH_ready (rs := [5]) (by kernel_rfl) (by simp) ?_
      refine AllReadyH.cons rfl (fun K hK => ?_) (AllReadyH.nil)
      refine step_append_any (.tmp 5) (.tmp 7) 24 (by rfl) (by rfl) (w.heap.size + 2) 9 i0 _ 1 16 Tryz.underlying24 hi hz0 hz1 hz2 rfl (by decide) _ _ _ (by rfl) (cpy_row1 IV49) _ s.op.length (s.op.map Value.string) (by rfl) (Strs.ext HA.out (cpy_ext IV49)) SA.out (strs_one3 _) (by unfold maxLen; omega) (by omega) (cpy_le IV49) ?_
      intro aV50 cV50 V50 OV50 gV50 atV50
      have IV50 := cpy_app1 (q := s.op) IV49 (by unfold OwnStrs; simpa only [List.length_nil, List.map_nil, Nat.zero_add, List.nil_append] using OV50) gV50 atV50
      simp only [Nat.zero_add] at IV50 ⊢
      clear OV50 gV50 atV50
      (try dsimp only)
      refine hK.out _ _ (by exact IV50.held) (fun hHeld => ?_)
      clear hK K
      refine wpAnyH_ready (rs := [9]) (by kernel_rfl) (by simp) ?_
      refine AllReadyH.cons rfl (fun K hK => ?_) (AllReadyH.nil)
      refine step_append_any (.tmp 9) (.tmp 11) 24 (by rfl) (by rfl) (w.heap.size + 2) 9 i0 _ 1 16 Tryz.underlying24 hi hz0 hz1 hz2 rfl (by decide) _ _ _ (by rfl) (cpy_row2 IV50) _ s.sh.length (s.sh.map Value.string) (by rfl) (Strs.ext HB.out (cpy_ext IV50)) SB.out (strs_one3 _) (by unfold maxLen; omega) (by omega) (cpy_le IV50) ?_
      intro aV51 cV51 V51 OV51 gV51 atV51
      have IV51 := cpy_app2 (q := s.sh) IV50 (by unfold OwnStrs; simpa only [List.length_nil, List.map_nil, Nat.zero_add, List.nil_append] using OV51) gV51 atV51
      simp only [Nat.zero_add] at IV51 ⊢
      clear OV51 gV51 atV51
      (try dsimp only)
      refine hK.out _ _ (by exact IV51.held) (fun hHeld => ?_)
      clear hK K
      refine wpAnyH_ready (rs := [13]) (by kernel_rfl) (by simp) ?_
      refine AllReadyH.cons rfl (fun K hK => ?_) (AllReadyH.nil)
      refine step_append_any (.tmp 13) (.tmp 15) 24 (by rfl) (by rfl) (w.heap.size + 2) 9 i0 _ 1 16 Tryz.underlying24 hi hz0 hz1 hz2 rfl (by decide) _ _ _ (by rfl) (cpy_row3 IV51) _ s.si.length (s.si.map Value.string) (by rfl) (Strs.ext HC.out (cpy_ext IV51)) SC.out (strs_one3 _) (by unfold maxLen; omega) (by omega) (cpy_le IV51) ?_
      intro aV52 cV52 V52 OV52 gV52 atV52
      have IV52 := cpy_app3 (q := s.si) IV51 (by unfold OwnStrs; simpa only [List.length_nil, List.map_nil, Nat.zero_add, List.nil_append] using OV52) gV52 atV52
      simp only [Nat.zero_add] at IV52 ⊢
      clear OV52 gV52 atV52
      (try dsimp only)
      refine hK.out _ _ (by exact IV52.held) (fun hHeld => ?_)
      clear hK K
      (refine wpAnyH_take (i := 14) (v := ?_) rfl (by kernel_rfl) (by kernel_rfl) (by kernel_rfl) (fun _ _ _ h => h) (Or.inl ⟨by rfl, ?_⟩) (by assumption) ?_; rotate_left; focus (intro w hSw; (try dsimp only at hSw); (try simp only [zk1, zk2, zk3]); go_simp; try with_reducible rfl)); (try simp only [zk1, zk2, zk3]); (try simp only [Act.put, zk4, zk5, zk6])
      obtain ⟨RR, PP, QQ, XF⟩ := cpy_fin IV52
      have r0 := IV52.2.1.2.1 0 _ rfl
      have r1 := IV52.2.1.2.1 1 _ rfl
      have r2 := IV52.2.1.2.1 2 _ rfl
      have r3 := IV52.2.1.2.1 3 _ rfl
      have f0 := IV52.2.1.2.2 0
      have f1 := IV52.2.1.2.2 1
      have f2 := IV52.2.1.2.2 2
      have f3 := IV52.2.1.2.2 3
      (refine wpAnyH_ready (rs := [15]) (by kernel_rfl) (by simp) ?_; refine AllReadyH.cons rfl (fun K hK => ?_) AllReadyH.nil; (try simp only [zk1, zk2, zk3]))
      go_simp
      generalize (((V52.setCell ⟨w.heap.size + 1, 0, none⟩ (.int .i64 s.at_)).setCell ⟨w.heap.size + 1, 1, none⟩ (.slice aV50 s.op.length cV50)).setCell ⟨w.heap.size + 1, 2, none⟩ (.slice aV51 s.sh.length cV51)).setCell ⟨w.heap.size + 1, 3, none⟩ (.slice aV52 s.si.length cV52) = WF at *
      (try dsimp only)
      refine hK.out _ _ (by exact ⟨PP.2.1 0 _ rfl, PP.2.1 1 _ rfl, PP.2.1 2 _ rfl, PP.2.1 3 _ rfl⟩) (fun hHeld => ?_)
      clear hK K
      refine wpAnyH_done (by kernel_rfl) ?_ _
      have k0 := RR.2.1 0 _ rfl
      have k1 := RR.2.1 1 _ rfl
      have k2 := RR.2.1 2 _ rfl
      have k3 := RR.2.1 3 _ rfl
      go_wp2
      refine bodyPost_ret (v := .agg #[.int .i64 s.at_, .slice aV50 s.op.length cV50, .slice aV51 s.sh.length cV51, .slice aV52 s.si.length cV52]) (by simp [results, Tryz.results89, go_sem, k0, k1, k2, k3]) rfl ⟨_, _, _, _, _, _, rfl, QQ, XF⟩
  · (try simp only [zk1, zk2, zk3])
    go_simp
    have IV53 := cpy_lit3 I0
    generalize V0.alloc (Obj.cells #[] 9) = V53 at *
    (try dsimp only)
    refine hK.out _ _ (by exact IV53.held) (fun hHeld => ?_)
    clear hK K
    refine wpAnyH_ready (rs := [2, 6]) (by kernel_rfl) (by simp) ?_
    refine AllReadyH.cons rfl (fun K hK => ?_) (AllReadyH.cons rfl (fun K hK => ?_) (AllReadyH.nil))
    · (try simp only [zk1, zk2, zk3])
      go_simp
      have IV54 := cpy_lit1 IV53
      generalize V53.alloc (Obj.cells #[] 9) = V54 at *
      (try dsimp only)
      refine hK.out _ _ (by exact IV54.held) (fun hHeld => ?_)
      clear hK K
      refine wpAnyH_ready (rs := [5, 6]) (by kernel_rfl) (by simp) ?_
      refine AllReadyH.cons rfl (fun K hK => ?_) (AllReadyH.cons rfl (fun K hK => ?_) (AllReadyH.nil))
      · refine step_append_any (.tmp 5) (.tmp 7) 24 (by rfl) (by rfl) (w.heap.size + 2) 9 i0 _ 1 16 Tryz.underlying24 hi hz0 hz1 hz2 rfl (by decide) _ _ _ (by rfl) (cpy_row1 IV54) _ s.op.length (s.op.map Value.string) (by rfl) (Strs.ext HA.out (cpy_ext IV54)) SA.out (strs_one3 _) (by unfold maxLen; omega) (by omega) (cpy_le IV54) ?_
        intro aV55 cV55 V55 OV55 gV55 atV55
        have IV55 := cpy_app1 (q := s.op) IV54 (by unfold OwnStrs; simpa only [List.length_nil, List.map_nil, Nat.zero_add, List.nil_append] using OV55) gV55 atV55
        simp only [Nat.zero_add] at IV55 ⊢
        clear OV55 gV55 atV55
        (try dsimp only)
        refine hK.out _ _ (by exact IV55.held) (fun hHeld => ?_)
        clear hK K
        refine wpAnyH_ready (rs := [6]) (by kernel_rfl) (by simp) ?_
        refine AllReadyH.cons rfl (fun K hK => ?_) (AllReadyH.nil)
        (try simp only [zk1, zk2, zk3])
        go_simp
        have IV56 := cpy_lit2 IV55
        generalize V55.alloc (Obj.cells #[] 9) = V56 at *
        (try dsimp only)
        refine hK.out _ _ (by exact IV56.held) (fun hHeld => ?_)
        clear hK K
        refine wpAnyH_ready (rs := [9]) (by kernel_rfl) (by simp) ?_
        refine AllReadyH.cons rfl (fun K hK => ?_) (AllReadyH.nil)
        refine step_append_any (.tmp 9) (.tmp 11) 24 (by rfl) (by rfl) (w.heap.size + 2) 9 i0 _ 1 16 Tryz.underlying24 hi hz0 hz1 hz2 rfl (by decide) _ _ _ (by rfl) (cpy_row2 IV56) _ s.sh.length (s.sh.map Value.string) (by rfl) (Strs.ext HB.out (cpy_ext IV56)) SB.out (strs_one3 _) (by unfold maxLen; omega) (by omega) (cpy_le IV56) ?_
        intro aV57 cV57 V57 OV57 gV57 atV57
        have IV57 := cpy_app2 (q := s.sh) IV56 (by unfold OwnStrs; simpa only [List.length_nil, List.map_nil, Nat.zero_add, List.nil_append] using OV57) gV57 atV57
        simp only [Nat.zero_add] at IV57 ⊢
        clear OV57 gV57 atV57
        (try dsimp only)
        refine hK.out _ _ (by exact IV57.held) (fun hHeld => ?_)
        clear hK K
        refine wpAnyH_ready (rs := [13]) (by kernel_rfl) (by simp) ?_
        refine AllReadyH.cons rfl (fun K hK => ?_) (AllReadyH.nil)
        refine step_append_any (.tmp 13) (.tmp 15) 24 (by rfl) (by rfl) (w.heap.size + 2) 9 i0 _ 1 16 Tryz.underlying24 hi hz0 hz1 hz2 rfl (by decide) _ _ _ (by rfl) (cpy_row3 IV57) _ s.si.length (s.si.map Value.string) (by rfl) (Strs.ext HC.out (cpy_ext IV57)) SC.out (strs_one3 _) (by unfold maxLen; omega) (by omega) (cpy_le IV57) ?_
        intro aV58 cV58 V58 OV58 gV58 atV58
        have IV58 := cpy_app3 (q := s.si) IV57 (by unfold OwnStrs; simpa only [List.length_nil, List.map_nil, Nat.zero_add, List.nil_append] using OV58) gV58 atV58
        simp only [Nat.zero_add] at IV58 ⊢
        clear OV58 gV58 atV58
        (try dsimp only)
        refine hK.out _ _ (by exact IV58.held) (fun hHeld => ?_)
        clear hK K
        (refine wpAnyH_take (i := 14) (v := ?_) rfl (by kernel_rfl) (by kernel_rfl) (by kernel_rfl) (fun _ _ _ h => h) (Or.inl ⟨by rfl, ?_⟩) (by assumption) ?_; rotate_left; focus (intro w hSw; (try dsimp only at hSw); (try simp only [zk1, zk2, zk3]); go_simp; try with_reducible rfl)); (try simp only [zk1, zk2, zk3]); (try simp only [Act.put, zk4, zk5, zk6])
        obtain ⟨RR, PP, QQ, XF⟩ := cpy_fin IV58
        have r0 := IV58.2.1.2.1 0 _ rfl
        have r1 := IV58.2.1.2.1 1 _ rfl
        have r2 := IV58.2.1.2.1 2 _ rfl
        have r3 := IV58.2.1.2.1 3 _ rfl
        have f0 := IV58.2.1.2.2 0
        have f1 := IV58.2.1.2.2 1
        have f2 := IV58.2.1.2.2 2
        have f3 := IV58.2.1.2.2 3
        (refine wpAnyH_ready (rs := [15]) (by kernel_rfl) (by simp) ?_; refine AllReadyH.cons rfl (fun K hK => ?_) AllReadyH.nil; (try simp only [zk1, zk2, zk3]))
        go_simp
        generalize (((V58.setCell ⟨w.heap.size + 1, 0, none⟩ (.int .i64 s.at_)).setCell ⟨w.heap.size + 1, 1, none⟩ (.slice aV55 s.op.length cV55)).setCell ⟨w.heap.size + 1, 2, none⟩ (.slice aV57 s.sh.length cV57)).setCell ⟨w.heap.size + 1, 3, none⟩ (.slice aV58 s.si.length cV58) = WF at *
        (try dsimp only)
        refine hK.out _ _ (by exact ⟨PP.2.1 0 _ rfl, PP.2.1 1 _ rfl, PP.2.1 2 _ rfl, PP.2.1 3 _ rfl⟩) (fun hHeld => ?_)
        clear hK K
        refine wpAnyH_done (by kernel_rfl) ?_ _
        have k0 := RR.2.1 0 _ rfl
        have k1 := RR.2.1 1 _ rfl
        have k2 := RR.2.1 2 _ rfl
        have k3 := RR.2.1 3 _ rfl
        go_wp2
        refine bodyPost_ret (v := .agg #[.int .i64 s.at_, .slice aV55 s.op.length cV55, .slice aV57 s.sh.length cV57, .slice aV58 s.si.length cV58]) (by simp [results, Tryz.results89, go_sem, k0, k1, k2, k3]) rfl ⟨_, _, _, _, _, _, rfl, QQ, XF⟩
      · (try simp only [zk1, zk2, zk3])
        go_simp
        have IV59 := cpy_lit2 IV54
        generalize V54.alloc (Obj.cells #[] 9) = V59 at *
        (try dsimp only)
        refine hK.out _ _ (by exact IV59.held) (fun hHeld => ?_)
        clear hK K
        refine wpAnyH_ready (rs := [5]) (by kernel_rfl) (by simp) ?_
        refine AllReadyH.cons rfl (fun K hK => ?_) (AllReadyH.nil)
        refine step_append_any (.tmp 5) (.tmp 7) 24 (by rfl) (by rfl) (w.heap.size + 2) 9 i0 _ 1 16 Tryz.underlying24 hi hz0 hz1 hz2 rfl (by decide) _ _ _ (by rfl) (cpy_row1 IV59) _ s.op.length (s.op.map Value.string) (by rfl) (Strs.ext HA.out (cpy_ext IV59)) SA.out (strs_one3 _) (by unfold maxLen; omega) (by omega) (cpy_le IV59) ?_
        intro aV60 cV60 V60 OV60 gV60 atV60
        have IV60 := cpy_app1 (q := s.op) IV59 (by unfold OwnStrs; simpa only [List.length_nil, List.map_nil, Nat.zero_add, List.nil_append] using OV60) gV60 atV60
        simp only [Nat.zero_add] at IV60 ⊢
        clear OV60 gV60 atV60
        (try dsimp only)
        refine hK.out _ _ (by exact IV60.held) (fun hHeld => ?_)
        clear hK K
        refine wpAnyH_ready (rs := [9]) (by kernel_rfl) (by simp) ?_
        refine AllReadyH.cons rfl (fun K hK => ?_) (AllReadyH.nil)
        refine step_append_any (.tmp 9) (.tmp 11) 24 (by rfl) (by rfl) (w.heap.size + 2) 9 i0 _ 1 16 Tryz.underlying24 hi hz0 hz1 hz2 rfl (by decide) _ _ _ (by rfl) (cpy_row2 IV60) _ s.sh.length (s.sh.map Value.string) (by rfl) (Strs.ext HB.out (cpy_ext IV60)) SB.out (strs_one3 _) (by unfold maxLen; omega) (by omega) (cpy_le IV60) ?_
        intro aV61 cV61 V61 OV61 gV61 atV61
        have IV61 := cpy_app2 (q := s.sh) IV60 (by unfold OwnStrs; simpa only [List.length_nil, List.map_nil, Nat.zero_add, List.nil_append] using OV61) gV61 atV61
        simp only [Nat.zero_add] at IV61 ⊢
        clear OV61 gV61 atV61
        (try dsimp only)
        refine hK.out _ _ (by exact IV61.held) (fun hHeld => ?_)
        clear hK K
        refine wpAnyH_ready (rs := [13]) (by kernel_rfl) (by simp) ?_
        refine AllReadyH.cons rfl (fun K hK => ?_) (AllReadyH.nil)
        refine step_append_any (.tmp 13) (.tmp 15) 24 (by rfl) (by rfl) (w.heap.size + 2) 9 i0 _ 1 16 Tryz.underlying24 hi hz0 hz1 hz2 rfl (by decide) _ _ _ (by rfl) (cpy_row3 IV61) _ s.si.length (s.si.map Value.string) (by rfl) (Strs.ext HC.out (cpy_ext IV61)) SC.out (strs_one3 _) (by unfold maxLen; omega) (by omega) (cpy_le IV61) ?_
        intro aV62 cV62 V62 OV62 gV62 atV62
        have IV62 := cpy_app3 (q := s.si) IV61 (by unfold OwnStrs; simpa only [List.length_nil, List.map_nil, Nat.zero_add, List.nil_append] using OV62) gV62 atV62
        simp only [Nat.zero_add] at IV62 ⊢
        clear OV62 gV62 atV62
        (try dsimp only)
        refine hK.out _ _ (by exact IV62.held) (fun hHeld => ?_)
        clear hK K
        (refine wpAnyH_take (i := 14) (v := ?_) rfl (by kernel_rfl) (by kernel_rfl) (by kernel_rfl) (fun _ _ _ h => h) (Or.inl ⟨by rfl, ?_⟩) (by assumption) ?_; rotate_left; focus (intro w hSw; (try dsimp only at hSw); (try simp only [zk1, zk2, zk3]); go_simp; try with_reducible rfl)); (try simp only [zk1, zk2, zk3]); (try simp only [Act.put, zk4, zk5, zk6])
        obtain ⟨RR, PP, QQ, XF⟩ := cpy_fin IV62
        have r0 := IV62.2.1.2.1 0 _ rfl
        have r1 := IV62.2.1.2.1 1 _ rfl
        have r2 := IV62.2.1.2.1 2 _ rfl
        have r3 := IV62.2.1.2.1 3 _ rfl
        have f0 := IV62.2.1.2.2 0
        have f1 := IV62.2.1.2.2 1
        have f2 := IV62.2.1.2.2 2
        have f3 := IV62.2.1.2.2 3
        (refine wpAnyH_ready (rs := [15]) (by kernel_rfl) (by simp) ?_; refine AllReadyH.cons rfl (fun K hK => ?_) AllReadyH.nil; (try simp only [zk1, zk2, zk3]))
        go_simp
        generalize (((V62.setCell ⟨w.heap.size + 1, 0, none⟩ (.int .i64 s.at_)).setCell ⟨w.heap.size + 1, 1, none⟩ (.slice aV60 s.op.length cV60)).setCell ⟨w.heap.size + 1, 2, none⟩ (.slice aV61 s.sh.length cV61)).setCell ⟨w.heap.size + 1, 3, none⟩ (.slice aV62 s.si.length cV62) = WF at *
        (try dsimp only)
        refine hK.out _ _ (by exact ⟨PP.2.1 0 _ rfl, PP.2.1 1 _ rfl, PP.2.1 2 _ rfl, PP.2.1 3 _ rfl⟩) (fun hHeld => ?_)
        clear hK K
        refine wpAnyH_done (by kernel_rfl) ?_ _
        have k0 := RR.2.1 0 _ rfl
        have k1 := RR.2.1 1 _ rfl
        have k2 := RR.2.1 2 _ rfl
        have k3 := RR.2.1 3 _ rfl
        go_wp2
        refine bodyPost_ret (v := .agg #[.int .i64 s.at_, .slice aV60 s.op.length cV60, .slice aV61 s.sh.length cV61, .slice aV62 s.si.length cV62]) (by simp [results, Tryz.results89, go_sem, k0, k1, k2, k3]) rfl ⟨_, _, _, _, _, _, rfl, QQ, XF⟩
    · (try simp only [zk1, zk2, zk3])
      go_simp
      have IV63 := cpy_lit2 IV53
      generalize V53.alloc (Obj.cells #[] 9) = V63 at *
      (try dsimp only)
      refine hK.out _ _ (by exact IV63.held) (fun hHeld => ?_)
      clear hK K
      refine wpAnyH_ready (rs := [2]) (by kernel_rfl) (by simp) ?_
      refine AllReadyH.cons rfl (fun K hK => ?_) (AllReadyH.nil)
      (try simp only [zk1, zk2, zk3])
      go_simp
      have IV64 := cpy_lit1 IV63
      generalize V63.alloc (Obj.cells #[] 9) = V64 at *
      (try dsimp only)
      refine hK.out _ _ (by exact IV64.held) (fun hHeld => ?_)
      clear hK K
      refine wpAnyH_ready (rs := [5]) (by kernel_rfl) (by simp) ?_
      refine AllReadyH.cons rfl (fun K hK => ?_) (AllReadyH.nil)
      refine step_append_any (.tmp 5) (.tmp 7) 24 (by rfl) (by rfl) (w.heap.size + 2) 9 i0 _ 1 16 Tryz.underlying24 hi hz0 hz1 hz2 rfl (by decide) _ _ _ (by rfl) (cpy_row1 IV64) _ s.op.length (s.op.map Value.string) (by rfl) (Strs.ext HA.out (cpy_ext IV64)) SA.out (strs_one3 _) (by unfold maxLen; omega) (by omega) (cpy_le IV64) ?_
      intro aV65 cV65 V65 OV65 gV65 atV65
      have IV65 := cpy_app1 (q := s.op) IV64 (by unfold OwnStrs; simpa only [List.length_nil, List.map_nil, Nat.zero_add, List.nil_append] using OV65) gV65 atV65
      simp only [Nat.zero_add] at IV65 ⊢
      clear OV65 gV65 atV65
      (try dsimp only)
      refine hK.out _ _ (by exact IV65.held) (fun hHeld => ?_)
      clear hK K
      refine wpAnyH_ready (rs := [9]) (by kernel_rfl) (by simp) ?_
      refine AllReadyH.cons rfl (fun K hK => ?_) (AllReadyH.nil)
      refine step_append_any (.tmp 9) (.tmp 11) 24 (by rfl) (by rfl) (w.heap.size + 2) 9 i0 _ 1 16 Tryz.underlying24 hi hz0 hz1 hz2 rfl (by decide) _ _ _ (by rfl) (cpy_row2 IV65) _ s.sh.length (s.sh.map Value.string) (by rfl) (Strs.ext HB.out (cpy_ext IV65)) SB.out (strs_one3 _) (by unfold maxLen; omega) (by omega) (cpy_le IV65) ?_
      intro aV66 cV66 V66 OV66 gV66 atV66
      have IV66 := cpy_app2 (q := s.sh) IV65 (by unfold OwnStrs; simpa only [List.length_nil, List.map_nil, Nat.zero_add, List.nil_append] using OV66) gV66 atV66
      simp only [Nat.zero_add] at IV66 ⊢
      clear OV66 gV66 atV66
      (try dsimp only)
      refine hK.out _ _ (by exact IV66.held) (fun hHeld => ?_)
      clear hK K
      refine wpAnyH_ready (rs := [13]) (by kernel_rfl) (by simp) ?_
      refine AllReadyH.cons rfl (fun K hK => ?_) (AllReadyH.nil)
      refine step_append_any (.tmp 13) (.tmp 15) 24 (by rfl) (by rfl) (w.heap.size + 2) 9 i0 _ 1 16 Tryz.underlying24 hi hz0 hz1 hz2 rfl (by decide) _ _ _ (by rfl) (cpy_row3 IV66) _ s.si.length (s.si.map Value.string) (by rfl) (Strs.ext HC.out (cpy_ext IV66)) SC.out (strs_one3 _) (by unfold maxLen; omega) (by omega) (cpy_le IV66) ?_
      intro aV67 cV67 V67 OV67 gV67 atV67
      have IV67 := cpy_app3 (q := s.si) IV66 (by unfold OwnStrs; simpa only [List.length_nil, List.map_nil, Nat.zero_add, List.nil_append] using OV67) gV67 atV67
      simp only [Nat.zero_add] at IV67 ⊢
      clear OV67 gV67 atV67
      (try dsimp only)
      refine hK.out _ _ (by exact IV67.held) (fun hHeld => ?_)
      clear hK K
      (refine wpAnyH_take (i := 14) (v := ?_) rfl (by kernel_rfl) (by kernel_rfl) (by kernel_rfl) (fun _ _ _ h => h) (Or.inl ⟨by rfl, ?_⟩) (by assumption) ?_; rotate_left; focus (intro w hSw; (try dsimp only at hSw); (try simp only [zk1, zk2, zk3]); go_simp; try with_reducible rfl)); (try simp only [zk1, zk2, zk3]); (try simp only [Act.put, zk4, zk5, zk6])
      obtain ⟨RR, PP, QQ, XF⟩ := cpy_fin IV67
      have r0 := IV67.2.1.2.1 0 _ rfl
      have r1 := IV67.2.1.2.1 1 _ rfl
      have r2 := IV67.2.1.2.1 2 _ rfl
      have r3 := IV67.2.1.2.1 3 _ rfl
      have f0 := IV67.2.1.2.2 0
      have f1 := IV67.2.1.2.2 1
      have f2 := IV67.2.1.2.2 2
      have f3 := IV67.2.1.2.2 3
      (refine wpAnyH_ready (rs := [15]) (by kernel_rfl) (by simp) ?_; refine AllReadyH.cons rfl (fun K hK => ?_) AllReadyH.nil; (try simp only [zk1, zk2, zk3]))
      go_simp
      generalize (((V67.setCell ⟨w.heap.size + 1, 0, none⟩ (.int .i64 s.at_)).setCell ⟨w.heap.size + 1, 1, none⟩ (.slice aV65 s.op.length cV65)).setCell ⟨w.heap.size + 1, 2, none⟩ (.slice aV66 s.sh.length cV66)).setCell ⟨w.heap.size + 1, 3, none⟩ (.slice aV67 s.si.length cV67) = WF at *
      (try dsimp only)
      refine hK.out _ _ (by exact ⟨PP.2.1 0 _ rfl, PP.2.1 1 _ rfl, PP.2.1 2 _ rfl, PP.2.1 3 _ rfl⟩) (fun hHeld => ?_)
      clear hK K
      refine wpAnyH_done (by kernel_rfl) ?_ _
      have k0 := RR.2.1 0 _ rfl
      have k1 := RR.2.1 1 _ rfl
      have k2 := RR.2.1 2 _ rfl
      have k3 := RR.2.1 3 _ rfl
      go_wp2
      refine bodyPost_ret (v := .agg #[.int .i64 s.at_, .slice aV65 s.op.length cV65, .slice aV66 s.sh.length cV66, .slice aV67 s.si.length cV67]) (by simp [results, Tryz.results89, go_sem, k0, k1, k2, k3]) rfl ⟨_, _, _, _, _, _, rfl, QQ, XF⟩
end Go.Proofs.YtkphipgfcbckcaaGreatDoor

namespace Go.Proofs.YtkphipgfcbckcaaGreatDoor
open Go.RowKit

theorem own_forms2 {w : World} {base : Nat} {e : TypeId} {size n : Nat} {v : Value} {xs : List Value} (h : w.ownsRow base e size v n xs) : (v = .slice none 0 0 ∧ n = 0) ∨ ∃ g cap, v = .slice (some ⟨g, 0, none⟩) n cap := by
  rcases h.2 with ⟨h1, h2⟩ | ⟨g, cap, -, hv, -⟩
  · exact Or.inl ⟨h1, h2⟩
  · exact Or.inr ⟨g, cap, hv⟩
def Over (b : Nat) (v : Value) : Prop := ∀ g o n c, v = .slice (some ⟨g, o, none⟩) n c → b ≤ g
theorem Over.mono {b b' : Nat} {v : Value} (h : Over b v) (hb : b' ≤ b) : Over b' v := fun g o n c e => Nat.le_trans hb (h g o n c e)
theorem over_own {w : World} {base : Nat} {e : TypeId} {size n : Nat} {v : Value} {xs : List Value} (h : w.ownsRow base e size v n xs) : Over base v := by
  intro g o k c he
  rcases own_forms2 h with ⟨h1, -⟩ | ⟨g2, c2, h2⟩
  · rw [h1] at he; cases he
  · rw [h2] at he
    injection he with e1 e2 e3
    injection e1 with e1
    injection e1 with e1 e4
    subst e1
    rw [h2] at h
    exact (own_lt h g2 rfl).1
theorem over_at {b g o n c : Nat} (h : b ≤ g) : Over b (.slice (some ⟨g, o, none⟩) n c) := by
  intro g2 o2 k c2 he
  injection he with e1 e2 e3
  injection e1 with e1
  injection e1 with e1 e4
  omega
theorem strs_under {w : World} {b c : Nat} {v : Value} {xs : List ByteArray} (h : Strs w v xs) (ho : Over b v) (hc : c < b) (o : Nat) (u : Value) : Strs (w.setCell ⟨c, o, none⟩ u) v xs := by
  obtain ⟨h0, a1, c1, hv, hc1, hm, hg⟩ := h
  refine ⟨h0, a1, c1, hv, hc1, hm, ?_⟩
  rcases hg with h0 | ⟨g, o2, ha, hb, hg⟩
  · exact Or.inl h0
  · subst ha
    have hbg := ho g o2 _ _ hv
    exact Or.inr ⟨g, o2, rfl, by rw [World.size_setCell]; exact hb, fun j u2 hu => by rw [World.cell?_setCell_other _ _ _ _ (fun e => by have := congrArg Addr.block e; dsimp only at this; omega)]; exact hg j u2 hu⟩
def SigRd (w : World) (b : Nat) (v1 v2 v3 : Value) (s : SigV) : Prop := (Strs w v1 s.op ∧ Over b v1) ∧ (Strs w v2 s.sh ∧ Over b v2) ∧ (Strs w v3 s.si ∧ Over b v3)
theorem SigRd.ext {w w' : World} {b : Nat} {v1 v2 v3 : Value} {s : SigV} (h : SigRd w b v1 v2 v3 s) (hx : Ext w w') : SigRd w' b v1 v2 v3 s := ⟨⟨h.1.1.ext hx, h.1.2⟩, ⟨h.2.1.1.ext hx, h.2.1.2⟩, ⟨h.2.2.1.ext hx, h.2.2.2⟩⟩
theorem SigRd.mono {w : World} {b b' : Nat} {v1 v2 v3 : Value} {s : SigV} (h : SigRd w b v1 v2 v3 s) (hb : b' ≤ b) : SigRd w b' v1 v2 v3 s := ⟨⟨h.1.1, h.1.2.mono hb⟩, ⟨h.2.1.1, h.2.1.2.mono hb⟩, ⟨h.2.2.1, h.2.2.2.mono hb⟩⟩
theorem SigRd.set {w : World} {b c : Nat} {v1 v2 v3 : Value} {s : SigV} (h : SigRd w b v1 v2 v3 s) (hc : c < b) (o : Nat) (u : Value) : SigRd (w.setCell ⟨c, o, none⟩ u) b v1 v2 v3 s := ⟨⟨strs_under h.1.1 h.1.2 hc o u, h.1.2⟩, ⟨strs_under h.2.1.1 h.2.1.2 hc o u, h.2.1.2⟩, ⟨strs_under h.2.2.1 h.2.2.2 hc o u, h.2.2.2⟩⟩
theorem sigRd_of {w : World} {b : Nat} {v1 v2 v3 : Value} {s : SigV} (h : SigOwn w b v1 v2 v3 s) : SigRd w b v1 v2 v3 s := ⟨⟨h.1.strs, over_own h.1⟩, ⟨h.2.1.strs, over_own h.2.1⟩, ⟨h.2.2.1.strs, over_own h.2.2.1⟩⟩
end Go.Proofs.YtkphipgfcbckcaaGreatDoor

namespace Go.Proofs.YtkphipgfcbckcaaGreatDoor
open Go.RowKit

structure Hd where
  house : Int
  epoch : Int
  root : ByteArray
  prev : ByteArray
  deriving DecidableEq

def Hd.cells (l : Hd) : List Value := [.int .i64 l.house, .int .i64 l.epoch, .string l.root, .string l.prev]
def Hd.val (l : Hd) : Value := .agg #[.int .i64 l.house, .int .i64 l.epoch, .string l.root, .string l.prev]
theorem Hd.cells_len (l : Hd) : l.cells.length = 4 := rfl
def Hds (w : World) (v : Value) (xs : List Hd) : Prop := Row w 4 v xs.length (xs.flatMap Hd.cells)
theorem Hds.ext {w w' : World} {v : Value} {xs : List Hd} (h : Hds w v xs) (hx : Ext w w') : Hds w' v xs := Row.ext h hx
theorem Hds.form {w : World} {v : Value} {xs : List Hd} (h : Hds w v xs) : ∃ a c, v = .slice a xs.length c := by
  obtain ⟨-, a, c, rfl, -⟩ := h
  exact ⟨a, c, rfl⟩
theorem hd_c0 (xs : List Hd) (k : Nat) (h : k < xs.length) : (xs.flatMap Hd.cells)[k * 4]? = some (.int .i64 xs[k].house) := flat_get Hd.cells_len xs k 0 h (by omega)
theorem hd_c1 (xs : List Hd) (k : Nat) (h : k < xs.length) : (xs.flatMap Hd.cells)[k * 4 + 1]? = some (.int .i64 xs[k].epoch) := flat_get Hd.cells_len xs k 1 h (by omega)
theorem hd_c2 (xs : List Hd) (k : Nat) (h : k < xs.length) : (xs.flatMap Hd.cells)[k * 4 + 2]? = some (.string xs[k].root) := flat_get Hd.cells_len xs k 2 h (by omega)
theorem hd_c3 (xs : List Hd) (k : Nat) (h : k < xs.length) : (xs.flatMap Hd.cells)[k * 4 + 3]? = some (.string xs[k].prev) := flat_get Hd.cells_len xs k 3 h (by omega)
theorem infoHead : (Tryz.prog.info? 26).map (fun i => (i.zero, i.size, i.bytes)) = some (some (.agg #[.int .i64 0, .int .i64 0, .string ⟨#[]⟩, .string ⟨#[]⟩]), 4, 48) := by kernel_rfl
/-- v owns the heads xs, in blocks from base on -/
def OwnHds (w : World) (base : Nat) (v : Value) (xs : List Hd) : Prop := w.ownsRow base 26 4 v xs.length (xs.flatMap Hd.cells)
theorem OwnHds.mono {w : World} {b b' : Nat} {v : Value} {xs : List Hd} (h : OwnHds w b v xs) (hb : b' ≤ b) : OwnHds w b' v xs := own_mono h hb
theorem OwnHds.ext {w w' : World} {b : Nat} {v : Value} {xs : List Hd} (h : OwnHds w b v xs) (hx : Ext w w') : OwnHds w' b v xs := own_ext h hx

def hd0 : Hd := ⟨0, 0, ⟨#[]⟩, ⟨#[]⟩⟩
end Go.Proofs.YtkphipgfcbckcaaGreatDoor
namespace Go.Proofs.YtkphipgfcbckcaaGreatDoor
open Go.RowKit

/-- the hash of a head -/
def hdH2 (l : Hd) : ByteArray := headH l.house l.epoch l.root l.prev
/-- the hash of the last head -/
def lastH (ys : List Hd) : ByteArray := if ys.length = 0 then ⟨#[]⟩ else hdH2 (ys.getD (ys.length - 1) hd0)
theorem getD_hd (xs : List Hd) (i : Nat) (h : i < xs.length) (d : Hd) : xs.getD i d = xs[i] := by simp [List.getD, h]
/-- what a head must bear as the hash ahead of it -/
def prevT (xs : List Hd) (k : Nat) : ByteArray := lastH (xs.take k)
def goodHd (xs : List Hd) (house : Int) (k : Nat) : Bool :=
  match xs[k]? with
  | none => false
  | some l => headOk l.house l.epoch l.root l.prev && decide (l = ⟨house, (k : Int) + 1, l.root, prevT xs k⟩)
def chainOk (xs : List Hd) (house : Int) : Bool := (List.range xs.length).all (goodHd xs house)
theorem chain_step {xs : List Hd} {house : Int} {k : Nat} (h : ((List.range k).all (goodHd xs house)) = true) (g : goodHd xs house k = true) : ((List.range (k + 1)).all (goodHd xs house)) = true := by
  rw [List.range_succ, List.all_append, h]
  simp [g]
theorem chain_bad {xs : List Hd} {house : Int} {k : Nat} (hk : k < xs.length) (g : goodHd xs house k = false) : chainOk xs house = false := by
  rw [chainOk, List.all_eq_false]
  exact ⟨k, by simpa using hk, by simp [g]⟩
theorem good_eq {xs : List Hd} {house : Int} {k : Nat} (hk : k < xs.length) : goodHd xs house k = (headOk xs[k].house xs[k].epoch xs[k].root xs[k].prev && decide (xs[k] = ⟨house, (k : Int) + 1, xs[k].root, prevT xs k⟩)) := by
  rw [goodHd, List.getElem?_eq_getElem hk]

theorem good_yes {xs : List Hd} {house : Int} {k : Nat} {z : Hd} (h : goodHd xs house k = (headOk z.house z.epoch z.root z.prev && decide (z = ⟨house, (k : Int) + 1, z.root, prevT xs k⟩))) (hh : headOk z.house z.epoch z.root z.prev = true)
    (q : z.house = house ∧ z.epoch = (k : Int) + 1 ∧ z.prev.toList = (lastH (xs.take k)).toList) : goodHd xs house k = true := by
  rw [h, hh, Bool.true_and, decide_eq_true_eq]
  obtain ⟨q1, q2, q3⟩ := q
  rw [toList_inj] at q3
  cases z
  simp_all [prevT]
theorem good_not {xs : List Hd} {house : Int} {k : Nat} {z : Hd} (h : goodHd xs house k = (headOk z.house z.epoch z.root z.prev && decide (z = ⟨house, (k : Int) + 1, z.root, prevT xs k⟩)))
    (q : ¬ (z.house = house ∧ z.epoch = (k : Int) + 1 ∧ z.prev.toList = (lastH (xs.take k)).toList)) : goodHd xs house k = false := by
  rw [h, Bool.and_eq_false_iff]
  refine Or.inr (decide_eq_false fun e => q ?_)
  rw [e]
  exact ⟨rfl, rfl, rfl⟩

end Go.Proofs.YtkphipgfcbckcaaGreatDoor
