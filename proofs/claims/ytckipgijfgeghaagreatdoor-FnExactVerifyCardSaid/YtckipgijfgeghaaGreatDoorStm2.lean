/- Lists of stamps that are alike. -/
import Derived.Test.YtckipgijfgeghaaGreatDoorStm
import Derived.Deep.RegionHeld3
namespace Go.Proofs.YtckipgijfgeghaaGreatDoor
open Go.RowKit

theorem pure_at {xs ys : List StW} (hp : xs.map StW.pure = ys.map StW.pure) {k : Nat} (h1 : k < xs.length) (h2 : k < ys.length) : xs[k].pure = ys[k].pure := by
  have e : (xs.map StW.pure)[k]? = (ys.map StW.pure)[k]? := by rw [hp]
  rw [List.getElem?_map, List.getElem?_map, List.getElem?_eq_getElem h1, List.getElem?_eq_getElem h2] at e
  exact Option.some.inj e
set_option maxHeartbeats 800000 in
theorem laws_eqStampT (b : Int) (v1 v2 v3 u1 u2 u3 : Value) (s : SigV) (w : World) (h1 : Strs w v1 s.op) (h2 : Strs w v2 s.sh) (h3 : Strs w v3 s.si) (g1 : Strs w u1 s.op) (g2 : Strs w u2 s.sh) (g3 : Strs w u3 s.si) :
    Calls Tryz.prog 89 #[.agg #[.int .i64 b, .int .i64 s.at_, v1, v2, v3], .agg #[.int .i64 b, .int .i64 s.at_, u1, u2, u3]] w fun e w' => e = .returned (.bool true) ∧ Ext w w' := by
  obtain ⟨a1, c1, rfl⟩ := h1.form
  obtain ⟨a2, c2, rfl⟩ := h2.form
  obtain ⟨a3, c3, rfl⟩ := h3.form
  obtain ⟨b1, d1, rfl⟩ := g1.form
  obtain ⟨b2, d2, rfl⟩ := g2.form
  obtain ⟨b3, d3, rfl⟩ := g3.form
  go_enter Tryz.func89, Tryz.ntmps89
  go_wp2_with fail
  refine (laws_eqSigT _ _ _ _ _ _ s _ (h1.ext (by repeat (first | (with_reducible first | exact Ext.refl _ | assumption | apply Ext.alloc | apply Ext.drew | apply Ext.drewN | refine Ext.setCell ?_ ?_ _ | refine Ext.trans ?_ (by assumption)) | (show _ ≤ _; first | omega | (dsimp only; omega) | (simp; done) | (simp; omega))))) (h2.ext (by repeat (first | (with_reducible first | exact Ext.refl _ | assumption | apply Ext.alloc | apply Ext.drew | apply Ext.drewN | refine Ext.setCell ?_ ?_ _ | refine Ext.trans ?_ (by assumption)) | (show _ ≤ _; first | omega | (dsimp only; omega) | (simp; done) | (simp; omega))))) (h3.ext (by repeat (first | (with_reducible first | exact Ext.refl _ | assumption | apply Ext.alloc | apply Ext.drew | apply Ext.drewN | refine Ext.setCell ?_ ?_ _ | refine Ext.trans ?_ (by assumption)) | (show _ ≤ _; first | omega | (dsimp only; omega) | (simp; done) | (simp; omega))))) (g1.ext (by repeat (first | (with_reducible first | exact Ext.refl _ | assumption | apply Ext.alloc | apply Ext.drew | apply Ext.drewN | refine Ext.setCell ?_ ?_ _ | refine Ext.trans ?_ (by assumption)) | (show _ ≤ _; first | omega | (dsimp only; omega) | (simp; done) | (simp; omega))))) (g2.ext (by repeat (first | (with_reducible first | exact Ext.refl _ | assumption | apply Ext.alloc | apply Ext.drew | apply Ext.drewN | refine Ext.setCell ?_ ?_ _ | refine Ext.trans ?_ (by assumption)) | (show _ ≤ _; first | omega | (dsimp only; omega) | (simp; done) | (simp; omega))))) (g3.ext (by repeat (first | (with_reducible first | exact Ext.refl _ | assumption | apply Ext.alloc | apply Ext.drew | apply Ext.drewN | refine Ext.setCell ?_ ?_ _ | refine Ext.trans ?_ (by assumption)) | (show _ ≤ _; first | omega | (dsimp only; omega) | (simp; done) | (simp; omega)))))).mono ?_
  rintro e w2 ⟨rfl, x2⟩
  go_wp2
  go_ret
  exact ⟨rfl, (by repeat (first | (with_reducible first | exact Ext.refl _ | assumption | apply Ext.alloc | apply Ext.drew | apply Ext.drewN | refine Ext.setCell ?_ ?_ _ | refine Ext.trans ?_ (by assumption)) | (show _ ≤ _; first | omega | (dsimp only; omega) | (simp; done) | (simp; omega))))⟩
set_option maxRecDepth 100000 in
set_option maxHeartbeats 3200000 in
theorem laws_eqStampST (v1 v2 : Value) (xs ys : List StW) (w : World) (h1 : Sts w v1 xs) (h2 : Sts w v2 ys) (hp : xs.map StW.pure = ys.map StW.pure) :
    Calls Tryz.prog 45 #[v1, v2] w fun e w' => e = .returned (.bool true) ∧ Ext w w' := by
  obtain ⟨⟨-, a1, c1, rfl, hc1, hm1, g1⟩, hst1⟩ := h1
  obtain ⟨⟨-, a2, c2, rfl, hc2, hm2, g2⟩, hst2⟩ := h2
  unfold maxLen at hm1 hm2
  have hlen : xs.length = ys.length := by have h := congrArg List.length hp; simpa using h
  have hlb : ((xs.length : Int) != ys.length) = false := by simp [hlen]
  have HL := Lib.hid hlen
  clear hlen
  go_enter Tryz.func45, Tryz.ntmps45
  go_wp2
  go_loopw [5] (fun i wr => ∃ k : Nat, k ≤ xs.length ∧ i = .int .i64 k ∧ Ext w wr) (fun i _ => xs.length - (intOf i).toNat)
  case atStart => exact ⟨0, Nat.zero_le _, rfl, Ext.refl _⟩
  case round =>
    obtain ⟨k, hk, rfl, hx⟩ := hrel
    by_cases hlt : k < xs.length
    · rcases g1 with g1 | ⟨q1, o1, rfl, hb1, g1⟩
      · omega
      rcases g2 with g2 | ⟨q2, o2, rfl, hb2, g2⟩
      · have := HL.out; omega
      have hlt2 : k < ys.length := by have := HL.out; omega
      have e0 : wr.cell? ⟨q1, o1 + k * 5, none⟩ = some (.int .i64 xs[k].by_) := (hx.cell q1 _ hb1).trans (g1 _ _ (st_c0 xs k hlt))
      have d0 : wr.cell? ⟨q2, o2 + k * 5, none⟩ = some (.int .i64 ys[k].by_) := (hx.cell q2 _ hb2).trans (g2 _ _ (st_c0 ys k hlt2))
      have e1 : wr.cell? ⟨q1, o1 + k * 5 + 1, none⟩ = some (.int .i64 xs[k].s.at_) := (hx.cell q1 _ hb1).trans (g1 _ _ (st_c1 xs k hlt))
      have d1 : wr.cell? ⟨q2, o2 + k * 5 + 1, none⟩ = some (.int .i64 ys[k].s.at_) := (hx.cell q2 _ hb2).trans (g2 _ _ (st_c1 ys k hlt2))
      have e2 : wr.cell? ⟨q1, o1 + k * 5 + 2, none⟩ = some xs[k].v1 := (hx.cell q1 _ hb1).trans (g1 _ _ (st_c2 xs k hlt))
      have d2 : wr.cell? ⟨q2, o2 + k * 5 + 2, none⟩ = some ys[k].v1 := (hx.cell q2 _ hb2).trans (g2 _ _ (st_c2 ys k hlt2))
      have e3 : wr.cell? ⟨q1, o1 + k * 5 + 3, none⟩ = some xs[k].v2 := (hx.cell q1 _ hb1).trans (g1 _ _ (st_c3 xs k hlt))
      have d3 : wr.cell? ⟨q2, o2 + k * 5 + 3, none⟩ = some ys[k].v2 := (hx.cell q2 _ hb2).trans (g2 _ _ (st_c3 ys k hlt2))
      have e4 : wr.cell? ⟨q1, o1 + k * 5 + 4, none⟩ = some xs[k].v3 := (hx.cell q1 _ hb1).trans (g1 _ _ (st_c4 xs k hlt))
      have d4 : wr.cell? ⟨q2, o2 + k * 5 + 4, none⟩ = some ys[k].v3 := (hx.cell q2 _ hb2).trans (g2 _ _ (st_c4 ys k hlt2))
      have l1 : q1 < wr.heap.size := Nat.lt_of_lt_of_le hb1 hx.size
      have l2 : q2 < wr.heap.size := Nat.lt_of_lt_of_le hb2 hx.size
      obtain ⟨s1, s2, s3⟩ := hst1 xs[k] (List.getElem_mem hlt)
      obtain ⟨t1, t2, t3⟩ := hst2 ys[k] (List.getElem_mem hlt2)
      have hpk : xs[k].pure = ys[k].pure := pure_at hp hlt hlt2
      clear g1 g2 hst1 hst2 hp
      generalize xs[k] = x at *
      generalize ys[k] = y at *
      obtain ⟨xb, xs', xv1, xv2, xv3⟩ := x
      obtain ⟨yb, ys', yv1, yv2, yv3⟩ := y
      injection hpk with p1 p2
      dsimp only at *
      subst p1 p2
      obtain ⟨a1, c1', rfl⟩ := s1.form
      obtain ⟨a2, c2', rfl⟩ := s2.form
      obtain ⟨a3, c3', rfl⟩ := s3.form
      obtain ⟨b1, d1', rfl⟩ := t1.form
      obtain ⟨b2, d2', rfl⟩ := t2.form
      obtain ⟨b3, d3', rfl⟩ := t3.form
      go_wp2_with fail
      refine wp_region_held_drew (S := (fun W => W.cell? ⟨q1, o1 + k * 5, none⟩ = some (.int .i64 xb) ∧ W.cell? ⟨q1, o1 + k * 5 + 1, none⟩ = some (.int .i64 xs'.at_) ∧ W.cell? ⟨q1, o1 + k * 5 + 2, none⟩ = some (.slice a1 xs'.op.length c1') ∧ W.cell? ⟨q1, o1 + k * 5 + 3, none⟩ = some (.slice a2 xs'.sh.length c2') ∧ W.cell? ⟨q1, o1 + k * 5 + 4, none⟩ = some (.slice a3 xs'.si.length c3') ∧ W.cell? ⟨q2, o2 + k * 5, none⟩ = some (.int .i64 xb) ∧ W.cell? ⟨q2, o2 + k * 5 + 1, none⟩ = some (.int .i64 xs'.at_) ∧ W.cell? ⟨q2, o2 + k * 5 + 2, none⟩ = some (.slice b1 xs'.op.length d1') ∧ W.cell? ⟨q2, o2 + k * 5 + 3, none⟩ = some (.slice b2 xs'.sh.length d2') ∧ W.cell? ⟨q2, o2 + k * 5 + 4, none⟩ = some (.slice b3 xs'.si.length d3'))) (by kernel_rfl) (by exact ⟨e0, e1, e2, e3, e4, d0, d1, d2, d3, d4⟩) (fun hHeld => ?_)
      have xd : Ext wr wr.drew := (Ext.refl wr).drew
      replace e0 := (Ext.cell xd _ _ l1).trans e0
      replace d0 := (Ext.cell xd _ _ l2).trans d0
      replace e1 := (Ext.cell xd _ _ l1).trans e1
      replace d1 := (Ext.cell xd _ _ l2).trans d1
      replace e2 := (Ext.cell xd _ _ l1).trans e2
      replace d2 := (Ext.cell xd _ _ l2).trans d2
      replace e3 := (Ext.cell xd _ _ l1).trans e3
      replace d3 := (Ext.cell xd _ _ l2).trans d3
      replace e4 := (Ext.cell xd _ _ l1).trans e4
      replace d4 := (Ext.cell xd _ _ l2).trans d4
      replace l1 := Nat.lt_of_lt_of_le l1 (Ext.size xd)
      replace l2 := Nat.lt_of_lt_of_le l2 (Ext.size xd)
      replace hx := hx.trans xd
      generalize wr.drew = wq at *
      (refine wpAnyH_take (i := 0) (v := ?_) rfl (by kernel_rfl) (by kernel_rfl) (by kernel_rfl) (fun _ _ _ h => h) (Or.inl ⟨by rfl, ?_⟩) (by assumption) ?_; rotate_left; focus (intro w hSw; (try dsimp only at hSw); (try simp only [zk1, zk2]); go_simp; try with_reducible rfl)); (try simp only [zk1, zk2]); (try simp only [Act.put, zk4, zk5, zk6])
      (refine wpAnyH_take (i := 1) (v := ?_) rfl (by kernel_rfl) (by kernel_rfl) (by kernel_rfl) (fun _ _ _ h => h) (Or.inl ⟨by rfl, ?_⟩) (by assumption) ?_; rotate_left; focus (intro w hSw; (try dsimp only at hSw); (try simp only [zk1, zk2, zk3]); go_simp; try with_reducible rfl)); (try simp only [zk1, zk2, zk3]); (try simp only [Act.put, zk4, zk5, zk6])
      (refine wpAnyH_take (i := 2) (v := ?_) rfl (by kernel_rfl) (by kernel_rfl) (by kernel_rfl) (fun _ _ _ h => h) (Or.inl ⟨by rfl, ?_⟩) (by assumption) ?_; rotate_left; focus (intro w hSw; (try dsimp only at hSw); (try simp only [zk1, zk2, zk3]); go_simp; try with_reducible rfl)); (try simp only [zk1, zk2, zk3]); (try simp only [Act.put, zk4, zk5, zk6])
      (refine wpAnyH_take (i := 3) (v := ?_) rfl (by kernel_rfl) (by kernel_rfl) (by kernel_rfl) (fun _ _ _ h => h) (Or.inl ⟨by rfl, ?_⟩) (by assumption) ?_; rotate_left; focus (intro w hSw; (try dsimp only at hSw); (try simp only [zk1, zk2, zk3]); go_simp; try with_reducible rfl)); (try simp only [zk1, zk2, zk3]); (try simp only [Act.put, zk4, zk5, zk6])
      (refine wpAnyH_take (i := 4) (v := ?_) rfl (by kernel_rfl) (by kernel_rfl) (by kernel_rfl) (fun _ _ _ h => h) (Or.inl ⟨by rfl, ?_⟩) (by assumption) ?_; rotate_left; focus (intro w hSw; (try dsimp only at hSw); (try simp only [zk1, zk2, zk3]); go_simp; try with_reducible rfl)); (try simp only [zk1, zk2, zk3]); (try simp only [Act.put, zk4, zk5, zk6])
      (refine wpAnyH_take (i := 5) (v := ?_) rfl (by kernel_rfl) (by kernel_rfl) (by kernel_rfl) (fun _ _ _ h => h) (Or.inl ⟨by rfl, ?_⟩) (by assumption) ?_; rotate_left; focus (intro w hSw; (try dsimp only at hSw); (try simp only [zk1, zk2, zk3]); go_simp; try with_reducible rfl)); (try simp only [zk1, zk2, zk3]); (try simp only [Act.put, zk4, zk5, zk6])
      (refine wpAnyH_take (i := 6) (v := ?_) rfl (by kernel_rfl) (by kernel_rfl) (by kernel_rfl) (fun _ _ _ h => h) (Or.inl ⟨by rfl, ?_⟩) (by assumption) ?_; rotate_left; focus (intro w hSw; (try dsimp only at hSw); (try simp only [zk1, zk2, zk3]); go_simp; try with_reducible rfl)); (try simp only [zk1, zk2, zk3]); (try simp only [Act.put, zk4, zk5, zk6])
      (refine wpAnyH_take (i := 7) (v := ?_) rfl (by kernel_rfl) (by kernel_rfl) (by kernel_rfl) (fun _ _ _ h => h) (Or.inl ⟨by rfl, ?_⟩) (by assumption) ?_; rotate_left; focus (intro w hSw; (try dsimp only at hSw); (try simp only [zk1, zk2, zk3]); go_simp; try with_reducible rfl)); (try simp only [zk1, zk2, zk3]); (try simp only [Act.put, zk4, zk5, zk6])
      (refine wpAnyH_ready (rs := [8]) (by kernel_rfl) (by simp) ?_; refine AllReadyH.cons rfl (fun K hK => ?_) AllReadyH.nil; (try simp only [zk1, zk2, zk3]))
      go_simp
      go_at_call 89
      refine (laws_eqStampT _ _ _ _ _ _ _ xs' _ (s1.ext hx) (s2.ext hx) (s3.ext hx) (t1.ext hx) (t2.ext hx) (t3.ext hx)).mono ?_
      rintro e w2 ⟨rfl, x2⟩
      replace e0 := (Ext.cell x2 _ _ l1).trans e0
      replace d0 := (Ext.cell x2 _ _ l2).trans d0
      replace e1 := (Ext.cell x2 _ _ l1).trans e1
      replace d1 := (Ext.cell x2 _ _ l2).trans d1
      replace e2 := (Ext.cell x2 _ _ l1).trans e2
      replace d2 := (Ext.cell x2 _ _ l2).trans d2
      replace e3 := (Ext.cell x2 _ _ l1).trans e3
      replace d3 := (Ext.cell x2 _ _ l2).trans d3
      replace e4 := (Ext.cell x2 _ _ l1).trans e4
      replace d4 := (Ext.cell x2 _ _ l2).trans d4
      replace l1 := Nat.lt_of_lt_of_le l1 (Ext.size x2)
      replace l2 := Nat.lt_of_lt_of_le l2 (Ext.size x2)
      replace hx := hx.trans x2
      (try dsimp only)
      refine hK.out _ _ (by exact ⟨e0, e1, e2, e3, e4, d0, d1, d2, d3, d4⟩) (fun hHeld => ?_)
      clear hK K
      (refine wpAnyH_take (i := 9) (v := ?_) rfl (by kernel_rfl) (by kernel_rfl) (by kernel_rfl) (fun _ _ _ h => h) (Or.inl ⟨by rfl, ?_⟩) (by assumption) ?_; rotate_left; focus (intro w hSw; (try dsimp only at hSw); (try simp only [zk1, zk2, zk3]); go_simp; try with_reducible rfl)); (try simp only [zk1, zk2, zk3]); (try simp only [Act.put, zk4, zk5, zk6])
      refine wpAnyH_done (by kernel_rfl) ?_ _
      go_wp2
      go_roundw
      case rel => exact ⟨k + 1, by omega, by go_num, hx⟩
      case measure => simp [intOf]; omega
    · go_wp2
      go_ret
      exact ⟨rfl, hx⟩
end Go.Proofs.YtckipgijfgeghaaGreatDoor
