/- Slices of slices of leaves. -/
import Derived.Test.YtckipgijfgeghaaLeafA
import Derived.Test.YtckipgijfgeghaaMarkA
import Derived.Test.YtckipgijfgeghaaStrA
import Derived.Test.YtckipgijfgeghaaSol
namespace Go.Proofs.Ytckipgijfgeghaa
open Go.RowKit

def Lss (w : World) (v : Value) (xss : List (List Leaf)) : Prop := ∃ us : List Value, Row w 1 v xss.length us ∧ ∀ i (h : i < xss.length), ∃ u, us[i]? = some u ∧ Lvs w u xss[i]
theorem Lss.ext {w w' : World} {v : Value} {xss : List (List Leaf)} (h : Lss w v xss) (hx : Ext w w') : Lss w' v xss := by
  obtain ⟨us, h1, h2⟩ := h
  exact ⟨us, h1.ext hx, fun i hi => by obtain ⟨u, e, l⟩ := h2 i hi; exact ⟨u, e, l.ext hx⟩⟩
theorem Lss.form {w : World} {v : Value} {xss : List (List Leaf)} (h : Lss w v xss) : ∃ a c, v = .slice a xss.length c := by
  obtain ⟨us, ⟨-, a, c, rfl, -⟩, -⟩ := h
  exact ⟨a, c, rfl⟩
/-- how many leaves and bytes -/
def lssSize (xss : List (List Leaf)) : Nat := (xss.map fun xs => xs.length + leafBytes xs).sum
theorem lssSize_succ (xss : List (List Leaf)) (k : Nat) (hk : k < xss.length) : lssSize (xss.take (k + 1)) = lssSize (xss.take k) + (xss[k].length + leafBytes xss[k]) := by
  unfold lssSize
  rw [List.take_succ_eq_append_getElem hk, List.map_append, List.sum_append]
  simp
theorem lssSize_take (xss : List (List Leaf)) (k : Nat) : lssSize (xss.take k) ≤ lssSize xss := by
  have h : lssSize xss = lssSize (xss.take k) + lssSize (xss.drop k) := by
    unfold lssSize
    rw [← List.sum_append, ← List.map_append, List.take_append_drop]
  omega
/-- how many leaves -/
def lssNum (xss : List (List Leaf)) : Nat := (xss.map List.length).sum
theorem lssNum_succ (xss : List (List Leaf)) (k : Nat) (hk : k < xss.length) : lssNum (xss.take (k + 1)) = lssNum (xss.take k) + xss[k].length := by
  unfold lssNum
  rw [List.take_succ_eq_append_getElem hk, List.map_append, List.sum_append]
  simp
theorem lssNum_take (xss : List (List Leaf)) (k : Nat) : lssNum (xss.take k) ≤ lssNum xss := by
  have h : lssNum xss = lssNum (xss.take k) + lssNum (xss.drop k) := by
    unfold lssNum
    rw [← List.sum_append, ← List.map_append, List.take_append_drop]
  omega
theorem lssNum_size : ∀ xss : List (List Leaf), lssNum xss ≤ lssSize xss
  | [] => Nat.le_refl _
  | xs :: t => by
    have := lssNum_size t
    simp only [lssNum, lssSize, List.map_cons, List.sum_cons] at this ⊢
    omega
theorem lssNum_flat (xss : List (List Leaf)) : xss.flatten.length = lssNum xss := by rw [List.length_flatten]; rfl
theorem lss_len {xss : List (List Leaf)} {k : Nat} (hk : k < xss.length) : xss[k].length ≤ lssSize xss := by
  have h1 := lssSize_succ xss k hk
  have h2 := lssSize_take xss (k + 1)
  omega
def LssFit (xss : List (List Leaf)) : Prop := ∀ xs ∈ xss, LeafFit xs

set_option maxHeartbeats 800000 in
theorem laws_szLeafSS (v : Value) (xss : List (List Leaf)) (left : Int) (w : World) (h : Lss w v xss) (hl : 0 ≤ left ∧ left ≤ 1048576) (hs : LssFit xss) :
    Calls Try.prog 6 #[v, .int .i64 left] w fun e w' => e = .returned (.int .i64 (szr left (xss.length + lssSize xss))) ∧ Ext w w' := by
  obtain ⟨us, ⟨hlen, a1, c1, rfl, hc1, hm1, g1⟩, hu⟩ := h
  unfold maxLen at hm1
  obtain ⟨h1, h2⟩ := hl
  by_cases hneg : left < xss.length
  · go_enter Try.func6, Try.ntmps6
    go_wp2
    go_ret
    exact ⟨ret_int (by simp only [szr]; rw [if_pos (by omega)]), (by repeat (first | (with_reducible first | exact Ext.refl _ | assumption | apply Ext.alloc | apply Ext.drew | apply Ext.drewN | refine Ext.setCell ?_ ?_ _ | refine Ext.trans ?_ (by assumption)) | (show _ ≤ _; first | omega | (dsimp only; omega) | (simp; done) | (simp; omega))))⟩
  · have HU := Lib.hid hu
    have HL := Lib.hid hlen
    clear hu hlen
    go_enter Try.func6, Try.ntmps6
    go_wp2
    go_loopw [1, 5] (fun l i wr => ∃ k : Nat, k ≤ xss.length ∧ i = .int .i64 k ∧ l = .int .i64 (left - xss.length - lssSize (xss.take k)) ∧ 0 ≤ left - xss.length - lssSize (xss.take k) ∧ Ext w wr) (fun _ i _ => xss.length - (intOf i).toNat)
    case atStart => exact ⟨0, Nat.zero_le _, rfl, by simp [lssSize], by simp [lssSize]; omega, Ext.refl _⟩
    case round =>
      obtain ⟨k, hk, rfl, rfl, hge, hx⟩ := hrel
      by_cases hlt : k < xss.length
      · rcases g1 with g1 | ⟨b1, o1, rfl, hb1, g1⟩
        · omega
        obtain ⟨u, eu, lu⟩ := HU.out k hlt
        have e1 : wr.cell? ⟨b1, o1 + k, none⟩ = some u := (hx.cell b1 _ hb1).trans (g1 _ _ eu)
        obtain ⟨ua, uc, rfl⟩ := lu.form
        have hfk := hs xss[k] (List.getElem_mem hlt)
        have hsucc := lssSize_succ xss k hlt
        have hle := lssSize_take xss (k + 1)
        have HS := Lib.hid hsucc
        clear g1 hsucc hs eu
        generalize lssSize (xss.take k) = S at *
        have hz : (szr (left - xss.length - S) (xss[k].length + leafBytes xss[k]) = -1 ∧ left - xss.length - (S + (xss[k].length + leafBytes xss[k])) < 0) ∨ (szr (left - xss.length - S) (xss[k].length + leafBytes xss[k]) = left - xss.length - (S + (xss[k].length + leafBytes xss[k]) : Nat) ∧ 0 ≤ left - xss.length - (S + (xss[k].length + leafBytes xss[k]) : Nat)) := by
          simp only [szr]; split <;> omega
        generalize hzz : szr (left - xss.length - S) (xss[k].length + leafBytes xss[k]) = z at *
        have HZ := Lib.hid hzz
        clear hzz
        rcases hz with ⟨rfl, hz⟩ | ⟨hz1, hz⟩
        · go_wp2_with (go_at_call 29; refine (laws_szLeafS _ xss[k] _ _ (lu.ext (by repeat (first | (with_reducible first | exact Ext.refl _ | assumption | apply Ext.alloc | apply Ext.drew | apply Ext.drewN | refine Ext.setCell ?_ ?_ _ | refine Ext.trans ?_ (by assumption)) | (show _ ≤ _; first | omega | (dsimp only; omega) | (simp; done) | (simp; omega))))) (by omega) hfk).mono ?_; rw [HZ.out]; rintro e w1 ⟨rfl, x1⟩)
          go_ret
          exact ⟨ret_int (by have := HS.out; simp only [szr]; rw [if_pos (by omega)]), (by repeat (first | (with_reducible first | exact Ext.refl _ | assumption | apply Ext.alloc | apply Ext.drew | apply Ext.drewN | refine Ext.setCell ?_ ?_ _ | refine Ext.trans ?_ (by assumption)) | (show _ ≤ _; first | omega | (dsimp only; omega) | (simp; done) | (simp; omega))))⟩
        · have hz0 : 0 ≤ z := by omega
          have HZ1 := Lib.hid hz1
          clear hz1
          go_wp2_with (go_at_call 29; refine (laws_szLeafS _ xss[k] _ _ (lu.ext (by repeat (first | (with_reducible first | exact Ext.refl _ | assumption | apply Ext.alloc | apply Ext.drew | apply Ext.drewN | refine Ext.setCell ?_ ?_ _ | refine Ext.trans ?_ (by assumption)) | (show _ ≤ _; first | omega | (dsimp only; omega) | (simp; done) | (simp; omega))))) (by omega) hfk).mono ?_; rw [HZ.out]; rintro e w1 ⟨rfl, x1⟩)
          go_roundw
          case rel => exact ⟨k + 1, by omega, by go_num, by rw [HS.out, HZ1.out], by rw [HS.out]; omega, (by repeat (first | (with_reducible first | exact Ext.refl _ | assumption | apply Ext.alloc | apply Ext.drew | apply Ext.drewN | refine Ext.setCell ?_ ?_ _ | refine Ext.trans ?_ (by assumption)) | (show _ ≤ _; first | omega | (dsimp only; omega) | (simp; done) | (simp; omega))))⟩
          case measure => simp [intOf]; omega
      · have hkn : k = xss.length := by omega
        subst hkn
        rw [List.take_length] at *
        go_wp2
        go_ret
        exact ⟨ret_int (by simp only [szr]; rw [if_neg (by omega)]; omega), hx⟩

/-- what lies in a slice of slices of one's own -/
def Kids (w : World) (b : Nat) (us : List Value) (xss : List (List Leaf)) : Prop := us.length = xss.length ∧ (∀ i (h : i < xss.length), ∃ u, us[i]? = some u ∧ OwnLvs w b u xss[i]) ∧ us.Pairwise Off
theorem Kids.ext {w w' : World} {b : Nat} {us : List Value} {xss : List (List Leaf)} (h : Kids w b us xss) (hx : Ext w w') : Kids w' b us xss :=
  ⟨h.1, fun i hi => by obtain ⟨u, e, l⟩ := h.2.1 i hi; exact ⟨u, e, l.ext hx⟩, h.2.2⟩
theorem Kids.none (w : World) (b : Nat) : Kids w b [] [] := ⟨rfl, fun i h => by simp at h, List.Pairwise.nil⟩
theorem Kids.mem {w : World} {b : Nat} {us : List Value} {xss : List (List Leaf)} (h : Kids w b us xss) {u : Value} (hu : u ∈ us) : ∃ xs, OwnLvs w b u xs := by
  obtain ⟨i, hi, rfl⟩ := List.mem_iff_getElem.1 hu
  obtain ⟨v, e, l⟩ := h.2.1 i (by rw [← h.1]; exact hi)
  rw [List.getElem?_eq_getElem hi] at e
  injection e with e
  exact ⟨_, e ▸ l⟩
theorem Kids.lt {w : World} {b : Nat} {us : List Value} {xss : List (List Leaf)} (h : Kids w b us xss) {u : Value} (hu : u ∈ us) : ∀ k, u.ownBlock = some k → b ≤ k ∧ k < w.heap.size := by
  obtain ⟨xs, l⟩ := h.mem hu
  exact own_lt l
theorem Kids.snoc {w w' : World} {b : Nat} {us : List Value} {xss : List (List Leaf)} {k : Nat} (hk : k < xss.length) (h : Kids w b us (xss.take k)) (hb : b ≤ w.heap.size) (hx : Ext w w') {u : Value} (hu : OwnLvs w' w.heap.size u xss[k]) : Kids w' b (us ++ [u]) (xss.take (k + 1)) := by
  have hl : us.length = k := by rw [h.1, List.length_take]; omega
  refine ⟨by simp [hl]; omega, fun i hi => ?_, ?_⟩
  · rw [List.length_take] at hi
    have hi' : i ≤ k := by omega
    have hgi : (xss.take (k + 1))[i]'(by rw [List.length_take]; exact hi) = xss[i] := List.getElem_take
    rw [hgi]
    rcases Nat.lt_or_eq_of_le hi' with hi2 | hi2
    · obtain ⟨v, e, l⟩ := h.2.1 i (by rw [List.length_take]; omega)
      have hgj : (xss.take k)[i]'(by rw [List.length_take]; omega) = xss[i] := List.getElem_take
      rw [hgj] at l
      exact ⟨v, by rw [List.getElem?_append_left (by omega)]; exact e, l.ext hx⟩
    · subst hi2
      exact ⟨u, by rw [List.getElem?_append_right (by omega), hl]; simp, hu.mono hb⟩
  · rw [List.pairwise_append]
    refine ⟨h.2.2, List.pairwise_singleton _ _, fun v hv u' hu' => ?_⟩
    rw [List.mem_singleton] at hu'
    subst hu'
    obtain ⟨xs, l⟩ := h.mem hv
    exact off_new l hu (Nat.le_refl _)

def OwnLss (w : World) (b : Nat) (v : Value) (us : List Value) (xss : List (List Leaf)) : Prop := w.ownsRow b 24 1 v xss.length us ∧ Kids w (b + 1) us xss ∧ ∀ u ∈ us, Off v u
theorem OwnLss.ext {w w' : World} {b : Nat} {v : Value} {us : List Value} {xss : List (List Leaf)} (h : OwnLss w b v us xss) (hx : Ext w w') : OwnLss w' b v us xss := ⟨own_ext h.1 hx, h.2.1.ext hx, h.2.2⟩
theorem OwnLss.lss {w : World} {b : Nat} {v : Value} {us : List Value} {xss : List (List Leaf)} (h : OwnLss w b v us xss) : Lss w v xss :=
  ⟨us, Row.of_owns h.1, fun i hi => by obtain ⟨u, e, l⟩ := h.2.1.2.1 i hi; exact ⟨u, e, l.lvs⟩⟩

theorem infoLvs : (Try.prog.info? 24).map (fun i => (i.zero, i.size, i.bytes)) = some (some (.slice none 0 0), 1, 24) := by kernel_rfl
theorem fill_set {us : List Value} {k n : Nat} (hl : us.length = k) (hk : k < n) (z u : Value) : (us ++ List.replicate (n - k) z).set k u = (us ++ [u]) ++ List.replicate (n - (k + 1)) z := by
  rw [List.set_append_right _ _ (by omega), hl, Nat.sub_self, show n - k = (n - (k + 1)) + 1 by omega, List.replicate_succ]
  simp
theorem fill_get {us : List Value} {k n : Nat} (hl : us.length = k) (hk : k < n) (z : Value) : (us ++ List.replicate (n - k) z)[k]? = some z := by
  rw [List.getElem?_append_right (by omega), List.getElem?_replicate, if_pos (by omega)]

theorem own_off {w : World} {base b o : Nat} {e : TypeId} {n len : Nat} {v : Value} {l : List Value} (h : w.ownsRow base e n v len l) (hb : ∀ k, v.ownBlock = some k → k ≠ b) (x : Value) : (w.setCell ⟨b, o, none⟩ x).ownsRow base e n v len l := own_grown2 h (row := some b) ⟨rfl, rfl, rfl, by simp [World.setCell], fun k _ hk => Below.heap_setCell _ _ _ _ (by simpa using hk)⟩ (fun k hk e => by cases hk; exact hb _ e rfl)
set_option maxHeartbeats 800000 in
theorem laws_toLeafSS (v : Value) (xss : List (List Leaf)) (w : World) (h : Lss w v xss) (hb : xss.length + lssSize xss ≤ 1099511627776) :
    Calls Try.prog 8 #[v] w fun e w' => ∃ a c us, e = .returned (.slice a xss.length c) ∧ OwnLss w' w.heap.size (.slice a xss.length c) us xss ∧ Ext w w' := by
  obtain ⟨us0, ⟨hlen, a1, c1, rfl, hc1, hm1, g1⟩, hu⟩ := h
  have HU := Lib.hid hu
  have HL := Lib.hid hlen
  clear hu hlen
  unfold maxLen at hm1
  obtain ⟨i0, hi, hz0, hz1, hz2⟩ := info_parts infoLvs
  go_enter Try.func8, Try.ntmps8
  go_wp2_with (at_make; refine wpList_make_full _ rfl _ _ 27 rfl w.heap.size 24 i0 _ 1 Try.underlying27 hi hz0 hz1 _ _ _ _ xss.length rfl rfl rfl rfl (by rw [hz2]; omega) (by unfold maxLen; omega) (Nat.le_refl _) ?_; intro w1 hown1 hgrow1)
  have hx1 : Ext w w1 := (Ext.refl w).grown hgrow1 (by simp)
  have hsz1 : w.heap.size < w1.heap.size := (hown1.lt w.heap.size rfl).2
  rw [Nat.mul_one, show (Value.slice none 0 0).cells = #[.slice none 0 0] from rfl, toList_madeCells_one] at hown1
  have HO1 := Lib.hid hown1
  clear hown1 hgrow1
  go_loopw [4] (fun i wr => ∃ (k : Nat) (us : List Value), k ≤ xss.length ∧ i = .int .i64 k ∧ Ext w wr ∧ w.heap.size < wr.heap.size ∧
    Hid (wr.ownsRow w.heap.size 24 1 (.slice (some ⟨w.heap.size, 0, none⟩) xss.length xss.length) xss.length (us ++ List.replicate (xss.length - k) (.slice none 0 0)) ∧ Kids wr (w.heap.size + 1) us (xss.take k))) (fun i _ => xss.length - (intOf i).toNat)
  case atStart => exact ⟨0, [], Nat.zero_le _, rfl, hx1, hsz1, Lib.hid ⟨by simpa using HO1.out, Kids.none _ _⟩⟩
  case round =>
    obtain ⟨k, us, hk, rfl, hx, hsz, HK⟩ := hrel
    by_cases hlt : k < xss.length
    · rcases g1 with g1 | ⟨b1, o1, rfl, hb1, g1⟩
      · omega
      obtain ⟨u, eu, lu⟩ := HU.out k hlt
      have e1 : wr.cell? ⟨b1, o1 + k, none⟩ = some u := (hx.cell b1 _ hb1).trans (g1 _ _ eu)
      obtain ⟨ua, uc, rfl⟩ := lu.form
      have hul : us.length = k := by rw [HK.out.2.1, List.length_take]; omega
      have hkl := lss_len hlt
      clear g1 eu
      go_wp2_with fail
      refine (laws_toLeafS _ xss[k] _ (lu.ext (by repeat (first | (with_reducible first | exact Ext.refl _ | assumption | apply Ext.alloc | apply Ext.drew | apply Ext.drewN | refine Ext.setCell ?_ ?_ _ | refine Ext.trans ?_ (by assumption)) | (show _ ≤ _; first | omega | (dsimp only; omega) | (simp; done) | (simp; omega))))) (by omega)).mono ?_
      rintro e w2 ⟨ta, tc, rfl, ot, x2⟩
      have hown := own_ext HK.out.1 x2
      have e3 : w2.cell? ⟨w.heap.size, k, none⟩ = some (.slice none 0 0) := by rw [hown.cellAt _ (by omega)]; exact fill_get hul hlt _
      have e5 : w2.frozen? ⟨w.heap.size, k, none⟩ = false := hown.frozenAt k
      have S := (hown.stored k (.slice ta xss[k].length tc)).1
      rw [fill_set hul hlt] at S
      have K2 := HK.out.2.snoc hlt (by omega) x2 ot
      have hox : ∀ q, (Value.slice ta xss[k].length tc).ownBlock = some q → q ≠ w.heap.size := fun q hq => by have := (own_lt ot q hq).1; omega
      have K3 : Kids (w2.setCell ⟨w.heap.size, k, none⟩ (.slice ta xss[k].length tc)) (w.heap.size + 1) (us ++ [.slice ta xss[k].length tc]) (xss.take (k + 1)) :=
        ⟨K2.1, fun i hi => by
          obtain ⟨v, e, l⟩ := K2.2.1 i hi
          exact ⟨v, e, own_off l (fun q hq => by have := (own_lt l q hq).1; omega) _⟩, K2.2.2⟩
      have HS := Lib.hid S
      have HK3 := Lib.hid K3
      have hs2 : w.heap.size < w2.heap.size := Nat.lt_of_lt_of_le hsz x2.size
      clear S hown K2 K3 ot hox HK
      go_wp2
      go_roundw
      case rel => exact ⟨k + 1, us ++ [.slice ta xss[k].length tc], by omega, by go_num, (by repeat (first | (with_reducible first | exact Ext.refl _ | assumption | apply Ext.alloc | apply Ext.drew | apply Ext.drewN | refine Ext.setCell ?_ ?_ _ | refine Ext.trans ?_ (by assumption)) | (show _ ≤ _; first | omega | (dsimp only; omega) | (simp; done) | (simp; omega)))), by simpa [go_sem] using hs2, Lib.hid ⟨HS.out, HK3.out⟩⟩
      case measure => simp [intOf]; omega
    · have hkn : k = xss.length := by omega
      subst hkn
      clear g1
      go_wp2
      go_ret
      have hK := HK.out
      rw [List.take_length, Nat.sub_self, List.replicate_zero, List.append_nil] at hK
      refine ⟨_, _, us, rfl, ⟨hK.1, hK.2, fun u hu g hg hq => ?_⟩, hx⟩
      have h1 := (hK.2.lt hu g hq).1
      have h2 : some w.heap.size = some g := hg
      injection h2 with h2
      omega

set_option maxHeartbeats 800000 in
theorem laws_eqLeafSS (v1 v2 : Value) (xss : List (List Leaf)) (w : World) (h1 : Lss w v1 xss) (h2 : Lss w v2 xss) :
    Calls Try.prog 11 #[v1, v2] w fun e w' => e = .returned (.bool true) ∧ Ext w w' := by
  obtain ⟨us1, ⟨-, a1, c1, rfl, hc1, hm1, g1⟩, hu1⟩ := h1
  obtain ⟨us2, ⟨-, a2, c2, rfl, hc2, hm2, g2⟩, hu2⟩ := h2
  unfold maxLen at hm1 hm2
  have HU1 := Lib.hid hu1
  have HU2 := Lib.hid hu2
  clear hu1 hu2
  go_enter Try.func11, Try.ntmps11
  go_wp2
  go_loopw [5] (fun i wr => ∃ k : Nat, k ≤ xss.length ∧ i = .int .i64 k ∧ Ext w wr) (fun i _ => xss.length - (intOf i).toNat)
  case atStart => exact ⟨0, Nat.zero_le _, rfl, Ext.refl _⟩
  case round =>
    obtain ⟨k, hk, rfl, hx⟩ := hrel
    by_cases hlt : k < xss.length
    · rcases g1 with g1 | ⟨b1, o1, rfl, hb1, g1⟩
      · omega
      rcases g2 with g2 | ⟨b2, o2, rfl, hb2, g2⟩
      · omega
      obtain ⟨u1, eu1, lu1⟩ := HU1.out k hlt
      obtain ⟨u2, eu2, lu2⟩ := HU2.out k hlt
      have e1 : wr.cell? ⟨b1, o1 + k, none⟩ = some u1 := (hx.cell b1 _ hb1).trans (g1 _ _ eu1)
      have e2 : wr.cell? ⟨b2, o2 + k, none⟩ = some u2 := (hx.cell b2 _ hb2).trans (g2 _ _ eu2)
      obtain ⟨p1, q1, rfl⟩ := lu1.form
      obtain ⟨p2, q2, rfl⟩ := lu2.form
      have l1 : b1 < wr.heap.size := Nat.lt_of_lt_of_le hb1 hx.size
      have l2 : b2 < wr.heap.size := Nat.lt_of_lt_of_le hb2 hx.size
      clear g1 g2 eu1 eu2
      go_wp2_with fail
      go_region_held3 (fun W => W.cell? ⟨b1, o1 + k, none⟩ = some (.slice p1 xss[k].length q1) ∧ W.cell? ⟨b2, o2 + k, none⟩ = some (.slice p2 xss[k].length q2)) (first | exact ⟨e1, e2⟩ | exact ⟨(c6 _ _ l1).trans e1, (c6 _ _ l2).trans e2⟩) (first | (go_at_call 10; refine (laws_eqLeafS _ _ xss[k] xss[k] _ (lu1.ext (by repeat (first | (with_reducible first | exact Ext.refl _ | assumption | apply Ext.alloc | apply Ext.drew | apply Ext.drewN | refine Ext.setCell ?_ ?_ _ | refine Ext.trans ?_ (by assumption)) | (show _ ≤ _; first | omega | (dsimp only; omega) | (simp; done) | (simp; omega))))) (lu2.ext (by repeat (first | (with_reducible first | exact Ext.refl _ | assumption | apply Ext.alloc | apply Ext.drew | apply Ext.drewN | refine Ext.setCell ?_ ?_ _ | refine Ext.trans ?_ (by assumption)) | (show _ ≤ _; first | omega | (dsimp only; omega) | (simp; done) | (simp; omega)))))).mono ?_; rw [show decide (xss[k] = xss[k]) = true by simp]; rintro e w6 ⟨rfl, x6⟩; have c6 : ∀ k o, k < wr.heap.size → w6.cell? ⟨k, o, none⟩ = wr.cell? ⟨k, o, none⟩ := fun k o hk => x6.cell k o hk))
      go_wp2
      go_roundw
      case rel => exact ⟨k + 1, by omega, by go_num, (by repeat (first | (with_reducible first | exact Ext.refl _ | assumption | apply Ext.alloc | apply Ext.drew | apply Ext.drewN | refine Ext.setCell ?_ ?_ _ | refine Ext.trans ?_ (by assumption)) | (show _ ≤ _; first | omega | (dsimp only; omega) | (simp; done) | (simp; omega))))⟩
      case measure => simp [intOf]; omega
    · have hkn : k = xss.length := by omega
      subst hkn
      clear g1 g2
      go_wp2
      go_ret
      exact ⟨rfl, hx⟩

/-- the blocks of us alone have changed -/
structure Chg (us : List Value) (w w' : World) : Prop where
  os : w'.os = w.os
  tape : w'.tape = w.tape
  output : w'.output = w.output
  size : w.heap.size ≤ w'.heap.size
  block : ∀ i, i < w.heap.size → (∀ u ∈ us, u.ownBlock ≠ some i) → w'.heap[i]? = w.heap[i]?
theorem Chg.refl (us : List Value) (w : World) : Chg us w w := ⟨rfl, rfl, rfl, Nat.le_refl _, fun _ _ _ => rfl⟩
theorem Chg.more {us : List Value} {w w1 w2 : World} {u : Value} (h : Chg us w w1) (hg : w1.grownBy w2 u.ownBlock) : Chg (us ++ [u]) w w2 :=
  ⟨hg.os.trans h.os, hg.tape.trans h.tape, hg.output.trans h.output, Nat.le_trans h.size hg.size, fun i hi hn =>
    (hg.block i (Nat.lt_of_lt_of_le hi h.size) (fun e => hn u (by simp) e.symm)).trans (h.block i hi (fun v hv => hn v (by simp [hv])))⟩
theorem Chg.own {us : List Value} {w w' : World} (h : Chg us w w') {base : Nat} {e : TypeId} {size n : Nat} {v : Value} {l : List Value} (ho : w.ownsRow base e size v n l) (hf : ∀ u ∈ us, Off v u) : w'.ownsRow base e size v n l := by
  refine ⟨ho.1, ?_⟩
  rcases ho.2 with h2 | ⟨g, cap, cur, hv, hb, hh, r⟩
  · exact Or.inl h2
  · exact Or.inr ⟨g, cap, cur, hv, hb, (h.block g (Array.getElem?_eq_some_iff.1 hh).1 (fun u hu => hf u hu g (by rw [hv]; rfl))).trans hh, r⟩
theorem Chg.toExt {us : List Value} {w0 w w' : World} (h : Chg us w w') (hx : Ext w0 w) (hb : ∀ u ∈ us, ∀ k, u.ownBlock = some k → w0.heap.size ≤ k) : Ext w0 w' :=
  ⟨h.os.trans hx.os, h.tape.trans hx.tape, h.output.trans hx.output, Nat.le_trans hx.size h.size, fun i hi => (h.block i (Nat.lt_of_lt_of_le hi hx.size) (fun u hu e => by have := hb u hu i e; omega)).trans (hx.block i hi)⟩
theorem off_sym {u v : Value} (h : Off u v) : Off v u := fun g hg hq => h g hq hg

set_option maxHeartbeats 800000 in
theorem laws_markLeafSS (v : Value) (us : List Value) (xss : List (List Leaf)) (k : Int) (b : Nat) (w : World) (h : OwnLss w b v us xss) (hk : 1 ≤ k ∧ k + 2 * lssNum xss ≤ 1099511627776) :
    Calls Try.prog 12 #[v, .int .i64 k] w fun e w' => e = .returned (.int .i64 (k + 2 * lssNum xss)) ∧ Chg us w w' := by
  obtain ⟨a, c, rfl⟩ := h.lss.form
  have H := Lib.hid h
  have hm : xss.length ≤ 9223372036854775807 := by
    obtain ⟨-, a', c', he, hc, hm, -⟩ := Row.of_owns h.1
    injection he with e1 e2 e3
    unfold maxLen at hm
    omega
  clear h
  go_enter Try.func12, Try.ntmps12
  go_wp2
  go_loopw [1, 5] (fun q i wr => ∃ j : Nat, j ≤ xss.length ∧ i = .int .i64 j ∧ q = .int .i64 (k + 2 * (lssNum (xss.take j) : Int)) ∧ Hid (Chg (us.take j) w wr)) (fun _ i _ => xss.length - (intOf i).toNat)
  case atStart => exact ⟨0, Nat.zero_le _, rfl, by simp [lssNum], Lib.hid (Chg.refl _ _)⟩
  case round =>
    obtain ⟨j, hj, rfl, rfl, HC⟩ := hrel
    have hul := H.out.2.1.1
    by_cases hlt : j < xss.length
    · obtain ⟨u, eu, lu⟩ := H.out.2.1.2.1 j hlt
      have hju : j < us.length := by omega
      have hue : us[j] = u := by rw [List.getElem?_eq_getElem hju] at eu; injection eu
      have htk : us.take (j + 1) = us.take j ++ [u] := by rw [List.take_succ_eq_append_getElem hju, hue]
      have own1 := HC.out.own H.out.1 (fun u hu => H.out.2.2 u (List.mem_of_mem_take hu))
      have lu1 : OwnLvs wr (b + 1) u xss[j] := HC.out.own lu (fun u' hu' => by
        have hp := H.out.2.1.2.2
        rw [← List.take_append_drop j us, List.pairwise_append] at hp
        exact off_sym (hp.2.2 u' hu' u (by rw [List.drop_eq_getElem_cons hju, hue]; simp)))
      obtain ⟨g, cap, hv⟩ := own_form own1 (by omega)
      injection hv with q1 q2 q3
      subst q1 q3
      have e1 : wr.cell? ⟨g, j, none⟩ = some u := by rw [own1.cellAt _ (by omega)]; exact eu
      obtain ⟨ua, uc, rfl⟩ := own_any lu1
      have hgb := (own_lt own1 g rfl).2
      have hn := lssNum_succ xss j hlt
      have hle := lssNum_take xss (j + 1)
      have HN := Lib.hid hn
      have HT := Lib.hid htk
      have hb1 : 1 ≤ k + 2 * (lssNum (xss.take j) : Int) ∧ k + 2 * (lssNum (xss.take j) : Int) + 2 * (xss[j].length : Int) ≤ 1099511627776 := by omega
      have L1 := Lib.hid lu1
      clear lu lu1 own1 eu hue htk hn hle hul
      generalize lssNum (xss.take j) = S at *
      go_wp2_with fail
      refine (laws_markLeafS _ xss[j] _ _ _ (L1.out) (by omega)).mono ?_
      rintro e w2 ⟨rfl, -, g2⟩
      have C2 := Lib.hid (HC.out.more g2)
      clear g2
      go_wp2
      go_roundw
      case rel => exact ⟨j + 1, by omega, by go_num, by rw [HN.out]; go_num, Lib.hid (by rw [HT.out]; exact C2.out)⟩
      case measure => simp [intOf]; omega
    · have hjn : j = xss.length := by omega
      subst hjn
      have hC := HC.out
      rw [← hul, List.take_length] at hC
      rw [List.take_length] at *
      have HC2 := Lib.hid hC
      clear hC HC
      go_wp2
      go_ret
      exact ⟨rfl, HC2.out⟩
end Go.Proofs.Ytckipgijfgeghaa
