/- Slices of slices of leaves. -/
import Derived.Test.YtckipgijfgeghaaDoorLeafA
import Derived.Test.YtckipgijfgeghaaDoorMarkA
import Derived.Test.YtckipgijfgeghaaDoorStrA
import Derived.Test.YtckipgijfgeghaaDoorSol
namespace Go.Proofs.YtckipgijfgeghaaDoor
open Go.RowKit

def Lss (w : World) (v : Value) (xss : List (List Leaf)) : Prop := ∃ us : List Value, Row w 1 v xss.length us ∧ ∀ i (h : i < xss.length), ∃ u, us[i]? = some u ∧ Lvs w u xss[i]
theorem Lss.ext {w w' : World} {v : Value} {xss : List (List Leaf)} (h : Lss w v xss) (hx : Ext w w') : Lss w' v xss := by
  obtain ⟨us, h1, h2⟩ := h
  exact ⟨us, h1.ext hx, fun i hi => by obtain ⟨u, e, l⟩ := h2 i hi; exact ⟨u, e, l.ext hx⟩⟩
theorem Lss.form {w : World} {v : Value} {xss : List (List Leaf)} (h : Lss w v xss) : ∃ a c, v = .slice a xss.length c := by
  obtain ⟨us, ⟨-, a, c, rfl, -⟩, -⟩ := h
  exact ⟨a, c, rfl⟩
/-- how many leaves and bytes -/
def lssSize (xss : List (List Leaf)) : Nat := (xss.map fun xs => xs.length + leafBytes xs).sum
theorem lssSize_succ (xss : List (List Leaf)) (k : Nat) (hk : k < xss.length) : lssSize (xss.take (k + 1)) = lssSize (xss.take k) + (xss[k].length + leafBytes xss[k]) := by
  unfold lssSize
  rw [List.take_succ_eq_append_getElem hk, List.map_append, List.sum_append]
  simp
theorem lssSize_take (xss : List (List Leaf)) (k : Nat) : lssSize (xss.take k) ≤ lssSize xss := by
  have h : lssSize xss = lssSize (xss.take k) + lssSize (xss.drop k) := by
    unfold lssSize
    rw [← List.sum_append, ← List.map_append, List.take_append_drop]
  omega
/-- how many leaves -/
def lssNum (xss : List (List Leaf)) : Nat := (xss.map List.length).sum
theorem lssNum_succ (xss : List (List Leaf)) (k : Nat) (hk : k < xss.length) : lssNum (xss.take (k + 1)) = lssNum (xss.take k) + xss[k].length := by
  unfold lssNum
  rw [List.take_succ_eq_append_getElem hk, List.map_append, List.sum_append]
  simp
theorem lssNum_take (xss : List (List Leaf)) (k : Nat) : lssNum (xss.take k) ≤ lssNum xss := by
  have h : lssNum xss = lssNum (xss.take k) + lssNum (xss.drop k) := by
    unfold lssNum
    rw [← List.sum_append, ← List.map_append, List.take_append_drop]
  omega
theorem lssNum_size : ∀ xss : List (List Leaf), lssNum xss ≤ lssSize xss
  | [] => Nat.le_refl _
  | xs :: t => by
    have := lssNum_size t
    simp only [lssNum, lssSize, List.map_cons, List.sum_cons] at this ⊢
    omega
theorem lssNum_flat (xss : List (List Leaf)) : xss.flatten.length = lssNum xss := by rw [List.length_flatten]; rfl
theorem lss_len {xss : List (List Leaf)} {k : Nat} (hk : k < xss.length) : xss[k].length ≤ lssSize xss := by
  have h1 := lssSize_succ xss k hk
  have h2 := lssSize_take xss (k + 1)
  omega
def LssFit (xss : List (List Leaf)) : Prop := ∀ xs ∈ xss, LeafFit xs

/-- what lies in a slice of slices of one's own -/
def Kids (w : World) (b : Nat) (us : List Value) (xss : List (List Leaf)) : Prop := us.length = xss.length ∧ (∀ i (h : i < xss.length), ∃ u, us[i]? = some u ∧ OwnLvs w b u xss[i]) ∧ us.Pairwise Off
theorem Kids.ext {w w' : World} {b : Nat} {us : List Value} {xss : List (List Leaf)} (h : Kids w b us xss) (hx : Ext w w') : Kids w' b us xss :=
  ⟨h.1, fun i hi => by obtain ⟨u, e, l⟩ := h.2.1 i hi; exact ⟨u, e, l.ext hx⟩, h.2.2⟩
theorem Kids.none (w : World) (b : Nat) : Kids w b [] [] := ⟨rfl, fun i h => by simp at h, List.Pairwise.nil⟩
theorem Kids.mem {w : World} {b : Nat} {us : List Value} {xss : List (List Leaf)} (h : Kids w b us xss) {u : Value} (hu : u ∈ us) : ∃ xs, OwnLvs w b u xs := by
  obtain ⟨i, hi, rfl⟩ := List.mem_iff_getElem.1 hu
  obtain ⟨v, e, l⟩ := h.2.1 i (by rw [← h.1]; exact hi)
  rw [List.getElem?_eq_getElem hi] at e
  injection e with e
  exact ⟨_, e ▸ l⟩
theorem Kids.lt {w : World} {b : Nat} {us : List Value} {xss : List (List Leaf)} (h : Kids w b us xss) {u : Value} (hu : u ∈ us) : ∀ k, u.ownBlock = some k → b ≤ k ∧ k < w.heap.size := by
  obtain ⟨xs, l⟩ := h.mem hu
  exact own_lt l
theorem Kids.snoc {w w' : World} {b : Nat} {us : List Value} {xss : List (List Leaf)} {k : Nat} (hk : k < xss.length) (h : Kids w b us (xss.take k)) (hb : b ≤ w.heap.size) (hx : Ext w w') {u : Value} (hu : OwnLvs w' w.heap.size u xss[k]) : Kids w' b (us ++ [u]) (xss.take (k + 1)) := by
  have hl : us.length = k := by rw [h.1, List.length_take]; omega
  refine ⟨by simp [hl]; omega, fun i hi => ?_, ?_⟩
  · rw [List.length_take] at hi
    have hi' : i ≤ k := by omega
    have hgi : (xss.take (k + 1))[i]'(by rw [List.length_take]; exact hi) = xss[i] := List.getElem_take
    rw [hgi]
    rcases Nat.lt_or_eq_of_le hi' with hi2 | hi2
    · obtain ⟨v, e, l⟩ := h.2.1 i (by rw [List.length_take]; omega)
      have hgj : (xss.take k)[i]'(by rw [List.length_take]; omega) = xss[i] := List.getElem_take
      rw [hgj] at l
      exact ⟨v, by rw [List.getElem?_append_left (by omega)]; exact e, l.ext hx⟩
    · subst hi2
      exact ⟨u, by rw [List.getElem?_append_right (by omega), hl]; simp, hu.mono hb⟩
  · rw [List.pairwise_append]
    refine ⟨h.2.2, List.pairwise_singleton _ _, fun v hv u' hu' => ?_⟩
    rw [List.mem_singleton] at hu'
    subst hu'
    obtain ⟨xs, l⟩ := h.mem hv
    exact off_new l hu (Nat.le_refl _)

def OwnLss (w : World) (b : Nat) (v : Value) (us : List Value) (xss : List (List Leaf)) : Prop := w.ownsRow b 24 1 v xss.length us ∧ Kids w (b + 1) us xss ∧ ∀ u ∈ us, Off v u
theorem OwnLss.ext {w w' : World} {b : Nat} {v : Value} {us : List Value} {xss : List (List Leaf)} (h : OwnLss w b v us xss) (hx : Ext w w') : OwnLss w' b v us xss := ⟨own_ext h.1 hx, h.2.1.ext hx, h.2.2⟩
theorem OwnLss.lss {w : World} {b : Nat} {v : Value} {us : List Value} {xss : List (List Leaf)} (h : OwnLss w b v us xss) : Lss w v xss :=
  ⟨us, Row.of_owns h.1, fun i hi => by obtain ⟨u, e, l⟩ := h.2.1.2.1 i hi; exact ⟨u, e, l.lvs⟩⟩

theorem infoLvs : (Tryd.prog.info? 24).map (fun i => (i.zero, i.size, i.bytes)) = some (some (.slice none 0 0), 1, 24) := by kernel_rfl
theorem fill_set {us : List Value} {k n : Nat} (hl : us.length = k) (hk : k < n) (z u : Value) : (us ++ List.replicate (n - k) z).set k u = (us ++ [u]) ++ List.replicate (n - (k + 1)) z := by
  rw [List.set_append_right _ _ (by omega), hl, Nat.sub_self, show n - k = (n - (k + 1)) + 1 by omega, List.replicate_succ]
  simp
theorem fill_get {us : List Value} {k n : Nat} (hl : us.length = k) (hk : k < n) (z : Value) : (us ++ List.replicate (n - k) z)[k]? = some z := by
  rw [List.getElem?_append_right (by omega), List.getElem?_replicate, if_pos (by omega)]

theorem own_off {w : World} {base b o : Nat} {e : TypeId} {n len : Nat} {v : Value} {l : List Value} (h : w.ownsRow base e n v len l) (hb : ∀ k, v.ownBlock = some k → k ≠ b) (x : Value) : (w.setCell ⟨b, o, none⟩ x).ownsRow base e n v len l := own_grown2 h (row := some b) ⟨rfl, rfl, rfl, by simp [World.setCell], fun k _ hk => Below.heap_setCell _ _ _ _ (by simpa using hk)⟩ (fun k hk e => by cases hk; exact hb _ e rfl)
/-- the blocks of us alone have changed -/
structure Chg (us : List Value) (w w' : World) : Prop where
  os : w'.os = w.os
  tape : w'.tape = w.tape
  output : w'.output = w.output
  size : w.heap.size ≤ w'.heap.size
  block : ∀ i, i < w.heap.size → (∀ u ∈ us, u.ownBlock ≠ some i) → w'.heap[i]? = w.heap[i]?
theorem Chg.refl (us : List Value) (w : World) : Chg us w w := ⟨rfl, rfl, rfl, Nat.le_refl _, fun _ _ _ => rfl⟩
theorem Chg.more {us : List Value} {w w1 w2 : World} {u : Value} (h : Chg us w w1) (hg : w1.grownBy w2 u.ownBlock) : Chg (us ++ [u]) w w2 :=
  ⟨hg.os.trans h.os, hg.tape.trans h.tape, hg.output.trans h.output, Nat.le_trans h.size hg.size, fun i hi hn =>
    (hg.block i (Nat.lt_of_lt_of_le hi h.size) (fun e => hn u (by simp) e.symm)).trans (h.block i hi (fun v hv => hn v (by simp [hv])))⟩
theorem Chg.own {us : List Value} {w w' : World} (h : Chg us w w') {base : Nat} {e : TypeId} {size n : Nat} {v : Value} {l : List Value} (ho : w.ownsRow base e size v n l) (hf : ∀ u ∈ us, Off v u) : w'.ownsRow base e size v n l := by
  refine ⟨ho.1, ?_⟩
  rcases ho.2 with h2 | ⟨g, cap, cur, hv, hb, hh, r⟩
  · exact Or.inl h2
  · exact Or.inr ⟨g, cap, cur, hv, hb, (h.block g (Array.getElem?_eq_some_iff.1 hh).1 (fun u hu => hf u hu g (by rw [hv]; rfl))).trans hh, r⟩
theorem Chg.toExt {us : List Value} {w0 w w' : World} (h : Chg us w w') (hx : Ext w0 w) (hb : ∀ u ∈ us, ∀ k, u.ownBlock = some k → w0.heap.size ≤ k) : Ext w0 w' :=
  ⟨h.os.trans hx.os, h.tape.trans hx.tape, h.output.trans hx.output, Nat.le_trans hx.size h.size, fun i hi => (h.block i (Nat.lt_of_lt_of_le hi hx.size) (fun u hu e => by have := hb u hu i e; omega)).trans (hx.block i hi)⟩
theorem off_sym {u v : Value} (h : Off u v) : Off v u := fun g hg hq => h g hq hg

end Go.Proofs.YtckipgijfgeghaaDoor
