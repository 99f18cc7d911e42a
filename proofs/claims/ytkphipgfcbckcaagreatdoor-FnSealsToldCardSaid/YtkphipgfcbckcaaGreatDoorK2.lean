/- OwnP, Dig2, Sha4, Dig1, Dig3. -/
import Derived.Test.YtkphipgfcbckcaaGreatDoorK1
import Derived.Lib.AppendZerosOnto
import Derived.Lib.ConvBytes
import Derived.Laws.BytesArg
import Derived.Lib.AppendStr
import Derived.Deep.RegionLaw
import Derived.StillTailTactics
import Derived.Deep.RegionHeld3
import Derived.Deep.DrawnRows
import Derived.Deep.WholeRow
namespace Go.Proofs.YtkphipgfcbckcaaGreatDoor
open Go.RowKit

theorem zeroCells_u8 (m : Nat) : (Builtin.zeroCells (Value.int .u8 0).cells m).toList = List.replicate m (Value.int .u8 0) := by
  apply List.ext_getElem?
  intro j
  have hs : (Value.int IntKind.u8 0).cells = #[.int .u8 0] := rfl
  simp only [Builtin.zeroCells, hs, List.getElem?_replicate]
  by_cases hj : j < m
  · simp [hj, Nat.mod_one]
  · simp [hj]

/-- v, of n bytes, owns the cells xs; no cell of its row is frozen. -/
def OwnM (w : World) (base : Nat) (v : Value) (n : Nat) (xs : List Value) : Prop :=
  xs.length = n ∧ ∃ g cap cur lo hi, v = .slice (some ⟨g, 0, none⟩) n cap ∧ base ≤ g ∧ w.heap[g]? = some (.cells cur 5 (lo, hi)) ∧ (hi = 0 ∨ cur.size ≤ lo) ∧ n ≤ cap ∧ cap ≤ maxLen ∧ cur.size = cap ∧ cur.toList.take n = xs

theorem OwnM.form {w : World} {base n : Nat} {v : Value} {xs : List Value} (h : OwnM w base v n xs) : ∃ g cap, v = .slice (some ⟨g, 0, none⟩) n cap ∧ base ≤ g ∧ g < w.heap.size ∧ n ≤ cap ∧ cap ≤ maxLen := by
  obtain ⟨-, g, cap, cur, lo, hi, hv, hb, hg, -, hn, hc, -⟩ := h
  exact ⟨g, cap, hv, hb, (Array.getElem?_eq_some_iff.1 hg).1, hn, hc⟩
theorem OwnM.ext {w w' : World} {base n : Nat} {v : Value} {xs : List Value} (h : OwnM w base v n xs) (hx : Ext w w') : OwnM w' base v n xs := by
  obtain ⟨hl, g, cap, cur, lo, hi, hv, hb, hg, r⟩ := h
  exact ⟨hl, g, cap, cur, lo, hi, hv, hb, (hx.block g (Array.getElem?_eq_some_iff.1 hg).1).trans hg, r⟩
theorem OwnM.alloc {w : World} {base n : Nat} {v : Value} {xs : List Value} (h : OwnM w base v n xs) (o : Obj) : OwnM (w.alloc o) base v n xs := h.ext ((Ext.refl w).alloc o)

section
variable {P : Program}
theorem run_storeCells_m (g o : Nat) (t : TypeId) (lo hi : Nat) : ∀ (vs : List Value) (i : Nat) (cur : Array Value) (w : World), w.heap[g]? = some (.cells cur t (lo, hi)) → (hi = 0 ∨ cur.size ≤ lo) → o + i + vs.length ≤ cur.size → (∀ v ∈ vs, v.oneCell' = true) →
    (storeCells ⟨g, o, none⟩ vs i).run P w = .ok () (w.setRow g (cur.toList.take (o + i) ++ vs ++ cur.toList.drop (o + i + vs.length)).toArray)
  | [], i, cur, w, hg, _, _, _ => by
    simp only [storeCells, List.append_nil, List.length_nil, Nat.add_zero, List.take_append_drop, Array.toArray_toList]
    rw [setRow_self w g cur t (lo, hi) hg]
    rfl
  | v :: rest, i, cur, w, hg, hm, hl, h1 => by
    have hlt : o + i < cur.size := by simp at hl; omega
    have hadd : (⟨g, o, none⟩ : Addr).add i = ⟨g, o + i, none⟩ := by unfold Addr.add; split <;> simp_all
    have hcell : w.cell? ⟨g, o + i, none⟩ = some cur[o + i] := by simp [World.cell?, hg, hlt]
    have hfro : w.frozen? ⟨g, o + i, none⟩ = false := by
      simp only [World.frozen?, hg]
      rcases hm with hm | hm
      · subst hm; simp
      · simp; omega
    have hst : (store ((⟨g, o, none⟩ : Addr).add i) v).run P w = .ok () (w.setRow g (cur.setIfInBounds (o + i) v)) := by
      rw [hadd, run_store P w _ v _ (h1 v (by simp)), hcell]
      simp [hfro, setCell_eq_setRow w g (o + i) cur t (lo, hi) v hg]
    have ih := run_storeCells_m g o t lo hi rest (i + 1) (cur.setIfInBounds (o + i) v) (w.setRow g (cur.setIfInBounds (o + i) v)) (setRow_heap w g cur _ t _ hg) (by simpa using hm) (by simp at hl ⊢; omega) (fun x hx => h1 x (by simp [hx]))
    simp only [storeCells, Sem.run_bind, hst, Result.andThen_ok, ih, setRow_setRow]
    congr 3
    have e := list_seg_step cur.toList (o + i) v rest (by simp at hl ⊢; omega)
    simpa [Array.toList_setIfInBounds, Nat.add_assoc] using e

/-- behind a store of news into the room behind the elements -/
theorem own_room {w : World} {base n m g cap : Nat} {xs news : List Value} {cur : Array Value} {lo hi : Nat} (hxl : xs.length = n) (hl : news.length = m) (hbg : base ≤ g) (hg : w.heap[g]? = some (.cells cur 5 (lo, hi))) (hm : hi = 0 ∨ cur.size ≤ lo)
    (hroom : n + m ≤ cap) (hcm : cap ≤ maxLen) (hcs : cur.size = cap) (htake : cur.toList.take n = xs) :
    OwnM (w.setRow g (cur.toList.take n ++ news ++ cur.toList.drop (n + m)).toArray) base (.slice (some ⟨g, 0, none⟩) (n + m) cap) (n + m) (xs ++ news) ∧ w.grownBy (w.setRow g (cur.toList.take n ++ news ++ cur.toList.drop (n + m)).toArray) (some g) := by
  have hsz : (cur.toList.take n ++ news ++ cur.toList.drop (n + m)).toArray.size = cap := by
    simp only [List.size_toArray, List.length_append, List.length_take, List.length_drop, Array.length_toList]
    omega
  have hlen : (xs ++ news).length = n + m := by rw [List.length_append, hxl, hl]
  refine ⟨⟨hlen, g, cap, _, lo, hi, rfl, hbg, setRow_heap w g cur _ _ _ hg, by rw [hsz, ← hcs]; exact hm, hroom, hcm, hsz, ?_⟩, ⟨rfl, rfl, rfl, by simp, fun k _ hk => setRow_other w g k _ (fun e => hk (by rw [e]))⟩⟩
  rw [htake, ← hlen]
  exact List.take_left
/-- behind a new row -/
theorem own_new {w : World} {base n m old : Nat} {xs news : List Value} (hxl : xs.length = n) (hl : news.length = m) (hb : base ≤ w.heap.size) (hm : n + m ≤ maxLen) (row : Option Nat) :
    OwnM (w.drew.alloc (.cells (xs.toArray ++ news.toArray ++ Builtin.zeroCells (Value.int .u8 0).cells (grownCap w (n + m) old 5 - (n + m))) 5)) base (.slice (some ⟨w.heap.size, 0, none⟩) (n + m) (grownCap w (n + m) old 5)) (n + m) (xs ++ news) ∧
    w.grownBy (w.drew.alloc (.cells (xs.toArray ++ news.toArray ++ Builtin.zeroCells (Value.int .u8 0).cells (grownCap w (n + m) old 5 - (n + m))) 5)) row := by
  have hge := grownCap_ge w (n + m) old 5
  have hcm : grownCap w (n + m) old 5 ≤ maxLen := grownCap_le_maxLen w (n + m) old _ hm
  have hlen : (xs ++ news).length = n + m := by rw [List.length_append, hxl, hl]
  refine ⟨⟨hlen, w.heap.size, _, _, 0, 0, rfl, hb, heap_alloc_new w.drew _, Or.inl rfl, hge, hcm, ?_, ?_⟩, ⟨rfl, rfl, rfl, by simp, fun k hk _ => heap_alloc_old w.drew _ hk⟩⟩
  · have hz1 : (Value.int IntKind.u8 0).cells.size = 1 := rfl
    simp only [Array.size_append, List.size_toArray, size_zeroCells, hz1, hxl, hl]
    omega
  · simp only [Array.toList_append, List.append_assoc]
    rw [← List.append_assoc, ← hlen]
    exact List.take_left

theorem OwnM.cells {w : World} {base n g cap : Nat} {xs : List Value} (h : OwnM w base (.slice (some ⟨g, 0, none⟩) n cap) n xs) : ∀ j u, xs[j]? = some u → w.cell? ⟨g, j, none⟩ = some u := by
  obtain ⟨hl, g', cap', cur, lo, hi, hv, hb, hg, -, hn, hc, hs, ht⟩ := h
  injection hv with h1 h2 h3
  injection h1 with h1
  injection h1 with h1
  subst h1
  intro j u hj
  rw [cell_of_row w g j cur _ _ hg]
  rw [← ht] at hj
  have hjn : j < n := by
    have := (List.getElem?_eq_some_iff.1 hj).1
    rw [List.length_take] at this
    omega
  rw [List.getElem?_take_of_lt hjn] at hj
  simpa using hj

theorem run_append_m (w : World) (base : Nat) (t ty : TypeId) (i : TypeInfo) (ht : P.underlying t = some (.slice 5)) (hi : P.info? 5 = some i) (hz : i.zero = some (.int .u8 0)) (hsize : i.size = 1) (hby : i.bytes = 1)
    (n cap g : Nat) (xs : List Value) (hown : OwnM w base (.slice (some ⟨g, 0, none⟩) n cap) n xs) (a : Addr) (m c : Nat) (news : List Value) (hl : news.length = m) (hnews : ∀ j u, news[j]? = some u → w.cell? (a.add j) = some u) (h1 : ∀ u ∈ news, u.oneCell' = true)
    (h63 : n + m ≤ 1099511627776) (hbase : base ≤ w.heap.size) :
    ∃ v' w', (Builtin.append_ #[t, t] ty #[.slice (some ⟨g, 0, none⟩) n cap, .slice (some a) m c]).run P w = .ok v' w' ∧ OwnM w' base v' (n + m) (xs ++ news) ∧ w.grownBy w' (some g) := by
  have hcl := hown.cells
  obtain ⟨hxl, g', cap', cur, lo, hh, hv, hbg, hg, hm, hnc, hcm, hcs, htake⟩ := hown
  injection hv with e1 e2 e3
  injection e1 with e1
  injection e1 with e1
  subst e1 e3
  have hml : n + m ≤ maxLen := by unfold maxLen; omega
  by_cases hroom : n + m ≤ cap
  · have hf := run_firstCells_some (P := P) w i.size m a m c news (by rw [hsize, hl, Nat.mul_one]) hnews
    have hst := run_storeCells_m (P := P) g n 5 lo hh news 0 cur w hg hm (by rw [hl]; omega) h1
    simp only [Nat.add_zero] at hst
    rw [hl] at hst
    rw [hsize] at hf
    have hr : (Builtin.append_ #[t, t] ty #[.slice (some ⟨g, 0, none⟩) n cap, .slice (some a) m c]).run P w =
        .ok (.slice (some ⟨g, 0, none⟩) (n + m) cap) (w.setRow g (cur.toList.take n ++ news ++ cur.toList.drop (n + m)).toArray) := by
      simp [Builtin.append_, run_underlying ht, sizeOf, typeInfo, hi, hsize, Builtin.lenOf, hroom, hf, Addr.add_lit, hst]
    obtain ⟨q1, q2⟩ := own_room hxl hl hbg hg hm hroom hcm hcs htake
    exact ⟨_, _, hr, q1, q2⟩
  · have holds : ∀ j u, xs[j]? = some u → w.cell? ((⟨g, 0, none⟩ : Addr).add j) = some u := fun j u hj => by
      have : (⟨g, 0, none⟩ : Addr).add j = ⟨g, j, none⟩ := by unfold Addr.add; split <;> simp_all
      rw [this]
      exact hcl j u hj
    have hr := run_append_grow (P := P) w t ty 5 i (.int .u8 0) ht hi hz ⟨g, 0, none⟩ n cap xs (by rw [hsize, hxl, Nat.mul_one]) holds a m c news (by rw [hsize, hl, Nat.mul_one]) hnews (by omega) (by omega) (by rw [hby]; exact growslice_fits (by omega) (by omega))
    obtain ⟨q1, q2⟩ := own_new (w := w) (base := base) (old := cap) hxl hl hbase hml (some g)
    exact ⟨_, _, hr, q1, q2⟩
theorem run_append_m_zeros (w : World) (base : Nat) (t tn ty : TypeId) (i : TypeInfo) (ht : P.underlying t = some (.slice 5)) (htn : P.underlying tn = some (.int .i64)) (hi : P.info? 5 = some i) (hz : i.zero = some (.int .u8 0)) (hsize : i.size = 1) (hby : i.bytes = 1)
    (n cap g : Nat) (xs : List Value) (hown : OwnM w base (.slice (some ⟨g, 0, none⟩) n cap) n xs) (m : Nat) (h63 : n + m ≤ 1099511627776) (hbase : base ≤ w.heap.size) :
    ∃ v' w', (Builtin.append_ #[t, tn] ty #[.slice (some ⟨g, 0, none⟩) n cap, .int .i64 m]).run P w = .ok v' w' ∧ OwnM w' base v' (n + m) (xs ++ List.replicate m (.int .u8 0)) ∧ w.grownBy w' (some g) := by
  have hcl := hown.cells
  have hown0 := hown
  obtain ⟨hxl, g', cap', cur, lo, hh, hv, hbg, hg, hmk, hnc, hcm, hcs, htake⟩ := hown
  injection hv with e1 e2 e3
  injection e1 with e1
  injection e1 with e1
  subst e1 e3
  have hml : n + m ≤ maxLen := by unfold maxLen; omega
  have hw : IntKind.i64.wrap (m : Int) = m := by rw [IntKind.wrap_i64]; omega
  have hneg : ¬ ((m : Int) < 0) := by omega
  have h48i : ¬ (281474976710656 < (m : Int)) := by omega
  by_cases hm : m = 0
  · subst hm
    refine ⟨.slice (some ⟨g, 0, none⟩) n cap, w, ?_, by simpa using hown0, ⟨rfl, rfl, rfl, Nat.le_refl _, fun _ _ _ => rfl⟩⟩
    simp [Builtin.append_, run_underlying ht, run_underlying htn, sizeOf, typeInfo, hi, asInt, asIntOf, IntKind.wrap_i64, hnc, storeCells]
  · by_cases hroom : n + m ≤ cap
    · have hst := run_storeCells_m (P := P) g (n * i.size) 5 lo hh (List.replicate m (Value.int .u8 0)) 0 cur w hg hmk (by rw [hsize, List.length_replicate]; omega) (fun u hu => by rw [List.eq_of_mem_replicate hu]; rfl)
      simp only [Nat.add_zero] at hst
      rw [hsize, Nat.mul_one, List.length_replicate] at hst
      have hr : (Builtin.append_ #[t, tn] ty #[.slice (some ⟨g, 0, none⟩) n cap, .int .i64 m]).run P w =
          .ok (.slice (some ⟨g, 0, none⟩) (n + m) cap) (w.setRow g (cur.toList.take n ++ List.replicate m (Value.int .u8 0) ++ cur.toList.drop (n + m)).toArray) := by
        simp [Builtin.append_, run_underlying ht, run_underlying htn, sizeOf, typeInfo, zeroValue, hi, hz, hsize, hby, asInt, asIntOf, hw, hneg, h48i, hm, hroom, zeroCells_u8, Addr.add_lit, hst]
      obtain ⟨q1, q2⟩ := own_room (news := List.replicate m (Value.int .u8 0)) hxl (List.length_replicate ..) hbg hg hmk hroom hcm hcs htake
      exact ⟨_, _, hr, q1, q2⟩
    · have holds : ∀ j u, xs[j]? = some u → w.cell? ((⟨g, 0, none⟩ : Addr).add j) = some u := fun j u hj => by
        have : (⟨g, 0, none⟩ : Addr).add j = ⟨g, j, none⟩ := by unfold Addr.add; split <;> simp_all
        rw [this]
        exact hcl j u hj
      have hf : (Builtin.firstCells i.size n (.slice (some ⟨g, 0, none⟩) n cap)).run P w.drew = .ok xs.toArray w.drew :=
        run_firstCells_some (P := P) w.drew i.size n ⟨g, 0, none⟩ n cap xs (by rw [hsize, hxl, Nat.mul_one]) holds
      have hr := Lib.run_append_grow_zeros (P := P) w t tn ty 5 i (.int .u8 0) .i64 .i64 ht htn hi hz (some ⟨g, 0, none⟩) n cap xs hf m (by omega) (by omega) (by omega) (by omega) (by rw [hby]; omega) (by rw [hby]; exact growslice_fits (by omega) (by omega))
      obtain ⟨q1, q2⟩ := own_new (w := w) (base := base) (old := cap) (news := List.replicate m (Value.int .u8 0)) hxl (List.length_replicate ..) hbase hml (some g)
      have hz2 : Builtin.zeroCells (Value.int IntKind.u8 0).cells m = (List.replicate m (Value.int .u8 0)).toArray := by
        apply Array.ext'
        rw [zeroCells_u8]
      rw [hz2] at hr
      exact ⟨_, _, hr, q1, q2⟩

theorem wpList_append_m {ops : Array Oper} {rest : List Oper} {o : Oper} {a : Act} {w : World} {Q : Exit → Act → World → Prop} (hgd : o.guard = none) (sl x : Operand) (t : TypeId)
    (ho : o.op = .call { callee := .builtin .append, args := #[sl, x], argTypes := #[t, t] }) (base : Nat) (i : TypeInfo) (ht : P.underlying t = some (.slice 5)) (hi : P.info? 5 = some i) (hz : i.zero = some (.int .u8 0)) (hsize : i.size = 1) (hby : i.bytes = 1)
    (n cap g : Nat) (xs : List Value) (hs : a.eval sl = .slice (some ⟨g, 0, none⟩) n cap) (hown : OwnM w base (.slice (some ⟨g, 0, none⟩) n cap) n xs) (ad : Addr) (m c : Nat) (news : List Value) (hx : a.eval x = .slice (some ad) m c) (hl : news.length = m)
    (hnews : ∀ j u, news[j]? = some u → w.cell? (ad.add j) = some u) (h1 : ∀ u ∈ news, u.oneCell' = true) (h63 : n + m ≤ 1099511627776) (hbase : base ≤ w.heap.size)
    (h : ∀ v' w', OwnM w' base v' (n + m) (xs ++ news) → w.grownBy w' (some g) → wpList P ops Q rest (a.put o.dst v') w') : wpList P ops Q (o :: rest) a w := by
  obtain ⟨v', w', hr, q1, q2⟩ := run_append_m w base t o.type i ht hi hz hsize hby n cap g xs hown ad m c news hl hnews h1 h63 hbase
  exact Lib.wpList_append_run w hgd sl x t t ho _ _ hs hx v' w' hr (h v' w' q1 q2)
theorem wpList_append_m_zeros {ops : Array Oper} {rest : List Oper} {o : Oper} {a : Act} {w : World} {Q : Exit → Act → World → Prop} (hgd : o.guard = none) (sl x : Operand) (t tn : TypeId)
    (ho : o.op = .call { callee := .builtin .append, args := #[sl, x], argTypes := #[t, tn] }) (base : Nat) (i : TypeInfo) (ht : P.underlying t = some (.slice 5)) (htn : P.underlying tn = some (.int .i64)) (hi : P.info? 5 = some i) (hz : i.zero = some (.int .u8 0)) (hsize : i.size = 1) (hby : i.bytes = 1)
    (n cap g : Nat) (xs : List Value) (hs : a.eval sl = .slice (some ⟨g, 0, none⟩) n cap) (hown : OwnM w base (.slice (some ⟨g, 0, none⟩) n cap) n xs) (m : Nat) (hx : a.eval x = .int .i64 m) (h63 : n + m ≤ 1099511627776) (hbase : base ≤ w.heap.size)
    (h : ∀ v' w', OwnM w' base v' (n + m) (xs ++ List.replicate m (.int .u8 0)) → w.grownBy w' (some g) → wpList P ops Q rest (a.put o.dst v') w') : wpList P ops Q (o :: rest) a w := by
  obtain ⟨v', w', hr, q1, q2⟩ := run_append_m_zeros w base t tn o.type i ht htn hi hz hsize hby n cap g xs hown m h63 hbase
  exact Lib.wpList_append_run w hgd sl x t tn ho _ _ hs hx v' w' hr (h v' w' q1 q2)
end

/-- '[]byte(s)' -/
theorem bytes_own (w : World) (s : ByteArray) (h : s.size ≤ maxLen) : OwnM (Lib.bytesWorld w 5 s) w.heap.size (.slice (some ⟨w.heap.size, 0, none⟩) s.size (grownCap w s.size 0 5)) s.size (Lib.strCells s) := by
  have hge := grownCap_ge w s.size 0 5
  have hsz : (Lib.bytesCells w 5 s).size = grownCap w s.size 0 5 := by
    have e : s.data.size = s.size := rfl
    simp only [Lib.bytesCells, Array.size_append, Array.size_map, Array.size_replicate, e]
    omega
  refine ⟨Lib.strCells_length s, w.heap.size, _, _, _, _, rfl, Nat.le_refl _, Lib.bytesWorld_at_new w _ s, Or.inr (Nat.le_refl _), hge, grownCap_le_maxLen w s.size 0 _ h, hsz, ?_⟩
  have e : ((s.data.map fun b => Value.int IntKind.u8 b.toNat)).toList = Lib.strCells s := by simp [Lib.strCells]
  rw [Lib.bytesCells, Array.toList_append, e]
  have hl := Lib.strCells_length s
  rw [← hl]
  exact List.take_left
theorem bytes_ext (w : World) (s : ByteArray) : Ext w (Lib.bytesWorld w 5 s) := by
  refine ⟨?_, ?_, ?_, ?_, fun k hk => Lib.bytesWorld_at_old w _ s k hk⟩
  · simp only [Lib.bytesWorld, World.freeze]; rfl
  · simp only [Lib.bytesWorld, World.freeze]; rfl
  · simp only [Lib.bytesWorld, World.freeze]; rfl
  · rw [Lib.bytesWorld_size]; omega
theorem OwnM.str {w : World} {base n g cap : Nat} {xs : List Int} (h : OwnM w base (.slice (some ⟨g, 0, none⟩) n cap) n (xs.map (Value.int .u8))) :
    (convert 22 9 (.slice (some ⟨g, 0, none⟩) n cap)).run Tryz.prog w = .ok (.string (strOfNums xs)) w := by
  have hl : xs.length = n := by simpa using h.1
  refine run_convert_bytes_arg _ _ _ Tryz.underlying22 Tryz.underlying5 _ 0 _ _ xs hl (fun i hi => ?_) _ Tryz.underlying9
  rw [Nat.zero_add]
  exact h.cells i _ (by simp [show i < xs.length by omega])
end Go.Proofs.YtkphipgfcbckcaaGreatDoor
namespace Go.Proofs.YtkphipgfcbckcaaGreatDoor
open Go.RowKit

theorem Ext.grownM {a b c : World} {g : Nat} (h : Ext a b) (hg : b.grownBy c (some g)) (hr : a.heap.size ≤ g) : Ext a c := Below.grown h hg h.size (fun k hk => by injection hk with hk; omega)
theorem infoU8 : (Tryz.prog.info? 5).map (fun i => (i.zero, i.size, i.bytes)) = some (some (.int .u8 0), 1, 1) := by kernel_rfl

theorem zerosN_le (n : Nat) : zerosN n ≤ 63 := by unfold zerosN; omega
/-- the bytes laid when i bytes of the length are there -/
def padUpto (t : ByteArray) (i : Nat) : List Int := nums8 t ++ ([128] ++ List.replicate (zerosN t.size) 0 ++ (List.range i).map fun k => ((8 * t.size / 2 ^ (8 * (7 - k)) % 256 : Nat) : Int))
theorem padUpto_len (t : ByteArray) (i : Nat) : (padUpto t i).length = t.size + 1 + zerosN t.size + i := by
  simp only [padUpto, List.length_append, nums8_length, List.length_cons, List.length_nil, List.length_replicate, List.length_map, List.length_range]
  omega
theorem padUpto_succ (t : ByteArray) (i : Nat) : padUpto t (i + 1) = padUpto t i ++ [((8 * t.size / 2 ^ (8 * (7 - i)) % 256 : Nat) : Int)] := by
  simp [padUpto, List.range_succ]
theorem padUpto_all (t : ByteArray) : strOfNums (padUpto t 8) = padT t := by
  rw [padUpto, strOfNums_append, strOfNums_nums8]
  rfl
theorem padT_size (t : ByteArray) : (padT t).size = t.size + 9 + zerosN t.size := by
  rw [← padUpto_all, strOfNums_size, padUpto_len]
  omega
theorem padT_blocks (t : ByteArray) : (padT t).size % 64 = 0 ∧ 0 < (padT t).size := by
  rw [padT_size]
  unfold zerosN
  omega

theorem news1 (W : World) (u0 : Value) (T : TypeId) : ∀ j u, [u0][j]? = some u → (W.alloc (.cells #[u0] T)).cell? ((⟨W.heap.size, 0, none⟩ : Addr).add j) = some u := by
  intro j u h
  have hj : j = 0 := by
    have := (List.getElem?_eq_some_iff.1 h).1
    simpa using this
  subst hj
  have e : (⟨W.heap.size, 0, none⟩ : Addr).add 0 = ⟨W.heap.size, 0, none⟩ := by unfold Addr.add; rfl
  rw [e, World.cell?_alloc_new]
  simpa using h
theorem one1 (x : Int) : ∀ u ∈ [Value.int .u8 x], u.oneCell' = true := by
  intro u hu
  rw [List.mem_singleton] at hu
  rw [hu]
  rfl
theorem zeros_int (n : Nat) : (119 - (n : Int)) % 64 = (zerosN n : Int) := by
  unfold zerosN
  omega
theorem u8_of (a b : Int) (h : a = b) : [Value.int .u8 a] = [b].map (Value.int .u8) := by rw [h]; rfl

set_option maxRecDepth 100000 in
set_option maxHeartbeats 1600000 in
theorem impl_PadText (t : ByteArray) (w : World) (ht : t.size ≤ 1073741824) :
    Calls Tryz.prog 105 #[.string t] w fun e w' => e = .returned (.string (padT t)) ∧ Ext w w' := by
  obtain ⟨i0, hi, hz0, hz1, hz2⟩ := info_parts infoU8
  have hcv := fun W : World => Lib.run_convert_string_bytes (P := Tryz.prog) W 9 22 5 t Tryz.underlying9 Tryz.underlying22 Tryz.underlying5
  have hm : t.size ≤ maxLen := by unfold maxLen; omega
  have o1 := Lib.hid (bytes_own w t hm)
  have x1 := bytes_ext w t
  have l1 := x1.size
  have zl := zerosN_le t.size
  have hzn := Lib.hid (zeros_int t.size)
  clear hm
  go_enter Tryz.func105, Tryz.ntmps105
  go_wp2_with (at_builtin; refine wpList_append_m rfl (.tmp 12) (.tmp 13) 22 rfl w.heap.size i0 Tryz.underlying22 hi hz0 hz1 hz2 t.size _ w.heap.size (Lib.strCells t) rfl (o1.out.alloc _) ⟨(Lib.bytesWorld w 5 t).heap.size, 0, none⟩ 1 1 [.int .u8 128] rfl rfl (news1 _ _ _) (one1 _) (by omega) (by simp; omega) ?_)
  intro v1 w1 own1 g1
  obtain ⟨a1, c1, rfl, ha1, hb1, -, -⟩ := own1.form
  have x2 : Ext w w1 := (x1.alloc _).grownM g1 (Nat.le_refl _)
  have l2 := x2.size
  have O1 := Lib.hid own1
  clear own1 g1 o1 hcv x1 l1
  go_wp2_with (at_builtin; refine wpList_append_m_zeros rfl (.tmp 15) (.tmp 16) 22 3 rfl w.heap.size i0 Tryz.underlying22 Tryz.underlying3 hi hz0 hz1 hz2 (t.size + 1) _ a1 _ rfl O1.out (zerosN t.size) (congrArg (Value.int .i64) hzn.out) (by omega) (by omega) ?_)
  intro v2 w2 own2 g2
  obtain ⟨a2, c2, rfl, ha2, hb2, -, -⟩ := own2.form
  have x3 : Ext w w2 := x2.grownM g2 ha1
  have O2 := Lib.hid own2
  clear own2 g2 O1 x2 l2 ha1 hb1
  go_wp2
  go_loopw [4, 5] (fun v i wr => ∃ j : Nat, j ≤ 8 ∧ i = .int .i64 (7 - (j : Int)) ∧ OwnM wr w.heap.size v (t.size + 1 + zerosN t.size + j) ((padUpto t j).map (Value.int .u8)) ∧ Ext w wr) (fun _ i _ => (intOf i + 1).toNat)
  case atStart =>
    refine ⟨0, by omega, rfl, ?_, x3⟩
    have := O2.out
    simpa [padUpto, strCells_nums8] using this
  case round =>
    clear O2 x3 ha2 hb2
    obtain ⟨j, hj, rfl, own, hx⟩ := hrel
    obtain ⟨a, c, rfl, ha, hb, -, -⟩ := own.form
    have O := Lib.hid own
    have hl := hx.size
    clear own
    by_cases hlt : j < 8
    · have hs := Lib.hid (padUpto_succ t j)
      rcases lt8 hlt with rfl | rfl | rfl | rfl | rfl | rfl | rfl | rfl
      · go_wp2_with (at_builtin; refine wpList_append_m rfl (.tmp 22) (.tmp 30) 22 rfl w.heap.size i0 Tryz.underlying22 hi hz0 hz1 hz2 (t.size + 1 + zerosN t.size + 0) _ a _ rfl (O.out.alloc _) ⟨wr.heap.size, 0, none⟩ 1 1 [.int .u8 _] rfl rfl (news1 _ _ _) (one1 _) (by omega) (by simp; omega) ?_)
        intro v' w' own' g'
        have hx' : Ext w w' := (hx.alloc _).grownM g' ha
        have he : (2 : Nat) ^ (8 * (7 - 0)) = 72057594037927936 := by decide
        have O' : OwnM w' w.heap.size v' (t.size + 1 + zerosN t.size + 0 + 1) ((padUpto t (0 + 1)).map (Value.int .u8)) := by
          rw [hs.out, List.map_append, he]
          rw [u8_of _ ((8 * t.size / 72057594037927936 % 256 : Nat) : Int) (by omega)] at own'
          exact own'
        have HO := Lib.hid O'
        clear own' g' O' he
        go_wp2
        go_roundw
        case rel => exact ⟨1, by omega, rfl, HO.out, hx'⟩
        case measure => simp [intOf]
      · go_wp2_with (at_builtin; refine wpList_append_m rfl (.tmp 22) (.tmp 30) 22 rfl w.heap.size i0 Tryz.underlying22 hi hz0 hz1 hz2 (t.size + 1 + zerosN t.size + 1) _ a _ rfl (O.out.alloc _) ⟨wr.heap.size, 0, none⟩ 1 1 [.int .u8 _] rfl rfl (news1 _ _ _) (one1 _) (by omega) (by simp; omega) ?_)
        intro v' w' own' g'
        have hx' : Ext w w' := (hx.alloc _).grownM g' ha
        have he : (2 : Nat) ^ (8 * (7 - 1)) = 281474976710656 := by decide
        have O' : OwnM w' w.heap.size v' (t.size + 1 + zerosN t.size + 1 + 1) ((padUpto t (1 + 1)).map (Value.int .u8)) := by
          rw [hs.out, List.map_append, he]
          rw [u8_of _ ((8 * t.size / 281474976710656 % 256 : Nat) : Int) (by omega)] at own'
          exact own'
        have HO := Lib.hid O'
        clear own' g' O' he
        go_wp2
        go_roundw
        case rel => exact ⟨2, by omega, rfl, HO.out, hx'⟩
        case measure => simp [intOf]
      · go_wp2_with (at_builtin; refine wpList_append_m rfl (.tmp 22) (.tmp 30) 22 rfl w.heap.size i0 Tryz.underlying22 hi hz0 hz1 hz2 (t.size + 1 + zerosN t.size + 2) _ a _ rfl (O.out.alloc _) ⟨wr.heap.size, 0, none⟩ 1 1 [.int .u8 _] rfl rfl (news1 _ _ _) (one1 _) (by omega) (by simp; omega) ?_)
        intro v' w' own' g'
        have hx' : Ext w w' := (hx.alloc _).grownM g' ha
        have he : (2 : Nat) ^ (8 * (7 - 2)) = 1099511627776 := by decide
        have O' : OwnM w' w.heap.size v' (t.size + 1 + zerosN t.size + 2 + 1) ((padUpto t (2 + 1)).map (Value.int .u8)) := by
          rw [hs.out, List.map_append, he]
          rw [u8_of _ ((8 * t.size / 1099511627776 % 256 : Nat) : Int) (by omega)] at own'
          exact own'
        have HO := Lib.hid O'
        clear own' g' O' he
        go_wp2
        go_roundw
        case rel => exact ⟨3, by omega, rfl, HO.out, hx'⟩
        case measure => simp [intOf]
      · go_wp2_with (at_builtin; refine wpList_append_m rfl (.tmp 22) (.tmp 30) 22 rfl w.heap.size i0 Tryz.underlying22 hi hz0 hz1 hz2 (t.size + 1 + zerosN t.size + 3) _ a _ rfl (O.out.alloc _) ⟨wr.heap.size, 0, none⟩ 1 1 [.int .u8 _] rfl rfl (news1 _ _ _) (one1 _) (by omega) (by simp; omega) ?_)
        intro v' w' own' g'
        have hx' : Ext w w' := (hx.alloc _).grownM g' ha
        have he : (2 : Nat) ^ (8 * (7 - 3)) = 4294967296 := by decide
        have O' : OwnM w' w.heap.size v' (t.size + 1 + zerosN t.size + 3 + 1) ((padUpto t (3 + 1)).map (Value.int .u8)) := by
          rw [hs.out, List.map_append, he]
          rw [u8_of _ ((8 * t.size / 4294967296 % 256 : Nat) : Int) (by omega)] at own'
          exact own'
        have HO := Lib.hid O'
        clear own' g' O' he
        go_wp2
        go_roundw
        case rel => exact ⟨4, by omega, rfl, HO.out, hx'⟩
        case measure => simp [intOf]
      · go_wp2_with (at_builtin; refine wpList_append_m rfl (.tmp 22) (.tmp 30) 22 rfl w.heap.size i0 Tryz.underlying22 hi hz0 hz1 hz2 (t.size + 1 + zerosN t.size + 4) _ a _ rfl (O.out.alloc _) ⟨wr.heap.size, 0, none⟩ 1 1 [.int .u8 _] rfl rfl (news1 _ _ _) (one1 _) (by omega) (by simp; omega) ?_)
        intro v' w' own' g'
        have hx' : Ext w w' := (hx.alloc _).grownM g' ha
        have he : (2 : Nat) ^ (8 * (7 - 4)) = 16777216 := by decide
        have O' : OwnM w' w.heap.size v' (t.size + 1 + zerosN t.size + 4 + 1) ((padUpto t (4 + 1)).map (Value.int .u8)) := by
          rw [hs.out, List.map_append, he]
          rw [u8_of _ ((8 * t.size / 16777216 % 256 : Nat) : Int) (by omega)] at own'
          exact own'
        have HO := Lib.hid O'
        clear own' g' O' he
        go_wp2
        go_roundw
        case rel => exact ⟨5, by omega, rfl, HO.out, hx'⟩
        case measure => simp [intOf]
      · go_wp2_with (at_builtin; refine wpList_append_m rfl (.tmp 22) (.tmp 30) 22 rfl w.heap.size i0 Tryz.underlying22 hi hz0 hz1 hz2 (t.size + 1 + zerosN t.size + 5) _ a _ rfl (O.out.alloc _) ⟨wr.heap.size, 0, none⟩ 1 1 [.int .u8 _] rfl rfl (news1 _ _ _) (one1 _) (by omega) (by simp; omega) ?_)
        intro v' w' own' g'
        have hx' : Ext w w' := (hx.alloc _).grownM g' ha
        have he : (2 : Nat) ^ (8 * (7 - 5)) = 65536 := by decide
        have O' : OwnM w' w.heap.size v' (t.size + 1 + zerosN t.size + 5 + 1) ((padUpto t (5 + 1)).map (Value.int .u8)) := by
          rw [hs.out, List.map_append, he]
          rw [u8_of _ ((8 * t.size / 65536 % 256 : Nat) : Int) (by omega)] at own'
          exact own'
        have HO := Lib.hid O'
        clear own' g' O' he
        go_wp2
        go_roundw
        case rel => exact ⟨6, by omega, rfl, HO.out, hx'⟩
        case measure => simp [intOf]
      · go_wp2_with (at_builtin; refine wpList_append_m rfl (.tmp 22) (.tmp 30) 22 rfl w.heap.size i0 Tryz.underlying22 hi hz0 hz1 hz2 (t.size + 1 + zerosN t.size + 6) _ a _ rfl (O.out.alloc _) ⟨wr.heap.size, 0, none⟩ 1 1 [.int .u8 _] rfl rfl (news1 _ _ _) (one1 _) (by omega) (by simp; omega) ?_)
        intro v' w' own' g'
        have hx' : Ext w w' := (hx.alloc _).grownM g' ha
        have he : (2 : Nat) ^ (8 * (7 - 6)) = 256 := by decide
        have O' : OwnM w' w.heap.size v' (t.size + 1 + zerosN t.size + 6 + 1) ((padUpto t (6 + 1)).map (Value.int .u8)) := by
          rw [hs.out, List.map_append, he]
          rw [u8_of _ ((8 * t.size / 256 % 256 : Nat) : Int) (by omega)] at own'
          exact own'
        have HO := Lib.hid O'
        clear own' g' O' he
        go_wp2
        go_roundw
        case rel => exact ⟨7, by omega, rfl, HO.out, hx'⟩
        case measure => simp [intOf]
      · go_wp2_with (at_builtin; refine wpList_append_m rfl (.tmp 22) (.tmp 30) 22 rfl w.heap.size i0 Tryz.underlying22 hi hz0 hz1 hz2 (t.size + 1 + zerosN t.size + 7) _ a _ rfl (O.out.alloc _) ⟨wr.heap.size, 0, none⟩ 1 1 [.int .u8 _] rfl rfl (news1 _ _ _) (one1 _) (by omega) (by simp; omega) ?_)
        intro v' w' own' g'
        have hx' : Ext w w' := (hx.alloc _).grownM g' ha
        have he : (2 : Nat) ^ (8 * (7 - 7)) = 1 := by decide
        have O' : OwnM w' w.heap.size v' (t.size + 1 + zerosN t.size + 7 + 1) ((padUpto t (7 + 1)).map (Value.int .u8)) := by
          rw [hs.out, List.map_append, he]
          rw [u8_of _ ((8 * t.size / 1 % 256 : Nat) : Int) (by omega)] at own'
          exact own'
        have HO := Lib.hid O'
        clear own' g' O' he
        go_wp2
        go_roundw
        case rel => exact ⟨8, by omega, rfl, HO.out, hx'⟩
        case measure => simp [intOf]
    · obtain rfl : j = 8 := by omega
      have hs := O.out.str
      have hp := Lib.hid (padUpto_all t)
      go_wp2
      go_ret
      exact ⟨ret_str hp.out, hx⟩

set_option maxRecDepth 100000 in
set_option maxHeartbeats 1600000 in
theorem spec_PadText (t : ByteArray) (w : World) (ht : t.size ≤ 1073741824) :
    Calls Tryz.prog 111 #[.string t] w fun e w' => e = .returned (.string (padT t)) ∧ Ext w w' := by
  obtain ⟨i0, hi, hz0, hz1, hz2⟩ := info_parts infoU8
  have hcv := fun W : World => Lib.run_convert_string_bytes (P := Tryz.prog) W 9 22 5 t Tryz.underlying9 Tryz.underlying22 Tryz.underlying5
  have hm : t.size ≤ maxLen := by unfold maxLen; omega
  have o1 := Lib.hid (bytes_own w t hm)
  have x1 := bytes_ext w t
  have l1 := x1.size
  have zl := zerosN_le t.size
  clear hm
  go_enter Tryz.func111, Tryz.ntmps111
  go_wp2_with (at_builtin; refine wpList_append_m rfl (.tmp 8) (.tmp 9) 22 rfl w.heap.size i0 Tryz.underlying22 hi hz0 hz1 hz2 t.size _ w.heap.size (Lib.strCells t) rfl (o1.out.alloc _) ⟨(Lib.bytesWorld w 5 t).heap.size, 0, none⟩ 1 1 [.int .u8 128] rfl rfl (news1 _ _ _) (one1 _) (by omega) (by simp; omega) ?_)
  intro v1 w1 own1 g1
  have x2 : Ext w w1 := (x1.alloc _).grownM g1 (Nat.le_refl _)
  have O1 := Lib.hid own1
  clear own1 g1 o1 hcv x1 l1
  go_wp2
  go_loopw [3] (fun v wr => ∃ k L : Nat, k ≤ zerosN t.size ∧ Hid (L = t.size + 1 + k) ∧ OwnM wr w.heap.size v L (Lib.strCells t ++ [.int .u8 128] ++ List.replicate k (.int .u8 0)) ∧ Ext w wr) (fun v _ => match v with | .slice _ n _ => t.size + 1 + zerosN t.size - n | _ => 0)
  case atStart => exact ⟨0, t.size + 1, by omega, Lib.hid (by omega), by simpa using O1.out, x2⟩
  case round =>
    clear O1 x2
    obtain ⟨k, L, hk, HL, own, hx⟩ := hrel
    obtain ⟨a, c, rfl, ha, hb, -, -⟩ := own.form
    have O := Lib.hid own
    have hl := hx.size
    have hLb : L ≤ 1073741900 := by have := HL.out; omega
    clear own
    by_cases hlt : k < zerosN t.size
    · have hq : ((L : Int) % 64 != 56) = true := by
        have := HL.out
        rw [bne_iff_ne]
        unfold zerosN at hlt
        omega
      go_wp2_with (at_builtin; refine wpList_append_m rfl (.tmp 15) (.tmp 16) 22 rfl w.heap.size i0 Tryz.underlying22 hi hz0 hz1 hz2 L _ a _ rfl (O.out.alloc _) ⟨wr.heap.size, 0, none⟩ 1 1 [.int .u8 0] rfl rfl (news1 _ _ _) (one1 _) (by omega) (by simp; omega) ?_)
      intro v' w' own' g'
      have hx' : Ext w w' := (hx.alloc _).grownM g' ha
      have O' : OwnM w' w.heap.size v' (L + 1) (Lib.strCells t ++ [.int .u8 128] ++ List.replicate (k + 1) (.int .u8 0)) := by
        simpa [List.replicate_succ'] using own'
      obtain ⟨a', c', rfl, -, -, -, -⟩ := own'.form
      have HO := Lib.hid O'
      clear own' g' O'
      go_wp2
      go_roundw
      case rel => exact ⟨k + 1, L + 1, by omega, Lib.hid (by have := HL.out; omega), HO.out, hx'⟩
      case measure => have := HL.out; simp; omega
    · have hq : ((L : Int) % 64 != 56) = false := by
        have := HL.out
        rw [bne_eq_false_iff_eq]
        have hk2 : k = zerosN t.size := by omega
        rw [hk2] at this
        unfold zerosN at this
        omega
      have O2 : OwnM wr w.heap.size (.slice (some ⟨a, 0, none⟩) L c) (t.size + 1 + zerosN t.size + 0) ((padUpto t 0).map (Value.int .u8)) := by
        have e : k = zerosN t.size := by omega
        have e2 := HL.out
        have o := O.out
        rw [e] at o e2
        rw [Nat.add_zero, ← e2]
        simpa [padUpto, strCells_nums8] using o
      have HO2 := Lib.hid O2
      clear O O2
      go_wp2
      go_loopw [3, 5] (fun v i wr => ∃ j : Nat, j ≤ 8 ∧ i = .int .i64 (7 - (j : Int)) ∧ OwnM wr w.heap.size v (t.size + 1 + zerosN t.size + j) ((padUpto t j).map (Value.int .u8)) ∧ Ext w wr) (fun _ i _ => (intOf i + 1).toNat)
      case atStart => exact ⟨0, by omega, rfl, HO2.out, hx⟩
      case round =>
        clear HO2 hx ha hb hl hq
        rename_i wr0 wr
        obtain ⟨j, hj, rfl, own, hx⟩ := hrel
        obtain ⟨a, c, rfl, ha, hb, -, -⟩ := own.form
        have O := Lib.hid own
        have hl := hx.size
        clear own
        by_cases hlt : j < 8
        · have hs := Lib.hid (padUpto_succ t j)
          rcases lt8 hlt with rfl | rfl | rfl | rfl | rfl | rfl | rfl | rfl
          · go_wp2_with (at_builtin; refine wpList_append_m rfl (.tmp 25) (.tmp 32) 22 rfl w.heap.size i0 Tryz.underlying22 hi hz0 hz1 hz2 (t.size + 1 + zerosN t.size + 0) _ a _ rfl (O.out.alloc _) ⟨wr.heap.size, 0, none⟩ 1 1 [.int .u8 _] rfl rfl (news1 _ _ _) (one1 _) (by omega) (by simp; omega) ?_)
            intro v' w' own' g'
            have hx' : Ext w w' := (hx.alloc _).grownM g' ha
            have he : (2 : Nat) ^ (8 * (7 - 0)) = 72057594037927936 := by decide
            have O' : OwnM w' w.heap.size v' (t.size + 1 + zerosN t.size + 0 + 1) ((padUpto t (0 + 1)).map (Value.int .u8)) := by
              rw [hs.out, List.map_append, he]
              rw [u8_of _ ((8 * t.size / 72057594037927936 % 256 : Nat) : Int) (by omega)] at own'
              exact own'
            have HO := Lib.hid O'
            clear own' g' O' he
            go_wp2
            go_roundw
            case rel => exact ⟨1, by omega, rfl, HO.out, hx'⟩
            case measure => simp [intOf]
          · go_wp2_with (at_builtin; refine wpList_append_m rfl (.tmp 25) (.tmp 32) 22 rfl w.heap.size i0 Tryz.underlying22 hi hz0 hz1 hz2 (t.size + 1 + zerosN t.size + 1) _ a _ rfl (O.out.alloc _) ⟨wr.heap.size, 0, none⟩ 1 1 [.int .u8 _] rfl rfl (news1 _ _ _) (one1 _) (by omega) (by simp; omega) ?_)
            intro v' w' own' g'
            have hx' : Ext w w' := (hx.alloc _).grownM g' ha
            have he : (2 : Nat) ^ (8 * (7 - 1)) = 281474976710656 := by decide
            have O' : OwnM w' w.heap.size v' (t.size + 1 + zerosN t.size + 1 + 1) ((padUpto t (1 + 1)).map (Value.int .u8)) := by
              rw [hs.out, List.map_append, he]
              rw [u8_of _ ((8 * t.size / 281474976710656 % 256 : Nat) : Int) (by omega)] at own'
              exact own'
            have HO := Lib.hid O'
            clear own' g' O' he
            go_wp2
            go_roundw
            case rel => exact ⟨2, by omega, rfl, HO.out, hx'⟩
            case measure => simp [intOf]
          · go_wp2_with (at_builtin; refine wpList_append_m rfl (.tmp 25) (.tmp 32) 22 rfl w.heap.size i0 Tryz.underlying22 hi hz0 hz1 hz2 (t.size + 1 + zerosN t.size + 2) _ a _ rfl (O.out.alloc _) ⟨wr.heap.size, 0, none⟩ 1 1 [.int .u8 _] rfl rfl (news1 _ _ _) (one1 _) (by omega) (by simp; omega) ?_)
            intro v' w' own' g'
            have hx' : Ext w w' := (hx.alloc _).grownM g' ha
            have he : (2 : Nat) ^ (8 * (7 - 2)) = 1099511627776 := by decide
            have O' : OwnM w' w.heap.size v' (t.size + 1 + zerosN t.size + 2 + 1) ((padUpto t (2 + 1)).map (Value.int .u8)) := by
              rw [hs.out, List.map_append, he]
              rw [u8_of _ ((8 * t.size / 1099511627776 % 256 : Nat) : Int) (by omega)] at own'
              exact own'
            have HO := Lib.hid O'
            clear own' g' O' he
            go_wp2
            go_roundw
            case rel => exact ⟨3, by omega, rfl, HO.out, hx'⟩
            case measure => simp [intOf]
          · go_wp2_with (at_builtin; refine wpList_append_m rfl (.tmp 25) (.tmp 32) 22 rfl w.heap.size i0 Tryz.underlying22 hi hz0 hz1 hz2 (t.size + 1 + zerosN t.size + 3) _ a _ rfl (O.out.alloc _) ⟨wr.heap.size, 0, none⟩ 1 1 [.int .u8 _] rfl rfl (news1 _ _ _) (one1 _) (by omega) (by simp; omega) ?_)
            intro v' w' own' g'
            have hx' : Ext w w' := (hx.alloc _).grownM g' ha
            have he : (2 : Nat) ^ (8 * (7 - 3)) = 4294967296 := by decide
            have O' : OwnM w' w.heap.size v' (t.size + 1 + zerosN t.size + 3 + 1) ((padUpto t (3 + 1)).map (Value.int .u8)) := by
              rw [hs.out, List.map_append, he]
              rw [u8_of _ ((8 * t.size / 4294967296 % 256 : Nat) : Int) (by omega)] at own'
              exact own'
            have HO := Lib.hid O'
            clear own' g' O' he
            go_wp2
            go_roundw
            case rel => exact ⟨4, by omega, rfl, HO.out, hx'⟩
            case measure => simp [intOf]
          · go_wp2_with (at_builtin; refine wpList_append_m rfl (.tmp 25) (.tmp 32) 22 rfl w.heap.size i0 Tryz.underlying22 hi hz0 hz1 hz2 (t.size + 1 + zerosN t.size + 4) _ a _ rfl (O.out.alloc _) ⟨wr.heap.size, 0, none⟩ 1 1 [.int .u8 _] rfl rfl (news1 _ _ _) (one1 _) (by omega) (by simp; omega) ?_)
            intro v' w' own' g'
            have hx' : Ext w w' := (hx.alloc _).grownM g' ha
            have he : (2 : Nat) ^ (8 * (7 - 4)) = 16777216 := by decide
            have O' : OwnM w' w.heap.size v' (t.size + 1 + zerosN t.size + 4 + 1) ((padUpto t (4 + 1)).map (Value.int .u8)) := by
              rw [hs.out, List.map_append, he]
              rw [u8_of _ ((8 * t.size / 16777216 % 256 : Nat) : Int) (by omega)] at own'
              exact own'
            have HO := Lib.hid O'
            clear own' g' O' he
            go_wp2
            go_roundw
            case rel => exact ⟨5, by omega, rfl, HO.out, hx'⟩
            case measure => simp [intOf]
          · go_wp2_with (at_builtin; refine wpList_append_m rfl (.tmp 25) (.tmp 32) 22 rfl w.heap.size i0 Tryz.underlying22 hi hz0 hz1 hz2 (t.size + 1 + zerosN t.size + 5) _ a _ rfl (O.out.alloc _) ⟨wr.heap.size, 0, none⟩ 1 1 [.int .u8 _] rfl rfl (news1 _ _ _) (one1 _) (by omega) (by simp; omega) ?_)
            intro v' w' own' g'
            have hx' : Ext w w' := (hx.alloc _).grownM g' ha
            have he : (2 : Nat) ^ (8 * (7 - 5)) = 65536 := by decide
            have O' : OwnM w' w.heap.size v' (t.size + 1 + zerosN t.size + 5 + 1) ((padUpto t (5 + 1)).map (Value.int .u8)) := by
              rw [hs.out, List.map_append, he]
              rw [u8_of _ ((8 * t.size / 65536 % 256 : Nat) : Int) (by omega)] at own'
              exact own'
            have HO := Lib.hid O'
            clear own' g' O' he
            go_wp2
            go_roundw
            case rel => exact ⟨6, by omega, rfl, HO.out, hx'⟩
            case measure => simp [intOf]
          · go_wp2_with (at_builtin; refine wpList_append_m rfl (.tmp 25) (.tmp 32) 22 rfl w.heap.size i0 Tryz.underlying22 hi hz0 hz1 hz2 (t.size + 1 + zerosN t.size + 6) _ a _ rfl (O.out.alloc _) ⟨wr.heap.size, 0, none⟩ 1 1 [.int .u8 _] rfl rfl (news1 _ _ _) (one1 _) (by omega) (by simp; omega) ?_)
            intro v' w' own' g'
            have hx' : Ext w w' := (hx.alloc _).grownM g' ha
            have he : (2 : Nat) ^ (8 * (7 - 6)) = 256 := by decide
            have O' : OwnM w' w.heap.size v' (t.size + 1 + zerosN t.size + 6 + 1) ((padUpto t (6 + 1)).map (Value.int .u8)) := by
              rw [hs.out, List.map_append, he]
              rw [u8_of _ ((8 * t.size / 256 % 256 : Nat) : Int) (by omega)] at own'
              exact own'
            have HO := Lib.hid O'
            clear own' g' O' he
            go_wp2
            go_roundw
            case rel => exact ⟨7, by omega, rfl, HO.out, hx'⟩
            case measure => simp [intOf]
          · go_wp2_with (at_builtin; refine wpList_append_m rfl (.tmp 25) (.tmp 32) 22 rfl w.heap.size i0 Tryz.underlying22 hi hz0 hz1 hz2 (t.size + 1 + zerosN t.size + 7) _ a _ rfl (O.out.alloc _) ⟨wr.heap.size, 0, none⟩ 1 1 [.int .u8 _] rfl rfl (news1 _ _ _) (one1 _) (by omega) (by simp; omega) ?_)
            intro v' w' own' g'
            have hx' : Ext w w' := (hx.alloc _).grownM g' ha
            have he : (2 : Nat) ^ (8 * (7 - 7)) = 1 := by decide
            have O' : OwnM w' w.heap.size v' (t.size + 1 + zerosN t.size + 7 + 1) ((padUpto t (7 + 1)).map (Value.int .u8)) := by
              rw [hs.out, List.map_append, he]
              rw [u8_of _ ((8 * t.size / 1 % 256 : Nat) : Int) (by omega)] at own'
              exact own'
            have HO := Lib.hid O'
            clear own' g' O' he
            go_wp2
            go_roundw
            case rel => exact ⟨8, by omega, rfl, HO.out, hx'⟩
            case measure => simp [intOf]
        · obtain rfl : j = 8 := by omega
          have hs := O.out.str
          have hp := Lib.hid (padUpto_all t)
          go_wp2
          go_ret
          exact ⟨ret_str hp.out, hx⟩
end Go.Proofs.YtkphipgfcbckcaaGreatDoor

namespace Go.Proofs.YtkphipgfcbckcaaGreatDoor
open Go.RowKit

theorem ext_head (P : ByteArray) (a : Nat) (h : a + 64 ≤ P.size) : (P.extract a P.size).extract 0 64 = P.extract a (a + 64) := by
  apply ByteArray.ext
  simp only [ByteArray.data_extract]
  rw [Array.extract_extract]
  congr 1
  have e : P.data.size = P.size := rfl
  omega
theorem ext_tail (P : ByteArray) (a : Nat) (h : a + 64 ≤ P.size) : (P.extract a P.size).extract 64 (P.extract a P.size).size = P.extract (a + 64) P.size := by
  apply ByteArray.ext
  simp only [ByteArray.data_extract, ByteArray.size_extract]
  rw [Array.extract_extract]
  have e : P.data.size = P.size := rfl
  congr 1
  omega
/-- the bytes of the first j words -/
def digUpto (s : St) (j : Nat) : ByteArray := strOfNums ((s.list.take j).flatMap W32.nums)
theorem digUpto_succ (s : St) (j : Nat) (h : j < 8) : digUpto s (j + 1) = digUpto s j ++ strOfNums (s.list.getD j default).nums := by
  rw [digUpto, digUpto, ← strOfNums_append]
  congr 1
  rcases lt8 h with rfl | rfl | rfl | rfl | rfl | rfl | rfl | rfl <;> rfl
theorem digUpto_all (s : St) : digUpto s 8 = strOfNums s.nums := rfl
theorem digUpto_size (s : St) (j : Nat) (h : j ≤ 8) : (digUpto s j).size = 4 * j := by
  rw [digUpto, strOfNums_size]
  rcases Nat.lt_or_ge j 8 with h | h2
  · rcases lt8 h with rfl | rfl | rfl | rfl | rfl | rfl | rfl | rfl <;> rfl
  · obtain rfl : j = 8 := by omega
    rfl
theorem impl_compressL (st : St) (s : ByteArray) (w : World) (h : s.size = 64) (hT : Tabs w) :
    Calls Tryz.prog 106 #[.agg #[.int .u32 st.a.i, .int .u32 st.b.i, .int .u32 st.c.i, .int .u32 st.d.i, .int .u32 st.e.i, .int .u32 st.f.i, .int .u32 st.g.i, .int .u32 st.h.i], .string s] w fun e w' => e = .returned (.agg #[.int .u32 (shaB s st).a.i, .int .u32 (shaB s st).b.i, .int .u32 (shaB s st).c.i, .int .u32 (shaB s st).d.i, .int .u32 (shaB s st).e.i, .int .u32 (shaB s st).f.i, .int .u32 (shaB s st).g.i, .int .u32 (shaB s st).h.i]) ∧ Ext w w' :=
  impl_compress st s w h hT

set_option maxRecDepth 100000 in
set_option maxHeartbeats 1600000 in
theorem impl_Digest (t : ByteArray) (w : World) (ht : t.size ≤ 1073741824) (hT : Tabs w) :
    Calls Tryz.prog 99 #[.string t] w fun e w' => e = .returned (.string (digT t)) ∧ Ext w w' := by
  have b0 := hT.2.2 0 (by omega)
  have b1 := hT.2.2 1 (by omega)
  have b2 := hT.2.2 2 (by omega)
  have b3 := hT.2.2 3 (by omega)
  have b4 := hT.2.2 4 (by omega)
  have b5 := hT.2.2 5 (by omega)
  have b6 := hT.2.2 6 (by omega)
  have b7 := hT.2.2 7 (by omega)
  simp only [St.list, List.getD_cons_zero, List.getD_cons_succ] at b0 b1 b2 b3 b4 b5 b6 b7
  have HT := Lib.hid hT
  have R := Lib.hid (show digT t = strOfNums (shaN (padT t) ((padT t).size / 64)).nums from rfl)
  have hp := (padT_blocks t).1
  clear hT
  go_enter Tryz.func99, Tryz.ntmps99
  go_wp2_with (go_at_call 105; refine (impl_PadText t _ ht).mono ?_; rintro e w1 ⟨rfl, x1⟩)
  generalize padT t = P at *
  obtain ⟨N, hN⟩ : ∃ N, P.size = 64 * N := ⟨P.size / 64, by omega⟩
  have HN := Lib.hid hN
  have e0 : P.size / 64 = N := by omega
  rw [e0] at R
  have a0 := (Arr.new w st0.list 116).ext x1
  have x2 : Ext w w1 := ((Ext.refl w).alloc _).trans x1
  have A0 := Lib.hid a0
  clear b0 b1 b2 b3 b4 b5 b6 b7 hp e0 a0 x1 hN
  go_loopw [4] (fun v wr => ∃ (k : Nat) (q : ByteArray), k ≤ N ∧ v = .string q ∧ Hid (q = P.extract (64 * k) P.size) ∧ Hid (q.size = 64 * (N - k)) ∧ Ext w wr ∧ Arr wr w.heap.size (shaN P k).list) (fun v _ => match v with | .string s => s.size | _ => 0)
  case atStart =>
    refine ⟨0, P, by omega, rfl, Lib.hid ?_, Lib.hid (by have := HN.out; omega), x2, A0.out⟩
    rw [Nat.mul_zero, ByteArray.extract_zero_size]
  case round =>
    clear A0 x2
    obtain ⟨k, q, hk, rfl, hq, hqs, hx, a⟩ := hrel
    by_cases hlt : k < N
    · have hq0 : q.toList.isEmpty = false := by
        rw [toList_empty]
        have := hqs.out
        rw [decide_eq_false_iff_not]
        omega
      have hz : (64 : Int) ≤ q.size := by have := hqs.out; omega
      have HTr := Lib.hid (HT.out.ext hx)
      have HS := Lib.hid (show (q.extract 0 64).size = 64 by rw [ByteArray.size_extract]; omega)
      have hs1 : shaN P (k + 1) = shaB (q.extract 0 64) (shaN P k) := by
        rw [hq.out, ext_head _ _ (by have := HN.out; omega)]
        rfl
      have HS1 := Lib.hid hs1
      generalize shaN P k = s at *
      have lz := a.1
      have v0 := a.cell 0 (by rw [st_len]; omega)
      have v1 := a.cell 1 (by rw [st_len]; omega)
      have v2 := a.cell 2 (by rw [st_len]; omega)
      have v3 := a.cell 3 (by rw [st_len]; omega)
      have v4 := a.cell 4 (by rw [st_len]; omega)
      have v5 := a.cell 5 (by rw [st_len]; omega)
      have v6 := a.cell 6 (by rw [st_len]; omega)
      have v7 := a.cell 7 (by rw [st_len]; omega)
      simp only [St.list, List.getD_cons_zero, List.getD_cons_succ] at v0 v1 v2 v3 v4 v5 v6 v7
      have A := Lib.hid a
      clear a hs1
      go_wp2
      go_still_tail 3, (by kernel_rfl)
      change wpList _ _ _ _ _ wr.drew
      go_wp2_with fail
      refine (impl_compressL s (q.extract 0 64) _ HS.out (by exact HTr.out)).mono ?_
      rintro e w2 ⟨rfl, y2⟩
      have y3 : Ext wr w2 := Old.ext (Old.undrew (Old.of y2))
      have lz2 := y3.size
      have a2 := A.out.ext y3
      generalize shaB (q.extract 0 64) s = u at *
      have r0 := a2.cell 0 (by rw [st_len]; omega)
      have r1 := a2.cell 1 (by rw [st_len]; omega)
      have r2 := a2.cell 2 (by rw [st_len]; omega)
      have r3 := a2.cell 3 (by rw [st_len]; omega)
      have r4 := a2.cell 4 (by rw [st_len]; omega)
      have r5 := a2.cell 5 (by rw [st_len]; omega)
      have r6 := a2.cell 6 (by rw [st_len]; omega)
      have r7 := a2.cell 7 (by rw [st_len]; omega)
      have f0 := a2.free 0 (by rw [st_len]; omega)
      have f1 := a2.free 1 (by rw [st_len]; omega)
      have f2 := a2.free 2 (by rw [st_len]; omega)
      have f3 := a2.free 3 (by rw [st_len]; omega)
      have f4 := a2.free 4 (by rw [st_len]; omega)
      have f5 := a2.free 5 (by rw [st_len]; omega)
      have f6 := a2.free 6 (by rw [st_len]; omega)
      have f7 := a2.free 7 (by rw [st_len]; omega)
      simp only [St.list, List.getD_cons_zero, List.getD_cons_succ] at r0 r1 r2 r3 r4 r5 r6 r7
      have B := Lib.hid a2
      clear a2 v0 v1 v2 v3 v4 v5 v6 v7 y2 A
      go_wp2
      go_roundw
      case rel =>
        refine ⟨k + 1, _, by omega, rfl, Lib.hid ?_, Lib.hid ?_, ?_, ?_⟩
        · rw [hq.out, ext_tail _ _ (by have := HN.out; omega)]
          rfl
        · have := hqs.out
          rw [ByteArray.size_extract]
          omega
        · have hxo : Ext w (oct w2 w.heap.size (.int .u32 u.a.i) (.int .u32 u.b.i) (.int .u32 u.c.i) (.int .u32 u.d.i) (.int .u32 u.e.i) (.int .u32 u.f.i) (.int .u32 u.g.i) (.int .u32 u.h.i)) := by
            unfold oct
            exact (by repeat (first | (with_reducible first | exact Ext.refl _ | assumption | apply Ext.alloc | apply Ext.drew | apply Ext.drewN | refine Ext.setCell ?_ ?_ _ | refine Ext.trans ?_ (by assumption)) | (show _ ≤ _; first | omega | (dsimp only; omega) | (simp; done) | (simp; omega))))
          exact hxo
        · rw [HS1.out]
          exact oct_put (t := s) u B.out
      case measure =>
        have := hqs.out
        simp only [ByteArray.size_extract]
        omega
    · obtain rfl : k = N := by omega
      have hq0 : q.toList.isEmpty = true := by
        rw [toList_empty]
        have := hqs.out
        rw [decide_eq_true_eq]
        omega
      generalize shaN P k = s at *
      have v0 := a.cell 0 (by rw [st_len]; omega)
      have v1 := a.cell 1 (by rw [st_len]; omega)
      have v2 := a.cell 2 (by rw [st_len]; omega)
      have v3 := a.cell 3 (by rw [st_len]; omega)
      have v4 := a.cell 4 (by rw [st_len]; omega)
      have v5 := a.cell 5 (by rw [st_len]; omega)
      have v6 := a.cell 6 (by rw [st_len]; omega)
      have v7 := a.cell 7 (by rw [st_len]; omega)
      simp only [St.list, List.getD_cons_zero, List.getD_cons_succ] at v0 v1 v2 v3 v4 v5 v6 v7
      clear a
      go_wp2
      go_loopw [5, 20] (fun o i wr => ∃ j : Nat, j ≤ 8 ∧ i = .int .i64 j ∧ o = .string (digUpto s j) ∧ Ext w wr) (fun _ i _ => 8 - (intOf i).toNat)
      case atStart => exact ⟨0, by omega, rfl, rfl, (by repeat (first | (with_reducible first | exact Ext.refl _ | assumption | apply Ext.alloc | apply Ext.drew | apply Ext.drewN | refine Ext.setCell ?_ ?_ _ | refine Ext.trans ?_ (by assumption)) | (show _ ≤ _; first | omega | (dsimp only; omega) | (simp; done) | (simp; omega))))⟩
      case round =>
        clear hx
        obtain ⟨j, hj, rfl, rfl, hx⟩ := hrel
        have hsz := digUpto_size s j hj
        by_cases hlt2 : j < 8
        · have hs := Lib.hid (digUpto_succ s j hlt2)
          rcases lt8 hlt2 with rfl | rfl | rfl | rfl | rfl | rfl | rfl | rfl
          · have ix : ∀ W, (Instr.index 116 (.agg #[.int .u32 s.a.i, .int .u32 s.b.i, .int .u32 s.c.i, .int .u32 s.d.i, .int .u32 s.e.i, .int .u32 s.f.i, .int .u32 s.g.i, .int .u32 s.h.i]) (.int .i64 0)).run Tryz.prog W = .ok (.int .u32 s.a.i) W := fun _ => by kernel_rfl
            have z : (strOfNums s.a.nums).size = 4 := strOfNums_size _
            have q1 : ¬ (9223372036854775807 < (digUpto s 0).size + (strOfNums s.a.nums).size) := by omega
            clear z hsz
            go_wp2_with (go_at_call 107; refine (impl_fourBytes s.a _).mono ?_; rintro e w' ⟨rfl, y⟩)
            go_roundw
            case rel => exact ⟨1, by omega, rfl, by rw [hs.out]; rfl, (by repeat (first | (with_reducible first | exact Ext.refl _ | assumption | apply Ext.alloc | apply Ext.drew | apply Ext.drewN | refine Ext.setCell ?_ ?_ _ | refine Ext.trans ?_ (by assumption)) | (show _ ≤ _; first | omega | (dsimp only; omega) | (simp; done) | (simp; omega))))⟩
            case measure => simp [intOf]
          · have ix : ∀ W, (Instr.index 116 (.agg #[.int .u32 s.a.i, .int .u32 s.b.i, .int .u32 s.c.i, .int .u32 s.d.i, .int .u32 s.e.i, .int .u32 s.f.i, .int .u32 s.g.i, .int .u32 s.h.i]) (.int .i64 1)).run Tryz.prog W = .ok (.int .u32 s.b.i) W := fun _ => by kernel_rfl
            have z : (strOfNums s.b.nums).size = 4 := strOfNums_size _
            have q1 : ¬ (9223372036854775807 < (digUpto s 1).size + (strOfNums s.b.nums).size) := by omega
            clear z hsz
            go_wp2_with (go_at_call 107; refine (impl_fourBytes s.b _).mono ?_; rintro e w' ⟨rfl, y⟩)
            go_roundw
            case rel => exact ⟨2, by omega, rfl, by rw [hs.out]; rfl, (by repeat (first | (with_reducible first | exact Ext.refl _ | assumption | apply Ext.alloc | apply Ext.drew | apply Ext.drewN | refine Ext.setCell ?_ ?_ _ | refine Ext.trans ?_ (by assumption)) | (show _ ≤ _; first | omega | (dsimp only; omega) | (simp; done) | (simp; omega))))⟩
            case measure => simp [intOf]
          · have ix : ∀ W, (Instr.index 116 (.agg #[.int .u32 s.a.i, .int .u32 s.b.i, .int .u32 s.c.i, .int .u32 s.d.i, .int .u32 s.e.i, .int .u32 s.f.i, .int .u32 s.g.i, .int .u32 s.h.i]) (.int .i64 2)).run Tryz.prog W = .ok (.int .u32 s.c.i) W := fun _ => by kernel_rfl
            have z : (strOfNums s.c.nums).size = 4 := strOfNums_size _
            have q1 : ¬ (9223372036854775807 < (digUpto s 2).size + (strOfNums s.c.nums).size) := by omega
            clear z hsz
            go_wp2_with (go_at_call 107; refine (impl_fourBytes s.c _).mono ?_; rintro e w' ⟨rfl, y⟩)
            go_roundw
            case rel => exact ⟨3, by omega, rfl, by rw [hs.out]; rfl, (by repeat (first | (with_reducible first | exact Ext.refl _ | assumption | apply Ext.alloc | apply Ext.drew | apply Ext.drewN | refine Ext.setCell ?_ ?_ _ | refine Ext.trans ?_ (by assumption)) | (show _ ≤ _; first | omega | (dsimp only; omega) | (simp; done) | (simp; omega))))⟩
            case measure => simp [intOf]
          · have ix : ∀ W, (Instr.index 116 (.agg #[.int .u32 s.a.i, .int .u32 s.b.i, .int .u32 s.c.i, .int .u32 s.d.i, .int .u32 s.e.i, .int .u32 s.f.i, .int .u32 s.g.i, .int .u32 s.h.i]) (.int .i64 3)).run Tryz.prog W = .ok (.int .u32 s.d.i) W := fun _ => by kernel_rfl
            have z : (strOfNums s.d.nums).size = 4 := strOfNums_size _
            have q1 : ¬ (9223372036854775807 < (digUpto s 3).size + (strOfNums s.d.nums).size) := by omega
            clear z hsz
            go_wp2_with (go_at_call 107; refine (impl_fourBytes s.d _).mono ?_; rintro e w' ⟨rfl, y⟩)
            go_roundw
            case rel => exact ⟨4, by omega, rfl, by rw [hs.out]; rfl, (by repeat (first | (with_reducible first | exact Ext.refl _ | assumption | apply Ext.alloc | apply Ext.drew | apply Ext.drewN | refine Ext.setCell ?_ ?_ _ | refine Ext.trans ?_ (by assumption)) | (show _ ≤ _; first | omega | (dsimp only; omega) | (simp; done) | (simp; omega))))⟩
            case measure => simp [intOf]
          · have ix : ∀ W, (Instr.index 116 (.agg #[.int .u32 s.a.i, .int .u32 s.b.i, .int .u32 s.c.i, .int .u32 s.d.i, .int .u32 s.e.i, .int .u32 s.f.i, .int .u32 s.g.i, .int .u32 s.h.i]) (.int .i64 4)).run Tryz.prog W = .ok (.int .u32 s.e.i) W := fun _ => by kernel_rfl
            have z : (strOfNums s.e.nums).size = 4 := strOfNums_size _
            have q1 : ¬ (9223372036854775807 < (digUpto s 4).size + (strOfNums s.e.nums).size) := by omega
            clear z hsz
            go_wp2_with (go_at_call 107; refine (impl_fourBytes s.e _).mono ?_; rintro e w' ⟨rfl, y⟩)
            go_roundw
            case rel => exact ⟨5, by omega, rfl, by rw [hs.out]; rfl, (by repeat (first | (with_reducible first | exact Ext.refl _ | assumption | apply Ext.alloc | apply Ext.drew | apply Ext.drewN | refine Ext.setCell ?_ ?_ _ | refine Ext.trans ?_ (by assumption)) | (show _ ≤ _; first | omega | (dsimp only; omega) | (simp; done) | (simp; omega))))⟩
            case measure => simp [intOf]
          · have ix : ∀ W, (Instr.index 116 (.agg #[.int .u32 s.a.i, .int .u32 s.b.i, .int .u32 s.c.i, .int .u32 s.d.i, .int .u32 s.e.i, .int .u32 s.f.i, .int .u32 s.g.i, .int .u32 s.h.i]) (.int .i64 5)).run Tryz.prog W = .ok (.int .u32 s.f.i) W := fun _ => by kernel_rfl
            have z : (strOfNums s.f.nums).size = 4 := strOfNums_size _
            have q1 : ¬ (9223372036854775807 < (digUpto s 5).size + (strOfNums s.f.nums).size) := by omega
            clear z hsz
            go_wp2_with (go_at_call 107; refine (impl_fourBytes s.f _).mono ?_; rintro e w' ⟨rfl, y⟩)
            go_roundw
            case rel => exact ⟨6, by omega, rfl, by rw [hs.out]; rfl, (by repeat (first | (with_reducible first | exact Ext.refl _ | assumption | apply Ext.alloc | apply Ext.drew | apply Ext.drewN | refine Ext.setCell ?_ ?_ _ | refine Ext.trans ?_ (by assumption)) | (show _ ≤ _; first | omega | (dsimp only; omega) | (simp; done) | (simp; omega))))⟩
            case measure => simp [intOf]
          · have ix : ∀ W, (Instr.index 116 (.agg #[.int .u32 s.a.i, .int .u32 s.b.i, .int .u32 s.c.i, .int .u32 s.d.i, .int .u32 s.e.i, .int .u32 s.f.i, .int .u32 s.g.i, .int .u32 s.h.i]) (.int .i64 6)).run Tryz.prog W = .ok (.int .u32 s.g.i) W := fun _ => by kernel_rfl
            have z : (strOfNums s.g.nums).size = 4 := strOfNums_size _
            have q1 : ¬ (9223372036854775807 < (digUpto s 6).size + (strOfNums s.g.nums).size) := by omega
            clear z hsz
            go_wp2_with (go_at_call 107; refine (impl_fourBytes s.g _).mono ?_; rintro e w' ⟨rfl, y⟩)
            go_roundw
            case rel => exact ⟨7, by omega, rfl, by rw [hs.out]; rfl, (by repeat (first | (with_reducible first | exact Ext.refl _ | assumption | apply Ext.alloc | apply Ext.drew | apply Ext.drewN | refine Ext.setCell ?_ ?_ _ | refine Ext.trans ?_ (by assumption)) | (show _ ≤ _; first | omega | (dsimp only; omega) | (simp; done) | (simp; omega))))⟩
            case measure => simp [intOf]
          · have ix : ∀ W, (Instr.index 116 (.agg #[.int .u32 s.a.i, .int .u32 s.b.i, .int .u32 s.c.i, .int .u32 s.d.i, .int .u32 s.e.i, .int .u32 s.f.i, .int .u32 s.g.i, .int .u32 s.h.i]) (.int .i64 7)).run Tryz.prog W = .ok (.int .u32 s.h.i) W := fun _ => by kernel_rfl
            have z : (strOfNums s.h.nums).size = 4 := strOfNums_size _
            have q1 : ¬ (9223372036854775807 < (digUpto s 7).size + (strOfNums s.h.nums).size) := by omega
            clear z hsz
            go_wp2_with (go_at_call 107; refine (impl_fourBytes s.h _).mono ?_; rintro e w' ⟨rfl, y⟩)
            go_roundw
            case rel => exact ⟨8, by omega, rfl, by rw [hs.out]; rfl, (by repeat (first | (with_reducible first | exact Ext.refl _ | assumption | apply Ext.alloc | apply Ext.drew | apply Ext.drewN | refine Ext.setCell ?_ ?_ _ | refine Ext.trans ?_ (by assumption)) | (show _ ≤ _; first | omega | (dsimp only; omega) | (simp; done) | (simp; omega))))⟩
            case measure => simp [intOf]
        · obtain rfl : j = 8 := by omega
          go_wp2
          go_ret
          exact ⟨ret_str (by rw [R.out, digUpto_all]), hx⟩
end Go.Proofs.YtkphipgfcbckcaaGreatDoor

namespace Go.Proofs.YtkphipgfcbckcaaGreatDoor
open Go.RowKit

attribute [local go_sem ↓] W32.add_i W32.xr_i W32.an_i W32.ro_i W32.no_i W32.no_i' W32.shr_i W32.shl_i W32.ofB_i W32.wr_i un_no no_max

set_option maxRecDepth 100000 in
set_option maxHeartbeats 2000000 in
theorem spec_l03Block (st : St) (s : ByteArray) (w : World) (h : s.size = 64) :
    Calls Tryz.prog 112 #[.agg #[.int .u32 st.a.i, .int .u32 st.b.i, .int .u32 st.c.i, .int .u32 st.d.i, .int .u32 st.e.i, .int .u32 st.f.i, .int .u32 st.g.i, .int .u32 st.h.i], .string s, .agg keysV] w fun e w' => e = .returned (shaB s st).val ∧ Ext w w' := by
  have H := Lib.hid h
  have hsz : 64 ≤ s.size := by omega
  clear h
  go_enter Tryz.func112, Tryz.ntmps112
  go_wp2_with ((refine wpList_store_row rfl 121 (.tmp 7) (.tmp 21) rfl (w.heap.size + 1 + 1 + 1) (List.replicate 64 (Value.int .u32 0)).toArray rfl rfl 121 (List.replicate 64 (Value.int .u32 0)).toArray (heap_alloc_at _ (by simp)) (by kernel_rfl) rfl zero64_one ?_); rw [setRow_alloc_at _ _ _ (by simp)])
  go_loopw [8] (fun i wr => ∃ k : Nat, k ≤ 16 ∧ i = .int .i64 k ∧ Ext w wr ∧ Arr wr w.heap.size st.list ∧ Arr wr (w.heap.size + 1 + 1 + 1) (wArr s k) ∧ Arr wr (w.heap.size + 1 + 1) zero8 ∧ Arr wr (w.heap.size + 1) keysL) (fun i _ => 16 - (intOf i).toNat)
  case atStart =>
    refine ⟨0, by omega, rfl, (by repeat (first | (with_reducible first | exact Ext.refl _ | assumption | apply Ext.alloc | apply Ext.drew | apply Ext.drewN | refine Ext.setCell ?_ ?_ _ | refine Ext.trans ?_ (by assumption)) | (show _ ≤ _; first | omega | (dsimp only; omega) | (simp; done) | (simp; omega)))), ?_, ?_, ?_, ?_⟩
    · exact (((Arr.new w st.list _).alloc _).alloc _).alloc _
    · exact Arr.newAt (wArr s 0) _ (by simp)
    · exact (Arr.newAt zero8 _ (by simp)).alloc _
    · exact ((Arr.newAt keysL _ (by simp)).alloc _).alloc _
  case round =>
    obtain ⟨k, hk, rfl, hx, a1, a2, az, ak⟩ := hrel
    by_cases hlt : k < 16
    · have i1 : (0 : Int) ≤ (k : Int) := by omega
      have i3 : (0 : Int) ≤ 4 * (k : Int) + 1 := by omega
      have i4 : (0 : Int) ≤ 4 * (k : Int) + 2 := by omega
      have i5 : (0 : Int) ≤ 4 * (k : Int) + 3 := by omega
      have i6 : (k : Int) < 64 := by omega
      have j0 : (0 : Int) ≤ 4 * (k : Int) := by omega
      have j1 : (4 * (k : Int)) < s.size := by omega
      have j2 : (4 * (k : Int) + 1) < s.size := by omega
      have j3 : (4 * (k : Int) + 2) < s.size := by omega
      have j4 : (4 * (k : Int) + 3) < s.size := by omega
      have w0 : IntKind.i64.wrap (4 * (k : Int)) = 4 * (k : Int) := IntWalk.i64_in _ (by omega)
      have w1 : IntKind.i64.wrap (4 * (k : Int) + 1) = 4 * (k : Int) + 1 := IntWalk.i64_in _ (by omega)
      have w2 : IntKind.i64.wrap (4 * (k : Int) + 2) = 4 * (k : Int) + 2 := IntWalk.i64_in _ (by omega)
      have w3 : IntKind.i64.wrap (4 * (k : Int) + 3) = 4 * (k : Int) + 3 := IntWalk.i64_in _ (by omega)
      have t0 : (4 * (k : Int)).toNat = 4 * k := by omega
      have t1 : (4 * (k : Int) + 1).toNat = 4 * k + 1 := by omega
      have t2 : (4 * (k : Int) + 2).toNat = 4 * k + 2 := by omega
      have t3 : (4 * (k : Int) + 3).toNat = 4 * k + 3 := by omega
      have l2 : k < (wArr s k).length := by rw [wArr_length _ _ (by omega)]; omega
      have e1 := a2.cell k l2
      have e2 := a2.free k l2
      have A1 := Lib.hid a1
      have A2 := Lib.hid a2
      have AZ := Lib.hid az
      have AK := Lib.hid ak
      clear a1 a2 az ak l2
      go_wp2
      go_still_tail 31, (by kernel_rfl)
      change wpList _ _ _ _ _ wr.drew
      go_wp2
      go_roundw
      case rel =>
        refine ⟨k + 1, by omega, by go_num, (by repeat (first | (with_reducible first | exact Ext.refl _ | assumption | apply Ext.alloc | apply Ext.drew | apply Ext.drewN | refine Ext.setCell ?_ ?_ _ | refine Ext.trans ?_ (by assumption)) | (show _ ≤ _; first | omega | (dsimp only; omega) | (simp; done) | (simp; omega)))), A1.out.other _ (by simp; omega), ?_, AZ.out.other _ (by dsimp only; omega), AK.out.other _ (by simp; omega)⟩
        refine A2.out.put (k := k) _ ?_ rfl
        rw [blk_word, ← wd_lo s k (by omega)]
        exact wArr_set s k (by omega)
      case measure => simp [intOf]; omega
    · have hkn : k = 16 := by omega
      subst hkn
      have A1 := Lib.hid a1
      have A2 := Lib.hid a2
      have AZ := Lib.hid az
      have AK := Lib.hid ak
      clear a1 a2 az ak
      rw [show ((16 : Nat) : Int) = 16 from rfl]
      go_wp2
      go_loopw [9] (fun i wr => ∃ k : Nat, 16 ≤ k ∧ k ≤ 64 ∧ i = .int .i64 k ∧ Ext w wr ∧ Arr wr w.heap.size st.list ∧ Arr wr (w.heap.size + 1 + 1 + 1) (wArr s k) ∧ Arr wr (w.heap.size + 1 + 1) zero8 ∧ Arr wr (w.heap.size + 1) keysL) (fun i _ => 64 - (intOf i).toNat)
      case atStart => exact ⟨16, by omega, by omega, rfl, hx, A1.out, A2.out, AZ.out, AK.out⟩
      case round =>
        clear hx A1 A2 AZ AK
        rename_i wr0 wr
        obtain ⟨k, hk0, hk, rfl, hx, a1, a2, az, ak⟩ := hrel
        by_cases hlt : k < 64
        · have w1 : IntKind.i64.wrap ((k : Int) - 15) = (k : Int) - 15 := IntWalk.i64_in _ (by omega)
          have w2 : IntKind.i64.wrap ((k : Int) - 2) = (k : Int) - 2 := IntWalk.i64_in _ (by omega)
          have w3 : IntKind.i64.wrap ((k : Int) - 16) = (k : Int) - 16 := IntWalk.i64_in _ (by omega)
          have w4 : IntKind.i64.wrap ((k : Int) - 7) = (k : Int) - 7 := IntWalk.i64_in _ (by omega)
          have t1 : ((k : Int) - 15).toNat = k - 15 := by omega
          have t2 : ((k : Int) - 2).toNat = k - 2 := by omega
          have t3 : ((k : Int) - 16).toNat = k - 16 := by omega
          have t4 : ((k : Int) - 7).toNat = k - 7 := by omega
          have i0 : (0 : Int) ≤ (k : Int) := by omega
          have i1 : (0 : Int) ≤ (k : Int) - 15 := by omega
          have i2 : (0 : Int) ≤ (k : Int) - 2 := by omega
          have i3 : (0 : Int) ≤ (k : Int) - 16 := by omega
          have i4 : (0 : Int) ≤ (k : Int) - 7 := by omega
          have k1 : (15 : Int) ≤ (k : Int) := by omega
          have k2 : (2 : Int) ≤ (k : Int) := by omega
          have k3 : (16 : Int) ≤ (k : Int) := by omega
          have k4 : (7 : Int) ≤ (k : Int) := by omega
          have j0 : (k : Int) < 64 := by omega
          have j1 : (k : Int) - 15 < 64 := by omega
          have j2 : (k : Int) - 2 < 64 := by omega
          have j3 : (k : Int) - 16 < 64 := by omega
          have j4 : (k : Int) - 7 < 64 := by omega
          have l0 : (wArr s k).length = 64 := wArr_length _ _ (by omega)
          have e1 := a2.cell (k - 15) (by omega)
          have e2 := a2.cell (k - 2) (by omega)
          rw [wArr_get s k _ hk (by omega)] at e1 e2
          have A1 := Lib.hid a1
          have A2 := Lib.hid a2
          have AZ := Lib.hid az
          have AK := Lib.hid ak
          clear a1 a2 az ak l0
          go_wp2
          go_quiet (first | (go_at_call_of 116 (Value.int .u64 7); exact quiet_add_left (spec_turn_7 _ _)) | (go_at_call_of 116 (Value.int .u64 18); exact quiet_add_left (spec_turn_18 _ _)) | (go_at_call_of 116 (Value.int .u64 7); exact quiet_left (spec_turn_7 _ _)) | (go_at_call_of 116 (Value.int .u64 18); exact quiet_left (spec_turn_18 _ _)))
          go_wp2
          go_quiet (first | (go_at_call_of 116 (Value.int .u64 17); exact quiet_add_left (spec_turn_17 _ _)) | (go_at_call_of 116 (Value.int .u64 19); exact quiet_add_left (spec_turn_19 _ _)) | (go_at_call_of 116 (Value.int .u64 17); exact quiet_left (spec_turn_17 _ _)) | (go_at_call_of 116 (Value.int .u64 19); exact quiet_left (spec_turn_19 _ _)))
          go_wp2
          generalize hW : (wr.drewN _).drewN _ = W2
          have hx2 : Ext w W2 := by rw [← hW]; exact (hx.drewN _).drewN _
          have B1 := Lib.hid (show Arr W2 w.heap.size st.list by rw [← hW]; exact A1.out)
          have B2 := Lib.hid (show Arr W2 (w.heap.size + 1 + 1 + 1) (wArr s k) by rw [← hW]; exact A2.out)
          have BZ := Lib.hid (show Arr W2 (w.heap.size + 1 + 1) zero8 by rw [← hW]; exact AZ.out)
          have BK := Lib.hid (show Arr W2 (w.heap.size + 1) keysL by rw [← hW]; exact AK.out)
          clear A1 A2 AZ AK hW hx e1 e2
          have l0 : k < (wArr s k).length := by rw [wArr_length _ _ (by omega)]; omega
          have e0 := B2.out.cell k l0
          have f0 := B2.out.free k l0
          have e3 := B2.out.cell (k - 16) (by omega)
          have e4 := B2.out.cell (k - 7) (by omega)
          rw [wArr_get s k _ hk (by omega)] at e3 e4
          clear l0
          go_still_tail 15, (by kernel_rfl)
          change wpList _ _ _ _ _ W2.drew
          go_wp2
          go_roundw
          case rel =>
            refine ⟨k + 1, by omega, by omega, by go_num, (by repeat (first | (with_reducible first | exact Ext.refl _ | assumption | apply Ext.alloc | apply Ext.drew | apply Ext.drewN | refine Ext.setCell ?_ ?_ _ | refine Ext.trans ?_ (by assumption)) | (show _ ≤ _; first | omega | (dsimp only; omega) | (simp; done) | (simp; omega)))), B1.out.other _ (by simp; omega), ?_, BZ.out.other _ (by dsimp only; omega), BK.out.other _ (by simp; omega)⟩
            refine B2.out.put (k := k) _ ?_ rfl
            have e := wArr_set s k (by omega)
            rw [wd_hi s k (by omega)] at e
            exact e
          case measure => simp [intOf]; omega
        · have hkn : k = 64 := by omega
          subst hkn
          have b0 := a1.cell 0 (by rw [st_len]; omega)
          have b1 := a1.cell 1 (by rw [st_len]; omega)
          have b2 := a1.cell 2 (by rw [st_len]; omega)
          have b3 := a1.cell 3 (by rw [st_len]; omega)
          have b4 := a1.cell 4 (by rw [st_len]; omega)
          have b5 := a1.cell 5 (by rw [st_len]; omega)
          have b6 := a1.cell 6 (by rw [st_len]; omega)
          have b7 := a1.cell 7 (by rw [st_len]; omega)
          have lz1 := a1.1
          have lz2 := a2.1
          have lz3 := az.1
          have lz5 := ak.1
          have A1 := Lib.hid a1
          have A2 := Lib.hid a2
          have AZ := Lib.hid az
          have AK := Lib.hid ak
          clear a1 a2 az ak
          rw [show ((64 : Nat) : Int) = 64 from rfl]
          simp only [St.list, List.getD_cons_zero, List.getD_cons_succ] at b0 b1 b2 b3 b4 b5 b6 b7
          go_wp2
          obtain ⟨wo, rfl⟩ : ∃ wo : World, wo = wr := ⟨_, rfl⟩
          go_loopw [13] (fun i wr => ∃ k : Nat, k ≤ 64 ∧ i = .int .i64 k ∧ Ext w wr ∧ Arr wr w.heap.size st.list ∧ Arr wr (w.heap.size + 1 + 1 + 1) (wArr s 64) ∧ Arr wr wo.heap.size (rnds s st k).list ∧ Arr wr (w.heap.size + 1 + 1) zero8 ∧ Arr wr (w.heap.size + 1) keysL) (fun i _ => 64 - (intOf i).toNat)
          case atStart =>
            refine ⟨0, by omega, rfl, (by repeat (first | (with_reducible first | exact Ext.refl _ | assumption | apply Ext.alloc | apply Ext.drew | apply Ext.drewN | refine Ext.setCell ?_ ?_ _ | refine Ext.trans ?_ (by assumption)) | (show _ ≤ _; first | omega | (dsimp only; omega) | (simp; done) | (simp; omega)))), ?_, ?_, ?_, ?_, ?_⟩
            · exact A1.out.alloc _
            · exact A2.out.alloc _
            · exact Arr.new _ st.list _
            · exact AZ.out.alloc _
            · exact AK.out.alloc _
          case round =>
            obtain ⟨k, hk, rfl, hx3, a1, a2, a3, az, ak⟩ := hrel
            by_cases hlt3 : k < 64
            · have i0 : (0 : Int) ≤ (k : Int) := by omega
              have j0 : (k : Int) < 64 := by omega
              have e0 := ak.cell k (by rw [keysL_len]; exact hlt3)
              rw [keysL_get k hlt3] at e0
              have e1 := a2.cell k (by rw [wArr_length _ _ (by omega)]; omega)
              rw [wArr_get s 64 k (by omega) hlt3] at e1
              generalize hR : rnds s st k = t at a3
              have HR := Lib.hid hR
              have v0 := a3.cell 0 (by rw [st_len]; omega)
              have v1 := a3.cell 1 (by rw [st_len]; omega)
              have v2 := a3.cell 2 (by rw [st_len]; omega)
              have v3 := a3.cell 3 (by rw [st_len]; omega)
              have v4 := a3.cell 4 (by rw [st_len]; omega)
              have v5 := a3.cell 5 (by rw [st_len]; omega)
              have v6 := a3.cell 6 (by rw [st_len]; omega)
              have v7 := a3.cell 7 (by rw [st_len]; omega)
              have u0 := a3.free 0 (by rw [st_len]; omega)
              have u1 := a3.free 1 (by rw [st_len]; omega)
              have u2 := a3.free 2 (by rw [st_len]; omega)
              have u3 := a3.free 3 (by rw [st_len]; omega)
              have u4 := a3.free 4 (by rw [st_len]; omega)
              have u5 := a3.free 5 (by rw [st_len]; omega)
              have u6 := a3.free 6 (by rw [st_len]; omega)
              have u7 := a3.free 7 (by rw [st_len]; omega)
              simp only [St.list, List.getD_cons_zero, List.getD_cons_succ] at v0 v1 v2 v3 v4 v5 v6 v7
              have B1 := Lib.hid a1
              have B2 := Lib.hid a2
              have B3 := Lib.hid a3
              have BZ := Lib.hid az
              have BK := Lib.hid ak
              clear a1 a2 a3 az ak hR A1 A2 AZ AK b0 b1 b2 b3 b4 b5 b6 b7
              go_wp2
              go_quiet (first | (go_at_call_of 116 (Value.int .u64 6); exact quiet_add_left (spec_turn_6 _ _)) | (go_at_call_of 116 (Value.int .u64 11); exact quiet_add_left (spec_turn_11 _ _)) | (go_at_call_of 116 (Value.int .u64 25); exact quiet_add_left (spec_turn_25 _ _)) | (go_at_call_of 116 (Value.int .u64 6); exact quiet_left (spec_turn_6 _ _)) | (go_at_call_of 116 (Value.int .u64 11); exact quiet_left (spec_turn_11 _ _)) | (go_at_call_of 116 (Value.int .u64 25); exact quiet_left (spec_turn_25 _ _)))
              go_wp2
              go_quiet (fail)
              go_wp2
              go_quiet (first | (go_at_call_of 116 (Value.int .u64 2); exact quiet_add_left (spec_turn_2 _ _)) | (go_at_call_of 116 (Value.int .u64 13); exact quiet_add_left (spec_turn_13 _ _)) | (go_at_call_of 116 (Value.int .u64 22); exact quiet_add_left (spec_turn_22 _ _)) | (go_at_call_of 116 (Value.int .u64 2); exact quiet_left (spec_turn_2 _ _)) | (go_at_call_of 116 (Value.int .u64 13); exact quiet_left (spec_turn_13 _ _)) | (go_at_call_of 116 (Value.int .u64 22); exact quiet_left (spec_turn_22 _ _)))
              go_wp2
              go_roundw
              case rel =>
                refine ⟨k + 1, by omega, by go_num, (by repeat (first | (with_reducible first | exact Ext.refl _ | assumption | apply Ext.alloc | apply Ext.drew | apply Ext.drewN | refine Ext.setCell ?_ ?_ _ | refine Ext.trans ?_ (by assumption)) | (show _ ≤ _; first | omega | (dsimp only; omega) | (simp; done) | (simp; omega)))), ?_, ?_, ?_, ?_, ?_⟩
                · exact octR_other B1.out (by omega)
                · exact octR_other B2.out (by omega)
                · rw [rnds, HR.out]
                  exact octR_put (t := t) (t.next (keyW k) (wd s k)) B3.out
                · exact octR_other BZ.out (by omega)
                · exact octR_other BK.out (by omega)
              case measure => simp [intOf]; omega
            · have hkn : k = 64 := by omega
              subst hkn
              generalize hR : rnds s st 64 = r at a3
              have HR := Lib.hid hR
              have lz4 := a3.1
              have B1 := Lib.hid a1
              have B3 := Lib.hid a3
              have BZ := Lib.hid az
              clear a1 a2 a3 az ak hR A1 A2 AZ AK b0 b1 b2 b3 b4 b5 b6 b7
              rw [show ((64 : Nat) : Int) = 64 from rfl]
              go_wp2
              obtain ⟨w3, rfl⟩ : ∃ w3 : World, w3 = wr := ⟨_, rfl⟩
              go_loopw [20] (fun i wr => ∃ k : Nat, k ≤ 8 ∧ i = .int .i64 k ∧ Ext w wr ∧ Arr wr w.heap.size (plusL st r k) ∧ Arr wr wo.heap.size r.list ∧ Arr wr (w.heap.size + 1 + 1) zero8) (fun i _ => 8 - (intOf i).toNat)
              case atStart => exact ⟨0, by omega, rfl, hx3, B1.out, B3.out, BZ.out⟩
              case round =>
                clear hx3 B1 B3 BZ
                obtain ⟨k, hk, rfl, hx3, a1, a3, az⟩ := hrel
                by_cases hlt4 : k < 8
                · have i0 : (0 : Int) ≤ (k : Int) := by omega
                  have j0 : (k : Int) < 8 := by omega
                  have e1 := a1.cell k (by rw [plusL_len _ _ _ hk]; omega)
                  have f1 := a1.free k (by rw [plusL_len _ _ _ hk]; omega)
                  rw [plusL_get _ _ _ hlt4] at e1
                  have e3 := a3.cell k (by rw [st_len]; omega)
                  have B1 := Lib.hid a1
                  have B3 := Lib.hid a3
                  have BZ := Lib.hid az
                  clear a1 a3 az
                  go_wp2
                  go_still_tail 9, (by kernel_rfl)
                  change wpList _ _ _ _ _ wr.drew
                  go_wp2
                  go_roundw
                  case rel =>
                    refine ⟨k + 1, by omega, by go_num, (by repeat (first | (with_reducible first | exact Ext.refl _ | assumption | apply Ext.alloc | apply Ext.drew | apply Ext.drewN | refine Ext.setCell ?_ ?_ _ | refine Ext.trans ?_ (by assumption)) | (show _ ≤ _; first | omega | (dsimp only; omega) | (simp; done) | (simp; omega)))), ?_, B3.out.other _ (by simp; omega), BZ.out.other _ (by dsimp only; omega)⟩
                    exact B1.out.put (k := k) _ (plusL_set _ _ _ hlt4) rfl
                  case measure => simp [intOf]; omega
                · have hkn : k = 8 := by omega
                  subst hkn
                  rw [plusL_all] at a1
                  generalize hq : st.plus r = q at a1
                  have HQ := Lib.hid hq
                  have v0 := a1.cell 0 (by rw [st_len]; omega)
                  have v1 := a1.cell 1 (by rw [st_len]; omega)
                  have v2 := a1.cell 2 (by rw [st_len]; omega)
                  have v3 := a1.cell 3 (by rw [st_len]; omega)
                  have v4 := a1.cell 4 (by rw [st_len]; omega)
                  have v5 := a1.cell 5 (by rw [st_len]; omega)
                  have v6 := a1.cell 6 (by rw [st_len]; omega)
                  have v7 := a1.cell 7 (by rw [st_len]; omega)
                  simp only [St.list, List.getD_cons_zero, List.getD_cons_succ] at v0 v1 v2 v3 v4 v5 v6 v7
                  have z0 := az.cell 0 (by decide)
                  have z1 := az.cell 1 (by decide)
                  have z2 := az.cell 2 (by decide)
                  have z3 := az.cell 3 (by decide)
                  have z4 := az.cell 4 (by decide)
                  have z5 := az.cell 5 (by decide)
                  have z6 := az.cell 6 (by decide)
                  have z7 := az.cell 7 (by decide)
                  have u0 := az.free 0 (by decide)
                  have u1 := az.free 1 (by decide)
                  have u2 := az.free 2 (by decide)
                  have u3 := az.free 3 (by decide)
                  have u4 := az.free 4 (by decide)
                  have u5 := az.free 5 (by decide)
                  have u6 := az.free 6 (by decide)
                  have u7 := az.free 7 (by decide)
                  have BZ := Lib.hid az
                  clear a1 a3 az hq
                  go_wp2
                  have o := oct_put (t := stZ) q BZ.out
                  have c0 := o.cell 0 (by rw [st_len]; omega)
                  have c1 := o.cell 1 (by rw [st_len]; omega)
                  have c2 := o.cell 2 (by rw [st_len]; omega)
                  have c3 := o.cell 3 (by rw [st_len]; omega)
                  have c4 := o.cell 4 (by rw [st_len]; omega)
                  have c5 := o.cell 5 (by rw [st_len]; omega)
                  have c6 := o.cell 6 (by rw [st_len]; omega)
                  have c7 := o.cell 7 (by rw [st_len]; omega)
                  have hxo : Ext w (oct wr (w.heap.size + 1 + 1) (.int .u32 q.a.i) (.int .u32 q.b.i) (.int .u32 q.c.i) (.int .u32 q.d.i) (.int .u32 q.e.i) (.int .u32 q.f.i) (.int .u32 q.g.i) (.int .u32 q.h.i)) := by
                    unfold oct
                    exact (by repeat (first | (with_reducible first | exact Ext.refl _ | assumption | apply Ext.alloc | apply Ext.drew | apply Ext.drewN | refine Ext.setCell ?_ ?_ _ | refine Ext.trans ?_ (by assumption)) | (show _ ≤ _; first | omega | (dsimp only; omega) | (simp; done) | (simp; omega))))
                  have hfin : (shaB s st).val = q.val := by rw [shaB, HR.out, HQ.out]
                  simp only [St.list, List.getD_cons_zero, List.getD_cons_succ] at c0 c1 c2 c3 c4 c5 c6 c7
                  rw [hfin]
                  clear o hfin
                  change bodyPost _ _ _ _ _ (oct wr (w.heap.size + 1 + 1) (.int .u32 q.a.i) (.int .u32 q.b.i) (.int .u32 q.c.i) (.int .u32 q.d.i) (.int .u32 q.e.i) (.int .u32 q.f.i) (.int .u32 q.g.i) (.int .u32 q.h.i))
                  refine bodyPost_ret (v := q.val) ?_ rfl ⟨rfl, hxo⟩
                  simp [results, Tryz.results112, go_sem, c0, c1, c2, c3, c4, c5, c6, c7, St.val]
end Go.Proofs.YtkphipgfcbckcaaGreatDoor

namespace Go.Proofs.YtkphipgfcbckcaaGreatDoor
open Go.RowKit

set_option maxRecDepth 100000 in
set_option maxHeartbeats 800000 in
theorem spec_l03First (w : World) :
    Calls Tryz.prog 109 #[] w fun e w' => e = .returned st0.val ∧ Ext w w' := by
  go_enter Tryz.func109, Tryz.ntmps109
  go_wp2
  refine bodyPost_ret (v := st0.val) ?_ rfl ⟨rfl, (by repeat (first | (with_reducible first | exact Ext.refl _ | assumption | apply Ext.alloc | apply Ext.drew | apply Ext.drewN | refine Ext.setCell ?_ ?_ _ | refine Ext.trans ?_ (by assumption)) | (show _ ≤ _; first | omega | (dsimp only; omega) | (simp; done) | (simp; omega))))⟩
  simp [results, Tryz.results109, go_sem]
  rfl

theorem keys_one : keysV.all (·.oneCell') = true := by
  rw [Array.all_eq_true_iff_forall_mem]
  intro v hv
  simp only [keysV, List.mem_toArray, List.mem_map] at hv
  obtain ⟨x, -, rfl⟩ := hv
  rfl
theorem keys_size : keysV.size = 64 := by
  simp [keysV, keysL_len]
set_option maxRecDepth 100000 in
set_option maxHeartbeats 800000 in
theorem spec_l03Keys (w : World) :
    Calls Tryz.prog 110 #[] w fun e w' => e = .returned (.agg keysV) ∧ Ext w w' := by
  go_enter Tryz.func110, Tryz.ntmps110
  go_wp2_with (refine wpList_store_row rfl 121 (.tmp 0) (.tmp 1) rfl w.heap.size keysV rfl rfl 121 (List.replicate 64 (Value.int .u32 0)).toArray (heap_alloc_at _ rfl) (by rw [keys_size]; kernel_rfl) (by rw [keys_size]; rfl) keys_one ?_; rw [setRow_alloc_at _ _ _ rfl])
  refine bodyPost_ret (v := .agg keysV) ?_ rfl ⟨rfl, (by repeat (first | (with_reducible first | exact Ext.refl _ | assumption | apply Ext.alloc | apply Ext.drew | apply Ext.drewN | refine Ext.setCell ?_ ?_ _ | refine Ext.trans ?_ (by assumption)) | (show _ ≤ _; first | omega | (dsimp only; omega) | (simp; done) | (simp; omega))))⟩
  exact results_cell_row (P := Tryz.prog) (ty := 121) (p := 0) Tryz.results110 _ _ w.heap.size 121 keysV (0, 0) _ rfl (heap_alloc_at _ rfl) Tryz.underlying121 rfl (by rw [keys_size]; kernel_rfl)
end Go.Proofs.YtkphipgfcbckcaaGreatDoor

namespace Go.Proofs.YtkphipgfcbckcaaGreatDoor
open Go.RowKit

/-- block B holds the rounds' words, whole -/
def KeysAt (w : World) (B : Nat) : Prop := w.heap[B]? = some (.cells keysV 121 (0, 0))
theorem KeysAt.ext {w w' : World} {B : Nat} (h : KeysAt w B) (hx : Ext w w') : KeysAt w' B := (hx.block B (Array.getElem?_eq_some_iff.1 h).1).trans h
theorem KeysAt.lt {w : World} {B : Nat} (h : KeysAt w B) : B < w.heap.size := (Array.getElem?_eq_some_iff.1 h).1
theorem KeysAt.other {w : World} {B : Nat} (h : KeysAt w B) {p : Addr} (v : Value) (hp : p.block ≠ B) : KeysAt (w.setCell p v) B := by
  unfold KeysAt World.setCell
  rw [Array.getElem?_modify, if_neg hp]
  exact h
theorem KeysAt.oct {w : World} {b B : Nat} {x0 x1 x2 x3 x4 x5 x6 x7 : Value} (h : KeysAt w B) (hb : b ≠ B) : KeysAt (oct w b x0 x1 x2 x3 x4 x5 x6 x7) B :=
  (((((((h.other _ hb).other _ hb).other _ hb).other _ hb).other _ hb).other _ hb).other _ hb).other _ hb
theorem keys_load {w : World} {B : Nat} (h : KeysAt w B) : (Instr.loadAt 121 (.pointer (some ⟨B, 0, none⟩))).run Tryz.prog w = .ok (.agg keysV) w := by
  simp only [Instr.loadAt, Instr.sureAddr, Sem.run_bind, Sem.run_pure, Result.andThen_ok]
  exact run_loadVar_row w B 121 121 keysV (0, 0) _ h Tryz.underlying121 rfl (by rw [keys_size]; kernel_rfl)

theorem wpStill_load {P : Program} {ops rest : List Oper} {w : World} {Q : Act → Prop} {a : Act} {o : Oper} (hg : o.guard = none) (ty : TypeId) (x : Operand) (ho : o.op = .load ty x) (p v : Value) (hx : a.eval x = p)
    (hr : (Instr.loadAt ty p).run P w = .ok v w) (h : wpStill P ops.toArray w Q rest (a.put o.dst v)) : wpStill P ops.toArray w Q (o :: rest) a := by
  unfold wpStill
  rw [if_pos (by simp [Region.wanted, hg])]
  unfold Oper.still execOp
  simp only [ho, hx, Sem.run_bind, hr, Result.andThen_ok, Sem.run_pure]
  exact ⟨rfl, h⟩
attribute [local go_sem ↓] W32.shr_i W32.byt_i
theorem ext_block (P : ByteArray) (k : Nat) (s : St) (h : shaN P k = s) : shaN P (k + 1) = shaB (P.extract (64 * k) (64 * k + 64)) s := by
  rw [shaN, h]
theorem spec_l03FirstL (w : World) :
    Calls Tryz.prog 109 #[] w fun e w' => e = .returned (.agg #[.int .u32 st0.a.i, .int .u32 st0.b.i, .int .u32 st0.c.i, .int .u32 st0.d.i, .int .u32 st0.e.i, .int .u32 st0.f.i, .int .u32 st0.g.i, .int .u32 st0.h.i]) ∧ Ext w w' := spec_l03First w
theorem spec_l03BlockL (st : St) (s : ByteArray) (w : World) (h : s.size = 64) :
    Calls Tryz.prog 112 #[.agg #[.int .u32 st.a.i, .int .u32 st.b.i, .int .u32 st.c.i, .int .u32 st.d.i, .int .u32 st.e.i, .int .u32 st.f.i, .int .u32 st.g.i, .int .u32 st.h.i], .string s, .agg keysV] w fun e w' => e = .returned (.agg #[.int .u32 (shaB s st).a.i, .int .u32 (shaB s st).b.i, .int .u32 (shaB s st).c.i, .int .u32 (shaB s st).d.i, .int .u32 (shaB s st).e.i, .int .u32 (shaB s st).f.i, .int .u32 (shaB s st).g.i, .int .u32 (shaB s st).h.i]) ∧ Ext w w' :=
  spec_l03Block st s w h
/-- the bytes of the first j words, noughts behind them -/
def digL (s : St) (j : Nat) : List Value := ((s.list.take j).flatMap W32.nums ++ List.replicate (32 - 4 * j) 0).map (Value.int .u8)
theorem own4 {w : World} {b e g n cap : Nat} {xs ys : List Value} (k : Nat) (x0 x1 x2 x3 : Int) (h : w.ownsRow b e 1 (.slice (some ⟨g, 0, none⟩) n cap) n xs)
    (he : (((xs.set k (.int .u8 x0)).set (k + 1) (.int .u8 x1)).set (k + 2) (.int .u8 x2)).set (k + 3) (.int .u8 x3) = ys) :
    ((((w.setCell ⟨g, k, none⟩ (.int .u8 x0)).setCell ⟨g, k + 1, none⟩ (.int .u8 x1)).setCell ⟨g, k + 2, none⟩ (.int .u8 x2)).setCell ⟨g, k + 3, none⟩ (.int .u8 x3)).ownsRow b e 1 (.slice (some ⟨g, 0, none⟩) n cap) n ys := by
  subst he
  exact ((((h.stored k _).1.stored (k + 1) _).1.stored (k + 2) _).1.stored (k + 3) _).1

set_option maxRecDepth 100000 in
set_option maxHeartbeats 1600000 in
theorem spec_Digest (t : ByteArray) (w : World) (ht : t.size ≤ 1073741824) :
    Calls Tryz.prog 102 #[.string t] w fun e w' => e = .returned (.string (digT t)) ∧ Ext w w' := by
  obtain ⟨i0, hi, hz0, hz1, hz2⟩ := info_parts infoU8
  have R := Lib.hid (show digT t = strOfNums (shaN (padT t) ((padT t).size / 64)).nums from rfl)
  have hp := padT_blocks t
  have hps := padT_size t
  have hpz := zerosN_le t.size
  go_enter Tryz.func102, Tryz.ntmps102
  go_wp2_with (go_at_call 109; refine (spec_l03FirstL _).mono ?_; rintro e w1 ⟨rfl, x1⟩)
  refine (spec_l03Keys _).mono ?_
  rintro e w2 ⟨rfl, x2⟩
  go_wp2_with (refine wpList_store_row rfl 121 (.tmp 4) (.tmp 10) rfl w2.heap.size keysV rfl rfl 121 (List.replicate 64 (Value.int .u32 0)).toArray (heap_alloc_at _ rfl) (by rw [keys_size]; kernel_rfl) (by rw [keys_size]; rfl) keys_one ?_; rw [setRow_alloc_at _ _ _ rfl])
  refine (spec_PadText t _ ht).mono ?_
  rintro e w3 ⟨rfl, x3⟩
  generalize padT t = P at *
  obtain ⟨N, hN⟩ : ∃ N, P.size = 64 * N := ⟨P.size / 64, by omega⟩
  have HN := Lib.hid hN
  have e0 : P.size / 64 = N := by omega
  have hPb : P.size ≤ 1073742000 := by omega
  rw [e0] at R
  have x12 : Ext w1 w2 := ((Ext.refl w1).alloc _).trans x2
  have x23 : Ext w2 w3 := ((Ext.refl w2).alloc _).trans x3
  have a0 : Arr w3 w1.heap.size st0.list := (((Arr.new w1 st0.list 116).ext x2).alloc _).ext x3
  have k0 : KeysAt w3 w2.heap.size := KeysAt.ext (heap_alloc_at _ rfl) x3
  have y3 : Ext w w3 := (x1.trans x12).trans x23
  have lB : w1.heap.size < w2.heap.size := by have := x2.size; simp at this; omega
  have lw : w.heap.size ≤ w1.heap.size := x1.size
  have A0 := Lib.hid a0
  have K0 := Lib.hid k0
  clear hp hps hpz e0 x1 x2 x3 x12 x23 a0 k0 hN
  go_wp2
  go_loopw [6] (fun v wr => ∃ k : Nat, k ≤ N ∧ v = .int .i64 (64 * (k : Int)) ∧ Ext w wr ∧ Arr wr w1.heap.size (shaN P k).list ∧ KeysAt wr w2.heap.size) (fun v _ => P.size - (intOf v).toNat)
  case atStart => exact ⟨0, by omega, rfl, y3, A0.out, K0.out⟩
  case round =>
    clear A0 K0 y3
    obtain ⟨k, hk, rfl, hx, a, hkeys⟩ := hrel
    by_cases hlt : k < N
    · have hq0 : 64 * (k : Int) < P.size := by have := HN.out; omega
      have hq1 : (0 : Int) ≤ 64 * (k : Int) := by omega
      have hq2 : 64 * (k : Int) + 64 ≤ P.size := by have := HN.out; omega
      have hq3 : 64 * (k : Int) ≤ 64 * (k : Int) + 64 := by omega
      have hw1 : IntKind.i64.wrap (64 * (k : Int) + 64) = 64 * (k : Int) + 64 := IntWalk.i64_in _ (by omega)
      have hn1 : (64 * (k : Int)).toNat = 64 * k := by omega
      have hn2 : (64 * (k : Int) + 64).toNat = 64 * k + 64 := by omega
      have HS := Lib.hid (show (P.extract (64 * k) (64 * k + 64)).size = 64 by rw [ByteArray.size_extract]; omega)
      generalize hs0 : shaN P k = s at *
      have HS1 := Lib.hid (ext_block P k s hs0)
      have hkl : KeysAt wr.drew w2.heap.size := hkeys
      have lz := a.1
      have lz3 := hkeys.lt
      have v0 := a.cell 0 (by rw [st_len]; omega)
      have v1 := a.cell 1 (by rw [st_len]; omega)
      have v2 := a.cell 2 (by rw [st_len]; omega)
      have v3 := a.cell 3 (by rw [st_len]; omega)
      have v4 := a.cell 4 (by rw [st_len]; omega)
      have v5 := a.cell 5 (by rw [st_len]; omega)
      have v6 := a.cell 6 (by rw [st_len]; omega)
      have v7 := a.cell 7 (by rw [st_len]; omega)
      simp only [St.list, List.getD_cons_zero, List.getD_cons_succ] at v0 v1 v2 v3 v4 v5 v6 v7
      have A := Lib.hid a
      have HK := Lib.hid hkeys
      clear a hs0 hkeys
      go_wp2
      go_still_tail 7, (by kernel_rfl)
      refine wpStill_load rfl 121 (.tmp 4) rfl _ _ rfl (keys_load hkl) ?_
      refine wpStill_nil ?_
      change wpList _ _ _ _ _ wr.drew
      go_wp2_with fail
      refine (spec_l03BlockL s (P.extract (64 * k) (64 * k + 64)) _ HS.out).mono ?_
      rintro e w4 ⟨rfl, y2⟩
      have y3 : Ext wr w4 := Old.ext (Old.undrew (Old.of y2))
      have lz2 := y3.size
      have a2 := A.out.ext y3
      have hk2 := HK.out.ext y3
      generalize shaB (P.extract (64 * k) (64 * k + 64)) s = u at *
      have r0 := a2.cell 0 (by rw [st_len]; omega)
      have r1 := a2.cell 1 (by rw [st_len]; omega)
      have r2 := a2.cell 2 (by rw [st_len]; omega)
      have r3 := a2.cell 3 (by rw [st_len]; omega)
      have r4 := a2.cell 4 (by rw [st_len]; omega)
      have r5 := a2.cell 5 (by rw [st_len]; omega)
      have r6 := a2.cell 6 (by rw [st_len]; omega)
      have r7 := a2.cell 7 (by rw [st_len]; omega)
      have f0 := a2.free 0 (by rw [st_len]; omega)
      have f1 := a2.free 1 (by rw [st_len]; omega)
      have f2 := a2.free 2 (by rw [st_len]; omega)
      have f3 := a2.free 3 (by rw [st_len]; omega)
      have f4 := a2.free 4 (by rw [st_len]; omega)
      have f5 := a2.free 5 (by rw [st_len]; omega)
      have f6 := a2.free 6 (by rw [st_len]; omega)
      have f7 := a2.free 7 (by rw [st_len]; omega)
      simp only [St.list, List.getD_cons_zero, List.getD_cons_succ] at r0 r1 r2 r3 r4 r5 r6 r7
      have B := Lib.hid a2
      have BK := Lib.hid hk2
      clear a2 hk2 v0 v1 v2 v3 v4 v5 v6 v7 y2 A HK hkl
      go_wp2
      go_roundw
      case rel =>
        refine ⟨k + 1, by omega, by go_num, ?_, ?_, ?_⟩
        · have hxo : Ext w (oct w4 w1.heap.size (.int .u32 u.a.i) (.int .u32 u.b.i) (.int .u32 u.c.i) (.int .u32 u.d.i) (.int .u32 u.e.i) (.int .u32 u.f.i) (.int .u32 u.g.i) (.int .u32 u.h.i)) := by
            unfold oct
            exact (by repeat (first | (with_reducible first | exact Ext.refl _ | assumption | apply Ext.alloc | apply Ext.drew | apply Ext.drewN | refine Ext.setCell ?_ ?_ _ | refine Ext.trans ?_ (by assumption)) | (show _ ≤ _; first | omega | (dsimp only; omega) | (simp; done) | (simp; omega))))
          exact hxo
        · rw [HS1.out]
          exact oct_put (t := s) u B.out
        · exact KeysAt.oct BK.out (by omega)
      case measure => simp [intOf]; omega
    · obtain rfl : k = N := by omega
      have hq0 : ¬ (64 * (k : Int) < P.size) := by have := HN.out; omega
      generalize shaN P k = s at *
      have A := Lib.hid a
      clear a hkeys
      go_wp2_with (at_make; refine wpList_make_full _ rfl _ _ 22 rfl wr.heap.size 5 i0 _ 1 Tryz.underlying22 hi hz0 hz1 _ _ _ _ 32 rfl rfl rfl rfl (by rw [hz2]; omega) (by unfold maxLen; omega) (Nat.le_refl _) ?_; intro w5 hown1 hgrow1)
      have hx5 : Ext wr w5 := (Ext.refl wr).grown hgrow1 (by simp)
      have o0 : w5.ownsRow wr.heap.size 5 1 (.slice (some ⟨wr.heap.size, 0, none⟩) 32 32) 32 (digL s 0) := by
        rw [show (digL s 0) = (madeCells (Value.int .u8 0).cells (32 * 1)).toList by rw [show (Value.int .u8 0).cells = #[.int .u8 0] from rfl, toList_madeCells_one]; rfl]
        exact hown1
      have AR := Lib.hid (A.out.ext hx5)
      have lA := A.out.1
      have lw5 : w.heap.size ≤ wr.heap.size := hx.size
      have hx6 := hx.trans hx5
      have O0 := Lib.hid o0
      obtain ⟨B5, hB5⟩ : ∃ B5, wr.heap.size = B5 := ⟨_, rfl⟩
      rw [hB5] at O0 lA lw5 ⊢
      clear hown1 hgrow1 hx5 o0 hB5 A hx
      go_wp2
      go_loopw [8] (fun i wr => ∃ j : Nat, j ≤ 8 ∧ i = .int .i64 j ∧ wr.ownsRow B5 5 1 (.slice (some ⟨B5, 0, none⟩) 32 32) 32 (digL s j) ∧ Arr wr w1.heap.size s.list ∧ Ext w wr) (fun i _ => 8 - (intOf i).toNat)
      case atStart => exact ⟨0, by omega, rfl, O0.out, AR.out, hx6⟩
      case round =>
        clear O0 AR hx6
        rename_i wrr0 wrr
        obtain ⟨j, hj, rfl, own, a, hx⟩ := hrel
        by_cases hlt2 : j < 8
        · have v0 := a.cell 0 (by rw [st_len]; omega)
          have v1 := a.cell 1 (by rw [st_len]; omega)
          have v2 := a.cell 2 (by rw [st_len]; omega)
          have v3 := a.cell 3 (by rw [st_len]; omega)
          have v4 := a.cell 4 (by rw [st_len]; omega)
          have v5 := a.cell 5 (by rw [st_len]; omega)
          have v6 := a.cell 6 (by rw [st_len]; omega)
          have v7 := a.cell 7 (by rw [st_len]; omega)
          simp only [St.list, List.getD_cons_zero, List.getD_cons_succ] at v0 v1 v2 v3 v4 v5 v6 v7
          have AR := Lib.hid a
          clear a
          rcases lt8 hlt2 with rfl | rfl | rfl | rfl | rfl | rfl | rfl | rfl
          · have c0 := own.cellAt 0 (by decide)
            have c1 := own.cellAt 1 (by decide)
            have c2 := own.cellAt 2 (by decide)
            have c3 := own.cellAt 3 (by decide)
            have d0 := own.frozenAt 0
            have d1 := own.frozenAt 1
            have d2 := own.frozenAt 2
            have d3 := own.frozenAt 3
            have O := Lib.hid own
            clear own
            go_wp2
            go_roundw
            case rel =>
              refine ⟨1, by omega, rfl, ?_, (((AR.out.other _ (by dsimp only; omega)).other _ (by dsimp only; omega)).other _ (by dsimp only; omega)).other _ (by dsimp only; omega), (by repeat (first | (with_reducible first | exact Ext.refl _ | assumption | apply Ext.alloc | apply Ext.drew | apply Ext.drewN | refine Ext.setCell ?_ ?_ _ | refine Ext.trans ?_ (by assumption)) | (show _ ≤ _; first | omega | (dsimp only; omega) | (simp; done) | (simp; omega))))⟩
              exact own4 0 (s.a.shr 24).byt (s.a.shr 16).byt (s.a.shr 8).byt s.a.byt O.out rfl
            case measure => simp [intOf]
          · have c0 := own.cellAt 4 (by decide)
            have c1 := own.cellAt 5 (by decide)
            have c2 := own.cellAt 6 (by decide)
            have c3 := own.cellAt 7 (by decide)
            have d0 := own.frozenAt 4
            have d1 := own.frozenAt 5
            have d2 := own.frozenAt 6
            have d3 := own.frozenAt 7
            have O := Lib.hid own
            clear own
            go_wp2
            go_roundw
            case rel =>
              refine ⟨2, by omega, rfl, ?_, (((AR.out.other _ (by dsimp only; omega)).other _ (by dsimp only; omega)).other _ (by dsimp only; omega)).other _ (by dsimp only; omega), (by repeat (first | (with_reducible first | exact Ext.refl _ | assumption | apply Ext.alloc | apply Ext.drew | apply Ext.drewN | refine Ext.setCell ?_ ?_ _ | refine Ext.trans ?_ (by assumption)) | (show _ ≤ _; first | omega | (dsimp only; omega) | (simp; done) | (simp; omega))))⟩
              exact own4 4 (s.b.shr 24).byt (s.b.shr 16).byt (s.b.shr 8).byt s.b.byt O.out rfl
            case measure => simp [intOf]
          · have c0 := own.cellAt 8 (by decide)
            have c1 := own.cellAt 9 (by decide)
            have c2 := own.cellAt 10 (by decide)
            have c3 := own.cellAt 11 (by decide)
            have d0 := own.frozenAt 8
            have d1 := own.frozenAt 9
            have d2 := own.frozenAt 10
            have d3 := own.frozenAt 11
            have O := Lib.hid own
            clear own
            go_wp2
            go_roundw
            case rel =>
              refine ⟨3, by omega, rfl, ?_, (((AR.out.other _ (by dsimp only; omega)).other _ (by dsimp only; omega)).other _ (by dsimp only; omega)).other _ (by dsimp only; omega), (by repeat (first | (with_reducible first | exact Ext.refl _ | assumption | apply Ext.alloc | apply Ext.drew | apply Ext.drewN | refine Ext.setCell ?_ ?_ _ | refine Ext.trans ?_ (by assumption)) | (show _ ≤ _; first | omega | (dsimp only; omega) | (simp; done) | (simp; omega))))⟩
              exact own4 8 (s.c.shr 24).byt (s.c.shr 16).byt (s.c.shr 8).byt s.c.byt O.out rfl
            case measure => simp [intOf]
          · have c0 := own.cellAt 12 (by decide)
            have c1 := own.cellAt 13 (by decide)
            have c2 := own.cellAt 14 (by decide)
            have c3 := own.cellAt 15 (by decide)
            have d0 := own.frozenAt 12
            have d1 := own.frozenAt 13
            have d2 := own.frozenAt 14
            have d3 := own.frozenAt 15
            have O := Lib.hid own
            clear own
            go_wp2
            go_roundw
            case rel =>
              refine ⟨4, by omega, rfl, ?_, (((AR.out.other _ (by dsimp only; omega)).other _ (by dsimp only; omega)).other _ (by dsimp only; omega)).other _ (by dsimp only; omega), (by repeat (first | (with_reducible first | exact Ext.refl _ | assumption | apply Ext.alloc | apply Ext.drew | apply Ext.drewN | refine Ext.setCell ?_ ?_ _ | refine Ext.trans ?_ (by assumption)) | (show _ ≤ _; first | omega | (dsimp only; omega) | (simp; done) | (simp; omega))))⟩
              exact own4 12 (s.d.shr 24).byt (s.d.shr 16).byt (s.d.shr 8).byt s.d.byt O.out rfl
            case measure => simp [intOf]
          · have c0 := own.cellAt 16 (by decide)
            have c1 := own.cellAt 17 (by decide)
            have c2 := own.cellAt 18 (by decide)
            have c3 := own.cellAt 19 (by decide)
            have d0 := own.frozenAt 16
            have d1 := own.frozenAt 17
            have d2 := own.frozenAt 18
            have d3 := own.frozenAt 19
            have O := Lib.hid own
            clear own
            go_wp2
            go_roundw
            case rel =>
              refine ⟨5, by omega, rfl, ?_, (((AR.out.other _ (by dsimp only; omega)).other _ (by dsimp only; omega)).other _ (by dsimp only; omega)).other _ (by dsimp only; omega), (by repeat (first | (with_reducible first | exact Ext.refl _ | assumption | apply Ext.alloc | apply Ext.drew | apply Ext.drewN | refine Ext.setCell ?_ ?_ _ | refine Ext.trans ?_ (by assumption)) | (show _ ≤ _; first | omega | (dsimp only; omega) | (simp; done) | (simp; omega))))⟩
              exact own4 16 (s.e.shr 24).byt (s.e.shr 16).byt (s.e.shr 8).byt s.e.byt O.out rfl
            case measure => simp [intOf]
          · have c0 := own.cellAt 20 (by decide)
            have c1 := own.cellAt 21 (by decide)
            have c2 := own.cellAt 22 (by decide)
            have c3 := own.cellAt 23 (by decide)
            have d0 := own.frozenAt 20
            have d1 := own.frozenAt 21
            have d2 := own.frozenAt 22
            have d3 := own.frozenAt 23
            have O := Lib.hid own
            clear own
            go_wp2
            go_roundw
            case rel =>
              refine ⟨6, by omega, rfl, ?_, (((AR.out.other _ (by dsimp only; omega)).other _ (by dsimp only; omega)).other _ (by dsimp only; omega)).other _ (by dsimp only; omega), (by repeat (first | (with_reducible first | exact Ext.refl _ | assumption | apply Ext.alloc | apply Ext.drew | apply Ext.drewN | refine Ext.setCell ?_ ?_ _ | refine Ext.trans ?_ (by assumption)) | (show _ ≤ _; first | omega | (dsimp only; omega) | (simp; done) | (simp; omega))))⟩
              exact own4 20 (s.f.shr 24).byt (s.f.shr 16).byt (s.f.shr 8).byt s.f.byt O.out rfl
            case measure => simp [intOf]
          · have c0 := own.cellAt 24 (by decide)
            have c1 := own.cellAt 25 (by decide)
            have c2 := own.cellAt 26 (by decide)
            have c3 := own.cellAt 27 (by decide)
            have d0 := own.frozenAt 24
            have d1 := own.frozenAt 25
            have d2 := own.frozenAt 26
            have d3 := own.frozenAt 27
            have O := Lib.hid own
            clear own
            go_wp2
            go_roundw
            case rel =>
              refine ⟨7, by omega, rfl, ?_, (((AR.out.other _ (by dsimp only; omega)).other _ (by dsimp only; omega)).other _ (by dsimp only; omega)).other _ (by dsimp only; omega), (by repeat (first | (with_reducible first | exact Ext.refl _ | assumption | apply Ext.alloc | apply Ext.drew | apply Ext.drewN | refine Ext.setCell ?_ ?_ _ | refine Ext.trans ?_ (by assumption)) | (show _ ≤ _; first | omega | (dsimp only; omega) | (simp; done) | (simp; omega))))⟩
              exact own4 24 (s.g.shr 24).byt (s.g.shr 16).byt (s.g.shr 8).byt s.g.byt O.out rfl
            case measure => simp [intOf]
          · have c0 := own.cellAt 28 (by decide)
            have c1 := own.cellAt 29 (by decide)
            have c2 := own.cellAt 30 (by decide)
            have c3 := own.cellAt 31 (by decide)
            have d0 := own.frozenAt 28
            have d1 := own.frozenAt 29
            have d2 := own.frozenAt 30
            have d3 := own.frozenAt 31
            have O := Lib.hid own
            clear own
            go_wp2
            go_roundw
            case rel =>
              refine ⟨8, by omega, rfl, ?_, (((AR.out.other _ (by dsimp only; omega)).other _ (by dsimp only; omega)).other _ (by dsimp only; omega)).other _ (by dsimp only; omega), (by repeat (first | (with_reducible first | exact Ext.refl _ | assumption | apply Ext.alloc | apply Ext.drew | apply Ext.drewN | refine Ext.setCell ?_ ?_ _ | refine Ext.trans ?_ (by assumption)) | (show _ ≤ _; first | omega | (dsimp only; omega) | (simp; done) | (simp; omega))))⟩
              exact own4 28 (s.h.shr 24).byt (s.h.shr 16).byt (s.h.shr 8).byt s.h.byt O.out rfl
            case measure => simp [intOf]
        · obtain rfl : j = 8 := by omega
          have hcv := conv_own (ys := s.nums) own
          clear own a
          go_wp2
          go_ret
          exact ⟨ret_str R.out.symm, hx⟩
end Go.Proofs.YtkphipgfcbckcaaGreatDoor
