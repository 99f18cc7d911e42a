/- OwnM, Pad in one text. -/
import Derived.Test.YtckipgijfgeghaaDoorCore
import Derived.Lib.AppendZerosOnto
import Derived.Lib.ConvBytes
import Derived.Laws.BytesArg
import Derived.Lib.AppendStr
import Derived.Deep.RegionLaw
namespace Go.Proofs.YtckipgijfgeghaaDoor
open Go.RowKit

theorem zeroCells_u8 (m : Nat) : (Builtin.zeroCells (Value.int .u8 0).cells m).toList = List.replicate m (Value.int .u8 0) := by
  apply List.ext_getElem?
  intro j
  have hs : (Value.int IntKind.u8 0).cells = #[.int .u8 0] := rfl
  simp only [Builtin.zeroCells, hs, List.getElem?_replicate]
  by_cases hj : j < m
  · simp [hj, Nat.mod_one]
  · simp [hj]

/-- v, of n bytes, owns the cells xs; no cell of its row is frozen. -/
def OwnM (w : World) (base : Nat) (v : Value) (n : Nat) (xs : List Value) : Prop :=
  xs.length = n ∧ ∃ g cap cur lo hi, v = .slice (some ⟨g, 0, none⟩) n cap ∧ base ≤ g ∧ w.heap[g]? = some (.cells cur 5 (lo, hi)) ∧ (hi = 0 ∨ cur.size ≤ lo) ∧ n ≤ cap ∧ cap ≤ maxLen ∧ cur.size = cap ∧ cur.toList.take n = xs

theorem OwnM.form {w : World} {base n : Nat} {v : Value} {xs : List Value} (h : OwnM w base v n xs) : ∃ g cap, v = .slice (some ⟨g, 0, none⟩) n cap ∧ base ≤ g ∧ g < w.heap.size ∧ n ≤ cap ∧ cap ≤ maxLen := by
  obtain ⟨-, g, cap, cur, lo, hi, hv, hb, hg, -, hn, hc, -⟩ := h
  exact ⟨g, cap, hv, hb, (Array.getElem?_eq_some_iff.1 hg).1, hn, hc⟩
theorem OwnM.ext {w w' : World} {base n : Nat} {v : Value} {xs : List Value} (h : OwnM w base v n xs) (hx : Ext w w') : OwnM w' base v n xs := by
  obtain ⟨hl, g, cap, cur, lo, hi, hv, hb, hg, r⟩ := h
  exact ⟨hl, g, cap, cur, lo, hi, hv, hb, (hx.block g (Array.getElem?_eq_some_iff.1 hg).1).trans hg, r⟩
theorem OwnM.alloc {w : World} {base n : Nat} {v : Value} {xs : List Value} (h : OwnM w base v n xs) (o : Obj) : OwnM (w.alloc o) base v n xs := h.ext ((Ext.refl w).alloc o)

section
variable {P : Program}
theorem run_storeCells_m (g o : Nat) (t : TypeId) (lo hi : Nat) : ∀ (vs : List Value) (i : Nat) (cur : Array Value) (w : World), w.heap[g]? = some (.cells cur t (lo, hi)) → (hi = 0 ∨ cur.size ≤ lo) → o + i + vs.length ≤ cur.size → (∀ v ∈ vs, v.oneCell' = true) →
    (storeCells ⟨g, o, none⟩ vs i).run P w = .ok () (w.setRow g (cur.toList.take (o + i) ++ vs ++ cur.toList.drop (o + i + vs.length)).toArray)
  | [], i, cur, w, hg, _, _, _ => by
    simp only [storeCells, List.append_nil, List.length_nil, Nat.add_zero, List.take_append_drop, Array.toArray_toList]
    rw [setRow_self w g cur t (lo, hi) hg]
    rfl
  | v :: rest, i, cur, w, hg, hm, hl, h1 => by
    have hlt : o + i < cur.size := by simp at hl; omega
    have hadd : (⟨g, o, none⟩ : Addr).add i = ⟨g, o + i, none⟩ := by unfold Addr.add; split <;> simp_all
    have hcell : w.cell? ⟨g, o + i, none⟩ = some cur[o + i] := by simp [World.cell?, hg, hlt]
    have hfro : w.frozen? ⟨g, o + i, none⟩ = false := by
      simp only [World.frozen?, hg]
      rcases hm with hm | hm
      · subst hm; simp
      · simp; omega
    have hst : (store ((⟨g, o, none⟩ : Addr).add i) v).run P w = .ok () (w.setRow g (cur.setIfInBounds (o + i) v)) := by
      rw [hadd, run_store P w _ v _ (h1 v (by simp)), hcell]
      simp [hfro, setCell_eq_setRow w g (o + i) cur t (lo, hi) v hg]
    have ih := run_storeCells_m g o t lo hi rest (i + 1) (cur.setIfInBounds (o + i) v) (w.setRow g (cur.setIfInBounds (o + i) v)) (setRow_heap w g cur _ t _ hg) (by simpa using hm) (by simp at hl ⊢; omega) (fun x hx => h1 x (by simp [hx]))
    simp only [storeCells, Sem.run_bind, hst, Result.andThen_ok, ih, setRow_setRow]
    congr 3
    have e := list_seg_step cur.toList (o + i) v rest (by simp at hl ⊢; omega)
    simpa [Array.toList_setIfInBounds, Nat.add_assoc] using e

/-- behind a store of news into the room behind the elements -/
theorem own_room {w : World} {base n m g cap : Nat} {xs news : List Value} {cur : Array Value} {lo hi : Nat} (hxl : xs.length = n) (hl : news.length = m) (hbg : base ≤ g) (hg : w.heap[g]? = some (.cells cur 5 (lo, hi))) (hm : hi = 0 ∨ cur.size ≤ lo)
    (hroom : n + m ≤ cap) (hcm : cap ≤ maxLen) (hcs : cur.size = cap) (htake : cur.toList.take n = xs) :
    OwnM (w.setRow g (cur.toList.take n ++ news ++ cur.toList.drop (n + m)).toArray) base (.slice (some ⟨g, 0, none⟩) (n + m) cap) (n + m) (xs ++ news) ∧ w.grownBy (w.setRow g (cur.toList.take n ++ news ++ cur.toList.drop (n + m)).toArray) (some g) := by
  have hsz : (cur.toList.take n ++ news ++ cur.toList.drop (n + m)).toArray.size = cap := by
    simp only [List.size_toArray, List.length_append, List.length_take, List.length_drop, Array.length_toList]
    omega
  have hlen : (xs ++ news).length = n + m := by rw [List.length_append, hxl, hl]
  refine ⟨⟨hlen, g, cap, _, lo, hi, rfl, hbg, setRow_heap w g cur _ _ _ hg, by rw [hsz, ← hcs]; exact hm, hroom, hcm, hsz, ?_⟩, ⟨rfl, rfl, rfl, by simp, fun k _ hk => setRow_other w g k _ (fun e => hk (by rw [e]))⟩⟩
  rw [htake, ← hlen]
  exact List.take_left
/-- behind a new row -/
theorem own_new {w : World} {base n m old : Nat} {xs news : List Value} (hxl : xs.length = n) (hl : news.length = m) (hb : base ≤ w.heap.size) (hm : n + m ≤ maxLen) (row : Option Nat) :
    OwnM (w.drew.alloc (.cells (xs.toArray ++ news.toArray ++ Builtin.zeroCells (Value.int .u8 0).cells (grownCap w (n + m) old 5 - (n + m))) 5)) base (.slice (some ⟨w.heap.size, 0, none⟩) (n + m) (grownCap w (n + m) old 5)) (n + m) (xs ++ news) ∧
    w.grownBy (w.drew.alloc (.cells (xs.toArray ++ news.toArray ++ Builtin.zeroCells (Value.int .u8 0).cells (grownCap w (n + m) old 5 - (n + m))) 5)) row := by
  have hge := grownCap_ge w (n + m) old 5
  have hcm : grownCap w (n + m) old 5 ≤ maxLen := grownCap_le_maxLen w (n + m) old _ hm
  have hlen : (xs ++ news).length = n + m := by rw [List.length_append, hxl, hl]
  refine ⟨⟨hlen, w.heap.size, _, _, 0, 0, rfl, hb, heap_alloc_new w.drew _, Or.inl rfl, hge, hcm, ?_, ?_⟩, ⟨rfl, rfl, rfl, by simp, fun k hk _ => heap_alloc_old w.drew _ hk⟩⟩
  · have hz1 : (Value.int IntKind.u8 0).cells.size = 1 := rfl
    simp only [Array.size_append, List.size_toArray, size_zeroCells, hz1, hxl, hl]
    omega
  · simp only [Array.toList_append, List.append_assoc]
    rw [← List.append_assoc, ← hlen]
    exact List.take_left

theorem OwnM.cells {w : World} {base n g cap : Nat} {xs : List Value} (h : OwnM w base (.slice (some ⟨g, 0, none⟩) n cap) n xs) : ∀ j u, xs[j]? = some u → w.cell? ⟨g, j, none⟩ = some u := by
  obtain ⟨hl, g', cap', cur, lo, hi, hv, hb, hg, -, hn, hc, hs, ht⟩ := h
  injection hv with h1 h2 h3
  injection h1 with h1
  injection h1 with h1
  subst h1
  intro j u hj
  rw [cell_of_row w g j cur _ _ hg]
  rw [← ht] at hj
  have hjn : j < n := by
    have := (List.getElem?_eq_some_iff.1 hj).1
    rw [List.length_take] at this
    omega
  rw [List.getElem?_take_of_lt hjn] at hj
  simpa using hj

theorem run_append_m (w : World) (base : Nat) (t ty : TypeId) (i : TypeInfo) (ht : P.underlying t = some (.slice 5)) (hi : P.info? 5 = some i) (hz : i.zero = some (.int .u8 0)) (hsize : i.size = 1) (hby : i.bytes = 1)
    (n cap g : Nat) (xs : List Value) (hown : OwnM w base (.slice (some ⟨g, 0, none⟩) n cap) n xs) (a : Addr) (m c : Nat) (news : List Value) (hl : news.length = m) (hnews : ∀ j u, news[j]? = some u → w.cell? (a.add j) = some u) (h1 : ∀ u ∈ news, u.oneCell' = true)
    (h63 : n + m ≤ 1099511627776) (hbase : base ≤ w.heap.size) :
    ∃ v' w', (Builtin.append_ #[t, t] ty #[.slice (some ⟨g, 0, none⟩) n cap, .slice (some a) m c]).run P w = .ok v' w' ∧ OwnM w' base v' (n + m) (xs ++ news) ∧ w.grownBy w' (some g) := by
  have hcl := hown.cells
  obtain ⟨hxl, g', cap', cur, lo, hh, hv, hbg, hg, hm, hnc, hcm, hcs, htake⟩ := hown
  injection hv with e1 e2 e3
  injection e1 with e1
  injection e1 with e1
  subst e1 e3
  have hml : n + m ≤ maxLen := by unfold maxLen; omega
  by_cases hroom : n + m ≤ cap
  · have hf := run_firstCells_some (P := P) w i.size m a m c news (by rw [hsize, hl, Nat.mul_one]) hnews
    have hst := run_storeCells_m (P := P) g n 5 lo hh news 0 cur w hg hm (by rw [hl]; omega) h1
    simp only [Nat.add_zero] at hst
    rw [hl] at hst
    rw [hsize] at hf
    have hr : (Builtin.append_ #[t, t] ty #[.slice (some ⟨g, 0, none⟩) n cap, .slice (some a) m c]).run P w =
        .ok (.slice (some ⟨g, 0, none⟩) (n + m) cap) (w.setRow g (cur.toList.take n ++ news ++ cur.toList.drop (n + m)).toArray) := by
      simp [Builtin.append_, run_underlying ht, sizeOf, typeInfo, hi, hsize, Builtin.lenOf, hroom, hf, Addr.add_lit, hst]
    obtain ⟨q1, q2⟩ := own_room hxl hl hbg hg hm hroom hcm hcs htake
    exact ⟨_, _, hr, q1, q2⟩
  · have holds : ∀ j u, xs[j]? = some u → w.cell? ((⟨g, 0, none⟩ : Addr).add j) = some u := fun j u hj => by
      have : (⟨g, 0, none⟩ : Addr).add j = ⟨g, j, none⟩ := by unfold Addr.add; split <;> simp_all
      rw [this]
      exact hcl j u hj
    have hr := run_append_grow (P := P) w t ty 5 i (.int .u8 0) ht hi hz ⟨g, 0, none⟩ n cap xs (by rw [hsize, hxl, Nat.mul_one]) holds a m c news (by rw [hsize, hl, Nat.mul_one]) hnews (by omega) (by omega) (by rw [hby]; exact growslice_fits (by omega) (by omega))
    obtain ⟨q1, q2⟩ := own_new (w := w) (base := base) (old := cap) hxl hl hbase hml (some g)
    exact ⟨_, _, hr, q1, q2⟩
theorem run_append_m_zeros (w : World) (base : Nat) (t tn ty : TypeId) (i : TypeInfo) (ht : P.underlying t = some (.slice 5)) (htn : P.underlying tn = some (.int .i64)) (hi : P.info? 5 = some i) (hz : i.zero = some (.int .u8 0)) (hsize : i.size = 1) (hby : i.bytes = 1)
    (n cap g : Nat) (xs : List Value) (hown : OwnM w base (.slice (some ⟨g, 0, none⟩) n cap) n xs) (m : Nat) (h63 : n + m ≤ 1099511627776) (hbase : base ≤ w.heap.size) :
    ∃ v' w', (Builtin.append_ #[t, tn] ty #[.slice (some ⟨g, 0, none⟩) n cap, .int .i64 m]).run P w = .ok v' w' ∧ OwnM w' base v' (n + m) (xs ++ List.replicate m (.int .u8 0)) ∧ w.grownBy w' (some g) := by
  have hcl := hown.cells
  have hown0 := hown
  obtain ⟨hxl, g', cap', cur, lo, hh, hv, hbg, hg, hmk, hnc, hcm, hcs, htake⟩ := hown
  injection hv with e1 e2 e3
  injection e1 with e1
  injection e1 with e1
  subst e1 e3
  have hml : n + m ≤ maxLen := by unfold maxLen; omega
  have hw : IntKind.i64.wrap (m : Int) = m := by rw [IntKind.wrap_i64]; omega
  have hneg : ¬ ((m : Int) < 0) := by omega
  have h48i : ¬ (281474976710656 < (m : Int)) := by omega
  by_cases hm : m = 0
  · subst hm
    refine ⟨.slice (some ⟨g, 0, none⟩) n cap, w, ?_, by simpa using hown0, ⟨rfl, rfl, rfl, Nat.le_refl _, fun _ _ _ => rfl⟩⟩
    simp [Builtin.append_, run_underlying ht, run_underlying htn, sizeOf, typeInfo, hi, asInt, asIntOf, IntKind.wrap_i64, hnc, storeCells]
  · by_cases hroom : n + m ≤ cap
    · have hst := run_storeCells_m (P := P) g (n * i.size) 5 lo hh (List.replicate m (Value.int .u8 0)) 0 cur w hg hmk (by rw [hsize, List.length_replicate]; omega) (fun u hu => by rw [List.eq_of_mem_replicate hu]; rfl)
      simp only [Nat.add_zero] at hst
      rw [hsize, Nat.mul_one, List.length_replicate] at hst
      have hr : (Builtin.append_ #[t, tn] ty #[.slice (some ⟨g, 0, none⟩) n cap, .int .i64 m]).run P w =
          .ok (.slice (some ⟨g, 0, none⟩) (n + m) cap) (w.setRow g (cur.toList.take n ++ List.replicate m (Value.int .u8 0) ++ cur.toList.drop (n + m)).toArray) := by
        simp [Builtin.append_, run_underlying ht, run_underlying htn, sizeOf, typeInfo, zeroValue, hi, hz, hsize, hby, asInt, asIntOf, hw, hneg, h48i, hm, hroom, zeroCells_u8, Addr.add_lit, hst]
      obtain ⟨q1, q2⟩ := own_room (news := List.replicate m (Value.int .u8 0)) hxl (List.length_replicate ..) hbg hg hmk hroom hcm hcs htake
      exact ⟨_, _, hr, q1, q2⟩
    · have holds : ∀ j u, xs[j]? = some u → w.cell? ((⟨g, 0, none⟩ : Addr).add j) = some u := fun j u hj => by
        have : (⟨g, 0, none⟩ : Addr).add j = ⟨g, j, none⟩ := by unfold Addr.add; split <;> simp_all
        rw [this]
        exact hcl j u hj
      have hf : (Builtin.firstCells i.size n (.slice (some ⟨g, 0, none⟩) n cap)).run P w.drew = .ok xs.toArray w.drew :=
        run_firstCells_some (P := P) w.drew i.size n ⟨g, 0, none⟩ n cap xs (by rw [hsize, hxl, Nat.mul_one]) holds
      have hr := Lib.run_append_grow_zeros (P := P) w t tn ty 5 i (.int .u8 0) .i64 .i64 ht htn hi hz (some ⟨g, 0, none⟩) n cap xs hf m (by omega) (by omega) (by omega) (by omega) (by rw [hby]; omega) (by rw [hby]; exact growslice_fits (by omega) (by omega))
      obtain ⟨q1, q2⟩ := own_new (w := w) (base := base) (old := cap) (news := List.replicate m (Value.int .u8 0)) hxl (List.length_replicate ..) hbase hml (some g)
      have hz2 : Builtin.zeroCells (Value.int IntKind.u8 0).cells m = (List.replicate m (Value.int .u8 0)).toArray := by
        apply Array.ext'
        rw [zeroCells_u8]
      rw [hz2] at hr
      exact ⟨_, _, hr, q1, q2⟩

theorem wpList_append_m {ops : Array Oper} {rest : List Oper} {o : Oper} {a : Act} {w : World} {Q : Exit → Act → World → Prop} (hgd : o.guard = none) (sl x : Operand) (t : TypeId)
    (ho : o.op = .call { callee := .builtin .append, args := #[sl, x], argTypes := #[t, t] }) (base : Nat) (i : TypeInfo) (ht : P.underlying t = some (.slice 5)) (hi : P.info? 5 = some i) (hz : i.zero = some (.int .u8 0)) (hsize : i.size = 1) (hby : i.bytes = 1)
    (n cap g : Nat) (xs : List Value) (hs : a.eval sl = .slice (some ⟨g, 0, none⟩) n cap) (hown : OwnM w base (.slice (some ⟨g, 0, none⟩) n cap) n xs) (ad : Addr) (m c : Nat) (news : List Value) (hx : a.eval x = .slice (some ad) m c) (hl : news.length = m)
    (hnews : ∀ j u, news[j]? = some u → w.cell? (ad.add j) = some u) (h1 : ∀ u ∈ news, u.oneCell' = true) (h63 : n + m ≤ 1099511627776) (hbase : base ≤ w.heap.size)
    (h : ∀ v' w', OwnM w' base v' (n + m) (xs ++ news) → w.grownBy w' (some g) → wpList P ops Q rest (a.put o.dst v') w') : wpList P ops Q (o :: rest) a w := by
  obtain ⟨v', w', hr, q1, q2⟩ := run_append_m w base t o.type i ht hi hz hsize hby n cap g xs hown ad m c news hl hnews h1 h63 hbase
  exact Lib.wpList_append_run w hgd sl x t t ho _ _ hs hx v' w' hr (h v' w' q1 q2)
theorem wpList_append_m_zeros {ops : Array Oper} {rest : List Oper} {o : Oper} {a : Act} {w : World} {Q : Exit → Act → World → Prop} (hgd : o.guard = none) (sl x : Operand) (t tn : TypeId)
    (ho : o.op = .call { callee := .builtin .append, args := #[sl, x], argTypes := #[t, tn] }) (base : Nat) (i : TypeInfo) (ht : P.underlying t = some (.slice 5)) (htn : P.underlying tn = some (.int .i64)) (hi : P.info? 5 = some i) (hz : i.zero = some (.int .u8 0)) (hsize : i.size = 1) (hby : i.bytes = 1)
    (n cap g : Nat) (xs : List Value) (hs : a.eval sl = .slice (some ⟨g, 0, none⟩) n cap) (hown : OwnM w base (.slice (some ⟨g, 0, none⟩) n cap) n xs) (m : Nat) (hx : a.eval x = .int .i64 m) (h63 : n + m ≤ 1099511627776) (hbase : base ≤ w.heap.size)
    (h : ∀ v' w', OwnM w' base v' (n + m) (xs ++ List.replicate m (.int .u8 0)) → w.grownBy w' (some g) → wpList P ops Q rest (a.put o.dst v') w') : wpList P ops Q (o :: rest) a w := by
  obtain ⟨v', w', hr, q1, q2⟩ := run_append_m_zeros w base t tn o.type i ht htn hi hz hsize hby n cap g xs hown m h63 hbase
  exact Lib.wpList_append_run w hgd sl x t tn ho _ _ hs hx v' w' hr (h v' w' q1 q2)
end

/-- '[]byte(s)' -/
theorem bytes_own (w : World) (s : ByteArray) (h : s.size ≤ maxLen) : OwnM (Lib.bytesWorld w 5 s) w.heap.size (.slice (some ⟨w.heap.size, 0, none⟩) s.size (grownCap w s.size 0 5)) s.size (Lib.strCells s) := by
  have hge := grownCap_ge w s.size 0 5
  have hsz : (Lib.bytesCells w 5 s).size = grownCap w s.size 0 5 := by
    have e : s.data.size = s.size := rfl
    simp only [Lib.bytesCells, Array.size_append, Array.size_map, Array.size_replicate, e]
    omega
  refine ⟨Lib.strCells_length s, w.heap.size, _, _, _, _, rfl, Nat.le_refl _, Lib.bytesWorld_at_new w _ s, Or.inr (Nat.le_refl _), hge, grownCap_le_maxLen w s.size 0 _ h, hsz, ?_⟩
  have e : ((s.data.map fun b => Value.int IntKind.u8 b.toNat)).toList = Lib.strCells s := by simp [Lib.strCells]
  rw [Lib.bytesCells, Array.toList_append, e]
  have hl := Lib.strCells_length s
  rw [← hl]
  exact List.take_left
theorem bytes_ext (w : World) (s : ByteArray) : Ext w (Lib.bytesWorld w 5 s) := by
  refine ⟨?_, ?_, ?_, ?_, fun k hk => Lib.bytesWorld_at_old w _ s k hk⟩
  · simp only [Lib.bytesWorld, World.freeze]; rfl
  · simp only [Lib.bytesWorld, World.freeze]; rfl
  · simp only [Lib.bytesWorld, World.freeze]; rfl
  · rw [Lib.bytesWorld_size]; omega
theorem OwnM.str {w : World} {base n g cap : Nat} {xs : List Int} (h : OwnM w base (.slice (some ⟨g, 0, none⟩) n cap) n (xs.map (Value.int .u8))) :
    (convert 22 9 (.slice (some ⟨g, 0, none⟩) n cap)).run Tryd.prog w = .ok (.string (strOfNums xs)) w := by
  have hl : xs.length = n := by simpa using h.1
  refine run_convert_bytes_arg _ _ _ Tryd.underlying22 Tryd.underlying5 _ 0 _ _ xs hl (fun i hi => ?_) _ Tryd.underlying9
  rw [Nat.zero_add]
  exact h.cells i _ (by simp [show i < xs.length by omega])
end Go.Proofs.YtckipgijfgeghaaDoor
namespace Go.Proofs.YtckipgijfgeghaaDoor
open Go.RowKit

theorem Ext.grownM {a b c : World} {g : Nat} (h : Ext a b) (hg : b.grownBy c (some g)) (hr : a.heap.size ≤ g) : Ext a c := Below.grown h hg h.size (fun k hk => by injection hk with hk; omega)
theorem infoU8 : (Tryd.prog.info? 5).map (fun i => (i.zero, i.size, i.bytes)) = some (some (.int .u8 0), 1, 1) := by kernel_rfl

theorem zerosN_le (n : Nat) : zerosN n ≤ 63 := by unfold zerosN; omega
/-- the bytes laid when i bytes of the length are there -/
def padUpto (t : ByteArray) (i : Nat) : List Int := nums8 t ++ ([128] ++ List.replicate (zerosN t.size) 0 ++ (List.range i).map fun k => ((8 * t.size / 2 ^ (8 * (7 - k)) % 256 : Nat) : Int))
theorem padUpto_len (t : ByteArray) (i : Nat) : (padUpto t i).length = t.size + 1 + zerosN t.size + i := by
  simp only [padUpto, List.length_append, nums8_length, List.length_cons, List.length_nil, List.length_replicate, List.length_map, List.length_range]
  omega
theorem padUpto_succ (t : ByteArray) (i : Nat) : padUpto t (i + 1) = padUpto t i ++ [((8 * t.size / 2 ^ (8 * (7 - i)) % 256 : Nat) : Int)] := by
  simp [padUpto, List.range_succ]
theorem padUpto_all (t : ByteArray) : strOfNums (padUpto t 8) = padT t := by
  rw [padUpto, strOfNums_append, strOfNums_nums8]
  rfl
theorem padT_size (t : ByteArray) : (padT t).size = t.size + 9 + zerosN t.size := by
  rw [← padUpto_all, strOfNums_size, padUpto_len]
  omega
theorem padT_blocks (t : ByteArray) : (padT t).size % 64 = 0 ∧ 0 < (padT t).size := by
  rw [padT_size]
  unfold zerosN
  omega

theorem news1 (W : World) (u0 : Value) (T : TypeId) : ∀ j u, [u0][j]? = some u → (W.alloc (.cells #[u0] T)).cell? ((⟨W.heap.size, 0, none⟩ : Addr).add j) = some u := by
  intro j u h
  have hj : j = 0 := by
    have := (List.getElem?_eq_some_iff.1 h).1
    simpa using this
  subst hj
  have e : (⟨W.heap.size, 0, none⟩ : Addr).add 0 = ⟨W.heap.size, 0, none⟩ := by unfold Addr.add; rfl
  rw [e, World.cell?_alloc_new]
  simpa using h
theorem one1 (x : Int) : ∀ u ∈ [Value.int .u8 x], u.oneCell' = true := by
  intro u hu
  rw [List.mem_singleton] at hu
  rw [hu]
  rfl
theorem zeros_int (n : Nat) : (119 - (n : Int)) % 64 = (zerosN n : Int) := by
  unfold zerosN
  omega
theorem u8_of (a b : Int) (h : a = b) : [Value.int .u8 a] = [b].map (Value.int .u8) := by rw [h]; rfl

set_option maxRecDepth 100000 in
set_option maxHeartbeats 1600000 in
theorem impl_PadText (t : ByteArray) (w : World) (ht : t.size ≤ 1073741824) :
    Calls Tryd.prog 50 #[.string t] w fun e w' => e = .returned (.string (padT t)) ∧ Ext w w' := by
  obtain ⟨i0, hi, hz0, hz1, hz2⟩ := info_parts infoU8
  have hcv := fun W : World => Lib.run_convert_string_bytes (P := Tryd.prog) W 9 22 5 t Tryd.underlying9 Tryd.underlying22 Tryd.underlying5
  have hm : t.size ≤ maxLen := by unfold maxLen; omega
  have o1 := Lib.hid (bytes_own w t hm)
  have x1 := bytes_ext w t
  have l1 := x1.size
  have zl := zerosN_le t.size
  have hzn := Lib.hid (zeros_int t.size)
  clear hm
  go_enter Tryd.func50, Tryd.ntmps50
  go_wp2_with (at_builtin; refine wpList_append_m rfl (.tmp 12) (.tmp 13) 22 rfl w.heap.size i0 Tryd.underlying22 hi hz0 hz1 hz2 t.size _ w.heap.size (Lib.strCells t) rfl (o1.out.alloc _) ⟨(Lib.bytesWorld w 5 t).heap.size, 0, none⟩ 1 1 [.int .u8 128] rfl rfl (news1 _ _ _) (one1 _) (by omega) (by simp; omega) ?_)
  intro v1 w1 own1 g1
  obtain ⟨a1, c1, rfl, ha1, hb1, -, -⟩ := own1.form
  have x2 : Ext w w1 := (x1.alloc _).grownM g1 (Nat.le_refl _)
  have l2 := x2.size
  have O1 := Lib.hid own1
  clear own1 g1 o1 hcv x1 l1
  go_wp2_with (at_builtin; refine wpList_append_m_zeros rfl (.tmp 15) (.tmp 16) 22 3 rfl w.heap.size i0 Tryd.underlying22 Tryd.underlying3 hi hz0 hz1 hz2 (t.size + 1) _ a1 _ rfl O1.out (zerosN t.size) (congrArg (Value.int .i64) hzn.out) (by omega) (by omega) ?_)
  intro v2 w2 own2 g2
  obtain ⟨a2, c2, rfl, ha2, hb2, -, -⟩ := own2.form
  have x3 : Ext w w2 := x2.grownM g2 ha1
  have O2 := Lib.hid own2
  clear own2 g2 O1 x2 l2 ha1 hb1
  go_wp2
  go_loopw [4, 5] (fun v i wr => ∃ j : Nat, j ≤ 8 ∧ i = .int .i64 (7 - (j : Int)) ∧ OwnM wr w.heap.size v (t.size + 1 + zerosN t.size + j) ((padUpto t j).map (Value.int .u8)) ∧ Ext w wr) (fun _ i _ => (intOf i + 1).toNat)
  case atStart =>
    refine ⟨0, by omega, rfl, ?_, x3⟩
    have := O2.out
    simpa [padUpto, strCells_nums8] using this
  case round =>
    clear O2 x3 ha2 hb2
    obtain ⟨j, hj, rfl, own, hx⟩ := hrel
    obtain ⟨a, c, rfl, ha, hb, -, -⟩ := own.form
    have O := Lib.hid own
    have hl := hx.size
    clear own
    by_cases hlt : j < 8
    · have hs := Lib.hid (padUpto_succ t j)
      rcases lt8 hlt with rfl | rfl | rfl | rfl | rfl | rfl | rfl | rfl
      · go_wp2_with (at_builtin; refine wpList_append_m rfl (.tmp 22) (.tmp 30) 22 rfl w.heap.size i0 Tryd.underlying22 hi hz0 hz1 hz2 (t.size + 1 + zerosN t.size + 0) _ a _ rfl (O.out.alloc _) ⟨wr.heap.size, 0, none⟩ 1 1 [.int .u8 _] rfl rfl (news1 _ _ _) (one1 _) (by omega) (by simp; omega) ?_)
        intro v' w' own' g'
        have hx' : Ext w w' := (hx.alloc _).grownM g' ha
        have he : (2 : Nat) ^ (8 * (7 - 0)) = 72057594037927936 := by decide
        have O' : OwnM w' w.heap.size v' (t.size + 1 + zerosN t.size + 0 + 1) ((padUpto t (0 + 1)).map (Value.int .u8)) := by
          rw [hs.out, List.map_append, he]
          rw [u8_of _ ((8 * t.size / 72057594037927936 % 256 : Nat) : Int) (by omega)] at own'
          exact own'
        have HO := Lib.hid O'
        clear own' g' O' he
        go_wp2
        go_roundw
        case rel => exact ⟨1, by omega, rfl, HO.out, hx'⟩
        case measure => simp [intOf]
      · go_wp2_with (at_builtin; refine wpList_append_m rfl (.tmp 22) (.tmp 30) 22 rfl w.heap.size i0 Tryd.underlying22 hi hz0 hz1 hz2 (t.size + 1 + zerosN t.size + 1) _ a _ rfl (O.out.alloc _) ⟨wr.heap.size, 0, none⟩ 1 1 [.int .u8 _] rfl rfl (news1 _ _ _) (one1 _) (by omega) (by simp; omega) ?_)
        intro v' w' own' g'
        have hx' : Ext w w' := (hx.alloc _).grownM g' ha
        have he : (2 : Nat) ^ (8 * (7 - 1)) = 281474976710656 := by decide
        have O' : OwnM w' w.heap.size v' (t.size + 1 + zerosN t.size + 1 + 1) ((padUpto t (1 + 1)).map (Value.int .u8)) := by
          rw [hs.out, List.map_append, he]
          rw [u8_of _ ((8 * t.size / 281474976710656 % 256 : Nat) : Int) (by omega)] at own'
          exact own'
        have HO := Lib.hid O'
        clear own' g' O' he
        go_wp2
        go_roundw
        case rel => exact ⟨2, by omega, rfl, HO.out, hx'⟩
        case measure => simp [intOf]
      · go_wp2_with (at_builtin; refine wpList_append_m rfl (.tmp 22) (.tmp 30) 22 rfl w.heap.size i0 Tryd.underlying22 hi hz0 hz1 hz2 (t.size + 1 + zerosN t.size + 2) _ a _ rfl (O.out.alloc _) ⟨wr.heap.size, 0, none⟩ 1 1 [.int .u8 _] rfl rfl (news1 _ _ _) (one1 _) (by omega) (by simp; omega) ?_)
        intro v' w' own' g'
        have hx' : Ext w w' := (hx.alloc _).grownM g' ha
        have he : (2 : Nat) ^ (8 * (7 - 2)) = 1099511627776 := by decide
        have O' : OwnM w' w.heap.size v' (t.size + 1 + zerosN t.size + 2 + 1) ((padUpto t (2 + 1)).map (Value.int .u8)) := by
          rw [hs.out, List.map_append, he]
          rw [u8_of _ ((8 * t.size / 1099511627776 % 256 : Nat) : Int) (by omega)] at own'
          exact own'
        have HO := Lib.hid O'
        clear own' g' O' he
        go_wp2
        go_roundw
        case rel => exact ⟨3, by omega, rfl, HO.out, hx'⟩
        case measure => simp [intOf]
      · go_wp2_with (at_builtin; refine wpList_append_m rfl (.tmp 22) (.tmp 30) 22 rfl w.heap.size i0 Tryd.underlying22 hi hz0 hz1 hz2 (t.size + 1 + zerosN t.size + 3) _ a _ rfl (O.out.alloc _) ⟨wr.heap.size, 0, none⟩ 1 1 [.int .u8 _] rfl rfl (news1 _ _ _) (one1 _) (by omega) (by simp; omega) ?_)
        intro v' w' own' g'
        have hx' : Ext w w' := (hx.alloc _).grownM g' ha
        have he : (2 : Nat) ^ (8 * (7 - 3)) = 4294967296 := by decide
        have O' : OwnM w' w.heap.size v' (t.size + 1 + zerosN t.size + 3 + 1) ((padUpto t (3 + 1)).map (Value.int .u8)) := by
          rw [hs.out, List.map_append, he]
          rw [u8_of _ ((8 * t.size / 4294967296 % 256 : Nat) : Int) (by omega)] at own'
          exact own'
        have HO := Lib.hid O'
        clear own' g' O' he
        go_wp2
        go_roundw
        case rel => exact ⟨4, by omega, rfl, HO.out, hx'⟩
        case measure => simp [intOf]
      · go_wp2_with (at_builtin; refine wpList_append_m rfl (.tmp 22) (.tmp 30) 22 rfl w.heap.size i0 Tryd.underlying22 hi hz0 hz1 hz2 (t.size + 1 + zerosN t.size + 4) _ a _ rfl (O.out.alloc _) ⟨wr.heap.size, 0, none⟩ 1 1 [.int .u8 _] rfl rfl (news1 _ _ _) (one1 _) (by omega) (by simp; omega) ?_)
        intro v' w' own' g'
        have hx' : Ext w w' := (hx.alloc _).grownM g' ha
        have he : (2 : Nat) ^ (8 * (7 - 4)) = 16777216 := by decide
        have O' : OwnM w' w.heap.size v' (t.size + 1 + zerosN t.size + 4 + 1) ((padUpto t (4 + 1)).map (Value.int .u8)) := by
          rw [hs.out, List.map_append, he]
          rw [u8_of _ ((8 * t.size / 16777216 % 256 : Nat) : Int) (by omega)] at own'
          exact own'
        have HO := Lib.hid O'
        clear own' g' O' he
        go_wp2
        go_roundw
        case rel => exact ⟨5, by omega, rfl, HO.out, hx'⟩
        case measure => simp [intOf]
      · go_wp2_with (at_builtin; refine wpList_append_m rfl (.tmp 22) (.tmp 30) 22 rfl w.heap.size i0 Tryd.underlying22 hi hz0 hz1 hz2 (t.size + 1 + zerosN t.size + 5) _ a _ rfl (O.out.alloc _) ⟨wr.heap.size, 0, none⟩ 1 1 [.int .u8 _] rfl rfl (news1 _ _ _) (one1 _) (by omega) (by simp; omega) ?_)
        intro v' w' own' g'
        have hx' : Ext w w' := (hx.alloc _).grownM g' ha
        have he : (2 : Nat) ^ (8 * (7 - 5)) = 65536 := by decide
        have O' : OwnM w' w.heap.size v' (t.size + 1 + zerosN t.size + 5 + 1) ((padUpto t (5 + 1)).map (Value.int .u8)) := by
          rw [hs.out, List.map_append, he]
          rw [u8_of _ ((8 * t.size / 65536 % 256 : Nat) : Int) (by omega)] at own'
          exact own'
        have HO := Lib.hid O'
        clear own' g' O' he
        go_wp2
        go_roundw
        case rel => exact ⟨6, by omega, rfl, HO.out, hx'⟩
        case measure => simp [intOf]
      · go_wp2_with (at_builtin; refine wpList_append_m rfl (.tmp 22) (.tmp 30) 22 rfl w.heap.size i0 Tryd.underlying22 hi hz0 hz1 hz2 (t.size + 1 + zerosN t.size + 6) _ a _ rfl (O.out.alloc _) ⟨wr.heap.size, 0, none⟩ 1 1 [.int .u8 _] rfl rfl (news1 _ _ _) (one1 _) (by omega) (by simp; omega) ?_)
        intro v' w' own' g'
        have hx' : Ext w w' := (hx.alloc _).grownM g' ha
        have he : (2 : Nat) ^ (8 * (7 - 6)) = 256 := by decide
        have O' : OwnM w' w.heap.size v' (t.size + 1 + zerosN t.size + 6 + 1) ((padUpto t (6 + 1)).map (Value.int .u8)) := by
          rw [hs.out, List.map_append, he]
          rw [u8_of _ ((8 * t.size / 256 % 256 : Nat) : Int) (by omega)] at own'
          exact own'
        have HO := Lib.hid O'
        clear own' g' O' he
        go_wp2
        go_roundw
        case rel => exact ⟨7, by omega, rfl, HO.out, hx'⟩
        case measure => simp [intOf]
      · go_wp2_with (at_builtin; refine wpList_append_m rfl (.tmp 22) (.tmp 30) 22 rfl w.heap.size i0 Tryd.underlying22 hi hz0 hz1 hz2 (t.size + 1 + zerosN t.size + 7) _ a _ rfl (O.out.alloc _) ⟨wr.heap.size, 0, none⟩ 1 1 [.int .u8 _] rfl rfl (news1 _ _ _) (one1 _) (by omega) (by simp; omega) ?_)
        intro v' w' own' g'
        have hx' : Ext w w' := (hx.alloc _).grownM g' ha
        have he : (2 : Nat) ^ (8 * (7 - 7)) = 1 := by decide
        have O' : OwnM w' w.heap.size v' (t.size + 1 + zerosN t.size + 7 + 1) ((padUpto t (7 + 1)).map (Value.int .u8)) := by
          rw [hs.out, List.map_append, he]
          rw [u8_of _ ((8 * t.size / 1 % 256 : Nat) : Int) (by omega)] at own'
          exact own'
        have HO := Lib.hid O'
        clear own' g' O' he
        go_wp2
        go_roundw
        case rel => exact ⟨8, by omega, rfl, HO.out, hx'⟩
        case measure => simp [intOf]
    · obtain rfl : j = 8 := by omega
      have hs := O.out.str
      have hp := Lib.hid (padUpto_all t)
      go_wp2
      go_ret
      exact ⟨ret_str hp.out, hx⟩

set_option maxRecDepth 100000 in
set_option maxHeartbeats 1600000 in
theorem spec_PadText (t : ByteArray) (w : World) (ht : t.size ≤ 1073741824) :
    Calls Tryd.prog 86 #[.string t] w fun e w' => e = .returned (.string (padT t)) ∧ Ext w w' := by
  obtain ⟨i0, hi, hz0, hz1, hz2⟩ := info_parts infoU8
  have hcv := fun W : World => Lib.run_convert_string_bytes (P := Tryd.prog) W 9 22 5 t Tryd.underlying9 Tryd.underlying22 Tryd.underlying5
  have hm : t.size ≤ maxLen := by unfold maxLen; omega
  have o1 := Lib.hid (bytes_own w t hm)
  have x1 := bytes_ext w t
  have l1 := x1.size
  have zl := zerosN_le t.size
  clear hm
  go_enter Tryd.func86, Tryd.ntmps86
  go_wp2_with (at_builtin; refine wpList_append_m rfl (.tmp 8) (.tmp 9) 22 rfl w.heap.size i0 Tryd.underlying22 hi hz0 hz1 hz2 t.size _ w.heap.size (Lib.strCells t) rfl (o1.out.alloc _) ⟨(Lib.bytesWorld w 5 t).heap.size, 0, none⟩ 1 1 [.int .u8 128] rfl rfl (news1 _ _ _) (one1 _) (by omega) (by simp; omega) ?_)
  intro v1 w1 own1 g1
  have x2 : Ext w w1 := (x1.alloc _).grownM g1 (Nat.le_refl _)
  have O1 := Lib.hid own1
  clear own1 g1 o1 hcv x1 l1
  go_wp2
  go_loopw [3] (fun v wr => ∃ k L : Nat, k ≤ zerosN t.size ∧ Hid (L = t.size + 1 + k) ∧ OwnM wr w.heap.size v L (Lib.strCells t ++ [.int .u8 128] ++ List.replicate k (.int .u8 0)) ∧ Ext w wr) (fun v _ => match v with | .slice _ n _ => t.size + 1 + zerosN t.size - n | _ => 0)
  case atStart => exact ⟨0, t.size + 1, by omega, Lib.hid (by omega), by simpa using O1.out, x2⟩
  case round =>
    clear O1 x2
    obtain ⟨k, L, hk, HL, own, hx⟩ := hrel
    obtain ⟨a, c, rfl, ha, hb, -, -⟩ := own.form
    have O := Lib.hid own
    have hl := hx.size
    have hLb : L ≤ 1073741900 := by have := HL.out; omega
    clear own
    by_cases hlt : k < zerosN t.size
    · have hq : ((L : Int) % 64 != 56) = true := by
        have := HL.out
        rw [bne_iff_ne]
        unfold zerosN at hlt
        omega
      go_wp2_with (at_builtin; refine wpList_append_m rfl (.tmp 15) (.tmp 16) 22 rfl w.heap.size i0 Tryd.underlying22 hi hz0 hz1 hz2 L _ a _ rfl (O.out.alloc _) ⟨wr.heap.size, 0, none⟩ 1 1 [.int .u8 0] rfl rfl (news1 _ _ _) (one1 _) (by omega) (by simp; omega) ?_)
      intro v' w' own' g'
      have hx' : Ext w w' := (hx.alloc _).grownM g' ha
      have O' : OwnM w' w.heap.size v' (L + 1) (Lib.strCells t ++ [.int .u8 128] ++ List.replicate (k + 1) (.int .u8 0)) := by
        simpa [List.replicate_succ'] using own'
      obtain ⟨a', c', rfl, -, -, -, -⟩ := own'.form
      have HO := Lib.hid O'
      clear own' g' O'
      go_wp2
      go_roundw
      case rel => exact ⟨k + 1, L + 1, by omega, Lib.hid (by have := HL.out; omega), HO.out, hx'⟩
      case measure => have := HL.out; simp; omega
    · have hq : ((L : Int) % 64 != 56) = false := by
        have := HL.out
        rw [bne_eq_false_iff_eq]
        have hk2 : k = zerosN t.size := by omega
        rw [hk2] at this
        unfold zerosN at this
        omega
      have O2 : OwnM wr w.heap.size (.slice (some ⟨a, 0, none⟩) L c) (t.size + 1 + zerosN t.size + 0) ((padUpto t 0).map (Value.int .u8)) := by
        have e : k = zerosN t.size := by omega
        have e2 := HL.out
        have o := O.out
        rw [e] at o e2
        rw [Nat.add_zero, ← e2]
        simpa [padUpto, strCells_nums8] using o
      have HO2 := Lib.hid O2
      clear O O2
      go_wp2
      go_loopw [3, 5] (fun v i wr => ∃ j : Nat, j ≤ 8 ∧ i = .int .i64 (7 - (j : Int)) ∧ OwnM wr w.heap.size v (t.size + 1 + zerosN t.size + j) ((padUpto t j).map (Value.int .u8)) ∧ Ext w wr) (fun _ i _ => (intOf i + 1).toNat)
      case atStart => exact ⟨0, by omega, rfl, HO2.out, hx⟩
      case round =>
        clear HO2 hx ha hb hl hq
        rename_i wr0 wr
        obtain ⟨j, hj, rfl, own, hx⟩ := hrel
        obtain ⟨a, c, rfl, ha, hb, -, -⟩ := own.form
        have O := Lib.hid own
        have hl := hx.size
        clear own
        by_cases hlt : j < 8
        · have hs := Lib.hid (padUpto_succ t j)
          rcases lt8 hlt with rfl | rfl | rfl | rfl | rfl | rfl | rfl | rfl
          · go_wp2_with (at_builtin; refine wpList_append_m rfl (.tmp 25) (.tmp 32) 22 rfl w.heap.size i0 Tryd.underlying22 hi hz0 hz1 hz2 (t.size + 1 + zerosN t.size + 0) _ a _ rfl (O.out.alloc _) ⟨wr.heap.size, 0, none⟩ 1 1 [.int .u8 _] rfl rfl (news1 _ _ _) (one1 _) (by omega) (by simp; omega) ?_)
            intro v' w' own' g'
            have hx' : Ext w w' := (hx.alloc _).grownM g' ha
            have he : (2 : Nat) ^ (8 * (7 - 0)) = 72057594037927936 := by decide
            have O' : OwnM w' w.heap.size v' (t.size + 1 + zerosN t.size + 0 + 1) ((padUpto t (0 + 1)).map (Value.int .u8)) := by
              rw [hs.out, List.map_append, he]
              rw [u8_of _ ((8 * t.size / 72057594037927936 % 256 : Nat) : Int) (by omega)] at own'
              exact own'
            have HO := Lib.hid O'
            clear own' g' O' he
            go_wp2
            go_roundw
            case rel => exact ⟨1, by omega, rfl, HO.out, hx'⟩
            case measure => simp [intOf]
          · go_wp2_with (at_builtin; refine wpList_append_m rfl (.tmp 25) (.tmp 32) 22 rfl w.heap.size i0 Tryd.underlying22 hi hz0 hz1 hz2 (t.size + 1 + zerosN t.size + 1) _ a _ rfl (O.out.alloc _) ⟨wr.heap.size, 0, none⟩ 1 1 [.int .u8 _] rfl rfl (news1 _ _ _) (one1 _) (by omega) (by simp; omega) ?_)
            intro v' w' own' g'
            have hx' : Ext w w' := (hx.alloc _).grownM g' ha
            have he : (2 : Nat) ^ (8 * (7 - 1)) = 281474976710656 := by decide
            have O' : OwnM w' w.heap.size v' (t.size + 1 + zerosN t.size + 1 + 1) ((padUpto t (1 + 1)).map (Value.int .u8)) := by
              rw [hs.out, List.map_append, he]
              rw [u8_of _ ((8 * t.size / 281474976710656 % 256 : Nat) : Int) (by omega)] at own'
              exact own'
            have HO := Lib.hid O'
            clear own' g' O' he
            go_wp2
            go_roundw
            case rel => exact ⟨2, by omega, rfl, HO.out, hx'⟩
            case measure => simp [intOf]
          · go_wp2_with (at_builtin; refine wpList_append_m rfl (.tmp 25) (.tmp 32) 22 rfl w.heap.size i0 Tryd.underlying22 hi hz0 hz1 hz2 (t.size + 1 + zerosN t.size + 2) _ a _ rfl (O.out.alloc _) ⟨wr.heap.size, 0, none⟩ 1 1 [.int .u8 _] rfl rfl (news1 _ _ _) (one1 _) (by omega) (by simp; omega) ?_)
            intro v' w' own' g'
            have hx' : Ext w w' := (hx.alloc _).grownM g' ha
            have he : (2 : Nat) ^ (8 * (7 - 2)) = 1099511627776 := by decide
            have O' : OwnM w' w.heap.size v' (t.size + 1 + zerosN t.size + 2 + 1) ((padUpto t (2 + 1)).map (Value.int .u8)) := by
              rw [hs.out, List.map_append, he]
              rw [u8_of _ ((8 * t.size / 1099511627776 % 256 : Nat) : Int) (by omega)] at own'
              exact own'
            have HO := Lib.hid O'
            clear own' g' O' he
            go_wp2
            go_roundw
            case rel => exact ⟨3, by omega, rfl, HO.out, hx'⟩
            case measure => simp [intOf]
          · go_wp2_with (at_builtin; refine wpList_append_m rfl (.tmp 25) (.tmp 32) 22 rfl w.heap.size i0 Tryd.underlying22 hi hz0 hz1 hz2 (t.size + 1 + zerosN t.size + 3) _ a _ rfl (O.out.alloc _) ⟨wr.heap.size, 0, none⟩ 1 1 [.int .u8 _] rfl rfl (news1 _ _ _) (one1 _) (by omega) (by simp; omega) ?_)
            intro v' w' own' g'
            have hx' : Ext w w' := (hx.alloc _).grownM g' ha
            have he : (2 : Nat) ^ (8 * (7 - 3)) = 4294967296 := by decide
            have O' : OwnM w' w.heap.size v' (t.size + 1 + zerosN t.size + 3 + 1) ((padUpto t (3 + 1)).map (Value.int .u8)) := by
              rw [hs.out, List.map_append, he]
              rw [u8_of _ ((8 * t.size / 4294967296 % 256 : Nat) : Int) (by omega)] at own'
              exact own'
            have HO := Lib.hid O'
            clear own' g' O' he
            go_wp2
            go_roundw
            case rel => exact ⟨4, by omega, rfl, HO.out, hx'⟩
            case measure => simp [intOf]
          · go_wp2_with (at_builtin; refine wpList_append_m rfl (.tmp 25) (.tmp 32) 22 rfl w.heap.size i0 Tryd.underlying22 hi hz0 hz1 hz2 (t.size + 1 + zerosN t.size + 4) _ a _ rfl (O.out.alloc _) ⟨wr.heap.size, 0, none⟩ 1 1 [.int .u8 _] rfl rfl (news1 _ _ _) (one1 _) (by omega) (by simp; omega) ?_)
            intro v' w' own' g'
            have hx' : Ext w w' := (hx.alloc _).grownM g' ha
            have he : (2 : Nat) ^ (8 * (7 - 4)) = 16777216 := by decide
            have O' : OwnM w' w.heap.size v' (t.size + 1 + zerosN t.size + 4 + 1) ((padUpto t (4 + 1)).map (Value.int .u8)) := by
              rw [hs.out, List.map_append, he]
              rw [u8_of _ ((8 * t.size / 16777216 % 256 : Nat) : Int) (by omega)] at own'
              exact own'
            have HO := Lib.hid O'
            clear own' g' O' he
            go_wp2
            go_roundw
            case rel => exact ⟨5, by omega, rfl, HO.out, hx'⟩
            case measure => simp [intOf]
          · go_wp2_with (at_builtin; refine wpList_append_m rfl (.tmp 25) (.tmp 32) 22 rfl w.heap.size i0 Tryd.underlying22 hi hz0 hz1 hz2 (t.size + 1 + zerosN t.size + 5) _ a _ rfl (O.out.alloc _) ⟨wr.heap.size, 0, none⟩ 1 1 [.int .u8 _] rfl rfl (news1 _ _ _) (one1 _) (by omega) (by simp; omega) ?_)
            intro v' w' own' g'
            have hx' : Ext w w' := (hx.alloc _).grownM g' ha
            have he : (2 : Nat) ^ (8 * (7 - 5)) = 65536 := by decide
            have O' : OwnM w' w.heap.size v' (t.size + 1 + zerosN t.size + 5 + 1) ((padUpto t (5 + 1)).map (Value.int .u8)) := by
              rw [hs.out, List.map_append, he]
              rw [u8_of _ ((8 * t.size / 65536 % 256 : Nat) : Int) (by omega)] at own'
              exact own'
            have HO := Lib.hid O'
            clear own' g' O' he
            go_wp2
            go_roundw
            case rel => exact ⟨6, by omega, rfl, HO.out, hx'⟩
            case measure => simp [intOf]
          · go_wp2_with (at_builtin; refine wpList_append_m rfl (.tmp 25) (.tmp 32) 22 rfl w.heap.size i0 Tryd.underlying22 hi hz0 hz1 hz2 (t.size + 1 + zerosN t.size + 6) _ a _ rfl (O.out.alloc _) ⟨wr.heap.size, 0, none⟩ 1 1 [.int .u8 _] rfl rfl (news1 _ _ _) (one1 _) (by omega) (by simp; omega) ?_)
            intro v' w' own' g'
            have hx' : Ext w w' := (hx.alloc _).grownM g' ha
            have he : (2 : Nat) ^ (8 * (7 - 6)) = 256 := by decide
            have O' : OwnM w' w.heap.size v' (t.size + 1 + zerosN t.size + 6 + 1) ((padUpto t (6 + 1)).map (Value.int .u8)) := by
              rw [hs.out, List.map_append, he]
              rw [u8_of _ ((8 * t.size / 256 % 256 : Nat) : Int) (by omega)] at own'
              exact own'
            have HO := Lib.hid O'
            clear own' g' O' he
            go_wp2
            go_roundw
            case rel => exact ⟨7, by omega, rfl, HO.out, hx'⟩
            case measure => simp [intOf]
          · go_wp2_with (at_builtin; refine wpList_append_m rfl (.tmp 25) (.tmp 32) 22 rfl w.heap.size i0 Tryd.underlying22 hi hz0 hz1 hz2 (t.size + 1 + zerosN t.size + 7) _ a _ rfl (O.out.alloc _) ⟨wr.heap.size, 0, none⟩ 1 1 [.int .u8 _] rfl rfl (news1 _ _ _) (one1 _) (by omega) (by simp; omega) ?_)
            intro v' w' own' g'
            have hx' : Ext w w' := (hx.alloc _).grownM g' ha
            have he : (2 : Nat) ^ (8 * (7 - 7)) = 1 := by decide
            have O' : OwnM w' w.heap.size v' (t.size + 1 + zerosN t.size + 7 + 1) ((padUpto t (7 + 1)).map (Value.int .u8)) := by
              rw [hs.out, List.map_append, he]
              rw [u8_of _ ((8 * t.size / 1 % 256 : Nat) : Int) (by omega)] at own'
              exact own'
            have HO := Lib.hid O'
            clear own' g' O' he
            go_wp2
            go_roundw
            case rel => exact ⟨8, by omega, rfl, HO.out, hx'⟩
            case measure => simp [intOf]
        · obtain rfl : j = 8 := by omega
          have hs := O.out.str
          have hp := Lib.hid (padUpto_all t)
          go_wp2
          go_ret
          exact ⟨ret_str hp.out, hx⟩
end Go.Proofs.YtckipgijfgeghaaDoor
