/- What sort.SliceStable leaves of a slice of leaves. -/
import Derived.Test.YtckipgijfgeghaaDoorSlt
import Derived.Test.YtckipgijfgeghaaDoorLeafA
import Derived.Test.YtckipgijfgeghaaDoorCore
import Derived.Test.YtckipgijfgeghaaDoorStrA
namespace Go.Proofs.YtckipgijfgeghaaDoor
open Go.RowKit Go.Shelf Go.Lib Go.Sort

section
variable {α : Type} [Inhabited α] {enc : α → List Value} {k : Nat}
theorem swk_heap {w W : World} {blk off : Nat} {d : Array α} {cur : Array Value} {e : TypeId} {fr : Nat × Nat} (hs : SWK enc k w blk off d W) (hb : blk < w.heap.size) (h : w.heap[blk]? = some (.cells cur e fr)) :
    W.heap[blk]? = some (.cells (putCells id off (flatK enc k d) cur) e fr) := by
  obtain ⟨n, os, rfl⟩ := hs
  show (w.heap.modify blk (onCells (putCells id off (flatK enc k d))) ++ os)[blk]? = _
  rw [Array.getElem?_append_left (by simpa using hb), Array.getElem?_modify, if_pos rfl, h]
  rfl
theorem swk_other {w W : World} {blk off : Nat} {d : Array α} (hs : SWK enc k w blk off d W) (i : Nat) (hi : i < w.heap.size) (hne : i ≠ blk) : W.heap[i]? = w.heap[i]? := by
  obtain ⟨n, os, rfl⟩ := hs
  show (w.heap.modify blk (onCells (putCells id off (flatK enc k d))) ++ os)[i]? = _
  rw [Array.getElem?_append_left (by simpa using hi), Array.getElem?_modify, if_neg (fun h => hne h.symm)]
theorem swk_ext {w0 w W : World} {blk off : Nat} {d : Array α} (hs : SWK enc k w blk off d W) (hx : Ext w0 w) (hb : w0.heap.size ≤ blk) : Ext w0 W := by
  have h1 := fun i hi hne => swk_other hs i hi hne
  have h2 := hs.le
  obtain ⟨n, os, rfl⟩ := hs
  exact ⟨hx.os, hx.tape, hx.output, Nat.le_trans hx.size h2, fun i hi => (h1 i (Nat.lt_of_lt_of_le hi hx.size) (by omega)).trans (hx.block i hi)⟩
theorem swk_bx {w W : World} {blk off b : Nat} {d : Array α} {cs : List Value} (hs : SWK enc k w blk off d W) (h : Bx w b cs) (hne : b ≠ blk) : Bx W b cs := by
  have hh := swk_other hs b h.1 hne
  exact ⟨Nat.lt_of_lt_of_le h.1 hs.le, fun j v hj => (World.cell?_of_block (w := w) (a := ⟨b, j, none⟩) hh).trans (h.2.1 j v hj), fun j => (World.frozen?_of_block (w := w) (a := ⟨b, j, none⟩) hh).trans (h.2.2 j)⟩
theorem swk_own {w W : World} {base : Nat} {e : TypeId} {g n cap : Nat} {flat : List Value} {d : Array α} (hk : ∀ x, (enc x).length = k) (h : w.ownsRow base e k (.slice (some ⟨g, 0, none⟩) n cap) n flat) (hs : SWK enc k w g 0 d W) (hd : d.size = n) :
    W.ownsRow base e k (.slice (some ⟨g, 0, none⟩) n cap) n (d.toList.flatMap enc) := by
  obtain ⟨hl, h2⟩ := h
  refine ⟨by rw [flat_length hk]; simp [hd], ?_⟩
  rcases h2 with ⟨hv, -⟩ | ⟨g', cap', cur, hv, hb, hh, hn, hc, hcs, htk⟩
  · cases hv
  · injection hv with e1 e2 e3
    injection e1 with e1
    injection e1 with e1
    subst e1 e3
    have hlt : g < w.heap.size := (Array.getElem?_eq_some_iff.1 hh).1
    have hnk : n * k ≤ cap * k := Nat.mul_le_mul_right k hn
    refine Or.inr ⟨g, cap, _, rfl, hb, swk_heap hs hlt hh, hn, hc, by simp [putCells, hcs], ?_⟩
    have hfl : (d.toList.flatMap enc).length = n * k := by rw [flat_length hk]; simp [hd]
    apply List.ext_getElem?
    intro j
    by_cases hj : j < n * k
    · have hk0 : 0 < k := by
        rcases Nat.eq_zero_or_pos k with h0 | h0
        · rw [h0] at hj; omega
        · exact h0
      have hdj : j / k < d.toList.length := by
        simp only [Array.length_toList, hd]
        exact Nat.div_lt_of_lt_mul (by rw [Nat.mul_comm]; exact hj)
      have hm := Nat.mod_lt j hk0
      have hg := flat_get hk d.toList (j / k) (j % k) hdj hm
      rw [show j / k * k + j % k = j by rw [Nat.mul_comm]; exact Nat.div_add_mod j k] at hg
      rw [hg, List.getElem?_take_of_lt hj, Array.getElem?_toList]
      simp only [putCells, Array.getElem?_mapIdx]
      have hcj : j < cur.size := by rw [hcs]; omega
      rw [Array.getElem?_eq_getElem hcj]
      simp only [Option.map_some, Nat.zero_le, true_and, Nat.zero_add, size_flatK, hd, hj, if_true, Nat.sub_zero, id]
      rw [get_flatK _ _ _ _ (by rw [hd]; exact hj)]
      have hdi : d[j / k]! = d.toList[j / k] := by rw [getElem!_pos d (j / k) (by simpa using hdj)]; simp
      rw [hdi, getElem!_pos _ _ (by rw [hk]; exact hm), List.getElem?_eq_getElem (by rw [hk]; exact hm)]
    · rw [List.getElem?_eq_none (by rw [List.length_take]; omega), List.getElem?_eq_none (by omega)]
theorem own_holds {w : World} {base : Nat} {e : TypeId} {g n cap : Nat} {xs : List α} (hk : ∀ x, (enc x).length = k) (h : w.ownsRow base e k (.slice (some ⟨g, 0, none⟩) n cap) n (xs.flatMap enc)) (hn : xs.length = n) : HoldsK enc k w g 0 xs.toArray := by
  intro j hj
  rw [size_flatK] at hj
  have hj' : j < n * k := by simpa [hn] using hj
  have hk0 : 0 < k := by
    rcases Nat.eq_zero_or_pos k with h0 | h0
    · rw [h0] at hj'; omega
    · exact h0
  have hdj : j / k < xs.length := by
    rw [hn]; exact Nat.div_lt_of_lt_mul (by rw [Nat.mul_comm]; exact hj')
  have hm := Nat.mod_lt j hk0
  have hg := flat_get hk xs (j / k) (j % k) hdj hm
  rw [show j / k * k + j % k = j by rw [Nat.mul_comm]; exact Nat.div_add_mod j k] at hg
  rw [get_flatK _ _ _ _ hj, Nat.zero_add]
  refine ⟨?_, h.frozenAt j⟩
  rw [h.cellAt j hj', hg, List.getElem?_eq_getElem (by rw [hk]; exact hm)]
  have hdi : xs.toArray[j / k]! = xs[j / k] := by rw [getElem!_pos xs.toArray (j / k) (by simpa using hdj)]; simp
  rw [hdi, getElem!_pos _ _ (by rw [hk]; exact hm)]
  rfl
end

instance leafInhabited : Inhabited Leaf := ⟨⟨⟨#[]⟩, ⟨#[]⟩⟩⟩
def ltLeaf (x y : Leaf) : Bool := lss x.name y.name
theorem less_irrefl : ∀ a : List UInt8, Op.bytesLess a a = false
  | [] => rfl
  | x :: a => by
    show (decide (x < x) || (x == x && Op.bytesLess a a)) = false
    rw [less_irrefl a, Bool.and_false, Bool.or_false]
    exact decide_eq_false (fun h => by have := UInt8.lt_iff_toNat_lt.1 h; omega)
theorem less_ntrans : ∀ a b c : List UInt8, Op.bytesLess a b = false → Op.bytesLess b c = false → Op.bytesLess a c = false
  | a, b, [], _, _ => by cases a <;> rfl
  | [], [], _ :: _, _, h => by cases h
  | [], _ :: _, _ :: _, h, _ => by cases h
  | _ :: _, [], _ :: _, _, h => by cases h
  | x :: a, y :: b, z :: c, h1, h2 => by
    have g1 : (decide (x < y) || (x == y && Op.bytesLess a b)) = false := h1
    have g2 : (decide (y < z) || (y == z && Op.bytesLess b c)) = false := h2
    show (decide (x < z) || (x == z && Op.bytesLess a c)) = false
    rw [Bool.or_eq_false_iff] at g1 g2 ⊢
    have n1 : ¬ x.toNat < y.toNat := fun h => by have := of_decide_eq_false g1.1; exact this (UInt8.lt_iff_toNat_lt.2 h)
    have n2 : ¬ y.toNat < z.toNat := fun h => by have := of_decide_eq_false g2.1; exact this (UInt8.lt_iff_toNat_lt.2 h)
    refine ⟨decide_eq_false fun h => ?_, ?_⟩
    · have := UInt8.lt_iff_toNat_lt.1 h; omega
    · by_cases e : x = z
      · subst e
        have e1 : x = y := UInt8.toNat_inj.1 (by omega)
        subst e1
        have k1 := g1.2
        have k2 := g2.2
        simp only [beq_self_eq_true, Bool.true_and] at k1 k2 ⊢
        exact less_ntrans a b c k1 k2
      · rw [beq_eq_false_iff_ne.2 e, Bool.false_and]
theorem ltLeaf_swo : SWO ltLeaf := ⟨fun _ => less_irrefl _, fun _ _ _ => lss_trans, fun _ _ _ => less_ntrans _ _ _⟩

set_option maxHeartbeats 2000000 in
/-- the order that AllLeaves sorts by -/
theorem less_leaves (g c b7 size : Nat) (W : World) (G : Nat → ByteArray) (hs : W.cell? ⟨b7, 0, none⟩ = some (.slice (some ⟨g, 0, none⟩) size c))
    (hc : ∀ t, t < size → W.cell? ⟨g, t * 2, none⟩ = some (.string (G t))) (i j : Nat) (hi : i < size) (hj : j < size) (_hz : size < 4611686018427387904) :
    Calls Tryd.prog 22 #[.int .i64 i, .int .i64 j, .pointer (some ⟨b7, 0, none⟩)] W fun e w' => e = .returned (.bool (Op.bytesLess (G i).toList (G j).toList)) ∧ ∃ q, w' = W.drewN q := by
  have ci := hc i hi
  have cj := hc j hj
  go_enter Tryd.func22, Tryd.ntmps22
  go_wp2
  go_quiet (fail)
  go_wp2
  go_ret
  exact ⟨rfl, nq, rfl⟩

noncomputable def lvT : TypeInfo := (Tryd.prog.info? 24).get (by kernel_rfl)
noncomputable def lvE : TypeInfo := (Tryd.prog.info? 34).get (by kernel_rfl)
theorem lvK (n : Nat) (h2 : 2 ≤ n) : Lib.swapperK n lvE 25 = 9 := by
  have a : lvE.hasPointers = true := by kernel_rfl
  have b : lvE.bytes = 32 := by kernel_rfl
  have c : (n == 0) = false := by simp; omega
  have d : (n == 1) = false := by simp; omega
  simp [Lib.swapperK, a, b, c, d]
theorem lvs_tiny (p : Option Addr) (n c : Nat) (h1 : n ≤ 1) (lf : Fn) (la lb : Array Value) (w : World) :
    Calls Tryd.prog 21 #[.iface 24 (.slice p n c), .func lf la lb] w fun e w' => e = .returned (.tuple #[]) ∧ ∃ os, w' = grow w os := by
  have hK : Lib.swapperK n lvE 25 = n + 1 := by
    rcases Nat.eq_zero_or_pos n with h | h
    · subst h; simp [Lib.swapperK]
    · obtain rfl : n = 1 := by omega
      simp [Lib.swapperK]
  have hS := Any.sort_SliceStable_tiny slt 24 34 lvT lvE (by kernel_rfl) (by kernel_rfl) (by kernel_rfl) (by kernel_rfl) 25 (fun _ => by kernel_rfl) p n c h1 (56 + n) (by
    rw [hK]
    rcases Nat.eq_zero_or_pos n with h | h
    · subst h; kernel_rfl
    · obtain rfl : n = 1 := by omega
      kernel_rfl) lf la lb w
  change Calls Tryd.prog 21 _ _ _ at hS
  exact hS

/-- sorted by name -/
def SrtW (ys : List Leaf) : Prop := ys.Pairwise fun a b => lss b.name a.name = false
set_option maxHeartbeats 2000000 in
theorem sort_leaves (g n c b7 B : Nat) (xs : List Leaf) (w : World) (ow : w.ownsRow B 34 2 (.slice (some ⟨g, 0, none⟩) n c) n (xs.flatMap Leaf.cells)) (hm : xs.length = n) (hl : n ≤ 1099511627776) (hb : Bx w b7 [.slice (some ⟨g, 0, none⟩) n c]) (hg : g ≠ b7) :
    Calls Tryd.prog 21 #[.iface 24 (.slice (some ⟨g, 0, none⟩) n c), .func (.func 22) #[] #[.pointer (some ⟨b7, 0, none⟩)]] w fun e w' => e = .returned (.tuple #[]) ∧
      ∃ ys, ys.Perm xs ∧ SrtW ys ∧ w'.ownsRow B 34 2 (.slice (some ⟨g, 0, none⟩) n c) n (ys.flatMap Leaf.cells) ∧ Bx w' b7 [.slice (some ⟨g, 0, none⟩) n c] ∧ ∀ w0, Ext w0 w → w0.heap.size ≤ g → Ext w0 w' := by
  by_cases h1 : n ≤ 1
  · refine (lvs_tiny _ n c h1 _ _ _ w).mono ?_
    rintro e w' ⟨rfl, os, rfl⟩
    have hx : Ext w (grow w os) := ⟨rfl, rfl, rfl, by simp, fun k hk => heap_grow_old w os hk⟩
    refine ⟨rfl, xs, List.Perm.refl _, ?_, own_ext ow hx, hb.ext hx, fun w0 h0 _ => h0.trans hx⟩
    match xs, hm with
    | [], _ => exact List.Pairwise.nil
    | [x], _ => exact List.pairwise_singleton _ _
    | _ :: _ :: _, hm => simp at hm; omega
  have hgl : g < w.heap.size := (ow.lt g rfl).2
  have hH := own_holds Leaf.cells_len ow hm
  have hsz : xs.toArray.size = n := by simp [hm]
  have hless : LessReadsK Tryd.prog 22 #[.pointer (some ⟨b7, 0, none⟩)] Leaf.cells 2 ltLeaf g 0 n w := by
    intro m os dk hs i j hi hj
    have e : sortWorldK Leaf.cells 2 w g 0 m dk os = putRowK Leaf.cells 2 (grow (Sort.ahead w m) os) g 0 dk := by
      unfold sortWorldK; rw [putRowK_grow _ _ (Sort.ahead w m) _ g 0 _ hgl]
    have hHg : HoldsK Leaf.cells 2 (grow (Sort.ahead w m) os) g 0 xs.toArray := holdsK_grow _ _ _ _ g 0 _ hgl (holdsK_ahead _ _ _ _ _ _ _ hH)
    refine less_leaves g c b7 n _ (fun t => dk[t]!.name) ?_ (fun t ht => ?_) i j hi hj (by omega)
    · rw [e, cell?_putRowK_other _ _ _ g 0 dk _ (by exact fun q => hg q.symm), cell?_grow _ _ _ (by exact hb.1)]; exact hb.2.1 0 _ rfl
    · rw [e]
      have := ((holdsK_putRowK _ _ _ g 0 _ dk hHg (by rw [hs, hsz])).cell (i := t) (c := 0) (by rw [hs]; exact ht) (by omega)).1
      rw [Nat.zero_add, Nat.add_zero] at this
      rw [this]
      simp [Leaf.cells]
  have hS := sliceStable_w slt 24 34 lvT lvE (by kernel_rfl) (by kernel_rfl) (by kernel_rfl) (by kernel_rfl) 25 (fun _ => by kernel_rfl) Leaf.cells 2 Leaf.cells_len (by kernel_rfl) (fun _ => by kernel_rfl)
    (fun x v hv => by simp [Leaf.cells] at hv; rcases hv with rfl | rfl <;> rfl) ltLeaf ltLeaf_swo 22 _
    (enters_of Tryd.func22 (by kernel_rfl) rfl) g 0 c xs.toArray (by rw [hsz]; omega) (by rw [hsz]; omega) 64 (by rw [hsz, lvK _ (by omega)]; kernel_rfl) false
    (fun args W => run_callFunc_extern Tryd.func64 (by kernel_rfl) (by kernel_rfl) (by kernel_rfl) (e := Extern.ReflectliteSwapper.swap false) (by kernel_rfl) args W) w (by rw [hsz]; exact hless) hH hgl
  rw [hsz] at hS
  change Calls Tryd.prog 21 _ _ _ at hS
  refine hS.mono ?_
  rintro e w' ⟨rfl, d, hp, ho, hw⟩
  have hdn : d.size = n := by rw [hp.1, hsz]
  refine ⟨rfl, d.toList, ?_, ?_, swk_own Leaf.cells_len ow hw hdn, swk_bx hw hb (fun q => hg q.symm), fun w0 h0 h1 => swk_ext hw h0 h1⟩
  · have := hp.2.2
    rw [show (xs.toArray.extract 0 n) = xs.toArray by rw [← hsz]; simp, show (d.extract 0 n) = d by rw [← hdn]; simp] at this
    simpa using this
  · unfold SrtW
    rw [List.pairwise_iff_getElem]
    intro i j hi hj hij
    have hi' : i < d.size := by simpa using hi
    have hj' : j < d.size := by simpa using hj
    have := ho i j (Nat.zero_le _) hij (by omega)
    rw [getElem!_pos d i hi', getElem!_pos d j hj'] at this
    simpa [ltLeaf] using this
/-- .. of any slice of one's own, nil too -/
theorem sort_any (v0 : Value) (n b7 B : Nat) (xs : List Leaf) (w : World) (ow : w.ownsRow B 34 2 v0 n (xs.flatMap Leaf.cells)) (hm : xs.length = n) (hl : n ≤ 1099511627776) (hb : Bx w b7 [v0]) (hB : b7 < B) :
    Calls Tryd.prog 21 #[.iface 24 v0, .func (.func 22) #[] #[.pointer (some ⟨b7, 0, none⟩)]] w fun e w' => e = .returned (.tuple #[]) ∧
      ∃ ys, ys.Perm xs ∧ SrtW ys ∧ w'.ownsRow B 34 2 v0 n (ys.flatMap Leaf.cells) ∧ Bx w' b7 [v0] ∧ ∀ w0, Ext w0 w → w0.heap.size ≤ B → Ext w0 w' := by
  rcases ow.2 with ⟨hv, h0⟩ | ⟨g, cap, cur, hv, hbg, -⟩
  · subst hv h0
    refine (lvs_tiny none 0 0 (by omega) _ _ _ w).mono ?_
    rintro e w' ⟨rfl, os, rfl⟩
    have hx : Ext w (grow w os) := ⟨rfl, rfl, rfl, by simp, fun k hk => heap_grow_old w os hk⟩
    have hn : xs = [] := List.eq_nil_of_length_eq_zero hm
    subst hn
    exact ⟨rfl, [], List.Perm.refl _, List.Pairwise.nil, own_ext ow hx, hb.ext hx, fun w0 h0 _ => h0.trans hx⟩
  · subst hv
    refine (sort_leaves g n cap b7 B xs w ow hm hl hb (by omega)).mono ?_
    rintro e w' ⟨rfl, ys, h1, h2, h3, h4, h5⟩
    exact ⟨rfl, ys, h1, h2, h3, h4, fun w0 h0 h6 => h5 w0 h0 (Nat.le_trans h6 hbg)⟩
end Go.Proofs.YtckipgijfgeghaaDoor
