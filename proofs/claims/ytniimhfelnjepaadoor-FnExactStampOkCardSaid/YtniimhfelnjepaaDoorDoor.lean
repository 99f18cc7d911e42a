/- Rows that list the program's two tables: what the list gives; a law's post where variables are named. -/
import Derived.Test.YtniimhfelnjepaaDoorLift
import Derived.Test.YtniimhfelnjepaaDoorArr
import Derived.Lib.LaidTab
import Derived.Stop.LaidErr
import Derived.Deep.DeepHandedRow
namespace Go.Proofs.YtniimhfelnjepaaDoor
open Go.ChangeShapes Go.WideShapes Go.ChangeAt Go.RowKit

theorem gRound : Tryd.prog.globalNamed "loop.example/g00284/impl.roundWords" = some 1 := by kernel_rfl
theorem gStart : Tryd.prog.globalNamed "loop.example/g00284/impl.startWords" = some 0 := by kernel_rfl
theorem gRoundT : (Tryd.prog.globals[1]?).map (·.type) = some 114 := by kernel_rfl
theorem gStartT : (Tryd.prog.globals[0]?).map (·.type) = some 109 := by kernel_rfl
theorem cellsW : Tryd.prog.cellsOf 108 = 1 := by kernel_rfl
theorem cellsR : Tryd.prog.cellsOf 114 = 64 := by kernel_rfl
theorem cellsS : Tryd.prog.cellsOf 109 = 8 := by kernel_rfl

theorem key_at : ∀ j, j < 64 → (keysN.map fun n : Nat => (n : Int)).getD j 0 = (keyW j).i := by
  intro j hj
  have h : (keysN.map fun n : Nat => (n : Int)).getD j 0 = ((keysN.getD j 0 : Nat) : Int) := by
    have hl : j < keysN.length := hj
    simp [List.getD_eq_getElem?_getD, hl]
  rw [h, keyW, W32.i_ofN]
  have all : ∀ n ∈ keysN, n < 4294967296 := by decide
  have hl : j < keysN.length := hj
  rw [List.getD_eq_getElem?_getD, List.getElem?_eq_getElem hl]
  exact all _ (List.getElem_mem hl)
theorem start_at : ∀ j, j < 8 → (startN.map fun n : Nat => (n : Int)).getD j 0 = (st0.list.getD j default).i := by
  intro j hj
  rcases lt8 hj with rfl | rfl | rfl | rfl | rfl | rfl | rfl | rfl <;> rfl

/-- WHAT THE ROW's LIST GIVES. -/
theorem tabs_of {W : World} (h : laidMetH Tryd.prog [("loop.example/g00284/impl.roundWords", Rows.laid_loop_example_g00284_impl_roundWords), ("loop.example/g00284/impl.startWords", Rows.laid_loop_example_g00284_impl_startWords)] W) : Tabs W := by
  have h0 : laidMet Tryd.prog [("loop.example/g00284/impl.roundWords", Lib.tabData .u32 (keysN.map fun n : Nat => (n : Int))), ("loop.example/g00284/impl.startWords", Lib.tabData .u32 (startN.map fun n : Nat => (n : Int)))] W := h
  have t1 := Lib.tabIs_of_head gRound gRoundT Tryd.underlying114 Tryd.underlying108 cellsW cellsR h0
  have t2 := Lib.tabIs_of_head gStart gStartT Tryd.underlying109 Tryd.underlying108 cellsW cellsS h0.tail
  refine ⟨⟨?_, fun j hj => ?_⟩, ⟨?_, fun j hj => ?_⟩⟩
  · have := t1.cell gRound 0 (by decide)
    exact World.block_lt_of_cell? W _ this
  · rw [t1.cell gRound j (by rw [List.length_map]; exact hj), key_at j hj]
  · have := t2.cell gStart 0 (by decide)
    exact World.block_lt_of_cell? W _ this
  · rw [t2.cell gStart j (by rw [List.length_map]; exact hj), start_at j hj]

def varOk (P : Program) (n : String) : Bool := match P.globalNamed n with
  | some g => match (P.globals[g]?).map (·.type) with
    | some t => P.readableRec t && decide (t < P.types.size)
    | none => false
  | none => false

section
variable {H : Type} {enc : TypeId × Value → H} {P : Program}
theorem trodVars_two {w : World} {spare : Nat → Bool} {n m : String} {gs : List (DataW H)} {ps : List MemPlace} (h : DataW.TrodVars enc P w spare [n, m] gs ps) : ∃ d1 d2, gs = [d1, d2] := by
  cases gs with
  | nil => simp [DataW.TrodVars] at h
  | cons d ds =>
    obtain ⟨g, t, cs, fuel, p, q, -, -, -, -, hs, -⟩ := h
    obtain ⟨-, -, -, -, d2, -, rfl, -⟩ := trodVars_one hs
    exact ⟨d, d2, rfl⟩
theorem var?_below {W W' : World} (hx : Below W.heap.size W W') {n : String} {cs : Array Value} (h : W.var? P n = some cs) : W'.var? P n = some cs := by
  unfold World.var? at h ⊢
  cases hg : P.globalNamed n with
  | none => simp [hg] at h
  | some g =>
    simp only [hg, Option.bind_some] at h ⊢
    have hlt : g < W.heap.size := by
      cases hh : W.heap[g]? with
      | none => simp [hh] at h
      | some o => exact (Array.getElem?_eq_some_iff.1 hh).1
    rw [hx.block g hlt]
    exact h
theorem trodVars_below {W W' : World} (hl : laidOutB P = true) (hx : Below W.heap.size W W') : ∀ (ns : List String) (gs : List (DataW H)) (q : List MemPlace), ns.all (varOk P) = true → DataW.TrodVars enc P W (fun _ => true) ns gs q → (∀ x ∈ q, x.block < W.heap.size) →
    DataW.TrodVars enc P W' (fun b => decide (b < W.heap.size)) ns gs q
  | [], [], q, _, h, _ => h
  | [], _ :: _, q, _, h, _ => by simp [DataW.TrodVars] at h
  | _ :: _, [], q, _, h, _ => by simp [DataW.TrodVars] at h
  | n :: ns, d :: ds, q, ho, h, hp => by
    obtain ⟨g, t, cs, fuel, p, q2, h1, h2, h3, h4, hs, rfl⟩ := h
    simp only [List.all_cons, Bool.and_eq_true] at ho
    have ho1 := ho.1
    simp only [varOk, h1, h2, Bool.and_eq_true, decide_eq_true_eq] at ho1
    have hlt : ∀ x ∈ p, x.block < W.heap.size := fun x hm => hp x (List.mem_append_left _ (List.mem_append_right _ hm))
    have ht : DataW.Trod enc P W' 0 (fun b => decide (b < W.heap.size)) true t (.agg cs) d p := Below.trod hl ho1.1 ho1.2 ⟨fuel, h4⟩ hx hlt
    obtain ⟨fuel2, h4'⟩ := ht
    exact ⟨g, t, cs, fuel2, p, q2, h1, h2, var?_below hx h3, h4', trodVars_below hl hx ns ds q2 ho.2 hs (fun x hm => hp x (List.mem_append_right _ hm)), rfl⟩

/-- A LAW's POST where variables are named: it returned true, and nothing that was there has changed. -/
theorem post_lawV {f : Func} {s : ChangeSpec} {W W' : World} {args : Array Value} {ds gs : List (DataW H)} {before : List MemPlace} {tb : TypeId}
    (hW : DataW.Whole enc P f.params.toList s.vars false W args.toList ds gs before) (hs : s.fn H (ds ++ gs) = { results := [.lit (.bool true)], args := ds, vars := gs }) (hvs : s.vars.all (varOk P) = true) (hrt : f.resultTypes = #[tb]) (hb : P.underlying tb = some .bool)
    (hl : laidOutB P = true) (hr : f.params.toList.all (fun t => P.readableRec t && decide (t < P.types.size)) = true) (hx : Ext W W') : s.post enc P f false true false false W args (.bool true) W' := by
  have hlt := hW.lt
  have hW0 := hW
  obtain ⟨p, q, hA, hV, rfl, -, -⟩ := hW
  refine ⟨ds, gs, p ++ q, [], p, q, hW0, ?_, ?_, ?_, hx.frame _, fun h => by cases h⟩
  · rw [hs, hrt]
    exact trodAll_cons_mk (shut_bool hb true) trodAll_mk0
  · rw [hs]
    refine trodAll_below hl hx _ _ _ p (fun t ht => ?_) hA (fun x hm => hlt x (List.mem_append_left _ hm))
    have := List.all_eq_true.1 hr t ht
    simpa using this
  · rw [hs]
    exact trodVars_below hl hx _ _ _ hvs hV (fun x hm => hlt x (List.mem_append_right _ hm))
end

/-- a block's cells replaced -/
def laidObj (cs : Array Value) : Obj → Obj
  | .cells _ t frozen => .cells cs t frozen
  | o => o
/-- A WORLD FOR THE WITNESS: the settled one, the two tables holding what their initialisers lay. -/
noncomputable def laidWorld (os : Os) : World :=
  { World.holding Tryd.prog os ⟨#[], #[], []⟩ with heap := ((World.holding Tryd.prog os ⟨#[], #[], []⟩).heap.modify 1 (laidObj (keysN.map fun n : Nat => Value.int .u32 (n : Int)).toArray)).modify 0 (laidObj (startN.map fun n : Nat => Value.int .u32 (n : Int)).toArray) }
end Go.Proofs.YtniimhfelnjepaaDoor
