/- Texts out of written-out byte slices. -/
import Derived.Test.YtniimhfelnjepaaDoorBase
import Derived.Laws.BytesArg
namespace Go.Proofs.YtniimhfelnjepaaDoor
open Go.RowKit

/-- 'string([]byte{..})' right behind the literal: the block b is the newest. -/
theorem conv_lit (w : World) (xs : List Int) (b n : Nat) (hb : b = w.heap.size) (hn : n = xs.length) :
    (convert 55 9 (.slice (some ⟨b, 0, none⟩) n n)).run Tryd.prog (w.alloc (.cells (xs.map (Value.int .u8)).toArray 5)) = .ok (.string (strOfNums xs)) (w.alloc (.cells (xs.map (Value.int .u8)).toArray 5)) := by
  subst hb
  subst hn
  refine run_convert_bytes_arg _ _ _ Tryd.underlying55 Tryd.underlying5 _ 0 _ _ xs rfl (fun i hi => ?_) _ Tryd.underlying9
  have hh : (w.alloc (.cells (xs.map (Value.int .u8)).toArray 5)).heap[w.heap.size]? = some (.cells (xs.map (Value.int .u8)).toArray 5 (0, 0)) := heap_alloc_new w _
  rw [cell_of_row _ _ _ _ _ _ hh]
  simp [hi]
theorem conv_lit1 (w : World) (x : Int) (b : Nat) (hb : b = w.heap.size) :
    (convert 55 9 (.slice (some ⟨b, 0, none⟩) 1 1)).run Tryd.prog (w.alloc (.cells #[.int .u8 x] 5)) = .ok (.string (strOfNums [x])) (w.alloc (.cells #[.int .u8 x] 5)) := conv_lit w [x] b 1 hb rfl
theorem conv_lit2 (w : World) (x y : Int) (b : Nat) (hb : b = w.heap.size) :
    (convert 55 9 (.slice (some ⟨b, 0, none⟩) 2 2)).run Tryd.prog (w.alloc (.cells #[.int .u8 x, .int .u8 y] 5)) = .ok (.string (strOfNums [x, y])) (w.alloc (.cells #[.int .u8 x, .int .u8 y] 5)) := conv_lit w [x, y] b 2 hb rfl
theorem conv_lit3 (w : World) (x y z : Int) (b : Nat) (hb : b = w.heap.size) :
    (convert 55 9 (.slice (some ⟨b, 0, none⟩) 3 3)).run Tryd.prog (w.alloc (.cells #[.int .u8 x, .int .u8 y, .int .u8 z] 5)) = .ok (.string (strOfNums [x, y, z])) (w.alloc (.cells #[.int .u8 x, .int .u8 y, .int .u8 z] 5)) := conv_lit w [x, y, z] b 3 hb rfl
theorem conv_lit4 (w : World) (x y z u : Int) (b : Nat) (hb : b = w.heap.size) :
    (convert 55 9 (.slice (some ⟨b, 0, none⟩) 4 4)).run Tryd.prog (w.alloc (.cells #[.int .u8 x, .int .u8 y, .int .u8 z, .int .u8 u] 5)) = .ok (.string (strOfNums [x, y, z, u])) (w.alloc (.cells #[.int .u8 x, .int .u8 y, .int .u8 z, .int .u8 u] 5)) := conv_lit w [x, y, z, u] b 4 hb rfl
end Go.Proofs.YtniimhfelnjepaaDoor
