/- Signatures checked: the program's texts, its SigOk. -/
import Derived.Test.YtniimhfelnjepaaDoorSigD
namespace Go.Proofs.YtniimhfelnjepaaDoor
open Go.RowKit

/-- what lies in the captured variable, and off another row -/
def Outs (W : World) (B base : Nat) (L : List ByteArray) (lv : Value) : Prop := ∃ (oa : Option Addr) (oc : Nat), W.cell? ⟨B, 0, none⟩ = some (.slice oa L.length oc) ∧ W.frozen? ⟨B, 0, none⟩ = false ∧ B < W.heap.size ∧ base ≤ W.heap.size ∧ W.ownsRow base 9 1 (.slice oa L.length oc) L.length (L.map Value.string) ∧ Off lv (.slice oa L.length oc) ∧ Off (.slice oa L.length oc) lv
theorem Outs.ext {W W' : World} {B base : Nat} {L : List ByteArray} {lv : Value} (h : Outs W B base L lv) (hx : Ext W W') : Outs W' B base L lv := by
  obtain ⟨oa, oc, h1, h2, h3, h4, h5, h6, h7⟩ := h
  exact ⟨oa, oc, (hx.cell _ _ h3).trans h1, (hx.frozen _ _ h3).trans h2, Nat.lt_of_lt_of_le h3 hx.size, Nat.le_trans h4 hx.size, own_ext h5 hx, h6, h7⟩
/-- a text more: what 'add' does, the other row as it was -/
theorem impl_addO (kind : Int) (v : Value) (ps : List ByteArray) (B base : Nat) (L : List ByteArray) (lv : Value) (n : Nat) (ls : List Value) (w : World) (hps : Strs w v ps) (hfit : ∀ s ∈ ps, s.size ≤ maxLen) (hBb : B < base) (h : Outs w B base L lv) (hlv : w.ownsRow base 9 1 lv n ls)
    (hL : L.length ≤ 1000) (W0 : World) (hT : Tabs W0) (hx0 : Ext W0 w) (h0B : W0.heap.size ≤ B) :
    Calls Tryd.prog 94 #[.int .i64 kind, v, .pointer (some ⟨B, 0, none⟩)] w fun e w' => e = .returned (.string (cutT (tagTx kind ps) 16)) ∧ Outs w' B base (L ++ [tagTx kind ps]) lv ∧ w'.ownsRow base 9 1 lv n ls ∧ Ext W0 w' ∧ w.heap.size ≤ w'.heap.size := by
  obtain ⟨oa, oc, h1, h2, h3, h4, h5, h6, h7⟩ := h
  refine (impl_add kind v ps B base oa oc L w hps hfit h3 hBb h4 h1 h2 h5 hL W0 hT hx0 h0B).mono ?_
  rintro e w' ⟨rfl, oa', oc', wa, wb, xa, gb, xb, ob, hat, cb, fb, x0⟩
  have lb : B < wb.heap.size := Nat.lt_of_lt_of_le (Nat.lt_of_lt_of_le h3 xa.size) gb.size
  have hl1 : (L ++ [tagTx kind ps]).length = L.length + 1 := by simp
  have hlva := own_ext hlv xa
  have hlvb : wb.ownsRow base 9 1 lv n ls := own_grown2 hlva gb (fun k hk hv => h6 k hv hk)
  have zs : w.heap.size ≤ w'.heap.size := by
    have z1 := xa.size
    have z2 := gb.size
    have z3 := xb.size
    rw [World.size_setCell] at z3
    omega
  have hbz : ∀ g, lv.ownBlock = some g → g < wa.heap.size := fun g hg => (own_lt hlva g hg).2
  refine ⟨rfl, ⟨oa', oc', ?_, ?_, ?_, ?_, ?_, ?_, ?_⟩, own_ext (own_below hlvb (by dsimp only; exact hBb)) xb, x0, zs⟩
  · rw [hl1, xb.cell _ _ (by rw [World.size_setCell]; exact lb)]
    simp [go_sem, cb]
  · rw [xb.frozen _ _ (by rw [World.size_setCell]; exact lb)]
    simp [go_sem, fb]
  · exact Nat.lt_of_lt_of_le h3 zs
  · exact Nat.le_trans h4 zs
  · rw [hl1]
    exact own_ext (own_below ob (by dsimp only; exact hBb)) xb
  · rw [hl1]
    intro g hg hr
    rcases hat with hat | hat
    · rw [hat] at hr; exact h6 g hg hr
    · rw [hat] at hr
      injection hr with hr
      have := hbz g hg
      omega
  · rw [hl1]
    exact off_next h7 hat hbz
end Go.Proofs.YtniimhfelnjepaaDoor
