/- SigD, SigE in one text. -/
import Derived.Test.YtckipgijfgeghaaGreatDoorSigC
import Derived.Test.YtckipgijfgeghaaGreatDoorStrA
import Derived.Maps.AppendAt
namespace Go.Proofs.YtckipgijfgeghaaGreatDoor
open Go.RowKit

set_option maxRecDepth 100000 in
set_option maxHeartbeats 1600000 in
theorem impl_add (kind : Int) (v : Value) (ps : List ByteArray) (B base : Nat) (oa : Option Addr) (oc : Nat) (L : List ByteArray) (w : World) (hps : Strs w v ps) (hfit : ∀ s ∈ ps, s.size ≤ maxLen) (hB : B < w.heap.size) (hBb : B < base) (hbs : base ≤ w.heap.size) (hc : w.cell? ⟨B, 0, none⟩ = some (.slice oa L.length oc)) (hf : w.frozen? ⟨B, 0, none⟩ = false)
    (hown : w.ownsRow base 9 1 (.slice oa L.length oc) L.length (L.map Value.string)) (hL : L.length ≤ 1000) (W0 : World) (hT : Tabs W0) (hx0 : Ext W0 w) (h0B : W0.heap.size ≤ B) :
    Calls Tryz.prog 150 #[.int .i64 kind, v, .pointer (some ⟨B, 0, none⟩)] w fun e w' => e = .returned (.string (cutT (tagTx kind ps) 16)) ∧ ∃ (oa' : Option Addr) (oc' : Nat) (wa wb : World), Ext w wa ∧ wa.grownBy wb (Value.slice oa L.length oc).ownBlock ∧ Ext (wb.setCell ⟨B, 0, none⟩ (.slice oa' (L.length + 1) oc')) w' ∧ wb.ownsRow base 9 1 (.slice oa' (L.length + 1) oc') (L.length + 1) ((L ++ [tagTx kind ps]).map Value.string) ∧ ((Value.slice oa' (L.length + 1) oc').ownBlock = (Value.slice oa L.length oc).ownBlock ∨ (Value.slice oa' (L.length + 1) oc').ownBlock = some wa.heap.size) ∧ wb.cell? ⟨B, 0, none⟩ = some (.slice oa L.length oc) ∧ wb.frozen? ⟨B, 0, none⟩ = false ∧ Ext W0 w' := by
  obtain ⟨i0, hi, hz0, hz1, hz2⟩ := info_parts infoString
  have htz := tagTx_size kind ps
  have HO := Lib.hid hown
  have HT := Lib.hid hT
  have HF := Lib.hid hfit
  obtain ⟨pa, pc, rfl⟩ := hps.form
  clear hown hT hfit
  go_enter Tryz.func150, Tryz.ntmps150
  go_wp2_with fail
  refine (impl_TagText kind _ ps _ hps HF.out).mono ?_
  generalize hTg : tagTx kind ps = T at *
  have HTG := Lib.hid hTg
  clear hTg
  rintro e w1 ⟨rfl, x1⟩
  have c1 := (x1.cell _ _ hB).trans hc
  have f1 := (x1.frozen _ 0 hB).trans hf
  have lB : B < w1.heap.size := Nat.lt_of_lt_of_le hB x1.size
  have z1 := x1.size
  have own1 := own_ext HO.out x1
  have own2 := World.ownsRow.alloc own1 (Obj.cells #[Value.string T] 9)
  have y1 : Ext w (w1.alloc (Obj.cells #[Value.string T] 9)) := x1.alloc _
  go_wp2_with (at_builtin; refine wpList_append_own_at _ rfl (.tmp 14) (.tmp 16) 22 rfl base 9 i0 (.string ⟨#[]⟩) 1 16 Tryz.underlying22 hi hz0 hz1 hz2 rfl (by decide) _ _ _ rfl own2 ⟨w1.heap.size, 0, none⟩ 1 1 [.string T] rfl rfl ?c1 ?c2 ?c3 ?c4 ?c5 ?_)
  case c1 => exact news1 _ _ _
  case c2 => exact fun u hu => by rw [List.mem_singleton] at hu; rw [hu]; rfl
  case c3 => unfold maxLen; omega
  case c4 => omega
  case c5 => simp; omega
  intro v' w2 own3 hgrow _ hat
  have lB2 : B < (w1.alloc (Obj.cells #[Value.string T] 9)).heap.size := by rw [World.size_alloc]; omega
  have hne : some B ≠ (Value.slice oa L.length oc).ownBlock := fun e => by have := (own_lt own1 B e.symm).1; omega
  have c2 : w2.cell? ⟨B, 0, none⟩ = some (.slice oa L.length oc) := by
    rw [hgrow.cell_far ⟨B, 0, none⟩ lB2 hne, World.cell?_alloc_past _ _ _ lB]
    exact c1
  have f2 : w2.frozen? ⟨B, 0, none⟩ = false := by
    rw [hgrow.frozen_far ⟨B, 0, none⟩ lB2 hne]
    simpa [go_sem, lB] using f1
  obtain ⟨a', c', rfl⟩ := own_any own3
  have x02 : Ext W0 (w2.setCell ⟨B, 0, none⟩ (.slice a' (L.length + 1) c')) := ((hx0.trans y1).grown hgrow (fun k hk => by have := (own_lt own1 k hk).1; omega)).setCell h0B _
  have X02 := Lib.hid x02
  have HO3 := Lib.hid own3
  have HG := Lib.hid hgrow
  have HAT := Lib.hid hat
  have Y1 := Lib.hid y1
  clear own3 own2 own1 hgrow hat y1 x1 x02 hx0
  go_wp2_with fail
  refine (impl_CutDigest T 16 _ htz (by exact HT.out.ext X02.out)).mono ?_
  rintro e w3 ⟨rfl, x3⟩
  go_wp2
  go_ret
  rw [HTG.out]
  refine ⟨ret_str rfl, a', c', _, w2, Y1.out, HG.out, x3, by rw [List.map_append]; exact HO3.out, ?_, c2, f2, X02.out.trans x3⟩
  rw [World.size_alloc]
  exact HAT.out
end Go.Proofs.YtckipgijfgeghaaGreatDoor
namespace Go.Proofs.YtckipgijfgeghaaGreatDoor
open Go.RowKit

/-- what lies in the captured variable, and off another row -/
def Outs (W : World) (B base : Nat) (L : List ByteArray) (lv : Value) : Prop := ∃ (oa : Option Addr) (oc : Nat), W.cell? ⟨B, 0, none⟩ = some (.slice oa L.length oc) ∧ W.frozen? ⟨B, 0, none⟩ = false ∧ B < W.heap.size ∧ base ≤ W.heap.size ∧ W.ownsRow base 9 1 (.slice oa L.length oc) L.length (L.map Value.string) ∧ Off lv (.slice oa L.length oc) ∧ Off (.slice oa L.length oc) lv
theorem Outs.ext {W W' : World} {B base : Nat} {L : List ByteArray} {lv : Value} (h : Outs W B base L lv) (hx : Ext W W') : Outs W' B base L lv := by
  obtain ⟨oa, oc, h1, h2, h3, h4, h5, h6, h7⟩ := h
  exact ⟨oa, oc, (hx.cell _ _ h3).trans h1, (hx.frozen _ _ h3).trans h2, Nat.lt_of_lt_of_le h3 hx.size, Nat.le_trans h4 hx.size, own_ext h5 hx, h6, h7⟩
/-- a text more: what 'add' does, the other row as it was -/
theorem impl_addO (kind : Int) (v : Value) (ps : List ByteArray) (B base : Nat) (L : List ByteArray) (lv : Value) (n : Nat) (ls : List Value) (w : World) (hps : Strs w v ps) (hfit : ∀ s ∈ ps, s.size ≤ maxLen) (hBb : B < base) (h : Outs w B base L lv) (hlv : w.ownsRow base 9 1 lv n ls)
    (hL : L.length ≤ 1000) (W0 : World) (hT : Tabs W0) (hx0 : Ext W0 w) (h0B : W0.heap.size ≤ B) :
    Calls Tryz.prog 150 #[.int .i64 kind, v, .pointer (some ⟨B, 0, none⟩)] w fun e w' => e = .returned (.string (cutT (tagTx kind ps) 16)) ∧ Outs w' B base (L ++ [tagTx kind ps]) lv ∧ w'.ownsRow base 9 1 lv n ls ∧ Ext W0 w' ∧ w.heap.size ≤ w'.heap.size := by
  obtain ⟨oa, oc, h1, h2, h3, h4, h5, h6, h7⟩ := h
  refine (impl_add kind v ps B base oa oc L w hps hfit h3 hBb h4 h1 h2 h5 hL W0 hT hx0 h0B).mono ?_
  rintro e w' ⟨rfl, oa', oc', wa, wb, xa, gb, xb, ob, hat, cb, fb, x0⟩
  have lb : B < wb.heap.size := Nat.lt_of_lt_of_le (Nat.lt_of_lt_of_le h3 xa.size) gb.size
  have hl1 : (L ++ [tagTx kind ps]).length = L.length + 1 := by simp
  have hlva := own_ext hlv xa
  have hlvb : wb.ownsRow base 9 1 lv n ls := own_grown2 hlva gb (fun k hk hv => h6 k hv hk)
  have zs : w.heap.size ≤ w'.heap.size := by
    have z1 := xa.size
    have z2 := gb.size
    have z3 := xb.size
    rw [World.size_setCell] at z3
    omega
  have hbz : ∀ g, lv.ownBlock = some g → g < wa.heap.size := fun g hg => (own_lt hlva g hg).2
  refine ⟨rfl, ⟨oa', oc', ?_, ?_, ?_, ?_, ?_, ?_, ?_⟩, own_ext (own_below hlvb (by dsimp only; exact hBb)) xb, x0, zs⟩
  · rw [hl1, xb.cell _ _ (by rw [World.size_setCell]; exact lb)]
    simp [go_sem, cb]
  · rw [xb.frozen _ _ (by rw [World.size_setCell]; exact lb)]
    simp [go_sem, fb]
  · exact Nat.lt_of_lt_of_le h3 zs
  · exact Nat.le_trans h4 zs
  · rw [hl1]
    exact own_ext (own_below ob (by dsimp only; exact hBb)) xb
  · rw [hl1]
    intro g hg hr
    rcases hat with hat | hat
    · rw [hat] at hr; exact h6 g hg hr
    · rw [hat] at hr
      injection hr with hr
      have := hbz g hg
      omega
  · rw [hl1]
    exact off_next h7 hat hbz
end Go.Proofs.YtckipgijfgeghaaGreatDoor
