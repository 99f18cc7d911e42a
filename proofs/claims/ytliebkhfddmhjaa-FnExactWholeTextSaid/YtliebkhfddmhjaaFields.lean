/- The reader 'fields': a block of three cells (text, place, bad), read and written by its methods. -/
import Derived.Test.YtliebkhfddmhjaaStrA
namespace Go.Proofs.Ytliebkhfddmhjaa
open Go.RowKit

/-- block b is a reader's: its text, its place, whether it is bad -/
structure Fld (w : World) (b : Nat) (t : ByteArray) (at_ : Int) (bad : Bool) : Prop where
  c0 : w.cell? ⟨b, 0, none⟩ = some (.string t)
  c1 : w.cell? ⟨b, 1, none⟩ = some (.int .i64 at_)
  c2 : w.cell? ⟨b, 2, none⟩ = some (.bool bad)
  fz : ∀ o, w.frozen? ⟨b, o, none⟩ = false

/-- only block b may have changed -/
def Mut (b : Nat) (w w' : World) : Prop := w.grownBy w' (some b)
theorem Mut.refl (b : Nat) (w : World) : Mut b w w := ⟨rfl, rfl, rfl, Nat.le_refl _, fun _ _ _ => rfl⟩
theorem Mut.size {b : Nat} {w w' : World} (h : Mut b w w') : w.heap.size ≤ w'.heap.size := World.grownBy.size h
theorem Mut.cell {b : Nat} {w w' : World} (h : Mut b w w') : ∀ k o, k < w.heap.size → k ≠ b → w'.cell? ⟨k, o, none⟩ = w.cell? ⟨k, o, none⟩ := fun k o hk hb => World.cell?_of_block (w := w) (a := ⟨k, o, none⟩) (h.block k hk (by simpa using hb))
theorem Mut.frozen {b : Nat} {w w' : World} (h : Mut b w w') : ∀ k o, k < w.heap.size → k ≠ b → w'.frozen? ⟨k, o, none⟩ = w.frozen? ⟨k, o, none⟩ := fun k o hk hb => World.frozen?_of_block (w := w) (a := ⟨k, o, none⟩) (h.block k hk (by simpa using hb))
theorem Ext.mut {a b c : World} {k : Nat} (h : Ext a b) (hm : Mut k b c) (hk : a.heap.size ≤ k) : Ext a c := h.grown hm (fun _ e => by cases e; exact hk)
theorem Mut.of_ext {b : Nat} {w w' : World} (h : Ext w w') : Mut b w w' := ⟨h.os, h.tape, h.output, h.size, fun k hk _ => h.block k hk⟩
theorem Mut.trans {b : Nat} {w w' w'' : World} (h : Mut b w w') (k : Mut b w' w'') : Mut b w w'' :=
  ⟨k.os.trans h.os, k.tape.trans h.tape, k.output.trans h.output, Nat.le_trans h.size k.size, fun i hi hb => (k.block i (Nat.lt_of_lt_of_le hi h.size) hb).trans (h.block i hi hb)⟩
theorem Mut.setCell {b : Nat} {w w' : World} (h : Mut b w w') (o : Nat) (u : Value) : Mut b w (w'.setCell ⟨b, o, none⟩ u) :=
  h.trans ⟨rfl, rfl, rfl, by simp [World.setCell], fun k _ hb => Below.heap_setCell _ _ _ _ (by simpa using hb)⟩
theorem Mut.drewN {b : Nat} {w w' : World} (h : Mut b w w') (n : Nat) : Mut b w (w'.drewN n) := ⟨h.os, h.tape, h.output, h.size, h.block⟩
theorem Mut.drew {b : Nat} {w w' : World} (h : Mut b w w') : Mut b w w'.drew := ⟨h.os, h.tape, h.output, h.size, h.block⟩
theorem Mut.alloc {b : Nat} {w w' : World} (h : Mut b w w') (o : Obj) : Mut b w (w'.alloc o) := h.trans (Mut.of_ext ((Ext.refl _).alloc o))

theorem cell_set_off {w : World} {b o o' : Nat} {u : Value} (h : o ≠ o') : (w.setCell ⟨b, o, none⟩ u).cell? ⟨b, o', none⟩ = w.cell? ⟨b, o', none⟩ := by
  apply World.cell?_setCell_other
  intro e
  exact h (congrArg Addr.off e)
theorem Fld.drewN {w : World} {b : Nat} {t : ByteArray} {a : Int} {x : Bool} (h : Fld w b t a x) (n : Nat) : Fld (w.drewN n) b t a x := ⟨h.c0, h.c1, h.c2, h.fz⟩
theorem Fld.drew {w : World} {b : Nat} {t : ByteArray} {a : Int} {x : Bool} (h : Fld w b t a x) : Fld w.drew b t a x := ⟨h.c0, h.c1, h.c2, h.fz⟩
theorem Fld.at {w : World} {b : Nat} {t : ByteArray} {a : Int} {x : Bool} (h : Fld w b t a x) (a' : Int) : Fld (w.setCell ⟨b, 1, none⟩ (.int .i64 a')) b t a' x :=
  ⟨(cell_set_off (by decide)).trans h.c0, World.cell?_setCell_same _ _ _ h.c1, (cell_set_off (by decide)).trans h.c2, fun o => by rw [World.frozen?_setCell]; exact h.fz o⟩
theorem Fld.bad {w : World} {b : Nat} {t : ByteArray} {a : Int} {x : Bool} (h : Fld w b t a x) (x' : Bool) : Fld (w.setCell ⟨b, 2, none⟩ (.bool x')) b t a x' :=
  ⟨(cell_set_off (by decide)).trans h.c0, (cell_set_off (by decide)).trans h.c1, World.cell?_setCell_same _ _ _ h.c2, fun o => by rw [World.frozen?_setCell]; exact h.fz o⟩
/-- what 'bytes(n)' hands back, and what it leaves: the place, whether it is bad -/
def bytesOf (t : ByteArray) (at_ : Int) (bad : Bool) (n : Int) : ByteArray := if bad = true ∨ n > t.size - at_ then ⟨#[]⟩ else t.extract at_.toNat (at_ + n).toNat
def bytesAt (t : ByteArray) (at_ : Int) (bad : Bool) (n : Int) : Int := if bad = true ∨ n > t.size - at_ then at_ else at_ + n
def bytesBad (t : ByteArray) (at_ : Int) (bad : Bool) (n : Int) : Bool := if bad = true ∨ n > t.size - at_ then true else false

theorem bytes_bad (t : ByteArray) (a n : Int) : bytesBad t a true n = true ∧ bytesAt t a true n = a ∧ bytesOf t a true n = ⟨#[]⟩ := by simp [bytesBad, bytesAt, bytesOf]
theorem bytes_yes {t : ByteArray} {a n : Int} (h : n ≤ t.size - a) : bytesBad t a false n = false ∧ bytesAt t a false n = a + n ∧ bytesOf t a false n = t.extract a.toNat (a + n).toNat := by
  have hc : ¬ (false = true ∨ n > t.size - a) := by simp; omega
  simp only [bytesBad, bytesAt, bytesOf, if_neg hc, and_self]
theorem bytes_no {t : ByteArray} {a n : Int} (h : n > t.size - a) : bytesBad t a false n = true ∧ bytesAt t a false n = a ∧ bytesOf t a false n = ⟨#[]⟩ := by
  have hc : (false = true ∨ n > t.size - a) := Or.inr h
  simp only [bytesBad, bytesAt, bytesOf, if_pos hc, and_self]
theorem bytesAt_bd {t : ByteArray} {a n : Int} {x : Bool} (ha : 0 ≤ a ∧ a ≤ t.size) (hn : 0 ≤ n) : 0 ≤ bytesAt t a x n ∧ bytesAt t a x n ≤ t.size := by
  unfold bytesAt; split <;> omega

set_option maxHeartbeats 800000 in
theorem impl_fields_bytes (b : Nat) (t : ByteArray) (at_ : Int) (bad : Bool) (n : Int) (w : World) (h : Fld w b t at_ bad) (ha : 0 ≤ at_ ∧ at_ ≤ t.size) (hn : 0 ≤ n ∧ n ≤ 1048576) (hs : t.size ≤ 1099511627776) :
    Calls Try.prog 95 #[.pointer (some ⟨b, 0, none⟩), .int .i64 n] w fun e w' => e = .returned (.string (bytesOf t at_ bad n)) ∧ Mut b w w' ∧ Fld w' b t (bytesAt t at_ bad n) (bytesBad t at_ bad n) := by
  have F := h
  obtain ⟨h0, h1, h2, hf⟩ := h
  have hn0 : decide (n < 0) = false := by simp; omega
  obtain ⟨hn1, hn2⟩ := hn
  obtain ⟨ha1, ha2⟩ := ha
  have HF := Lib.hid F
  clear F
  cases bad
  · by_cases hc : n > t.size - at_
    · have HC := Lib.hid hc
      go_enter Try.func95, Try.ntmps95
      go_wp2
      go_quiet (fail)
      go_wp2
      go_ret
      exact ⟨by simp [bytesOf, HC.out], ((Mut.refl b w).drewN _).setCell _ _, by simpa [bytesAt, bytesBad, HC.out] using (HF.out.drewN _).bad true⟩
    · have HC := Lib.hid hc
      have hcb : decide ((t.size : Int) - at_ < n) = false := by simp; omega
      go_enter Try.func95, Try.ntmps95
      go_wp2
      go_quiet (fail)
      go_wp2
      go_quiet (fail)
      go_wp2
      go_ret
      have hc' : ¬ (false = true ∨ n > t.size - at_) := by have := HC.out; simp; omega
      exact ⟨ret_str (by simp only [bytesOf]; rw [if_neg hc']), (((Mut.refl b w).drewN _).setCell _ _).drewN _, by simp only [bytesAt, bytesBad]; rw [if_neg hc', if_neg hc']; exact ((HF.out.drewN _).at (at_ + n)).drewN _⟩
  · go_enter Try.func95, Try.ntmps95
    go_wp2
    go_quiet (fail)
    go_wp2
    go_ret
    exact ⟨by simp [bytesOf], ((Mut.refl b w).drewN _).setCell _ _, by simpa [bytesAt, bytesBad] using (HF.out.drewN _).bad true⟩

def oneOf (t : ByteArray) (at_ : Int) (bad : Bool) : Int := if h : bad = false ∧ 0 ≤ at_ ∧ at_.toNat < t.size then (t[at_.toNat]'h.2.2).toNat else 0

set_option maxHeartbeats 800000 in
theorem impl_fields_one (b : Nat) (t : ByteArray) (at_ : Int) (bad : Bool) (w : World) (h : Fld w b t at_ bad) (ha : 0 ≤ at_ ∧ at_ ≤ t.size) (hs : t.size ≤ 1099511627776) :
    Calls Try.prog 94 #[.pointer (some ⟨b, 0, none⟩)] w fun e w' => e = .returned (.int .i64 (oneOf t at_ bad)) ∧ Mut b w w' ∧ Fld w' b t (bytesAt t at_ bad 1) (bytesBad t at_ bad 1) := by
  obtain ⟨ha1, ha2⟩ := ha
  by_cases hc : bad = true ∨ (1 : Int) > t.size - at_
  · have hb : bytesOf t at_ bad 1 = ⟨#[]⟩ := by simp only [bytesOf]; rw [if_pos hc]
    have HB := Lib.hid hb
    clear hb
    go_enter Try.func94, Try.ntmps94
    go_wp2_with (go_at_call 95; refine (impl_fields_bytes _ _ _ _ _ _ h ⟨ha1, ha2⟩ (by omega) hs).mono ?_; rw [HB.out]; rintro e w1 ⟨rfl, m1, f1⟩)
    go_ret
    exact ⟨ret_int (by simp only [oneOf]; rw [dif_neg (by rcases hc with rfl | hc <;> first | (simp; done) | omega)]), m1, f1⟩
  · have hb : bytesOf t at_ bad 1 = t.extract at_.toNat (at_.toNat + 1) := by simp only [bytesOf]; rw [if_neg hc]; congr 1; omega
    have hlt : at_.toNat < t.size := by simp at hc; omega
    have hsz : (t.extract at_.toNat (at_.toNat + 1)).size = 1 := by rw [ByteArray.size_extract]; omega
    have hget : ∀ h0, ((t.extract at_.toNat (at_.toNat + 1))[0]'h0) = t[at_.toNat] := by
      intro h0
      rw [ByteArray.getElem_extract]
      simp
    have hbad : bad = false := by simpa using fun h => hc (Or.inl h)
    generalize t.extract at_.toNat (at_.toNat + 1) = x at *
    have HB := Lib.hid hb
    have HC := Lib.hid hc
    have HG := Lib.hid hget
    have h1 : x.toList.isEmpty = false := by rw [toList_empty]; exact decide_eq_false (by omega)
    have h2 : (x.toList == []) = false := by simpa using h1
    clear hb hc hget
    go_enter Try.func94, Try.ntmps94
    go_wp2_with (go_at_call 95; refine (impl_fields_bytes _ _ _ _ _ _ h ⟨ha1, ha2⟩ (by omega) hs).mono ?_; rw [HB.out]; rintro e w1 ⟨rfl, m1, f1⟩)
    go_ret
    exact ⟨ret_int (by rw [wrap64_byte, HG.out]; simp only [oneOf]; rw [dif_pos ⟨hbad, ha1, hlt⟩]), m1, f1⟩
end Go.Proofs.Ytliebkhfddmhjaa
