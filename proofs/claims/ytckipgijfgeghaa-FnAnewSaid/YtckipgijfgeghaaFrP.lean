/- Records in frames: the plain law. -/
import Derived.Test.YtckipgijfgeghaaRdA
namespace Go.Proofs.Ytckipgijfgeghaa
open Go.RowKit

/-- one bit of the checksum -/
def crcBit (s : Int) : Int := if s % 2 = 1 then bits .xor .u32 (s / 2) 3558460437 else s / 2
def crcBits : Nat → Int → Int
  | 0, s => s
  | k + 1, s => crcBit (crcBits k s)
def crcStep (s : Int) (x : UInt8) : Int := crcBits 8 (bits .xor .u32 s x.toNat)
def crcT (t : ByteArray) : Int := t.data.toList.foldl crcStep 4294967295
theorem xor32_bd (a b : Int) : 0 ≤ bits .xor .u32 a b ∧ bits .xor .u32 a b < 4294967296 := by
  show 0 ≤ IntKind.u32.wrap ((BitVec.ofInt 32 a ^^^ BitVec.ofInt 32 b).toNat : Int) ∧ IntKind.u32.wrap ((BitVec.ofInt 32 a ^^^ BitVec.ofInt 32 b).toNat : Int) < 4294967296
  have h := (BitVec.ofInt 32 a ^^^ BitVec.ofInt 32 b).isLt
  generalize (BitVec.ofInt 32 a ^^^ BitVec.ofInt 32 b).toNat = m at h ⊢
  simp [IntKind.wrap, IntKind.signed, IntKind.bits]
  omega
theorem crcBit_bd {s : Int} (h : 0 ≤ s ∧ s < 4294967296) : 0 ≤ crcBit s ∧ crcBit s < 4294967296 := by
  unfold crcBit
  split
  · exact xor32_bd _ _
  · omega
theorem crcBits_bd {s : Int} (h : 0 ≤ s ∧ s < 4294967296) : ∀ k, 0 ≤ crcBits k s ∧ crcBits k s < 4294967296
  | 0 => h
  | k + 1 => crcBit_bd (crcBits_bd h k)
theorem crcFold_bd (l : List UInt8) : ∀ s : Int, 0 ≤ s ∧ s < 4294967296 → 0 ≤ l.foldl crcStep s ∧ l.foldl crcStep s < 4294967296 := by
  induction l with
  | nil => exact fun s h => h
  | cons x l ih => exact fun s h => ih _ (crcBits_bd (xor32_bd _ _) 8)
theorem crcT_bd (t : ByteArray) : 0 ≤ crcT t ∧ crcT t < 4294967296 := crcFold_bd _ _ (by decide)
/-- a word's bytes -/
def fourN (s : Int) : List Int := [s / 16777216 % 256, s / 65536 % 256, s / 256 % 256, s % 256]
def four (t : ByteArray) : ByteArray := strOfNums (fourN (crcT t))
theorem four_4 (t : ByteArray) : (four t).size = 4 := by rw [four, strOfNums_size]; rfl
/-- a record's frame -/
def frB (s : ByteArray) : List UInt8 := varB s.size ++ ((four s).data.toList ++ s.data.toList)
def frT (s : ByteArray) : ByteArray := varT s.size ++ four s ++ s
theorem frT_list (s : ByteArray) : (frT s).data.toList = frB s := by rw [frT, ba_append, ba_append, List.append_assoc]; rfl
def recOk (s : ByteArray) : Bool := inB s.size 1 9000
theorem recOk_true {s : ByteArray} : recOk s = true ↔ 1 ≤ s.size ∧ s.size ≤ 9000 := by rw [recOk, inB_true]; omega
/-- does a frame of s stand at a place? -/
def FrAt (l : List UInt8) (a : Nat) (s : ByteArray) : Prop := recOk s = true ∧ ∃ q, l.drop a = frB s ++ q
theorem frB_inj {s u : ByteArray} {p q : List UInt8} (h : frB s ++ p = frB u ++ q) : s = u ∧ p = q := by
  unfold frB at h
  simp only [List.append_assoc] at h
  obtain ⟨h1, h2⟩ := var_inj _ _ _ _ h
  obtain ⟨-, h3⟩ := List.append_inj h2 (by rw [ba_len, ba_len, four_4, four_4])
  obtain ⟨h4, h5⟩ := List.append_inj h3 (by rw [ba_len, ba_len]; exact h1)
  exact ⟨ba_ext h4, h5⟩
theorem FrAt.one {l : List UInt8} {a : Nat} {s u : ByteArray} (h : FrAt l a s) (k : FrAt l a u) : s = u := by
  obtain ⟨-, p, e⟩ := h
  obtain ⟨-, q, e'⟩ := k
  exact (frB_inj (e.symm.trans e')).1
theorem frB_len (s : ByteArray) : (frB s).length = (varB s.size).length + 4 + s.size := by
  rw [frB, List.length_append, List.length_append, ba_len, ba_len, four_4]; omega
theorem FrAt.lt {l : List UInt8} {a : Nat} {s : ByteArray} (h : FrAt l a s) : a + (frB s).length ≤ l.length := by
  obtain ⟨hr, q, e⟩ := h
  have h1 := congrArg List.length e
  rw [List.length_drop, List.length_append, frB_len] at h1
  rw [frB_len]
  have := (recOk_true.1 hr).1
  omega
/-- records that stand one behind the other, from a on, up to e -/
def Frs (l : List UInt8) : Nat → List ByteArray → Nat → Prop
  | a, [], e => a = e
  | a, s :: ss, e => FrAt l a s ∧ Frs l (a + (frB s).length) ss e
theorem Frs.snoc {l : List UInt8} {s : ByteArray} : ∀ {ss : List ByteArray} {a e : Nat}, Frs l a ss e → FrAt l e s → Frs l a (ss ++ [s]) (e + (frB s).length)
  | [], _, _, h, k => by cases h; exact ⟨k, rfl⟩
  | _ :: _, _, _, h, k => ⟨h.1, Frs.snoc h.2 k⟩
theorem Frs.le {l : List UInt8} : ∀ {ss : List ByteArray} {a e : Nat}, Frs l a ss e → a ≤ l.length → e ≤ l.length
  | [], _, _, h, k => by cases h; exact k
  | _ :: _, _, _, h, _ => Frs.le h.2 h.1.lt
/-- what a file's records are: all that stand from its beginning on -/
def Unfr (l : List UInt8) (ss : List ByteArray) (e : Nat) : Prop := Frs l 0 ss e ∧ ¬ ∃ s, FrAt l e s
theorem frs_one {l : List UInt8} : ∀ {ss us : List ByteArray} {a e f : Nat}, Frs l a ss e → (¬ ∃ s, FrAt l e s) → Frs l a us f → (¬ ∃ s, FrAt l f s) → ss = us ∧ e = f
  | [], [], _, _, _, h, _, k, _ => by cases h; cases k; exact ⟨rfl, rfl⟩
  | [], u :: us, _, _, _, h, hn, k, _ => by cases h; exact absurd ⟨u, k.1⟩ hn
  | s :: ss, [], _, _, _, h, _, k, kn => by cases k; exact absurd ⟨s, h.1⟩ kn
  | s :: ss, u :: us, _, _, _, h, hn, k, kn => by
    obtain rfl := h.1.one k.1
    obtain ⟨h1, h2⟩ := frs_one h.2 hn k.2 kn
    exact ⟨by rw [h1], h2⟩
theorem Unfr.one {l : List UInt8} {ss us : List ByteArray} {e f : Nat} (h : Unfr l ss e) (k : Unfr l us f) : ss = us ∧ e = f := frs_one h.1 h.2 k.1 k.2
theorem frB_ne (s : ByteArray) : frB s ≠ [] := by
  intro e
  have := congrArg List.length e
  rw [frB_len] at this
  simp at this
theorem frat_drop {l : List UInt8} {a b : Nat} {s : ByteArray} : FrAt (l.drop a) b s ↔ FrAt l (a + b) s := by rw [FrAt, FrAt, List.drop_drop]
theorem frs_drop {l : List UInt8} {d : Nat} : ∀ {ss : List ByteArray} {a e : Nat}, Frs (l.drop d) a ss e ↔ Frs l (d + a) ss (d + e)
  | [], a, e => by rw [Frs, Frs]; omega
  | s :: ss, a, e => by rw [Frs, Frs, frat_drop, frs_drop, Nat.add_assoc]
/-- the frames of a list of records -/
def frsB (ss : List ByteArray) : List UInt8 := ss.flatMap frB
theorem frsB_frs : ∀ (ss : List ByteArray) (q : List UInt8), (∀ s ∈ ss, recOk s = true) → Frs (frsB ss ++ q) 0 ss (frsB ss).length
  | [], _, _ => rfl
  | s :: ss, q, h => by
    have e : frsB (s :: ss) ++ q = frB s ++ (frsB ss ++ q) := by rw [frsB, List.flatMap_cons, List.append_assoc]; rfl
    have e2 : (frsB (s :: ss)).length = (frB s).length + (frsB ss).length := by rw [frsB, List.flatMap_cons, List.length_append]; rfl
    rw [e, e2]
    refine ⟨⟨h s (by simp), _, rfl⟩, ?_⟩
    have := frsB_frs ss q (fun x hx => h x (by simp [hx]))
    have e3 : frsB ss ++ q = (frB s ++ (frsB ss ++ q)).drop (frB s).length := by rw [List.drop_left']; rfl
    rw [e3, frs_drop] at this
    rw [Nat.zero_add, ← e3] at *
    simpa using this
theorem frsB_unfr {ss : List ByteArray} (h : ∀ s ∈ ss, recOk s = true) : Unfr (frsB ss) ss (frsB ss).length := by
  have := frsB_frs ss [] h
  rw [List.append_nil] at this
  refine ⟨this, ?_⟩
  rintro ⟨s, -, q, e⟩
  rw [List.drop_length] at e
  exact frB_ne s (List.append_eq_nil_iff.1 e.symm).1
theorem frat_take {l : List UInt8} {a k : Nat} {s : ByteArray} (h : FrAt (l.take k) a s) : FrAt l a s ∧ a + (frB s).length ≤ k := by
  have hlt := h.lt
  obtain ⟨hr, q, e⟩ := h
  rw [List.length_take] at hlt
  refine ⟨⟨hr, q ++ l.drop k, ?_⟩, by omega⟩
  rw [← List.append_assoc, ← e]
  have : l.drop a = (l.take k ++ l.drop k).drop a := by rw [List.take_append_drop]
  rw [this, List.drop_append_of_le_length (by rw [List.length_take]; omega)]
theorem take_frat {l : List UInt8} {a k : Nat} {s : ByteArray} (h : FrAt l a s) (hk : a + (frB s).length ≤ k) : FrAt (l.take k) a s := by
  obtain ⟨hr, q, e⟩ := h
  refine ⟨hr, q.take (k - a - (frB s).length), ?_⟩
  rw [List.drop_take, e, List.take_append, List.take_of_length_le (by omega)]
/-- of a list of frames that is cut just the whole ones are read -/
theorem frs_cut {l : List UInt8} {k : Nat} : ∀ {ss us : List ByteArray} {a e f : Nat}, Frs l a ss e → Frs (l.take k) a us f → (¬ ∃ s, FrAt (l.take k) f s) → a ≤ k → (¬ ∃ s, FrAt l e s) →
    ∃ m, m ≤ ss.length ∧ us = ss.take m ∧ f = a + (frsB (ss.take m)).length ∧ f ≤ k ∧ (m = ss.length ∨ k < a + (frsB (ss.take (m + 1))).length)
  | ss, [], a, e, f, h, hu, hn, ha, hl => by
    cases hu
    refine ⟨0, Nat.zero_le _, rfl, rfl, ha, ?_⟩
    cases ss with
    | nil => exact Or.inl rfl
    | cons s ss =>
      right
      have e1 : (frsB ((s :: ss).take (0 + 1))).length = (frB s).length := by simp [frsB]
      rw [e1]
      apply Classical.byContradiction
      intro hc
      exact hn ⟨s, take_frat h.1 (by omega)⟩
  | [], u :: us, a, e, f, h, hu, _, _, hl => by
    cases h
    exact absurd ⟨u, (frat_take hu.1).1⟩ hl
  | s :: ss, u :: us, a, e, f, h, hu, hn, _, hl => by
    obtain ⟨h1, h2⟩ := frat_take hu.1
    obtain rfl := h.1.one h1
    obtain ⟨m, hm, rfl, hf, hfk, hor⟩ := frs_cut h.2 hu.2 hn h2 hl
    have e1 : ∀ n, (frsB ((s :: ss).take (n + 1))).length = (frB s).length + (frsB (ss.take n)).length := fun n => by
      rw [List.take_succ_cons, frsB, List.flatMap_cons, List.length_append]; rfl
    refine ⟨m + 1, by simpa using hm, by rw [List.take_succ_cons], by rw [e1, hf]; omega, hfk, ?_⟩
    rcases hor with rfl | hor
    · left; rfl
    · right; rw [e1]; omega
end Go.Proofs.Ytckipgijfgeghaa
