/- SHA-256 in plain words: words of 32 bits, a block's words, the rounds, the padding, the digest. -/
import Derived.Test.YtniimhfelnjepaaDoorBase
namespace Go.Proofs.YtniimhfelnjepaaDoor
open Go.RowKit

/-- a word of 32 bits -/
structure W32 where
  v : BitVec 32
namespace W32
def i (x : W32) : Int := (x.v.toNat : Int)
def add (x y : W32) : W32 := ⟨x.v + y.v⟩
def xr (x y : W32) : W32 := ⟨x.v ^^^ y.v⟩
def an (x y : W32) : W32 := ⟨x.v &&& y.v⟩
def ro (x y : W32) : W32 := ⟨x.v ||| y.v⟩
def no (x : W32) : W32 := ⟨~~~x.v⟩
def shr (x : W32) (n : Nat) : W32 := ⟨x.v >>> n⟩
def shl (x : W32) (n : Nat) : W32 := ⟨x.v <<< n⟩
def rot (x : W32) (n : Nat) : W32 := ro (shr x n) (shl x (32 - n))
def ofB (b : UInt8) : W32 := ⟨BitVec.ofNat 32 b.toNat⟩
def ofN (n : Nat) : W32 := ⟨BitVec.ofNat 32 n⟩
/-- the last eight bits -/
def byt (x : W32) : Int := ((x.v.toNat % 256 : Nat) : Int)

theorem i_bd (x : W32) : 0 ≤ x.i ∧ x.i < 4294967296 := by
  have := x.v.isLt
  unfold i
  omega
theorem ofInt_i (x : W32) : BitVec.ofInt 32 x.i = x.v := by
  unfold i
  rw [BitVec.ofInt_natCast]
  simp
theorem wrap_nat (n : Nat) (h : n < 4294967296) : IntKind.u32.wrap (n : Int) = n := by rw [IntKind.wrap_u32]; omega
theorem add_i (x y : W32) : IntKind.u32.wrap (x.i + y.i) = (x.add y).i := by
  rw [IntKind.wrap_u32]
  unfold i add
  rw [BitVec.toNat_add]
  omega
theorem xr_i (x y : W32) : bits .xor .u32 x.i y.i = (x.xr y).i := by
  show IntKind.u32.wrap ((BitVec.ofInt 32 x.i ^^^ BitVec.ofInt 32 y.i).toNat : Int) = _
  rw [ofInt_i, ofInt_i]
  exact wrap_nat _ (BitVec.isLt _)
theorem an_i (x y : W32) : bits .and .u32 x.i y.i = (x.an y).i := by
  show IntKind.u32.wrap ((BitVec.ofInt 32 x.i &&& BitVec.ofInt 32 y.i).toNat : Int) = _
  rw [ofInt_i, ofInt_i]
  exact wrap_nat _ (BitVec.isLt _)
theorem ro_i (x y : W32) : bits .or .u32 x.i y.i = (x.ro y).i := by
  show IntKind.u32.wrap ((BitVec.ofInt 32 x.i ||| BitVec.ofInt 32 y.i).toNat : Int) = _
  rw [ofInt_i, ofInt_i]
  exact wrap_nat _ (BitVec.isLt _)
theorem ones : BitVec.ofInt 32 4294967295 = BitVec.allOnes 32 := by decide
theorem no_i (x : W32) : bits .xor .u32 x.i 4294967295 = x.no.i := by
  show IntKind.u32.wrap ((BitVec.ofInt 32 x.i ^^^ BitVec.ofInt 32 4294967295).toNat : Int) = _
  rw [ofInt_i, ones, BitVec.xor_allOnes]
  exact wrap_nat _ (BitVec.isLt _)
theorem no_i' (x : W32) : bits .xor .u32 4294967295 x.i = x.no.i := by
  show IntKind.u32.wrap ((BitVec.ofInt 32 4294967295 ^^^ BitVec.ofInt 32 x.i).toNat : Int) = _
  rw [ofInt_i, ones, BitVec.allOnes_xor]
  exact wrap_nat _ (BitVec.isLt _)
theorem shr_i (x : W32) (n : Nat) : x.i / 2 ^ n = (x.shr n).i := by
  unfold i shr
  rw [BitVec.toNat_ushiftRight, Nat.shiftRight_eq_div_pow, Int.natCast_ediv, Int.natCast_pow]
  rfl
theorem shl_i (x : W32) (n : Nat) : IntKind.u32.wrap (x.i * 2 ^ n) = (x.shl n).i := by
  rw [IntKind.wrap_u32]
  unfold i shl
  rw [BitVec.toNat_shiftLeft, Nat.shiftLeft_eq, Int.natCast_emod, Int.natCast_mul, Int.natCast_pow]
  rfl
theorem ofB_i (b : UInt8) : (b.toNat : Int) = (ofB b).i := by
  unfold i ofB
  rw [BitVec.toNat_ofNat]
  have := b.toNat_lt
  omega
theorem i_ofN (n : Nat) (h : n < 4294967296) : (ofN n).i = (n : Int) := by
  unfold i ofN
  rw [BitVec.toNat_ofNat]
  omega
theorem wr_i (x : W32) : IntKind.u32.wrap x.i = x.i := by
  have := x.i_bd
  rw [IntKind.wrap_u32]
  omega
theorem byt_i (x : W32) : IntKind.u8.wrap x.i = x.byt := by
  rw [IntKind.wrap_u8]
  unfold i byt
  omega
theorem byt_bd (x : W32) : 0 ≤ x.byt ∧ x.byt < 256 := by
  unfold byt
  omega
theorem ext {x y : W32} (h : x.v = y.v) : x = y := by cases x; cases y; simp_all
theorem ro_comm (x y : W32) : x.ro y = y.ro x := ext (BitVec.or_comm _ _)
end W32

/-- four bytes to a word -/
def wordOf (a b c d : UInt8) : W32 := (((W32.ofB a).shl 24).ro ((W32.ofB b).shl 16)).ro ((W32.ofB c).shl 8) |>.ro (W32.ofB d)
def sg0 (x : W32) : W32 := ((x.rot 7).xr (x.rot 18)).xr (x.shr 3)
def sg1 (x : W32) : W32 := ((x.rot 17).xr (x.rot 19)).xr (x.shr 10)
def bs0 (x : W32) : W32 := ((x.rot 2).xr (x.rot 13)).xr (x.rot 22)
def bs1 (x : W32) : W32 := ((x.rot 6).xr (x.rot 11)).xr (x.rot 25)
def chW (e f g : W32) : W32 := (e.an f).xr (e.no.an g)
def mjW (a b c : W32) : W32 := ((a.an b).xr (a.an c)).xr (b.an c)

instance : Inhabited W32 := ⟨W32.ofN 0⟩
/-- word k of a block -/
def blkW (s : ByteArray) (k : Nat) : W32 := wordOf (s.data.getD (4 * k) 0) (s.data.getD (4 * k + 1) 0) (s.data.getD (4 * k + 2) 0) (s.data.getD (4 * k + 3) 0)
/-- the first 16 + k words of the schedule -/
def sched (s : ByteArray) : Nat → List W32
  | 0 => (List.range 16).map (blkW s)
  | k + 1 => sched s k ++ [(((sched s k).getD k default).add (sg0 ((sched s k).getD (k + 1) default))).add ((sched s k).getD (k + 9) default) |>.add (sg1 ((sched s k).getD (k + 14) default))]
theorem sched_length (s : ByteArray) : ∀ k, (sched s k).length = 16 + k
  | 0 => by simp [sched]
  | k + 1 => by rw [sched, List.length_append, sched_length s k]; rfl

/-- the state: eight words -/
structure St where
  a : W32
  b : W32
  c : W32
  d : W32
  e : W32
  f : W32
  g : W32
  h : W32
def St.list (s : St) : List W32 := [s.a, s.b, s.c, s.d, s.e, s.f, s.g, s.h]
def St.t1 (s : St) (k w : W32) : W32 := (((s.h.add (bs1 s.e)).add (chW s.e s.f s.g)).add k).add w
def St.t2 (s : St) : W32 := (bs0 s.a).add (mjW s.a s.b s.c)
def St.next (s : St) (k w : W32) : St := ⟨(s.t1 k w).add s.t2, s.a, s.b, s.c, s.d.add (s.t1 k w), s.e, s.f, s.g⟩
def St.plus (s t : St) : St := ⟨s.a.add t.a, s.b.add t.b, s.c.add t.c, s.d.add t.d, s.e.add t.e, s.f.add t.f, s.g.add t.g, s.h.add t.h⟩

def keysN : List Nat := [0x428a2f98, 0x71374491, 0xb5c0fbcf, 0xe9b5dba5, 0x3956c25b, 0x59f111f1, 0x923f82a4, 0xab1c5ed5,
  0xd807aa98, 0x12835b01, 0x243185be, 0x550c7dc3, 0x72be5d74, 0x80deb1fe, 0x9bdc06a7, 0xc19bf174,
  0xe49b69c1, 0xefbe4786, 0x0fc19dc6, 0x240ca1cc, 0x2de92c6f, 0x4a7484aa, 0x5cb0a9dc, 0x76f988da,
  0x983e5152, 0xa831c66d, 0xb00327c8, 0xbf597fc7, 0xc6e00bf3, 0xd5a79147, 0x06ca6351, 0x14292967,
  0x27b70a85, 0x2e1b2138, 0x4d2c6dfc, 0x53380d13, 0x650a7354, 0x766a0abb, 0x81c2c92e, 0x92722c85,
  0xa2bfe8a1, 0xa81a664b, 0xc24b8b70, 0xc76c51a3, 0xd192e819, 0xd6990624, 0xf40e3585, 0x106aa070,
  0x19a4c116, 0x1e376c08, 0x2748774c, 0x34b0bcb5, 0x391c0cb3, 0x4ed8aa4a, 0x5b9cca4f, 0x682e6ff3,
  0x748f82ee, 0x78a5636f, 0x84c87814, 0x8cc70208, 0x90befffa, 0xa4506ceb, 0xbef9a3f7, 0xc67178f2]
def startN : List Nat := [0x6a09e667, 0xbb67ae85, 0x3c6ef372, 0xa54ff53a, 0x510e527f, 0x9b05688c, 0x1f83d9ab, 0x5be0cd19]
def keyW (k : Nat) : W32 := W32.ofN (keysN.getD k 0)
def st0 : St := ⟨W32.ofN 0x6a09e667, W32.ofN 0xbb67ae85, W32.ofN 0x3c6ef372, W32.ofN 0xa54ff53a, W32.ofN 0x510e527f, W32.ofN 0x9b05688c, W32.ofN 0x1f83d9ab, W32.ofN 0x5be0cd19⟩

/-- the state behind k rounds -/
def rnds (s : ByteArray) (t : St) : Nat → St
  | 0 => t
  | k + 1 => (rnds s t k).next (keyW k) ((sched s 48).getD k default)
/-- the state behind a block -/
def shaB (s : ByteArray) (t : St) : St := t.plus (rnds s t 64)
/-- the state behind k blocks -/
def shaN (s : ByteArray) : Nat → St
  | 0 => st0
  | k + 1 => shaB (s.extract (64 * k) (64 * k + 64)) (shaN s k)
/-- the padding -/
def zerosN (n : Nat) : Nat := (119 - n % 64) % 64
def padNums (n : Nat) : List Int := [128] ++ List.replicate (zerosN n) 0 ++ (List.range 8).map fun k => ((8 * n / 2 ^ (8 * (7 - k)) % 256 : Nat) : Int)
def padT (t : ByteArray) : ByteArray := t ++ strOfNums (padNums t.size)
def W32.nums (x : W32) : List Int := [(x.shr 24).byt, (x.shr 16).byt, (x.shr 8).byt, x.byt]
def St.nums (s : St) : List Int := s.list.flatMap W32.nums
/-- THE DIGEST -/
def digT (t : ByteArray) : ByteArray := strOfNums (shaN (padT t) ((padT t).size / 64)).nums

theorem sched_get {s : ByteArray} {k : Nat} : ∀ n, k < 16 + n → ∀ m, (sched s (n + m)).getD k default = (sched s n).getD k default
  | n, h, 0 => rfl
  | n, h, m + 1 => by
    rw [← Nat.add_assoc, sched, List.getD_eq_getElem?_getD, List.getElem?_append_left (by rw [sched_length]; omega), ← List.getD_eq_getElem?_getD, sched_get n h m]

/-- word i of a block's schedule -/
def wd (s : ByteArray) (i : Nat) : W32 := (sched s 48).getD i default
theorem wd_of (s : ByteArray) (n k : Nat) (hn : n ≤ 48) (h : k < 16 + n) : (sched s n).getD k default = wd s k := by
  have := sched_get (s := s) n h (48 - n)
  rw [show n + (48 - n) = 48 by omega] at this
  exact this.symm
theorem wd_lo (s : ByteArray) (i : Nat) (h : i < 16) : wd s i = blkW s i := by
  rw [← wd_of s 0 i (by omega) (by omega), sched]
  simp [h]
theorem wd_hi (s : ByteArray) (k : Nat) (h : 16 ≤ k ∧ k < 64) : wd s k = (((wd s (k - 16)).add (sg0 (wd s (k - 15)))).add (wd s (k - 7))).add (sg1 (wd s (k - 2))) := by
  obtain ⟨m, rfl⟩ : ∃ m, k = m + 16 := ⟨k - 16, by omega⟩
  rw [← wd_of s (m + 1) (m + 16) (by omega) (by omega), sched, List.getD_eq_getElem?_getD, List.getElem?_append_right (by rw [sched_length]; omega), sched_length,
    show m + 16 - (16 + m) = 0 by omega]
  simp only [List.getElem?_cons_zero, Option.getD_some]
  rw [wd_of s m m (by omega) (by omega), wd_of s m (m + 1) (by omega) (by omega), wd_of s m (m + 9) (by omega) (by omega), wd_of s m (m + 14) (by omega) (by omega)]
  rw [show m + 16 - 16 = m by omega, show m + 16 - 15 = m + 1 by omega, show m + 16 - 7 = m + 9 by omega, show m + 16 - 2 = m + 14 by omega]
/-- the words of the schedule that are laid, and noughts -/
def wArr (s : ByteArray) (i : Nat) : List W32 := (sched s 48).take i ++ List.replicate (64 - i) (W32.ofN 0)
theorem wArr_length (s : ByteArray) (i : Nat) (h : i ≤ 64) : (wArr s i).length = 64 := by
  rw [wArr, List.length_append, List.length_take, sched_length, List.length_replicate]
  omega
theorem wArr_get (s : ByteArray) (i j : Nat) (h : i ≤ 64) (hj : j < i) : (wArr s i).getD j default = wd s j := by
  rw [wArr, List.getD_eq_getElem?_getD, List.getElem?_append_left (by rw [List.length_take, sched_length]; omega), List.getElem?_take_of_lt hj, ← List.getD_eq_getElem?_getD]
  rfl
theorem getD_at (l : List W32) (i : Nat) (h : i < l.length) : l.getD i default = l[i] := by simp [List.getD_eq_getElem?_getD, h]
theorem wArr_set (s : ByteArray) (i : Nat) (h : i < 64) : (wArr s i).set i (wd s i) = wArr s (i + 1) := by
  have hl : ((sched s 48).take i).length = i := by rw [List.length_take, sched_length]; omega
  unfold wArr
  rw [List.set_append_right _ _ (by omega), hl, Nat.sub_self, show 64 - i = (64 - (i + 1)) + 1 by omega, List.replicate_succ, List.set_cons_zero]
  rw [List.take_succ_eq_append_getElem (by rw [sched_length]; omega), List.append_assoc, List.singleton_append, wd, getD_at _ _ (by rw [sched_length]; omega)]
theorem st_len (t : St) : t.list.length = 8 := rfl
end Go.Proofs.YtniimhfelnjepaaDoor
