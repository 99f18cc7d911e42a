/- Signatures read: the plain law. -/
import Derived.Test.YtliebkhfddmhjaaSig2
import Derived.Test.YtliebkhfddmhjaaHeadA
import Derived.Test.YtliebkhfddmhjaaFields
namespace Go.Proofs.Ytliebkhfddmhjaa
open Go.RowKit

/-- the reader's place and fault behind k pieces of wd bytes -/
def hsS (t : ByteArray) (a : Int) (bad : Bool) (wd : Int) : Nat → Int × Bool
  | 0 => (a, bad)
  | k + 1 => (bytesAt t (hsS t a bad wd k).1 (hsS t a bad wd k).2 wd, bytesBad t (hsS t a bad wd k).1 (hsS t a bad wd k).2 wd)
def hsL (t : ByteArray) (a : Int) (bad : Bool) (wd : Int) (n : Nat) : List ByteArray := (List.range n).map fun j : Nat => bytesOf t (hsS t a bad wd j).1 (hsS t a bad wd j).2 wd
theorem hsL_succ (t : ByteArray) (a : Int) (bad : Bool) (wd : Int) (n : Nat) : hsL t a bad wd (n + 1) = hsL t a bad wd n ++ [bytesOf t (hsS t a bad wd n).1 (hsS t a bad wd n).2 wd] := by simp [hsL, List.range_succ]
theorem hsL_len (t : ByteArray) (a : Int) (bad : Bool) (wd : Int) (n : Nat) : (hsL t a bad wd n).length = n := by simp [hsL]
theorem hsS_bd {t : ByteArray} {a wd : Int} {bad : Bool} (ha : 0 ≤ a ∧ a ≤ t.size) (hw : 0 ≤ wd) : ∀ k, 0 ≤ (hsS t a bad wd k).1 ∧ (hsS t a bad wd k).1 ≤ t.size
  | 0 => ha
  | k + 1 => bytesAt_bd (hsS_bd ha hw k) hw
theorem hsS_yes {t : ByteArray} {a wd : Int} {n : Nat} (h : a + n * wd ≤ t.size) (hw : 0 ≤ wd) : ∀ k : Nat, k ≤ n → hsS t a false wd k = (a + k * wd, false)
  | 0, _ => by simp [hsS]
  | k + 1, hk => by
    have h1 : (k + 1 : Int) * wd ≤ n * wd := Int.mul_le_mul_of_nonneg_right (by omega) hw
    have h2 : (k + 1 : Int) * wd = k * wd + wd := by rw [Int.add_mul, Int.one_mul]
    obtain ⟨b1, b2, -⟩ := bytes_yes (t := t) (a := a + k * wd) (n := wd) (by omega)
    rw [hsS, hsS_yes h hw k (by omega)]
    dsimp only
    rw [b1, b2, Prod.mk.injEq]
    refine ⟨?_, rfl⟩
    rw [show ((k + 1 : Nat) : Int) * wd = k * wd + wd from h2]
    omega
theorem bytes_ok {t : ByteArray} {a n : Int} {bad : Bool} (h : bytesBad t a bad n = false) : bad = false ∧ n ≤ t.size - a ∧ bytesAt t a bad n = a + n := by
  cases bad with
  | true => rw [(bytes_bad t a n).1] at h; cases h
  | false =>
    rcases (show n > t.size - a ∨ n ≤ t.size - a by omega) with h1 | h1
    · rw [(bytes_no h1).1] at h; cases h
    · exact ⟨rfl, h1, (bytes_yes h1).2.1⟩
theorem hsS_false {t : ByteArray} {a wd : Int} {bad : Bool} (ha : a ≤ t.size) : ∀ k : Nat, (hsS t a bad wd k).2 = false → bad = false ∧ (hsS t a bad wd k).1 = a + k * wd ∧ a + k * wd ≤ t.size
  | 0, h => ⟨h, by simp [hsS], by simpa using ha⟩
  | k + 1, h => by
    rw [hsS] at h ⊢
    dsimp only at h ⊢
    obtain ⟨h1, h2, h3⟩ := bytes_ok h
    obtain ⟨k1, k2, k3⟩ := hsS_false ha k h1
    have h4 : ((k + 1 : Nat) : Int) * wd = k * wd + wd := by rw [show ((k + 1 : Nat) : Int) = (k : Int) + 1 by omega, Int.add_mul, Int.one_mul]
    rw [h3, k2, h4]
    rw [k2] at h2
    exact ⟨k1, by omega, by omega⟩
/-- n pieces of 16 bytes -/
def cutL (t : ByteArray) (a : Nat) (n : Nat) : List ByteArray := (List.range n).map fun j : Nat => t.extract (a + j * 16) (a + j * 16 + 16)
theorem cutL_succ (t : ByteArray) (a n : Nat) : cutL t a (n + 1) = cutL t a n ++ [t.extract (a + n * 16) (a + n * 16 + 16)] := by simp [cutL, List.range_succ]
theorem cutL_len (t : ByteArray) (a n : Nat) : (cutL t a n).length = n := by simp [cutL]
theorem cutL_16 {t : ByteArray} {a n : Nat} (h : a + n * 16 ≤ t.size) : ∀ s ∈ cutL t a n, s.size = 16 := by
  intro s hs
  rw [cutL, List.mem_map] at hs
  obtain ⟨j, hj, rfl⟩ := hs
  rw [List.mem_range] at hj
  rw [ByteArray.size_extract]
  omega
theorem cutL_le (t : ByteArray) (a n : Nat) : ∀ s ∈ cutL t a n, s.size ≤ 16 := by
  intro s hs
  rw [cutL, List.mem_map] at hs
  obtain ⟨j, hj, rfl⟩ := hs
  rw [ByteArray.size_extract]
  omega
theorem hsL_cut {t : ByteArray} {a : Nat} {n : Nat} (h : a + n * 16 ≤ t.size) : hsL t a false 16 n = cutL t a n := by
  rw [hsL, cutL]
  refine List.map_congr_left fun j hj => ?_
  rw [List.mem_range] at hj
  rw [hsS_yes (t := t) (a := a) (wd := 16) (n := n) (by omega) (by decide) j (by omega)]
  dsimp only
  rw [(bytes_yes (by omega)).2.2]
  congr 1 <;> omega
theorem hsL_le (t : ByteArray) (a : Int) (bad : Bool) (n : Nat) (ha : 0 ≤ a ∧ a ≤ t.size) : ∀ s ∈ hsL t a bad 16 n, s.size ≤ 16 := by
  intro s hs
  rw [hsL, List.mem_map] at hs
  obtain ⟨j, hj, rfl⟩ := hs
  have := hsS_bd (bad := bad) ha (wd := 16) (by decide) j
  rw [bytesOf]
  split
  · exact Nat.zero_le _
  · rw [ByteArray.size_extract]; omega
/-- a signature read at a place, and the place and fault behind it -/
def sgS1 (t : ByteArray) (a : Int) (bad : Bool) : Int × Bool := (bytesAt t a bad 1, bytesBad t a bad 1)
def sgS2 (t : ByteArray) (a : Int) (bad : Bool) : Int × Bool := hsS t (sgS1 t a bad).1 (sgS1 t a bad).2 16 8
def sgS3 (t : ByteArray) (a : Int) (bad : Bool) : Int × Bool := hsS t (sgS2 t a bad).1 (sgS2 t a bad).2 16 8
def sgS4 (t : ByteArray) (a : Int) (bad : Bool) : Int × Bool := hsS t (sgS3 t a bad).1 (sgS3 t a bad).2 16 4
def sgRd (t : ByteArray) (a : Int) (bad : Bool) : SigV := ⟨oneOf t a bad, hsL t (sgS1 t a bad).1 (sgS1 t a bad).2 16 8, hsL t (sgS2 t a bad).1 (sgS2 t a bad).2 16 8, hsL t (sgS3 t a bad).1 (sgS3 t a bad).2 16 4⟩
theorem sgS1_bd {t : ByteArray} {a : Int} {bad : Bool} (ha : 0 ≤ a ∧ a ≤ t.size) : 0 ≤ (sgS1 t a bad).1 ∧ (sgS1 t a bad).1 ≤ t.size := bytesAt_bd ha (by decide)
theorem sgS2_bd {t : ByteArray} {a : Int} {bad : Bool} (ha : 0 ≤ a ∧ a ≤ t.size) : 0 ≤ (sgS2 t a bad).1 ∧ (sgS2 t a bad).1 ≤ t.size := hsS_bd (sgS1_bd ha) (by decide) 8
theorem sgS3_bd {t : ByteArray} {a : Int} {bad : Bool} (ha : 0 ≤ a ∧ a ≤ t.size) : 0 ≤ (sgS3 t a bad).1 ∧ (sgS3 t a bad).1 ≤ t.size := hsS_bd (sgS2_bd ha) (by decide) 8
theorem sgS4_bd {t : ByteArray} {a : Int} {bad : Bool} (ha : 0 ≤ a ∧ a ≤ t.size) : 0 ≤ (sgS4 t a bad).1 ∧ (sgS4 t a bad).1 ≤ t.size := hsS_bd (sgS3_bd ha) (by decide) 4
theorem sgRd_fit {t : ByteArray} {a : Int} {bad : Bool} (ha : 0 ≤ a ∧ a ≤ t.size) : SigFit (sgRd t a bad) := by
  refine ⟨fun s hs => ?_, fun s hs => ?_, fun s hs => ?_⟩
  · exact Nat.le_trans (hsL_le t _ _ 8 (sgS1_bd ha) s hs) (by decide)
  · exact Nat.le_trans (hsL_le t _ _ 8 (sgS2_bd ha) s hs) (by decide)
  · exact Nat.le_trans (hsL_le t _ _ 4 (sgS3_bd ha) s hs) (by decide)
/-- the signature that stands at a place -/
def rsV (t : ByteArray) (a : Nat) : SigV := ⟨oneOf t a false, cutL t (a + 1) 8, cutL t (a + 129) 8, cutL t (a + 257) 4⟩
theorem sgRd_yes {t : ByteArray} {a : Nat} (h : a + 321 ≤ t.size) : sgRd t a false = rsV t a ∧ sgS4 t a false = (((a + 321 : Nat) : Int), false) := by
  obtain ⟨b1, b2, -⟩ := bytes_yes (t := t) (a := a) (n := 1) (by omega)
  have e1 : sgS1 t a false = (((a + 1 : Nat) : Int), false) := by rw [sgS1, b1, b2]; rfl
  have e2 : sgS2 t a false = (((a + 129 : Nat) : Int), false) := by
    rw [sgS2, e1]; dsimp only
    rw [hsS_yes (n := 8) (by omega) (by decide) 8 (by omega), Prod.mk.injEq]
    exact ⟨by omega, rfl⟩
  have e3 : sgS3 t a false = (((a + 257 : Nat) : Int), false) := by
    rw [sgS3, e2]; dsimp only
    rw [hsS_yes (n := 8) (by omega) (by decide) 8 (by omega), Prod.mk.injEq]
    exact ⟨by omega, rfl⟩
  have e4 : sgS4 t a false = (((a + 321 : Nat) : Int), false) := by
    rw [sgS4, e3]; dsimp only
    rw [hsS_yes (n := 4) (by omega) (by decide) 4 (by omega), Prod.mk.injEq]
    exact ⟨by omega, rfl⟩
  refine ⟨?_, e4⟩
  rw [sgRd, e1, e2, e3]
  dsimp only
  rw [hsL_cut (by omega), hsL_cut (by omega), hsL_cut (by omega)]
  rfl
theorem sgS4_false {t : ByteArray} {a : Nat} {bad : Bool} (ha : a ≤ t.size) (h : (sgS4 t a bad).2 = false) : bad = false ∧ a + 321 ≤ t.size := by
  have hA : (0 : Int) ≤ a ∧ (a : Int) ≤ t.size := by omega
  obtain ⟨h3, k4, l4⟩ := hsS_false (sgS3_bd hA).2 4 h
  obtain ⟨h2, k3, l3⟩ := hsS_false (sgS2_bd hA).2 8 h3
  obtain ⟨h1, k2, l2⟩ := hsS_false (sgS1_bd hA).2 8 h2
  obtain ⟨h0, k1, l1⟩ := bytes_ok h1
  have e3 : (sgS3 t a bad).1 = (sgS2 t a bad).1 + ((8 : Nat) : Int) * 16 := k3
  have e2 : (sgS2 t a bad).1 = (sgS1 t a bad).1 + ((8 : Nat) : Int) * 16 := k2
  have e1 : (sgS1 t a bad).1 = a + 1 := l1
  exact ⟨h0, by omega⟩
/-- is a text a signature's? -/
def rdSig (t : ByteArray) : Bool := decide (t.size = 321) && decide (oneOf t 0 false ≤ 15)
def rdSigV (t : ByteArray) : SigV := if rdSig t = true then rsV t 0 else ⟨0, [], [], []⟩
theorem one_bd (t : ByteArray) (a : Int) (b : Bool) : 0 ≤ oneOf t a b ∧ oneOf t a b ≤ 255 := by
  rw [oneOf]
  split
  · have := UInt8.toNat_lt (t[a.toNat]'(by omega)); omega
  · omega
theorem wide_cut {t : ByteArray} {a n : Nat} (h : a + n * 16 ≤ t.size) : wide (cutL t a n) 16 = true := by
  rw [wide, List.all_eq_true]
  intro s hs
  exact decide_eq_true (by rw [cutL_16 h s hs]; rfl)
theorem rsV_well {t : ByteArray} {a : Nat} (h : a + 321 ≤ t.size) : sigWell (rsV t a) = decide (oneOf t a false ≤ 15) := by
  have hb := one_bd t a false
  rw [sigWell, rsV]
  dsimp only
  rw [wide_cut (by omega), wide_cut (by omega), wide_cut (by omega), cutL_len, cutL_len, cutL_len]
  rw [Bool.eq_iff_iff]
  simp only [Bool.and_eq_true, decide_eq_true_eq, inB_true]
  constructor
  · rintro ⟨⟨-, h1⟩, -⟩; exact h1
  · intro h1; exact ⟨⟨hb.1, h1⟩, ⟨trivial, rfl⟩, ⟨trivial, rfl⟩, trivial, rfl⟩
/-- what is done by the program -/
theorem rdSig_eq (t : ByteArray) : ((!(sgS4 t 0 false).2 && decide ((sgS4 t 0 false).1 = t.size)) && sigWell (sgRd t 0 false)) = rdSig t := by
  by_cases h : 321 ≤ t.size
  · obtain ⟨e1, e2⟩ := sgRd_yes (t := t) (a := 0) (by omega)
    have e1' : sgRd t 0 false = rsV t 0 := e1
    have e2' : sgS4 t 0 false = (((0 + 321 : Nat) : Int), false) := e2
    rw [e1', e2', rsV_well (by omega), rdSig, Bool.eq_iff_iff]
    simp
    omega
  · have hn : rdSig t = false := by rw [rdSig, decide_eq_false (by omega)]; rfl
    rw [hn]
    cases hb : (sgS4 t 0 false).2 with
    | true => rfl
    | false =>
      have := (sgS4_false (t := t) (a := 0) (by omega) hb).2
      omega
theorem ba_one {t : ByteArray} {a : Nat} (h : a < t.size) : strOfNums [oneOf t a false] = t.extract a (a + 1) := by
  apply ba_ext
  have hl : a < t.data.toList.length := by rw [ba_len]; exact h
  rw [ba_nums, ba_extract, one_at t a h, Nat.add_sub_cancel_left, List.map_cons, List.map_nil, Int.toNat_natCast, List.getD_eq_getElem?_getD, List.getElem?_eq_getElem hl, List.drop_eq_getElem_cons hl]
  simp
theorem xt_app {t : ByteArray} {a b c : Nat} (h1 : a ≤ b) (h2 : b ≤ c) : t.extract a b ++ t.extract b c = t.extract a c := by
  apply ba_ext
  rw [ba_append, ba_extract, ba_extract, ba_extract]
  have : c - a = (b - a) + (c - b) := by omega
  rw [this, List.take_add, List.drop_drop]
  congr 3
  omega
theorem xt_all (t : ByteArray) : t.extract 0 t.size = t := by
  apply ba_ext
  rw [ba_extract, Nat.sub_zero, List.drop_zero, List.take_of_length_le (by rw [ba_len]; exact Nat.le_refl _)]
theorem join_cut (t : ByteArray) (a n : Nat) : ∀ k, k ≤ n → joinOn ⟨#[]⟩ (cutL t a n) k = t.extract a (a + k * 16)
  | 0, _ => by
    rw [joinOn_zero]
    apply ba_ext
    rw [ba_extract, ba_empty]
    simp
  | k + 1, h => by
    have hlt : k < (cutL t a n).length := by rw [cutL_len]; omega
    have e : (cutL t a n)[k] = t.extract (a + k * 16) (a + k * 16 + 16) := by simp [cutL]
    rw [joinOn_succ _ _ k hlt, join_cut t a n k (by omega), e, xt_app (by omega) (by omega)]
    congr 1
    omega
theorem joinT_cut (t : ByteArray) (a n : Nat) : joinT (cutL t a n) = t.extract a (a + n * 16) := by
  have := join_cut t a n n (Nat.le_refl _)
  rw [joinT, cutL_len]
  exact this
/-- the text of what is read is what was read -/
theorem rsV_text {t : ByteArray} {a : Nat} (h : a + 321 ≤ t.size) : sigT (rsV t a) = t.extract a (a + 321) := by
  rw [sigT, rsV]
  dsimp only
  rw [ba_one (by omega), joinT_cut, joinT_cut, joinT_cut, xt_app (by omega) (by omega), xt_app (by omega) (by omega), xt_app (by omega) (by omega)]
theorem rdSig_text {t : ByteArray} (h : rdSig t = true) : sigWell (rdSigV t) = true ∧ sigTx (rdSigV t) = t := by
  have h' := h
  rw [rdSig, Bool.and_eq_true, decide_eq_true_eq, decide_eq_true_eq] at h'
  obtain ⟨hs, h1⟩ := h'
  have hw : sigWell (rsV t 0) = true := by rw [rsV_well (by omega)]; exact decide_eq_true h1
  rw [rdSigV, if_pos h]
  refine ⟨hw, ?_⟩
  rw [sigTx, if_pos hw, rsV_text (by omega)]
  have := xt_all t
  rw [hs] at this
  exact this
theorem flat16 : ∀ (xs : List ByteArray) (_ : ∀ s ∈ xs, s.size = 16) (j : Nat) (_ : j < xs.length) (B : List UInt8), ((xs.flatMap (fun s => s.data.toList) ++ B).drop (j * 16)).take 16 = (xs.getD j ⟨#[]⟩).data.toList
  | [], _, j, hj, _ => by simp at hj
  | x :: xs, hx, 0, _, B => by
    have h16 : x.data.toList.length = 16 := by rw [ba_len]; exact hx x (by simp)
    rw [Nat.zero_mul, List.drop_zero, List.flatMap_cons, List.append_assoc, List.take_append_of_le_length (by omega), List.take_of_length_le (by omega)]
    rfl
  | x :: xs, hx, j + 1, hj, B => by
    have h16 : x.data.toList.length = 16 := by rw [ba_len]; exact hx x (by simp)
    have ih := flat16 xs (fun s hs => hx s (by simp [hs])) j (by simpa using hj) B
    rw [List.flatMap_cons, List.append_assoc, show (j + 1) * 16 = 16 + j * 16 by omega, ← List.drop_drop, List.drop_left' h16, ih]
    rfl
theorem joinOn_list (xs : List ByteArray) : ∀ k, k ≤ xs.length → (joinOn ⟨#[]⟩ xs k).data.toList = (xs.take k).flatMap (fun s => s.data.toList)
  | 0, _ => by rw [joinOn_zero]; rfl
  | k + 1, h => by
    rw [joinOn_succ _ _ k (by omega), ba_append, joinOn_list xs k (by omega), List.take_succ_eq_append_getElem (by omega), List.flatMap_append]
    simp
theorem joinT_list (xs : List ByteArray) : (joinT xs).data.toList = xs.flatMap (fun s => s.data.toList) := by
  rw [joinT, joinOn_list xs _ (Nat.le_refl _), List.take_length]
theorem flat16_len : ∀ (xs : List ByteArray), (∀ s ∈ xs, s.size = 16) → (xs.flatMap (fun s => s.data.toList)).length = xs.length * 16
  | [], _ => rfl
  | x :: xs, h => by
    have h1 := flat16_len xs (fun s hs => h s (by simp [hs]))
    have h2 := h x (by simp)
    rw [List.flatMap_cons, List.length_append, h1, ba_len, h2, List.length_cons]
    omega
/-- pieces that were joined come back -/
theorem cut_join {t : ByteArray} {a : Nat} {xs : List ByteArray} {A B : List UInt8} (ht : t.data.toList = A ++ (xs.flatMap (fun s => s.data.toList) ++ B)) (ha : A.length = a) (hx : ∀ s ∈ xs, s.size = 16) : cutL t a xs.length = xs := by
  refine List.ext_getElem (cutL_len _ _ _) fun j h1 h2 => ?_
  have e : (cutL t a xs.length)[j] = t.extract (a + j * 16) (a + j * 16 + 16) := by simp [cutL]
  rw [e]
  apply ba_ext
  rw [ba_extract, ht, ← List.drop_drop, ← ha, List.drop_left', Nat.add_sub_cancel_left, flat16 xs hx j h2 B, List.getD_eq_getElem?_getD, List.getElem?_eq_getElem h2]
  · rfl
  · rfl
theorem wide_all {xs : List ByteArray} (h : wide xs 16 = true) : ∀ s ∈ xs, s.size = 16 := by
  intro s hs
  rw [wide, List.all_eq_true] at h
  have := of_decide_eq_true (h s hs)
  omega
/-- what is read of a signature's text is the signature -/
theorem sig_back {s : SigV} (h : sigWell s = true) : rdSig (sigT s) = true ∧ rdSigV (sigT s) = s := by
  have h' := h
  simp only [sigWell, Bool.and_eq_true, decide_eq_true_eq, inB_true] at h'
  obtain ⟨⟨g0, g1⟩, ⟨w1, n1⟩, ⟨w2, n2⟩, w3, n3⟩ := h'
  have hl : (sigT s).data.toList = [UInt8.ofNat s.at_.toNat] ++ (s.op.flatMap (fun s => s.data.toList) ++ (s.sh.flatMap (fun s => s.data.toList) ++ (s.si.flatMap (fun s => s.data.toList) ++ []))) := by
    rw [sigT, ba_append, ba_append, ba_append, ba_nums, joinT_list, joinT_list, joinT_list]
    simp
  have l1 := flat16_len s.op (wide_all w1)
  have l2 := flat16_len s.sh (wide_all w2)
  have l3 := flat16_len s.si (wide_all w3)
  have hs : (sigT s).size = 321 := by
    rw [← ba_len, hl]
    simp only [List.length_append, List.length_cons, List.length_nil, l1, l2, l3]
    omega
  have e0 : oneOf (sigT s) 0 false = s.at_ := by
    have := one_at (sigT s) 0 (by omega)
    rw [hl] at this
    exact this.trans (nat8 (by omega))
  have hr : rdSig (sigT s) = true := by rw [rdSig, e0, hs, decide_eq_true g1]; rfl
  refine ⟨hr, ?_⟩
  rw [rdSigV, if_pos hr, rsV]
  have c1 : cutL (sigT s) (0 + 1) s.op.length = s.op := cut_join hl rfl (wide_all w1)
  have c2 : cutL (sigT s) (0 + 129) s.sh.length = s.sh := cut_join (A := [UInt8.ofNat s.at_.toNat] ++ s.op.flatMap (fun s => s.data.toList)) (by rw [hl, List.append_assoc]) (by rw [List.length_append, l1]; simp; omega) (wide_all w2)
  have c3 : cutL (sigT s) (0 + 257) s.si.length = s.si := cut_join (A := [UInt8.ofNat s.at_.toNat] ++ s.op.flatMap (fun s => s.data.toList) ++ s.sh.flatMap (fun s => s.data.toList)) (B := []) (by rw [hl]; simp only [List.append_assoc]) (by rw [List.length_append, List.length_append, l1, l2]; simp; omega) (wide_all w3)
  rw [show s.op.length = 8 by omega] at c1
  rw [show s.sh.length = 8 by omega] at c2
  rw [show s.si.length = 4 by omega] at c3
  rw [c1, c2, c3, show ((0 : Nat) : Int) = 0 from rfl, e0]
theorem sigT_inj {a b : SigV} (ha : sigWell a = true) (hb : sigWell b = true) (h : sigT a = sigT b) : a = b := by
  rw [← (sig_back ha).2, ← (sig_back hb).2, h]
end Go.Proofs.Ytliebkhfddmhjaa
