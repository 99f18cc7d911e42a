/- Head1, Strs, Lits, Join, OwnG, Off, Var in one text. -/
import Derived.Test.YtckipgijfgeghaaDoorCore
namespace Go.Proofs.YtckipgijfgeghaaDoor
open Go.RowKit

/-- what is left of a bound behind a size -/
def szr (left : Int) (n : Nat) : Int := if left - n < 0 then -1 else left - n
def sealAt (n : Int) : Int := if inB n 1 4 then n - 1 else -1
def stampAt (h n : Int) : Int := if inB h 0 2 && inB n 1 4 then 4 * (h + 1) + n - 1 else -1
def headOk (h ep : Int) (r p : ByteArray) : Bool := inB h 0 2 && (inB ep 1 4 && (decide (r.size = 16) && (if ep = 1 then decide (p.size = 0) else decide (p.size = 16))))

theorem szr_cases (n : Nat) : (szr 1048576 n = -1 ∧ 1048576 < n) ∨ ∃ z : Int, szr 1048576 n = z ∧ 0 ≤ z ∧ n ≤ 1048576 ∧ z ≤ 1048576 := by
  by_cases h : 1048576 < n
  · exact Or.inl ⟨by simp only [szr]; rw [if_pos (by omega)], h⟩
  · exact Or.inr ⟨_, rfl, by simp only [szr]; rw [if_neg (by omega)]; omega, by omega, by simp only [szr]; rw [if_neg (by omega)]; omega⟩

end Go.Proofs.YtckipgijfgeghaaDoor
namespace Go.Proofs.YtckipgijfgeghaaDoor
open Go.RowKit

def Strs (w : World) (v : Value) (xs : List ByteArray) : Prop := Row w 1 v xs.length (xs.map Value.string)
def sizes (xs : List ByteArray) : Nat := (xs.map ByteArray.size).sum

theorem take_eq_succ {α : Type} {xs ys : List α} {k : Nat} (h1 : k < xs.length) (h2 : k < ys.length) (h : xs.take k = ys.take k) (e : xs[k] = ys[k]) : xs.take (k + 1) = ys.take (k + 1) := by
  rw [List.take_succ_eq_append_getElem h1, List.take_succ_eq_append_getElem h2, h, e]

/-- v owns the strings xs, in blocks from base on -/
def OwnStrs (w : World) (base : Nat) (v : Value) (xs : List ByteArray) : Prop := w.ownsRow base 9 1 v xs.length (xs.map Value.string)
theorem OwnStrs.strs {w : World} {base : Nat} {v : Value} {xs : List ByteArray} (h : OwnStrs w base v xs) : Strs w v xs := Row.of_owns h
theorem own_mono {w : World} {b b' : Nat} {e : TypeId} {n : Nat} {v : Value} {len : Nat} {flat : List Value} (h : w.ownsRow b e n v len flat) (hb : b' ≤ b) : w.ownsRow b' e n v len flat := by
  refine ⟨h.1, ?_⟩
  rcases h.2 with h2 | ⟨g, cap, cur, hv, hg, r⟩
  · exact Or.inl h2
  · exact Or.inr ⟨g, cap, cur, hv, Nat.le_trans hb hg, r⟩
theorem own_ext {w w' : World} {b : Nat} {e : TypeId} {n : Nat} {v : Value} {len : Nat} {flat : List Value} (h : w.ownsRow b e n v len flat) (hx : Ext w w') : w'.ownsRow b e n v len flat := by
  refine ⟨h.1, ?_⟩
  rcases h.2 with h2 | ⟨g, cap, cur, hv, hg, hh, r⟩
  · exact Or.inl h2
  · exact Or.inr ⟨g, cap, cur, hv, hg, (hx.block g (Array.getElem?_eq_some_iff.1 hh).1).trans hh, r⟩
theorem own_below {w : World} {b : Nat} {e : TypeId} {n : Nat} {v : Value} {len : Nat} {flat : List Value} (h : w.ownsRow b e n v len flat) {p : Addr} {u : Value} (hp : p.block < b) : (w.setCell p u).ownsRow b e n v len flat := ownsRow_setCell_below h hp u
theorem own_alloc {w : World} {b : Nat} {e : TypeId} {n : Nat} {v : Value} {len : Nat} {flat : List Value} (h : w.ownsRow b e n v len flat) (o : Obj) : (w.alloc o).ownsRow b e n v len flat := h.alloc o
theorem own_drew {w : World} {b : Nat} {e : TypeId} {n : Nat} {v : Value} {len : Nat} {flat : List Value} (h : w.ownsRow b e n v len flat) : w.drew.ownsRow b e n v len flat := h
theorem own_drewN {w : World} {b : Nat} {e : TypeId} {n : Nat} {v : Value} {len : Nat} {flat : List Value} (h : w.ownsRow b e n v len flat) (k : Nat) : (w.drewN k).ownsRow b e n v len flat := h
theorem OwnStrs.mono {w : World} {b b' : Nat} {v : Value} {xs : List ByteArray} (h : OwnStrs w b v xs) (hb : b' ≤ b) : OwnStrs w b' v xs := own_mono h hb
theorem OwnStrs.ext {w w' : World} {b : Nat} {v : Value} {xs : List ByteArray} (h : OwnStrs w b v xs) (hx : Ext w w') : OwnStrs w' b v xs := own_ext h hx
theorem Strs.form {w : World} {v : Value} {xs : List ByteArray} (h : Strs w v xs) : ∃ a c, v = .slice a xs.length c := by
  obtain ⟨-, a, c, rfl, -⟩ := h
  exact ⟨a, c, rfl⟩
theorem Strs.ext {w w' : World} {v : Value} {xs : List ByteArray} (h : Strs w v xs) (hx : Ext w w') : Strs w' v xs := Row.ext h hx

theorem infoString : (Tryd.prog.info? 9).map (fun i => (i.zero, i.size, i.bytes)) = some (some (.string ⟨#[]⟩), 1, 16) := by kernel_rfl

theorem Ext.grown {a b c : World} {row : Option Nat} (h : Ext a b) (hg : b.grownBy c row) (hr : ∀ k, row = some k → a.heap.size ≤ k) : Ext a c := Below.grown h hg h.size hr

theorem map_take_set (xs : List ByteArray) (k : Nat) (hk : k < xs.length) (z : Value) :
    ((xs.take k).map Value.string ++ List.replicate (xs.length - k) z).set k (.string xs[k]) = (xs.take (k + 1)).map Value.string ++ List.replicate (xs.length - (k + 1)) z := by
  rw [List.set_append_right _ _ (by simp; omega), List.take_succ_eq_append_getElem hk]
  simp only [List.length_map, List.length_take, Nat.min_eq_left (Nat.le_of_lt hk), Nat.sub_self, List.map_append, List.append_assoc]
  rw [show xs.length - k = (xs.length - (k + 1)) + 1 by omega, List.replicate_succ]
  simp

theorem mid_get (xs : List ByteArray) (k : Nat) (hk : k < xs.length) (z : Value) : ((xs.take k).map Value.string ++ List.replicate (xs.length - k) z)[k]? = some z := by
  rw [List.getElem?_append_right (by simp; omega)]
  rw [List.getElem?_replicate, if_pos (by simp; omega)]
theorem sizes_succ (xs : List ByteArray) (k : Nat) (hk : k < xs.length) : sizes (xs.take (k + 1)) = sizes (xs.take k) + xs[k].size := by
  unfold sizes
  rw [List.take_succ_eq_append_getElem hk, List.map_append, List.sum_append]
  simp
theorem sizes_take (xs : List ByteArray) (k : Nat) : sizes (xs.take k) ≤ sizes xs := by
  have h : sizes xs = sizes (xs.take k) + sizes (xs.drop k) := by
    unfold sizes
    rw [← List.sum_append, ← List.map_append, List.take_append_drop]
  omega

def wide (xs : List ByteArray) (wd : Int) : Bool := xs.all fun s => decide ((s.size : Int) = wd)
theorem wide_take {xs : List ByteArray} {wd : Int} {k : Nat} (hk : k < xs.length) (h : ∀ s ∈ xs.take k, (s.size : Int) = wd) (e : (xs[k].size : Int) = wd) : ∀ s ∈ xs.take (k + 1), (s.size : Int) = wd := by
  intro s hs
  rw [List.take_succ_eq_append_getElem hk, List.mem_append] at hs
  rcases hs with hs | hs
  · exact h s hs
  · simp at hs; rw [hs]; exact e

theorem impl_haveWidth (v : Value) (xs : List ByteArray) (n wd : Int) (w : World) (h : Strs w v xs) (hs : ∀ s ∈ xs, s.size ≤ maxLen) :
    Calls Tryd.prog 41 #[v, .int .i64 n, .int .i64 wd] w fun e w' => e = .returned (.bool (wide xs wd && decide ((xs.length : Int) = n))) ∧ w = w' := by
  obtain ⟨-, a1, c1, rfl, hc1, hm1, g1⟩ := h
  unfold maxLen at hm1 hs
  go_enter Tryd.func41, Tryd.ntmps41
  go_wp2
  go_loop [8, 11] (fun _ i => ∃ k : Nat, k ≤ xs.length ∧ i = .int .i64 k ∧ ∀ s ∈ xs.take k, (s.size : Int) = wd) (fun _ i => xs.length - (intOf i).toNat)
  case atStart => exact ⟨0, Nat.zero_le _, rfl, by simp⟩
  case round =>
    obtain ⟨k, hk, rfl, hall⟩ := hrel
    have HA := Lib.hid hall
    clear hall
    by_cases hlt : k < xs.length
    · rcases g1 with g1 | ⟨b1, o1, rfl, hb1, g1⟩
      · omega
      have e1 : w.cell? ⟨b1, o1 + k, none⟩ = some (.string xs[k]) := g1 k _ (by simp [hlt])
      have hsk := hs xs[k] (List.getElem_mem hlt)
      clear g1 hs
      by_cases hq : (xs[k].size : Int) = wd
      · have hqb : ((xs[k].size : Int) != wd) = false := by simp [hq]
        have HQ := Lib.hid hq
        clear hq
        go_wp2
        go_round
        case rel => exact ⟨k + 1, by omega, by go_num, wide_take hlt HA.out HQ.out⟩
        case measure => simp [intOf]; omega
      · have hqb : ((xs[k].size : Int) != wd) = true := by simp [hq]
        have hne : wide xs wd = false := by
          rw [wide, List.all_eq_false]
          exact ⟨xs[k], List.getElem_mem hlt, by simpa using hq⟩
        have HN := Lib.hid hne
        clear hq hne
        go_wp2
        go_ret
        exact ⟨ret_bool (by rw [HN.out]; rfl), rfl⟩
    · have he : wide xs wd = true := by
        have h1 := HA.out
        rw [List.take_of_length_le (by omega)] at h1
        rw [wide, List.all_eq_true]
        intro s hs'
        exact decide_eq_true (h1 s hs')
      have HE := Lib.hid he
      clear g1 hs he
      go_wp2
      go_ret
      exact ⟨ret_bool (by rw [HE.out, Bool.true_and, Bool.eq_iff_iff]; simp), rfl⟩

end Go.Proofs.YtckipgijfgeghaaDoor
namespace Go.Proofs.YtckipgijfgeghaaDoor
open Go.RowKit

theorem strs_nil (w : World) : Strs w (.slice none 0 0) [] :=
  ⟨rfl, none, 0, rfl, Nat.le_refl _, Nat.zero_le _, Or.inl rfl⟩
/-- a literal slice of strings, its block the newest -/
theorem strs_lit (w : World) (xs : List ByteArray) (n b : Nat) (t : TypeId) (hn : n = xs.length) (hb : b = w.heap.size) (hm : n ≤ 1000) : Strs (w.alloc (.cells (xs.map Value.string).toArray t)) (.slice (some ⟨b, 0, none⟩) n n) xs := by
  subst hb
  subst hn
  refine ⟨by simp, _, _, rfl, Nat.le_refl _, by unfold maxLen; omega, Or.inr ⟨w.heap.size, 0, rfl, by simp, fun j u hu => ?_⟩⟩
  rw [Nat.zero_add, World.cell?_alloc_new]
  simpa using hu
theorem strs_lit0 (w : World) (t : TypeId) : Strs (w.alloc (.cells #[] t)) (.slice (some ⟨w.heap.size, 0, none⟩) 0 0) [] := strs_lit w [] 0 _ t rfl rfl (by omega)
theorem strs_lit1 (w : World) (a : ByteArray) (t : TypeId) : Strs (w.alloc (.cells #[.string a] t)) (.slice (some ⟨w.heap.size, 0, none⟩) 1 1) [a] := strs_lit w [a] 1 _ t rfl rfl (by omega)
theorem strs_lit2 (w : World) (a b : ByteArray) (t : TypeId) : Strs (w.alloc (.cells #[.string a, .string b] t)) (.slice (some ⟨w.heap.size, 0, none⟩) 2 2) [a, b] := strs_lit w [a, b] 2 _ t rfl rfl (by omega)
theorem fit1 {a : ByteArray} (h : a.size ≤ maxLen) : ∀ s ∈ [a], s.size ≤ maxLen := by
  intro s hs
  rw [List.mem_singleton] at hs
  rw [hs]; exact h
theorem fit2 {a b : ByteArray} (h : a.size ≤ maxLen) (k : b.size ≤ maxLen) : ∀ s ∈ [a, b], s.size ≤ maxLen := by
  intro s hs
  rw [List.mem_cons, List.mem_singleton] at hs
  rcases hs with rfl | rfl <;> assumption
theorem fit0 : ∀ s ∈ ([] : List ByteArray), s.size ≤ maxLen := fun _ h => by cases h
theorem le_max {a : ByteArray} {n : Nat} (h : a.size ≤ n) (hn : n ≤ 1099511627776) : a.size ≤ maxLen := by unfold maxLen; omega
end Go.Proofs.YtckipgijfgeghaaDoor
namespace Go.Proofs.YtckipgijfgeghaaDoor
open Go.RowKit

def joinOn (a : ByteArray) (xs : List ByteArray) (k : Nat) : ByteArray := (xs.take k).foldl (· ++ ·) a
/-- strings behind a text -/
def joinT (xs : List ByteArray) : ByteArray := joinOn ⟨#[]⟩ xs xs.length
theorem joinOn_zero (a : ByteArray) (xs : List ByteArray) : joinOn a xs 0 = a := by simp [joinOn]
theorem joinOn_succ (a : ByteArray) (xs : List ByteArray) (k : Nat) (h : k < xs.length) : joinOn a xs (k + 1) = joinOn a xs k ++ xs[k] := by
  unfold joinOn
  rw [List.take_succ_eq_append_getElem h, List.foldl_append]
  rfl
theorem ba_empty_size : (⟨#[]⟩ : ByteArray).size = 0 := rfl
theorem ba_empty_append (a : ByteArray) : (⟨#[]⟩ : ByteArray) ++ a = a := by apply ByteArray.ext; simp [ByteArray.data_append]
theorem ba_append_empty (a : ByteArray) : a ++ (⟨#[]⟩ : ByteArray) = a := by apply ByteArray.ext; simp [ByteArray.data_append]
theorem joinOn_eq (a : ByteArray) (xs : List ByteArray) : ∀ k, k ≤ xs.length → joinOn a xs k = a ++ joinOn ⟨#[]⟩ xs k
  | 0, _ => by rw [joinOn_zero, joinOn_zero, ba_append_empty]
  | k + 1, h => by rw [joinOn_succ a xs k (by omega), joinOn_succ _ xs k (by omega), joinOn_eq a xs k (by omega), ByteArray.append_assoc]
theorem joinOn_all (a : ByteArray) (xs : List ByteArray) : joinOn a xs xs.length = a ++ joinT xs := joinOn_eq a xs _ (Nat.le_refl _)
/-- short strings, not many -/
def StrSmall (xs : List ByteArray) : Prop := xs.length ≤ 1000 ∧ ∀ s ∈ xs, s.size ≤ 200
theorem joinOn_size (a : ByteArray) {xs : List ByteArray} (hs : StrSmall xs) : ∀ k, k ≤ xs.length → (joinOn a xs k).size ≤ a.size + 200 * k
  | 0, _ => by simp [joinOn]
  | k + 1, h => by
    have h1 := joinOn_size a hs k (by omega)
    have h2 := hs.2 xs[k] (List.getElem_mem (by omega))
    rw [joinOn_succ a xs k (by omega), ByteArray.size_append]
    omega

end Go.Proofs.YtckipgijfgeghaaDoor
namespace Go.Proofs.YtckipgijfgeghaaDoor
open Go.RowKit

theorem own_lt {w : World} {base : Nat} {e : TypeId} {size n : Nat} {v : Value} {xs : List Value} (h : w.ownsRow base e size v n xs) : ∀ k, v.ownBlock = some k → base ≤ k ∧ k < w.heap.size := fun k hk => h.lt k hk
/-- a row of its own, behind writes to another, elder one -/
theorem own_grown {w w' : World} {base : Nat} {e : TypeId} {size n : Nat} {v : Value} {xs : List Value} (h : w.ownsRow base e size v n xs) {row : Option Nat} (hg : w.grownBy w' row) (hr : ∀ k, row = some k → k < base) : w'.ownsRow base e size v n xs := by
  refine ⟨h.1, ?_⟩
  rcases h.2 with h2 | ⟨g, cap, cur, hv, hb, hh, r⟩
  · exact Or.inl h2
  · exact Or.inr ⟨g, cap, cur, hv, hb, (hg.block g (Array.getElem?_eq_some_iff.1 hh).1 (fun e => by have := hr g e.symm; omega)).trans hh, r⟩

end Go.Proofs.YtckipgijfgeghaaDoor
namespace Go.Proofs.YtckipgijfgeghaaDoor
open Go.RowKit

/-- two slices lie in blocks of their own -/
def Off (v r : Value) : Prop := ∀ g, v.ownBlock = some g → r.ownBlock ≠ some g
theorem off_next {v v' r : Value} {H : Nat} (h : Off v r) (hat : v'.ownBlock = v.ownBlock ∨ v'.ownBlock = some H) (hb : ∀ g, r.ownBlock = some g → g < H) : Off v' r := by
  intro g hg hr
  rcases hat with hat | hat
  · exact h g (hat ▸ hg) hr
  · rw [hat] at hg
    injection hg with hg
    have := hb g hr
    omega
theorem row_grown {w w' : World} {n : Nat} {v : Value} {len : Nat} {flat : List Value} {row : Option Nat} (h : Row w n v len flat) (hg : w.grownBy w' row) (hne : ∀ g, row = some g → v.ownBlock ≠ some g) : Row w' n v len flat := by
  obtain ⟨h1, a, cap, rfl, h2, h3, h4⟩ := h
  refine ⟨h1, a, cap, rfl, h2, h3, ?_⟩
  rcases h4 with h4 | ⟨b, o, rfl, hb, hc⟩
  · exact Or.inl h4
  · exact Or.inr ⟨b, o, rfl, Nat.lt_of_lt_of_le hb hg.size, fun j u hu => (World.cell?_of_block (w := w) (a := ⟨b, o + j, none⟩) (hg.block b hb (fun e => hne b e.symm rfl))).trans (hc j u hu)⟩
theorem own_grown2 {w w' : World} {base : Nat} {e : TypeId} {size n : Nat} {v : Value} {xs : List Value} (h : w.ownsRow base e size v n xs) {row : Option Nat} (hg : w.grownBy w' row) (hr : ∀ k, row = some k → v.ownBlock ≠ some k) : w'.ownsRow base e size v n xs := by
  refine ⟨h.1, ?_⟩
  rcases h.2 with h2 | ⟨g, cap, cur, hv, hb, hh, r⟩
  · exact Or.inl h2
  · exact Or.inr ⟨g, cap, cur, hv, hb, (hg.block g (Array.getElem?_eq_some_iff.1 hh).1 (fun e => hr g e.symm (by rw [hv]; rfl))).trans hh, r⟩
theorem off_new {w : World} {base b : Nat} {e e' : TypeId} {n m size size' : Nat} {v r : Value} {xs ys : List Value} (h : w.ownsRow base e size v n xs) {w' : World} (h' : w'.ownsRow b e' size' r m ys) (hb : w.heap.size ≤ b) : Off v r := by
  intro g hg hr
  have h1 := (own_lt h g hg).2
  have h2 := (own_lt h' g hr).1
  omega
end Go.Proofs.YtckipgijfgeghaaDoor
namespace Go.Proofs.YtckipgijfgeghaaDoor
open Go.RowKit

def varL (n : Nat) : List Int := if 127 < n then (128 + (n : Int) % 128) :: varL (n / 128) else [(n : Int)]
termination_by n
theorem varL_more {n : Nat} (h : 127 < n) : varL n = (128 + (n : Int) % 128) :: varL (n / 128) := by rw [varL, if_pos h]
theorem varL_last {n : Nat} (h : ¬ 127 < n) : varL n = [(n : Int)] := by rw [varL, if_neg h]
theorem varL_le (n : Nat) : (varL n).length ≤ n + 1 := by
  induction n using Nat.strongRecOn with
  | ind n ih =>
    rw [varL]
    split
    · have := ih (n / 128) (by omega)
      simp only [List.length_cons]
      omega
    · simp
/-- a number's text -/
def varT (n : Nat) : ByteArray := strOfNums (varL n)
theorem varT_size (n : Nat) : (varT n).size ≤ n + 1 := by rw [varT, strOfNums_size]; exact varL_le n

theorem infoByte : (Tryd.prog.info? 5).map (fun i => (i.zero, i.size, i.bytes)) = some (some (.int .u8 0), 1, 1) := by kernel_rfl

theorem own_form {w : World} {base : Nat} {e : TypeId} {size n : Nat} {v : Value} {xs : List Value} (h : w.ownsRow base e size v n xs) (hn : 0 < n) : ∃ g cap, v = .slice (some ⟨g, 0, none⟩) n cap := by
  rcases h.2 with ⟨-, h0⟩ | ⟨g, cap, cur, hv, -⟩
  · omega
  · exact ⟨g, cap, hv⟩
theorem own_any {w : World} {base : Nat} {e : TypeId} {size n : Nat} {v : Value} {xs : List Value} (h : w.ownsRow base e size v n xs) : ∃ a cap, v = .slice a n cap := by
  rcases h.2 with ⟨rfl, rfl⟩ | ⟨g, cap, cur, rfl, -⟩
  · exact ⟨none, 0, rfl⟩
  · exact ⟨_, cap, rfl⟩
theorem conv_own {w : World} {base g cap n : Nat} {ys : List Int} (h : w.ownsRow base 5 1 (.slice (some ⟨g, 0, none⟩) n cap) n (ys.map (Value.int .u8))) :
    (convert 22 9 (.slice (some ⟨g, 0, none⟩) n cap)).run Tryd.prog w = .ok (.string (strOfNums ys)) w := by
  have hl : ys.length = n := by simpa using h.1
  refine run_convert_bytes_arg _ _ _ Tryd.underlying22 Tryd.underlying5 _ 0 _ _ ys hl (fun i hi => ?_) _ Tryd.underlying9
  rw [show (0 : Nat) + i = i by omega, h.cellAt i (by omega)]
  simp [List.getD, show i < ys.length by omega]
theorem own_ext_of {w0 w w' : World} {base : Nat} {e : TypeId} {size n : Nat} {v : Value} {xs : List Value} (hx : Ext w0 w) (hown : w.ownsRow base e size v n xs) (hg : w.grownBy w' v.ownBlock) (hb : w0.heap.size ≤ base) : Ext w0 w' :=
  hx.grown hg (fun k hk => Nat.le_trans hb (hown.lt k hk).1)

set_option maxRecDepth 100000 in
set_option maxHeartbeats 800000 in
theorem impl_varText (n : Nat) (w : World) (hn : n ≤ 1099511627776) :
    Calls Tryd.prog 88 #[.int .i64 n] w fun e w' => e = .returned (.string (varT n)) ∧ Ext w w' := by
  obtain ⟨i0, hi, hz0, hz1, hz2⟩ := info_parts infoByte
  go_enter Tryd.func88, Tryd.ntmps88
  go_wp2
  go_loopw [0, 3] (fun c v wr => ∃ (m : Nat) (ys : List Int), c = .int .i64 m ∧ wr.ownsRow w.heap.size 5 1 v ys.length (ys.map (Value.int .u8)) ∧ varL n = ys ++ varL m ∧ ys.length + m ≤ n ∧ Ext w wr) (fun c _ _ => (intOf c).toNat)
  case atStart => exact ⟨n, [], rfl, World.ownsRow_nil _ _ _ _, rfl, by simp, Ext.refl _⟩
  case round =>
    obtain ⟨m, ys, rfl, hown, hv, hle, hx⟩ := hrel
    have HV := Lib.hid hv
    obtain ⟨a, c, rfl⟩ := own_any hown
    have hsz := hx.size
    clear hv
    by_cases hm : 127 < m
    · go_wp2_with (at_builtin; refine wpList_append_own _ rfl (.tmp 6) (.tmp 11) 22 rfl w.heap.size 5 i0 (.int .u8 0) 1 1 Tryd.underlying22 hi hz0 hz1 hz2 rfl (by decide) _ _ _ rfl (hown.alloc _) ⟨wr.heap.size, 0, none⟩ 1 1 [.int .u8 (128 + (m : Int) % 128)] rfl rfl ?c1 ?c2 ?c3 ?c4 ?c5 ?_)
      case c1 =>
        intro j u hj
        match j, hj with
        | 0, hj => simp at hj; subst hj; simp [Addr.add]
      case c2 => intro u hu; simp at hu; subst hu; rfl
      case c3 => unfold maxLen; omega
      case c4 => omega
      case c5 => simp; omega
      intro v' w1 hown' hgrow _
      have hx1 : Ext w w1 := own_ext_of (hx.alloc _) (hown.alloc _) hgrow (Nat.le_refl _)
      obtain ⟨a', c', rfl⟩ := own_any hown'
      have HO := Lib.hid hown'
      clear hown' hgrow hown
      go_wp2
      go_roundw
      case rel => exact ⟨m / 128, ys ++ [128 + (m : Int) % 128], by go_num, by simpa using HO.out, by rw [HV.out, varL_more hm]; simp, by simp; omega, hx1⟩
      case measure => simp [intOf]; omega
    · go_wp2_with (at_builtin; refine wpList_append_own _ rfl (.tmp 15) (.tmp 18) 22 rfl w.heap.size 5 i0 (.int .u8 0) 1 1 Tryd.underlying22 hi hz0 hz1 hz2 rfl (by decide) _ _ _ rfl (hown.alloc _) ⟨wr.heap.size, 0, none⟩ 1 1 [.int .u8 (m : Int)] rfl rfl ?c1 ?c2 ?c3 ?c4 ?c5 ?_)
      case c1 =>
        intro j u hj
        match j, hj with
        | 0, hj => simp at hj; subst hj; simp [Addr.add]
      case c2 => intro u hu; simp at hu; subst hu; rfl
      case c3 => unfold maxLen; omega
      case c4 => omega
      case c5 => simp; omega
      intro v' w1 hown' hgrow _
      obtain ⟨g, cap, rfl⟩ := own_form hown' (by omega)
      have hx1 : Ext w w1 := own_ext_of (hx.alloc _) (hown.alloc _) hgrow (Nat.le_refl _)
      have hl : ys.map (Value.int .u8) ++ [Value.int .u8 (m : Int)] = (ys ++ [(m : Int)]).map (Value.int .u8) := by simp
      rw [hl] at hown'
      have hcv := conv_own hown'
      clear hown' hown hgrow hl
      go_wp2
      go_ret
      exact ⟨ret_str (by rw [varT, HV.out, varL_last hm]), hx1⟩
set_option maxRecDepth 100000 in
set_option maxHeartbeats 800000 in
theorem spec_l01Var (n : Nat) (w : World) (hn : n ≤ 1099511627776) :
    Calls Tryd.prog 83 #[.int .i64 n] w fun e w' => e = .returned (.string (varT n)) ∧ Ext w w' := by
  obtain ⟨i0, hi, hz0, hz1, hz2⟩ := info_parts infoByte
  go_enter Tryd.func83, Tryd.ntmps83
  go_wp2
  go_loopw [0, 3] (fun c v wr => ∃ (m : Nat) (ys : List Int), c = .int .i64 m ∧ wr.ownsRow w.heap.size 5 1 v ys.length (ys.map (Value.int .u8)) ∧ varL n = ys ++ varL m ∧ ys.length + m ≤ n ∧ Ext w wr) (fun c _ _ => (intOf c).toNat)
  case atStart => exact ⟨n, [], rfl, World.ownsRow_lit w #[] 0 (Nat.le_refl _) (Nat.zero_le _) rfl, rfl, by simp, (by repeat (first | (with_reducible first | exact Ext.refl _ | assumption | apply Ext.alloc | apply Ext.drew | apply Ext.drewN | refine Ext.setCell ?_ ?_ _ | refine Ext.trans ?_ (by assumption)) | (show _ ≤ _; first | omega | (dsimp only; omega) | (simp; done) | (simp; omega))))⟩
  case round =>
    obtain ⟨m, ys, rfl, hown, hv, hle, hx⟩ := hrel
    have HV := Lib.hid hv
    obtain ⟨a, c, rfl⟩ := own_any hown
    have hsz := hx.size
    clear hv
    by_cases hm : 127 < m
    · go_wp2_with (at_builtin; refine wpList_append_own _ rfl (.tmp 7) (.tmp 12) 22 rfl w.heap.size 5 i0 (.int .u8 0) 1 1 Tryd.underlying22 hi hz0 hz1 hz2 rfl (by decide) _ _ _ rfl (hown.alloc _) ⟨wr.heap.size, 0, none⟩ 1 1 [.int .u8 ((m : Int) % 128 + 128)] rfl rfl ?c1 ?c2 ?c3 ?c4 ?c5 ?_)
      case c1 =>
        intro j u hj
        match j, hj with
        | 0, hj => simp at hj; subst hj; simp [Addr.add]
      case c2 => intro u hu; simp at hu; subst hu; rfl
      case c3 => unfold maxLen; omega
      case c4 => omega
      case c5 => simp; omega
      intro v' w1 hown' hgrow _
      have hx1 : Ext w w1 := own_ext_of (hx.alloc _) (hown.alloc _) hgrow (Nat.le_refl _)
      obtain ⟨a', c', rfl⟩ := own_any hown'
      have HO := Lib.hid hown'
      clear hown' hgrow hown
      go_wp2
      go_roundw
      case rel => exact ⟨m / 128, ys ++ [(m : Int) % 128 + 128], by go_num, by simpa using HO.out, by rw [HV.out, varL_more hm]; simp; omega, by simp; omega, hx1⟩
      case measure => simp [intOf]; omega
    · go_wp2_with (at_builtin; refine wpList_append_own _ rfl (.tmp 16) (.tmp 19) 22 rfl w.heap.size 5 i0 (.int .u8 0) 1 1 Tryd.underlying22 hi hz0 hz1 hz2 rfl (by decide) _ _ _ rfl (hown.alloc _) ⟨wr.heap.size, 0, none⟩ 1 1 [.int .u8 (m : Int)] rfl rfl ?c1 ?c2 ?c3 ?c4 ?c5 ?_)
      case c1 =>
        intro j u hj
        match j, hj with
        | 0, hj => simp at hj; subst hj; simp [Addr.add]
      case c2 => intro u hu; simp at hu; subst hu; rfl
      case c3 => unfold maxLen; omega
      case c4 => omega
      case c5 => simp; omega
      intro v' w1 hown' hgrow _
      obtain ⟨g, cap, rfl⟩ := own_form hown' (by omega)
      have hx1 : Ext w w1 := own_ext_of (hx.alloc _) (hown.alloc _) hgrow (Nat.le_refl _)
      have hl : ys.map (Value.int .u8) ++ [Value.int .u8 (m : Int)] = (ys ++ [(m : Int)]).map (Value.int .u8) := by simp
      rw [hl] at hown'
      have hcv := conv_own hown'
      clear hown' hown hgrow hl
      go_wp2
      go_ret
      exact ⟨ret_str (by rw [varT, HV.out, varL_last hm]), hx1⟩

theorem impl_shortText (s : ByteArray) (w : World) (hs : s.size ≤ 1099511627776) :
    Calls Tryd.prog 81 #[.string s] w fun e w' => e = .returned (.string (varT s.size ++ s)) ∧ Ext w w' := by
  have hz := varT_size s.size
  go_enter Tryd.func81, Tryd.ntmps81
  go_wp2_with (go_at_call 88; refine (impl_varText _ _ hs).mono ?_; rintro e w1 ⟨rfl, x1⟩)
  go_ret
  exact ⟨rfl, (by repeat (first | (with_reducible first | exact Ext.refl _ | assumption | apply Ext.alloc | apply Ext.drew | apply Ext.drewN | refine Ext.setCell ?_ ?_ _ | refine Ext.trans ?_ (by assumption)) | (show _ ≤ _; first | omega | (dsimp only; omega) | (simp; done) | (simp; omega))))⟩
end Go.Proofs.YtckipgijfgeghaaDoor
