/- The plain theory of the merge of sort.SliceStable. -/
import Derived.Sort.LotA
namespace Go.SymP
open Go.Sort
variable {α : Type} [Inhabited α]

/-- the first n swaps of swapRange -/
def swr (a b : Nat) : Nat → Array α → Array α
  | 0, d => d
  | n + 1, d => swp (swr a b n d) (a + n) (b + n)
theorem swr_size (a b : Nat) (d : Array α) : ∀ n, (swr a b n d).size = d.size
  | 0 => rfl
  | n + 1 => by rw [swr, size_swp, swr_size a b d n]
theorem swp_at {d : Array α} {i j : Nat} (hi : i < d.size) (hj : j < d.size) (k : Nat) : (swp d i j)[k]! = if k = i then d[j]! else if k = j then d[i]! else d[k]! := by
  by_cases h1 : k = i
  · subst h1
    rw [if_pos rfl]
    by_cases h2 : k = j
    · subst h2; rw [swp_right d k k hj]
    · exact swp_left d k j hi h2
  · rw [if_neg h1]
    by_cases h2 : k = j
    · subst h2; rw [if_pos rfl]; exact swp_right d i k hj
    · rw [if_neg h2]; exact swp_other d i j k h1 h2
theorem swr_get (a b : Nat) (d : Array α) : ∀ n, a + n ≤ b → b + n ≤ d.size → ∀ k, (swr a b n d)[k]! = if a ≤ k ∧ k < a + n then d[b + (k - a)]! else if b ≤ k ∧ k < b + n then d[a + (k - b)]! else d[k]!
  | 0, _, _, k => by rw [swr, if_neg (by omega), if_neg (by omega)]
  | n + 1, h1, h2, k => by
    have ih := swr_get a b d n (by omega) (by omega)
    rw [swr, swp_at (by rw [swr_size]; omega) (by rw [swr_size]; omega)]
    by_cases e1 : k = a + n
    · subst e1
      rw [if_pos rfl, if_pos (by omega), ih, if_neg (by omega), if_neg (by omega)]
      congr 1; omega
    · rw [if_neg e1]
      by_cases e2 : k = b + n
      · subst e2
        rw [if_pos rfl, if_neg (by omega), if_pos (by omega), ih, if_neg (by omega), if_neg (by omega)]
        congr 1; omega
      · rw [if_neg e2, ih]
        by_cases e3 : a ≤ k ∧ k < a + n
        · rw [if_pos e3, if_pos (by omega)]
        · rw [if_neg e3, if_neg (by omega : ¬ (a ≤ k ∧ k < a + (n + 1)))]
          by_cases e4 : b ≤ k ∧ k < b + n
          · rw [if_pos e4, if_pos (by omega)]
          · rw [if_neg e4, if_neg (by omega)]
theorem swr_perm (lo hi a b : Nat) (d : Array α) : ∀ n, lo ≤ a → lo ≤ b → a + n ≤ hi → b + n ≤ hi → hi ≤ d.size → PermIn lo hi d (swr a b n d)
  | 0, _, _, _, _, _ => permIn_refl _ _ _
  | n + 1, h1, h2, h3, h4, h5 => by
    refine permIn_trans _ _ _ _ _ (swr_perm lo hi a b d n h1 h2 (by omega) (by omega) h5) ?_
    exact swp_permIn _ _ _ _ _ (by omega) (by omega) (by omega) (by omega) (by rw [swr_size]; exact h5)

/-- rotate: the blocks of i elements ahead of m and of j behind it -/
def rot (m i j : Nat) (d : Array α) : Array α :=
  if _h : i = j then swr (m - i) m i d
  else if _h0 : i = 0 ∨ j = 0 then d
  else if i > j then rot m (i - j) j (swr (m - i) m j d)
  else rot m i (j - i) (swr (m - i) (m + j - i) i d)
termination_by i + j
theorem rot_size (m i j : Nat) (d : Array α) : (rot m i j d).size = d.size := by
  unfold rot
  split
  · exact swr_size _ _ _ _
  split
  · rfl
  split
  · rw [rot_size, swr_size]
  · rw [rot_size, swr_size]
termination_by i + j
theorem rot_get (m i j : Nat) (d : Array α) (hi : 0 < i) (him : i ≤ m) (hj : 0 < j) (hd : m + j ≤ d.size) : ∀ k, (rot m i j d)[k]! = if m - i ≤ k ∧ k < m - i + j then d[k + i]! else if m - i + j ≤ k ∧ k < m + j then d[k - j]! else d[k]! := by
  intro k
  unfold rot
  split
  · next h =>
    subst h
    rw [swr_get _ _ _ _ (by omega) (by omega)]
    by_cases e1 : m - i ≤ k ∧ k < m - i + i
    · rw [if_pos e1, if_pos e1]; congr 1; omega
    · rw [if_neg e1, if_neg e1]
      by_cases e2 : m ≤ k ∧ k < m + i
      · rw [if_pos e2, if_pos (by omega)]; congr 1; omega
      · rw [if_neg e2, if_neg (by omega)]
  next hne =>
  rw [dif_neg (by omega)]
  split
  · next hgt =>
    have g := swr_get (m - i) m d j (by omega) (by omega)
    rw [rot_get m (i - j) j _ (by omega) (by omega) hj (by rw [swr_size]; exact hd)]
    by_cases e1 : m - (i - j) ≤ k ∧ k < m - (i - j) + j
    · have l : (swr (m - i) m j d)[k + (i - j)]! = d[k - j]! := by
        rw [g, if_neg (by omega), if_pos (by omega)]; congr 1; omega
      rw [if_pos e1, l, if_neg (by omega : ¬ (m - i ≤ k ∧ k < m - i + j)), if_pos (by omega : m - i + j ≤ k ∧ k < m + j)]
    · rw [if_neg e1]
      by_cases e2 : m - (i - j) + j ≤ k ∧ k < m + j
      · have l : (swr (m - i) m j d)[k - j]! = d[k - j]! := by rw [g, if_neg (by omega), if_neg (by omega)]
        rw [if_pos e2, l, if_neg (by omega : ¬ (m - i ≤ k ∧ k < m - i + j)), if_pos (by omega : m - i + j ≤ k ∧ k < m + j)]
      · rw [if_neg e2]
        by_cases e3 : m - i ≤ k ∧ k < m - i + j
        · have l : (swr (m - i) m j d)[k]! = d[k + i]! := by rw [g, if_pos e3]; congr 1; omega
          rw [if_pos e3, l]
        · have l : (swr (m - i) m j d)[k]! = d[k]! := by rw [g, if_neg e3, if_neg (by omega)]
          rw [if_neg e3, if_neg (by omega : ¬ (m - i + j ≤ k ∧ k < m + j)), l]
  · next hle =>
    have g := swr_get (m - i) (m + j - i) d i (by omega) (by omega)
    rw [rot_get m i (j - i) _ hi him (by omega) (by rw [swr_size]; omega)]
    by_cases e1 : m - i ≤ k ∧ k < m - i + (j - i)
    · have l : (swr (m - i) (m + j - i) i d)[k + i]! = d[k + i]! := by rw [g, if_neg (by omega), if_neg (by omega)]
      rw [if_pos e1, l, if_pos (by omega : m - i ≤ k ∧ k < m - i + j)]
    · rw [if_neg e1]
      by_cases e2 : m - i + (j - i) ≤ k ∧ k < m + (j - i)
      · have l : (swr (m - i) (m + j - i) i d)[k - (j - i)]! = d[k + i]! := by rw [g, if_pos (by omega)]; congr 1; omega
        rw [if_pos e2, l, if_pos (by omega : m - i ≤ k ∧ k < m - i + j)]
      · rw [if_neg e2, if_neg (by omega : ¬ (m - i ≤ k ∧ k < m - i + j))]
        by_cases e3 : m - i + j ≤ k ∧ k < m + j
        · have l : (swr (m - i) (m + j - i) i d)[k]! = d[k - j]! := by rw [g, if_neg (by omega), if_pos (by omega)]; congr 1; omega
          rw [if_pos e3, l]
        · have l : (swr (m - i) (m + j - i) i d)[k]! = d[k]! := by rw [g, if_neg (by omega), if_neg (by omega)]
          rw [if_neg e3, l]
termination_by i + j
theorem rot_perm (lo hi m i j : Nat) (d : Array α) (h1 : lo ≤ m - i) (him : i ≤ m) (h2 : m + j ≤ hi) (h3 : hi ≤ d.size) : PermIn lo hi d (rot m i j d) := by
  unfold rot
  split
  · exact swr_perm _ _ _ _ _ _ h1 (by omega) (by omega) (by omega) h3
  split
  · exact permIn_refl _ _ _
  split
  · refine permIn_trans _ _ _ _ _ (swr_perm lo hi (m - i) m d j h1 (by omega) (by omega) (by omega) h3) ?_
    exact rot_perm lo hi m (i - j) j _ (by omega) (by omega) h2 (by rw [swr_size]; exact h3)
  · refine permIn_trans _ _ _ _ _ (swr_perm lo hi (m - i) (m + j - i) d i h1 (by omega) (by omega) (by omega) h3) ?_
    exact rot_perm lo hi m i (j - i) _ h1 him (by omega) (by rw [swr_size]; exact h3)
termination_by i + j

/-- a binary search: the first place at which the test fails -/
def bs (test : Nat → Bool) (s r : Nat) : Nat :=
  if s < r then (if test ((s + r) / 2) = true then bs test ((s + r) / 2 + 1) r else bs test s ((s + r) / 2)) else s
termination_by r - s
theorem bs_spec (test : Nat → Bool) (s r : Nat) (h : s ≤ r) (hm : ∀ x y, s ≤ x → x ≤ y → y < r → test y = true → test x = true) :
    s ≤ bs test s r ∧ bs test s r ≤ r ∧ (∀ c, s ≤ c → c < bs test s r → test c = true) ∧ (∀ c, bs test s r ≤ c → c < r → test c = false) := by
  unfold bs
  split
  · next hlt =>
    split
    · next ht =>
      obtain ⟨h1, h2, h3, h4⟩ := bs_spec test ((s + r) / 2 + 1) r (by omega) (fun x y a b c => hm x y (by omega) b c)
      refine ⟨by omega, h2, fun c hc1 hc2 => ?_, h4⟩
      by_cases e : (s + r) / 2 + 1 ≤ c
      · exact h3 c e hc2
      · exact hm c ((s + r) / 2) hc1 (by omega) (by omega) ht
    · next ht =>
      obtain ⟨h1, h2, h3, h4⟩ := bs_spec test s ((s + r) / 2) (by omega) (fun x y a b c => hm x y a b (by omega))
      refine ⟨h1, by omega, h3, fun c hc1 hc2 => ?_⟩
      by_cases e : c < (s + r) / 2
      · exact h4 c hc1 e
      · cases htc : test c
        · rfl
        · exact absurd (hm ((s + r) / 2) c (by omega) (by omega) hc2 htc) ht
  · exact ⟨Nat.le_refl _, h, fun c _ _ => by omega, fun c _ _ => by omega⟩
termination_by r - s

/-- n swaps upwards from a: data[a] goes to a + n -/
def shu (a : Nat) : Nat → Array α → Array α
  | 0, d => d
  | n + 1, d => swp (shu a n d) (a + n) (a + n + 1)
theorem shu_size (a : Nat) (d : Array α) : ∀ n, (shu a n d).size = d.size
  | 0 => rfl
  | n + 1 => by rw [shu, size_swp, shu_size a d n]
theorem shu_get (a : Nat) (d : Array α) : ∀ n, a + n < d.size → ∀ k, (shu a n d)[k]! = if a ≤ k ∧ k < a + n then d[k + 1]! else if k = a + n then d[a]! else d[k]!
  | 0, _, k => by
    rw [shu, if_neg (by omega)]
    by_cases e : k = a + 0
    · rw [if_pos e, e, Nat.add_zero]
    · rw [if_neg e]
  | n + 1, h, k => by
    have ih := shu_get a d n (by omega)
    rw [shu, swp_at (by rw [shu_size]; omega) (by rw [shu_size]; omega)]
    by_cases e1 : k = a + n
    · have l : (shu a n d)[a + n + 1]! = d[k + 1]! := by rw [ih, if_neg (by omega), if_neg (by omega), e1]
      rw [if_pos e1, l, if_pos (by omega)]
    · rw [if_neg e1]
      by_cases e2 : k = a + n + 1
      · have l : (shu a n d)[a + n]! = d[a]! := by rw [ih, if_neg (by omega), if_pos rfl]
        rw [if_pos e2, l, if_neg (by omega : ¬ (a ≤ k ∧ k < a + (n + 1))), if_pos (by omega : k = a + (n + 1))]
      · rw [if_neg e2, ih, if_neg e1, if_neg (by omega : ¬ k = a + (n + 1))]
        by_cases e3 : a ≤ k ∧ k < a + n
        · rw [if_pos e3, if_pos (by omega)]
        · rw [if_neg e3, if_neg (by omega)]
theorem shu_perm (lo hi a : Nat) (d : Array α) : ∀ n, lo ≤ a → a + n < hi → hi ≤ d.size → PermIn lo hi d (shu a n d)
  | 0, _, _, _ => permIn_refl _ _ _
  | n + 1, h1, h2, h3 => by
    refine permIn_trans _ _ _ _ _ (shu_perm lo hi a d n h1 (by omega) h3) ?_
    exact swp_permIn _ _ _ _ _ (by omega) (by omega) (by omega) (by omega) (by rw [shu_size]; exact h3)
/-- n swaps downwards from m: data[m] goes to m - n -/
def shd (m : Nat) : Nat → Array α → Array α
  | 0, d => d
  | n + 1, d => swp (shd m n d) (m - n) (m - n - 1)
theorem shd_size (m : Nat) (d : Array α) : ∀ n, (shd m n d).size = d.size
  | 0 => rfl
  | n + 1 => by rw [shd, size_swp, shd_size m d n]
theorem shd_get (m : Nat) (d : Array α) (hm : m < d.size) : ∀ n, n ≤ m → ∀ k, (shd m n d)[k]! = if m - n < k ∧ k ≤ m then d[k - 1]! else if k = m - n then d[m]! else d[k]!
  | 0, _, k => by
    rw [shd, if_neg (by omega)]
    by_cases e : k = m - 0
    · rw [if_pos e, e, Nat.sub_zero]
    · rw [if_neg e]
  | n + 1, h, k => by
    have ih := shd_get m d hm n (by omega)
    rw [shd, swp_at (by rw [shd_size]; omega) (by rw [shd_size]; omega)]
    by_cases e1 : k = m - n
    · have l : (shd m n d)[m - n - 1]! = d[k - 1]! := by rw [ih, if_neg (by omega), if_neg (by omega), e1]
      rw [if_pos e1, l, if_pos (by omega)]
    · rw [if_neg e1]
      by_cases e2 : k = m - n - 1
      · have l : (shd m n d)[m - n]! = d[m]! := by rw [ih, if_neg (by omega), if_pos rfl]
        rw [if_pos e2, l, if_neg (by omega : ¬ (m - (n + 1) < k ∧ k ≤ m)), if_pos (by omega : k = m - (n + 1))]
      · rw [if_neg e2, ih, if_neg e1, if_neg (by omega : ¬ k = m - (n + 1))]
        by_cases e3 : m - n < k ∧ k ≤ m
        · rw [if_pos e3, if_pos (by omega)]
        · rw [if_neg e3, if_neg (by omega)]
theorem shd_perm (lo hi m : Nat) (d : Array α) : ∀ n, n ≤ m → lo ≤ m - n → m < hi → hi ≤ d.size → PermIn lo hi d (shd m n d)
  | 0, _, _, _, _ => permIn_refl _ _ _
  | n + 1, h0, h1, h2, h3 => by
    refine permIn_trans _ _ _ _ _ (shd_perm lo hi m d n (by omega) (by omega) h2 h3) ?_
    exact swp_permIn _ _ _ _ _ (by omega) (by omega) (by omega) (by omega) (by rw [shd_size]; exact h3)

variable (lt : α → α → Bool)
/-- where symMerge cuts the left part -/
def symS (a m b : Nat) (d : Array α) : Nat :=
  bs (fun c => !lt d[(a + b) / 2 + m - 1 - c]! d[c]!) (if m > (a + b) / 2 then (a + b) / 2 + m - b else a) (if m > (a + b) / 2 then (a + b) / 2 else m)
/-- symMerge -/
def symM (a m b : Nat) (d : Array α) : Array α :=
  if m - a = 1 then shu a (bs (fun h => lt d[h]! d[a]!) m b - 1 - a) d
  else if b - m = 1 then shd m (m - bs (fun h => !lt d[m]! d[h]!) a m) d
  else if _h : a + 2 ≤ m ∧ m + 2 ≤ b then
    let mid := (a + b) / 2
    let s := symS lt a m b d
    let e := mid + m - s
    let d1 := if s < m ∧ m < e then rot m (m - s) (e - m) d else d
    let d2 := if a < s ∧ s < mid then symM a s mid d1 else d1
    if mid < e ∧ e < b then symM mid e b d2 else d2
  else d
termination_by b - a

variable {lt}
theorem le_of {a b : Nat} {d : Array α} (hS : SWO lt) (h : SortedIn lt a b d) {i j : Nat} (h1 : a ≤ i) (h2 : i ≤ j) (h3 : j < b) : lt d[j]! d[i]! = false := by
  rcases Nat.lt_or_eq_of_le h2 with h4 | h4
  · exact h i j h1 h4 h3
  · subst h4; exact hS.irrefl _
theorem one_left (hS : SWO lt) {a b : Nat} {d : Array α} (hb : b ≤ d.size) (hab : a + 1 < b) (h : SortedIn lt (a + 1) b d) :
    PermIn a b d (shu a (bs (fun h => lt d[h]! d[a]!) (a + 1) b - 1 - a) d) ∧ SortedIn lt a b (shu a (bs (fun h => lt d[h]! d[a]!) (a + 1) b - 1 - a) d) := by
  obtain ⟨b1, b2, b3, b4⟩ := bs_spec (fun h => lt d[h]! d[a]!) (a + 1) b (by omega) (fun x y hx hxy hy ht => by
    cases hc : lt d[x]! d[a]!
    · have := hS.ntrans _ _ _ (le_of hS h hx hxy hy) hc
      rw [this] at ht; exact ht
    · rfl)
  generalize bs (fun h => lt d[h]! d[a]!) (a + 1) b = i0 at *
  refine ⟨shu_perm a b a d _ (Nat.le_refl _) (by omega) hb, fun i j hi hij hj => ?_⟩
  rw [shu_get a d _ (by omega), shu_get a d _ (by omega)]
  by_cases e1 : j < a + (i0 - 1 - a)
  · rw [if_pos (by omega : a ≤ j ∧ j < a + (i0 - 1 - a)), if_pos (by omega : a ≤ i ∧ i < a + (i0 - 1 - a))]
    exact h _ _ (by omega) (by omega) (by omega)
  · rw [if_neg (by omega : ¬ (a ≤ j ∧ j < a + (i0 - 1 - a)))]
    by_cases e2 : j = a + (i0 - 1 - a)
    · rw [if_pos e2, if_pos (by omega : a ≤ i ∧ i < a + (i0 - 1 - a))]
      exact hS.asymmA (b3 (i + 1) (by omega) (by omega))
    · rw [if_neg e2]
      by_cases e3 : i < a + (i0 - 1 - a)
      · rw [if_pos (by omega : a ≤ i ∧ i < a + (i0 - 1 - a))]
        exact h _ _ (by omega) (by omega) (by omega)
      · rw [if_neg (by omega : ¬ (a ≤ i ∧ i < a + (i0 - 1 - a)))]
        by_cases e4 : i = a + (i0 - 1 - a)
        · rw [if_pos e4]
          exact b4 j (by omega) (by omega)
        · rw [if_neg e4]
          exact h _ _ (by omega) (by omega) (by omega)
theorem one_right (hS : SWO lt) {a m : Nat} {d : Array α} (hb : m + 1 ≤ d.size) (hab : a < m) (h : SortedIn lt a m d) :
    PermIn a (m + 1) d (shd m (m - bs (fun h => !lt d[m]! d[h]!) a m) d) ∧ SortedIn lt a (m + 1) (shd m (m - bs (fun h => !lt d[m]! d[h]!) a m) d) := by
  obtain ⟨b1, b2, b3, b4⟩ := bs_spec (fun h => !lt d[m]! d[h]!) a m (by omega) (fun x y hx hxy hy ht => by
    have h1 : lt d[m]! d[y]! = false := by simpa using ht
    have := hS.ntrans _ _ _ h1 (le_of hS h hx hxy hy)
    simp [this])
  generalize bs (fun h => !lt d[m]! d[h]!) a m = i0 at *
  have b3' : ∀ c, a ≤ c → c < i0 → lt d[m]! d[c]! = false := fun c h1 h2 => by simpa using b3 c h1 h2
  have b4' : ∀ c, i0 ≤ c → c < m → lt d[m]! d[c]! = true := fun c h1 h2 => by simpa using b4 c h1 h2
  refine ⟨shd_perm a (m + 1) m d _ (by omega) (by omega) (by omega) hb, fun i j hi hij hj => ?_⟩
  rw [shd_get m d (by omega) _ (by omega), shd_get m d (by omega) _ (by omega)]
  by_cases e1 : j < i0
  · rw [if_neg (by omega : ¬ (m - (m - i0) < j ∧ j ≤ m)), if_neg (by omega : ¬ j = m - (m - i0)), if_neg (by omega : ¬ (m - (m - i0) < i ∧ i ≤ m)), if_neg (by omega : ¬ i = m - (m - i0))]
    exact h _ _ (by omega) (by omega) (by omega)
  · by_cases e2 : j = i0
    · rw [if_neg (by omega : ¬ (m - (m - i0) < j ∧ j ≤ m)), if_pos (by omega : j = m - (m - i0)), if_neg (by omega : ¬ (m - (m - i0) < i ∧ i ≤ m)), if_neg (by omega : ¬ i = m - (m - i0))]
      exact b3' i hi (by omega)
    · rw [if_pos (by omega : m - (m - i0) < j ∧ j ≤ m)]
      by_cases e3 : i < i0
      · rw [if_neg (by omega : ¬ (m - (m - i0) < i ∧ i ≤ m)), if_neg (by omega : ¬ i = m - (m - i0))]
        exact h _ _ (by omega) (by omega) (by omega)
      · by_cases e4 : i = i0
        · rw [if_neg (by omega : ¬ (m - (m - i0) < i ∧ i ≤ m)), if_pos (by omega : i = m - (m - i0))]
          exact hS.asymmA (b4' (j - 1) (by omega) (by omega))
        · rw [if_pos (by omega : m - (m - i0) < i ∧ i ≤ m)]
          exact h _ _ (by omega) (by omega) (by omega)
theorem symS_spec (hS : SWO lt) {a m b : Nat} {d : Array α} (h1 : a + 2 ≤ m) (h2 : m + 2 ≤ b) (hA : SortedIn lt a m d) (hB : SortedIn lt m b d) :
    a ≤ symS lt a m b d ∧ symS lt a m b d ≤ m ∧ symS lt a m b d ≤ (a + b) / 2 ∧ (a + b) / 2 + m - symS lt a m b d ≤ b ∧
    (a < symS lt a m b d → (a + b) / 2 + m - symS lt a m b d < b → lt d[(a + b) / 2 + m - symS lt a m b d]! d[symS lt a m b d - 1]! = false) ∧
    (symS lt a m b d < m → symS lt a m b d < (a + b) / 2 → lt d[(a + b) / 2 + m - symS lt a m b d - 1]! d[symS lt a m b d]! = true) := by
  have hs := bs_spec (fun c => !lt d[(a + b) / 2 + m - 1 - c]! d[c]!) (if m > (a + b) / 2 then (a + b) / 2 + m - b else a) (if m > (a + b) / 2 then (a + b) / 2 else m) (by split <;> omega) (fun x y hx hxy hy ht => by
    have ht' : lt d[(a + b) / 2 + m - 1 - y]! d[y]! = false := by simpa using ht
    have hxa : a ≤ x ∧ y < m ∧ m ≤ (a + b) / 2 + m - 1 - y ∧ (a + b) / 2 + m - 1 - x < b := by
      split at hx <;> split at hy <;> omega
    have e1 := le_of hS hB hxa.2.2.1 (by omega : (a + b) / 2 + m - 1 - y ≤ (a + b) / 2 + m - 1 - x) hxa.2.2.2
    have e2 := le_of hS hA hxa.1 hxy hxa.2.1
    have := hS.ntrans _ _ _ (hS.ntrans _ _ _ e1 ht') e2
    simp [this])
  obtain ⟨b1, b2, b3, b4⟩ := hs
  unfold symS
  generalize bs (fun c => !lt d[(a + b) / 2 + m - 1 - c]! d[c]!) (if m > (a + b) / 2 then (a + b) / 2 + m - b else a) (if m > (a + b) / 2 then (a + b) / 2 else m) = s at *
  have k1 : a ≤ s := by split at b1 <;> omega
  have k2 : s ≤ m := by split at b2 <;> omega
  have k3 : s ≤ (a + b) / 2 := by split at b2 <;> omega
  have k4 : (a + b) / 2 + m - s ≤ b := by split at b1 <;> omega
  refine ⟨k1, k2, k3, k4, fun h3 h4 => ?_, fun h3 h4 => ?_⟩
  · have := b3 (s - 1) (by split at b1 <;> split <;> omega) (by omega)
    rw [show (a + b) / 2 + m - 1 - (s - 1) = (a + b) / 2 + m - s by omega] at this
    simpa using this
  · have := b4 s (Nat.le_refl _) (by split <;> omega)
    rw [show (a + b) / 2 + m - 1 - s = (a + b) / 2 + m - s - 1 by omega] at this
    simpa using this

variable (lt) in
theorem symM_size (a m b : Nat) (d : Array α) : (symM lt a m b d).size = d.size := by
  unfold symM
  split
  · exact shu_size _ _ _
  split
  · exact shd_size _ _ _
  split
  · next h =>
    dsimp only
    have hr : ∀ q : Prop, ∀ _ : Decidable q, ∀ i j, (if q then rot m i j d else d).size = d.size := fun q _ i j => by split <;> simp [rot_size]
    split
    · rw [symM_size]; split
      · rw [symM_size]; exact hr _ _ _ _
      · exact hr _ _ _ _
    · split
      · rw [symM_size]; exact hr _ _ _ _
      · exact hr _ _ _ _
  · rfl
termination_by b - a
theorem sorted_cross {a mid b : Nat} {d : Array α} (h1 : SortedIn lt a mid d) (h2 : SortedIn lt mid b d) (hc : ∀ i j, a ≤ i → i < mid → mid ≤ j → j < b → lt d[j]! d[i]! = false) : SortedIn lt a b d := by
  intro i j hi hij hj
  by_cases e1 : j < mid
  · exact h1 i j hi hij e1
  · by_cases e2 : i < mid
    · exact hc i j hi e2 (by omega) hj
    · exact h2 i j (by omega) hij hj
theorem sorted_same {a b : Nat} {d d' : Array α} (h : SortedIn lt a b d) (he : ∀ k, a ≤ k → k < b → d'[k]! = d[k]!) : SortedIn lt a b d' := by
  intro i j hi hij hj
  rw [he i hi (by omega), he j (by omega) hj]
  exact h i j hi hij hj
theorem symM_holds (hS : SWO lt) (a m b : Nat) (d : Array α) (h1 : a < m) (h2 : m < b) (hb : b ≤ d.size) (hA : SortedIn lt a m d) (hB : SortedIn lt m b d) :
    PermIn a b d (symM lt a m b d) ∧ SortedIn lt a b (symM lt a m b d) := by
  unfold symM
  split
  · next h =>
    obtain rfl : m = a + 1 := by omega
    exact one_left hS hb h2 hB
  split
  · next h =>
    obtain rfl : b = m + 1 := by omega
    exact one_right hS hb h1 hA
  rw [dif_pos (by omega)]
  dsimp only
  obtain ⟨k1, k2, k3, k4, k5, k6⟩ := symS_spec hS (a := a) (m := m) (b := b) (d := d) (by omega) (by omega) hA hB
  generalize symS lt a m b d = s at *
  have hmid : a < (a + b) / 2 ∧ (a + b) / 2 < b := by omega
  generalize hmm : (a + b) / 2 = mid at *
  -- behind the rotation
  have g1 : ∃ d1, (if s < m ∧ m < mid + m - s then rot m (m - s) (mid + m - s - m) d else d) = d1 ∧ PermIn a b d d1 ∧ ∀ k, d1[k]! = if s ≤ k ∧ k < mid then d[k + (m - s)]! else if mid ≤ k ∧ k < mid + m - s then d[k - (mid - s)]! else d[k]! := by
    refine ⟨_, rfl, ?_, fun k => ?_⟩
    · split
      · exact rot_perm a b m _ _ d (by omega) (by omega) (by omega) hb
      · exact permIn_refl _ _ _
    · split
      · next hc =>
        rw [rot_get m (m - s) (mid + m - s - m) d (by omega) (by omega) (by omega) (by omega)]
        by_cases e1 : s ≤ k ∧ k < mid
        · rw [if_pos (by omega : m - (m - s) ≤ k ∧ k < m - (m - s) + (mid + m - s - m)), if_pos e1]
        · rw [if_neg (by omega : ¬ (m - (m - s) ≤ k ∧ k < m - (m - s) + (mid + m - s - m))), if_neg e1]
          by_cases e2 : mid ≤ k ∧ k < mid + m - s
          · rw [if_pos (by omega : m - (m - s) + (mid + m - s - m) ≤ k ∧ k < m + (mid + m - s - m)), if_pos e2]
            congr 1; omega
          · rw [if_neg (by omega : ¬ (m - (m - s) + (mid + m - s - m) ≤ k ∧ k < m + (mid + m - s - m))), if_neg e2]
      · next hc =>
        by_cases e1 : s ≤ k ∧ k < mid
        · rw [if_pos e1]; congr 1; omega
        · rw [if_neg e1]
          by_cases e2 : mid ≤ k ∧ k < mid + m - s
          · rw [if_pos e2]; congr 1; omega
          · rw [if_neg e2]
  obtain ⟨d1, hd1, p1, e1⟩ := g1
  rw [hd1]
  clear hd1
  have z1 : d1.size = d.size := p1.1
  have sL1 : SortedIn lt a s d1 := sorted_same (fun i j x y z => hA i j x y (by omega)) (fun k x y => by rw [e1, if_neg (by omega), if_neg (by omega)])
  have sL2 : SortedIn lt s mid d1 := by
    intro i j x y z
    rw [e1, e1, if_pos (by omega), if_pos (by omega)]
    exact hB _ _ (by omega) (by omega) (by omega)
  have sR1 : SortedIn lt mid (mid + m - s) d1 := by
    intro i j x y z
    rw [e1, e1, if_neg (by omega), if_pos (by omega), if_neg (by omega), if_pos (by omega)]
    exact hA _ _ (by omega) (by omega) (by omega)
  have sR2 : SortedIn lt (mid + m - s) b d1 := sorted_same (fun i j x y z => hB i j (by omega) y z) (fun k x y => by rw [e1, if_neg (by omega), if_neg (by omega)])
  have cross : ∀ i j, a ≤ i → i < mid → mid ≤ j → j < b → lt d1[j]! d1[i]! = false := by
    intro i j hi1 hi2 hj1 hj2
    by_cases c1 : i < s
    · have hv : d1[i]! = d[i]! := by rw [e1, if_neg (by omega), if_neg (by omega)]
      rw [hv]
      by_cases c2 : j < mid + m - s
      · have hw : d1[j]! = d[j - (mid - s)]! := by rw [e1, if_neg (by omega), if_pos (by omega)]
        rw [hw]
        exact le_of hS hA hi1 (by omega) (by omega)
      · have hw : d1[j]! = d[j]! := by rw [e1, if_neg (by omega), if_neg (by omega)]
        rw [hw]
        have t1 := le_of hS hB (by omega : m ≤ mid + m - s) (by omega : mid + m - s ≤ j) hj2
        have t2 := k5 (by omega) (by omega)
        have t3 := le_of hS hA hi1 (by omega : i ≤ s - 1) (by omega)
        exact hS.ntrans _ _ _ (hS.ntrans _ _ _ t1 t2) t3
    · have hv : d1[i]! = d[i + (m - s)]! := by rw [e1, if_pos (by omega)]
      rw [hv]
      by_cases c2 : j < mid + m - s
      · have hw : d1[j]! = d[j - (mid - s)]! := by rw [e1, if_neg (by omega), if_pos (by omega)]
        rw [hw]
        have t1 := le_of hS hA (by omega : a ≤ s) (by omega : s ≤ j - (mid - s)) (by omega)
        have t2 := hS.asymmA (k6 (by omega) (by omega))
        have t3 := le_of hS hB (by omega : m ≤ i + (m - s)) (by omega : i + (m - s) ≤ mid + m - s - 1) (by omega)
        exact hS.ntrans _ _ _ (hS.ntrans _ _ _ t1 t2) t3
      · have hw : d1[j]! = d[j]! := by rw [e1, if_neg (by omega), if_neg (by omega)]
        rw [hw]
        exact le_of hS hB (by omega) (by omega) hj2
  clear e1
  -- the left half
  have g2 : ∃ d2, (if a < s ∧ s < mid then symM lt a s mid d1 else d1) = d2 ∧ PermIn a mid d1 d2 ∧ SortedIn lt a mid d2 := by
    refine ⟨_, rfl, ?_⟩
    split
    · next hc => exact symM_holds hS a s mid d1 hc.1 hc.2 (by omega) sL1 sL2
    · next hc =>
      refine ⟨permIn_refl _ _ _, ?_⟩
      rcases (show s = a ∨ s = mid by omega) with rfl | rfl
      · exact sL2
      · exact sL1
  obtain ⟨d2, hd2, p2, s2⟩ := g2
  rw [hd2]
  clear hd2
  have z2 : d2.size = d1.size := p2.1
  have hR : ∀ k, mid ≤ k → d2[k]! = d1[k]! := fun k hk => p2.2.1 k (Or.inr hk)
  have sR1' := sorted_same sR1 (fun k x _ => hR k x)
  have sR2' := sorted_same sR2 (fun k x _ => hR k (by omega))
  -- the right half
  have g3 : ∃ d3, (if mid < mid + m - s ∧ mid + m - s < b then symM lt mid (mid + m - s) b d2 else d2) = d3 ∧ PermIn mid b d2 d3 ∧ SortedIn lt mid b d3 := by
    refine ⟨_, rfl, ?_⟩
    split
    · next hc => exact symM_holds hS mid (mid + m - s) b d2 hc.1 hc.2 (by omega) sR1' sR2'
    · next hc =>
      refine ⟨permIn_refl _ _ _, ?_⟩
      rcases (show mid + m - s = mid ∨ mid + m - s = b by omega) with h | h
      · rw [h] at sR2'; exact sR2'
      · rw [h] at sR1'; exact sR1'
  obtain ⟨d3, hd3, p3, s3⟩ := g3
  rw [hd3]
  refine ⟨?_, ?_⟩
  · exact permIn_trans _ _ _ _ _ p1 (permIn_trans _ _ _ _ _ (permIn_mono _ _ a mid a b (Nat.le_refl _) (by omega) (by omega) p2) (permIn_mono _ _ mid b a b (by omega) (Nat.le_refl _) (by omega) p3))
  · have hL : ∀ k, k < mid → d3[k]! = d2[k]! := fun k hk => p3.2.1 k (Or.inl hk)
    refine sorted_cross (sorted_same s2 (fun k _ y => hL k y)) s3 ?_
    -- the halves lie one behind the other
    have c2 : ∀ i, a ≤ i → i < mid → ∀ j, mid ≤ j → j < b → lt d1[j]! d2[i]! = false := by
      intro i hi hi2 j hj hj2
      exact permIn_all d1 d2 a mid (fun x => lt d1[j]! x = false) (by omega) p2 (fun k hk1 hk2 => cross k j hk1 hk2 hj hj2) i hi hi2
    intro i j hi hi2 hj hj2
    rw [hL i hi2]
    refine permIn_all d2 d3 mid b (fun x => lt x d2[i]! = false) (by omega) p3 (fun k hk1 hk2 => ?_) j hj hj2
    rw [hR k hk1]
    exact c2 i hi hi2 k hk1 hk2
termination_by b - a

/-! ### stable: blocks of s elements -/
theorem div_at {i c s : Nat} (h1 : c * s ≤ i) (h2 : i < c * s + s) : i / s = c :=
  Nat.div_eq_of_lt_le h1 (by rw [Nat.add_mul, Nat.one_mul]; exact h2)
theorem div_lt_at {i c s : Nat} (hs : 0 < s) (h : i < c * s) : i / s < c := (Nat.div_lt_iff_lt_mul hs).2 h
theorem div_ge_at {i c s : Nat} (hs : 0 < s) (h : c * s ≤ i) : c ≤ i / s := (Nat.le_div_iff_mul_le hs).2 h
variable (lt) in
/-- the pairs of one block of s, below a, are in order -/
def Blk (s a : Nat) (d : Array α) : Prop := ∀ i j, i < j → j < a → i / s = j / s → lt d[j]! d[i]! = false
variable (lt) in
/-- below A in blocks of 2 s, from there on in blocks of s -/
def Two (s A n : Nat) (d : Array α) : Prop := (∀ i j, i < j → j < A → i / (2 * s) = j / (2 * s) → lt d[j]! d[i]! = false) ∧ (∀ i j, A ≤ i → i < j → j < n → i / s = j / s → lt d[j]! d[i]! = false)
theorem blk_zero (s : Nat) (d : Array α) : Blk lt s 0 d := fun i j _ h => by omega
theorem blk_step {s t c : Nat} {d d' : Array α} (hs : 0 < s) (h : Blk lt s (t * s) d) (hp : PermIn (t * s) c d d') (ho : SortedIn lt (t * s) c d') : Blk lt s c d' := by
  intro i j hij hj he
  by_cases h1 : t * s ≤ i
  · exact ho i j h1 hij hj
  · by_cases h2 : t * s ≤ j
    · have e1 := div_lt_at hs (show i < t * s by omega)
      have e2 := div_ge_at hs h2
      omega
    · rw [hp.2.1 i (Or.inl (by omega)), hp.2.1 j (Or.inl (by omega))]
      exact h i j hij (by omega) he
theorem two_start {s n : Nat} {d : Array α} (h : Blk lt s n d) : Two lt s 0 n d := ⟨fun i j _ h => by omega, fun i j _ hij hj he => h i j hij hj he⟩
theorem two_step {s t n c : Nat} {d d' : Array α} (hs : 0 < s) (h : Two lt s (t * (2 * s)) n d) (hp : PermIn (t * (2 * s)) c d d') (ho : SortedIn lt (t * (2 * s)) c d') (hc : t * (2 * s) ≤ c) : Two lt s c n d' := by
  refine ⟨fun i j hij hj he => ?_, fun i j hi hij hj he => ?_⟩
  · by_cases h1 : t * (2 * s) ≤ i
    · exact ho i j h1 hij hj
    · by_cases h2 : t * (2 * s) ≤ j
      · have e1 := div_lt_at (s := 2 * s) (by omega) (show i < t * (2 * s) by omega)
        have e2 := div_ge_at (s := 2 * s) (by omega) h2
        omega
      · rw [hp.2.1 i (Or.inl (by omega)), hp.2.1 j (Or.inl (by omega))]
        exact h.1 i j hij (by omega) he
  · rw [hp.2.1 i (Or.inr (by omega)), hp.2.1 j (Or.inr (by omega))]
    exact h.2 i j (by omega) hij hj he
theorem two_left {s t n : Nat} {d : Array α} (h : Two lt s (t * (2 * s)) n d) (hn : t * (2 * s) + s ≤ n) : SortedIn lt (t * (2 * s)) (t * (2 * s) + s) d := by
  intro i j hi hij hj
  have e : t * (2 * s) = (2 * t) * s := by rw [Nat.mul_left_comm, Nat.mul_assoc]
  refine h.2 i j hi hij (by omega) ?_
  rw [div_at (c := 2 * t) (s := s) (by omega) (by omega), div_at (c := 2 * t) (s := s) (by omega) (by omega)]
theorem two_right {s t n c : Nat} {d : Array α} (h : Two lt s (t * (2 * s)) n d) (hn : c ≤ n) (hc : c ≤ t * (2 * s) + s + s) : SortedIn lt (t * (2 * s) + s) c d := by
  intro i j hi hij hj
  have e : t * (2 * s) = (2 * t) * s := by rw [Nat.mul_left_comm, Nat.mul_assoc]
  have e2 : (2 * t + 1) * s = (2 * t) * s + s := by rw [Nat.add_mul, Nat.one_mul]
  refine h.2 i j (by omega) hij (by omega) ?_
  rw [div_at (c := 2 * t + 1) (s := s) (by omega) (by omega), div_at (c := 2 * t + 1) (s := s) (by omega) (by omega)]
theorem two_end {s n : Nat} {d : Array α} (h : Two lt s n n d) : Blk lt (2 * s) n d := h.1
theorem two_short {s t n : Nat} {d : Array α} (hs : 0 < s) (h : Two lt s (t * (2 * s)) n d) (hn : n ≤ t * (2 * s) + s) : Blk lt (2 * s) n d := by
  intro i j hij hj he
  by_cases h1 : t * (2 * s) ≤ i
  · have e : t * (2 * s) = (2 * t) * s := by rw [Nat.mul_left_comm, Nat.mul_assoc]
    refine h.2 i j h1 hij hj ?_
    rw [div_at (c := 2 * t) (s := s) (by omega) (by omega), div_at (c := 2 * t) (s := s) (by omega) (by omega)]
  · by_cases h2 : t * (2 * s) ≤ j
    · have e1 := div_lt_at (s := 2 * s) (by omega) (show i < t * (2 * s) by omega)
      have e2 := div_ge_at (s := 2 * s) (by omega) h2
      omega
    · exact h.1 i j hij (by omega) he
theorem blk_end {s n : Nat} {d : Array α} (h : Blk lt s n d) (hn : n ≤ s) : SortedIn lt 0 n d := by
  intro i j _ hij hj
  refine h i j hij hj ?_
  rw [Nat.div_eq_of_lt (by omega), Nat.div_eq_of_lt (by omega)]
end Go.SymP
