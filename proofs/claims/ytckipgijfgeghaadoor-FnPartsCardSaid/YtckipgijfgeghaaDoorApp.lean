/- append: whatever is appended, nil too. -/
import Derived.Test.YtckipgijfgeghaaDoorSol
import Derived.Test.YtckipgijfgeghaaDoorStrA
import Derived.Test.YtckipgijfgeghaaDoorCore
import Derived.Maps.AppendAt
import Derived.Deep.AppendLies
namespace Go.Proofs.YtckipgijfgeghaaDoor
open Go.RowKit

theorem wpList_append_any {P : Program} {w : World} {ops : Array Oper} {rest : List Oper} {o : Oper} {a : Act} {Q : Exit → Act → World → Prop} (hgd : o.guard = none) (s x : Operand) (t : TypeId)
    (ho : o.op = .call { callee := .builtin .append, args := #[s, x], argTypes := #[t, t] })
    (base : Nat) (e : TypeId) (i : TypeInfo) (z : Value) (size bytes : Nat) (ht : P.underlying t = some (.slice e)) (hi : P.info? e = some i) (hz : i.zero = some z)
    (hsize : i.size = size) (hby : i.bytes = bytes) (hzs : z.cells.size = size) (hsz : 0 < size)
    (v : Value) (n : Nat) (xs : List Value) (hs : a.eval s = v) (hown : w.ownsRow base e size v n xs)
    (r : Value) (m : Nat) (news : List Value) (hx : a.eval x = r) (hr : Row w size r m news) (hsol : Solid r) (h1 : ∀ u ∈ news, u.oneCell' = true)
    (h63 : n + m ≤ maxLen) (hbytes : (n + m) * bytes ≤ 140737488355328) (hbase : base ≤ w.heap.size)
    (h : ∀ v' w', w'.ownsRow base e size v' (n + m) (xs ++ news) → w.grownBy w' v.ownBlock → wpList P ops Q rest (a.put o.dst v') w') : wpList P ops Q (o :: rest) a w := by
  obtain ⟨hl, a0, c0, hv, hc, hm, hcase⟩ := hr
  rcases hsol with hv2 | ⟨b, o', n', c', hv2⟩
  · rw [hv2] at hv hx
    injection hv with e1 e2 e3
    subst e2
    have hnil : news = [] := List.eq_nil_of_length_eq_zero (by omega)
    subst hnil
    refine wpList_append_own_none hgd s x t ho base e i size ht hi v n xs hs hown hx ?_
    exact h v w (by simpa using hown) ⟨rfl, rfl, rfl, Nat.le_refl _, fun _ _ _ => rfl⟩
  · rw [hv2] at hv hx
    injection hv with e1 e2 e3
    subst e1 e2 e3
    have hnews : ∀ j u, news[j]? = some u → w.cell? ⟨b, o' + j, none⟩ = some u := by
      rcases hcase with h0 | ⟨b1, o1, he, hb1, g1⟩
      · subst h0
        have hnil : news = [] := List.eq_nil_of_length_eq_zero (by omega)
        subst hnil
        intro j u hj
        simp at hj
      · simp only [Option.some.injEq, Addr.mk.injEq, and_true] at he
        obtain ⟨rfl, rfl⟩ := he
        exact g1
    refine wpList_append_own w hgd s x t ho base e i z size bytes ht hi hz hsize hby hzs hsz v n xs hs hown ⟨b, o', none⟩ _ _ news hx hl (cells_news hnews) h1 h63 hbytes hbase ?_
    intro v' w' h2 h3 _
    exact h v' w' h2 h3
/-- one operation, append: whatever is appended -/
theorem wp_append_any {P : Program} {w : World} {o : Oper} {a : Act} {K : Act → World → Prop} {Q : Exit → Act → World → Prop} (s x : Operand) (t : TypeId)
    (ho : o.op = .call { callee := .builtin .append, args := #[s, x], argTypes := #[t, t] })
    (base : Nat) (e : TypeId) (i : TypeInfo) (z : Value) (size bytes : Nat) (ht : P.underlying t = some (.slice e)) (hi : P.info? e = some i) (hz : i.zero = some z)
    (hsize : i.size = size) (hby : i.bytes = bytes) (hzs : z.cells.size = size) (hsz : 0 < size)
    (v : Value) (n : Nat) (xs : List Value) (hs : a.eval s = v) (hown : w.ownsRow base e size v n xs)
    (r : Value) (m : Nat) (news : List Value) (hx : a.eval x = r) (hr : Row w size r m news) (hsol : Solid r) (h1 : ∀ u ∈ news, u.oneCell' = true)
    (h63 : n + m ≤ maxLen) (hbytes : (n + m) * bytes ≤ 140737488355328) (hbase : base ≤ w.heap.size)
    (h : ∀ a' c' w', w'.ownsRow base e size (.slice a' (n + m) c') (n + m) (xs ++ news) → w.grownBy w' v.ownBlock → ((Value.slice a' (n + m) c').ownBlock = v.ownBlock ∨ (Value.slice a' (n + m) c').ownBlock = some w.heap.size) → K (a.put o.dst (.slice a' (n + m) c')) w') : o.wp P a w K Q := by
  obtain ⟨hl, a0, c0, hv, hc, hm, hcase⟩ := hr
  rcases hsol with hv2 | ⟨b, o', n', c', hv2⟩
  · rw [hv2] at hv hx
    injection hv with e1 e2 e3
    subst e2
    have hnil : news = [] := List.eq_nil_of_length_eq_zero (by omega)
    subst hnil
    obtain ⟨va, vc, rfl⟩ := own_any hown
    have hr := run_append_owned_none (P := P) (w := w) base t o.type e i size ht hi _ n xs hown
    unfold Oper.wp execOp
    simp only [ho, resolve, invoke, builtin, Sem.run_bind, Sem.run_pure, Result.andThen_ok, List.map_toArray, List.map_cons, List.map_nil, hs, hx, hr]
    exact h va vc w (by simpa using hown) ⟨rfl, rfl, rfl, Nat.le_refl _, fun _ _ _ => rfl⟩ (Or.inl rfl)
  · rw [hv2] at hv hx
    injection hv with e1 e2 e3
    subst e1 e2 e3
    have hnews : ∀ j u, news[j]? = some u → w.cell? ⟨b, o' + j, none⟩ = some u := by
      rcases hcase with h0 | ⟨b1, o1, he, hb1, g1⟩
      · subst h0
        have hnil : news = [] := List.eq_nil_of_length_eq_zero (by omega)
        subst hnil
        intro j u hj
        simp at hj
      · simp only [Option.some.injEq, Addr.mk.injEq, and_true] at he
        obtain ⟨rfl, rfl⟩ := he
        exact g1
    obtain ⟨v', w', hr, h2, h3, _, h5⟩ := run_append_own_at (P := P) w base t o.type e i z size bytes ht hi hz hsize hby hzs hsz v n xs hown ⟨b, o', none⟩ n' c' news hl (cells_news hnews) h1 h63 hbytes hbase
    obtain ⟨va, vc, rfl⟩ := own_any h2
    unfold Oper.wp execOp
    simp only [ho, resolve, invoke, builtin, Sem.run_bind, Sem.run_pure, Result.andThen_ok, List.map_toArray, List.map_cons, List.map_nil, hs, hx, hr]
    exact h va vc w' h2 h3 h5
/-- the same, at a step of a region that draws its order -/
theorem step_append_any {P : Program} {w : World} {ops : Array Oper} {o : Oper} {a : Act} {K : Act → World → Prop} {Q : Exit → Act → World → Prop} {E : Prop} (s x : Operand) (t : TypeId)
    (ho : o.op = .call { callee := .builtin .append, args := #[s, x], argTypes := #[t, t] }) (hw : Region.wanted o (yielded ops a.tmps) = true)
    (base : Nat) (e : TypeId) (i : TypeInfo) (z : Value) (size bytes : Nat) (ht : P.underlying t = some (.slice e)) (hi : P.info? e = some i) (hz : i.zero = some z)
    (hsize : i.size = size) (hby : i.bytes = bytes) (hzs : z.cells.size = size) (hsz : 0 < size)
    (v : Value) (n : Nat) (xs : List Value) (hs : a.eval s = v) (hown : w.ownsRow base e size v n xs)
    (r : Value) (m : Nat) (news : List Value) (hx : a.eval x = r) (hr : Row w size r m news) (hsol : Solid r) (h1 : ∀ u ∈ news, u.oneCell' = true)
    (h63 : n + m ≤ maxLen) (hbytes : (n + m) * bytes ≤ 140737488355328) (hbase : base ≤ w.heap.size)
    (h : ∀ a' c' w', w'.ownsRow base e size (.slice a' (n + m) c') (n + m) (xs ++ news) → w.grownBy w' v.ownBlock → ((Value.slice a' (n + m) c').ownBlock = v.ownBlock ∨ (Value.slice a' (n + m) c').ownBlock = some w.heap.size) → K (a.put o.dst (.slice a' (n + m) c')) w') :
    if Region.wanted o (yielded ops a.tmps) = true then Oper.wp P o a w K Q else E := by
  rw [if_pos hw]
  exact wp_append_any s x t ho base e i z size bytes ht hi hz hsize hby hzs hsz v n xs hs hown r m news hx hr hsol h1 h63 hbytes hbase h
theorem Bx.grown {W W' : World} {b : Nat} {cs : List Value} (h : Bx W b cs) {row : Option Nat} (hg : W.grownBy W' row) (hr : row ≠ some b) : Bx W' b cs := by
  have hne : ∀ o, some (⟨b, o, none⟩ : Addr).block ≠ row := fun o e => hr e.symm
  exact ⟨Nat.lt_of_lt_of_le h.1 hg.size, fun j v hj => (hg.cell_far _ h.1 (hne j)).trans (h.2.1 j v hj), fun j => (hg.frozen_far _ h.1 (hne j)).trans (h.2.2 j)⟩
/-- a box, as a row of one or more elements -/
theorem Bx.row {W : World} {b m n c : Nat} {cs : List Value} (h : Bx W b cs) (hl : cs.length = m * n) (hc : m ≤ c) (hm : c ≤ maxLen) : Row W n (.slice (some ⟨b, 0, none⟩) m c) m cs :=
  ⟨hl, some ⟨b, 0, none⟩, c, rfl, hc, hm, Or.inr ⟨b, 0, rfl, h.1, fun j u hj => by rw [Nat.zero_add]; exact h.2.1 j u hj⟩⟩
theorem solid_some (b o n c : Nat) : Solid (.slice (some ⟨b, o, none⟩) n c) := Or.inr ⟨b, o, n, c, rfl⟩
end Go.Proofs.YtckipgijfgeghaaDoor
