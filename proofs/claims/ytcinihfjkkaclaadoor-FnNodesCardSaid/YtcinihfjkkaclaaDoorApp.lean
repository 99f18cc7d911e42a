/- append: whatever is appended, nil too. -/
import Derived.Test.YtcinihfjkkaclaaDoorPutA
namespace Go.Proofs.YtcinihfjkkaclaaDoor
open Go.RowKit

theorem wpList_append_any {P : Program} {w : World} {ops : Array Oper} {rest : List Oper} {o : Oper} {a : Act} {Q : Exit → Act → World → Prop} (hgd : o.guard = none) (s x : Operand) (t : TypeId)
    (ho : o.op = .call { callee := .builtin .append, args := #[s, x], argTypes := #[t, t] })
    (base : Nat) (e : TypeId) (i : TypeInfo) (z : Value) (size bytes : Nat) (ht : P.underlying t = some (.slice e)) (hi : P.info? e = some i) (hz : i.zero = some z)
    (hsize : i.size = size) (hby : i.bytes = bytes) (hzs : z.cells.size = size) (hsz : 0 < size)
    (v : Value) (n : Nat) (xs : List Value) (hs : a.eval s = v) (hown : w.ownsRow base e size v n xs)
    (r : Value) (m : Nat) (news : List Value) (hx : a.eval x = r) (hr : Row w size r m news) (hsol : Solid r) (h1 : ∀ u ∈ news, u.oneCell' = true)
    (h63 : n + m ≤ maxLen) (hbytes : (n + m) * bytes ≤ 140737488355328) (hbase : base ≤ w.heap.size)
    (h : ∀ v' w', w'.ownsRow base e size v' (n + m) (xs ++ news) → w.grownBy w' v.ownBlock → wpList P ops Q rest (a.put o.dst v') w') : wpList P ops Q (o :: rest) a w := by
  obtain ⟨hl, a0, c0, hv, hc, hm, hcase⟩ := hr
  rcases hsol with hv2 | ⟨b, o', n', c', hv2⟩
  · rw [hv2] at hv hx
    injection hv with e1 e2 e3
    subst e2
    have hnil : news = [] := List.eq_nil_of_length_eq_zero (by omega)
    subst hnil
    refine wpList_append_own_none hgd s x t ho base e i size ht hi v n xs hs hown hx ?_
    exact h v w (by simpa using hown) ⟨rfl, rfl, rfl, Nat.le_refl _, fun _ _ _ => rfl⟩
  · rw [hv2] at hv hx
    injection hv with e1 e2 e3
    subst e1 e2 e3
    have hnews : ∀ j u, news[j]? = some u → w.cell? ⟨b, o' + j, none⟩ = some u := by
      rcases hcase with h0 | ⟨b1, o1, he, hb1, g1⟩
      · subst h0
        have hnil : news = [] := List.eq_nil_of_length_eq_zero (by omega)
        subst hnil
        intro j u hj
        simp at hj
      · simp only [Option.some.injEq, Addr.mk.injEq, and_true] at he
        obtain ⟨rfl, rfl⟩ := he
        exact g1
    refine wpList_append_own w hgd s x t ho base e i z size bytes ht hi hz hsize hby hzs hsz v n xs hs hown ⟨b, o', none⟩ _ _ news hx hl (cells_news hnews) h1 h63 hbytes hbase ?_
    intro v' w' h2 h3 _
    exact h v' w' h2 h3
end Go.Proofs.YtcinihfjkkaclaaDoor
