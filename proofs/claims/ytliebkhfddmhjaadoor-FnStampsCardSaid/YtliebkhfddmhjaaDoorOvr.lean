/- Rows that lie above a block: what is stored below them leaves them. The sameness of two signatures. -/
import Derived.Test.YtliebkhfddmhjaaDoorSgO
namespace Go.Proofs.YtliebkhfddmhjaaDoor
open Go.RowKit

theorem own_forms2 {w : World} {base : Nat} {e : TypeId} {size n : Nat} {v : Value} {xs : List Value} (h : w.ownsRow base e size v n xs) : (v = .slice none 0 0 ∧ n = 0) ∨ ∃ g cap, v = .slice (some ⟨g, 0, none⟩) n cap := by
  rcases h.2 with ⟨h1, h2⟩ | ⟨g, cap, -, hv, -⟩
  · exact Or.inl ⟨h1, h2⟩
  · exact Or.inr ⟨g, cap, hv⟩
def Over (b : Nat) (v : Value) : Prop := ∀ g o n c, v = .slice (some ⟨g, o, none⟩) n c → b ≤ g
theorem Over.mono {b b' : Nat} {v : Value} (h : Over b v) (hb : b' ≤ b) : Over b' v := fun g o n c e => Nat.le_trans hb (h g o n c e)
theorem over_own {w : World} {base : Nat} {e : TypeId} {size n : Nat} {v : Value} {xs : List Value} (h : w.ownsRow base e size v n xs) : Over base v := by
  intro g o k c he
  rcases own_forms2 h with ⟨h1, -⟩ | ⟨g2, c2, h2⟩
  · rw [h1] at he; cases he
  · rw [h2] at he
    injection he with e1 e2 e3
    injection e1 with e1
    injection e1 with e1 e4
    subst e1
    rw [h2] at h
    exact (own_lt h g2 rfl).1
theorem over_at {b g o n c : Nat} (h : b ≤ g) : Over b (.slice (some ⟨g, o, none⟩) n c) := by
  intro g2 o2 k c2 he
  injection he with e1 e2 e3
  injection e1 with e1
  injection e1 with e1 e4
  omega
theorem strs_under {w : World} {b c : Nat} {v : Value} {xs : List ByteArray} (h : Strs w v xs) (ho : Over b v) (hc : c < b) (o : Nat) (u : Value) : Strs (w.setCell ⟨c, o, none⟩ u) v xs := by
  obtain ⟨h0, a1, c1, hv, hc1, hm, hg⟩ := h
  refine ⟨h0, a1, c1, hv, hc1, hm, ?_⟩
  rcases hg with h0 | ⟨g, o2, ha, hb, hg⟩
  · exact Or.inl h0
  · subst ha
    have hbg := ho g o2 _ _ hv
    exact Or.inr ⟨g, o2, rfl, by rw [World.size_setCell]; exact hb, fun j u2 hu => by rw [World.cell?_setCell_other _ _ _ _ (fun e => by have := congrArg Addr.block e; dsimp only at this; omega)]; exact hg j u2 hu⟩
def SigRd (w : World) (b : Nat) (v1 v2 v3 : Value) (s : SigV) : Prop := (Strs w v1 s.op ∧ Over b v1) ∧ (Strs w v2 s.sh ∧ Over b v2) ∧ (Strs w v3 s.si ∧ Over b v3)
theorem SigRd.ext {w w' : World} {b : Nat} {v1 v2 v3 : Value} {s : SigV} (h : SigRd w b v1 v2 v3 s) (hx : Ext w w') : SigRd w' b v1 v2 v3 s := ⟨⟨h.1.1.ext hx, h.1.2⟩, ⟨h.2.1.1.ext hx, h.2.1.2⟩, ⟨h.2.2.1.ext hx, h.2.2.2⟩⟩
theorem SigRd.mono {w : World} {b b' : Nat} {v1 v2 v3 : Value} {s : SigV} (h : SigRd w b v1 v2 v3 s) (hb : b' ≤ b) : SigRd w b' v1 v2 v3 s := ⟨⟨h.1.1, h.1.2.mono hb⟩, ⟨h.2.1.1, h.2.1.2.mono hb⟩, ⟨h.2.2.1, h.2.2.2.mono hb⟩⟩
theorem SigRd.set {w : World} {b c : Nat} {v1 v2 v3 : Value} {s : SigV} (h : SigRd w b v1 v2 v3 s) (hc : c < b) (o : Nat) (u : Value) : SigRd (w.setCell ⟨c, o, none⟩ u) b v1 v2 v3 s := ⟨⟨strs_under h.1.1 h.1.2 hc o u, h.1.2⟩, ⟨strs_under h.2.1.1 h.2.1.2 hc o u, h.2.1.2⟩, ⟨strs_under h.2.2.1 h.2.2.2 hc o u, h.2.2.2⟩⟩
theorem sigRd_of {w : World} {b : Nat} {v1 v2 v3 : Value} {s : SigV} (h : SigOwn w b v1 v2 v3 s) : SigRd w b v1 v2 v3 s := ⟨⟨h.1.strs, over_own h.1⟩, ⟨h.2.1.strs, over_own h.2.1⟩, ⟨h.2.2.1.strs, over_own h.2.2.1⟩⟩
end Go.Proofs.YtliebkhfddmhjaaDoor
