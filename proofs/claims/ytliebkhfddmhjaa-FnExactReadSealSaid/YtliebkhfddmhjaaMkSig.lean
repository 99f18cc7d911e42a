/- The marks of signatures and of signed heads. -/
import Derived.Test.YtliebkhfddmhjaaMarkS
import Derived.Test.YtliebkhfddmhjaaSgO
import Derived.Test.YtliebkhfddmhjaaCore
import Derived.Test.YtliebkhfddmhjaaStrA
import Derived.Deep.AppendLies
namespace Go.Proofs.Ytliebkhfddmhjaa
open Go.RowKit

/-- what marking a signature does to the world -/
def Marked (w w' : World) (v1 v2 v3 : Value) : Prop := ∃ wa wb wc, Ext w wa ∧ wa.grownBy wb v1.ownBlock ∧ wb.grownBy wc v2.ownBlock ∧ wc.grownBy w' v3.ownBlock
theorem Marked.ext {w w' W : World} {v1 v2 v3 : Value} {s : SigV} (h : Marked w w' v1 v2 v3) (base : Nat) (o : SigOwn w base v1 v2 v3 s) (hW : Ext W w) (hb : W.heap.size ≤ base) : Ext W w' := by
  obtain ⟨wa, wb, wc, xa, ga, gb, gc⟩ := h
  exact (((hW.trans xa).grown ga (fun k hk => Nat.le_trans hb (own_lt o.1 k hk).1)).grown gb (fun k hk => Nat.le_trans hb (own_lt o.2.1 k hk).1)).grown gc (fun k hk => Nat.le_trans hb (own_lt o.2.2.1 k hk).1)
theorem Marked.bx {w w' : World} {v1 v2 v3 : Value} {b : Nat} {cs : List Value} (h : Marked w w' v1 v2 v3) (P : Bx w b cs) (h1 : ∀ k, v1.ownBlock = some k → k ≠ b) (h2 : ∀ k, v2.ownBlock = some k → k ≠ b) (h3 : ∀ k, v3.ownBlock = some k → k ≠ b) : Bx w' b cs := by
  obtain ⟨wa, wb, wc, xa, ga, gb, gc⟩ := h
  exact (((P.ext xa).grew ga (fun e => h1 _ e rfl)).grew gb (fun e => h2 _ e rfl)).grew gc (fun e => h3 _ e rfl)
set_option maxHeartbeats 1600000 in
theorem laws_markSig (v1 v2 v3 : Value) (s : SigV) (k : Int) (base : Nat) (w : World) (h : SigOwn w base v1 v2 v3 s) (hk : 1 ≤ k ∧ k + s.op.length + s.sh.length + s.si.length ≤ 1099511627776) :
    Calls Try.prog 30 #[.agg #[.int .i64 s.at_, v1, v2, v3], .int .i64 k] w fun e w' => e = .returned (.int .i64 (k + s.op.length + s.sh.length + s.si.length)) ∧ OwnStrs w' base v1 (marksS s.op.length k) ∧ OwnStrs w' base v2 (marksS s.sh.length (k + s.op.length)) ∧ OwnStrs w' base v3 (marksS s.si.length (k + s.op.length + s.sh.length)) ∧ Marked w w' v1 v2 v3 := by
  obtain ⟨o1, o2, o3, f12, f13, f23⟩ := h
  obtain ⟨a1, c1, rfl⟩ := own_any o1
  obtain ⟨a2, c2, rfl⟩ := own_any o2
  obtain ⟨a3, c3, rfl⟩ := own_any o3
  have e0 : Ext w (w.alloc (Obj.cells #[.int .i64 s.at_, .slice a1 s.op.length c1, .slice a2 s.sh.length c2, .slice a3 s.si.length c3] 26)) := (Ext.refl w).alloc _
  have P := Bx.new w #[.int .i64 s.at_, .slice a1 s.op.length c1, .slice a2 s.sh.length c2, .slice a3 s.si.length c3] 26
  have l1 := fun k e => (own_lt o1 k e).2
  have l2 := fun k e => (own_lt o2 k e).2
  have l3 := fun k e => (own_lt o3 k e).2
  have L1 := Lib.hid l1
  have L2 := Lib.hid l2
  have L3 := Lib.hid l3
  have H1 := Lib.hid (o1.ext e0)
  have H2 := Lib.hid (o2.ext e0)
  have H3 := Lib.hid (o3.ext e0)
  have F12 := Lib.hid f12
  have F13 := Lib.hid f13
  have F23 := Lib.hid f23
  have E0 := Lib.hid e0
  clear o1 o2 o3 f12 f13 f23 l1 l2 l3 e0
  have p1 := P.2.1 1 _ rfl
  go_enter Try.func30, Try.ntmps30
  go_wp2_with fail
  generalize w.alloc (Obj.cells #[.int .i64 s.at_, .slice a1 s.op.length c1, .slice a2 s.sh.length c2, .slice a3 s.si.length c3] 26) = W0 at *
  refine (laws_markStringS _ s.op k base _ H1.out (by omega)).mono ?_
  rintro e w1 ⟨rfl, m1, g1⟩
  replace P := P.grew g1 (fun e => by have := L1.out _ e; omega)
  replace H2 := Lib.hid (own_grown2 H2.out g1 (fun k hk hv => F12.out k hk hv))
  replace H3 := Lib.hid (own_grown2 H3.out g1 (fun k hk hv => F13.out k hk hv))
  have M1 := Lib.hid m1
  have G1 := Lib.hid g1
  clear m1 g1 p1
  have p2 := P.2.1 2 _ rfl
  go_wp2_with fail
  refine (laws_markStringS _ s.sh (k + s.op.length) base _ H2.out (by omega)).mono ?_
  rintro e w2 ⟨rfl, m2, g2⟩
  replace P := P.grew g2 (fun e => by have := L2.out _ e; omega)
  replace H3 := Lib.hid (own_grown2 H3.out g2 (fun k hk hv => F23.out k hk hv))
  replace M1 := Lib.hid (own_grown2 M1.out g2 (fun k hk hv => F12.out k hv hk))
  have M2 := Lib.hid m2
  have G2 := Lib.hid g2
  clear m2 g2 p2
  have p3 := P.2.1 3 _ rfl
  go_wp2_with fail
  refine (laws_markStringS _ s.si (k + s.op.length + s.sh.length) base _ H3.out (by omega)).mono ?_
  rintro e w3 ⟨rfl, m3, g3⟩
  replace M1 := Lib.hid (own_grown2 M1.out g3 (fun k hk hv => F13.out k hv hk))
  replace M2 := Lib.hid (own_grown2 M2.out g3 (fun k hk hv => F23.out k hv hk))
  have M3 := Lib.hid m3
  have G3 := Lib.hid g3
  clear m3 g3 p3
  go_wp2
  go_ret
  exact ⟨rfl, M1.out, M2.out, M3.out, W0, w1, w2, E0.out, G1.out, G2.out, G3.out⟩
set_option maxHeartbeats 800000 in
theorem laws_heldSig (v1 v2 v3 : Value) (z : Int) (n1 n2 n3 : Nat) (k : Int) (w : World) (h1 : Strs w v1 (marksS n1 k)) (h2 : Strs w v2 (marksS n2 (k + n1))) (h3 : Strs w v3 (marksS n3 (k + n1 + n2))) (hk : 1 ≤ k ∧ k + n1 + n2 + n3 ≤ 1099511627776) :
    Calls Try.prog 31 #[.agg #[.int .i64 z, v1, v2, v3], .int .i64 k] w fun e w' => e = .returned (.int .i64 (k + n1 + n2 + n3)) ∧ Ext w w' := by
  obtain ⟨a1, c1, hv1⟩ := h1.form
  obtain ⟨a2, c2, hv2⟩ := h2.form
  obtain ⟨a3, c3, hv3⟩ := h3.form
  rw [marksS_length] at hv1 hv2 hv3
  subst hv1 hv2 hv3
  have q1 : ¬ (k + (n1 : Int) < 0) := by omega
  have q2 : ¬ (k + (n1 : Int) + n2 < 0) := by omega
  have q3 : ¬ (k + (n1 : Int) + n2 + n3 < 0) := by omega
  have e0 : Ext w (w.alloc (Obj.cells #[.int .i64 z, .slice a1 n1 c1, .slice a2 n2 c2, .slice a3 n3 c3] 26)) := (Ext.refl w).alloc _
  have P := Bx.new w #[.int .i64 z, .slice a1 n1 c1, .slice a2 n2 c2, .slice a3 n3 c3] 26
  have H1 := Lib.hid (h1.ext e0)
  have H2 := Lib.hid (h2.ext e0)
  have H3 := Lib.hid (h3.ext e0)
  have X := e0
  clear h1 h2 h3 e0
  go_enter Try.func31, Try.ntmps31
  go_wp2_with fail
  generalize w.alloc (Obj.cells #[.int .i64 z, .slice a1 n1 c1, .slice a2 n2 c2, .slice a3 n3 c3] 26) = W0 at *
  refine (laws_heldStringS _ n1 k _ H1.out (by omega)).mono ?_
  rintro e w1 ⟨rfl, x1⟩
  replace P := P.ext x1
  replace H2 := Lib.hid (H2.out.ext x1)
  replace H3 := Lib.hid (H3.out.ext x1)
  replace X := X.trans x1
  have p2 := P.2.1 2 _ rfl
  go_wp2_with fail
  refine (laws_heldStringS _ n2 (k + n1) _ H2.out (by omega)).mono ?_
  rintro e w2 ⟨rfl, x2⟩
  replace P := P.ext x2
  replace H3 := Lib.hid (H3.out.ext x2)
  replace X := X.trans x2
  clear p2
  have p3 := P.2.1 3 _ rfl
  go_wp2_with fail
  refine (laws_heldStringS _ n3 (k + n1 + n2) _ H3.out (by omega)).mono ?_
  rintro e w3 ⟨rfl, x3⟩
  go_wp2
  go_ret
  exact ⟨rfl, X.trans x3⟩
end Go.Proofs.Ytliebkhfddmhjaa
