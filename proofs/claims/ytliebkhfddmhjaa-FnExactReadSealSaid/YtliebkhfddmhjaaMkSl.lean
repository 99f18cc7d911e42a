/- The marks of signed heads. -/
import Derived.Test.YtliebkhfddmhjaaMkSig
namespace Go.Proofs.Ytliebkhfddmhjaa
open Go.RowKit

theorem Marked.pre {u w w' : World} {v1 v2 v3 : Value} (hx : Ext u w) (h : Marked w w' v1 v2 v3) : Marked u w' v1 v2 v3 := by
  obtain ⟨wa, wb, wc, xa, r⟩ := h
  exact ⟨wa, wb, wc, hx.trans xa, r⟩
set_option maxHeartbeats 1600000 in
theorem laws_markSeal (hh ep : Int) (r p : ByteArray) (v1 v2 v3 : Value) (s : SigV) (k : Int) (base : Nat) (w : World) (h : SigOwn w base v1 v2 v3 s) (hk : 1 ≤ k ∧ k + s.op.length + s.sh.length + s.si.length ≤ 1099511627776) :
    Calls Try.prog 9 #[.agg #[.int .i64 hh, .int .i64 ep, .string r, .string p, .int .i64 s.at_, v1, v2, v3], .int .i64 k] w fun e w' => e = .returned (.int .i64 (k + s.op.length + s.sh.length + s.si.length)) ∧ OwnStrs w' base v1 (marksS s.op.length k) ∧ OwnStrs w' base v2 (marksS s.sh.length (k + s.op.length)) ∧ OwnStrs w' base v3 (marksS s.si.length (k + s.op.length + s.sh.length)) ∧ Marked w w' v1 v2 v3 := by
  obtain ⟨a1, c1, rfl⟩ := own_any h.1
  obtain ⟨a2, c2, rfl⟩ := own_any h.2.1
  obtain ⟨a3, c3, rfl⟩ := own_any h.2.2.1
  have e0 : Ext w (w.alloc (Obj.cells #[.int .i64 hh, .int .i64 ep, .string r, .string p, .int .i64 s.at_, .slice a1 s.op.length c1, .slice a2 s.sh.length c2, .slice a3 s.si.length c3] 28)) := (Ext.refl w).alloc _
  have H := Lib.hid (h.ext e0)
  have E0 := Lib.hid e0
  clear h e0
  go_enter Try.func9, Try.ntmps9
  go_wp2_with fail
  generalize w.alloc (Obj.cells #[.int .i64 hh, .int .i64 ep, .string r, .string p, .int .i64 s.at_, .slice a1 s.op.length c1, .slice a2 s.sh.length c2, .slice a3 s.si.length c3] 28) = W0 at *
  refine (laws_markSig _ _ _ s k base _ H.out hk).mono ?_
  rintro e w1 ⟨rfl, m1, m2, m3, mm⟩
  have M := Lib.hid (mm.pre E0.out)
  clear mm
  go_wp2
  go_ret
  exact ⟨rfl, m1, m2, m3, M.out⟩
set_option maxHeartbeats 800000 in
theorem laws_heldSeal (hh ep : Int) (r p : ByteArray) (v1 v2 v3 : Value) (z : Int) (n1 n2 n3 : Nat) (k : Int) (w : World) (h1 : Strs w v1 (marksS n1 k)) (h2 : Strs w v2 (marksS n2 (k + n1))) (h3 : Strs w v3 (marksS n3 (k + n1 + n2))) (hk : 1 ≤ k ∧ k + n1 + n2 + n3 ≤ 1099511627776) :
    Calls Try.prog 10 #[.agg #[.int .i64 hh, .int .i64 ep, .string r, .string p, .int .i64 z, v1, v2, v3], .int .i64 k] w fun e w' => e = .returned (.int .i64 (k + n1 + n2 + n3)) ∧ Ext w w' := by
  obtain ⟨a1, c1, hv1⟩ := h1.form
  obtain ⟨a2, c2, hv2⟩ := h2.form
  obtain ⟨a3, c3, hv3⟩ := h3.form
  rw [marksS_length] at hv1 hv2 hv3
  subst hv1 hv2 hv3
  have q3 : ¬ (k + (n1 : Int) + n2 + n3 < 0) := by omega
  have e0 : Ext w (w.alloc (Obj.cells #[.int .i64 hh, .int .i64 ep, .string r, .string p, .int .i64 z, .slice a1 n1 c1, .slice a2 n2 c2, .slice a3 n3 c3] 28)) := (Ext.refl w).alloc _
  have H1 := Lib.hid (h1.ext e0)
  have H2 := Lib.hid (h2.ext e0)
  have H3 := Lib.hid (h3.ext e0)
  have X := e0
  clear h1 h2 h3 e0
  go_enter Try.func10, Try.ntmps10
  go_wp2_with fail
  generalize w.alloc (Obj.cells #[.int .i64 hh, .int .i64 ep, .string r, .string p, .int .i64 z, .slice a1 n1 c1, .slice a2 n2 c2, .slice a3 n3 c3] 28) = W0 at *
  refine (laws_heldSig _ _ _ z n1 n2 n3 k _ H1.out H2.out H3.out hk).mono ?_
  rintro e w1 ⟨rfl, x1⟩
  go_wp2
  go_ret
  exact ⟨rfl, X.trans x1⟩
end Go.Proofs.Ytliebkhfddmhjaa
