/- FnExactWholeText returns true for every input: the walk lifted to the given statement. No condition. -/
import Derived.Test.YtliebkhfddmhjaaLWh
import Derived.Test.YtliebkhfddmhjaaArgsW
import Derived.Test.YtliebkhfddmhjaaLftA
namespace Go.Proofs.Ytliebkhfddmhjaa
open Go.ChangeShapes Go.WideShapes Go.ChangeAt Go.RowKit
open Go.ChangeMaps (open_string shut_string)
namespace FnExactWholeText
theorem own : ownKnob Try.prog.godebug = none := by kernel_rfl
theorem laidOut : laidOutB Try.prog = true := by kernel_rfl
set_option maxRecDepth 100000 in
theorem lifted (os : Os) (started : os.Started) (H : Type) (enc : TypeId × Value → H) :
    ReturnsInHanded {} Try.checked os 5 .any (Rows.fnExactWholeTextSpec.pre6 enc Try.prog Try.f5 Rows.fnExactWholeTextRow.domain false) (Rows.fnExactWholeTextSpec.post enc Try.prog Try.f5 false true false false) := by
  refine returnsInHanded_of_change (C := Try.checked) own started (by kernel_rfl) Try.func5
    (ChangeSpec.witness6 (enc := enc) (C := Try.checked) false ⟨#[], #[.agg #[.slice none 0 0, .slice none 0 0, .slice none 0 0, .int .i64 0, .int .i64 0, .string ⟨#[]⟩, .string ⟨#[]⟩, .int .i64 0, .slice none 0 0, .slice none 0 0, .slice none 0 0, .slice none 0 0]], []⟩ 8 (by kernel_rfl) (by kernel_rfl) (by kernel_rfl) (by kernel_rfl)) ?_
  intro W base args ds gs before hval0 hW hcnd _
  have hval : ∀ (j : Nat) t v, Try.f5.params[j]? = some t → args[j]? = some v → Value.okWide Try.prog W .any base t v := hval0
  have hW' := hW
  obtain ⟨p, q, hA0, hV, rfl, -, -⟩ := hW
  have hA : DataW.TrodAll enc Try.prog W 0 (fun _ => true) true Try.f5.params.toList args.toList ds p := hA0
  rw [Try.params5] at hA hval
  obtain ⟨v0, vs0, d0, ds0, p0, q0, hargs, rfl, rfl, h0, t0⟩ := trodAll_cons hA
  obtain ⟨rfl, rfl, rfl⟩ := trodAll_nil t0
  obtain rfl : args = #[v0] := by cases args; simp_all
  obtain ⟨rfl, rfl⟩ := trodVars_none hV
  obtain ⟨a0, b0, c0, d0, f0, g0, k0, lv0, ss0, tp0, n0, e0, r0, p0, s0, xs0, rfl, ha0, hb0, hc0, hd0, hf0, hg0, hk0, hl0, hm0, hn0, hr0, hp0, hs0, hx0⟩ := arg_whole Try.underlying53 (hval 0 53 v0 rfl rfl) (rd_arg (T := tyWhole) (by kernel_rfl) h0)
  clear hA0 hval0
  refine (laws_FnExactWholeText a0 b0 c0 d0 f0 g0 k0 lv0 ss0 tp0 n0 e0 r0 p0 s0 xs0 W ha0 hb0 hc0 hd0 hf0 hg0 hk0 hl0 hm0 hn0 hr0 hp0 hs0 hx0).mono fun e W2 ⟨he, hx⟩ => ?_
  subst he
  exact ⟨_, rfl, post_law hW' rfl rfl (by kernel_rfl) Try.underlying4 laidOut (by kernel_rfl) hx⟩
theorem over : Rows.fnExactWholeTextRow.holds Try.pinned (OpenSpec.ofChange Rows.fnExactWholeTextSpec) :=
  OpenClaim.holds_of_wide 5 Try.f5 rfl rfl rfl rfl rfl rfl rfl ⟨rfl, rfl, rfl, rfl, rfl⟩ rfl rfl rfl rfl rfl (by kernel_rfl) Try.func5 (by kernel_rfl)
    (of_decide_eq_true (by kernel_rfl)) (by unfold Func.isWrapper; first | (rw [if_pos (by decide +kernel)]; kernel_rfl) | (rw [if_neg (by decide +kernel)]; exact ⟨rfl, rfl⟩))
    (fun os started H enc _ => lifted os started H enc)
theorem proved : Rows.FnExactWholeTextSaid :=
  over
#print axioms proved
end FnExactWholeText
end Go.Proofs.Ytliebkhfddmhjaa
