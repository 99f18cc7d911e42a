/- FnExactReadSeal: the walk. -/
import Derived.Test.YtliebkhfddmhjaaRg
import Derived.Test.YtliebkhfddmhjaaMkSl
import Derived.Test.YtliebkhfddmhjaaSigA
namespace Go.Proofs.Ytliebkhfddmhjaa
open Go.RowKit

theorem rdSigV_len (t : ByteArray) : (rdSigV t).op.length + (rdSigV t).sh.length + (rdSigV t).si.length ≤ 20 := by
  rw [rdSigV]
  split
  · simp [rsV, cutL_len]
  · exact Nat.zero_le _
theorem seV_len (t : ByteArray) : (seV t).op.length + (seV t).sh.length + (seV t).si.length ≤ 20 := by
  rw [seV]
  split
  · exact rdSigV_len _
  · exact Nat.zero_le _
set_option maxRecDepth 100000 in
set_option maxHeartbeats 6400000 in
theorem laws_FnExactReadSeal (t : ByteArray) (w : World) (hsz : t.size ≤ maxLen) :
    Calls Try.prog 3 #[.string t] w fun e w' => e = .returned (.bool true) ∧ Ext w w' := by
  have hsz' := hsz
  unfold maxLen at hsz'
  by_cases hbig : 1048576 < t.size
  · go_enter Try.func3, Try.ntmps3
    go_wp2
    go_ret
    exact ⟨rfl, (by repeat (first | (with_reducible first | exact Ext.refl _ | assumption | apply Ext.alloc | apply Ext.drew | apply Ext.drewN | refine Ext.setCell ?_ ?_ _ | refine Ext.trans ?_ (by assumption)) | (show _ ≤ _; first | omega | (dsimp only; omega) | (simp; done) | (simp; omega))))⟩
  have hs : t.size ≤ 1099511627776 := by omega
  have hlen := seV_len t
  have C1 := Lib.hid (fun W => spec_ReadSeal t W hs)
  have C2 := Lib.hid (fun W => impl_ReadSeal t W hs)
  generalize seI t = hh at *
  generalize seE t = he at *
  generalize seR t = hr at *
  generalize seP t = hp at *
  generalize seV t = S at *
  generalize seOk t = ok at *
  go_enter Try.func3, Try.ntmps3
  go_wp2_with fail
  refine (C1.out _).mono ?_
  rintro e w1 ⟨a1, c1, a2, c2, a3, c3, rfl, SO, X⟩
  have b1 := own_lt SO.1
  have ex : Ext w1 (w1.alloc (Obj.cells #[.int .i64 hh, .int .i64 he, .string hr, .string hp, .int .i64 S.at_, .slice a1 S.op.length c1, .slice a2 S.sh.length c2, .slice a3 S.si.length c3] 28)) := (Ext.refl _).alloc _
  have Q := Bx.new w1 #[.int .i64 hh, .int .i64 he, .string hr, .string hp, .int .i64 S.at_, .slice a1 S.op.length c1, .slice a2 S.sh.length c2, .slice a3 S.si.length c3] 28
  replace X := X.trans ex
  replace SO := SO.ext ex
  go_wp2_with fail
  generalize w1.alloc (Obj.cells #[.int .i64 hh, .int .i64 he, .string hr, .string hp, .int .i64 S.at_, .slice a1 S.op.length c1, .slice a2 S.sh.length c2, .slice a3 S.si.length c3] 28) = w2 at *
  generalize w1.heap.size = qb at *
  clear ex
  have Q2 := Q
  have S2 := SO
  have X2 := X
  refine (C2.out _).mono ?_
  rintro e w3 ⟨d1, e1, d2, e2, d3, e3, rfl, TO, x3⟩
  replace X := X.trans x3
  replace SO := SO.ext x3
  replace Q := Q.ext x3
  have t1 := own_lt TO.1
  have t2 := own_lt TO.2.1
  have t3 := own_lt TO.2.2.1
  have k1 := fun k hk => Nat.ne_of_lt (t1 k hk).2
  have k2 := fun k hk => Nat.ne_of_lt (t2 k hk).2
  have k3 := fun k hk => Nat.ne_of_lt (t3 k hk).2
  have XV := x3
  clear t1 t2 t3
  have QV := Q
  have SV := SO
  have XW := X
  have ex : Ext w3 (w3.alloc (Obj.cells #[.int .i64 hh, .int .i64 he, .string hr, .string hp, .int .i64 S.at_, .slice d1 S.op.length e1, .slice d2 S.sh.length e2, .slice d3 S.si.length e3] 28)) := (Ext.refl _).alloc _
  have R := Bx.new w3 #[.int .i64 hh, .int .i64 he, .string hr, .string hp, .int .i64 S.at_, .slice d1 S.op.length e1, .slice d2 S.sh.length e2, .slice d3 S.si.length e3] 28
  replace X := X.trans ex
  replace SO := SO.ext ex
  replace Q := Q.ext ex
  replace TO := TO.ext ex
  replace XV := XV.trans ex
  have m0 := R.2.1 0 _ rfl
  have m1 := R.2.1 1 _ rfl
  have m2 := R.2.1 2 _ rfl
  have m3 := R.2.1 3 _ rfl
  have m4 := R.2.1 4 _ rfl
  have m5 := R.2.1 5 _ rfl
  have m6 := R.2.1 6 _ rfl
  have m7 := R.2.1 7 _ rfl
  have q0 := Q.2.1 0 _ rfl
  have q1 := Q.2.1 1 _ rfl
  have q2 := Q.2.1 2 _ rfl
  have q3 := Q.2.1 3 _ rfl
  have q4 := Q.2.1 4 _ rfl
  have q5 := Q.2.1 5 _ rfl
  have q6 := Q.2.1 6 _ rfl
  have q7 := Q.2.1 7 _ rfl
  go_wp2_with fail
  generalize w3.alloc (Obj.cells #[.int .i64 hh, .int .i64 he, .string hr, .string hp, .int .i64 S.at_, .slice d1 S.op.length e1, .slice d2 S.sh.length e2, .slice d3 S.si.length e3] 28) = w4 at *
  generalize w3.heap.size = rb at *
  clear ex
  refine (laws_eqSealT _ _ _ _ _ _ _ _ _ _ S _ TO.1.strs TO.2.1.strs TO.2.2.1.strs SO.1.strs SO.2.1.strs SO.2.2.1.strs).mono ?_
  rintro e w5 ⟨rfl, xe⟩
  clear m0 m1 m2 m3 m4 m5 m6 m7
  clear q0 q1 q2 q3 q4 q5 q6 q7
  replace X := X.trans xe
  replace SO := SO.ext xe
  replace Q := Q.ext xe
  replace TO := TO.ext xe
  replace XV := XV.trans xe
  replace R := R.ext xe
  have m0 := R.2.1 0 _ rfl
  have m1 := R.2.1 1 _ rfl
  have m2 := R.2.1 2 _ rfl
  have m3 := R.2.1 3 _ rfl
  have m4 := R.2.1 4 _ rfl
  have m5 := R.2.1 5 _ rfl
  have m6 := R.2.1 6 _ rfl
  have m7 := R.2.1 7 _ rfl
  go_wp2_with fail
  refine (laws_markSeal _ _ _ _ _ _ _ S 1 _ _ TO (by omega)).mono ?_
  rintro e w6 ⟨rfl, j1, j2, j3, mm⟩
  clear m0 m1 m2 m3 m4 m5 m6 m7
  have XM : Ext w2 w6 := mm.ext _ TO XV (Nat.le_refl _)
  have RM := mm.bx R k1 k2 k3
  clear R TO XV mm
  have R := RM
  have J1 := j1.strs
  have J2 := j2.strs
  have J3 := j3.strs
  clear RM j1 j2 j3
  have Qn := Q2.ext XM
  have Sn := S2.ext XM
  have Xn := X2.trans XM
  clear Q SO X QV SV XW Q2 S2 X2 XM
  have Q := Qn
  have SO := Sn
  have X := Xn
  clear Qn Sn Xn
  have hn2 : ¬ ((1 : Int) + S.op.length + S.sh.length + S.si.length < 0) := by omega
  have m0 := R.2.1 0 _ rfl
  have m1 := R.2.1 1 _ rfl
  have m2 := R.2.1 2 _ rfl
  have m3 := R.2.1 3 _ rfl
  have m4 := R.2.1 4 _ rfl
  have m5 := R.2.1 5 _ rfl
  have m6 := R.2.1 6 _ rfl
  have m7 := R.2.1 7 _ rfl
  go_wp2_with fail
  refine (laws_heldSeal _ _ _ _ _ _ _ _ S.op.length S.sh.length S.si.length 1 _ J1 J2 J3 (by omega)).mono ?_
  rintro e w7 ⟨rfl, xh⟩
  clear m0 m1 m2 m3 m4 m5 m6 m7
  replace X := X.trans xh
  replace Q := Q.ext xh
  replace SO := SO.ext xh
  replace R := R.ext xh
  replace J1 := J1.ext xh
  replace J2 := J2.ext xh
  replace J3 := J3.ext xh
  go_wp2_with fail
  refine (C2.out _).mono ?_
  rintro e w8 ⟨g1, f1, g2, f2, g3, f3, rfl, UO, x8⟩
  replace X := X.trans x8
  replace Q := Q.ext x8
  replace SO := SO.ext x8
  replace R := R.ext x8
  replace J1 := J1.ext x8
  replace J2 := J2.ext x8
  replace J3 := J3.ext x8
  have ex : Ext w8 (w8.alloc (Obj.cells #[.int .i64 hh, .int .i64 he, .string hr, .string hp, .int .i64 S.at_, .slice g1 S.op.length f1, .slice g2 S.sh.length f2, .slice g3 S.si.length f3] 28)) := (Ext.refl _).alloc _
  have T := Bx.new w8 #[.int .i64 hh, .int .i64 he, .string hr, .string hp, .int .i64 S.at_, .slice g1 S.op.length f1, .slice g2 S.sh.length f2, .slice g3 S.si.length f3] 28
  replace X := X.trans ex
  replace Q := Q.ext ex
  replace SO := SO.ext ex
  replace R := R.ext ex
  replace J1 := J1.ext ex
  replace J2 := J2.ext ex
  replace J3 := J3.ext ex
  replace UO := UO.ext ex
  have m0 := T.2.1 0 _ rfl
  have m1 := T.2.1 1 _ rfl
  have m2 := T.2.1 2 _ rfl
  have m3 := T.2.1 3 _ rfl
  have m4 := T.2.1 4 _ rfl
  have m5 := T.2.1 5 _ rfl
  have m6 := T.2.1 6 _ rfl
  have m7 := T.2.1 7 _ rfl
  have q0 := Q.2.1 0 _ rfl
  have q1 := Q.2.1 1 _ rfl
  have q2 := Q.2.1 2 _ rfl
  have q3 := Q.2.1 3 _ rfl
  have q4 := Q.2.1 4 _ rfl
  have q5 := Q.2.1 5 _ rfl
  have q6 := Q.2.1 6 _ rfl
  have q7 := Q.2.1 7 _ rfl
  go_wp2_with fail
  generalize w8.alloc (Obj.cells #[.int .i64 hh, .int .i64 he, .string hr, .string hp, .int .i64 S.at_, .slice g1 S.op.length f1, .slice g2 S.sh.length f2, .slice g3 S.si.length f3] 28) = w9 at *
  generalize w8.heap.size = tb at *
  clear ex
  refine (laws_eqSealT _ _ _ _ _ _ _ _ _ _ S _ UO.1.strs UO.2.1.strs UO.2.2.1.strs SO.1.strs SO.2.1.strs SO.2.2.1.strs).mono ?_
  rintro e w10 ⟨rfl, xe⟩
  clear m0 m1 m2 m3 m4 m5 m6 m7
  clear q0 q1 q2 q3 q4 q5 q6 q7
  replace X := X.trans xe
  replace Q := Q.ext xe
  replace SO := SO.ext xe
  replace R := R.ext xe
  replace J1 := J1.ext xe
  replace J2 := J2.ext xe
  replace J3 := J3.ext xe
  replace UO := UO.ext xe
  replace T := T.ext xe
  have m0 := R.2.1 0 _ rfl
  have m1 := R.2.1 1 _ rfl
  have m2 := R.2.1 2 _ rfl
  have m3 := R.2.1 3 _ rfl
  have m4 := R.2.1 4 _ rfl
  have m5 := R.2.1 5 _ rfl
  have m6 := R.2.1 6 _ rfl
  have m7 := R.2.1 7 _ rfl
  go_wp2_with fail
  refine (laws_heldSeal _ _ _ _ _ _ _ _ S.op.length S.sh.length S.si.length 1 _ J1 J2 J3 (by omega)).mono ?_
  rintro e w11 ⟨rfl, xh⟩
  clear m0 m1 m2 m3 m4 m5 m6 m7
  replace X := X.trans xh
  replace Q := Q.ext xh
  replace SO := SO.ext xh
  replace R := R.ext xh
  replace J1 := J1.ext xh
  replace J2 := J2.ext xh
  replace J3 := J3.ext xh
  replace UO := UO.ext xh
  replace T := T.ext xh
  go_wp2
  go_ret
  exact ⟨rfl, X⟩
end Go.Proofs.Ytliebkhfddmhjaa
