/- Rw, Re, Rf, Rg in one text. -/
import Derived.Test.YtliebkhfddmhjaaDoorRdA
import Derived.Test.YtliebkhfddmhjaaDoorStrA
import Derived.Deep.RegionHeld3
import Derived.IntWalk
import Derived.Test.YtliebkhfddmhjaaDoorSeal
import Derived.Test.YtliebkhfddmhjaaDoorHeadA
import Derived.Deep.DeepCutAuto
namespace Go.Proofs.YtliebkhfddmhjaaDoor
open Go.RowKit

theorem VarIn.text {t : ByteArray} {a k acc : Nat} (h : VarIn t a k acc) (hi : a + k < t.size) (hx : (t[a + k]).toNat < 128) (hn : acc + (t[a + k]).toNat * 128 ^ k ≤ 1000000000) :
    ((k = 0 ∨ (t[a + k]).toNat ≠ 0) → varT (acc + (t[a + k]).toNat * 128 ^ k) = t.extract a (a + k + 1)) ∧ (0 < k ∧ (t[a + k]).toNat = 0 → varT (acc + (t[a + k]).toNat * 128 ^ k) ≠ t.extract a (a + k + 1)) := by
  refine ⟨fun hz => ?_, fun hz e => ?_⟩
  · obtain ⟨r1, r2, r3⟩ := h.last hi hx hz hn
    rcases rv_cases t a with ⟨n, h0, hv, -, e2, e3⟩ | ⟨e1, -, -⟩
    · rw [Int.toNat_natCast] at hv e3
      have hnn : n = acc + (t[a + k]).toNat * 128 ^ k := e2.symm.trans r2
      have := var_text hv
      rw [← e3, r3, hnn] at this
      exact this.symm
    · rw [r1] at e1; cases e1
  · obtain ⟨r1, -, -⟩ := h.zlast hi hx (Or.inl hz)
    have hl : (varB (acc + (t[a + k]).toNat * 128 ^ k)).length = k + 1 := by
      have := congrArg ByteArray.size e
      rw [ByteArray.size_extract] at this
      rw [varB, ba_len]
      omega
    have := (rv_yes (var_at (t := t) (a := a) hn (by rw [hl]; exact e.symm))).1
    rw [r1] at this
    cases this
end Go.Proofs.YtliebkhfddmhjaaDoor
namespace Go.Proofs.YtliebkhfddmhjaaDoor
open Go.RowKit

/-- is a text a signed head's? -/
noncomputable def seOk (t : ByteArray) : Bool := rsOk t 0 && (rdHead (rsT t 0) && rdSig (t.extract (rsE t 0) t.size))
noncomputable def seI (t : ByteArray) : Int := if seOk t = true then hdH (rsT t 0) else 0
noncomputable def seE (t : ByteArray) : Int := if seOk t = true then hdE (rsT t 0) else 0
noncomputable def seR (t : ByteArray) : ByteArray := if seOk t = true then hdR (rsT t 0) else ⟨#[]⟩
noncomputable def seP (t : ByteArray) : ByteArray := if seOk t = true then hdP (rsT t 0) else ⟨#[]⟩
noncomputable def seV (t : ByteArray) : SigV := if seOk t = true then rdSigV (t.extract (rsE t 0) t.size) else ⟨0, [], [], []⟩
theorem se_no {t : ByteArray} (h : seOk t = false) : seI t = 0 ∧ seE t = 0 ∧ seR t = ⟨#[]⟩ ∧ seP t = ⟨#[]⟩ ∧ seV t = ⟨0, [], [], []⟩ := by
  have : ¬ seOk t = true := by rw [h]; decide
  rw [seI, seE, seR, seP, seV, if_neg this, if_neg this, if_neg this, if_neg this, if_neg this]
  exact ⟨rfl, rfl, rfl, rfl, rfl⟩
theorem se_yes {t : ByteArray} (h : seOk t = true) : seI t = hdH (rsT t 0) ∧ seE t = hdE (rsT t 0) ∧ seR t = hdR (rsT t 0) ∧ seP t = hdP (rsT t 0) ∧ seV t = rdSigV (t.extract (rsE t 0) t.size) := by
  rw [seI, seE, seR, seP, seV, if_pos h, if_pos h, if_pos h, if_pos h, if_pos h]
  exact ⟨rfl, rfl, rfl, rfl, rfl⟩
end Go.Proofs.YtliebkhfddmhjaaDoor
namespace Go.Proofs.YtliebkhfddmhjaaDoor
open Go.RowKit

def CutRd (W0 wx : World) (s5 : Value) (b : Nat) (t : ByteArray) (st : Int × Bool) (hh he : Int) (hr hp : ByteArray) (S : SigV) : Prop := ∃ (qb : Nat) (a1 a2 a3 : Option Addr) (c1 c2 c3 : Nat), s5 = .pointer (some ⟨qb, 0, none⟩) ∧ W0.heap.size ≤ qb ∧ Bx wx qb [.int .i64 hh, .int .i64 he, .string hr, .string hp, .int .i64 S.at_, .slice a1 S.op.length c1, .slice a2 S.sh.length c2, .slice a3 S.si.length c3] ∧ SigOwn wx W0.heap.size (.slice a1 S.op.length c1) (.slice a2 S.sh.length c2) (.slice a3 S.si.length c3) S ∧ Fld wx b t st.1 st.2 ∧ Mut b W0 wx
theorem SigOwn.mut {w w' : World} {base b : Nat} {v1 v2 v3 : Value} {s : SigV} (h : SigOwn w base v1 v2 v3 s) (hb : b < base) (hm : Mut b w w') : SigOwn w' base v1 v2 v3 s := ⟨own_mut h.1 hb hm, own_mut h.2.1 hb hm, own_mut h.2.2.1 hb hm, h.2.2.2⟩
def badE (x rk : Bool) (S : SigV) : Bool := x || (!rk || !sigWell S)
set_option maxRecDepth 100000 in
set_option maxHeartbeats 6400000 in
theorem impl_fields_seal (b : Nat) (t : ByteArray) (a : Int) (bad : Bool) (w : World) (h : Fld w b t a bad) (hb : b < w.heap.size) (ha : 0 ≤ a ∧ a ≤ t.size) (hs : t.size ≤ 1099511627776) :
    Calls Tryd.prog 122 #[.pointer (some ⟨b, 0, none⟩)] w fun e w' => ∃ a1 c1 a2 c2 a3 c3, e = .returned (.agg #[.int .i64 (hdH (rsT t a)), .int .i64 (hdE (rsT t a)), .string (hdR (rsT t a)), .string (hdP (rsT t a)), .int .i64 (sgRd t (shAt t a) (bad || !rsOk t a)).at_, .slice a1 (sgRd t (shAt t a) (bad || !rsOk t a)).op.length c1, .slice a2 (sgRd t (shAt t a) (bad || !rsOk t a)).sh.length c2, .slice a3 (sgRd t (shAt t a) (bad || !rsOk t a)).si.length c3]) ∧ SigOwn w' w.heap.size (.slice a1 (sgRd t (shAt t a) (bad || !rsOk t a)).op.length c1) (.slice a2 (sgRd t (shAt t a) (bad || !rsOk t a)).sh.length c2) (.slice a3 (sgRd t (shAt t a) (bad || !rsOk t a)).si.length c3) (sgRd t (shAt t a) (bad || !rsOk t a)) ∧ Fld w' b t (sgS4 t (shAt t a) (bad || !rsOk t a)).1 (badE (sgS4 t (shAt t a) (bad || !rsOk t a)).2 (rdHead (rsT t a)) (sgRd t (shAt t a) (bad || !rsOk t a))) ∧ Mut b w w' := by
  have e0 : Ext w (w.alloc (Obj.cells #[.int .i64 0, .int .i64 0, .string ⟨#[]⟩, .string ⟨#[]⟩, .int .i64 0, .slice none 0 0, .slice none 0 0, .slice none 0 0] 39)) := (Ext.refl w).alloc _
  have R := Bx.new w #[.int .i64 0, .int .i64 0, .string ⟨#[]⟩, .string ⟨#[]⟩, .int .i64 0, .slice none 0 0, .slice none 0 0, .slice none 0 0] 39
  have F0 := h.ext hb e0
  have hb0 := Nat.lt_of_lt_of_le hb e0.size
  have hwb : w.heap.size ≠ b := by omega
  have M0 : Mut b w (w.alloc (Obj.cells #[.int .i64 0, .int .i64 0, .string ⟨#[]⟩, .string ⟨#[]⟩, .int .i64 0, .slice none 0 0, .slice none 0 0, .slice none 0 0] 39)) := Mut.of_ext e0
  have hsa := shAt_bd (a := a) ha
  have hz := rsT_le t a
  generalize hht : rsT t a = ht at *
  generalize hok : rsOk t a = ok at *
  generalize hhsa : shAt t a = sa at *
  generalize ehh : hdH ht = hh at *
  generalize ehe : hdE ht = he at *
  generalize ehr : hdR ht = hr at *
  generalize ehp : hdP ht = hp at *
  generalize erk : rdHead ht = rk at *
  have HF := Lib.hid (sgRd_fit (t := t) (a := sa) (bad := bad || !ok) hsa)
  generalize hst : sgS4 t sa (bad || !ok) = st at *
  generalize hS : sgRd t sa (bad || !ok) = S at *
  have HHT := Lib.hid hht
  have HOK := Lib.hid hok
  have HSA := Lib.hid hhsa
  have E1 := Lib.hid ehh
  have E2 := Lib.hid ehe
  have E3 := Lib.hid ehr
  have E4 := Lib.hid ehp
  have E5 := Lib.hid erk
  have HST := Lib.hid hst
  have HS := Lib.hid hS
  clear hht hok hhsa ehh ehe ehr ehp erk hst hS
  skip
  go_enter Tryd.func122, Tryd.ntmps122
  go_wp2_with fail
  generalize w.alloc (Obj.cells #[.int .i64 0, .int .i64 0, .string ⟨#[]⟩, .string ⟨#[]⟩, .int .i64 0, .slice none 0 0, .slice none 0 0, .slice none 0 0] 39) = W0 at *
  refine (impl_fields_short b t a bad _ F0 hs).mono ?_
  rw [HHT.out, HOK.out, HSA.out]
  rintro e w1 ⟨rfl, M1, F1⟩
  have R1 := R.mut M1 hwb
  have hb1 := Nat.lt_of_lt_of_le hb0 M1.size
  have MA := M0.trans M1
  clear F0 R M0
  go_wp2_with fail
  refine (impl_ReadHead ht _ (by omega)).mono ?_
  rw [E1.out, E2.out, E3.out, E4.out, E5.out]
  rintro e w2 ⟨rfl, x2⟩
  have R2 := R1.ext x2
  have F2 := F1.ext hb1 x2
  have hb2 := Nat.lt_of_lt_of_le hb1 x2.size
  have MB := MA.trans (Mut.of_ext x2)
  clear F1 R1 MA
  have x3 : Ext w2 (w2.alloc (Obj.cells #[.int .i64 hh, .int .i64 he, .string hr, .string hp] 32)) := (Ext.refl _).alloc _
  have H := Bx.new w2 #[.int .i64 hh, .int .i64 he, .string hr, .string hp] 32
  have R3 := R2.ext x3
  have F3 := F2.ext hb2 x3
  have MC := MB.trans (Mut.of_ext x3)
  have hb3 := Nat.lt_of_lt_of_le hb2 x3.size
  have hbh : w2.heap.size ≠ b := by omega
  clear R2 F2 MB
  have h0 := H.2.1 0 _ rfl
  have h1 := H.2.1 1 _ rfl
  have h2 := H.2.1 2 _ rfl
  have h3 := H.2.1 3 _ rfl
  go_upto_region 2 with (fail)
  go_cut [5] (fun s5 wx => CutRd (w2.alloc (Obj.cells #[.int .i64 hh, .int .i64 he, .string hr, .string hp] 32)) wx s5 b t st hh he hr hp S)
  case first =>
    have LH := Lib.hid (show w2.heap.size < (w2.alloc (Obj.cells #[.int .i64 hh, .int .i64 he, .string hr, .string hp] 32)).heap.size from H.1)
    generalize w2.alloc (Obj.cells #[.int .i64 hh, .int .i64 he, .string hr, .string hp] 32) = w3 at *
    skip
    go_wp2_with fail
    clear h0 h1 h2 h3
    have M := Mut.refl b w3
    refine wp_region_held_drew (S := (fun W => W.cell? ⟨w2.heap.size, 0, none⟩ = some (.int .i64 hh) ∧ W.cell? ⟨w2.heap.size, 1, none⟩ = some (.int .i64 he) ∧ W.cell? ⟨w2.heap.size, 2, none⟩ = some (.string hr) ∧ W.cell? ⟨w2.heap.size, 3, none⟩ = some (.string hp))) (by kernel_rfl) (by exact ⟨H.2.1 0 _ rfl, H.2.1 1 _ rfl, H.2.1 2 _ rfl, H.2.1 3 _ rfl⟩) (fun hHeld => ?_)
    have xd : Ext w3 w3.drew := (Ext.refl w3).drew
    replace H := H.ext xd
    replace F3 := F3.ext hb3 xd
    replace hb3 := Nat.lt_of_lt_of_le hb3 (Ext.size xd)
    replace M := M.trans (Mut.of_ext xd)
    generalize w3.drew = y0 at *
    have h0 := H.2.1 0 _ rfl
    have h1 := H.2.1 1 _ rfl
    have h2 := H.2.1 2 _ rfl
    have h3 := H.2.1 3 _ rfl
    (refine wpAnyH_take (i := 0) (v := ?_) rfl (by kernel_rfl) (by kernel_rfl) (by kernel_rfl) (fun _ _ _ h => h) (Or.inl ⟨by rfl, ?_⟩) (by assumption) ?_; rotate_left; focus (intro w hSw; (try dsimp only at hSw); (try simp only [List.getElem_toArray, List.getElem_cons_zero]); go_simp; try with_reducible rfl)); (try simp only [List.getElem_toArray, List.getElem_cons_zero]); (try simp only [Act.put, List.setIfInBounds_toArray, List.set_cons_zero, List.set_cons_succ])
    (refine wpAnyH_take (i := 1) (v := ?_) rfl (by kernel_rfl) (by kernel_rfl) (by kernel_rfl) (fun _ _ _ h => h) (Or.inl ⟨by rfl, ?_⟩) (by assumption) ?_; rotate_left; focus (intro w hSw; (try dsimp only at hSw); (try simp only [List.getElem_toArray, List.getElem_cons_zero, List.getElem_cons_succ]); go_simp; try with_reducible rfl)); (try simp only [List.getElem_toArray, List.getElem_cons_zero, List.getElem_cons_succ]); (try simp only [Act.put, List.setIfInBounds_toArray, List.set_cons_zero, List.set_cons_succ])
    refine wpAnyH_ready (rs := [2, 4]) (by kernel_rfl) (by simp) ?_
    refine AllReadyH.cons rfl (fun K hK => ?_) (AllReadyH.cons rfl (fun K hK => ?_) AllReadyH.nil)
    · (try simp only [List.getElem_toArray, List.getElem_cons_zero, List.getElem_cons_succ])
      go_simp
      go_at_call 102
      refine (impl_fields_sig b t sa (bad || !ok) _ F3 hb3 hsa hs).mono ?_
      rw [HS.out, HST.out]
      rintro e y1 ⟨a1, c1, a2, c2, a3, c3, rfl, so, F4, M4⟩
      (try clear h0 h1 h2 h3)
      have H4 := H.mut M4 hbh
      have lsz : w3.heap.size ≤ y0.heap.size := M.size
      have SO := so.mono lsz
      have MM := M.trans M4
      replace hb3 := Nat.lt_of_lt_of_le hb3 M4.size
      have B0 := fun v n l (o : World.ownsRow y1 w3.heap.size 9 1 v n l) k (hk : v.ownBlock = some k) => (own_lt o k hk).2
      have B1 := fun k hk => Nat.ne_of_lt (B0 _ _ _ SO.1 k hk)
      have B2 := fun k hk => Nat.ne_of_lt (B0 _ _ _ SO.2.1 k hk)
      have B3 := fun k hk => Nat.ne_of_lt (B0 _ _ _ SO.2.2.1 k hk)
      clear B0
      clear so M F3 H
      have M := MM
      have F3 := F4
      have H := H4
      clear MM F4 H4
      (try dsimp only)
      refine hK.out _ _ (by exact ⟨H.2.1 0 _ rfl, H.2.1 1 _ rfl, H.2.1 2 _ rfl, H.2.1 3 _ rfl⟩) (fun hHeld => ?_)
      clear hK K
      (refine wpAnyH_take (i := 3) (v := ?_) rfl (by kernel_rfl) (by kernel_rfl) (by kernel_rfl) (fun _ _ _ h => h) (Or.inl ⟨by rfl, ?_⟩) (by assumption) ?_; rotate_left; focus (intro w hSw; (try dsimp only at hSw); (try simp only [List.getElem_toArray, List.getElem_cons_zero, List.getElem_cons_succ]); go_simp; try with_reducible rfl)); (try simp only [List.getElem_toArray, List.getElem_cons_zero, List.getElem_cons_succ]); (try simp only [Act.put, List.setIfInBounds_toArray, List.set_cons_zero, List.set_cons_succ])
      refine wpAnyH_ready (rs := [4]) (by kernel_rfl) (by simp) ?_
      refine AllReadyH.cons rfl (fun K hK => ?_) AllReadyH.nil
      (try simp only [List.getElem_toArray, List.getElem_cons_zero, List.getElem_cons_succ])
      go_simp
      have ez : Ext y1 (y1.alloc (Obj.cells #[.int .i64 0, .int .i64 0, .string ⟨#[]⟩, .string ⟨#[]⟩, .int .i64 0, .slice none 0 0, .slice none 0 0, .slice none 0 0] 39)) := (Ext.refl _).alloc _
      have Q := Bx.new y1 #[.int .i64 0, .int .i64 0, .string ⟨#[]⟩, .string ⟨#[]⟩, .int .i64 0, .slice none 0 0, .slice none 0 0, .slice none 0 0] 39
      have lq : w3.heap.size ≤ y1.heap.size := M.size
      have nqb : y1.heap.size ≠ b := by omega
      (try clear h0 h1 h2 h3)
      replace H := H.ext ez
      replace F3 := F3.ext hb3 ez
      replace hb3 := Nat.lt_of_lt_of_le hb3 (Ext.size ez)
      replace M := M.trans (Mut.of_ext ez)
      replace SO := SO.ext ez
      generalize y1.alloc (Obj.cells #[.int .i64 0, .int .i64 0, .string ⟨#[]⟩, .string ⟨#[]⟩, .int .i64 0, .slice none 0 0, .slice none 0 0, .slice none 0 0] 39) = y2 at *
      generalize hqb : y1.heap.size = qb at *
      clear hqb
      (try dsimp only)
      refine hK.out _ _ (by exact ⟨H.2.1 0 _ rfl, H.2.1 1 _ rfl, H.2.1 2 _ rfl, H.2.1 3 _ rfl⟩) (fun hHeld => ?_)
      clear hK K
      have z0 := Q.2.1 0 _ rfl
      have z1 := Q.2.1 1 _ rfl
      have z2 := Q.2.1 2 _ rfl
      have z3 := Q.2.1 3 _ rfl
      have z4 := Q.2.1 4 _ rfl
      have z5 := Q.2.1 5 _ rfl
      have z6 := Q.2.1 6 _ rfl
      have z7 := Q.2.1 7 _ rfl
      have f0 := Q.2.2 0
      have f1 := Q.2.2 1
      have f2 := Q.2.2 2
      have f3 := Q.2.2 3
      have f4 := Q.2.2 4
      have f5 := Q.2.2 5
      have f6 := Q.2.2 6
      have f7 := Q.2.2 7
      have nhq : qb ≠ w2.heap.size := by have := LH.out; omega
      have QQ := ((((((((Q.set 0 (.int .i64 hh) (by simp)).set 1 (.int .i64 he) (by simp)).set 2 (.string hr) (by simp)).set 3 (.string hp) (by simp)).set 4 (.int .i64 S.at_) (by simp)).set 5 (.slice a1 S.op.length c1) (by simp)).set 6 (.slice a2 S.sh.length c2) (by simp)).set 7 (.slice a3 S.si.length c3) (by simp))
      have SQ := ((((((((SO.far B1 B2 B3 0 (.int .i64 hh)).far B1 B2 B3 1 (.int .i64 he)).far B1 B2 B3 2 (.string hr)).far B1 B2 B3 3 (.string hp)).far B1 B2 B3 4 (.int .i64 S.at_)).far B1 B2 B3 5 (.slice a1 S.op.length c1)).far B1 B2 B3 6 (.slice a2 S.sh.length c2)).far B1 B2 B3 7 (.slice a3 S.si.length c3))
      have FQ := (fld_far (fld_far (fld_far (fld_far (fld_far (fld_far (fld_far (fld_far F3 nqb 0 (.int .i64 hh)) nqb 1 (.int .i64 he)) nqb 2 (.string hr)) nqb 3 (.string hp)) nqb 4 (.int .i64 S.at_)) nqb 5 (.slice a1 S.op.length c1)) nqb 6 (.slice a2 S.sh.length c2)) nqb 7 (.slice a3 S.si.length c3))
      have HQ := ((((((((H.far (c := qb) nhq 0 (.int .i64 hh)).far (c := qb) nhq 1 (.int .i64 he)).far (c := qb) nhq 2 (.string hr)).far (c := qb) nhq 3 (.string hp)).far (c := qb) nhq 4 (.int .i64 S.at_)).far (c := qb) nhq 5 (.slice a1 S.op.length c1)).far (c := qb) nhq 6 (.slice a2 S.sh.length c2)).far (c := qb) nhq 7 (.slice a3 S.si.length c3))
      have MQ : Mut b w3 ((((((((y2.setCell ⟨qb, 0, none⟩ (.int .i64 hh)).setCell ⟨qb, 1, none⟩ (.int .i64 he)).setCell ⟨qb, 2, none⟩ (.string hr)).setCell ⟨qb, 3, none⟩ (.string hp)).setCell ⟨qb, 4, none⟩ (.int .i64 S.at_)).setCell ⟨qb, 5, none⟩ (.slice a1 S.op.length c1)).setCell ⟨qb, 6, none⟩ (.slice a2 S.sh.length c2)).setCell ⟨qb, 7, none⟩ (.slice a3 S.si.length c3)) := (mut_new (mut_new (mut_new (mut_new (mut_new (mut_new (mut_new (mut_new M 0 (.int .i64 hh) lq) 1 (.int .i64 he) lq) 2 (.string hr) lq) 3 (.string hp) lq) 4 (.int .i64 S.at_) lq) 5 (.slice a1 S.op.length c1) lq) 6 (.slice a2 S.sh.length c2) lq) 7 (.slice a3 S.si.length c3) lq)
      clear H
      have H := HQ
      clear HQ
      (refine wpAnyH_ready (rs := [5]) (by kernel_rfl) (by simp) ?_; refine AllReadyH.cons rfl (fun K hK => ?_) AllReadyH.nil; (try simp only [List.getElem_toArray, List.getElem_cons_zero, List.getElem_cons_succ]))
      go_simp
      clear z0 f0 z1 f1 z2 f2 z3 f3 z4 f4 z5 f5 z6 f6 z7 f7
      generalize (((((((y2.setCell ⟨qb, 0, none⟩ (.int .i64 hh)).setCell ⟨qb, 1, none⟩ (.int .i64 he)).setCell ⟨qb, 2, none⟩ (.string hr)).setCell ⟨qb, 3, none⟩ (.string hp)).setCell ⟨qb, 4, none⟩ (.int .i64 S.at_)).setCell ⟨qb, 5, none⟩ (.slice a1 S.op.length c1)).setCell ⟨qb, 6, none⟩ (.slice a2 S.sh.length c2)).setCell ⟨qb, 7, none⟩ (.slice a3 S.si.length c3) = W6 at *
      (try dsimp only)
      refine hK.out _ _ (by exact ⟨H.2.1 0 _ rfl, H.2.1 1 _ rfl, H.2.1 2 _ rfl, H.2.1 3 _ rfl⟩) (fun hHeld => ?_)
      clear hK K
      refine wpAnyH_done (by kernel_rfl) ?_ _
      go_wp2_with fail
      go_meet
      exact ⟨qb, a1, a2, a3, c1, c2, c3, rfl, lq, QQ, SQ, FQ, MQ⟩
    · (try simp only [List.getElem_toArray, List.getElem_cons_zero, List.getElem_cons_succ])
      go_simp
      have ez : Ext y0 (y0.alloc (Obj.cells #[.int .i64 0, .int .i64 0, .string ⟨#[]⟩, .string ⟨#[]⟩, .int .i64 0, .slice none 0 0, .slice none 0 0, .slice none 0 0] 39)) := (Ext.refl _).alloc _
      have Q := Bx.new y0 #[.int .i64 0, .int .i64 0, .string ⟨#[]⟩, .string ⟨#[]⟩, .int .i64 0, .slice none 0 0, .slice none 0 0, .slice none 0 0] 39
      have lq : w3.heap.size ≤ y0.heap.size := M.size
      have nqb : y0.heap.size ≠ b := by omega
      (try clear h0 h1 h2 h3)
      replace H := H.ext ez
      replace F3 := F3.ext hb3 ez
      replace hb3 := Nat.lt_of_lt_of_le hb3 (Ext.size ez)
      replace M := M.trans (Mut.of_ext ez)
      generalize y0.alloc (Obj.cells #[.int .i64 0, .int .i64 0, .string ⟨#[]⟩, .string ⟨#[]⟩, .int .i64 0, .slice none 0 0, .slice none 0 0, .slice none 0 0] 39) = y1 at *
      generalize hqb : y0.heap.size = qb at *
      clear hqb
      (try dsimp only)
      refine hK.out _ _ (by exact ⟨H.2.1 0 _ rfl, H.2.1 1 _ rfl, H.2.1 2 _ rfl, H.2.1 3 _ rfl⟩) (fun hHeld => ?_)
      clear hK K
      (refine wpAnyH_ready (rs := [2]) (by kernel_rfl) (by simp) ?_; refine AllReadyH.cons rfl (fun K hK => ?_) AllReadyH.nil)
      (try simp only [List.getElem_toArray, List.getElem_cons_zero, List.getElem_cons_succ])
      go_simp
      go_at_call 102
      refine (impl_fields_sig b t sa (bad || !ok) _ F3 hb3 hsa hs).mono ?_
      rw [HS.out, HST.out]
      rintro e y2 ⟨a1, c1, a2, c2, a3, c3, rfl, so, F4, M4⟩
      (try clear h0 h1 h2 h3)
      have H4 := H.mut M4 hbh
      have lsz : w3.heap.size ≤ y1.heap.size := M.size
      have lqs : qb < y1.heap.size := Q.1
      have Q4 := Q.mut M4 nqb
      have B1 := fun k (hk : Value.ownBlock (.slice a1 S.op.length c1) = some k) => Nat.ne_of_gt (Nat.lt_of_lt_of_le lqs (own_lt so.1 k hk).1)
      have B2 := fun k (hk : Value.ownBlock (.slice a2 S.sh.length c2) = some k) => Nat.ne_of_gt (Nat.lt_of_lt_of_le lqs (own_lt so.2.1 k hk).1)
      have B3 := fun k (hk : Value.ownBlock (.slice a3 S.si.length c3) = some k) => Nat.ne_of_gt (Nat.lt_of_lt_of_le lqs (own_lt so.2.2.1 k hk).1)
      have SO := so.mono lsz
      have MM := M.trans M4
      replace hb3 := Nat.lt_of_lt_of_le hb3 M4.size
      clear so M F3 H Q
      have M := MM
      have F3 := F4
      have H := H4
      have Q := Q4
      clear MM F4 H4 Q4
      (try dsimp only)
      refine hK.out _ _ (by exact ⟨H.2.1 0 _ rfl, H.2.1 1 _ rfl, H.2.1 2 _ rfl, H.2.1 3 _ rfl⟩) (fun hHeld => ?_)
      clear hK K
      (refine wpAnyH_take (i := 3) (v := ?_) rfl (by kernel_rfl) (by kernel_rfl) (by kernel_rfl) (fun _ _ _ h => h) (Or.inl ⟨by rfl, ?_⟩) (by assumption) ?_; rotate_left; focus (intro w hSw; (try dsimp only at hSw); (try simp only [List.getElem_toArray, List.getElem_cons_zero, List.getElem_cons_succ]); go_simp; try with_reducible rfl)); (try simp only [List.getElem_toArray, List.getElem_cons_zero, List.getElem_cons_succ]); (try simp only [Act.put, List.setIfInBounds_toArray, List.set_cons_zero, List.set_cons_succ])
      have z0 := Q.2.1 0 _ rfl
      have z1 := Q.2.1 1 _ rfl
      have z2 := Q.2.1 2 _ rfl
      have z3 := Q.2.1 3 _ rfl
      have z4 := Q.2.1 4 _ rfl
      have z5 := Q.2.1 5 _ rfl
      have z6 := Q.2.1 6 _ rfl
      have z7 := Q.2.1 7 _ rfl
      have f0 := Q.2.2 0
      have f1 := Q.2.2 1
      have f2 := Q.2.2 2
      have f3 := Q.2.2 3
      have f4 := Q.2.2 4
      have f5 := Q.2.2 5
      have f6 := Q.2.2 6
      have f7 := Q.2.2 7
      have nhq : qb ≠ w2.heap.size := by have := LH.out; omega
      have QQ := ((((((((Q.set 0 (.int .i64 hh) (by simp)).set 1 (.int .i64 he) (by simp)).set 2 (.string hr) (by simp)).set 3 (.string hp) (by simp)).set 4 (.int .i64 S.at_) (by simp)).set 5 (.slice a1 S.op.length c1) (by simp)).set 6 (.slice a2 S.sh.length c2) (by simp)).set 7 (.slice a3 S.si.length c3) (by simp))
      have SQ := ((((((((SO.far B1 B2 B3 0 (.int .i64 hh)).far B1 B2 B3 1 (.int .i64 he)).far B1 B2 B3 2 (.string hr)).far B1 B2 B3 3 (.string hp)).far B1 B2 B3 4 (.int .i64 S.at_)).far B1 B2 B3 5 (.slice a1 S.op.length c1)).far B1 B2 B3 6 (.slice a2 S.sh.length c2)).far B1 B2 B3 7 (.slice a3 S.si.length c3))
      have FQ := (fld_far (fld_far (fld_far (fld_far (fld_far (fld_far (fld_far (fld_far F3 nqb 0 (.int .i64 hh)) nqb 1 (.int .i64 he)) nqb 2 (.string hr)) nqb 3 (.string hp)) nqb 4 (.int .i64 S.at_)) nqb 5 (.slice a1 S.op.length c1)) nqb 6 (.slice a2 S.sh.length c2)) nqb 7 (.slice a3 S.si.length c3))
      have HQ := ((((((((H.far (c := qb) nhq 0 (.int .i64 hh)).far (c := qb) nhq 1 (.int .i64 he)).far (c := qb) nhq 2 (.string hr)).far (c := qb) nhq 3 (.string hp)).far (c := qb) nhq 4 (.int .i64 S.at_)).far (c := qb) nhq 5 (.slice a1 S.op.length c1)).far (c := qb) nhq 6 (.slice a2 S.sh.length c2)).far (c := qb) nhq 7 (.slice a3 S.si.length c3))
      have MQ : Mut b w3 ((((((((y2.setCell ⟨qb, 0, none⟩ (.int .i64 hh)).setCell ⟨qb, 1, none⟩ (.int .i64 he)).setCell ⟨qb, 2, none⟩ (.string hr)).setCell ⟨qb, 3, none⟩ (.string hp)).setCell ⟨qb, 4, none⟩ (.int .i64 S.at_)).setCell ⟨qb, 5, none⟩ (.slice a1 S.op.length c1)).setCell ⟨qb, 6, none⟩ (.slice a2 S.sh.length c2)).setCell ⟨qb, 7, none⟩ (.slice a3 S.si.length c3)) := (mut_new (mut_new (mut_new (mut_new (mut_new (mut_new (mut_new (mut_new M 0 (.int .i64 hh) lq) 1 (.int .i64 he) lq) 2 (.string hr) lq) 3 (.string hp) lq) 4 (.int .i64 S.at_) lq) 5 (.slice a1 S.op.length c1) lq) 6 (.slice a2 S.sh.length c2) lq) 7 (.slice a3 S.si.length c3) lq)
      clear H
      have H := HQ
      clear HQ
      (refine wpAnyH_ready (rs := [5]) (by kernel_rfl) (by simp) ?_; refine AllReadyH.cons rfl (fun K hK => ?_) AllReadyH.nil; (try simp only [List.getElem_toArray, List.getElem_cons_zero, List.getElem_cons_succ]))
      go_simp
      clear z0 f0 z1 f1 z2 f2 z3 f3 z4 f4 z5 f5 z6 f6 z7 f7
      generalize (((((((y2.setCell ⟨qb, 0, none⟩ (.int .i64 hh)).setCell ⟨qb, 1, none⟩ (.int .i64 he)).setCell ⟨qb, 2, none⟩ (.string hr)).setCell ⟨qb, 3, none⟩ (.string hp)).setCell ⟨qb, 4, none⟩ (.int .i64 S.at_)).setCell ⟨qb, 5, none⟩ (.slice a1 S.op.length c1)).setCell ⟨qb, 6, none⟩ (.slice a2 S.sh.length c2)).setCell ⟨qb, 7, none⟩ (.slice a3 S.si.length c3) = W6 at *
      (try dsimp only)
      refine hK.out _ _ (by exact ⟨H.2.1 0 _ rfl, H.2.1 1 _ rfl, H.2.1 2 _ rfl, H.2.1 3 _ rfl⟩) (fun hHeld => ?_)
      clear hK K
      refine wpAnyH_done (by kernel_rfl) ?_ _
      go_wp2_with fail
      go_meet
      exact ⟨qb, a1, a2, a3, c1, c2, c3, rfl, lq, QQ, SQ, FQ, MQ⟩
  case rest =>
    obtain ⟨qb, a1, a2, a3, c1, c2, c3, rfl, lq, Q, SO, F4, M4⟩ := hcut
    have R4 := R3.mut M4 hwb
    have MD := MC.trans M4
    have hb4 := Nat.lt_of_lt_of_le hb3 M4.size
    have lw3 : w.heap.size < (w2.alloc (Obj.cells #[.int .i64 hh, .int .i64 he, .string hr, .string hp] 32)).heap.size := R3.1
    have nqb : qb ≠ b := by omega
    generalize wc = V at *
    clear R3 F3 H MC h0 h1 h2 h3
    have LW := Lib.hid lq
    have SO2 := SO.mono (show w.heap.size + 1 ≤ (w2.alloc (Obj.cells #[.int .i64 hh, .int .i64 he, .string hr, .string hp] 32)).heap.size from lw3)
    have hq2 : w.heap.size < qb := Nat.lt_of_lt_of_le lw3 lq
    clear SO lq LW M4
    have q0 := Q.2.1 0 _ rfl
    have q1 := Q.2.1 1 _ rfl
    have q2 := Q.2.1 2 _ rfl
    have q3 := Q.2.1 3 _ rfl
    have q4 := Q.2.1 4 _ rfl
    have q5 := Q.2.1 5 _ rfl
    have q6 := Q.2.1 6 _ rfl
    have q7 := Q.2.1 7 _ rfl
    have c2b := F4.c2
    have f2b := F4.fz 2
    have HE := Lib.hid (show badE st.2 rk S = (st.2 || (!rk || !sigWell S)) from rfl)
    cases hk1 : st.2 || !rk
    · have hst2 : st.2 = false := by cases h : st.2 <;> simp_all
      have hrk : rk = true := by cases h : rk <;> simp_all
      rw [hst2] at c2b
      have HST2 := Lib.hid hst2
      clear hk1 hst2
      subst hrk
      cases hk2 : sigWell S
      · have HK2 := Lib.hid hk2
        have HBE := Lib.hid (show badE st.2 true S = true by rw [badE, HST2.out, hk2]; rfl)
        clear hk2
        go_wp2_with fail
        refine (impl_formed _ _ _ S _ SO2.1.strs SO2.2.1.strs SO2.2.2.1.strs HF.out).mono ?_
        rw [HK2.out]
        rintro e w8 ⟨rfl, x8⟩
        clear c2b f2b q0 q1 q2 q3 q4 q5 q6 q7
        replace Q := Q.ext x8
        replace R4 := R4.ext x8
        replace SO2 := SO2.ext x8
        replace F4 := F4.ext hb4 x8
        replace MD := MD.trans (Mut.of_ext x8)
        have lb8 := Nat.lt_of_lt_of_le hb4 x8.size
        have q0 := Q.2.1 0 _ rfl
        have q1 := Q.2.1 1 _ rfl
        have q2 := Q.2.1 2 _ rfl
        have q3 := Q.2.1 3 _ rfl
        have q4 := Q.2.1 4 _ rfl
        have q5 := Q.2.1 5 _ rfl
        have q6 := Q.2.1 6 _ rfl
        have q7 := Q.2.1 7 _ rfl
        have c2b := F4.c2
        have f2b := F4.fz 2
        have FF := F4.bad true
        have MF := MD.setCell 2 (.bool true)
        have QF := Q.far (c := b) nqb.symm 2 (.bool true)
        have RF0 := R4.far (c := b) hwb.symm 2 (.bool true)
        have SF0 := SO2.mut (by omega) ((Mut.refl b w8).setCell 2 (.bool true))
        have z0 := R4.2.1 0 _ rfl
        have z1 := R4.2.1 1 _ rfl
        have z2 := R4.2.1 2 _ rfl
        have z3 := R4.2.1 3 _ rfl
        have z4 := R4.2.1 4 _ rfl
        have z5 := R4.2.1 5 _ rfl
        have z6 := R4.2.1 6 _ rfl
        have z7 := R4.2.1 7 _ rfl
        have zf0 := R4.2.2 0
        have zf1 := R4.2.2 1
        have zf2 := R4.2.2 2
        have zf3 := R4.2.2 3
        have zf4 := R4.2.2 4
        have zf5 := R4.2.2 5
        have zf6 := R4.2.2 6
        have zf7 := R4.2.2 7
        have RR := ((((((((RF0.set 0 (.int .i64 hh) (by simp)).set 1 (.int .i64 he) (by simp)).set 2 (.string hr) (by simp)).set 3 (.string hp) (by simp)).set 4 (.int .i64 S.at_) (by simp)).set 5 (.slice a1 S.op.length c1) (by simp)).set 6 (.slice a2 S.sh.length c2) (by simp)).set 7 (.slice a3 S.si.length c3) (by simp))
        have SS := ((((((((SF0.set (b := w.heap.size) (by omega) 0 (.int .i64 hh)).set (b := w.heap.size) (by omega) 1 (.int .i64 he)).set (b := w.heap.size) (by omega) 2 (.string hr)).set (b := w.heap.size) (by omega) 3 (.string hp)).set (b := w.heap.size) (by omega) 4 (.int .i64 S.at_)).set (b := w.heap.size) (by omega) 5 (.slice a1 S.op.length c1)).set (b := w.heap.size) (by omega) 6 (.slice a2 S.sh.length c2)).set (b := w.heap.size) (by omega) 7 (.slice a3 S.si.length c3))
        have FR := (fld_far (fld_far (fld_far (fld_far (fld_far (fld_far (fld_far (fld_far FF hwb 0 (.int .i64 hh)) hwb 1 (.int .i64 he)) hwb 2 (.string hr)) hwb 3 (.string hp)) hwb 4 (.int .i64 S.at_)) hwb 5 (.slice a1 S.op.length c1)) hwb 6 (.slice a2 S.sh.length c2)) hwb 7 (.slice a3 S.si.length c3))
        have MR : Mut b w (((((((((w8.setCell ⟨b, 2, none⟩ (.bool true)).setCell ⟨w.heap.size, 0, none⟩ (.int .i64 hh)).setCell ⟨w.heap.size, 1, none⟩ (.int .i64 he)).setCell ⟨w.heap.size, 2, none⟩ (.string hr)).setCell ⟨w.heap.size, 3, none⟩ (.string hp)).setCell ⟨w.heap.size, 4, none⟩ (.int .i64 S.at_)).setCell ⟨w.heap.size, 5, none⟩ (.slice a1 S.op.length c1)).setCell ⟨w.heap.size, 6, none⟩ (.slice a2 S.sh.length c2)).setCell ⟨w.heap.size, 7, none⟩ (.slice a3 S.si.length c3)) := (mut_new (mut_new (mut_new (mut_new (mut_new (mut_new (mut_new (mut_new MF 0 (.int .i64 hh)) 1 (.int .i64 he)) 2 (.string hr)) 3 (.string hp)) 4 (.int .i64 S.at_)) 5 (.slice a1 S.op.length c1)) 6 (.slice a2 S.sh.length c2)) 7 (.slice a3 S.si.length c3))
        go_wp2
        generalize ((((((((w8.setCell ⟨b, 2, none⟩ (.bool true)).setCell ⟨w.heap.size, 0, none⟩ (.int .i64 hh)).setCell ⟨w.heap.size, 1, none⟩ (.int .i64 he)).setCell ⟨w.heap.size, 2, none⟩ (.string hr)).setCell ⟨w.heap.size, 3, none⟩ (.string hp)).setCell ⟨w.heap.size, 4, none⟩ (.int .i64 S.at_)).setCell ⟨w.heap.size, 5, none⟩ (.slice a1 S.op.length c1)).setCell ⟨w.heap.size, 6, none⟩ (.slice a2 S.sh.length c2)).setCell ⟨w.heap.size, 7, none⟩ (.slice a3 S.si.length c3) = WF at *
        clear c2b f2b z0 zf0 z1 zf1 z2 zf2 z3 zf3 z4 zf4 z5 zf5 z6 zf6 z7 zf7 q0 q1 q2 q3 q4 q5 q6 q7
        have k0 := RR.2.1 0 _ rfl
        have k1 := RR.2.1 1 _ rfl
        have k2 := RR.2.1 2 _ rfl
        have k3 := RR.2.1 3 _ rfl
        have k4 := RR.2.1 4 _ rfl
        have k5 := RR.2.1 5 _ rfl
        have k6 := RR.2.1 6 _ rfl
        have k7 := RR.2.1 7 _ rfl
        refine bodyPost_ret (v := .agg #[.int .i64 hh, .int .i64 he, .string hr, .string hp, .int .i64 S.at_, .slice a1 S.op.length c1, .slice a2 S.sh.length c2, .slice a3 S.si.length c3]) (by simp [results, Tryd.results122, go_sem, k0, k1, k2, k3, k4, k5, k6, k7]) rfl ?_
        exact ⟨a1, c1, a2, c2, a3, c3, rfl, SS.mono (Nat.le_succ _), by rw [HBE.out]; exact FR, MR⟩
      · have HK2 := Lib.hid hk2
        have HBE := Lib.hid (show badE st.2 true S = false by rw [badE, HST2.out, hk2]; rfl)
        clear hk2
        go_wp2_with fail
        refine (impl_formed _ _ _ S _ SO2.1.strs SO2.2.1.strs SO2.2.2.1.strs HF.out).mono ?_
        rw [HK2.out]
        rintro e w8 ⟨rfl, x8⟩
        clear c2b f2b q0 q1 q2 q3 q4 q5 q6 q7
        replace Q := Q.ext x8
        replace R4 := R4.ext x8
        replace SO2 := SO2.ext x8
        replace F4 := F4.ext hb4 x8
        replace MD := MD.trans (Mut.of_ext x8)
        have lb8 := Nat.lt_of_lt_of_le hb4 x8.size
        have q0 := Q.2.1 0 _ rfl
        have q1 := Q.2.1 1 _ rfl
        have q2 := Q.2.1 2 _ rfl
        have q3 := Q.2.1 3 _ rfl
        have q4 := Q.2.1 4 _ rfl
        have q5 := Q.2.1 5 _ rfl
        have q6 := Q.2.1 6 _ rfl
        have q7 := Q.2.1 7 _ rfl
        have c2b := F4.c2
        have f2b := F4.fz 2
        have FF := F4.bad false
        have MF := MD.setCell 2 (.bool false)
        have QF := Q.far (c := b) nqb.symm 2 (.bool false)
        have RF0 := R4.far (c := b) hwb.symm 2 (.bool false)
        have SF0 := SO2.mut (by omega) ((Mut.refl b w8).setCell 2 (.bool false))
        have z0 := R4.2.1 0 _ rfl
        have z1 := R4.2.1 1 _ rfl
        have z2 := R4.2.1 2 _ rfl
        have z3 := R4.2.1 3 _ rfl
        have z4 := R4.2.1 4 _ rfl
        have z5 := R4.2.1 5 _ rfl
        have z6 := R4.2.1 6 _ rfl
        have z7 := R4.2.1 7 _ rfl
        have zf0 := R4.2.2 0
        have zf1 := R4.2.2 1
        have zf2 := R4.2.2 2
        have zf3 := R4.2.2 3
        have zf4 := R4.2.2 4
        have zf5 := R4.2.2 5
        have zf6 := R4.2.2 6
        have zf7 := R4.2.2 7
        have RR := ((((((((RF0.set 0 (.int .i64 hh) (by simp)).set 1 (.int .i64 he) (by simp)).set 2 (.string hr) (by simp)).set 3 (.string hp) (by simp)).set 4 (.int .i64 S.at_) (by simp)).set 5 (.slice a1 S.op.length c1) (by simp)).set 6 (.slice a2 S.sh.length c2) (by simp)).set 7 (.slice a3 S.si.length c3) (by simp))
        have SS := ((((((((SF0.set (b := w.heap.size) (by omega) 0 (.int .i64 hh)).set (b := w.heap.size) (by omega) 1 (.int .i64 he)).set (b := w.heap.size) (by omega) 2 (.string hr)).set (b := w.heap.size) (by omega) 3 (.string hp)).set (b := w.heap.size) (by omega) 4 (.int .i64 S.at_)).set (b := w.heap.size) (by omega) 5 (.slice a1 S.op.length c1)).set (b := w.heap.size) (by omega) 6 (.slice a2 S.sh.length c2)).set (b := w.heap.size) (by omega) 7 (.slice a3 S.si.length c3))
        have FR := (fld_far (fld_far (fld_far (fld_far (fld_far (fld_far (fld_far (fld_far FF hwb 0 (.int .i64 hh)) hwb 1 (.int .i64 he)) hwb 2 (.string hr)) hwb 3 (.string hp)) hwb 4 (.int .i64 S.at_)) hwb 5 (.slice a1 S.op.length c1)) hwb 6 (.slice a2 S.sh.length c2)) hwb 7 (.slice a3 S.si.length c3))
        have MR : Mut b w (((((((((w8.setCell ⟨b, 2, none⟩ (.bool false)).setCell ⟨w.heap.size, 0, none⟩ (.int .i64 hh)).setCell ⟨w.heap.size, 1, none⟩ (.int .i64 he)).setCell ⟨w.heap.size, 2, none⟩ (.string hr)).setCell ⟨w.heap.size, 3, none⟩ (.string hp)).setCell ⟨w.heap.size, 4, none⟩ (.int .i64 S.at_)).setCell ⟨w.heap.size, 5, none⟩ (.slice a1 S.op.length c1)).setCell ⟨w.heap.size, 6, none⟩ (.slice a2 S.sh.length c2)).setCell ⟨w.heap.size, 7, none⟩ (.slice a3 S.si.length c3)) := (mut_new (mut_new (mut_new (mut_new (mut_new (mut_new (mut_new (mut_new MF 0 (.int .i64 hh)) 1 (.int .i64 he)) 2 (.string hr)) 3 (.string hp)) 4 (.int .i64 S.at_)) 5 (.slice a1 S.op.length c1)) 6 (.slice a2 S.sh.length c2)) 7 (.slice a3 S.si.length c3))
        go_wp2
        generalize ((((((((w8.setCell ⟨b, 2, none⟩ (.bool false)).setCell ⟨w.heap.size, 0, none⟩ (.int .i64 hh)).setCell ⟨w.heap.size, 1, none⟩ (.int .i64 he)).setCell ⟨w.heap.size, 2, none⟩ (.string hr)).setCell ⟨w.heap.size, 3, none⟩ (.string hp)).setCell ⟨w.heap.size, 4, none⟩ (.int .i64 S.at_)).setCell ⟨w.heap.size, 5, none⟩ (.slice a1 S.op.length c1)).setCell ⟨w.heap.size, 6, none⟩ (.slice a2 S.sh.length c2)).setCell ⟨w.heap.size, 7, none⟩ (.slice a3 S.si.length c3) = WF at *
        clear c2b f2b z0 zf0 z1 zf1 z2 zf2 z3 zf3 z4 zf4 z5 zf5 z6 zf6 z7 zf7 q0 q1 q2 q3 q4 q5 q6 q7
        have k0 := RR.2.1 0 _ rfl
        have k1 := RR.2.1 1 _ rfl
        have k2 := RR.2.1 2 _ rfl
        have k3 := RR.2.1 3 _ rfl
        have k4 := RR.2.1 4 _ rfl
        have k5 := RR.2.1 5 _ rfl
        have k6 := RR.2.1 6 _ rfl
        have k7 := RR.2.1 7 _ rfl
        refine bodyPost_ret (v := .agg #[.int .i64 hh, .int .i64 he, .string hr, .string hp, .int .i64 S.at_, .slice a1 S.op.length c1, .slice a2 S.sh.length c2, .slice a3 S.si.length c3]) (by simp [results, Tryd.results122, go_sem, k0, k1, k2, k3, k4, k5, k6, k7]) rfl ?_
        exact ⟨a1, c1, a2, c2, a3, c3, rfl, SS.mono (Nat.le_succ _), by rw [HBE.out]; exact FR, MR⟩
    · have HBE := Lib.hid (show badE st.2 rk S = true by rw [badE]; cases h1 : st.2 <;> cases h2 : rk <;> simp_all)
      have HK1 := Lib.hid hk1
      have hc : (st.2 = true) ∨ (st.2 = false ∧ rk = false) := by cases h1 : st.2 <;> cases h2 : rk <;> simp_all
      clear hk1
      rcases hc with hc | ⟨hc, rfl⟩
      · rw [hc] at c2b
        clear hc
        have FF := F4.bad true
        have MF := MD.setCell 2 (.bool true)
        have QF := Q.far (c := b) nqb.symm 2 (.bool true)
        have RF0 := R4.far (c := b) hwb.symm 2 (.bool true)
        have SF0 := SO2.mut (by omega) ((Mut.refl b V).setCell 2 (.bool true))
        have z0 := R4.2.1 0 _ rfl
        have z1 := R4.2.1 1 _ rfl
        have z2 := R4.2.1 2 _ rfl
        have z3 := R4.2.1 3 _ rfl
        have z4 := R4.2.1 4 _ rfl
        have z5 := R4.2.1 5 _ rfl
        have z6 := R4.2.1 6 _ rfl
        have z7 := R4.2.1 7 _ rfl
        have zf0 := R4.2.2 0
        have zf1 := R4.2.2 1
        have zf2 := R4.2.2 2
        have zf3 := R4.2.2 3
        have zf4 := R4.2.2 4
        have zf5 := R4.2.2 5
        have zf6 := R4.2.2 6
        have zf7 := R4.2.2 7
        have RR := ((((((((RF0.set 0 (.int .i64 hh) (by simp)).set 1 (.int .i64 he) (by simp)).set 2 (.string hr) (by simp)).set 3 (.string hp) (by simp)).set 4 (.int .i64 S.at_) (by simp)).set 5 (.slice a1 S.op.length c1) (by simp)).set 6 (.slice a2 S.sh.length c2) (by simp)).set 7 (.slice a3 S.si.length c3) (by simp))
        have SS := ((((((((SF0.set (b := w.heap.size) (by omega) 0 (.int .i64 hh)).set (b := w.heap.size) (by omega) 1 (.int .i64 he)).set (b := w.heap.size) (by omega) 2 (.string hr)).set (b := w.heap.size) (by omega) 3 (.string hp)).set (b := w.heap.size) (by omega) 4 (.int .i64 S.at_)).set (b := w.heap.size) (by omega) 5 (.slice a1 S.op.length c1)).set (b := w.heap.size) (by omega) 6 (.slice a2 S.sh.length c2)).set (b := w.heap.size) (by omega) 7 (.slice a3 S.si.length c3))
        have FR := (fld_far (fld_far (fld_far (fld_far (fld_far (fld_far (fld_far (fld_far FF hwb 0 (.int .i64 hh)) hwb 1 (.int .i64 he)) hwb 2 (.string hr)) hwb 3 (.string hp)) hwb 4 (.int .i64 S.at_)) hwb 5 (.slice a1 S.op.length c1)) hwb 6 (.slice a2 S.sh.length c2)) hwb 7 (.slice a3 S.si.length c3))
        have MR : Mut b w (((((((((V.setCell ⟨b, 2, none⟩ (.bool true)).setCell ⟨w.heap.size, 0, none⟩ (.int .i64 hh)).setCell ⟨w.heap.size, 1, none⟩ (.int .i64 he)).setCell ⟨w.heap.size, 2, none⟩ (.string hr)).setCell ⟨w.heap.size, 3, none⟩ (.string hp)).setCell ⟨w.heap.size, 4, none⟩ (.int .i64 S.at_)).setCell ⟨w.heap.size, 5, none⟩ (.slice a1 S.op.length c1)).setCell ⟨w.heap.size, 6, none⟩ (.slice a2 S.sh.length c2)).setCell ⟨w.heap.size, 7, none⟩ (.slice a3 S.si.length c3)) := (mut_new (mut_new (mut_new (mut_new (mut_new (mut_new (mut_new (mut_new MF 0 (.int .i64 hh)) 1 (.int .i64 he)) 2 (.string hr)) 3 (.string hp)) 4 (.int .i64 S.at_)) 5 (.slice a1 S.op.length c1)) 6 (.slice a2 S.sh.length c2)) 7 (.slice a3 S.si.length c3))
        go_wp2
        generalize ((((((((V.setCell ⟨b, 2, none⟩ (.bool true)).setCell ⟨w.heap.size, 0, none⟩ (.int .i64 hh)).setCell ⟨w.heap.size, 1, none⟩ (.int .i64 he)).setCell ⟨w.heap.size, 2, none⟩ (.string hr)).setCell ⟨w.heap.size, 3, none⟩ (.string hp)).setCell ⟨w.heap.size, 4, none⟩ (.int .i64 S.at_)).setCell ⟨w.heap.size, 5, none⟩ (.slice a1 S.op.length c1)).setCell ⟨w.heap.size, 6, none⟩ (.slice a2 S.sh.length c2)).setCell ⟨w.heap.size, 7, none⟩ (.slice a3 S.si.length c3) = WF at *
        clear c2b f2b z0 zf0 z1 zf1 z2 zf2 z3 zf3 z4 zf4 z5 zf5 z6 zf6 z7 zf7 q0 q1 q2 q3 q4 q5 q6 q7
        have k0 := RR.2.1 0 _ rfl
        have k1 := RR.2.1 1 _ rfl
        have k2 := RR.2.1 2 _ rfl
        have k3 := RR.2.1 3 _ rfl
        have k4 := RR.2.1 4 _ rfl
        have k5 := RR.2.1 5 _ rfl
        have k6 := RR.2.1 6 _ rfl
        have k7 := RR.2.1 7 _ rfl
        refine bodyPost_ret (v := .agg #[.int .i64 hh, .int .i64 he, .string hr, .string hp, .int .i64 S.at_, .slice a1 S.op.length c1, .slice a2 S.sh.length c2, .slice a3 S.si.length c3]) (by simp [results, Tryd.results122, go_sem, k0, k1, k2, k3, k4, k5, k6, k7]) rfl ?_
        exact ⟨a1, c1, a2, c2, a3, c3, rfl, SS.mono (Nat.le_succ _), by rw [HBE.out]; exact FR, MR⟩
      · rw [hc] at c2b
        clear hc
        have FF := F4.bad true
        have MF := MD.setCell 2 (.bool true)
        have QF := Q.far (c := b) nqb.symm 2 (.bool true)
        have RF0 := R4.far (c := b) hwb.symm 2 (.bool true)
        have SF0 := SO2.mut (by omega) ((Mut.refl b V).setCell 2 (.bool true))
        have z0 := R4.2.1 0 _ rfl
        have z1 := R4.2.1 1 _ rfl
        have z2 := R4.2.1 2 _ rfl
        have z3 := R4.2.1 3 _ rfl
        have z4 := R4.2.1 4 _ rfl
        have z5 := R4.2.1 5 _ rfl
        have z6 := R4.2.1 6 _ rfl
        have z7 := R4.2.1 7 _ rfl
        have zf0 := R4.2.2 0
        have zf1 := R4.2.2 1
        have zf2 := R4.2.2 2
        have zf3 := R4.2.2 3
        have zf4 := R4.2.2 4
        have zf5 := R4.2.2 5
        have zf6 := R4.2.2 6
        have zf7 := R4.2.2 7
        have RR := ((((((((RF0.set 0 (.int .i64 hh) (by simp)).set 1 (.int .i64 he) (by simp)).set 2 (.string hr) (by simp)).set 3 (.string hp) (by simp)).set 4 (.int .i64 S.at_) (by simp)).set 5 (.slice a1 S.op.length c1) (by simp)).set 6 (.slice a2 S.sh.length c2) (by simp)).set 7 (.slice a3 S.si.length c3) (by simp))
        have SS := ((((((((SF0.set (b := w.heap.size) (by omega) 0 (.int .i64 hh)).set (b := w.heap.size) (by omega) 1 (.int .i64 he)).set (b := w.heap.size) (by omega) 2 (.string hr)).set (b := w.heap.size) (by omega) 3 (.string hp)).set (b := w.heap.size) (by omega) 4 (.int .i64 S.at_)).set (b := w.heap.size) (by omega) 5 (.slice a1 S.op.length c1)).set (b := w.heap.size) (by omega) 6 (.slice a2 S.sh.length c2)).set (b := w.heap.size) (by omega) 7 (.slice a3 S.si.length c3))
        have FR := (fld_far (fld_far (fld_far (fld_far (fld_far (fld_far (fld_far (fld_far FF hwb 0 (.int .i64 hh)) hwb 1 (.int .i64 he)) hwb 2 (.string hr)) hwb 3 (.string hp)) hwb 4 (.int .i64 S.at_)) hwb 5 (.slice a1 S.op.length c1)) hwb 6 (.slice a2 S.sh.length c2)) hwb 7 (.slice a3 S.si.length c3))
        have MR : Mut b w (((((((((V.setCell ⟨b, 2, none⟩ (.bool true)).setCell ⟨w.heap.size, 0, none⟩ (.int .i64 hh)).setCell ⟨w.heap.size, 1, none⟩ (.int .i64 he)).setCell ⟨w.heap.size, 2, none⟩ (.string hr)).setCell ⟨w.heap.size, 3, none⟩ (.string hp)).setCell ⟨w.heap.size, 4, none⟩ (.int .i64 S.at_)).setCell ⟨w.heap.size, 5, none⟩ (.slice a1 S.op.length c1)).setCell ⟨w.heap.size, 6, none⟩ (.slice a2 S.sh.length c2)).setCell ⟨w.heap.size, 7, none⟩ (.slice a3 S.si.length c3)) := (mut_new (mut_new (mut_new (mut_new (mut_new (mut_new (mut_new (mut_new MF 0 (.int .i64 hh)) 1 (.int .i64 he)) 2 (.string hr)) 3 (.string hp)) 4 (.int .i64 S.at_)) 5 (.slice a1 S.op.length c1)) 6 (.slice a2 S.sh.length c2)) 7 (.slice a3 S.si.length c3))
        go_wp2
        generalize ((((((((V.setCell ⟨b, 2, none⟩ (.bool true)).setCell ⟨w.heap.size, 0, none⟩ (.int .i64 hh)).setCell ⟨w.heap.size, 1, none⟩ (.int .i64 he)).setCell ⟨w.heap.size, 2, none⟩ (.string hr)).setCell ⟨w.heap.size, 3, none⟩ (.string hp)).setCell ⟨w.heap.size, 4, none⟩ (.int .i64 S.at_)).setCell ⟨w.heap.size, 5, none⟩ (.slice a1 S.op.length c1)).setCell ⟨w.heap.size, 6, none⟩ (.slice a2 S.sh.length c2)).setCell ⟨w.heap.size, 7, none⟩ (.slice a3 S.si.length c3) = WF at *
        clear c2b f2b z0 zf0 z1 zf1 z2 zf2 z3 zf3 z4 zf4 z5 zf5 z6 zf6 z7 zf7 q0 q1 q2 q3 q4 q5 q6 q7
        have k0 := RR.2.1 0 _ rfl
        have k1 := RR.2.1 1 _ rfl
        have k2 := RR.2.1 2 _ rfl
        have k3 := RR.2.1 3 _ rfl
        have k4 := RR.2.1 4 _ rfl
        have k5 := RR.2.1 5 _ rfl
        have k6 := RR.2.1 6 _ rfl
        have k7 := RR.2.1 7 _ rfl
        refine bodyPost_ret (v := .agg #[.int .i64 hh, .int .i64 he, .string hr, .string hp, .int .i64 S.at_, .slice a1 S.op.length c1, .slice a2 S.sh.length c2, .slice a3 S.si.length c3]) (by simp [results, Tryd.results122, go_sem, k0, k1, k2, k3, k4, k5, k6, k7]) rfl ?_
        exact ⟨a1, c1, a2, c2, a3, c3, rfl, SS.mono (Nat.le_succ _), by rw [HBE.out]; exact FR, MR⟩
end Go.Proofs.YtliebkhfddmhjaaDoor
namespace Go.Proofs.YtliebkhfddmhjaaDoor
open Go.RowKit

theorem xt_size (t : ByteArray) (e : Nat) (h : e ≤ t.size) : (t.extract e t.size).size = t.size - e := by rw [ByteArray.size_extract]; omega
theorem xt_xt {t : ByteArray} {e i j : Nat} (h : e + j ≤ t.size) : (t.extract e t.size).extract i j = t.extract (e + i) (e + j) := by
  apply ba_ext
  rw [ba_extract, ba_extract, ba_extract, List.drop_take, List.drop_drop, List.take_take]
  congr 1
  omega
theorem one_xt {t : ByteArray} {e : Nat} (h : e < t.size) : oneOf (t.extract e t.size) 0 false = oneOf t e false := by
  have h1 := one_at t e h
  have h2 := one_at (t.extract e t.size) 0 (by rw [xt_size t e (by omega)]; omega)
  rw [show ((0 : Nat) : Int) = 0 from rfl] at h2
  rw [h1, h2, ba_extract]
  have hl : e < t.data.toList.length := by rw [ba_len]; exact h
  rw [List.drop_eq_getElem_cons hl, List.getD_eq_getElem?_getD, List.getD_eq_getElem?_getD, List.getElem?_eq_getElem hl]
  rw [show t.size - e = (t.size - e - 1) + 1 by omega, List.take_succ_cons]
  rfl
theorem rsV_xt {t : ByteArray} {e : Nat} (h : e + 321 ≤ t.size) : rsV (t.extract e t.size) 0 = rsV t e := by
  rw [rsV, rsV, show ((0 : Nat) : Int) = 0 from rfl, one_xt (by omega)]
  have hc : ∀ a n, a + n * 16 ≤ 321 → cutL (t.extract e t.size) (0 + a) n = cutL t (e + a) n := by
    intro a n hn
    rw [cutL, cutL]
    refine List.map_congr_left fun j hj => ?_
    rw [List.mem_range] at hj
    rw [xt_xt (by omega)]
    congr 1 <;> omega
  rw [hc 1 8 (by omega), hc 129 8 (by omega), hc 257 4 (by omega)]
theorem rdSig_xt {t : ByteArray} {e : Nat} (h : e ≤ t.size) : rdSig (t.extract e t.size) = (decide (e + 321 = t.size) && decide (oneOf t e false ≤ 15)) := by
  rw [rdSig, xt_size t e h]
  by_cases h2 : e + 321 = t.size
  · rw [decide_eq_true (by omega), decide_eq_true h2, one_xt (by omega)]
  · rw [decide_eq_false (by omega), decide_eq_false h2]; rfl
theorem shAt_yes {t : ByteArray} {a : Int} (h : rsOk t a = true) : shAt t a = rsE t a := by rw [shAt, if_pos h]
theorem shAt_no {t : ByteArray} {a : Int} (h : rsOk t a = false) : shAt t a = a := by rw [shAt, if_neg (by rw [h]; decide)]
/-- what the program's ReadSeal asks is what a signed head's text is -/
theorem se_done (t : ByteArray) : doneB t (sgS4 t (shAt t 0) (false || !rsOk t 0)).1 (badE (sgS4 t (shAt t 0) (false || !rsOk t 0)).2 (rdHead (rsT t 0)) (sgRd t (shAt t 0) (false || !rsOk t 0))) = seOk t := by
  cases hok : rsOk t 0
  · rw [shAt_no hok, seOk, hok]
    have hb : (sgS4 t 0 (false || !false)).2 = true := by
      cases hb : (sgS4 t 0 (false || !false)).2 with
      | true => rfl
      | false => have := (sgS4_false (t := t) (a := 0) (by omega) hb).1; simp at this
    rw [doneB, badE, hb]
    rfl
  · have he := rsE_bd t 0
    rw [shAt_yes hok, seOk, hok]
    generalize rsE t 0 = e at *
    cases hk : rdHead (rsT t 0)
    · rw [doneB, badE]; simp
    · have hle : e ≤ t.size := by omega
      rw [rdSig_xt hle]
      show doneB t (sgS4 t e false).1 (badE (sgS4 t e false).2 true (sgRd t e false)) = (true && (true && _))
      by_cases h : e + 321 ≤ t.size
      · obtain ⟨e1, e2⟩ := sgRd_yes h
        rw [e1, e2, doneB, badE, rsV_well h, Bool.eq_iff_iff]
        simp
        omega
      · have hb : (sgS4 t e false).2 = true := by
          cases hb : (sgS4 t e false).2 with
          | true => rfl
          | false => exact absurd (sgS4_false hle hb).2 h
        rw [doneB, badE, hb, decide_eq_false (show ¬ e + 321 = t.size by omega)]
        rfl
theorem se_val {t : ByteArray} (h : seOk t = true) : seI t = hdH (rsT t 0) ∧ seE t = hdE (rsT t 0) ∧ seR t = hdR (rsT t 0) ∧ seP t = hdP (rsT t 0) ∧ seV t = sgRd t (shAt t 0) (false || !rsOk t 0) := by
  obtain ⟨h1, h2, h3, h4, h5⟩ := se_yes h
  refine ⟨h1, h2, h3, h4, ?_⟩
  have h' := h
  rw [seOk, Bool.and_eq_true, Bool.and_eq_true] at h'
  obtain ⟨k1, k2, k3⟩ := h'
  have he := rsE_bd t 0
  rw [h5, k1, shAt_yes k1]
  have hle : rsE t 0 ≤ t.size := by omega
  have k3' := k3
  rw [rdSig_xt hle, Bool.and_eq_true, decide_eq_true_eq] at k3'
  rw [rdSigV_yes k3, rsV_xt (by omega)]
  exact (sgRd_yes (by omega)).1.symm
/-- the text of what was read is what was read -/
theorem se_text {t : ByteArray} (h : seOk t = true) : sealOk (seI t) (seE t) (seR t) (seP t) (seV t) = true ∧ sealT (seI t) (seE t) (seR t) (seP t) (seV t) = t := by
  obtain ⟨h1, h2, h3, h4, h5⟩ := se_yes h
  rw [seOk, Bool.and_eq_true, Bool.and_eq_true] at h
  obtain ⟨k1, k2, k3⟩ := h
  obtain ⟨b1, b2⟩ := text_back k2
  obtain ⟨c1, c2⟩ := rdSig_text k3
  rw [h1, h2, h3, h4, h5]
  have hs : sealOk (hdH (rsT t 0)) (hdE (rsT t 0)) (hdR (rsT t 0)) (hdP (rsT t 0)) (rdSigV (t.extract (rsE t 0) t.size)) = true := by rw [sealOk, b1, c1]; rfl
  refine ⟨hs, ?_⟩
  rw [sealT_yes hs, b2, c2]
  have hr := rs_text (t := t) (a := 0) k1
  rw [show ((0 : Nat) : Int) = 0 from rfl] at hr
  rw [← hr.1, xt_app (by omega) hr.2.2]
  exact xt_all t
set_option maxRecDepth 100000 in
set_option maxHeartbeats 3200000 in
theorem impl_ReadSeal (t : ByteArray) (w : World) (hs : t.size ≤ 1099511627776) :
    Calls Tryd.prog 46 #[.string t] w fun e w' => ∃ a1 c1 a2 c2 a3 c3, e = .returned (.tuple #[.agg #[.int .i64 (seI t), .int .i64 (seE t), .string (seR t), .string (seP t), .int .i64 (seV t).at_, .slice a1 (seV t).op.length c1, .slice a2 (seV t).sh.length c2, .slice a3 (seV t).si.length c3], .bool (seOk t)]) ∧ SigOwn w' w.heap.size (.slice a1 (seV t).op.length c1) (.slice a2 (seV t).sh.length c2) (.slice a3 (seV t).si.length c3) (seV t) ∧ Ext w w' := by
  have HNO := Lib.hid (fun h => se_no (t := t) h)
  have HYE := Lib.hid (fun h => se_val (t := t) h)
  have HDN := Lib.hid (se_done t)
  generalize seOk t = so at *
  generalize seI t = vi at *
  generalize seE t = ve at *
  generalize seR t = vr at *
  generalize seP t = vp at *
  generalize seV t = vs at *
  have x0 : Ext w ((w.alloc (Obj.cells #[.int .i64 0, .int .i64 0, .string ⟨#[]⟩, .string ⟨#[]⟩, .int .i64 0, .slice none 0 0, .slice none 0 0, .slice none 0 0] 39)).alloc (Obj.cells #[.string t, .int .i64 0, .bool false] 108)) := ((Ext.refl w).alloc _).alloc _
  have R : Bx ((w.alloc (Obj.cells #[.int .i64 0, .int .i64 0, .string ⟨#[]⟩, .string ⟨#[]⟩, .int .i64 0, .slice none 0 0, .slice none 0 0, .slice none 0 0] 39)).alloc (Obj.cells #[.string t, .int .i64 0, .bool false] 108)) w.heap.size [.int .i64 0, .int .i64 0, .string ⟨#[]⟩, .string ⟨#[]⟩, .int .i64 0, .slice none 0 0, .slice none 0 0, .slice none 0 0] := (Bx.new w _ _).ext ((Ext.refl _).alloc _)
  have B : Bx ((w.alloc (Obj.cells #[.int .i64 0, .int .i64 0, .string ⟨#[]⟩, .string ⟨#[]⟩, .int .i64 0, .slice none 0 0, .slice none 0 0, .slice none 0 0] 39)).alloc (Obj.cells #[.string t, .int .i64 0, .bool false] 108)) (w.heap.size + 1) [.string t, .int .i64 0, .bool false] := by have e := Bx.new (w.alloc (Obj.cells #[.int .i64 0, .int .i64 0, .string ⟨#[]⟩, .string ⟨#[]⟩, .int .i64 0, .slice none 0 0, .slice none 0 0, .slice none 0 0] 39)) #[.string t, .int .i64 0, .bool false] 108; rw [World.size_alloc] at e; exact e
  go_enter Tryd.func46, Tryd.ntmps46
  go_wp2_with fail
  generalize (w.alloc (Obj.cells #[.int .i64 0, .int .i64 0, .string ⟨#[]⟩, .string ⟨#[]⟩, .int .i64 0, .slice none 0 0, .slice none 0 0, .slice none 0 0] 39)).alloc (Obj.cells #[.string t, .int .i64 0, .bool false] 108) = W0 at *
  have F : Fld W0 (w.heap.size + 1) t 0 false := ⟨B.2.1 0 _ rfl, B.2.1 1 _ rfl, B.2.1 2 _ rfl, B.2.2⟩
  refine (impl_fields_seal (w.heap.size + 1) t 0 false _ F B.1 (by omega) hs).mono ?_
  generalize hdH (rsT t 0) = hh at *
  generalize hdE (rsT t 0) = he at *
  generalize hdR (rsT t 0) = hr at *
  generalize hdP (rsT t 0) = hp at *
  generalize sgRd t (shAt t 0) (false || !rsOk t 0) = S at *
  generalize sgS4 t (shAt t 0) (false || !rsOk t 0) = st at *
  generalize rdHead (rsT t 0) = rk at *
  generalize badE st.2 rk S = bd at *
  rintro e w1 ⟨a1, c1, a2, c2, a3, c3, rfl, so1, F1, M1⟩
  have R1 := R.mut M1 (by omega)
  have X1 : Ext w w1 := x0.mut M1 (by omega)
  have z1 := Nat.lt_of_lt_of_le B.1 M1.size
  have SO1 := so1.mono (show w.heap.size + 2 ≤ W0.heap.size from B.1)
  clear R F so1
  have e1 : Ext w1 (w1.alloc (Obj.cells #[.int .i64 hh, .int .i64 he, .string hr, .string hp, .int .i64 S.at_, .slice a1 S.op.length c1, .slice a2 S.sh.length c2, .slice a3 S.si.length c3] 39)) := (Ext.refl _).alloc _
  have Q := Bx.new w1 #[.int .i64 hh, .int .i64 he, .string hr, .string hp, .int .i64 S.at_, .slice a1 S.op.length c1, .slice a2 S.sh.length c2, .slice a3 S.si.length c3] 39
  have R := R1.ext e1
  have X := X1.trans e1
  have SO := SO1.ext e1
  have F2 := F1.ext z1 e1
  clear R1 X1 SO1 F1
  cases hk : doneB t st.1 bd
  · have HSO := Lib.hid (hk.symm.trans HDN.out)
    have HK := Lib.hid hk
    clear hk HDN
    have HV := Lib.hid (HNO.out HSO.out.symm)
    go_wp2_with fail
    generalize w1.alloc (Obj.cells #[.int .i64 hh, .int .i64 he, .string hr, .string hp, .int .i64 S.at_, .slice a1 S.op.length c1, .slice a2 S.sh.length c2, .slice a3 S.si.length c3] 39) = W2 at *
    refine (impl_fields_done _ t st.1 bd _ F2).mono ?_
    rw [HK.out]
    rintro e w3 ⟨rfl, x3⟩
    replace R := R.ext x3
    replace X := X.trans x3
    replace SO := SO.ext x3
    replace Q := Q.ext x3
    have z0 := R.2.1 0 _ rfl
    have z1 := R.2.1 1 _ rfl
    have z2 := R.2.1 2 _ rfl
    have z3 := R.2.1 3 _ rfl
    have z4 := R.2.1 4 _ rfl
    have z5 := R.2.1 5 _ rfl
    have z6 := R.2.1 6 _ rfl
    have z7 := R.2.1 7 _ rfl
    have f0 := R.2.2 0
    have f1 := R.2.2 1
    have f2 := R.2.2 2
    have f3 := R.2.2 3
    have f4 := R.2.2 4
    have f5 := R.2.2 5
    have f6 := R.2.2 6
    have f7 := R.2.2 7
    have XF : Ext w ((((((((w3.setCell ⟨w.heap.size, 0, none⟩ (.int .i64 0)).setCell ⟨w.heap.size, 1, none⟩ (.int .i64 0)).setCell ⟨w.heap.size, 2, none⟩ (.string ⟨#[]⟩)).setCell ⟨w.heap.size, 3, none⟩ (.string ⟨#[]⟩)).setCell ⟨w.heap.size, 4, none⟩ (.int .i64 0)).setCell ⟨w.heap.size, 5, none⟩ (.slice none 0 0)).setCell ⟨w.heap.size, 6, none⟩ (.slice none 0 0)).setCell ⟨w.heap.size, 7, none⟩ (.slice none 0 0)) := ((((((((X.setCell (by dsimp only; omega) _).setCell (by dsimp only; omega) _).setCell (by dsimp only; omega) _).setCell (by dsimp only; omega) _).setCell (by dsimp only; omega) _).setCell (by dsimp only; omega) _).setCell (by dsimp only; omega) _).setCell (by dsimp only; omega) _)
    have RF := ((((((((R.set 0 (.int .i64 0) (by simp)).set 1 (.int .i64 0) (by simp)).set 2 (.string ⟨#[]⟩) (by simp)).set 3 (.string ⟨#[]⟩) (by simp)).set 4 (.int .i64 0) (by simp)).set 5 (.slice none 0 0) (by simp)).set 6 (.slice none 0 0) (by simp)).set 7 (.slice none 0 0) (by simp))
    go_wp2
    generalize (((((((w3.setCell ⟨w.heap.size, 0, none⟩ (.int .i64 0)).setCell ⟨w.heap.size, 1, none⟩ (.int .i64 0)).setCell ⟨w.heap.size, 2, none⟩ (.string ⟨#[]⟩)).setCell ⟨w.heap.size, 3, none⟩ (.string ⟨#[]⟩)).setCell ⟨w.heap.size, 4, none⟩ (.int .i64 0)).setCell ⟨w.heap.size, 5, none⟩ (.slice none 0 0)).setCell ⟨w.heap.size, 6, none⟩ (.slice none 0 0)).setCell ⟨w.heap.size, 7, none⟩ (.slice none 0 0) = WF at *
    clear z0 f0 z1 f1 z2 f2 z3 f3 z4 f4 z5 f5 z6 f6 z7 f7
    have k0 := RF.2.1 0 _ rfl
    have k1 := RF.2.1 1 _ rfl
    have k2 := RF.2.1 2 _ rfl
    have k3 := RF.2.1 3 _ rfl
    have k4 := RF.2.1 4 _ rfl
    have k5 := RF.2.1 5 _ rfl
    have k6 := RF.2.1 6 _ rfl
    have k7 := RF.2.1 7 _ rfl
    refine bodyPost_ret (v := .tuple #[.agg #[.int .i64 0, .int .i64 0, .string ⟨#[]⟩, .string ⟨#[]⟩, .int .i64 0, .slice none 0 0, .slice none 0 0, .slice none 0 0], .bool false]) (by simp [results, Tryd.results46, go_sem, k0, k1, k2, k3, k4, k5, k6, k7]) rfl ?_
    rw [HV.out.1, HV.out.2.1, HV.out.2.2.1, HV.out.2.2.2.1, HV.out.2.2.2.2, ← HSO.out]
    exact ⟨none, 0, none, 0, none, 0, rfl, sigOwn_nil _ _, XF⟩
  · have HSO := Lib.hid (hk.symm.trans HDN.out)
    have HK := Lib.hid hk
    clear hk HDN
    have HV := Lib.hid (HYE.out HSO.out.symm)
    go_wp2_with fail
    generalize w1.alloc (Obj.cells #[.int .i64 hh, .int .i64 he, .string hr, .string hp, .int .i64 S.at_, .slice a1 S.op.length c1, .slice a2 S.sh.length c2, .slice a3 S.si.length c3] 39) = W2 at *
    refine (impl_fields_done _ t st.1 bd _ F2).mono ?_
    rw [HK.out]
    rintro e w3 ⟨rfl, x3⟩
    replace R := R.ext x3
    replace X := X.trans x3
    replace SO := SO.ext x3
    replace Q := Q.ext x3
    have q0 := Q.2.1 0 _ rfl
    have q1 := Q.2.1 1 _ rfl
    have q2 := Q.2.1 2 _ rfl
    have q3 := Q.2.1 3 _ rfl
    have q4 := Q.2.1 4 _ rfl
    have q5 := Q.2.1 5 _ rfl
    have q6 := Q.2.1 6 _ rfl
    have q7 := Q.2.1 7 _ rfl
    have z0 := R.2.1 0 _ rfl
    have z1 := R.2.1 1 _ rfl
    have z2 := R.2.1 2 _ rfl
    have z3 := R.2.1 3 _ rfl
    have z4 := R.2.1 4 _ rfl
    have z5 := R.2.1 5 _ rfl
    have z6 := R.2.1 6 _ rfl
    have z7 := R.2.1 7 _ rfl
    have f0 := R.2.2 0
    have f1 := R.2.2 1
    have f2 := R.2.2 2
    have f3 := R.2.2 3
    have f4 := R.2.2 4
    have f5 := R.2.2 5
    have f6 := R.2.2 6
    have f7 := R.2.2 7
    have XF : Ext w ((((((((w3.setCell ⟨w.heap.size, 0, none⟩ (.int .i64 hh)).setCell ⟨w.heap.size, 1, none⟩ (.int .i64 he)).setCell ⟨w.heap.size, 2, none⟩ (.string hr)).setCell ⟨w.heap.size, 3, none⟩ (.string hp)).setCell ⟨w.heap.size, 4, none⟩ (.int .i64 S.at_)).setCell ⟨w.heap.size, 5, none⟩ (.slice a1 S.op.length c1)).setCell ⟨w.heap.size, 6, none⟩ (.slice a2 S.sh.length c2)).setCell ⟨w.heap.size, 7, none⟩ (.slice a3 S.si.length c3)) := ((((((((X.setCell (by dsimp only; omega) _).setCell (by dsimp only; omega) _).setCell (by dsimp only; omega) _).setCell (by dsimp only; omega) _).setCell (by dsimp only; omega) _).setCell (by dsimp only; omega) _).setCell (by dsimp only; omega) _).setCell (by dsimp only; omega) _)
    have RF := ((((((((R.set 0 (.int .i64 hh) (by simp)).set 1 (.int .i64 he) (by simp)).set 2 (.string hr) (by simp)).set 3 (.string hp) (by simp)).set 4 (.int .i64 S.at_) (by simp)).set 5 (.slice a1 S.op.length c1) (by simp)).set 6 (.slice a2 S.sh.length c2) (by simp)).set 7 (.slice a3 S.si.length c3) (by simp))
    have SF := ((((((((SO.set (b := w.heap.size) (by omega) 0 (.int .i64 hh)).set (b := w.heap.size) (by omega) 1 (.int .i64 he)).set (b := w.heap.size) (by omega) 2 (.string hr)).set (b := w.heap.size) (by omega) 3 (.string hp)).set (b := w.heap.size) (by omega) 4 (.int .i64 S.at_)).set (b := w.heap.size) (by omega) 5 (.slice a1 S.op.length c1)).set (b := w.heap.size) (by omega) 6 (.slice a2 S.sh.length c2)).set (b := w.heap.size) (by omega) 7 (.slice a3 S.si.length c3))
    go_wp2
    generalize (((((((w3.setCell ⟨w.heap.size, 0, none⟩ (.int .i64 hh)).setCell ⟨w.heap.size, 1, none⟩ (.int .i64 he)).setCell ⟨w.heap.size, 2, none⟩ (.string hr)).setCell ⟨w.heap.size, 3, none⟩ (.string hp)).setCell ⟨w.heap.size, 4, none⟩ (.int .i64 S.at_)).setCell ⟨w.heap.size, 5, none⟩ (.slice a1 S.op.length c1)).setCell ⟨w.heap.size, 6, none⟩ (.slice a2 S.sh.length c2)).setCell ⟨w.heap.size, 7, none⟩ (.slice a3 S.si.length c3) = WF at *
    clear z0 f0 z1 f1 z2 f2 z3 f3 z4 f4 z5 f5 z6 f6 z7 f7
    have k0 := RF.2.1 0 _ rfl
    have k1 := RF.2.1 1 _ rfl
    have k2 := RF.2.1 2 _ rfl
    have k3 := RF.2.1 3 _ rfl
    have k4 := RF.2.1 4 _ rfl
    have k5 := RF.2.1 5 _ rfl
    have k6 := RF.2.1 6 _ rfl
    have k7 := RF.2.1 7 _ rfl
    refine bodyPost_ret (v := .tuple #[.agg #[.int .i64 hh, .int .i64 he, .string hr, .string hp, .int .i64 S.at_, .slice a1 S.op.length c1, .slice a2 S.sh.length c2, .slice a3 S.si.length c3], .bool true]) (by simp [results, Tryd.results46, go_sem, k0, k1, k2, k3, k4, k5, k6, k7]) rfl ?_
    rw [HV.out.1, HV.out.2.1, HV.out.2.2.1, HV.out.2.2.2.1, HV.out.2.2.2.2, ← HSO.out]
    exact ⟨a1, c1, a2, c2, a3, c3, rfl, SF.mono (by omega), XF⟩
theorem rdSigV_fit (t : ByteArray) : SigFit (rdSigV t) := by
  rw [rdSigV]
  split
  · refine ⟨fun s hs => Nat.le_trans (cutL_le t _ _ s hs) (by decide), fun s hs => Nat.le_trans (cutL_le t _ _ s hs) (by decide), fun s hs => Nat.le_trans (cutL_le t _ _ s hs) (by decide)⟩
  · exact ⟨fun s hs => by simp at hs, fun s hs => by simp at hs, fun s hs => by simp at hs⟩
end Go.Proofs.YtliebkhfddmhjaaDoor
