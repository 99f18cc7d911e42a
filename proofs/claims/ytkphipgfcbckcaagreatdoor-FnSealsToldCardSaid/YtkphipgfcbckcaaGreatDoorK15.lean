/- FnSealsTold returns true for every input, the two listed tables tied to the program: the walk lifted to the given card. No condition. -/
import Derived.Test.YtkphipgfcbckcaaGreatDoorK14
import Derived.ProofKit
import Derived.OpenShut
import Derived.Deep.Slices
import Derived.Lib.LaidTab
import Derived.Stop.LaidErr
import Derived.Deep.DeepHandedRow
import Derived.Deep.DeepCutAuto
import Derived.Test.YtkphipgfcbckcaaGreatDoorTie
import Derived.Test.YtkphipgfcbckcaaGreatDoorCards
namespace Go.Proofs.YtkphipgfcbckcaaGreatDoor
open Go.ChangeShapes Go.WideShapes Go.ChangeAt Go.RowKit

inductive Ty where
  | int (k : IntKind)
  | str
  | sl (e : Ty)
  | nil
  | cons (f r : Ty)

def Ty.n : Ty → Nat
  | .int _ => 1
  | .str => 1
  | .sl _ => 1
  | .nil => 0
  | .cons f r => f.n + r.n

def Rd (w : World) : Ty → List Value → Prop
  | .int k, cs => ∃ n, cs = [.int k n] ∧ (Lit.int k n).wf = true
  | .str, cs => ∃ s, cs = [.string s] ∧ s.size ≤ maxLen
  | .sl e, cs => ∃ v len flat, cs = [v] ∧ Row w e.n v len flat ∧ ∀ i, i < len → Rd w e ((flat.drop (i * e.n)).take e.n)
  | .nil, cs => cs = []
  | .cons f r, cs => cs.length = f.n + r.n ∧ Rd w f (cs.take f.n) ∧ Rd w r (cs.drop f.n)

theorem Rd.length {w : World} : ∀ (T : Ty) (cs : List Value), Rd w T cs → cs.length = T.n
  | .int _, cs, h => by obtain ⟨n, rfl, _⟩ := h; rfl
  | .str, cs, h => by obtain ⟨s, rfl, _⟩ := h; rfl
  | .sl _, cs, h => by obtain ⟨v, l, fl, rfl, _⟩ := h; rfl
  | .nil, cs, h => by have h' : cs = [] := h; rw [h']; rfl
  | .cons f r, cs, h => h.1

def tyG (P : Program) : Ty → (TypeId ⊕ (List Field × Nat)) → Bool
  | .int k, .inl t => match P.underlying t with | some (.int k') => decide (k = k') | _ => false
  | .str, .inl t => match P.underlying t with | some .string => true | _ => false
  | .sl e, .inl t => match P.underlying t with | some (.slice u) => decide (P.cellsOf u = e.n) && decide (0 < e.n) && tyG P e (.inl u) | _ => false
  | .nil, .inr (fs, _) => fs.isEmpty
  | .cons f r, .inl t => match P.underlying t with
    | some (.struct fs) => (match fs.toList with
      | fd :: fds => decide (P.cellsOf t = f.n + r.n) && decide (fd.offset = 0) && decide (P.cellsOf fd.type = f.n) && tyG P f (.inl fd.type) && tyG P r (.inr (fds, f.n))
      | [] => false)
    | _ => false
  | .cons f r, .inr (fs, off) => match fs with
    | fd :: fds => decide (fd.offset = off) && decide (P.cellsOf fd.type = f.n) && tyG P f (.inl fd.type) && tyG P r (.inr (fds, off + f.n))
    | [] => false
  | _, _ => false

section
variable {H : Type} {enc : TypeId × Value → H} {P : Program} {w : World} {base : Nat} {spare : Nat → Bool} {held : Bool}

theorem plain_add {w : World} {a : Addr} {i : Nat} {u : Value} (h : w.cell? (a.add i) = some u) : a.add i = ⟨a.block, a.off + i, none⟩ := by
  unfold Addr.add at h ⊢
  split
  · next h0 =>
    subst h0
    rw [if_pos rfl] at h
    have hs : a.spot = none := by
      unfold World.cell? at h
      cases hsp : a.spot with
      | none => rfl
      | some x => split at h <;> simp [hsp] at h
    cases a; simp_all
  · rfl

theorem rd_of (hsp : ∀ b, spare b = true) : ∀ (T : Ty),
    (∀ t fuel cs x, tyG P T (.inl t) = true → DataW.trod enc P w base spare held fuel t cs = some x → Rd w T cs) ∧
    (∀ fs off (cs : List Value), tyG P T (.inr (fs, off)) = true → cs.length = off + T.n →
      (∀ fd ∈ fs, ∃ n x, DataW.trod enc P w base spare held n fd.type ((cs.drop fd.offset).take (P.cellsOf fd.type)) = some x) → Rd w T (cs.drop off))
  | .int k => by
    refine ⟨fun t fuel cs x ht h => ?_, fun fs off cs ht => by simp [tyG] at ht⟩
    simp only [tyG] at ht
    split at ht <;> simp at ht
    rename_i k' hk
    subst ht
    obtain ⟨n, rfl, _, hw⟩ := DataW.trod_int hk h
    exact ⟨n, rfl, hw⟩
  | .str => by
    refine ⟨fun t fuel cs x ht h => ?_, fun fs off cs ht => by simp [tyG] at ht⟩
    simp only [tyG] at ht
    split at ht <;> simp at ht
    rename_i hk
    obtain ⟨s, rfl, _, hw⟩ := DataW.trod_string hk h
    exact ⟨s, rfl, hw⟩
  | .sl e => by
    refine ⟨fun t fuel cs x ht h => ?_, fun fs off cs ht => by simp [tyG] at ht⟩
    simp only [tyG] at ht
    split at ht <;> simp at ht
    rename_i u hu
    obtain ⟨⟨hn, hpos⟩, hT⟩ := ht
    rcases Deep.open_slice hu h with ⟨rfl, -⟩ | ⟨a, len, cap, m, n, D, Pl, rfl, -, hlc, hcm, hm, -, hel⟩
    · exact ⟨_, 0, [], rfl, ⟨by simp, none, 0, rfl, Nat.le_refl _, Nat.zero_le _, Or.inl rfl⟩, fun i hi => absurd hi (Nat.not_lt_zero _)⟩
    · rw [if_pos (hsp _)] at hm
      subst hm
      rw [hn] at hel
      have hch : ∀ i, i < len → ∃ cs' : List Value, cs'.length = e.n ∧ (∀ j u, cs'[j]? = some u → w.cell? (a.add (i * e.n + j)) = some u) ∧ Rd w e cs' := by
        intro i hi
        obtain ⟨cs', hc, htr⟩ := hel i (by omega)
        obtain ⟨-, hl, hg⟩ := World.cells?_some hc
        refine ⟨cs', hl, fun j u hu => ?_, (rd_of hsp e).1 u n cs' _ hT htr⟩
        have hj : j < e.n := by
          rw [← hl]; exact (List.getElem?_eq_some_iff.1 hu).1
        rw [← Deep.add_add, hg j hj, hu]
      obtain ⟨F, hF⟩ := Deep.choose_lt hch
      have hflat : ∀ k, k ≤ len → ((List.range k).flatMap F).length = k * e.n := by
        intro k hk
        induction k with
        | zero => simp
        | succ k ih => rw [List.range_succ, List.flatMap_append, List.length_append, ih (by omega)]; simp [(hF k (by omega)).1, Nat.add_mul]
      have hsplit : ∀ i, i < len → ((List.range len).flatMap F) = (List.range i).flatMap F ++ (F i ++ ((List.range (len - i - 1)).map (i + 1 + ·)).flatMap F) := by
        intro i hi
        rw [Deep.range_split (show i + 1 ≤ len by omega), List.range_succ, List.flatMap_append, List.flatMap_append, List.append_assoc]
        simp [Nat.sub_sub]
      have hcut : ∀ i, i < len → ((((List.range len).flatMap F).drop (i * e.n)).take e.n) = F i := by
        intro i hi
        rw [hsplit i hi, List.drop_left' (hflat i (by omega)), List.take_left' (hF i hi).1]
      refine ⟨_, len, (List.range len).flatMap F, rfl, ⟨hflat len (Nat.le_refl _), some a, m, rfl, hlc, hcm, ?_⟩, fun i hi => by rw [hcut i hi]; exact (hF i hi).2.2⟩
      by_cases h0 : len = 0
      · exact Or.inl h0
      · have hall : ∀ j u, ((List.range len).flatMap F)[j]? = some u → w.cell? (a.add j) = some u := by
          intro j u hu
          have hj : j < len * e.n := by
            have := (List.getElem?_eq_some_iff.1 hu).1
            rwa [hflat len (Nat.le_refl _)] at this
          have hi : j / e.n < len := Nat.div_lt_of_lt_mul (by rwa [Nat.mul_comm])
          have hm := Nat.div_add_mod j e.n
          have hr := Nat.mod_lt j hpos
          have hget : (F (j / e.n))[j % e.n]? = some u := by
            rw [← hcut _ hi, List.getElem?_take_of_lt hr, List.getElem?_drop]
            rwa [show j / e.n * e.n + j % e.n = j by rw [Nat.mul_comm]; exact hm]
          have := (hF _ hi).2.1 _ _ hget
          rwa [show j / e.n * e.n + j % e.n = j by rw [Nat.mul_comm]; exact hm] at this
        have h0' : 0 < ((List.range len).flatMap F).length := by
          rw [hflat len (Nat.le_refl _)]; exact Nat.mul_pos (by omega) hpos
        have hz := hall 0 _ (List.getElem?_eq_getElem h0')
        have hb := World.block_lt_of_cell? w _ hz
        have hsp0 : a = ⟨a.block, a.off, none⟩ := by
          have := plain_add hz
          simpa [Addr.add] using this
        refine Or.inr ⟨a.block, a.off, by rw [← hsp0], by simpa [Addr.add] using hb, fun j u hu => ?_⟩
        have h1 := hall j u hu
        rwa [plain_add h1] at h1
  | .nil => by
    refine ⟨fun t fuel cs x ht h => by simp [tyG] at ht, fun fs off cs ht hl _ => ?_⟩
    show cs.drop off = []
    exact List.drop_eq_nil_of_le (by simp [Ty.n] at hl; omega)
  | .cons f r => by
    refine ⟨fun t fuel cs x ht h => ?_, fun fs off cs ht hl hf => ?_⟩
    · simp only [tyG] at ht
      split at ht
      case h_2 => simp at ht
      rename_i fs hfs
      split at ht
      case h_2 => simp at ht
      rename_i fd fds hfd
      simp only [Bool.and_eq_true, decide_eq_true_eq] at ht
      obtain ⟨⟨⟨⟨hc, h0⟩, hn⟩, h1⟩, h2⟩ := ht
      obtain ⟨xs, n, rfl, -, hlen, hxl, hel⟩ := DataW.trod_struct hfs h
      have hall : ∀ (i : Nat) fd, fs.toList[i]? = some fd → ∃ x, DataW.trod enc P w base spare held n fd.type ((cs.drop fd.offset).take (P.cellsOf fd.type)) = some x := by
        intro i fd hi
        have hi' : fs[i]? = some fd := by simpa using hi
        rw [hel i fd hi']
        have : i < fs.size := (Array.getElem?_eq_some_iff.1 hi').1
        exact ⟨_, List.getElem?_eq_getElem (by omega)⟩
      rw [hfd] at hall
      obtain ⟨x0, hx0⟩ := hall 0 fd rfl
      rw [h0, hn, List.drop_zero] at hx0
      refine ⟨by omega, (rd_of hsp f).1 _ _ _ _ h1 hx0, (rd_of hsp r).2 fds f.n cs h2 (by omega) fun gd hg => ?_⟩
      obtain ⟨i, hi⟩ := List.mem_iff_getElem?.1 hg
      obtain ⟨x, hx⟩ := hall (i + 1) gd (by simpa using hi)
      exact ⟨n, x, hx⟩
    · simp only [tyG] at ht
      cases fs with
      | nil => simp at ht
      | cons fd fds =>
      simp only [Bool.and_eq_true, decide_eq_true_eq] at ht
      obtain ⟨⟨⟨h0, hn⟩, h1⟩, h2⟩ := ht
      simp only [Ty.n] at hl
      obtain ⟨n, x, hx⟩ := hf fd (List.mem_cons_self ..)
      rw [h0, hn] at hx
      refine ⟨by simp; omega, (rd_of hsp f).1 _ _ _ _ h1 hx, ?_⟩
      rw [List.drop_drop]
      exact (rd_of hsp r).2 fds (off + f.n) cs h2 (by omega) fun gd hg => hf gd (List.mem_cons_of_mem _ hg)

/-- AN ARGUMENT's READING, AS THE WALKS TAKE IT. -/
theorem rd_arg {T : Ty} {t : TypeId} {v : Value} {d : DataW H} {p : List MemPlace} (hT : tyG P T (.inl t) = true) (h : DataW.Trod enc P w 0 (fun _ => true) true t v d p) : Rd w T v.cells.toList := by
  obtain ⟨fuel, hf⟩ := h
  exact (rd_of (fun _ => rfl) T).1 t fuel _ _ hT hf

theorem trodAll_below {W W' : World} (hl : laidOutB P = true) (hx : Below W.heap.size W W') : ∀ (ts : List TypeId) (vs : List Value) (ds : List (DataW H)) (ps : List MemPlace), (∀ t ∈ ts, P.readableRec t = true ∧ t < P.types.size) →
    DataW.TrodAll enc P W 0 (fun _ => true) true ts vs ds ps → (∀ x ∈ ps, x.block < W.heap.size) → DataW.TrodAll enc P W' 0 (fun b => decide (b < W.heap.size)) true ts vs ds ps
  | [], vs, ds, ps, _, h, _ => by obtain ⟨rfl, rfl, rfl⟩ := trodAll_nil h; rfl
  | t :: ts, vs, ds, ps, hr, h, hp => by
    obtain ⟨v, vs', d, ds', p, q, rfl, rfl, rfl, h0, h1⟩ := trodAll_cons h
    exact ⟨p, q, Below.trod hl (hr t (List.mem_cons_self ..)).1 (hr t (List.mem_cons_self ..)).2 h0 hx (fun x hm => hp x (List.mem_append_left _ hm)),
      trodAll_below hl hx ts vs' ds' q (fun u hu => hr u (List.mem_cons_of_mem _ hu)) h1 (fun x hm => hp x (List.mem_append_right _ hm)), rfl⟩

end
end Go.Proofs.YtkphipgfcbckcaaGreatDoor
namespace Go.Proofs.YtkphipgfcbckcaaGreatDoor
open Go.ChangeShapes Go.WideShapes Go.ChangeAt Go.RowKit

theorem gRound : Tryz.prog.globalNamed "loop.example/g00284/impl.roundWords" = some 1 := by kernel_rfl
theorem gStart : Tryz.prog.globalNamed "loop.example/g00284/impl.startWords" = some 0 := by kernel_rfl
theorem gRoundT : (Tryz.prog.globals[1]?).map (·.type) = some 121 := by kernel_rfl
theorem gStartT : (Tryz.prog.globals[0]?).map (·.type) = some 116 := by kernel_rfl
theorem cellsW : Tryz.prog.cellsOf 115 = 1 := by kernel_rfl
theorem cellsR : Tryz.prog.cellsOf 121 = 64 := by kernel_rfl
theorem cellsS : Tryz.prog.cellsOf 116 = 8 := by kernel_rfl

theorem key_at : ∀ j, j < 64 → (keysN.map fun n : Nat => (n : Int)).getD j 0 = (keyW j).i := by
  intro j hj
  have h : (keysN.map fun n : Nat => (n : Int)).getD j 0 = ((keysN.getD j 0 : Nat) : Int) := by
    have hl : j < keysN.length := hj
    simp [List.getD_eq_getElem?_getD, hl]
  rw [h, keyW, W32.i_ofN]
  have all : ∀ n ∈ keysN, n < 4294967296 := by decide
  have hl : j < keysN.length := hj
  rw [List.getD_eq_getElem?_getD, List.getElem?_eq_getElem hl]
  exact all _ (List.getElem_mem hl)
theorem start_at : ∀ j, j < 8 → (startN.map fun n : Nat => (n : Int)).getD j 0 = (st0.list.getD j default).i := by
  intro j hj
  rcases lt8 hj with rfl | rfl | rfl | rfl | rfl | rfl | rfl | rfl <;> rfl

/-- WHAT THE ROW's LIST GIVES. -/
theorem tabs_of {W : World} (h : laidMetH Tryz.prog [("loop.example/g00284/impl.roundWords", Rows.laid_loop_example_g00284_impl_roundWords), ("loop.example/g00284/impl.startWords", Rows.laid_loop_example_g00284_impl_startWords)] W) : Tabs W := by
  have h0 : laidMet Tryz.prog [("loop.example/g00284/impl.roundWords", Lib.tabData .u32 (keysN.map fun n : Nat => (n : Int))), ("loop.example/g00284/impl.startWords", Lib.tabData .u32 (startN.map fun n : Nat => (n : Int)))] W := h
  have t1 := Lib.tabIs_of_head gRound gRoundT Tryz.underlying121 Tryz.underlying115 cellsW cellsR h0
  have t2 := Lib.tabIs_of_head gStart gStartT Tryz.underlying116 Tryz.underlying115 cellsW cellsS h0.tail
  refine ⟨⟨?_, fun j hj => ?_⟩, ⟨?_, fun j hj => ?_⟩⟩
  · have := t1.cell gRound 0 (by decide)
    exact World.block_lt_of_cell? W _ this
  · rw [t1.cell gRound j (by rw [List.length_map]; exact hj), key_at j hj]
  · have := t2.cell gStart 0 (by decide)
    exact World.block_lt_of_cell? W _ this
  · rw [t2.cell gStart j (by rw [List.length_map]; exact hj), start_at j hj]

def varOk (P : Program) (n : String) : Bool := match P.globalNamed n with
  | some g => match (P.globals[g]?).map (·.type) with
    | some t => P.readableRec t && decide (t < P.types.size)
    | none => false
  | none => false

section
variable {H : Type} {enc : TypeId × Value → H} {P : Program}
theorem trodVars_two {w : World} {spare : Nat → Bool} {n m : String} {gs : List (DataW H)} {ps : List MemPlace} (h : DataW.TrodVars enc P w spare [n, m] gs ps) : ∃ d1 d2, gs = [d1, d2] := by
  cases gs with
  | nil => simp [DataW.TrodVars] at h
  | cons d ds =>
    obtain ⟨g, t, cs, fuel, p, q, -, -, -, -, hs, -⟩ := h
    obtain ⟨-, -, -, -, d2, -, rfl, -⟩ := trodVars_one hs
    exact ⟨d, d2, rfl⟩
theorem var?_below {W W' : World} (hx : Below W.heap.size W W') {n : String} {cs : Array Value} (h : W.var? P n = some cs) : W'.var? P n = some cs := by
  unfold World.var? at h ⊢
  cases hg : P.globalNamed n with
  | none => simp [hg] at h
  | some g =>
    simp only [hg, Option.bind_some] at h ⊢
    have hlt : g < W.heap.size := by
      cases hh : W.heap[g]? with
      | none => simp [hh] at h
      | some o => exact (Array.getElem?_eq_some_iff.1 hh).1
    rw [hx.block g hlt]
    exact h
theorem trodVars_below {W W' : World} (hl : laidOutB P = true) (hx : Below W.heap.size W W') : ∀ (ns : List String) (gs : List (DataW H)) (q : List MemPlace), ns.all (varOk P) = true → DataW.TrodVars enc P W (fun _ => true) ns gs q → (∀ x ∈ q, x.block < W.heap.size) →
    DataW.TrodVars enc P W' (fun b => decide (b < W.heap.size)) ns gs q
  | [], [], q, _, h, _ => h
  | [], _ :: _, q, _, h, _ => by simp [DataW.TrodVars] at h
  | _ :: _, [], q, _, h, _ => by simp [DataW.TrodVars] at h
  | n :: ns, d :: ds, q, ho, h, hp => by
    obtain ⟨g, t, cs, fuel, p, q2, h1, h2, h3, h4, hs, rfl⟩ := h
    simp only [List.all_cons, Bool.and_eq_true] at ho
    have ho1 := ho.1
    simp only [varOk, h1, h2, Bool.and_eq_true, decide_eq_true_eq] at ho1
    have hlt : ∀ x ∈ p, x.block < W.heap.size := fun x hm => hp x (List.mem_append_left _ (List.mem_append_right _ hm))
    have ht : DataW.Trod enc P W' 0 (fun b => decide (b < W.heap.size)) true t (.agg cs) d p := Below.trod hl ho1.1 ho1.2 ⟨fuel, h4⟩ hx hlt
    obtain ⟨fuel2, h4'⟩ := ht
    exact ⟨g, t, cs, fuel2, p, q2, h1, h2, var?_below hx h3, h4', trodVars_below hl hx ns ds q2 ho.2 hs (fun x hm => hp x (List.mem_append_right _ hm)), rfl⟩

/-- A LAW's POST where variables are named: it returned true, and nothing that was there has changed. -/
theorem post_lawV {f : Func} {s : ChangeSpec} {W W' : World} {args : Array Value} {ds gs : List (DataW H)} {before : List MemPlace} {tb : TypeId}
    (hW : DataW.Whole enc P f.params.toList s.vars false W args.toList ds gs before) (hs : s.fn H (ds ++ gs) = { results := [.lit (.bool true)], args := ds, vars := gs }) (hvs : s.vars.all (varOk P) = true) (hrt : f.resultTypes = #[tb]) (hb : P.underlying tb = some .bool)
    (hl : laidOutB P = true) (hr : f.params.toList.all (fun t => P.readableRec t && decide (t < P.types.size)) = true) (hx : Ext W W') : s.post enc P f false true false false W args (.bool true) W' := by
  have hlt := hW.lt
  have hW0 := hW
  obtain ⟨p, q, hA, hV, rfl, -, -⟩ := hW
  refine ⟨ds, gs, p ++ q, [], p, q, hW0, ?_, ?_, ?_, hx.frame _, fun h => by cases h⟩
  · rw [hs, hrt]
    exact trodAll_cons_mk (shut_bool hb true) trodAll_mk0
  · rw [hs]
    refine trodAll_below hl hx _ _ _ p (fun t ht => ?_) hA (fun x hm => hlt x (List.mem_append_left _ hm))
    have := List.all_eq_true.1 hr t ht
    simpa using this
  · rw [hs]
    exact trodVars_below hl hx _ _ _ hvs hV (fun x hm => hlt x (List.mem_append_right _ hm))
end

/-- a block's cells replaced -/
def laidObj (cs : Array Value) : Obj → Obj
  | .cells _ t frozen => .cells cs t frozen
  | o => o
/-- A WORLD FOR THE WITNESS: the settled one, the two tables holding what their initialisers lay. -/
noncomputable def laidWorld (os : Os) : World :=
  { World.holding Tryz.prog os ⟨#[], #[], []⟩ with heap := ((World.holding Tryz.prog os ⟨#[], #[], []⟩).heap.modify 1 (laidObj (keysN.map fun n : Nat => Value.int .u32 (n : Int)).toArray)).modify 0 (laidObj (startN.map fun n : Nat => Value.int .u32 (n : Int)).toArray) }
end Go.Proofs.YtkphipgfcbckcaaGreatDoor
namespace Go.Proofs.YtkphipgfcbckcaaGreatDoor
open Go.ChangeShapes Go.WideShapes Go.ChangeAt Go.RowKit

section
variable {P : Program} {W : World} {r : Reach} {base : Nat} {t : TypeId} {v : Value} {fs : Array Field}

end
end Go.Proofs.YtkphipgfcbckcaaGreatDoor

namespace Go.Proofs.YtkphipgfcbckcaaGreatDoor
open Go.RowKit

set_option maxRecDepth 100000 in
set_option maxHeartbeats 25600000 in
theorem laws_FnSealsTold (v : Value) (bs : List Int) (w : World) (h : Code w w.heap.size v bs) (hT : Tabs w) :
    Calls Tryz.prog 3 #[v] w fun e w' => e = .returned (.bool true) ∧ Ext w w' := by
  have HT := Lib.hid hT
  clear hT
  have HC := Lib.hid h
  obtain ⟨a0, cap, rfl, -, -⟩ := id h
  by_cases hb : (1048576 : Int) < bs.length
  · go_enter Tryz.func3, Tryz.ntmps3
    go_wp2_with (go_at_call 4; refine (laws_big _ _ bs _ HC.out).mono ?_; rintro e w' ⟨rfl, rfl⟩)
    go_ret
    exact ⟨rfl, (by repeat (first | (with_reducible first | exact Ext.refl _ | assumption | apply Ext.alloc | apply Ext.drew | apply Ext.drewN | refine Ext.setCell ?_ ?_ _ | refine Ext.trans ?_ (by assumption)) | (show _ ≤ _; first | omega | (dsimp only; omega) | (simp; done) | (simp; omega))))⟩
  have hl : bs.length ≤ 1048576 := by omega
  clear h
  go_enter Tryz.func3, Tryz.ntmps3
  go_wp2_with fail
  refine (laws_big _ _ bs _ HC.out).mono ?_
  rintro e w' ⟨rfl, rfl⟩
  go_wp2_with fail
  refine (spec_DrawSealHead _ bs _ HC.out hl).mono ?_
  rintro e w1 ⟨seed, pool, pa, pc, hh, ep, r, p, rfl, hps, hst, hsol, X⟩
  have ST := Lib.hid hst
  have HPS := Lib.hid hps
  have SOL := Lib.hid hsol
  clear hps hst hsol
  have ez : Ext w1 (w1.alloc (Obj.cells #[.int .i64 hh, .int .i64 ep, .string r, .string p] 26)) := (Ext.refl _).alloc _
  have H := Bx.new w1 #[.int .i64 hh, .int .i64 ep, .string r, .string p] 26
  replace ST := Lib.hid (ST.out.ext ez)
  replace X := X.trans ez
  have hp := H.2.1
  have p0 := H.2.1 0 _ rfl
  have p1 := H.2.1 1 _ rfl
  have p2 := H.2.1 2 _ rfl
  have p3 := H.2.1 3 _ rfl
  clear hp
  go_wp2_with fail
  generalize w1.alloc (Obj.cells #[.int .i64 hh, .int .i64 ep, .string r, .string p] 26) = w2 at *
  generalize w1.heap.size = B0 at *
  clear ez
  obtain ⟨ka, hz⟩ : ∃ z, slK seed pool hh ep r p = z := ⟨_, rfl⟩
  have KA := Lib.hid hz
  clear hz
  obtain ⟨A, hz⟩ : ∃ z, slV seed pool hh ep r p = z := ⟨_, rfl⟩
  have VA := Lib.hid hz
  clear hz
  obtain ⟨i1, hz⟩ : ∃ z, slI ka hh = z := ⟨_, rfl⟩
  have I1 := Lib.hid hz
  clear hz
  obtain ⟨i2, hz⟩ : ∃ z, slI ka ep = z := ⟨_, rfl⟩
  have I2 := Lib.hid hz
  clear hz
  obtain ⟨s1, hz⟩ : ∃ z, slS ka r = z := ⟨_, rfl⟩
  have S1 := Lib.hid hz
  clear hz
  obtain ⟨s2, hz⟩ : ∃ z, slS ka p = z := ⟨_, rfl⟩
  have S2 := Lib.hid hz
  clear hz
  obtain ⟨kt, hz⟩ : ∃ z, stK seed pool hh ep r p = z := ⟨_, rfl⟩
  have KT := Lib.hid hz
  clear hz
  obtain ⟨T, hz⟩ : ∃ z, stV seed pool hh ep r p = z := ⟨_, rfl⟩
  have VT := Lib.hid hz
  clear hz
  refine (impl_SealHead seed _ pool hh ep r p _ ST.out HPS.out SOL.out (HT.out.ext X)).mono ?_
  rw [KA.out, VA.out, I1.out, I2.out, S1.out, S2.out]
  rintro e w3 ⟨a1, c1, a2, c2, a3, c3, rfl, so, xx⟩
  replace ST := Lib.hid (ST.out.ext xx)
  replace X := X.trans xx
  replace H := H.ext xx
  have R1 := sigRd_of so
  clear so xx
  clear p0 p1 p2 p3
  have ez : Ext w3 (w3.alloc (Obj.cells #[.int .i64 i1, .int .i64 i2, .string s1, .string s2, .int .i64 A.at_, .slice a1 A.op.length c1, .slice a2 A.sh.length c2, .slice a3 A.si.length c3] 32)) := (Ext.refl _).alloc _
  have P1 := Bx.new w3 #[.int .i64 i1, .int .i64 i2, .string s1, .string s2, .int .i64 A.at_, .slice a1 A.op.length c1, .slice a2 A.sh.length c2, .slice a3 A.si.length c3] 32
  replace ST := Lib.hid (ST.out.ext ez)
  replace X := X.trans ez
  replace H := H.ext ez
  replace R1 := R1.ext ez
  have p0 := H.2.1 0 _ rfl
  have p1 := H.2.1 1 _ rfl
  have p2 := H.2.1 2 _ rfl
  have p3 := H.2.1 3 _ rfl
  go_wp2_with fail
  generalize w3.alloc (Obj.cells #[.int .i64 i1, .int .i64 i2, .string s1, .string s2, .int .i64 A.at_, .slice a1 A.op.length c1, .slice a2 A.sh.length c2, .slice a3 A.si.length c3] 32) = w4 at *
  generalize w3.heap.size = B3 at *
  clear ez
  refine (spec_SealHead seed _ pool hh ep r p _ ST.out HPS.out SOL.out).mono ?_
  rw [KA.out, VA.out, I1.out, I2.out, S1.out, S2.out]
  rintro e w5 ⟨b1, d1, b2, d2, b3, d3, rfl, so, xx⟩
  replace ST := Lib.hid (ST.out.ext xx)
  replace X := X.trans xx
  replace H := H.ext xx
  replace R1 := R1.ext xx
  replace P1 := P1.ext xx
  have R2 := sigRd_of so
  clear so xx
  clear p0 p1 p2 p3
  have ez : Ext w5 (w5.alloc (Obj.cells #[.int .i64 i1, .int .i64 i2, .string s1, .string s2, .int .i64 A.at_, .slice b1 A.op.length d1, .slice b2 A.sh.length d2, .slice b3 A.si.length d3] 32)) := (Ext.refl _).alloc _
  have P2 := Bx.new w5 #[.int .i64 i1, .int .i64 i2, .string s1, .string s2, .int .i64 A.at_, .slice b1 A.op.length d1, .slice b2 A.sh.length d2, .slice b3 A.si.length d3] 32
  replace ST := Lib.hid (ST.out.ext ez)
  replace X := X.trans ez
  replace H := H.ext ez
  replace R1 := R1.ext ez
  replace P1 := P1.ext ez
  replace R2 := R2.ext ez
  have p0 := H.2.1 0 _ rfl
  have p1 := H.2.1 1 _ rfl
  have p2 := H.2.1 2 _ rfl
  have p3 := H.2.1 3 _ rfl
  go_wp2_with fail
  generalize w5.alloc (Obj.cells #[.int .i64 i1, .int .i64 i2, .string s1, .string s2, .int .i64 A.at_, .slice b1 A.op.length d1, .slice b2 A.sh.length d2, .slice b3 A.si.length d3] 32) = w6 at *
  generalize w5.heap.size = B5 at *
  clear ez
  refine (impl_StampHead seed _ pool hh ep r p _ ST.out HPS.out SOL.out (HT.out.ext X)).mono ?_
  rw [KT.out, VT.out]
  rintro e w7 ⟨e1, f1, e2, f2, e3, f3, rfl, so, xx⟩
  replace ST := Lib.hid (ST.out.ext xx)
  replace X := X.trans xx
  replace H := H.ext xx
  replace R1 := R1.ext xx
  replace P1 := P1.ext xx
  replace R2 := R2.ext xx
  replace P2 := P2.ext xx
  have R3 := sigRd_of so
  clear so xx
  clear p0 p1 p2 p3
  have ez : Ext w7 (w7.alloc (Obj.cells #[.int .i64 T.at_, .slice e1 T.op.length f1, .slice e2 T.sh.length f2, .slice e3 T.si.length f3] 30)) := (Ext.refl _).alloc _
  have P3 := Bx.new w7 #[.int .i64 T.at_, .slice e1 T.op.length f1, .slice e2 T.sh.length f2, .slice e3 T.si.length f3] 30
  replace ST := Lib.hid (ST.out.ext ez)
  replace X := X.trans ez
  replace H := H.ext ez
  replace R1 := R1.ext ez
  replace P1 := P1.ext ez
  replace R2 := R2.ext ez
  replace P2 := P2.ext ez
  replace R3 := R3.ext ez
  have p0 := H.2.1 0 _ rfl
  have p1 := H.2.1 1 _ rfl
  have p2 := H.2.1 2 _ rfl
  have p3 := H.2.1 3 _ rfl
  go_wp2_with fail
  generalize w7.alloc (Obj.cells #[.int .i64 T.at_, .slice e1 T.op.length f1, .slice e2 T.sh.length f2, .slice e3 T.si.length f3] 30) = w8 at *
  generalize w7.heap.size = B7 at *
  clear ez
  refine (spec_StampHead seed _ pool hh ep r p _ ST.out HPS.out SOL.out).mono ?_
  rw [KT.out, VT.out]
  rintro e w9 ⟨g1, h1, g2, h2, g3, h3, rfl, so, xx⟩
  replace ST := Lib.hid (ST.out.ext xx)
  replace X := X.trans xx
  replace H := H.ext xx
  replace R1 := R1.ext xx
  replace P1 := P1.ext xx
  replace R2 := R2.ext xx
  replace P2 := P2.ext xx
  replace R3 := R3.ext xx
  replace P3 := P3.ext xx
  have R4 := sigRd_of so
  clear so xx
  clear p0 p1 p2 p3
  have ez : Ext w9 (w9.alloc (Obj.cells #[.int .i64 T.at_, .slice g1 T.op.length h1, .slice g2 T.sh.length h2, .slice g3 T.si.length h3] 30)) := (Ext.refl _).alloc _
  have P4 := Bx.new w9 #[.int .i64 T.at_, .slice g1 T.op.length h1, .slice g2 T.sh.length h2, .slice g3 T.si.length h3] 30
  replace ST := Lib.hid (ST.out.ext ez)
  replace X := X.trans ez
  replace H := H.ext ez
  replace R1 := R1.ext ez
  replace P1 := P1.ext ez
  replace R2 := R2.ext ez
  replace P2 := P2.ext ez
  replace R3 := R3.ext ez
  replace P3 := P3.ext ez
  replace R4 := R4.ext ez
  have p0 := H.2.1 0 _ rfl
  have p1 := H.2.1 1 _ rfl
  have p2 := H.2.1 2 _ rfl
  have p3 := H.2.1 3 _ rfl
  go_wp2_with fail
  generalize w9.alloc (Obj.cells #[.int .i64 T.at_, .slice g1 T.op.length h1, .slice g2 T.sh.length h2, .slice g3 T.si.length h3] 30) = w10 at *
  generalize w9.heap.size = B9 at *
  clear ez
  clear p0 p1 p2 p3 ST H
  refine (spec_DrawSealOk _ bs _ (HC.out.ext (Nat.le_refl _) X X.size) hl).mono ?_
  rintro e w11 ⟨rt, hv, ev, rv, pv, U, j1, j2, j3, k1, k2, k3, rfl, huf, R5, xx⟩
  replace X := X.trans xx
  replace R1 := R1.ext xx
  replace P1 := P1.ext xx
  replace R2 := R2.ext xx
  replace P2 := P2.ext xx
  replace R3 := R3.ext xx
  replace P3 := P3.ext xx
  replace R4 := R4.ext xx
  replace P4 := P4.ext xx
  have HUF := Lib.hid huf
  clear huf xx
  have ez : Ext w11 (w11.alloc (Obj.cells #[.int .i64 hv, .int .i64 ev, .string rv, .string pv, .int .i64 U.at_, .slice j1 U.op.length k1, .slice j2 U.sh.length k2, .slice j3 U.si.length k3] 32)) := (Ext.refl _).alloc _
  have P5 := Bx.new w11 #[.int .i64 hv, .int .i64 ev, .string rv, .string pv, .int .i64 U.at_, .slice j1 U.op.length k1, .slice j2 U.sh.length k2, .slice j3 U.si.length k3] 32
  replace X := X.trans ez
  replace R1 := R1.ext ez
  replace P1 := P1.ext ez
  replace R2 := R2.ext ez
  replace P2 := P2.ext ez
  replace R3 := R3.ext ez
  replace P3 := P3.ext ez
  replace R4 := R4.ext ez
  replace P4 := P4.ext ez
  replace R5 := R5.ext ez
  go_wp2_with fail
  generalize w11.alloc (Obj.cells #[.int .i64 hv, .int .i64 ev, .string rv, .string pv, .int .i64 U.at_, .slice j1 U.op.length k1, .slice j2 U.sh.length k2, .slice j3 U.si.length k3] 32) = w12 at *
  generalize w11.heap.size = B11 at *
  clear ez
  refine (spec_DrawReadSeal _ bs _ (HC.out.ext (Nat.le_refl _) X X.size) hl).mono ?_
  rintro e w13 ⟨t, rfl, ht, xx⟩
  replace X := X.trans xx
  replace R1 := R1.ext xx
  replace P1 := P1.ext xx
  replace R2 := R2.ext xx
  replace P2 := P2.ext xx
  replace R3 := R3.ext xx
  replace P3 := P3.ext xx
  replace R4 := R4.ext xx
  replace P4 := P4.ext xx
  replace R5 := R5.ext xx
  replace P5 := P5.ext xx
  clear xx
  obtain ⟨q1, hz⟩ : ∃ z, seI t = z := ⟨_, rfl⟩
  have Q1 := Lib.hid hz
  clear hz
  obtain ⟨q2, hz⟩ : ∃ z, seE t = z := ⟨_, rfl⟩
  have Q2 := Lib.hid hz
  clear hz
  obtain ⟨z1, hz⟩ : ∃ z, seR t = z := ⟨_, rfl⟩
  have Z1 := Lib.hid hz
  clear hz
  obtain ⟨z2, hz⟩ : ∃ z, seP t = z := ⟨_, rfl⟩
  have Z2 := Lib.hid hz
  clear hz
  obtain ⟨N, hz⟩ : ∃ z, seV t = z := ⟨_, rfl⟩
  have VN := Lib.hid hz
  clear hz
  obtain ⟨kn, hz⟩ : ∃ z, seOk t = z := ⟨_, rfl⟩
  have KN := Lib.hid hz
  clear hz
  go_wp2_with fail
  refine (impl_ReadSeal t _ (by omega)).mono ?_
  rw [Q1.out, Q2.out, Z1.out, Z2.out, VN.out, KN.out]
  rintro e w14 ⟨l1, m1, l2, m2, l3, m3, rfl, so, xx⟩
  replace X := X.trans xx
  replace R1 := R1.ext xx
  replace P1 := P1.ext xx
  replace R2 := R2.ext xx
  replace P2 := P2.ext xx
  replace R3 := R3.ext xx
  replace P3 := P3.ext xx
  replace R4 := R4.ext xx
  replace P4 := P4.ext xx
  replace R5 := R5.ext xx
  replace P5 := P5.ext xx
  have R6 := sigRd_of so
  clear so xx
  have ez : Ext w14 (w14.alloc (Obj.cells #[.int .i64 q1, .int .i64 q2, .string z1, .string z2, .int .i64 N.at_, .slice l1 N.op.length m1, .slice l2 N.sh.length m2, .slice l3 N.si.length m3] 32)) := (Ext.refl _).alloc _
  have P6 := Bx.new w14 #[.int .i64 q1, .int .i64 q2, .string z1, .string z2, .int .i64 N.at_, .slice l1 N.op.length m1, .slice l2 N.sh.length m2, .slice l3 N.si.length m3] 32
  replace X := X.trans ez
  replace R1 := R1.ext ez
  replace P1 := P1.ext ez
  replace R2 := R2.ext ez
  replace P2 := P2.ext ez
  replace R3 := R3.ext ez
  replace P3 := P3.ext ez
  replace R4 := R4.ext ez
  replace P4 := P4.ext ez
  replace R5 := R5.ext ez
  replace P5 := P5.ext ez
  replace R6 := R6.ext ez
  go_wp2_with fail
  generalize w14.alloc (Obj.cells #[.int .i64 q1, .int .i64 q2, .string z1, .string z2, .int .i64 N.at_, .slice l1 N.op.length m1, .slice l2 N.sh.length m2, .slice l3 N.si.length m3] 32) = w15 at *
  generalize w14.heap.size = B14 at *
  clear ez
  refine (spec_ReadSeal t _ (by omega)).mono ?_
  rw [Q1.out, Q2.out, Z1.out, Z2.out, VN.out, KN.out]
  rintro e w16 ⟨n1, o1, n2, o2, n3, o3, rfl, so, xx⟩
  replace X := X.trans xx
  replace R1 := R1.ext xx
  replace P1 := P1.ext xx
  replace R2 := R2.ext xx
  replace P2 := P2.ext xx
  replace R3 := R3.ext xx
  replace P3 := P3.ext xx
  replace R4 := R4.ext xx
  replace P4 := P4.ext xx
  replace R5 := R5.ext xx
  replace P5 := P5.ext xx
  replace R6 := R6.ext xx
  replace P6 := P6.ext xx
  have R7 := sigRd_of so
  clear so xx
  have ez : Ext w16 (w16.alloc (Obj.cells #[.int .i64 q1, .int .i64 q2, .string z1, .string z2, .int .i64 N.at_, .slice n1 N.op.length o1, .slice n2 N.sh.length o2, .slice n3 N.si.length o3] 32)) := (Ext.refl _).alloc _
  have P7 := Bx.new w16 #[.int .i64 q1, .int .i64 q2, .string z1, .string z2, .int .i64 N.at_, .slice n1 N.op.length o1, .slice n2 N.sh.length o2, .slice n3 N.si.length o3] 32
  replace X := X.trans ez
  replace R1 := R1.ext ez
  replace P1 := P1.ext ez
  replace R2 := R2.ext ez
  replace P2 := P2.ext ez
  replace R3 := R3.ext ez
  replace P3 := P3.ext ez
  replace R4 := R4.ext ez
  replace P4 := P4.ext ez
  replace R5 := R5.ext ez
  replace P5 := P5.ext ez
  replace R6 := R6.ext ez
  replace P6 := P6.ext ez
  replace R7 := R7.ext ez
  go_upto_region 12 with (fail)
  generalize w16.alloc (Obj.cells #[.int .i64 q1, .int .i64 q2, .string z1, .string z2, .int .i64 N.at_, .slice n1 N.op.length o1, .slice n2 N.sh.length o2, .slice n3 N.si.length o3] 32) = w17 at *
  generalize w16.heap.size = B16 at *
  clear ez
  have hka : (ka == ka) = true := by simp
  have hkt : (kt == kt) = true := by simp
  have hkn : (kn == kn) = true := by simp
  refine wp_region_held_drew (S := (fun W => W.cell? ⟨B3, 0, none⟩ = some (.int .i64 i1) ∧ W.cell? ⟨B3, 1, none⟩ = some (.int .i64 i2) ∧ W.cell? ⟨B3, 2, none⟩ = some (.string s1) ∧ W.cell? ⟨B3, 3, none⟩ = some (.string s2) ∧ W.cell? ⟨B3, 4, none⟩ = some (.int .i64 A.at_) ∧ W.cell? ⟨B3, 5, none⟩ = some (.slice a1 A.op.length c1) ∧ W.cell? ⟨B3, 6, none⟩ = some (.slice a2 A.sh.length c2) ∧ W.cell? ⟨B3, 7, none⟩ = some (.slice a3 A.si.length c3) ∧ W.cell? ⟨B5, 0, none⟩ = some (.int .i64 i1) ∧ W.cell? ⟨B5, 1, none⟩ = some (.int .i64 i2) ∧ W.cell? ⟨B5, 2, none⟩ = some (.string s1) ∧ W.cell? ⟨B5, 3, none⟩ = some (.string s2) ∧ W.cell? ⟨B5, 4, none⟩ = some (.int .i64 A.at_) ∧ W.cell? ⟨B5, 5, none⟩ = some (.slice b1 A.op.length d1) ∧ W.cell? ⟨B5, 6, none⟩ = some (.slice b2 A.sh.length d2) ∧ W.cell? ⟨B5, 7, none⟩ = some (.slice b3 A.si.length d3) ∧ W.cell? ⟨B7, 0, none⟩ = some (.int .i64 T.at_) ∧ W.cell? ⟨B7, 1, none⟩ = some (.slice e1 T.op.length f1) ∧ W.cell? ⟨B7, 2, none⟩ = some (.slice e2 T.sh.length f2) ∧ W.cell? ⟨B7, 3, none⟩ = some (.slice e3 T.si.length f3) ∧ W.cell? ⟨B9, 0, none⟩ = some (.int .i64 T.at_) ∧ W.cell? ⟨B9, 1, none⟩ = some (.slice g1 T.op.length h1) ∧ W.cell? ⟨B9, 2, none⟩ = some (.slice g2 T.sh.length h2) ∧ W.cell? ⟨B9, 3, none⟩ = some (.slice g3 T.si.length h3) ∧ W.cell? ⟨B11, 0, none⟩ = some (.int .i64 hv) ∧ W.cell? ⟨B11, 1, none⟩ = some (.int .i64 ev) ∧ W.cell? ⟨B11, 2, none⟩ = some (.string rv) ∧ W.cell? ⟨B11, 3, none⟩ = some (.string pv) ∧ W.cell? ⟨B11, 4, none⟩ = some (.int .i64 U.at_) ∧ W.cell? ⟨B11, 5, none⟩ = some (.slice j1 U.op.length k1) ∧ W.cell? ⟨B11, 6, none⟩ = some (.slice j2 U.sh.length k2) ∧ W.cell? ⟨B11, 7, none⟩ = some (.slice j3 U.si.length k3) ∧ W.cell? ⟨B14, 0, none⟩ = some (.int .i64 q1) ∧ W.cell? ⟨B14, 1, none⟩ = some (.int .i64 q2) ∧ W.cell? ⟨B14, 2, none⟩ = some (.string z1) ∧ W.cell? ⟨B14, 3, none⟩ = some (.string z2) ∧ W.cell? ⟨B14, 4, none⟩ = some (.int .i64 N.at_) ∧ W.cell? ⟨B14, 5, none⟩ = some (.slice l1 N.op.length m1) ∧ W.cell? ⟨B14, 6, none⟩ = some (.slice l2 N.sh.length m2) ∧ W.cell? ⟨B14, 7, none⟩ = some (.slice l3 N.si.length m3) ∧ W.cell? ⟨B16, 0, none⟩ = some (.int .i64 q1) ∧ W.cell? ⟨B16, 1, none⟩ = some (.int .i64 q2) ∧ W.cell? ⟨B16, 2, none⟩ = some (.string z1) ∧ W.cell? ⟨B16, 3, none⟩ = some (.string z2) ∧ W.cell? ⟨B16, 4, none⟩ = some (.int .i64 N.at_) ∧ W.cell? ⟨B16, 5, none⟩ = some (.slice n1 N.op.length o1) ∧ W.cell? ⟨B16, 6, none⟩ = some (.slice n2 N.sh.length o2) ∧ W.cell? ⟨B16, 7, none⟩ = some (.slice n3 N.si.length o3))) (by kernel_rfl) (by exact ⟨P1.2.1 0 _ rfl, P1.2.1 1 _ rfl, P1.2.1 2 _ rfl, P1.2.1 3 _ rfl, P1.2.1 4 _ rfl, P1.2.1 5 _ rfl, P1.2.1 6 _ rfl, P1.2.1 7 _ rfl, P2.2.1 0 _ rfl, P2.2.1 1 _ rfl, P2.2.1 2 _ rfl, P2.2.1 3 _ rfl, P2.2.1 4 _ rfl, P2.2.1 5 _ rfl, P2.2.1 6 _ rfl, P2.2.1 7 _ rfl, P3.2.1 0 _ rfl, P3.2.1 1 _ rfl, P3.2.1 2 _ rfl, P3.2.1 3 _ rfl, P4.2.1 0 _ rfl, P4.2.1 1 _ rfl, P4.2.1 2 _ rfl, P4.2.1 3 _ rfl, P5.2.1 0 _ rfl, P5.2.1 1 _ rfl, P5.2.1 2 _ rfl, P5.2.1 3 _ rfl, P5.2.1 4 _ rfl, P5.2.1 5 _ rfl, P5.2.1 6 _ rfl, P5.2.1 7 _ rfl, P6.2.1 0 _ rfl, P6.2.1 1 _ rfl, P6.2.1 2 _ rfl, P6.2.1 3 _ rfl, P6.2.1 4 _ rfl, P6.2.1 5 _ rfl, P6.2.1 6 _ rfl, P6.2.1 7 _ rfl, P7.2.1 0 _ rfl, P7.2.1 1 _ rfl, P7.2.1 2 _ rfl, P7.2.1 3 _ rfl, P7.2.1 4 _ rfl, P7.2.1 5 _ rfl, P7.2.1 6 _ rfl, P7.2.1 7 _ rfl⟩) (fun hHeld => ?_)
  have xd : Ext w17 w17.drew := (Ext.refl w17).drew
  replace X := X.trans xd
  replace R1 := R1.ext xd
  replace P1 := P1.ext xd
  replace R2 := R2.ext xd
  replace P2 := P2.ext xd
  replace R3 := R3.ext xd
  replace P3 := P3.ext xd
  replace R4 := R4.ext xd
  replace P4 := P4.ext xd
  replace R5 := R5.ext xd
  replace P5 := P5.ext xd
  replace R6 := R6.ext xd
  replace P6 := P6.ext xd
  replace R7 := R7.ext xd
  replace P7 := P7.ext xd
  generalize w17.drew = v0 at *
  clear xd
  (refine wpAnyH_take (i := 0) (v := ?_) rfl (by kernel_rfl) (by kernel_rfl) (by kernel_rfl) (fun _ _ _ h => h) (Or.inl ⟨by rfl, ?_⟩) (by assumption) ?_; rotate_left; focus (intro w hSw; (try dsimp only at hSw); (try simp only [zk1, zk2]); go_simp; try with_reducible rfl)); (try simp only [zk1, zk2]); (try simp only [Act.put, zk4, zk5, zk6])
  (refine wpAnyH_take (i := 1) (v := ?_) rfl (by kernel_rfl) (by kernel_rfl) (by kernel_rfl) (fun _ _ _ h => h) (Or.inl ⟨by rfl, ?_⟩) (by assumption) ?_; rotate_left; focus (intro w hSw; (try dsimp only at hSw); (try simp only [zk1, zk2, zk3]); go_simp; try with_reducible rfl)); (try simp only [zk1, zk2, zk3]); (try simp only [Act.put, zk4, zk5, zk6])
  (refine wpAnyH_take (i := 2) (v := .bool true) rfl (by kernel_rfl) (by kernel_rfl) (by kernel_rfl) (fun _ _ _ h => h) (Or.inl ⟨by rfl, ?_⟩) (by assumption) ?_; focus (intro w hSw; (try dsimp only at hSw); (try simp only [zk1, zk2, zk3]); go_simp; (try simp))); (try simp only [zk1, zk2, zk3]); (try simp only [Act.put, zk4, zk5, zk6])
  (refine wpAnyH_take (i := 3) (v := ?_) rfl (by kernel_rfl) (by kernel_rfl) (by kernel_rfl) (fun _ _ _ h => h) (Or.inl ⟨by rfl, ?_⟩) (by assumption) ?_; rotate_left; focus (intro w hSw; (try dsimp only at hSw); (try simp only [zk1, zk2, zk3]); go_simp; try with_reducible rfl)); (try simp only [zk1, zk2, zk3]); (try simp only [Act.put, zk4, zk5, zk6])
  (refine wpAnyH_take (i := 4) (v := ?_) rfl (by kernel_rfl) (by kernel_rfl) (by kernel_rfl) (fun _ _ _ h => h) (Or.inl ⟨by rfl, ?_⟩) (by assumption) ?_; rotate_left; focus (intro w hSw; (try dsimp only at hSw); (try simp only [zk1, zk2, zk3]); go_simp; try with_reducible rfl)); (try simp only [zk1, zk2, zk3]); (try simp only [Act.put, zk4, zk5, zk6])
  (refine wpAnyH_take (i := 5) (v := ?_) rfl (by kernel_rfl) (by kernel_rfl) (by kernel_rfl) (fun _ _ _ h => h) (Or.inl ⟨by rfl, ?_⟩) (by assumption) ?_; rotate_left; focus (intro w hSw; (try dsimp only at hSw); (try simp only [zk1, zk2, zk3]); go_simp; try with_reducible rfl)); (try simp only [zk1, zk2, zk3]); (try simp only [Act.put, zk4, zk5, zk6])
  (refine wpAnyH_ready (rs := [6]) (by kernel_rfl) (by simp) ?_; refine AllReadyH.cons rfl (fun K hK => ?_) AllReadyH.nil; (try simp only [zk1, zk2, zk3]))
  go_simp
  go_at_call 14
  refine (laws_sameSeal i1 i2 s1 s2 _ _ _ _ _ _ A _ R1.1.1 R1.2.1.1 R1.2.2.1 R2.1.1 R2.2.1.1 R2.2.2.1).mono ?_
  rintro e v1 ⟨rfl, xa⟩
  replace X := X.trans xa
  replace R1 := R1.ext xa
  replace P1 := P1.ext xa
  replace R2 := R2.ext xa
  replace P2 := P2.ext xa
  replace R3 := R3.ext xa
  replace P3 := P3.ext xa
  replace R4 := R4.ext xa
  replace P4 := P4.ext xa
  replace R5 := R5.ext xa
  replace P5 := P5.ext xa
  replace R6 := R6.ext xa
  replace P6 := P6.ext xa
  replace R7 := R7.ext xa
  replace P7 := P7.ext xa
  (try dsimp only)
  refine hK.out _ _ (by exact ⟨P1.2.1 0 _ rfl, P1.2.1 1 _ rfl, P1.2.1 2 _ rfl, P1.2.1 3 _ rfl, P1.2.1 4 _ rfl, P1.2.1 5 _ rfl, P1.2.1 6 _ rfl, P1.2.1 7 _ rfl, P2.2.1 0 _ rfl, P2.2.1 1 _ rfl, P2.2.1 2 _ rfl, P2.2.1 3 _ rfl, P2.2.1 4 _ rfl, P2.2.1 5 _ rfl, P2.2.1 6 _ rfl, P2.2.1 7 _ rfl, P3.2.1 0 _ rfl, P3.2.1 1 _ rfl, P3.2.1 2 _ rfl, P3.2.1 3 _ rfl, P4.2.1 0 _ rfl, P4.2.1 1 _ rfl, P4.2.1 2 _ rfl, P4.2.1 3 _ rfl, P5.2.1 0 _ rfl, P5.2.1 1 _ rfl, P5.2.1 2 _ rfl, P5.2.1 3 _ rfl, P5.2.1 4 _ rfl, P5.2.1 5 _ rfl, P5.2.1 6 _ rfl, P5.2.1 7 _ rfl, P6.2.1 0 _ rfl, P6.2.1 1 _ rfl, P6.2.1 2 _ rfl, P6.2.1 3 _ rfl, P6.2.1 4 _ rfl, P6.2.1 5 _ rfl, P6.2.1 6 _ rfl, P6.2.1 7 _ rfl, P7.2.1 0 _ rfl, P7.2.1 1 _ rfl, P7.2.1 2 _ rfl, P7.2.1 3 _ rfl, P7.2.1 4 _ rfl, P7.2.1 5 _ rfl, P7.2.1 6 _ rfl, P7.2.1 7 _ rfl⟩) (fun hHeld => ?_)
  clear hK K
  clear xa
  (refine wpAnyH_take (i := 7) (v := ?_) rfl (by kernel_rfl) (by kernel_rfl) (by kernel_rfl) (fun _ _ _ h => h) (Or.inl ⟨by rfl, ?_⟩) (by assumption) ?_; rotate_left; focus (intro w hSw; (try dsimp only at hSw); (try simp only [zk1, zk2, zk3]); go_simp; try with_reducible rfl)); (try simp only [zk1, zk2, zk3]); (try simp only [Act.put, zk4, zk5, zk6])
  (refine wpAnyH_take (i := 8) (v := ?_) rfl (by kernel_rfl) (by kernel_rfl) (by kernel_rfl) (fun _ _ _ h => h) (Or.inl ⟨by rfl, ?_⟩) (by assumption) ?_; rotate_left; focus (intro w hSw; (try dsimp only at hSw); (try simp only [zk1, zk2, zk3]); go_simp; try with_reducible rfl)); (try simp only [zk1, zk2, zk3]); (try simp only [Act.put, zk4, zk5, zk6])
  (refine wpAnyH_take (i := 9) (v := ?_) rfl (by kernel_rfl) (by kernel_rfl) (by kernel_rfl) (fun _ _ _ h => h) (Or.inl ⟨by rfl, ?_⟩) (by assumption) ?_; rotate_left; focus (intro w hSw; (try dsimp only at hSw); (try simp only [zk1, zk2, zk3]); go_simp; try with_reducible rfl)); (try simp only [zk1, zk2, zk3]); (try simp only [Act.put, zk4, zk5, zk6])
  (refine wpAnyH_take (i := 10) (v := ?_) rfl (by kernel_rfl) (by kernel_rfl) (by kernel_rfl) (fun _ _ _ h => h) (Or.inl ⟨by rfl, ?_⟩) (by assumption) ?_; rotate_left; focus (intro w hSw; (try dsimp only at hSw); (try simp only [zk1, zk2, zk3]); go_simp; try with_reducible rfl)); (try simp only [zk1, zk2, zk3]); (try simp only [Act.put, zk4, zk5, zk6])
  (refine wpAnyH_take (i := 11) (v := .bool true) rfl (by kernel_rfl) (by kernel_rfl) (by kernel_rfl) (fun _ _ _ h => h) (Or.inl ⟨by rfl, ?_⟩) (by assumption) ?_; focus (intro w hSw; (try dsimp only at hSw); (try simp only [zk1, zk2, zk3]); go_simp; (try simp))); (try simp only [zk1, zk2, zk3]); (try simp only [Act.put, zk4, zk5, zk6])
  (refine wpAnyH_take (i := 12) (v := ?_) rfl (by kernel_rfl) (by kernel_rfl) (by kernel_rfl) (fun _ _ _ h => h) (Or.inl ⟨by rfl, ?_⟩) (by assumption) ?_; rotate_left; focus (intro w hSw; (try dsimp only at hSw); (try simp only [zk1, zk2, zk3]); go_simp; try with_reducible rfl)); (try simp only [zk1, zk2, zk3]); (try simp only [Act.put, zk4, zk5, zk6])
  (refine wpAnyH_take (i := 13) (v := ?_) rfl (by kernel_rfl) (by kernel_rfl) (by kernel_rfl) (fun _ _ _ h => h) (Or.inl ⟨by rfl, ?_⟩) (by assumption) ?_; rotate_left; focus (intro w hSw; (try dsimp only at hSw); (try simp only [zk1, zk2, zk3]); go_simp; try with_reducible rfl)); (try simp only [zk1, zk2, zk3]); (try simp only [Act.put, zk4, zk5, zk6])
  (refine wpAnyH_take (i := 14) (v := ?_) rfl (by kernel_rfl) (by kernel_rfl) (by kernel_rfl) (fun _ _ _ h => h) (Or.inl ⟨by rfl, ?_⟩) (by assumption) ?_; rotate_left; focus (intro w hSw; (try dsimp only at hSw); (try simp only [zk1, zk2, zk3]); go_simp; try with_reducible rfl)); (try simp only [zk1, zk2, zk3]); (try simp only [Act.put, zk4, zk5, zk6])
  (refine wpAnyH_take (i := 15) (v := ?_) rfl (by kernel_rfl) (by kernel_rfl) (by kernel_rfl) (fun _ _ _ h => h) (Or.inl ⟨by rfl, ?_⟩) (by assumption) ?_; rotate_left; focus (intro w hSw; (try dsimp only at hSw); (try simp only [zk1, zk2, zk3]); go_simp; try with_reducible rfl)); (try simp only [zk1, zk2, zk3]); (try simp only [Act.put, zk4, zk5, zk6])
  (refine wpAnyH_ready (rs := [16]) (by kernel_rfl) (by simp) ?_; refine AllReadyH.cons rfl (fun K hK => ?_) AllReadyH.nil; (try simp only [zk1, zk2, zk3]))
  go_simp
  go_at_call 15
  refine (laws_sameSigT _ _ _ _ _ _ T _ R3.1.1 R3.2.1.1 R3.2.2.1 R4.1.1 R4.2.1.1 R4.2.2.1).mono ?_
  rintro e v2 ⟨rfl, xa⟩
  replace X := X.trans xa
  replace R1 := R1.ext xa
  replace P1 := P1.ext xa
  replace R2 := R2.ext xa
  replace P2 := P2.ext xa
  replace R3 := R3.ext xa
  replace P3 := P3.ext xa
  replace R4 := R4.ext xa
  replace P4 := P4.ext xa
  replace R5 := R5.ext xa
  replace P5 := P5.ext xa
  replace R6 := R6.ext xa
  replace P6 := P6.ext xa
  replace R7 := R7.ext xa
  replace P7 := P7.ext xa
  (try dsimp only)
  refine hK.out _ _ (by exact ⟨P1.2.1 0 _ rfl, P1.2.1 1 _ rfl, P1.2.1 2 _ rfl, P1.2.1 3 _ rfl, P1.2.1 4 _ rfl, P1.2.1 5 _ rfl, P1.2.1 6 _ rfl, P1.2.1 7 _ rfl, P2.2.1 0 _ rfl, P2.2.1 1 _ rfl, P2.2.1 2 _ rfl, P2.2.1 3 _ rfl, P2.2.1 4 _ rfl, P2.2.1 5 _ rfl, P2.2.1 6 _ rfl, P2.2.1 7 _ rfl, P3.2.1 0 _ rfl, P3.2.1 1 _ rfl, P3.2.1 2 _ rfl, P3.2.1 3 _ rfl, P4.2.1 0 _ rfl, P4.2.1 1 _ rfl, P4.2.1 2 _ rfl, P4.2.1 3 _ rfl, P5.2.1 0 _ rfl, P5.2.1 1 _ rfl, P5.2.1 2 _ rfl, P5.2.1 3 _ rfl, P5.2.1 4 _ rfl, P5.2.1 5 _ rfl, P5.2.1 6 _ rfl, P5.2.1 7 _ rfl, P6.2.1 0 _ rfl, P6.2.1 1 _ rfl, P6.2.1 2 _ rfl, P6.2.1 3 _ rfl, P6.2.1 4 _ rfl, P6.2.1 5 _ rfl, P6.2.1 6 _ rfl, P6.2.1 7 _ rfl, P7.2.1 0 _ rfl, P7.2.1 1 _ rfl, P7.2.1 2 _ rfl, P7.2.1 3 _ rfl, P7.2.1 4 _ rfl, P7.2.1 5 _ rfl, P7.2.1 6 _ rfl, P7.2.1 7 _ rfl⟩) (fun hHeld => ?_)
  clear hK K
  clear xa
  (refine wpAnyH_take (i := 17) (v := ?_) rfl (by kernel_rfl) (by kernel_rfl) (by kernel_rfl) (fun _ _ _ h => h) (Or.inl ⟨by rfl, ?_⟩) (by assumption) ?_; rotate_left; focus (intro w hSw; (try dsimp only at hSw); (try simp only [zk1, zk2, zk3]); go_simp; try with_reducible rfl)); (try simp only [zk1, zk2, zk3]); (try simp only [Act.put, zk4, zk5, zk6])
  (refine wpAnyH_take (i := 18) (v := ?_) rfl (by kernel_rfl) (by kernel_rfl) (by kernel_rfl) (fun _ _ _ h => h) (Or.inl ⟨by rfl, ?_⟩) (by assumption) ?_; rotate_left; focus (intro w hSw; (try dsimp only at hSw); (try simp only [zk1, zk2, zk3]); go_simp; try with_reducible rfl)); (try simp only [zk1, zk2, zk3]); (try simp only [Act.put, zk4, zk5, zk6])
  (refine wpAnyH_take (i := 19) (v := ?_) rfl (by kernel_rfl) (by kernel_rfl) (by kernel_rfl) (fun _ _ _ h => h) (Or.inl ⟨by rfl, ?_⟩) (by assumption) ?_; rotate_left; focus (intro w hSw; (try dsimp only at hSw); (try simp only [zk1, zk2, zk3]); go_simp; try with_reducible rfl)); (try simp only [zk1, zk2, zk3]); (try simp only [Act.put, zk4, zk5, zk6])
  (refine wpAnyH_take (i := 20) (v := ?_) rfl (by kernel_rfl) (by kernel_rfl) (by kernel_rfl) (fun _ _ _ h => h) (Or.inl ⟨by rfl, ?_⟩) (by assumption) ?_; rotate_left; focus (intro w hSw; (try dsimp only at hSw); (try simp only [zk1, zk2, zk3]); go_simp; try with_reducible rfl)); (try simp only [zk1, zk2, zk3]); (try simp only [Act.put, zk4, zk5, zk6])
  (refine wpAnyH_take (i := 22) (v := ?_) rfl (by kernel_rfl) (by kernel_rfl) (by kernel_rfl) (fun _ _ _ h => h) (Or.inl ⟨by rfl, ?_⟩) (by assumption) ?_; rotate_left; focus (intro w hSw; (try dsimp only at hSw); (try simp only [zk1, zk2, zk3]); go_simp; try with_reducible rfl)); (try simp only [zk1, zk2, zk3]); (try simp only [Act.put, zk4, zk5, zk6])
  (refine wpAnyH_take (i := 23) (v := ?_) rfl (by kernel_rfl) (by kernel_rfl) (by kernel_rfl) (fun _ _ _ h => h) (Or.inl ⟨by rfl, ?_⟩) (by assumption) ?_; rotate_left; focus (intro w hSw; (try dsimp only at hSw); (try simp only [zk1, zk2, zk3]); go_simp; try with_reducible rfl)); (try simp only [zk1, zk2, zk3]); (try simp only [Act.put, zk4, zk5, zk6])
  (refine wpAnyH_ready (rs := [21]) (by kernel_rfl) (by simp) ?_; refine AllReadyH.cons rfl (fun K hK => ?_) AllReadyH.nil; (try simp only [zk1, zk2, zk3]))
  go_simp
  go_at_call 16
  refine (impl_SealOk rt hv ev rv pv _ _ _ U _ R5.1.1 R5.2.1.1 R5.2.2.1 HUF.out (HT.out.ext X)).mono ?_
  rintro e v3 ⟨rfl, xa⟩
  replace X := X.trans xa
  replace R1 := R1.ext xa
  replace P1 := P1.ext xa
  replace R2 := R2.ext xa
  replace P2 := P2.ext xa
  replace R3 := R3.ext xa
  replace P3 := P3.ext xa
  replace R4 := R4.ext xa
  replace P4 := P4.ext xa
  replace R5 := R5.ext xa
  replace P5 := P5.ext xa
  replace R6 := R6.ext xa
  replace P6 := P6.ext xa
  replace R7 := R7.ext xa
  replace P7 := P7.ext xa
  (try dsimp only)
  refine hK.out _ _ (by exact ⟨P1.2.1 0 _ rfl, P1.2.1 1 _ rfl, P1.2.1 2 _ rfl, P1.2.1 3 _ rfl, P1.2.1 4 _ rfl, P1.2.1 5 _ rfl, P1.2.1 6 _ rfl, P1.2.1 7 _ rfl, P2.2.1 0 _ rfl, P2.2.1 1 _ rfl, P2.2.1 2 _ rfl, P2.2.1 3 _ rfl, P2.2.1 4 _ rfl, P2.2.1 5 _ rfl, P2.2.1 6 _ rfl, P2.2.1 7 _ rfl, P3.2.1 0 _ rfl, P3.2.1 1 _ rfl, P3.2.1 2 _ rfl, P3.2.1 3 _ rfl, P4.2.1 0 _ rfl, P4.2.1 1 _ rfl, P4.2.1 2 _ rfl, P4.2.1 3 _ rfl, P5.2.1 0 _ rfl, P5.2.1 1 _ rfl, P5.2.1 2 _ rfl, P5.2.1 3 _ rfl, P5.2.1 4 _ rfl, P5.2.1 5 _ rfl, P5.2.1 6 _ rfl, P5.2.1 7 _ rfl, P6.2.1 0 _ rfl, P6.2.1 1 _ rfl, P6.2.1 2 _ rfl, P6.2.1 3 _ rfl, P6.2.1 4 _ rfl, P6.2.1 5 _ rfl, P6.2.1 6 _ rfl, P6.2.1 7 _ rfl, P7.2.1 0 _ rfl, P7.2.1 1 _ rfl, P7.2.1 2 _ rfl, P7.2.1 3 _ rfl, P7.2.1 4 _ rfl, P7.2.1 5 _ rfl, P7.2.1 6 _ rfl, P7.2.1 7 _ rfl⟩) (fun hHeld => ?_)
  clear hK K
  clear xa
  (refine wpAnyH_ready (rs := [24]) (by kernel_rfl) (by simp) ?_; refine AllReadyH.cons rfl (fun K hK => ?_) AllReadyH.nil; (try simp only [zk1, zk2, zk3]))
  go_simp
  go_at_call 17
  refine (spec_SealOk rt hv ev rv pv _ _ _ U _ R5.1.1 R5.2.1.1 R5.2.2.1 HUF.out).mono ?_
  generalize sealOkB rt hv ev rv pv U = ku at *
  rintro e v4 ⟨rfl, xa⟩
  replace X := X.trans xa
  replace R1 := R1.ext xa
  replace P1 := P1.ext xa
  replace R2 := R2.ext xa
  replace P2 := P2.ext xa
  replace R3 := R3.ext xa
  replace P3 := P3.ext xa
  replace R4 := R4.ext xa
  replace P4 := P4.ext xa
  replace R5 := R5.ext xa
  replace P5 := P5.ext xa
  replace R6 := R6.ext xa
  replace P6 := P6.ext xa
  replace R7 := R7.ext xa
  replace P7 := P7.ext xa
  (try dsimp only)
  refine hK.out _ _ (by exact ⟨P1.2.1 0 _ rfl, P1.2.1 1 _ rfl, P1.2.1 2 _ rfl, P1.2.1 3 _ rfl, P1.2.1 4 _ rfl, P1.2.1 5 _ rfl, P1.2.1 6 _ rfl, P1.2.1 7 _ rfl, P2.2.1 0 _ rfl, P2.2.1 1 _ rfl, P2.2.1 2 _ rfl, P2.2.1 3 _ rfl, P2.2.1 4 _ rfl, P2.2.1 5 _ rfl, P2.2.1 6 _ rfl, P2.2.1 7 _ rfl, P3.2.1 0 _ rfl, P3.2.1 1 _ rfl, P3.2.1 2 _ rfl, P3.2.1 3 _ rfl, P4.2.1 0 _ rfl, P4.2.1 1 _ rfl, P4.2.1 2 _ rfl, P4.2.1 3 _ rfl, P5.2.1 0 _ rfl, P5.2.1 1 _ rfl, P5.2.1 2 _ rfl, P5.2.1 3 _ rfl, P5.2.1 4 _ rfl, P5.2.1 5 _ rfl, P5.2.1 6 _ rfl, P5.2.1 7 _ rfl, P6.2.1 0 _ rfl, P6.2.1 1 _ rfl, P6.2.1 2 _ rfl, P6.2.1 3 _ rfl, P6.2.1 4 _ rfl, P6.2.1 5 _ rfl, P6.2.1 6 _ rfl, P6.2.1 7 _ rfl, P7.2.1 0 _ rfl, P7.2.1 1 _ rfl, P7.2.1 2 _ rfl, P7.2.1 3 _ rfl, P7.2.1 4 _ rfl, P7.2.1 5 _ rfl, P7.2.1 6 _ rfl, P7.2.1 7 _ rfl⟩) (fun hHeld => ?_)
  clear hK K
  clear xa
  have hku : (ku == ku) = true := by simp
  (refine wpAnyH_take (i := 25) (v := .bool true) rfl (by kernel_rfl) (by kernel_rfl) (by kernel_rfl) (fun _ _ _ h => h) (Or.inl ⟨by rfl, ?_⟩) (by assumption) ?_; focus (intro w hSw; (try dsimp only at hSw); (try simp only [zk1, zk2, zk3]); go_simp; (try simp))); (try simp only [zk1, zk2, zk3]); (try simp only [Act.put, zk4, zk5, zk6])
  (refine wpAnyH_take (i := 26) (v := ?_) rfl (by kernel_rfl) (by kernel_rfl) (by kernel_rfl) (fun _ _ _ h => h) (Or.inl ⟨by rfl, ?_⟩) (by assumption) ?_; rotate_left; focus (intro w hSw; (try dsimp only at hSw); (try simp only [zk1, zk2, zk3]); go_simp; try with_reducible rfl)); (try simp only [zk1, zk2, zk3]); (try simp only [Act.put, zk4, zk5, zk6])
  (refine wpAnyH_take (i := 27) (v := ?_) rfl (by kernel_rfl) (by kernel_rfl) (by kernel_rfl) (fun _ _ _ h => h) (Or.inl ⟨by rfl, ?_⟩) (by assumption) ?_; rotate_left; focus (intro w hSw; (try dsimp only at hSw); (try simp only [zk1, zk2, zk3]); go_simp; try with_reducible rfl)); (try simp only [zk1, zk2, zk3]); (try simp only [Act.put, zk4, zk5, zk6])
  (refine wpAnyH_take (i := 28) (v := ?_) rfl (by kernel_rfl) (by kernel_rfl) (by kernel_rfl) (fun _ _ _ h => h) (Or.inl ⟨by rfl, ?_⟩) (by assumption) ?_; rotate_left; focus (intro w hSw; (try dsimp only at hSw); (try simp only [zk1, zk2, zk3]); go_simp; try with_reducible rfl)); (try simp only [zk1, zk2, zk3]); (try simp only [Act.put, zk4, zk5, zk6])
  (refine wpAnyH_take (i := 29) (v := ?_) rfl (by kernel_rfl) (by kernel_rfl) (by kernel_rfl) (fun _ _ _ h => h) (Or.inl ⟨by rfl, ?_⟩) (by assumption) ?_; rotate_left; focus (intro w hSw; (try dsimp only at hSw); (try simp only [zk1, zk2, zk3]); go_simp; try with_reducible rfl)); (try simp only [zk1, zk2, zk3]); (try simp only [Act.put, zk4, zk5, zk6])
  (refine wpAnyH_take (i := 30) (v := .bool true) rfl (by kernel_rfl) (by kernel_rfl) (by kernel_rfl) (fun _ _ _ h => h) (Or.inl ⟨by rfl, ?_⟩) (by assumption) ?_; focus (intro w hSw; (try dsimp only at hSw); (try simp only [zk1, zk2, zk3]); go_simp; (try simp))); (try simp only [zk1, zk2, zk3]); (try simp only [Act.put, zk4, zk5, zk6])
  (refine wpAnyH_take (i := 31) (v := ?_) rfl (by kernel_rfl) (by kernel_rfl) (by kernel_rfl) (fun _ _ _ h => h) (Or.inl ⟨by rfl, ?_⟩) (by assumption) ?_; rotate_left; focus (intro w hSw; (try dsimp only at hSw); (try simp only [zk1, zk2, zk3]); go_simp; try with_reducible rfl)); (try simp only [zk1, zk2, zk3]); (try simp only [Act.put, zk4, zk5, zk6])
  (refine wpAnyH_take (i := 32) (v := ?_) rfl (by kernel_rfl) (by kernel_rfl) (by kernel_rfl) (fun _ _ _ h => h) (Or.inl ⟨by rfl, ?_⟩) (by assumption) ?_; rotate_left; focus (intro w hSw; (try dsimp only at hSw); (try simp only [zk1, zk2, zk3]); go_simp; try with_reducible rfl)); (try simp only [zk1, zk2, zk3]); (try simp only [Act.put, zk4, zk5, zk6])
  (refine wpAnyH_take (i := 33) (v := ?_) rfl (by kernel_rfl) (by kernel_rfl) (by kernel_rfl) (fun _ _ _ h => h) (Or.inl ⟨by rfl, ?_⟩) (by assumption) ?_; rotate_left; focus (intro w hSw; (try dsimp only at hSw); (try simp only [zk1, zk2, zk3]); go_simp; try with_reducible rfl)); (try simp only [zk1, zk2, zk3]); (try simp only [Act.put, zk4, zk5, zk6])
  (refine wpAnyH_take (i := 34) (v := ?_) rfl (by kernel_rfl) (by kernel_rfl) (by kernel_rfl) (fun _ _ _ h => h) (Or.inl ⟨by rfl, ?_⟩) (by assumption) ?_; rotate_left; focus (intro w hSw; (try dsimp only at hSw); (try simp only [zk1, zk2, zk3]); go_simp; try with_reducible rfl)); (try simp only [zk1, zk2, zk3]); (try simp only [Act.put, zk4, zk5, zk6])
  (refine wpAnyH_ready (rs := [35]) (by kernel_rfl) (by simp) ?_; refine AllReadyH.cons rfl (fun K hK => ?_) AllReadyH.nil; (try simp only [zk1, zk2, zk3]))
  go_simp
  go_at_call 14
  refine (laws_sameSeal q1 q2 z1 z2 _ _ _ _ _ _ N _ R6.1.1 R6.2.1.1 R6.2.2.1 R7.1.1 R7.2.1.1 R7.2.2.1).mono ?_
  rintro e v5 ⟨rfl, xa⟩
  replace X := X.trans xa
  replace R1 := R1.ext xa
  replace P1 := P1.ext xa
  replace R2 := R2.ext xa
  replace P2 := P2.ext xa
  replace R3 := R3.ext xa
  replace P3 := P3.ext xa
  replace R4 := R4.ext xa
  replace P4 := P4.ext xa
  replace R5 := R5.ext xa
  replace P5 := P5.ext xa
  replace R6 := R6.ext xa
  replace P6 := P6.ext xa
  replace R7 := R7.ext xa
  replace P7 := P7.ext xa
  (try dsimp only)
  refine hK.out _ _ (by exact ⟨P1.2.1 0 _ rfl, P1.2.1 1 _ rfl, P1.2.1 2 _ rfl, P1.2.1 3 _ rfl, P1.2.1 4 _ rfl, P1.2.1 5 _ rfl, P1.2.1 6 _ rfl, P1.2.1 7 _ rfl, P2.2.1 0 _ rfl, P2.2.1 1 _ rfl, P2.2.1 2 _ rfl, P2.2.1 3 _ rfl, P2.2.1 4 _ rfl, P2.2.1 5 _ rfl, P2.2.1 6 _ rfl, P2.2.1 7 _ rfl, P3.2.1 0 _ rfl, P3.2.1 1 _ rfl, P3.2.1 2 _ rfl, P3.2.1 3 _ rfl, P4.2.1 0 _ rfl, P4.2.1 1 _ rfl, P4.2.1 2 _ rfl, P4.2.1 3 _ rfl, P5.2.1 0 _ rfl, P5.2.1 1 _ rfl, P5.2.1 2 _ rfl, P5.2.1 3 _ rfl, P5.2.1 4 _ rfl, P5.2.1 5 _ rfl, P5.2.1 6 _ rfl, P5.2.1 7 _ rfl, P6.2.1 0 _ rfl, P6.2.1 1 _ rfl, P6.2.1 2 _ rfl, P6.2.1 3 _ rfl, P6.2.1 4 _ rfl, P6.2.1 5 _ rfl, P6.2.1 6 _ rfl, P6.2.1 7 _ rfl, P7.2.1 0 _ rfl, P7.2.1 1 _ rfl, P7.2.1 2 _ rfl, P7.2.1 3 _ rfl, P7.2.1 4 _ rfl, P7.2.1 5 _ rfl, P7.2.1 6 _ rfl, P7.2.1 7 _ rfl⟩) (fun hHeld => ?_)
  clear hK K
  clear xa
  (refine wpAnyH_take (i := 36) (v := ?_) rfl (by kernel_rfl) (by kernel_rfl) (by kernel_rfl) (fun _ _ _ h => h) (Or.inl ⟨by rfl, ?_⟩) (by assumption) ?_; rotate_left; focus (intro w hSw; (try dsimp only at hSw); (try simp only [zk1, zk2, zk3]); go_simp; try with_reducible rfl)); (try simp only [zk1, zk2, zk3]); (try simp only [Act.put, zk4, zk5, zk6])
  (refine wpAnyH_take (i := 37) (v := ?_) rfl (by kernel_rfl) (by kernel_rfl) (by kernel_rfl) (fun _ _ _ h => h) (Or.inl ⟨by rfl, ?_⟩) (by assumption) ?_; rotate_left; focus (intro w hSw; (try dsimp only at hSw); (try simp only [zk1, zk2, zk3]); go_simp; try with_reducible rfl)); (try simp only [zk1, zk2, zk3]); (try simp only [Act.put, zk4, zk5, zk6])
  (refine wpAnyH_ready (rs := [38]) (by kernel_rfl) (by simp) ?_; refine AllReadyH.cons rfl (fun K hK => ?_) AllReadyH.nil; (try simp only [zk1, zk2, zk3]))
  go_simp
  go_at_call 18
  refine (impl_SealAt _ _).mono ?_
  rw [show sealAt 1 = 0 from rfl]
  rintro e w' ⟨rfl, rfl⟩
  (try dsimp only)
  refine hK.out _ _ (by exact ⟨P1.2.1 0 _ rfl, P1.2.1 1 _ rfl, P1.2.1 2 _ rfl, P1.2.1 3 _ rfl, P1.2.1 4 _ rfl, P1.2.1 5 _ rfl, P1.2.1 6 _ rfl, P1.2.1 7 _ rfl, P2.2.1 0 _ rfl, P2.2.1 1 _ rfl, P2.2.1 2 _ rfl, P2.2.1 3 _ rfl, P2.2.1 4 _ rfl, P2.2.1 5 _ rfl, P2.2.1 6 _ rfl, P2.2.1 7 _ rfl, P3.2.1 0 _ rfl, P3.2.1 1 _ rfl, P3.2.1 2 _ rfl, P3.2.1 3 _ rfl, P4.2.1 0 _ rfl, P4.2.1 1 _ rfl, P4.2.1 2 _ rfl, P4.2.1 3 _ rfl, P5.2.1 0 _ rfl, P5.2.1 1 _ rfl, P5.2.1 2 _ rfl, P5.2.1 3 _ rfl, P5.2.1 4 _ rfl, P5.2.1 5 _ rfl, P5.2.1 6 _ rfl, P5.2.1 7 _ rfl, P6.2.1 0 _ rfl, P6.2.1 1 _ rfl, P6.2.1 2 _ rfl, P6.2.1 3 _ rfl, P6.2.1 4 _ rfl, P6.2.1 5 _ rfl, P6.2.1 6 _ rfl, P6.2.1 7 _ rfl, P7.2.1 0 _ rfl, P7.2.1 1 _ rfl, P7.2.1 2 _ rfl, P7.2.1 3 _ rfl, P7.2.1 4 _ rfl, P7.2.1 5 _ rfl, P7.2.1 6 _ rfl, P7.2.1 7 _ rfl⟩) (fun hHeld => ?_)
  clear hK K
  (refine wpAnyH_take (i := 39) (v := ?_) rfl (by kernel_rfl) (by kernel_rfl) (by kernel_rfl) (fun _ _ _ h => h) (Or.inl ⟨by rfl, ?_⟩) (by assumption) ?_; rotate_left; focus (intro w hSw; (try dsimp only at hSw); (try simp only [zk1, zk2, zk3]); go_simp; try with_reducible rfl)); (try simp only [zk1, zk2, zk3]); (try simp only [Act.put, zk4, zk5, zk6])
  (refine wpAnyH_take (i := 40) (v := ?_) rfl (by kernel_rfl) (by kernel_rfl) (by kernel_rfl) (fun _ _ _ h => h) (Or.inl ⟨by rfl, ?_⟩) (by assumption) ?_; rotate_left; focus (intro w hSw; (try dsimp only at hSw); (try simp only [zk1, zk2, zk3]); go_simp; try with_reducible rfl)); (try simp only [zk1, zk2, zk3]); (try simp only [Act.put, zk4, zk5, zk6])
  (refine wpAnyH_take (i := 41) (v := ?_) rfl (by kernel_rfl) (by kernel_rfl) (by kernel_rfl) (fun _ _ _ h => h) (Or.inl ⟨by rfl, ?_⟩) (by assumption) ?_; rotate_left; focus (intro w hSw; (try dsimp only at hSw); (try simp only [zk1, zk2, zk3]); go_simp; try with_reducible rfl)); (try simp only [zk1, zk2, zk3]); (try simp only [Act.put, zk4, zk5, zk6])
  refine wpAnyH_done (by kernel_rfl) ?_ _
  go_wp2
  go_ret
  exact ⟨rfl, X⟩
end Go.Proofs.YtkphipgfcbckcaaGreatDoor

namespace Go.Proofs.YtkphipgfcbckcaaGreatDoor
open Go.ChangeShapes Go.WideShapes Go.ChangeAt Go.RowKit

theorem rd_bytes {w : World} {v : Value} (h : Rd w (.sl (.int .u8)) [v]) : ∃ xs, Code w w.heap.size v xs := by
  obtain ⟨v', len, flat, hv, hrow, hel⟩ := h
  simp only [List.cons.injEq, and_true] at hv
  subst hv
  simp only [Ty.n, Nat.mul_one] at hel hrow
  obtain ⟨hl, a, cap, rfl, -, -, hc⟩ := hrow
  have hch : ∀ i, i < len → ∃ x : Int, flat[i]? = some (.int .u8 x) ∧ 0 ≤ x ∧ x ≤ 255 := by
    intro i hi
    obtain ⟨n, hn, hw⟩ := hel i hi
    refine ⟨n, ?_, ?_⟩
    · have : ((flat.drop i).take 1)[0]? = some (.int .u8 n) := by rw [hn]; rfl
      simpa using this
    · exact bounds_u8 hw
  obtain ⟨F, hF⟩ := Deep.choose_lt hch
  have hg : ∀ j, j < len → ((List.range len).map F).getD j 0 = F j := fun j hj => by simp [List.getD, hj]
  refine ⟨(List.range len).map F, a, cap, by simp, fun j => ?_, ?_⟩
  · by_cases hj : j < len
    · rw [hg j hj]; exact (hF j hj).2
    · rw [List.getD_eq_getElem?_getD, List.getElem?_eq_none (by simp; omega)]; simp
  · rcases hc with h0 | ⟨b, o, rfl, hb, hc⟩
    · exact Or.inl (by simp [h0])
    · refine Or.inr ⟨b, o, rfl, hb, fun j hj => ?_⟩
      have hj' : j < len := by simpa using hj
      rw [hg j hj']
      exact hc j _ (hF j hj').1
end Go.Proofs.YtkphipgfcbckcaaGreatDoor

namespace Go.Proofs.YtkphipgfcbckcaaGreatDoor
open Go.ChangeShapes Go.WideShapes Go.ChangeAt Go.RowKit
open Go.ChangeMaps (open_string shut_string)
namespace FnSealsTold
theorem own : ownKnob Tryz.prog.godebug = none := by kernel_rfl
theorem laidOut : laidOutB Tryz.prog = true := by kernel_rfl
theorem laid_met (os : Os) : laidMet Tryz.prog Rows.fnSealsToldRow.laid ((laidWorld os).forCall (fun _ _ => 0) ⟨#[], #[.slice none 0 0], []⟩).memory :=
  laidMet_of_run' 8 (by kernel_rfl) (by kernel_rfl)
theorem reads (os : Os) {H : Type} (enc : TypeId × Value → H) : ∃ x, DataW.whole enc Tryz.prog ((laidWorld os).forCall (fun _ _ => 0) ⟨#[], #[.slice none 0 0], []⟩).memory Tryz.f3.params.toList Rows.fnSealsToldSpec.vars false (#[.slice none 0 0] : Array Value).toList 8 = some x :=
  Option.isSome_iff_exists.1 (by kernel_rfl)
set_option maxRecDepth 100000 in
theorem lifted (os : Os) (started : os.Started) (H : Type) (enc : TypeId × Value → H) (I : Stop.Interp) :
    ReturnsInHanded {} Tryz.checked os 3 .any ((OpenSpec.ofChange Rows.fnSealsToldSpec).preRow enc Tryz.prog Tryz.f3 Rows.fnSealsToldRow.domain false Rows.fnSealsToldRow.laid) (((OpenSpec.ofChange Rows.fnSealsToldSpec).at I).post enc Tryz.prog Tryz.f3 false true false false) := by
  obtain ⟨x, hx⟩ := reads os enc
  refine returnsInHanded_of_row (C := Tryz.checked) (s := OpenSpec.ofChange Rows.fnSealsToldSpec) own started (by kernel_rfl) Tryz.func3
    (witness_row_at (enc := enc) (C := Tryz.checked) false (laidWorld os) #[.slice none 0 0] rfl (by kernel_rfl) (by kernel_rfl) (by kernel_rfl)
      (OpenSpec.preRow_of_cond 8 hx rfl (fun k hk => by cases hk) (by kernel_rfl) (laid_met os))) ?_
  intro W base args ds gs before hval0 hW _ _ _ hL _ _
  have hval : ∀ (j : Nat) t v, Tryz.f3.params[j]? = some t → args[j]? = some v → Value.okWide Tryz.prog W .any base t v := hval0
  have hW' := hW
  obtain ⟨p, q, hA0, hV, rfl, -, -⟩ := hW
  have hA : DataW.TrodAll enc Tryz.prog W 0 (fun _ => true) true Tryz.f3.params.toList args.toList ds p := hA0
  rw [Tryz.params3] at hA hval
  obtain ⟨v0, vs0, d0, ds0, p0, q0, hargs, rfl, rfl, h0, t0⟩ := trodAll_cons hA
  obtain ⟨rfl, rfl, rfl⟩ := trodAll_nil t0
  obtain rfl : args = #[v0] := by cases args; simp_all
  obtain ⟨g1, g2, rfl⟩ := trodVars_two hV
  obtain ⟨a0, len0, cap0, rfl⟩ := okWide_slice Tryz.underlying22 (hval 0 22 v0 rfl rfl)
  obtain ⟨xs0, hx0⟩ := rd_bytes (rd_arg (T := .sl (.int .u8)) (by kernel_rfl) h0)
  clear hA0 hval0
  refine (laws_FnSealsTold _ xs0 W hx0 (tabs_of hL)).mono fun e W2 ⟨he, hx⟩ => ?_
  subst he
  exact ⟨_, rfl, post_lawV hW' rfl (by kernel_rfl) (by kernel_rfl) Tryz.underlying4 laidOut (by kernel_rfl) hx⟩
theorem said : Rows.FnSealsToldSaid :=
  OpenClaim.holds_of_cond 3 Tryz.f3 rfl rfl rfl rfl rfl rfl rfl ⟨rfl, rfl, rfl, rfl, rfl⟩ rfl rfl rfl rfl rfl (by kernel_rfl) Tryz.func3 (by kernel_rfl)
    (of_decide_eq_true (by kernel_rfl)) (by unfold Func.isWrapper; first | (rw [if_pos (by decide +kernel)]; kernel_rfl) | (rw [if_neg (by decide +kernel)]; exact ⟨rfl, rfl⟩))
    (fun os started H enc _ I => by rw [OpenClaim.pre_eq_preRow]; exact lifted os started H enc I)
theorem plain (f : FuncId) (fn : Func) (hf : Tryz.pinned.checked.prog.funcNamed "loop.example/g00284/laws.FnSealsTold" = some f) (hfn : Tryz.pinned.checked.prog.funcs[f]? = some fn) :
    false = Tryz.pinned.checked.prog.looks [] ∧ ∀ (j : Nat) t, fn.params[j]? = some t → Tryz.pinned.checked.prog.wantsStandIn t = false := by
  obtain rfl : f = 3 := Option.some.inj ((show Tryz.prog.funcNamed "loop.example/g00284/laws.FnSealsTold" = some 3 by kernel_rfl).symm.trans hf) |>.symm
  obtain rfl : fn = Tryz.f3 := (Option.some.inj (Tryz.func3.symm.trans hfn)).symm
  refine ⟨by kernel_rfl, fun j t ht => ?_⟩
  have hall : (Tryz.f3.params.toList.all fun u => !Tryz.prog.wantsStandIn u) = true := by kernel_rfl
  have hm : t ∈ Tryz.f3.params.toList := by simpa using Array.mem_of_getElem? ht
  exact (show Tryz.prog.wantsStandIn t = false by simpa using List.all_eq_true.1 hall t hm)
theorem proved : Rows.FnSealsToldCardSaid :=
  Claim7.holds_tied_plain_at .later [] _ _ _ _ said (fun _ h => by cases h) (by kernel_rfl) (fun _ h => by cases h) fnSealsTold_row_tie rfl ⟨rfl, rfl⟩ (by kernel_rfl) rfl plain (by kernel_rfl)
#print axioms proved
end FnSealsTold
end Go.Proofs.YtkphipgfcbckcaaGreatDoor
