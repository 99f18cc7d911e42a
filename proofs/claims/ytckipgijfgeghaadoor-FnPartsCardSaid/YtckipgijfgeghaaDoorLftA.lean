/- Lift, Door, Args in one text. -/
import Derived.Test.YtckipgijfgeghaaDoorCore
import Derived.ProofKit
import Derived.OpenShut
import Derived.Deep.Slices
import Derived.Lib.LaidTab
import Derived.Stop.LaidErr
import Derived.Deep.DeepHandedRow
import Derived.Test.YtckipgijfgeghaaDoorStrA
namespace Go.Proofs.YtckipgijfgeghaaDoor
open Go.ChangeShapes Go.WideShapes Go.ChangeAt Go.RowKit

inductive Ty where
  | int (k : IntKind)
  | str
  | sl (e : Ty)
  | nil
  | cons (f r : Ty)

def Ty.n : Ty → Nat
  | .int _ => 1
  | .str => 1
  | .sl _ => 1
  | .nil => 0
  | .cons f r => f.n + r.n

def Rd (w : World) : Ty → List Value → Prop
  | .int k, cs => ∃ n, cs = [.int k n] ∧ (Lit.int k n).wf = true
  | .str, cs => ∃ s, cs = [.string s] ∧ s.size ≤ maxLen
  | .sl e, cs => ∃ v len flat, cs = [v] ∧ Row w e.n v len flat ∧ ∀ i, i < len → Rd w e ((flat.drop (i * e.n)).take e.n)
  | .nil, cs => cs = []
  | .cons f r, cs => cs.length = f.n + r.n ∧ Rd w f (cs.take f.n) ∧ Rd w r (cs.drop f.n)

theorem Rd.length {w : World} : ∀ (T : Ty) (cs : List Value), Rd w T cs → cs.length = T.n
  | .int _, cs, h => by obtain ⟨n, rfl, _⟩ := h; rfl
  | .str, cs, h => by obtain ⟨s, rfl, _⟩ := h; rfl
  | .sl _, cs, h => by obtain ⟨v, l, fl, rfl, _⟩ := h; rfl
  | .nil, cs, h => by have h' : cs = [] := h; rw [h']; rfl
  | .cons f r, cs, h => h.1

def tyG (P : Program) : Ty → (TypeId ⊕ (List Field × Nat)) → Bool
  | .int k, .inl t => match P.underlying t with | some (.int k') => decide (k = k') | _ => false
  | .str, .inl t => match P.underlying t with | some .string => true | _ => false
  | .sl e, .inl t => match P.underlying t with | some (.slice u) => decide (P.cellsOf u = e.n) && decide (0 < e.n) && tyG P e (.inl u) | _ => false
  | .nil, .inr (fs, _) => fs.isEmpty
  | .cons f r, .inl t => match P.underlying t with
    | some (.struct fs) => (match fs.toList with
      | fd :: fds => decide (P.cellsOf t = f.n + r.n) && decide (fd.offset = 0) && decide (P.cellsOf fd.type = f.n) && tyG P f (.inl fd.type) && tyG P r (.inr (fds, f.n))
      | [] => false)
    | _ => false
  | .cons f r, .inr (fs, off) => match fs with
    | fd :: fds => decide (fd.offset = off) && decide (P.cellsOf fd.type = f.n) && tyG P f (.inl fd.type) && tyG P r (.inr (fds, off + f.n))
    | [] => false
  | _, _ => false

section
variable {H : Type} {enc : TypeId × Value → H} {P : Program} {w : World} {base : Nat} {spare : Nat → Bool} {held : Bool}

theorem plain_add {w : World} {a : Addr} {i : Nat} {u : Value} (h : w.cell? (a.add i) = some u) : a.add i = ⟨a.block, a.off + i, none⟩ := by
  unfold Addr.add at h ⊢
  split
  · next h0 =>
    subst h0
    rw [if_pos rfl] at h
    have hs : a.spot = none := by
      unfold World.cell? at h
      cases hsp : a.spot with
      | none => rfl
      | some x => split at h <;> simp [hsp] at h
    cases a; simp_all
  · rfl

theorem rd_of (hsp : ∀ b, spare b = true) : ∀ (T : Ty),
    (∀ t fuel cs x, tyG P T (.inl t) = true → DataW.trod enc P w base spare held fuel t cs = some x → Rd w T cs) ∧
    (∀ fs off (cs : List Value), tyG P T (.inr (fs, off)) = true → cs.length = off + T.n →
      (∀ fd ∈ fs, ∃ n x, DataW.trod enc P w base spare held n fd.type ((cs.drop fd.offset).take (P.cellsOf fd.type)) = some x) → Rd w T (cs.drop off))
  | .int k => by
    refine ⟨fun t fuel cs x ht h => ?_, fun fs off cs ht => by simp [tyG] at ht⟩
    simp only [tyG] at ht
    split at ht <;> simp at ht
    rename_i k' hk
    subst ht
    obtain ⟨n, rfl, _, hw⟩ := DataW.trod_int hk h
    exact ⟨n, rfl, hw⟩
  | .str => by
    refine ⟨fun t fuel cs x ht h => ?_, fun fs off cs ht => by simp [tyG] at ht⟩
    simp only [tyG] at ht
    split at ht <;> simp at ht
    rename_i hk
    obtain ⟨s, rfl, _, hw⟩ := DataW.trod_string hk h
    exact ⟨s, rfl, hw⟩
  | .sl e => by
    refine ⟨fun t fuel cs x ht h => ?_, fun fs off cs ht => by simp [tyG] at ht⟩
    simp only [tyG] at ht
    split at ht <;> simp at ht
    rename_i u hu
    obtain ⟨⟨hn, hpos⟩, hT⟩ := ht
    rcases Deep.open_slice hu h with ⟨rfl, -⟩ | ⟨a, len, cap, m, n, D, Pl, rfl, -, hlc, hcm, hm, -, hel⟩
    · exact ⟨_, 0, [], rfl, ⟨by simp, none, 0, rfl, Nat.le_refl _, Nat.zero_le _, Or.inl rfl⟩, fun i hi => absurd hi (Nat.not_lt_zero _)⟩
    · rw [if_pos (hsp _)] at hm
      subst hm
      rw [hn] at hel
      have hch : ∀ i, i < len → ∃ cs' : List Value, cs'.length = e.n ∧ (∀ j u, cs'[j]? = some u → w.cell? (a.add (i * e.n + j)) = some u) ∧ Rd w e cs' := by
        intro i hi
        obtain ⟨cs', hc, htr⟩ := hel i (by omega)
        obtain ⟨-, hl, hg⟩ := World.cells?_some hc
        refine ⟨cs', hl, fun j u hu => ?_, (rd_of hsp e).1 u n cs' _ hT htr⟩
        have hj : j < e.n := by
          rw [← hl]; exact (List.getElem?_eq_some_iff.1 hu).1
        rw [← Deep.add_add, hg j hj, hu]
      obtain ⟨F, hF⟩ := Deep.choose_lt hch
      have hflat : ∀ k, k ≤ len → ((List.range k).flatMap F).length = k * e.n := by
        intro k hk
        induction k with
        | zero => simp
        | succ k ih => rw [List.range_succ, List.flatMap_append, List.length_append, ih (by omega)]; simp [(hF k (by omega)).1, Nat.add_mul]
      have hsplit : ∀ i, i < len → ((List.range len).flatMap F) = (List.range i).flatMap F ++ (F i ++ ((List.range (len - i - 1)).map (i + 1 + ·)).flatMap F) := by
        intro i hi
        rw [Deep.range_split (show i + 1 ≤ len by omega), List.range_succ, List.flatMap_append, List.flatMap_append, List.append_assoc]
        simp [Nat.sub_sub]
      have hcut : ∀ i, i < len → ((((List.range len).flatMap F).drop (i * e.n)).take e.n) = F i := by
        intro i hi
        rw [hsplit i hi, List.drop_left' (hflat i (by omega)), List.take_left' (hF i hi).1]
      refine ⟨_, len, (List.range len).flatMap F, rfl, ⟨hflat len (Nat.le_refl _), some a, m, rfl, hlc, hcm, ?_⟩, fun i hi => by rw [hcut i hi]; exact (hF i hi).2.2⟩
      by_cases h0 : len = 0
      · exact Or.inl h0
      · have hall : ∀ j u, ((List.range len).flatMap F)[j]? = some u → w.cell? (a.add j) = some u := by
          intro j u hu
          have hj : j < len * e.n := by
            have := (List.getElem?_eq_some_iff.1 hu).1
            rwa [hflat len (Nat.le_refl _)] at this
          have hi : j / e.n < len := Nat.div_lt_of_lt_mul (by rwa [Nat.mul_comm])
          have hm := Nat.div_add_mod j e.n
          have hr := Nat.mod_lt j hpos
          have hget : (F (j / e.n))[j % e.n]? = some u := by
            rw [← hcut _ hi, List.getElem?_take_of_lt hr, List.getElem?_drop]
            rwa [show j / e.n * e.n + j % e.n = j by rw [Nat.mul_comm]; exact hm]
          have := (hF _ hi).2.1 _ _ hget
          rwa [show j / e.n * e.n + j % e.n = j by rw [Nat.mul_comm]; exact hm] at this
        have h0' : 0 < ((List.range len).flatMap F).length := by
          rw [hflat len (Nat.le_refl _)]; exact Nat.mul_pos (by omega) hpos
        have hz := hall 0 _ (List.getElem?_eq_getElem h0')
        have hb := World.block_lt_of_cell? w _ hz
        have hsp0 : a = ⟨a.block, a.off, none⟩ := by
          have := plain_add hz
          simpa [Addr.add] using this
        refine Or.inr ⟨a.block, a.off, by rw [← hsp0], by simpa [Addr.add] using hb, fun j u hu => ?_⟩
        have h1 := hall j u hu
        rwa [plain_add h1] at h1
  | .nil => by
    refine ⟨fun t fuel cs x ht h => by simp [tyG] at ht, fun fs off cs ht hl _ => ?_⟩
    show cs.drop off = []
    exact List.drop_eq_nil_of_le (by simp [Ty.n] at hl; omega)
  | .cons f r => by
    refine ⟨fun t fuel cs x ht h => ?_, fun fs off cs ht hl hf => ?_⟩
    · simp only [tyG] at ht
      split at ht
      case h_2 => simp at ht
      rename_i fs hfs
      split at ht
      case h_2 => simp at ht
      rename_i fd fds hfd
      simp only [Bool.and_eq_true, decide_eq_true_eq] at ht
      obtain ⟨⟨⟨⟨hc, h0⟩, hn⟩, h1⟩, h2⟩ := ht
      obtain ⟨xs, n, rfl, -, hlen, hxl, hel⟩ := DataW.trod_struct hfs h
      have hall : ∀ (i : Nat) fd, fs.toList[i]? = some fd → ∃ x, DataW.trod enc P w base spare held n fd.type ((cs.drop fd.offset).take (P.cellsOf fd.type)) = some x := by
        intro i fd hi
        have hi' : fs[i]? = some fd := by simpa using hi
        rw [hel i fd hi']
        have : i < fs.size := (Array.getElem?_eq_some_iff.1 hi').1
        exact ⟨_, List.getElem?_eq_getElem (by omega)⟩
      rw [hfd] at hall
      obtain ⟨x0, hx0⟩ := hall 0 fd rfl
      rw [h0, hn, List.drop_zero] at hx0
      refine ⟨by omega, (rd_of hsp f).1 _ _ _ _ h1 hx0, (rd_of hsp r).2 fds f.n cs h2 (by omega) fun gd hg => ?_⟩
      obtain ⟨i, hi⟩ := List.mem_iff_getElem?.1 hg
      obtain ⟨x, hx⟩ := hall (i + 1) gd (by simpa using hi)
      exact ⟨n, x, hx⟩
    · simp only [tyG] at ht
      cases fs with
      | nil => simp at ht
      | cons fd fds =>
      simp only [Bool.and_eq_true, decide_eq_true_eq] at ht
      obtain ⟨⟨⟨h0, hn⟩, h1⟩, h2⟩ := ht
      simp only [Ty.n] at hl
      obtain ⟨n, x, hx⟩ := hf fd (List.mem_cons_self ..)
      rw [h0, hn] at hx
      refine ⟨by simp; omega, (rd_of hsp f).1 _ _ _ _ h1 hx, ?_⟩
      rw [List.drop_drop]
      exact (rd_of hsp r).2 fds (off + f.n) cs h2 (by omega) fun gd hg => hf gd (List.mem_cons_of_mem _ hg)

/-- AN ARGUMENT's READING, AS THE WALKS TAKE IT. -/
theorem rd_arg {T : Ty} {t : TypeId} {v : Value} {d : DataW H} {p : List MemPlace} (hT : tyG P T (.inl t) = true) (h : DataW.Trod enc P w 0 (fun _ => true) true t v d p) : Rd w T v.cells.toList := by
  obtain ⟨fuel, hf⟩ := h
  exact (rd_of (fun _ => rfl) T).1 t fuel _ _ hT hf

theorem trodAll_below {W W' : World} (hl : laidOutB P = true) (hx : Below W.heap.size W W') : ∀ (ts : List TypeId) (vs : List Value) (ds : List (DataW H)) (ps : List MemPlace), (∀ t ∈ ts, P.readableRec t = true ∧ t < P.types.size) →
    DataW.TrodAll enc P W 0 (fun _ => true) true ts vs ds ps → (∀ x ∈ ps, x.block < W.heap.size) → DataW.TrodAll enc P W' 0 (fun b => decide (b < W.heap.size)) true ts vs ds ps
  | [], vs, ds, ps, _, h, _ => by obtain ⟨rfl, rfl, rfl⟩ := trodAll_nil h; rfl
  | t :: ts, vs, ds, ps, hr, h, hp => by
    obtain ⟨v, vs', d, ds', p, q, rfl, rfl, rfl, h0, h1⟩ := trodAll_cons h
    exact ⟨p, q, Below.trod hl (hr t (List.mem_cons_self ..)).1 (hr t (List.mem_cons_self ..)).2 h0 hx (fun x hm => hp x (List.mem_append_left _ hm)),
      trodAll_below hl hx ts vs' ds' q (fun u hu => hr u (List.mem_cons_of_mem _ hu)) h1 (fun x hm => hp x (List.mem_append_right _ hm)), rfl⟩

/-- A LAW's POST: it returned true, and nothing that was there has changed. -/
theorem post_law {f : Func} {s : ChangeSpec} {W W' : World} {args : Array Value} {ds gs : List (DataW H)} {before : List MemPlace} {tb : TypeId}
    (hW : DataW.Whole enc P f.params.toList s.vars false W args.toList ds gs before) (hv : s.vars = []) (hs : s.fn H (ds ++ gs) = { results := [.lit (.bool true)], args := ds }) (hrt : f.resultTypes = #[tb]) (hb : P.underlying tb = some .bool)
    (hl : laidOutB P = true) (hr : f.params.toList.all (fun t => P.readableRec t && decide (t < P.types.size)) = true) (hx : Ext W W') : s.post enc P f false true false false W args (.bool true) W' := by
  have hlt := hW.lt
  have hW0 := hW
  obtain ⟨p, q, hA, hV, rfl, -, -⟩ := hW
  rw [hv] at hV
  obtain ⟨rfl, rfl⟩ := trodVars_none hV
  refine ⟨ds, [], p ++ [], [], p, [], hW0, ?_, ?_, ?_, hx.frame _, fun h => by cases h⟩
  · rw [hs, hrt]
    exact trodAll_cons_mk (shut_bool hb true) trodAll_mk0
  · rw [hs]
    refine trodAll_below hl hx _ _ _ p (fun t ht => ?_) hA (fun x hm => hlt x (List.mem_append_left _ hm))
    have := List.all_eq_true.1 hr t ht
    simpa using this
  · rw [hs, hv]
    rfl

end
end Go.Proofs.YtckipgijfgeghaaDoor
namespace Go.Proofs.YtckipgijfgeghaaDoor
open Go.ChangeShapes Go.WideShapes Go.ChangeAt Go.RowKit

theorem gRound : Tryd.prog.globalNamed "loop.example/g00284/impl.roundWords" = some 1 := by kernel_rfl
theorem gStart : Tryd.prog.globalNamed "loop.example/g00284/impl.startWords" = some 0 := by kernel_rfl
theorem gRoundT : (Tryd.prog.globals[1]?).map (·.type) = some 98 := by kernel_rfl
theorem gStartT : (Tryd.prog.globals[0]?).map (·.type) = some 85 := by kernel_rfl
theorem cellsW : Tryd.prog.cellsOf 84 = 1 := by kernel_rfl
theorem cellsR : Tryd.prog.cellsOf 98 = 64 := by kernel_rfl
theorem cellsS : Tryd.prog.cellsOf 85 = 8 := by kernel_rfl

theorem key_at : ∀ j, j < 64 → (keysN.map fun n : Nat => (n : Int)).getD j 0 = (keyW j).i := by
  intro j hj
  have h : (keysN.map fun n : Nat => (n : Int)).getD j 0 = ((keysN.getD j 0 : Nat) : Int) := by
    have hl : j < keysN.length := hj
    simp [List.getD_eq_getElem?_getD, hl]
  rw [h, keyW, W32.i_ofN]
  have all : ∀ n ∈ keysN, n < 4294967296 := by decide
  have hl : j < keysN.length := hj
  rw [List.getD_eq_getElem?_getD, List.getElem?_eq_getElem hl]
  exact all _ (List.getElem_mem hl)
theorem start_at : ∀ j, j < 8 → (startN.map fun n : Nat => (n : Int)).getD j 0 = (st0.list.getD j default).i := by
  intro j hj
  rcases lt8 hj with rfl | rfl | rfl | rfl | rfl | rfl | rfl | rfl <;> rfl

/-- WHAT THE ROW's LIST GIVES. -/
theorem tabs_of {W : World} (h : laidMetH Tryd.prog [("loop.example/g00284/impl.roundWords", Rows.laid_loop_example_g00284_impl_roundWords), ("loop.example/g00284/impl.startWords", Rows.laid_loop_example_g00284_impl_startWords)] W) : Tabs W := by
  have h0 : laidMet Tryd.prog [("loop.example/g00284/impl.roundWords", Lib.tabData .u32 (keysN.map fun n : Nat => (n : Int))), ("loop.example/g00284/impl.startWords", Lib.tabData .u32 (startN.map fun n : Nat => (n : Int)))] W := h
  have t1 := Lib.tabIs_of_head gRound gRoundT Tryd.underlying98 Tryd.underlying84 cellsW cellsR h0
  have t2 := Lib.tabIs_of_head gStart gStartT Tryd.underlying85 Tryd.underlying84 cellsW cellsS h0.tail
  refine ⟨⟨?_, fun j hj => ?_⟩, ⟨?_, fun j hj => ?_⟩⟩
  · have := t1.cell gRound 0 (by decide)
    exact World.block_lt_of_cell? W _ this
  · rw [t1.cell gRound j (by rw [List.length_map]; exact hj), key_at j hj]
  · have := t2.cell gStart 0 (by decide)
    exact World.block_lt_of_cell? W _ this
  · rw [t2.cell gStart j (by rw [List.length_map]; exact hj), start_at j hj]

def varOk (P : Program) (n : String) : Bool := match P.globalNamed n with
  | some g => match (P.globals[g]?).map (·.type) with
    | some t => P.readableRec t && decide (t < P.types.size)
    | none => false
  | none => false

section
variable {H : Type} {enc : TypeId × Value → H} {P : Program}
theorem trodVars_two {w : World} {spare : Nat → Bool} {n m : String} {gs : List (DataW H)} {ps : List MemPlace} (h : DataW.TrodVars enc P w spare [n, m] gs ps) : ∃ d1 d2, gs = [d1, d2] := by
  cases gs with
  | nil => simp [DataW.TrodVars] at h
  | cons d ds =>
    obtain ⟨g, t, cs, fuel, p, q, -, -, -, -, hs, -⟩ := h
    obtain ⟨-, -, -, -, d2, -, rfl, -⟩ := trodVars_one hs
    exact ⟨d, d2, rfl⟩
theorem var?_below {W W' : World} (hx : Below W.heap.size W W') {n : String} {cs : Array Value} (h : W.var? P n = some cs) : W'.var? P n = some cs := by
  unfold World.var? at h ⊢
  cases hg : P.globalNamed n with
  | none => simp [hg] at h
  | some g =>
    simp only [hg, Option.bind_some] at h ⊢
    have hlt : g < W.heap.size := by
      cases hh : W.heap[g]? with
      | none => simp [hh] at h
      | some o => exact (Array.getElem?_eq_some_iff.1 hh).1
    rw [hx.block g hlt]
    exact h
theorem trodVars_below {W W' : World} (hl : laidOutB P = true) (hx : Below W.heap.size W W') : ∀ (ns : List String) (gs : List (DataW H)) (q : List MemPlace), ns.all (varOk P) = true → DataW.TrodVars enc P W (fun _ => true) ns gs q → (∀ x ∈ q, x.block < W.heap.size) →
    DataW.TrodVars enc P W' (fun b => decide (b < W.heap.size)) ns gs q
  | [], [], q, _, h, _ => h
  | [], _ :: _, q, _, h, _ => by simp [DataW.TrodVars] at h
  | _ :: _, [], q, _, h, _ => by simp [DataW.TrodVars] at h
  | n :: ns, d :: ds, q, ho, h, hp => by
    obtain ⟨g, t, cs, fuel, p, q2, h1, h2, h3, h4, hs, rfl⟩ := h
    simp only [List.all_cons, Bool.and_eq_true] at ho
    have ho1 := ho.1
    simp only [varOk, h1, h2, Bool.and_eq_true, decide_eq_true_eq] at ho1
    have hlt : ∀ x ∈ p, x.block < W.heap.size := fun x hm => hp x (List.mem_append_left _ (List.mem_append_right _ hm))
    have ht : DataW.Trod enc P W' 0 (fun b => decide (b < W.heap.size)) true t (.agg cs) d p := Below.trod hl ho1.1 ho1.2 ⟨fuel, h4⟩ hx hlt
    obtain ⟨fuel2, h4'⟩ := ht
    exact ⟨g, t, cs, fuel2, p, q2, h1, h2, var?_below hx h3, h4', trodVars_below hl hx ns ds q2 ho.2 hs (fun x hm => hp x (List.mem_append_right _ hm)), rfl⟩

/-- A LAW's POST where variables are named: it returned true, and nothing that was there has changed. -/
theorem post_lawV {f : Func} {s : ChangeSpec} {W W' : World} {args : Array Value} {ds gs : List (DataW H)} {before : List MemPlace} {tb : TypeId}
    (hW : DataW.Whole enc P f.params.toList s.vars false W args.toList ds gs before) (hs : s.fn H (ds ++ gs) = { results := [.lit (.bool true)], args := ds, vars := gs }) (hvs : s.vars.all (varOk P) = true) (hrt : f.resultTypes = #[tb]) (hb : P.underlying tb = some .bool)
    (hl : laidOutB P = true) (hr : f.params.toList.all (fun t => P.readableRec t && decide (t < P.types.size)) = true) (hx : Ext W W') : s.post enc P f false true false false W args (.bool true) W' := by
  have hlt := hW.lt
  have hW0 := hW
  obtain ⟨p, q, hA, hV, rfl, -, -⟩ := hW
  refine ⟨ds, gs, p ++ q, [], p, q, hW0, ?_, ?_, ?_, hx.frame _, fun h => by cases h⟩
  · rw [hs, hrt]
    exact trodAll_cons_mk (shut_bool hb true) trodAll_mk0
  · rw [hs]
    refine trodAll_below hl hx _ _ _ p (fun t ht => ?_) hA (fun x hm => hlt x (List.mem_append_left _ hm))
    have := List.all_eq_true.1 hr t ht
    simpa using this
  · rw [hs]
    exact trodVars_below hl hx _ _ _ hvs hV (fun x hm => hlt x (List.mem_append_right _ hm))
end

/-- a block's cells replaced -/
def laidObj (cs : Array Value) : Obj → Obj
  | .cells _ t frozen => .cells cs t frozen
  | o => o
/-- A WORLD FOR THE WITNESS: the settled one, the two tables holding what their initialisers lay. -/
noncomputable def laidWorld (os : Os) : World :=
  { World.holding Tryd.prog os ⟨#[], #[], []⟩ with heap := ((World.holding Tryd.prog os ⟨#[], #[], []⟩).heap.modify 1 (laidObj (keysN.map fun n : Nat => Value.int .u32 (n : Int)).toArray)).modify 0 (laidObj (startN.map fun n : Nat => Value.int .u32 (n : Int)).toArray) }
end Go.Proofs.YtckipgijfgeghaaDoor
namespace Go.Proofs.YtckipgijfgeghaaDoor
open Go.ChangeShapes Go.WideShapes Go.ChangeAt Go.RowKit

theorem list1 {α : Type} {l : List α} (h : l.length = 1) : ∃ a, l = [a] := by
  match l, h with | [a], _ => exact ⟨a, rfl⟩
theorem list2 {α : Type} {l : List α} (h : l.length = 2) : ∃ a b, l = [a, b] := by
  match l, h with | [a, b], _ => exact ⟨a, b, rfl⟩
theorem list3 {α : Type} {l : List α} (h : l.length = 3) : ∃ a b c, l = [a, b, c] := by
  match l, h with | [a, b, c], _ => exact ⟨a, b, c, rfl⟩
theorem list4 {α : Type} {l : List α} (h : l.length = 4) : ∃ a b c d, l = [a, b, c, d] := by
  match l, h with | [a, b, c, d], _ => exact ⟨a, b, c, d, rfl⟩

theorem of_toList {α : Type} {a : Array α} {l : List α} (h : a.toList = l) : a = l.toArray := by rw [← h]

theorem rd_one {w : World} {f r : Ty} {c : Value} {cs : List Value} (hf : f.n = 1) (h : Rd w (.cons f r) (c :: cs)) : Rd w f [c] ∧ Rd w r cs := by
  obtain ⟨-, h0, h1⟩ := h
  rw [hf] at h0 h1
  exact ⟨h0, h1⟩
theorem rd_int {w : World} {k : IntKind} {c : Value} (h : Rd w (.int k) [c]) : ∃ n, c = .int k n ∧ (Lit.int k n).wf = true := by
  obtain ⟨n, hn, hw⟩ := h
  simp only [List.cons.injEq, and_true] at hn
  exact ⟨n, hn, hw⟩
theorem rd_str {w : World} {c : Value} (h : Rd w .str [c]) : ∃ s, c = .string s ∧ s.size ≤ maxLen := by
  obtain ⟨n, hn, hw⟩ := h
  simp only [List.cons.injEq, and_true] at hn
  exact ⟨n, hn, hw⟩

theorem rd_strs {w : World} {v : Value} (h : Rd w (.sl .str) [v]) : ∃ xs, Strs w v xs ∧ ∀ s ∈ xs, s.size ≤ maxLen := by
  obtain ⟨v', len, flat, hv, hrow, hel⟩ := h
  simp only [List.cons.injEq, and_true] at hv
  subst hv
  simp only [Ty.n, Nat.mul_one] at hel hrow
  have hl : flat.length = len := by have := hrow.1; omega
  have hch : ∀ i, i < len → ∃ s : ByteArray, flat[i]? = some (.string s) ∧ s.size ≤ maxLen := by
    intro i hi
    obtain ⟨s, hs, hm⟩ := hel i hi
    refine ⟨s, ?_, hm⟩
    have : ((flat.drop i).take 1)[0]? = some (.string s) := by rw [hs]; rfl
    simpa using this
  obtain ⟨F, hF⟩ := Deep.choose_lt hch
  have hflat : flat = ((List.range len).map F).map Value.string := by
    apply List.ext_getElem?
    intro i
    by_cases hi : i < len
    · rw [(hF i hi).1]; simp [hi]
    · rw [List.getElem?_eq_none (by omega), List.getElem?_eq_none (by simp; omega)]
  refine ⟨(List.range len).map F, ?_, ?_⟩
  · unfold Strs
    rw [← hflat]
    simpa using hrow
  · intro s hs
    obtain ⟨i, hi, rfl⟩ := List.mem_map.1 hs
    exact (hF i (List.mem_range.1 hi)).2

section
variable {P : Program} {W : World} {r : Reach} {base : Nat} {t : TypeId} {v : Value} {fs : Array Field}

def tyHead : Ty := .cons (.int .i64) (.cons (.int .i64) (.cons .str (.cons .str .nil)))
theorem cells_head {w : World} {cs : List Value} (h : Rd w tyHead cs) : ∃ (n e : Int) (a b : ByteArray), cs = [.int .i64 n, .int .i64 e, .string a, .string b] ∧ a.size ≤ maxLen ∧ b.size ≤ maxLen := by
  obtain ⟨c0, c1, c2, c3, rfl⟩ := list4 (Rd.length _ _ h)
  obtain ⟨h0, h⟩ := rd_one rfl h
  obtain ⟨h1, h⟩ := rd_one rfl h
  obtain ⟨h2, h⟩ := rd_one rfl h
  obtain ⟨h3, h⟩ := rd_one rfl h
  obtain ⟨n, rfl, -⟩ := rd_int h0
  obtain ⟨e, rfl, -⟩ := rd_int h1
  obtain ⟨a, rfl, ha⟩ := rd_str h2
  obtain ⟨b, rfl, hb⟩ := rd_str h3
  exact ⟨n, e, a, b, rfl, ha, hb⟩
theorem arg_head (hs : P.underlying t = some (.struct fs)) (hv : Value.okWide P W r base t v) (h : Rd W tyHead v.cells.toList) :
    ∃ (n e : Int) (a b : ByteArray), v = .agg #[.int .i64 n, .int .i64 e, .string a, .string b] ∧ a.size ≤ maxLen ∧ b.size ≤ maxLen := by
  obtain ⟨cs, rfl, -⟩ := okWide_struct hs hv
  obtain ⟨n, e, a, b, hc, ha, hb⟩ := cells_head h
  exact ⟨n, e, a, b, congrArg Value.agg (of_toList hc), ha, hb⟩

def tyTrust : Ty := .cons (.sl .str) (.cons (.int .i64) (.cons (.int .i64) .nil))
theorem arg_trust (hs : P.underlying t = some (.struct fs)) (hv : Value.okWide P W r base t v) (h : Rd W tyTrust v.cells.toList) :
    ∃ (v1 : Value) (xs : List ByteArray) (k n : Int), v = .agg #[v1, .int .i64 k, .int .i64 n] ∧ Strs W v1 xs ∧ ∀ s ∈ xs, s.size ≤ maxLen := by
  obtain ⟨cs, rfl, -⟩ := okWide_struct hs hv
  have hl := Rd.length _ _ h
  obtain ⟨c0, c1, c2, hc⟩ := list3 hl
  rw [hc] at h
  obtain ⟨h0, h⟩ := rd_one rfl h
  obtain ⟨h1, h⟩ := rd_one rfl h
  obtain ⟨h2, h⟩ := rd_one rfl h
  obtain ⟨k, rfl, -⟩ := rd_int h1
  obtain ⟨n, rfl, -⟩ := rd_int h2
  obtain ⟨xs, h1, h2⟩ := rd_strs h0
  exact ⟨c0, xs, k, n, congrArg Value.agg (of_toList hc), h1, h2⟩
end
end Go.Proofs.YtckipgijfgeghaaDoor
