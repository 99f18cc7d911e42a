/- From the readings of a row to the predicates of the walks; from a walk to a row: an argument's type as a shape 'Ty', its reading 'Rd'; the row's post out of 'Ext'. -/
import Derived.Test.YtniimhfelnjepaaDoorBase
import Derived.ProofKit
import Derived.OpenShut
import Derived.Deep.Slices
namespace Go.Proofs.YtniimhfelnjepaaDoor
open Go.ChangeShapes Go.WideShapes Go.ChangeAt Go.RowKit

inductive Ty where
  | int (k : IntKind)
  | str
  | sl (e : Ty)
  | nil
  | cons (f r : Ty)

def Ty.n : Ty → Nat
  | .int _ => 1
  | .str => 1
  | .sl _ => 1
  | .nil => 0
  | .cons f r => f.n + r.n

def Rd (w : World) : Ty → List Value → Prop
  | .int k, cs => ∃ n, cs = [.int k n] ∧ (Lit.int k n).wf = true
  | .str, cs => ∃ s, cs = [.string s] ∧ s.size ≤ maxLen
  | .sl e, cs => ∃ v len flat, cs = [v] ∧ Row w e.n v len flat ∧ ∀ i, i < len → Rd w e ((flat.drop (i * e.n)).take e.n)
  | .nil, cs => cs = []
  | .cons f r, cs => cs.length = f.n + r.n ∧ Rd w f (cs.take f.n) ∧ Rd w r (cs.drop f.n)

theorem Rd.length {w : World} : ∀ (T : Ty) (cs : List Value), Rd w T cs → cs.length = T.n
  | .int _, cs, h => by obtain ⟨n, rfl, _⟩ := h; rfl
  | .str, cs, h => by obtain ⟨s, rfl, _⟩ := h; rfl
  | .sl _, cs, h => by obtain ⟨v, l, fl, rfl, _⟩ := h; rfl
  | .nil, cs, h => by have h' : cs = [] := h; rw [h']; rfl
  | .cons f r, cs, h => h.1

def tyG (P : Program) : Ty → (TypeId ⊕ (List Field × Nat)) → Bool
  | .int k, .inl t => match P.underlying t with | some (.int k') => decide (k = k') | _ => false
  | .str, .inl t => match P.underlying t with | some .string => true | _ => false
  | .sl e, .inl t => match P.underlying t with | some (.slice u) => decide (P.cellsOf u = e.n) && decide (0 < e.n) && tyG P e (.inl u) | _ => false
  | .nil, .inr (fs, _) => fs.isEmpty
  | .cons f r, .inl t => match P.underlying t with
    | some (.struct fs) => (match fs.toList with
      | fd :: fds => decide (P.cellsOf t = f.n + r.n) && decide (fd.offset = 0) && decide (P.cellsOf fd.type = f.n) && tyG P f (.inl fd.type) && tyG P r (.inr (fds, f.n))
      | [] => false)
    | _ => false
  | .cons f r, .inr (fs, off) => match fs with
    | fd :: fds => decide (fd.offset = off) && decide (P.cellsOf fd.type = f.n) && tyG P f (.inl fd.type) && tyG P r (.inr (fds, off + f.n))
    | [] => false
  | _, _ => false

section
variable {H : Type} {enc : TypeId × Value → H} {P : Program} {w : World} {base : Nat} {spare : Nat → Bool} {held : Bool}

theorem plain_add {w : World} {a : Addr} {i : Nat} {u : Value} (h : w.cell? (a.add i) = some u) : a.add i = ⟨a.block, a.off + i, none⟩ := by
  unfold Addr.add at h ⊢
  split
  · next h0 =>
    subst h0
    rw [if_pos rfl] at h
    have hs : a.spot = none := by
      unfold World.cell? at h
      cases hsp : a.spot with
      | none => rfl
      | some x => split at h <;> simp [hsp] at h
    cases a; simp_all
  · rfl

theorem rd_of (hsp : ∀ b, spare b = true) : ∀ (T : Ty),
    (∀ t fuel cs x, tyG P T (.inl t) = true → DataW.trod enc P w base spare held fuel t cs = some x → Rd w T cs) ∧
    (∀ fs off (cs : List Value), tyG P T (.inr (fs, off)) = true → cs.length = off + T.n →
      (∀ fd ∈ fs, ∃ n x, DataW.trod enc P w base spare held n fd.type ((cs.drop fd.offset).take (P.cellsOf fd.type)) = some x) → Rd w T (cs.drop off))
  | .int k => by
    refine ⟨fun t fuel cs x ht h => ?_, fun fs off cs ht => by simp [tyG] at ht⟩
    simp only [tyG] at ht
    split at ht <;> simp at ht
    rename_i k' hk
    subst ht
    obtain ⟨n, rfl, _, hw⟩ := DataW.trod_int hk h
    exact ⟨n, rfl, hw⟩
  | .str => by
    refine ⟨fun t fuel cs x ht h => ?_, fun fs off cs ht => by simp [tyG] at ht⟩
    simp only [tyG] at ht
    split at ht <;> simp at ht
    rename_i hk
    obtain ⟨s, rfl, _, hw⟩ := DataW.trod_string hk h
    exact ⟨s, rfl, hw⟩
  | .sl e => by
    refine ⟨fun t fuel cs x ht h => ?_, fun fs off cs ht => by simp [tyG] at ht⟩
    simp only [tyG] at ht
    split at ht <;> simp at ht
    rename_i u hu
    obtain ⟨⟨hn, hpos⟩, hT⟩ := ht
    rcases Deep.open_slice hu h with ⟨rfl, -⟩ | ⟨a, len, cap, m, n, D, Pl, rfl, -, hlc, hcm, hm, -, hel⟩
    · exact ⟨_, 0, [], rfl, ⟨by simp, none, 0, rfl, Nat.le_refl _, Nat.zero_le _, Or.inl rfl⟩, fun i hi => absurd hi (Nat.not_lt_zero _)⟩
    · rw [if_pos (hsp _)] at hm
      subst hm
      rw [hn] at hel
      have hch : ∀ i, i < len → ∃ cs' : List Value, cs'.length = e.n ∧ (∀ j u, cs'[j]? = some u → w.cell? (a.add (i * e.n + j)) = some u) ∧ Rd w e cs' := by
        intro i hi
        obtain ⟨cs', hc, htr⟩ := hel i (by omega)
        obtain ⟨-, hl, hg⟩ := World.cells?_some hc
        refine ⟨cs', hl, fun j u hu => ?_, (rd_of hsp e).1 u n cs' _ hT htr⟩
        have hj : j < e.n := by
          rw [← hl]; exact (List.getElem?_eq_some_iff.1 hu).1
        rw [← Deep.add_add, hg j hj, hu]
      obtain ⟨F, hF⟩ := Deep.choose_lt hch
      have hflat : ∀ k, k ≤ len → ((List.range k).flatMap F).length = k * e.n := by
        intro k hk
        induction k with
        | zero => simp
        | succ k ih => rw [List.range_succ, List.flatMap_append, List.length_append, ih (by omega)]; simp [(hF k (by omega)).1, Nat.add_mul]
      have hsplit : ∀ i, i < len → ((List.range len).flatMap F) = (List.range i).flatMap F ++ (F i ++ ((List.range (len - i - 1)).map (i + 1 + ·)).flatMap F) := by
        intro i hi
        rw [Deep.range_split (show i + 1 ≤ len by omega), List.range_succ, List.flatMap_append, List.flatMap_append, List.append_assoc]
        simp [Nat.sub_sub]
      have hcut : ∀ i, i < len → ((((List.range len).flatMap F).drop (i * e.n)).take e.n) = F i := by
        intro i hi
        rw [hsplit i hi, List.drop_left' (hflat i (by omega)), List.take_left' (hF i hi).1]
      refine ⟨_, len, (List.range len).flatMap F, rfl, ⟨hflat len (Nat.le_refl _), some a, m, rfl, hlc, hcm, ?_⟩, fun i hi => by rw [hcut i hi]; exact (hF i hi).2.2⟩
      by_cases h0 : len = 0
      · exact Or.inl h0
      · have hall : ∀ j u, ((List.range len).flatMap F)[j]? = some u → w.cell? (a.add j) = some u := by
          intro j u hu
          have hj : j < len * e.n := by
            have := (List.getElem?_eq_some_iff.1 hu).1
            rwa [hflat len (Nat.le_refl _)] at this
          have hi : j / e.n < len := Nat.div_lt_of_lt_mul (by rwa [Nat.mul_comm])
          have hm := Nat.div_add_mod j e.n
          have hr := Nat.mod_lt j hpos
          have hget : (F (j / e.n))[j % e.n]? = some u := by
            rw [← hcut _ hi, List.getElem?_take_of_lt hr, List.getElem?_drop]
            rwa [show j / e.n * e.n + j % e.n = j by rw [Nat.mul_comm]; exact hm]
          have := (hF _ hi).2.1 _ _ hget
          rwa [show j / e.n * e.n + j % e.n = j by rw [Nat.mul_comm]; exact hm] at this
        have h0' : 0 < ((List.range len).flatMap F).length := by
          rw [hflat len (Nat.le_refl _)]; exact Nat.mul_pos (by omega) hpos
        have hz := hall 0 _ (List.getElem?_eq_getElem h0')
        have hb := World.block_lt_of_cell? w _ hz
        have hsp0 : a = ⟨a.block, a.off, none⟩ := by
          have := plain_add hz
          simpa [Addr.add] using this
        refine Or.inr ⟨a.block, a.off, by rw [← hsp0], by simpa [Addr.add] using hb, fun j u hu => ?_⟩
        have h1 := hall j u hu
        rwa [plain_add h1] at h1
  | .nil => by
    refine ⟨fun t fuel cs x ht h => by simp [tyG] at ht, fun fs off cs ht hl _ => ?_⟩
    show cs.drop off = []
    exact List.drop_eq_nil_of_le (by simp [Ty.n] at hl; omega)
  | .cons f r => by
    refine ⟨fun t fuel cs x ht h => ?_, fun fs off cs ht hl hf => ?_⟩
    · simp only [tyG] at ht
      split at ht
      case h_2 => simp at ht
      rename_i fs hfs
      split at ht
      case h_2 => simp at ht
      rename_i fd fds hfd
      simp only [Bool.and_eq_true, decide_eq_true_eq] at ht
      obtain ⟨⟨⟨⟨hc, h0⟩, hn⟩, h1⟩, h2⟩ := ht
      obtain ⟨xs, n, rfl, -, hlen, hxl, hel⟩ := DataW.trod_struct hfs h
      have hall : ∀ (i : Nat) fd, fs.toList[i]? = some fd → ∃ x, DataW.trod enc P w base spare held n fd.type ((cs.drop fd.offset).take (P.cellsOf fd.type)) = some x := by
        intro i fd hi
        have hi' : fs[i]? = some fd := by simpa using hi
        rw [hel i fd hi']
        have : i < fs.size := (Array.getElem?_eq_some_iff.1 hi').1
        exact ⟨_, List.getElem?_eq_getElem (by omega)⟩
      rw [hfd] at hall
      obtain ⟨x0, hx0⟩ := hall 0 fd rfl
      rw [h0, hn, List.drop_zero] at hx0
      refine ⟨by omega, (rd_of hsp f).1 _ _ _ _ h1 hx0, (rd_of hsp r).2 fds f.n cs h2 (by omega) fun gd hg => ?_⟩
      obtain ⟨i, hi⟩ := List.mem_iff_getElem?.1 hg
      obtain ⟨x, hx⟩ := hall (i + 1) gd (by simpa using hi)
      exact ⟨n, x, hx⟩
    · simp only [tyG] at ht
      cases fs with
      | nil => simp at ht
      | cons fd fds =>
      simp only [Bool.and_eq_true, decide_eq_true_eq] at ht
      obtain ⟨⟨⟨h0, hn⟩, h1⟩, h2⟩ := ht
      simp only [Ty.n] at hl
      obtain ⟨n, x, hx⟩ := hf fd (List.mem_cons_self ..)
      rw [h0, hn] at hx
      refine ⟨by simp; omega, (rd_of hsp f).1 _ _ _ _ h1 hx, ?_⟩
      rw [List.drop_drop]
      exact (rd_of hsp r).2 fds (off + f.n) cs h2 (by omega) fun gd hg => hf gd (List.mem_cons_of_mem _ hg)

/-- AN ARGUMENT's READING, AS THE WALKS TAKE IT. -/
theorem rd_arg {T : Ty} {t : TypeId} {v : Value} {d : DataW H} {p : List MemPlace} (hT : tyG P T (.inl t) = true) (h : DataW.Trod enc P w 0 (fun _ => true) true t v d p) : Rd w T v.cells.toList := by
  obtain ⟨fuel, hf⟩ := h
  exact (rd_of (fun _ => rfl) T).1 t fuel _ _ hT hf

theorem trodAll_below {W W' : World} (hl : laidOutB P = true) (hx : Below W.heap.size W W') : ∀ (ts : List TypeId) (vs : List Value) (ds : List (DataW H)) (ps : List MemPlace), (∀ t ∈ ts, P.readableRec t = true ∧ t < P.types.size) →
    DataW.TrodAll enc P W 0 (fun _ => true) true ts vs ds ps → (∀ x ∈ ps, x.block < W.heap.size) → DataW.TrodAll enc P W' 0 (fun b => decide (b < W.heap.size)) true ts vs ds ps
  | [], vs, ds, ps, _, h, _ => by obtain ⟨rfl, rfl, rfl⟩ := trodAll_nil h; rfl
  | t :: ts, vs, ds, ps, hr, h, hp => by
    obtain ⟨v, vs', d, ds', p, q, rfl, rfl, rfl, h0, h1⟩ := trodAll_cons h
    exact ⟨p, q, Below.trod hl (hr t (List.mem_cons_self ..)).1 (hr t (List.mem_cons_self ..)).2 h0 hx (fun x hm => hp x (List.mem_append_left _ hm)),
      trodAll_below hl hx ts vs' ds' q (fun u hu => hr u (List.mem_cons_of_mem _ hu)) h1 (fun x hm => hp x (List.mem_append_right _ hm)), rfl⟩

/-- A LAW's POST: it returned true, and nothing that was there has changed. -/
theorem post_law {f : Func} {s : ChangeSpec} {W W' : World} {args : Array Value} {ds gs : List (DataW H)} {before : List MemPlace} {tb : TypeId}
    (hW : DataW.Whole enc P f.params.toList s.vars false W args.toList ds gs before) (hv : s.vars = []) (hs : s.fn H (ds ++ gs) = { results := [.lit (.bool true)], args := ds }) (hrt : f.resultTypes = #[tb]) (hb : P.underlying tb = some .bool)
    (hl : laidOutB P = true) (hr : f.params.toList.all (fun t => P.readableRec t && decide (t < P.types.size)) = true) (hx : Ext W W') : s.post enc P f false true false false W args (.bool true) W' := by
  have hlt := hW.lt
  have hW0 := hW
  obtain ⟨p, q, hA, hV, rfl, -, -⟩ := hW
  rw [hv] at hV
  obtain ⟨rfl, rfl⟩ := trodVars_none hV
  refine ⟨ds, [], p ++ [], [], p, [], hW0, ?_, ?_, ?_, hx.frame _, fun h => by cases h⟩
  · rw [hs, hrt]
    exact trodAll_cons_mk (shut_bool hb true) trodAll_mk0
  · rw [hs]
    refine trodAll_below hl hx _ _ _ p (fun t ht => ?_) hA (fun x hm => hlt x (List.mem_append_left _ hm))
    have := List.all_eq_true.1 hr t ht
    simpa using this
  · rw [hs, hv]
    rfl

end
end Go.Proofs.YtniimhfelnjepaaDoor
