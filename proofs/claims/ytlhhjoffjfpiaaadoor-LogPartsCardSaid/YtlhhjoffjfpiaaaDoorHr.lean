/- Words of this session's for the row round a walk that leaves all that was there as it was: the arguments opened into memory that is read alone, and the row's limbs. (YtlhhjoffjfpiaaaDoor stands for the seat's name.) -/
import Derived.Test.YtlhhjoffjfpiaaaDoorHp
import Derived.ProofKit
import Derived.OpenShut
import Derived.JoinedCond
import Derived.Deep.Grids
import Derived.LaidMore
import Derived.LaidHandle
set_option linter.unusedVariables false
namespace Go.Hpw
open Go Go.RowKit Go.ChangeShapes Go.WideShapes Go.ChangeAt
/-- All memory as it stands. -/
def memI (W : World) : Imm := fun b => W.heap[b]?
theorem memI_im (W : World) : ∀ b o, memI W b = some o → W.heap[b]? = some o := fun _ _ h => h
theorem cellsAt_of {W : World} {a : Addr} {vs : List Value} (hne : 0 < vs.length) (h : ∀ i u, vs[i]? = some u → W.cell? (a.add i) = some u) : a.spot = none ∧ CellsAt (memI W) a.block a.off vs := by
  obtain ⟨b, off, s⟩ := a
  have h0 := h 0 vs[0] (by simp [hne])
  have hs : s = none := by
    unfold World.cell? at h0
    split at h0
    · cases s with
      | none => rfl
      | some q => unfold Addr.add at h0; split at h0 <;> simp_all
    · cases h0
  subst hs
  refine ⟨rfl, ?_⟩
  have h' : ∀ i u, vs[i]? = some u → W.cell? ⟨b, off + i, none⟩ = some u := fun i u hu => by have := h i u hu; rwa [add_lit' _ rfl] at this
  have h0' := h' 0 vs[0] (by simp [hne])
  unfold World.cell? at h0'
  split at h0'
  · rename_i c T fr hc
    refine ⟨c, T, fr, hc, fun j u hu => ?_⟩
    have := h' j u hu
    unfold World.cell? at this
    simp only at hc
    rw [show (⟨b, off + j, none⟩ : Addr).block = b from rfl, hc] at this
    simpa using this
  · cases h0'
section
variable {H : Type} {enc : TypeId × Value → H} {P : Program} {W W' : World}
theorem trodAll_below (hl : laidOutB P = true) (hb : Below W.heap.size W W') : ∀ (ts : List TypeId) (vs : List Value) (ds : List (DataW H)) (ps : List MemPlace), ts.all (fun t => P.readableRec t && decide (t < P.types.size)) = true →
    DataW.TrodAll enc P W 0 (fun _ => true) true ts vs ds ps → (∀ x ∈ ps, x.block < W.heap.size) → DataW.TrodAll enc P W' 0 (fun b => decide (b < W.heap.size)) true ts vs ds ps
  | [], vs, ds, ps, _, h, _ => by
    obtain ⟨rfl, rfl, rfl⟩ := trodAll_nil h
    exact trodAll_mk0
  | t :: ts, vs, ds, ps, hr, h, hlt => by
    obtain ⟨v, vs', d, ds', p, q, rfl, rfl, rfl, h0, h1⟩ := trodAll_cons h
    simp only [List.all_cons, Bool.and_eq_true, decide_eq_true_eq] at hr
    exact trodAll_cons_mk (Below.trod hl hr.1.1 hr.1.2 h0 hb fun x hx => hlt x (by simp [hx])) (trodAll_below hl hb ts vs' ds' q hr.2 h1 fun x hx => hlt x (by simp [hx]))
/-- The limbs of a row whose law answers true and leaves all as it was. -/
theorem post_true {f : Func} {s : ChangeSpec} {args : Array Value} {ds gs : List (DataW H)} {before : List MemPlace} {tb : TypeId} (hl : laidOutB P = true)
    (hp : f.params.toList.all (fun t => P.readableRec t && decide (t < P.types.size)) = true) (hW : DataW.Whole enc P f.params.toList s.vars false W args.toList ds gs before) (hv : s.vars = [])
    (hr : f.resultTypes = #[tb]) (hbt : P.underlying tb = some .bool) (hs : (s.fn H ds).results = [.lit (.bool true)] ∧ (s.fn H ds).args = ds ∧ (s.fn H ds).vars = []) (hb : Below W.heap.size W W') :
    s.post enc P f false true false false W args (.bool true) W' := by
  have hW' := hW
  have hlt : ∀ x ∈ before, x.block < W.heap.size := fun x hx => by simpa using hW.lt x hx
  obtain ⟨p, q, hA, hV, rfl, hfz, hnd⟩ := hW
  rw [hv] at hV
  obtain ⟨rfl, rfl⟩ := trodVars_none hV
  simp only [List.append_nil] at hlt
  refine ⟨ds, [], p ++ [], [], p, [], hW', ?_, ?_, ?_, hb.frame _, fun h => by cases h⟩
  · rw [List.append_nil, hs.1, hr]
    exact trodAll_mk1 (shut_bool hbt true)
  · rw [List.append_nil, hs.2.1]
    exact trodAll_below hl hb _ _ _ _ hp hA hlt
  · rw [List.append_nil, hs.2.2, hv]
    exact rfl
/-- A struct by value: its cells, and each field's reading. -/
theorem open_struct {r : Reach} {b0 : Nat} {t : TypeId} {fs : Array Field} {v : Value} {d : DataW H} {p : List MemPlace} {base : Nat} {spare : Nat → Bool} {held : Bool} (hs : P.underlying t = some (.struct fs)) (hv : Value.okWide P W r b0 t v) (h : DataW.Trod enc P W base spare held t v d p) :
    ∃ cs : List Value, v = .agg cs.toArray ∧ cs.length = P.cellsOf t ∧ Row.okWide P W r b0 t cs.toArray ∧ ∀ (i : Nat) (f : Field), fs[i]? = some f → ∃ n y, DataW.trod enc P W base spare held n f.type ((cs.drop f.offset).take (P.cellsOf f.type)) = some y := by
  simp only [Value.okWide, hs] at hv
  obtain ⟨⟨cs⟩, rfl, hsz, hrow⟩ := hv
  obtain ⟨fuel, hf⟩ := h
  obtain ⟨xs, n, _, _, _, hlen, hx⟩ := DataW.trod_struct hs hf
  refine ⟨cs, rfl, by simpa using hsz, hrow, fun i f hi => ?_⟩
  have hlt : i < xs.length := by rw [hlen]; exact (Array.getElem?_eq_some_iff.1 hi).1
  exact ⟨n, xs[i], by rw [← List.getElem?_eq_getElem hlt, ← hx i f hi]; rfl⟩
/-- A struct's fields once more, of cells alone (a field that is a struct). -/
theorem open_fields {t : TypeId} {fs : Array Field} {cs : List Value} {n : Nat} {y : DataW H × List MemPlace} {base : Nat} {spare : Nat → Bool} {held : Bool} (hs : P.underlying t = some (.struct fs)) (h : DataW.trod enc P W base spare held n t cs = some y) :
    cs.length = P.cellsOf t ∧ ∀ (i : Nat) (f : Field), fs[i]? = some f → ∃ n y, DataW.trod enc P W base spare held n f.type ((cs.drop f.offset).take (P.cellsOf f.type)) = some y := by
  obtain ⟨xs, n, _, _, hl, hlen, hx⟩ := DataW.trod_struct hs h
  refine ⟨hl, fun i f hi => ?_⟩
  have hlt : i < xs.length := by rw [hlen]; exact (Array.getElem?_eq_some_iff.1 hi).1
  exact ⟨n, xs[i], by rw [← List.getElem?_eq_getElem hlt, ← hx i f hi]⟩
theorem flat_get {τ : Type} (f : τ → List Value) (k : Nat) (hf : ∀ x, (f x).length = k) (hk : 0 < k) (l : List τ) (q : Nat) (u : Value) (h : (l.flatMap f)[q]? = some u) : ∃ x, l[q / k]? = some x ∧ (f x)[q % k]? = some u := by
  induction l generalizing q with
  | nil => simp at h
  | cons x r ih =>
    rw [List.flatMap_cons, List.getElem?_append] at h
    split at h
    · rename_i hlt
      rw [hf] at hlt
      refine ⟨x, by rw [Nat.div_eq_of_lt hlt]; rfl, by rw [Nat.mod_eq_of_lt hlt]; exact h⟩
    · rename_i hge
      rw [hf] at hge h
      obtain ⟨x', h1, h2⟩ := ih _ h
      have e : q = (q - k) + k := by omega
      refine ⟨x', ?_, ?_⟩
      · rw [e, Nat.add_div_right _ hk]; exact h1
      · rw [e, Nat.add_mod_right]; exact h2
theorem add_add (a : Addr) (i j : Nat) (h : a.spot = none) : (a.add i).add j = a.add (i + j) := by
  obtain ⟨b, o, s⟩ := a
  simp only at h
  subst h
  rw [add_lit' ⟨b, o, none⟩ rfl, add_lit' ⟨b, o + i, none⟩ rfl, add_lit' ⟨b, o, none⟩ rfl, Nat.add_assoc]
theorem cells_get {a : Addr} {n : Nat} {cs : List Value} {base : Nat} (h : W.cells? base a n = some cs) : cs.length = n ∧ ∀ j u, cs[j]? = some u → W.cell? (a.add j) = some u := by
  unfold World.cells? at h
  split at h
  · have hl : cs.length = n := by have := mapM_some_length h; simpa using this
    refine ⟨hl, fun j u hu => ?_⟩
    have hj : j < n := by rw [← hl]; exact (List.getElem?_eq_some_iff.1 hu).1
    have := mapM_some_get h j j (by simp [hj])
    rw [this, hu]
  · cases h
theorem cell_spot {a : Addr} {v : Value} (h : W.cell? a = some v) : a.spot = none := by
  obtain ⟨b, off, s⟩ := a
  unfold World.cell? at h
  split at h
  · cases s with
    | none => rfl
    | some q => simp at h
  · cases h
theorem choose_list {τ : Type} (n : Nat) (Q : Nat → τ → Prop) (h : ∀ i, i < n → ∃ x, Q i x) : ∃ l : List τ, l.length = n ∧ ∀ i x, l[i]? = some x → Q i x := by
  induction n with
  | zero => exact ⟨[], rfl, by simp⟩
  | succ n ih =>
    obtain ⟨l, h1, h2⟩ := ih fun i hi => h i (by omega)
    obtain ⟨x, hx⟩ := h n (by omega)
    refine ⟨l ++ [x], by simp [h1], fun i x' hi => ?_⟩
    rw [List.getElem?_append] at hi
    split at hi
    · exact h2 i x' hi
    · rename_i hge
      have hi0 : i - l.length = 0 := by
        rcases Nat.eq_zero_or_pos (i - l.length) with h0 | h0
        · exact h0
        · rw [List.getElem?_eq_none (by simp; omega)] at hi; cases hi
      rw [hi0] at hi
      cases hi
      rw [show i = n by omega]
      exact hx
theorem open_slice_of {τ : Type} (f : τ → List Value) (Good : τ → Prop) {t e : TypeId} {k : Nat} (ht : P.underlying t = some (.slice e)) (hk : P.cellsOf e = k) (hpos : 0 < k) (hf : ∀ x, (f x).length = k)
    (each : ∀ n cs y, DataW.trod enc P W 0 (fun _ => true) true n e cs = some y → ∃ x, cs = f x ∧ Good x) {fuel : Nat} {cs : List Value} {y : DataW H × List MemPlace} (h : DataW.trod enc P W 0 (fun _ => true) true fuel t cs = some y) :
    ∃ (A : Option Addr) (n c : Nat) (l : List τ), cs = [.slice A n c] ∧ Rd (memI W) (.slice A n c) k n (l.flatMap f) ∧ l.length = n ∧ ∀ x ∈ l, Good x := by
  rcases DataW.trod_slice ht h with ⟨rfl, _⟩ | ⟨a, len, cap, elems, rest, n, _, rfl, _, _, hlc, hcm, hlen, hel, _, _⟩
  · exact ⟨none, 0, 0, [], rfl, Rd.nil _ _, rfl, by simp⟩
  · have key : ∀ i, i < len → ∃ x, W.cells? 0 (a.add (i * k)) k = some (f x) ∧ Good x := by
      intro i hi
      have hE := hel i hi
      rw [hk] at hE
      cases hy : elems[i]? with
      | none => rw [List.getElem?_eq_none_iff] at hy; omega
      | some y =>
        rw [hy, Option.bind_eq_some_iff] at hE
        obtain ⟨c1, hc1, hy1⟩ := hE
        obtain ⟨x, rfl, hg⟩ := each _ _ _ hy1
        exact ⟨x, hc1, hg⟩
    obtain ⟨l, hl1, hl2⟩ := choose_list len (fun i x => W.cells? 0 (a.add (i * k)) k = some (f x) ∧ Good x) key
    refine ⟨some a, len, cap, l, rfl, ⟨?_, _, _, rfl, hlc, hcm, by simp, fun h0 => ⟨a, rfl, ?_⟩⟩, hl1, fun x hx => ?_⟩
    · rw [List.length_flatMap, show l.map (fun x => (f x).length) = l.map fun _ => k from by simp [hf], List.map_const', List.sum_replicate_nat, hl1]
    · have hsp : a.spot = none := by
        have hlp : 0 < len := Nat.pos_of_mul_pos_right h0
        obtain ⟨x, hx, _⟩ := key 0 hlp
        obtain ⟨hln, hcl⟩ := cells_get hx
        have h00 := hcl 0 ((f x)[0]'(by rw [hln]; exact hpos)) (by simp)
        have := cell_spot h00
        rw [Nat.zero_mul] at this
        have e0 : (a.add 0).add 0 = a := by simp [Addr.add]
        rwa [e0] at this
      refine cellsAt_of ?_ fun q u hq => ?_
      · rw [List.length_flatMap, show l.map (fun x => (f x).length) = l.map fun _ => k from by simp [hf], List.map_const', List.sum_replicate_nat, hl1]; exact h0
      · obtain ⟨x, hx1, hx2⟩ := flat_get f k hf hpos l q u hq
        have := (cells_get (hl2 _ _ hx1).1).2 _ _ hx2
        rw [add_add a _ _ hsp] at this
        rwa [show q / k * k + q % k = q from by rw [Nat.mul_comm]; exact Nat.div_add_mod q k] at this
    · obtain ⟨i, hi⟩ := List.getElem?_of_mem hx
      exact (hl2 i x hi).2
theorem wf_i64 {n : Int} (h : (Lit.int .i64 n).wf = true) : -9223372036854775808 ≤ n ∧ n ≤ 9223372036854775807 := by
  simpa [Lit.wf, IntKind.min, IntKind.max, IntKind.signed, IntKind.bits] using h
theorem wf_u64 {n : Int} (h : (Lit.int .u64 n).wf = true) : 0 ≤ n ∧ n ≤ 18446744073709551615 := by
  simpa [Lit.wf, IntKind.min, IntKind.max, IntKind.signed, IntKind.bits] using h
theorem wf_u32 {n : Int} (h : (Lit.int .u32 n).wf = true) : 0 ≤ n ∧ n ≤ 4294967295 := by
  simpa [Lit.wf, IntKind.min, IntKind.max, IntKind.signed, IntKind.bits] using h
theorem wf_u16 {n : Int} (h : (Lit.int .u16 n).wf = true) : 0 ≤ n ∧ n ≤ 65535 := by
  simpa [Lit.wf, IntKind.min, IntKind.max, IntKind.signed, IntKind.bits] using h
theorem wf_u8 {n : Int} (h : (Lit.int .u8 n).wf = true) : 0 ≤ n ∧ n ≤ 255 := by
  simpa [Lit.wf, IntKind.min, IntKind.max, IntKind.signed, IntKind.bits] using h
end
end Go.Hpw
