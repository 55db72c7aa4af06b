/- Words of this session's for the row round a walk that leaves all that was there as it was: the arguments opened into memory that is read alone, and the row's limbs. (Ytlhhjoffjfpiaaa stands for the seat's name.) -/
import Derived.Test.YtlhhjoffjfpiaaaHp
import Derived.ProofKit
import Derived.OpenShut
import Derived.JoinedCond
import Derived.Deep.Grids
set_option linter.unusedVariables false
namespace Go.Hpw
open Go Go.RowKit Go.ChangeShapes Go.WideShapes Go.ChangeAt
/-- All memory as it stands. -/
def memI (W : World) : Imm := fun b => W.heap[b]?
theorem memI_im (W : World) : ∀ b o, memI W b = some o → W.heap[b]? = some o := fun _ _ h => h
theorem cellsAt_of {W : World} {a : Addr} {vs : List Value} (hne : 0 < vs.length) (h : ∀ i u, vs[i]? = some u → W.cell? (a.add i) = some u) : a.spot = none ∧ CellsAt (memI W) a.block a.off vs := by
  obtain ⟨b, off, s⟩ := a
  have h0 := h 0 vs[0] (by simp [hne])
  have hs : s = none := by
    unfold World.cell? at h0
    split at h0
    · cases s with
      | none => rfl
      | some q => unfold Addr.add at h0; split at h0 <;> simp_all
    · cases h0
  subst hs
  refine ⟨rfl, ?_⟩
  have h' : ∀ i u, vs[i]? = some u → W.cell? ⟨b, off + i, none⟩ = some u := fun i u hu => by have := h i u hu; rwa [add_lit' _ rfl] at this
  have h0' := h' 0 vs[0] (by simp [hne])
  unfold World.cell? at h0'
  split at h0'
  · rename_i c T fr hc
    refine ⟨c, T, fr, hc, fun j u hu => ?_⟩
    have := h' j u hu
    unfold World.cell? at this
    simp only at hc
    rw [show (⟨b, off + j, none⟩ : Addr).block = b from rfl, hc] at this
    simpa using this
  · cases h0'
section
variable {H : Type} {enc : TypeId × Value → H} {P : Program} {W W' : World}
theorem trodAll_below (hl : laidOutB P = true) (hb : Below W.heap.size W W') : ∀ (ts : List TypeId) (vs : List Value) (ds : List (DataW H)) (ps : List MemPlace), ts.all (fun t => P.readableRec t && decide (t < P.types.size)) = true →
    DataW.TrodAll enc P W 0 (fun _ => true) true ts vs ds ps → (∀ x ∈ ps, x.block < W.heap.size) → DataW.TrodAll enc P W' 0 (fun b => decide (b < W.heap.size)) true ts vs ds ps
  | [], vs, ds, ps, _, h, _ => by
    obtain ⟨rfl, rfl, rfl⟩ := trodAll_nil h
    exact trodAll_mk0
  | t :: ts, vs, ds, ps, hr, h, hlt => by
    obtain ⟨v, vs', d, ds', p, q, rfl, rfl, rfl, h0, h1⟩ := trodAll_cons h
    simp only [List.all_cons, Bool.and_eq_true, decide_eq_true_eq] at hr
    exact trodAll_cons_mk (Below.trod hl hr.1.1 hr.1.2 h0 hb fun x hx => hlt x (by simp [hx])) (trodAll_below hl hb ts vs' ds' q hr.2 h1 fun x hx => hlt x (by simp [hx]))
/-- The limbs of a row whose law answers true and leaves all as it was. -/
theorem post_true {f : Func} {s : ChangeSpec} {args : Array Value} {ds gs : List (DataW H)} {before : List MemPlace} {tb : TypeId} (hl : laidOutB P = true)
    (hp : f.params.toList.all (fun t => P.readableRec t && decide (t < P.types.size)) = true) (hW : DataW.Whole enc P f.params.toList s.vars false W args.toList ds gs before) (hv : s.vars = [])
    (hr : f.resultTypes = #[tb]) (hbt : P.underlying tb = some .bool) (hs : (s.fn H ds).results = [.lit (.bool true)] ∧ (s.fn H ds).args = ds ∧ (s.fn H ds).vars = []) (hb : Below W.heap.size W W') :
    s.post enc P f false true false false W args (.bool true) W' := by
  have hW' := hW
  have hlt : ∀ x ∈ before, x.block < W.heap.size := fun x hx => by simpa using hW.lt x hx
  obtain ⟨p, q, hA, hV, rfl, hfz, hnd⟩ := hW
  rw [hv] at hV
  obtain ⟨rfl, rfl⟩ := trodVars_none hV
  simp only [List.append_nil] at hlt
  refine ⟨ds, [], p ++ [], [], p, [], hW', ?_, ?_, ?_, hb.frame _, fun h => by cases h⟩
  · rw [List.append_nil, hs.1, hr]
    exact trodAll_mk1 (shut_bool hbt true)
  · rw [List.append_nil, hs.2.1]
    exact trodAll_below hl hb _ _ _ _ hp hA hlt
  · rw [List.append_nil, hs.2.2, hv]
    exact rfl
/-- A struct by value: its cells, and each field's reading. -/
theorem open_struct {r : Reach} {b0 : Nat} {t : TypeId} {fs : Array Field} {v : Value} {d : DataW H} {p : List MemPlace} {base : Nat} {spare : Nat → Bool} {held : Bool} (hs : P.underlying t = some (.struct fs)) (hv : Value.okWide P W r b0 t v) (h : DataW.Trod enc P W base spare held t v d p) :
    ∃ cs : List Value, v = .agg cs.toArray ∧ cs.length = P.cellsOf t ∧ Row.okWide P W r b0 t cs.toArray ∧ ∀ (i : Nat) (f : Field), fs[i]? = some f → ∃ n y, DataW.trod enc P W base spare held n f.type ((cs.drop f.offset).take (P.cellsOf f.type)) = some y := by
  simp only [Value.okWide, hs] at hv
  obtain ⟨⟨cs⟩, rfl, hsz, hrow⟩ := hv
  obtain ⟨fuel, hf⟩ := h
  obtain ⟨xs, n, _, _, _, hlen, hx⟩ := DataW.trod_struct hs hf
  refine ⟨cs, rfl, by simpa using hsz, hrow, fun i f hi => ?_⟩
  have hlt : i < xs.length := by rw [hlen]; exact (Array.getElem?_eq_some_iff.1 hi).1
  exact ⟨n, xs[i], by rw [← List.getElem?_eq_getElem hlt, ← hx i f hi]; rfl⟩
/-- A struct's fields once more, of cells alone (a field that is a struct). -/
theorem open_fields {t : TypeId} {fs : Array Field} {cs : List Value} {n : Nat} {y : DataW H × List MemPlace} {base : Nat} {spare : Nat → Bool} {held : Bool} (hs : P.underlying t = some (.struct fs)) (h : DataW.trod enc P W base spare held n t cs = some y) :
    cs.length = P.cellsOf t ∧ ∀ (i : Nat) (f : Field), fs[i]? = some f → ∃ n y, DataW.trod enc P W base spare held n f.type ((cs.drop f.offset).take (P.cellsOf f.type)) = some y := by
  obtain ⟨xs, n, _, _, hl, hlen, hx⟩ := DataW.trod_struct hs h
  refine ⟨hl, fun i f hi => ?_⟩
  have hlt : i < xs.length := by rw [hlen]; exact (Array.getElem?_eq_some_iff.1 hi).1
  exact ⟨n, xs[i], by rw [← List.getElem?_eq_getElem hlt, ← hx i f hi]⟩
end
end Go.Hpw
