/- Words of our own for a walk: what a call owns of the memory (a list of blocks and rows), what it only reads. -/
import Derived.WalkKit
import Derived.BigGuardPart
import Derived.Maps.AppendAt
import Derived.ArgAppend
import Derived.OrdersHeld
namespace Go.Hpw
open Go Go.RowKit

/-- A part of the memory that no step writes: by block. -/
abbrev Imm := Nat → Option Obj
/-- What a call owns: a block of cells, written out; or a row behind a slice value. -/
inductive Ent where
  | blk (b : Nat) (cs : List Value) (T : TypeId)
  | row (v : Value) (T k n : Nat) (xs : List Value)
/-- The block that a slice of the call's own lies in: one without room lies in none. -/
def ownB : Value → Option Nat
  | .slice (some a) _ (_ + 1) => some a.block
  | _ => none
/-- A slice of the call's own: a row of a block of its own; or one without room, wherever it points. -/
def Own (w : World) (T k : Nat) (v : Value) (n : Nat) (xs : List Value) : Prop :=
  xs.length = n * k ∧ ((n = 0 ∧ ∃ A, v = .slice A 0 0) ∨ ∃ g c cur, v = .slice (some ⟨g, 0, none⟩) n (c + 1) ∧ w.heap[g]? = some (.cells cur T (0, 0)) ∧ n ≤ c + 1 ∧ c + 1 ≤ maxLen ∧ cur.size = (c + 1) * k ∧ cur.toList.take (n * k) = xs)
theorem Own.of_owns {w : World} {T k : Nat} {v : Value} {n : Nat} {xs : List Value} (h : w.ownsRow 0 T k v n xs) : Own w T k v n xs := by
  refine ⟨h.1, ?_⟩
  rcases h.2 with ⟨rfl, rfl⟩ | ⟨g, cap, cur, rfl, _, hh, hn, hm, hc, ht⟩
  · exact .inl ⟨rfl, none, rfl⟩
  · cases cap with
    | zero => obtain rfl : n = 0 := by omega
              exact .inl ⟨rfl, _, rfl⟩
    | succ c => exact .inr ⟨g, c, cur, rfl, hh, hn, hm, hc, ht⟩
theorem ownB_block {v : Value} {b : Nat} (h : ownB v = some b) : v.ownBlock = some b := by
  cases v <;> try (cases h; done)
  case slice A n c => cases A <;> cases c <;> first | (cases h; done) | exact h
theorem _root_.Go.World.ownsRow.base {w : World} {B T k : Nat} {v : Value} {n : Nat} {xs : List Value} (h : w.ownsRow B T k v n xs) (B' : Nat) (hB : B' ≤ B) : w.ownsRow B' T k v n xs := by
  refine ⟨h.1, ?_⟩
  rcases h.2 with h2 | ⟨g, cap, cur, e, hg, r⟩
  · exact .inl h2
  · exact .inr ⟨g, cap, cur, e, by omega, r⟩
theorem Own.owns {w : World} {T k : Nat} {A : Option Addr} {n n' c : Nat} {xs : List Value} (h : Own w T k (.slice A n' (c + 1)) n xs) : w.ownsRow 0 T k (.slice A n' (c + 1)) n xs := by
  refine ⟨h.1, ?_⟩
  rcases h.2 with ⟨_, A', he⟩ | ⟨g, c', cur, he, hh, hn, hm, hc, ht⟩
  · cases he
  · cases he
    exact .inr ⟨g, _, cur, rfl, Nat.zero_le _, hh, hn, hm, hc, ht⟩
theorem Own.lt {w : World} {T k : Nat} {v : Value} {n : Nat} {xs : List Value} (h : Own w T k v n xs) {b : Nat} (hb : ownB v = some b) : b < w.heap.size := by
  rcases h.2 with ⟨_, A, rfl⟩ | ⟨g, c, cur, rfl, hh, _⟩
  · cases A <;> cases hb
  · cases hb
    exact (Array.getElem?_eq_some_iff.1 hh).1
theorem Own.same {w w' : World} {T k : Nat} {v : Value} {n : Nat} {xs : List Value} (h : Own w T k v n xs) (hs : ∀ b, ownB v = some b → w'.heap[b]? = w.heap[b]?) : Own w' T k v n xs := by
  refine ⟨h.1, ?_⟩
  rcases h.2 with h2 | ⟨g, c, cur, rfl, hh, r⟩
  · exact .inl h2
  · exact .inr ⟨g, c, cur, rfl, (hs g rfl).trans hh, r⟩
def Ent.foot : Ent → Option Nat
  | .blk b _ _ => some b
  | .row v _ _ _ _ => ownB v
def Ent.ok (w : World) : Ent → Prop
  | .blk b cs T => w.heap[b]? = some (.cells cs.toArray T (0, 0))
  | .row v T k n xs => Own w T k v n xs

structure Hp (w0 : World) (I : Imm) (w : World) (H : List Ent) : Prop where
  below : Below w0.heap.size w0 w
  im : ∀ b o, I b = some o → w.heap[b]? = some o
  ok : ∀ e ∈ H, e.ok w
  fr : ∀ e ∈ H, ∀ b, e.foot = some b → I b = none ∧ w0.heap.size ≤ b
  ap : H.Pairwise fun e f => ∀ b, e.foot = some b → f.foot ≠ some b

theorem Ent.ok_lt {w : World} {e : Ent} (h : e.ok w) {b : Nat} (hb : e.foot = some b) : b < w.heap.size := by
  cases e with
  | blk b' cs T =>
    simp only [Ent.foot, Option.some.injEq] at hb
    subst hb
    exact (Array.getElem?_eq_some_iff.1 h).1
  | row v T k n xs => exact Own.lt h hb

theorem Ent.ok_same {w w' : World} {e : Ent} (h : e.ok w) (hs : ∀ b, e.foot = some b → w'.heap[b]? = w.heap[b]?) : e.ok w' := by
  cases e with
  | blk b cs T => exact (hs b rfl).trans h
  | row v T k n xs => exact Own.same h hs

theorem Hp.start {w : World} {I : Imm} (h : ∀ b o, I b = some o → w.heap[b]? = some o) : Hp w I w [] :=
  ⟨Below.refl _ _, h, (by simp), (by simp), List.Pairwise.nil⟩

theorem Hp.imlt {w0 w : World} {I : Imm} {H : List Ent} (h : Hp w0 I w H) {b : Nat} {o : Obj} (hb : I b = some o) : b < w.heap.size :=
  (Array.getElem?_eq_some_iff.1 (h.im b o hb)).1

/-- A new block. -/
theorem Hp.alloc {w0 w : World} {I : Imm} {H : List Ent} (h : Hp w0 I w H) (cs : List Value) (T : TypeId) :
    Hp w0 I (w.alloc (.cells cs.toArray T)) (.blk w.heap.size cs T :: H) := by
  have hn : ∀ b, b < w.heap.size → (w.alloc (.cells cs.toArray T)).heap[b]? = w.heap[b]? := fun b hb => Below.heap_alloc w _ b hb
  refine ⟨h.below.alloc h.below.size _, fun b o hb => (hn b (h.imlt hb)).trans (h.im b o hb), ?_, ?_, ?_⟩
  · intro e he
    rcases List.mem_cons.1 he with rfl | he
    · exact heap_alloc_new w _
    · exact Ent.ok_same (h.ok e he) fun b hb => hn b (Ent.ok_lt (h.ok e he) hb)
  · intro e he b hb
    rcases List.mem_cons.1 he with rfl | he
    · simp only [Ent.foot, Option.some.injEq] at hb
      subst hb
      refine ⟨?_, h.below.size⟩
      cases hI : I w.heap.size with
      | none => rfl
      | some o => exact absurd (h.imlt hI) (by omega)
    · exact h.fr e he b hb
  · refine List.pairwise_cons.2 ⟨fun f hf b hb hb' => ?_, h.ap⟩
    simp only [Ent.foot, Option.some.injEq] at hb
    subst hb
    exact absurd (Ent.ok_lt (h.ok f hf) hb') (by omega)

/-- The list with one block's cells turned. -/
inductive SetE : List Ent → Nat → List Value → List Value → List Ent → Prop
  | here {b : Nat} {cs cs' : List Value} {T : TypeId} {H : List Ent} : SetE (.blk b cs T :: H) b cs cs' (.blk b cs' T :: H)
  | there {b : Nat} {cs cs' : List Value} {e : Ent} {H H' : List Ent} (h : SetE H b cs cs' H') : SetE (e :: H) b cs cs' (e :: H')

theorem SetE.foots {H H' : List Ent} {b : Nat} {cs cs' : List Value} (h : SetE H b cs cs' H') : H'.map Ent.foot = H.map Ent.foot := by
  induction h with
  | here => rfl
  | there _ ih => simp [ih]
theorem SetE.mem {H H' : List Ent} {b : Nat} {cs cs' : List Value} (h : SetE H b cs cs' H') : ∃ T, Ent.blk b cs T ∈ H ∧ Ent.blk b cs' T ∈ H' := by
  induction h with
  | @here b cs cs' T H => exact ⟨T, by simp, by simp⟩
  | there _ ih => obtain ⟨T, h1, h2⟩ := ih; exact ⟨T, by simp [h1], by simp [h2]⟩
theorem pairwise_foot {H : List Ent} : (H.Pairwise fun e f => ∀ b, e.foot = some b → f.foot ≠ some b) ↔ ((H.map Ent.foot).Pairwise fun x y => ∀ b, x = some b → y ≠ some b) := by
  rw [List.pairwise_map]
theorem SetE.others {H H' : List Ent} {b : Nat} {cs cs' : List Value} (h : SetE H b cs cs' H') (ap : H.Pairwise fun e f => ∀ b, e.foot = some b → f.foot ≠ some b) :
    ∀ e ∈ H', (∃ T, e = .blk b cs' T ∧ Ent.blk b cs T ∈ H) ∨ (e ∈ H ∧ e.foot ≠ some b) := by
  induction h with
  | @here b cs cs' T H =>
    intro e he
    rcases List.mem_cons.1 he with rfl | he
    · exact .inl ⟨T, rfl, by simp⟩
    · exact .inr ⟨by simp [he], (List.pairwise_cons.1 ap).1 e he b rfl⟩
  | @there b cs cs' e0 H H' h ih =>
    intro e he
    obtain ⟨ap1, ap2⟩ := List.pairwise_cons.1 ap
    rcases List.mem_cons.1 he with rfl | he
    · obtain ⟨T, hm, _⟩ := h.mem
      exact .inr ⟨by simp, fun hf => ap1 _ hm b hf rfl⟩
    · rcases ih ap2 e he with ⟨T, h1, h2⟩ | ⟨h1, h2⟩
      · exact .inl ⟨T, h1, by simp [h2]⟩
      · exact .inr ⟨by simp [h1], h2⟩

/-- One block's cells are turned, and nothing else. -/
theorem Hp.turn {w0 w w' : World} {I : Imm} {H H' : List Ent} {b : Nat} {cs cs' : List Value} (h : Hp w0 I w H) (hs : SetE H b cs cs' H')
    (hg : w.grownBy w' (some b)) (hb : ∀ T, w.heap[b]? = some (.cells cs.toArray T (0, 0)) → w'.heap[b]? = some (.cells cs'.toArray T (0, 0))) : Hp w0 I w' H' := by
  obtain ⟨T, hm, hm'⟩ := hs.mem
  have hlt := Ent.ok_lt (h.ok _ hm) (b := b) rfl
  have hfr := h.fr _ hm b rfl
  refine ⟨h.below.grown hg h.below.size (fun k hk => by cases hk; exact hfr.2), fun c o hc => ?_, ?_, ?_, ?_⟩
  · have hne : c ≠ b := fun e => by subst e; rw [hfr.1] at hc; cases hc
    exact (hg.block c (h.imlt hc) (by simp [hne])).trans (h.im c o hc)
  · intro e he
    rcases hs.others h.ap e he with ⟨T', rfl, hT⟩ | ⟨h1, h2⟩
    · exact hb T' (h.ok _ hT)
    · refine Ent.ok_same (h.ok e h1) fun c hc => hg.block c (Ent.ok_lt (h.ok e h1) hc) (fun hh => h2 ?_)
      cases hh; exact hc
  · intro e he c hc
    rcases hs.others h.ap e he with ⟨T', rfl, hT⟩ | ⟨h1, _⟩
    · exact h.fr _ hT c hc
    · exact h.fr e h1 c hc
  · rw [pairwise_foot, hs.foots, ← pairwise_foot]
    exact h.ap

/-- The list of cells with some turned, from a place on. -/
def setAt : List Value → Nat → List Value → List Value
  | [], _, _ => []
  | _ :: cs, 0, v :: vs => v :: setAt cs 0 vs
  | cs, 0, [] => cs
  | c :: cs, n + 1, vs => c :: setAt cs n vs

theorem setAt_eq (cs : List Value) (n : Nat) (vs : List Value) (h : n + vs.length ≤ cs.length) : setAt cs n vs = cs.take n ++ vs ++ cs.drop (n + vs.length) := by
  induction cs generalizing n vs with
  | nil =>
    have h1 : n = 0 := by simp at h; omega
    have h2 : vs = [] := by simp at h; exact h.2
    subst h1 h2
    rfl
  | cons c cs ih =>
    cases n with
    | zero =>
      cases vs with
      | nil => simp [setAt]
      | cons v vs =>
        have := ih 0 vs (by simp at h ⊢; omega)
        simp [setAt, this, Nat.add_comm]
    | succ n =>
      have := ih n vs (by simp at h ⊢; omega)
      simp [setAt, this, Nat.add_right_comm n 1]

/-! ## Where an entry stands, found by the instances -/
class InE (H : List Ent) (b : Nat) (cs : outParam (List Value)) (U : outParam TypeId) : Prop where mem : Ent.blk b cs U ∈ H
instance (priority := high) InE.here {b : Nat} {cs : List Value} {U : TypeId} {H : List Ent} : InE (.blk b cs U :: H) b cs U := ⟨List.mem_cons_self⟩
instance InE.there {b : Nat} {cs : List Value} {U : TypeId} {e : Ent} {H : List Ent} [h : InE H b cs U] : InE (e :: H) b cs U := ⟨List.mem_cons_of_mem _ h.mem⟩
class SetC (H : List Ent) (b : Nat) (cs : outParam (List Value)) (F : outParam (List Value → List Ent)) : Prop where set : ∀ cs', SetE H b cs cs' (F cs')
instance (priority := high) SetC.here {b : Nat} {cs : List Value} {U : TypeId} {H : List Ent} : SetC (.blk b cs U :: H) b cs (fun cs' => .blk b cs' U :: H) := ⟨fun _ => .here⟩
instance SetC.there {b : Nat} {cs : List Value} {e : Ent} {H : List Ent} {F : List Value → List Ent} [h : SetC H b cs F] : SetC (e :: H) b cs (fun cs' => e :: F cs') := ⟨fun cs' => .there (h.set cs')⟩
class InR (H : List Ent) (v : Value) (T k n : outParam Nat) (xs : outParam (List Value)) : Prop where mem : Ent.row v T k n xs ∈ H
instance (priority := high) InR.here {v : Value} {T k n : Nat} {xs : List Value} {H : List Ent} : InR (.row v T k n xs :: H) v T k n xs := ⟨List.mem_cons_self⟩
instance InR.there {v : Value} {T k n : Nat} {xs : List Value} {e : Ent} {H : List Ent} [h : InR H v T k n xs] : InR (e :: H) v T k n xs := ⟨List.mem_cons_of_mem _ h.mem⟩

/-- What a struct's or an array's type tells; what a type of one cell tells. -/
class AggT (P : Program) (T : TypeId) (k : outParam Nat) : Prop where
  agg : ∀ w, (isAgg T).run P w = .ok true w
  size : ∀ w, (sizeOf T).run P w = .ok k w
class OneT (P : Program) (T : TypeId) : Prop where
  agg : ∀ w, (isAgg T).run P w = .ok false w
  size : ∀ w, (sizeOf T).run P w = .ok 1 w
class ZeroT (P : Program) (T : TypeId) (z : outParam (List Value)) : Prop where
  zero : ∃ v : Value, v.cells = z.toArray ∧ ∀ w, (zeroValue T).run P w = .ok v w

section
variable {P : Program} {ops : Array Oper} {Q : Exit → Act → World → Prop} {a : Act} {w : World} {rest : List Oper} {o : Oper} {w0 : World} {I : Imm} {H H' : List Ent}

theorem cell_blk {w : World} {b : Nat} {cs : List Value} {T : TypeId} (h : Ent.ok w (.blk b cs T)) (j : Nat) : w.cell? ⟨b, j, none⟩ = cs[j]? := by
  rw [cell_of_row w b j cs.toArray T (0, 0) h]; simp

theorem run_loadVar_agg {T : TypeId} {k : Nat} [hT : AggT P T k] {b off : Nat} {vs : List Value} (hl : vs.length = k) (hc : ∀ j u, vs[j]? = some u → w.cell? ⟨b, off + j, none⟩ = some u) :
    (loadVar T ⟨b, off, none⟩).run P w = .ok (.agg vs.toArray) w := by
  have hl' := run_loadCells_list (P := P) w ⟨b, off, none⟩ vs (fun j v hv => by rw [show (⟨b, off, none⟩ : Addr).add j = ⟨b, off + j, none⟩ from by unfold Addr.add; split <;> simp_all]; exact hc j v hv)
  simp [loadVar, hT.agg, hT.size, ← hl, hl']
theorem run_loadVar_one {T : TypeId} [hT : OneT P T] {ad : Addr} {v : Value} (hc : w.cell? ad = some v) : (loadVar T ad).run P w = .ok v w := by
  simp [loadVar, hT.agg, hc]

theorem seg_get {cs : List Value} {off k j : Nat} {u : Value} (h : ((cs.drop off).take k)[j]? = some u) : cs[off + j]? = some u := by
  rw [List.getElem?_take] at h
  split at h
  · simpa using h
  · cases h

theorem run_storeVar {T : TypeId} {k b off : Nat} {v : Value} {vs cs : List Value} {U : TypeId} (hsz : ∀ w, (sizeOf T).run P w = .ok k w) (hv : v.cells = vs.toArray) (hl : vs.length = k) (h1 : ∀ u ∈ vs, u.oneCell' = true)
    (hb : w.heap[b]? = some (.cells cs.toArray U (0, 0))) (hfit : off + k ≤ cs.length) :
    (storeVar T ⟨b, off, none⟩ v).run P w = .ok () (w.setRow b (setAt cs off vs).toArray) := by
  have hst := run_storeCells_at P b off U vs 0 cs.toArray w hb (by simp; omega) h1
  have he : (cs.toArray.toList.take (off + 0) ++ vs ++ cs.toArray.toList.drop (off + 0 + vs.length)) = setAt cs off vs := by
    rw [setAt_eq _ _ _ (by omega)]; simp
  rw [he] at hst
  simp [storeVar, hsz, hv, hl, hst]

theorem grownBy_setRow (w : World) (b : Nat) (cs : Array Value) : w.grownBy (w.setRow b cs) (some b) := by
  refine ⟨rfl, rfl, rfl, by simp [World.setRow], fun k hk hne => ?_⟩
  simp only [World.setRow, Array.getElem?_modify]
  rw [if_neg (fun e => hne (by rw [e]))]

end

/-! ## Steps in one form, whatever stands behind -/
/-- One operation runs to its end, and what follows holds. -/
def Go1 (P : Program) (o : Oper) (a : Act) (w : World) (K : Act → World → Prop) : Prop :=
  ∃ n v w', (execOp a.eval o).run P w = .ok n w' ∧ (n = .value v ∨ n = .skip ∧ v = undef) ∧ K (a.put o.dst v) w'

section
variable {P : Program} {ops : Array Oper} {Q : Exit → Act → World → Prop} {a : Act} {w : World} {rest : List Oper} {o : Oper} {w0 : World} {I : Imm} {H H' : List Ent} {K : Act → World → Prop}

theorem opw_of (h : Go1 P o a w K) : o.wp P a w K Q := by
  obtain ⟨n, v, w', hr, hn, hk⟩ := h
  unfold Oper.wp
  rw [hr]
  rcases hn with rfl | ⟨rfl, rfl⟩ <;> exact hk
theorem want_of {E : Prop} (hg : o.guard = none) (h : Go1 P o a w K) : if Region.wanted o (yielded ops a.tmps) = true then o.wp P a w K Q else E := by
  rw [if_pos (by simp [Region.wanted, hg])]
  exact opw_of h
theorem want_op {E : Prop} (hg : o.guard = none) (h : o.wp P a w K Q) : if Region.wanted o (yielded ops a.tmps) = true then o.wp P a w K Q else E := by
  rw [if_pos (by simp [Region.wanted, hg])]
  exact h
theorem bools_one {l : List Bool} : ∀ u ∈ l.map Value.bool, u.oneCell' = true := by
  intro u hu
  obtain ⟨x, _, rfl⟩ := List.mem_map.1 hu
  rfl
theorem ints_one {k : IntKind} {l : List Int} : ∀ u ∈ l.map (Value.int k), u.oneCell' = true := by
  intro u hu
  obtain ⟨x, _, rfl⟩ := List.mem_map.1 hu
  rfl
theorem wpl_of (hg : o.guard = none) (h : Go1 P o a w (wpList P ops Q rest)) : wpList P ops Q (o :: rest) a w := by
  unfold wpList
  rw [if_pos (by simp [Region.wanted, hg])]
  exact .inl (opw_of h)
/-- Does it look at memory? -/
def memK : Op → Bool
  | .box .. | .alloc _ | .load .. | .store .. | .buildSlice .. => true
  | .call { callee := .builtin .append, .. } => true
  | _ => false
theorem wpl_mem (_hk : memK o.op = true) (hg : Region.wanted o (yielded ops a.tmps) = true) (h : Go1 P o a w (wpList P ops Q rest)) : wpList P ops Q (o :: rest) a w := by
  unfold wpList
  rw [if_pos hg]
  exact .inl (opw_of h)
theorem g1_val {v : Value} {w' : World} (hr : (execOp a.eval o).run P w = .ok (.value v) w') (h : K (a.put o.dst v) w') : Go1 P o a w K := ⟨_, v, w', hr, .inl rfl, h⟩
theorem g1_unit {w' : World} (hr : (execOp a.eval o).run P w = .ok .skip w') (h : K (a.put o.dst undef) w') : Go1 P o a w K := ⟨_, undef, w', hr, .inr ⟨rfl, rfl⟩, h⟩

theorem cells_one {v : Value} (h1 : v.oneCell' = true) : v.cells = [v].toArray := by cases v <;> first | rfl | (simp [Value.oneCell'] at h1)

theorem g1_box_agg {T : TypeId} {x : Operand} {cs : List Value} (ho : o.op = .box T x) (hx : a.eval x = .agg cs.toArray) (hp : Hp w0 I w H)
    (h : ∀ b w', Hp w0 I w' (.blk b cs T :: H) → K (a.put o.dst (.pointer (some ⟨b, 0, none⟩))) w') : Go1 P o a w K :=
  g1_val (v := .pointer (some ⟨w.heap.size, 0, none⟩)) (w' := w.alloc (.cells cs.toArray T)) (by simp [execOp, ho, hx, Instr.box, newVar, newRow, Value.cells]) (h _ _ (hp.alloc cs T))
theorem g1_box_one {T : TypeId} {x : Operand} {v : Value} (ho : o.op = .box T x) (hx : a.eval x = v) (h1 : v.oneCell' = true) (hp : Hp w0 I w H)
    (h : ∀ b w', Hp w0 I w' (.blk b [v] T :: H) → K (a.put o.dst (.pointer (some ⟨b, 0, none⟩))) w') : Go1 P o a w K :=
  g1_val (v := .pointer (some ⟨w.heap.size, 0, none⟩)) (w' := w.alloc (.cells [v].toArray T)) (by simp [execOp, ho, hx, Instr.box, newVar, newRow, cells_one h1]) (h _ _ (hp.alloc [v] T))
theorem g1_alloc {T : TypeId} {z : List Value} [hz : ZeroT P T z] (ho : o.op = .alloc T) (hp : Hp w0 I w H)
    (h : ∀ b w', Hp w0 I w' (.blk b z T :: H) → K (a.put o.dst (.pointer (some ⟨b, 0, none⟩))) w') : Go1 P o a w K := by
  obtain ⟨v, hv, hr⟩ := hz.zero
  exact g1_val (v := .pointer (some ⟨w.heap.size, 0, none⟩)) (w' := w.alloc (.cells z.toArray T)) (by simp [execOp, ho, Instr.alloc, newVar, newRow, hr, hv]) (h _ _ (hp.alloc z T))
theorem g1_load_agg {T U : TypeId} {k : Nat} [hT : AggT P T k] {x : Operand} {b off : Nat} {cs : List Value} (ho : o.op = .load T x) (hx : a.eval x = .pointer (some ⟨b, off, none⟩))
    (hp : Hp w0 I w H) [hm' : InE H b cs U] (hk : Nat.ble (off + k) cs.length = true) (h : K (a.put o.dst (.agg ((cs.drop off).take k).toArray)) w) : Go1 P o a w K :=
  g1_val (by simp [execOp, ho, hx, Instr.loadAt, Instr.sureAddr, run_loadVar_agg (P := P) (T := T) (b := b) (off := off) (vs := (cs.drop off).take k) (w := w) (by have := Nat.le_of_ble_eq_true hk; simp; omega) (fun j u hu => by rw [cell_blk (hp.ok _ hm'.mem)]; exact seg_get hu)]) h
theorem g1_load_one {T U : TypeId} [hT : OneT P T] {x : Operand} {b off : Nat} {cs : List Value} {v : Value} (ho : o.op = .load T x) (hx : a.eval x = .pointer (some ⟨b, off, none⟩))
    (hp : Hp w0 I w H) [hm' : InE H b cs U] (hk : cs[off]? = some v) (h : K (a.put o.dst v) w) : Go1 P o a w K :=
  g1_val (by simp [execOp, ho, hx, Instr.loadAt, Instr.sureAddr, run_loadVar_one (P := P) (T := T) (w := w) (ad := ⟨b, off, none⟩) (v := v) (by rw [cell_blk (hp.ok _ hm'.mem)]; exact hk)]) h
theorem g1_store {T : TypeId} {k : Nat} {x y : Operand} {b off : Nat} {v : Value} {vs cs : List Value} (hsz : ∀ w, (sizeOf T).run P w = .ok k w) (ho : o.op = .store T x y) (hx : a.eval x = .pointer (some ⟨b, off, none⟩)) (hy : a.eval y = v) (hv : v.cells = vs.toArray) (hl : vs.length = k) (h1 : ∀ u ∈ vs, u.oneCell' = true)
    (hp : Hp w0 I w H) {F : List Value → List Ent} [hS : SetC H b cs F] (hfit : Nat.ble (off + k) cs.length = true) (h : ∀ w', Hp w0 I w' (F (setAt cs off vs)) → K (a.put o.dst undef) w') : Go1 P o a w K := by
  have hs := hS.set (setAt cs off vs)
  obtain ⟨U, hm, _⟩ := hs.mem
  have hb : w.heap[b]? = some (.cells cs.toArray U (0, 0)) := hp.ok _ hm
  have hst := run_storeVar (P := P) hsz hv hl h1 hb (Nat.le_of_ble_eq_true hfit)
  refine g1_unit (w' := w.setRow b (setAt cs off vs).toArray) (by simp [execOp, ho, hx, hy, Instr.storeAt, Instr.sureAddr, hst]) (h _ (hp.turn hs (grownBy_setRow _ _ _) fun T' hT' => ?_))
  exact setRow_heap w b cs.toArray _ T' _ hT'
theorem g1_store_agg {T : TypeId} {k : Nat} [hT : AggT P T k] {x y : Operand} {b off : Nat} {vs cs : List Value} (ho : o.op = .store T x y) (hx : a.eval x = .pointer (some ⟨b, off, none⟩)) (hy : a.eval y = .agg vs.toArray) (hl : vs.length = k) (h1 : vs.all (·.oneCell') = true)
    (hp : Hp w0 I w H) {F : List Value → List Ent} [hS : SetC H b cs F] (hfit : Nat.ble (off + k) cs.length = true) (h : ∀ w', Hp w0 I w' (F (setAt cs off vs)) → K (a.put o.dst undef) w') : Go1 P o a w K :=
  g1_store hT.size ho hx hy rfl hl (by simpa using h1) hp hfit h
theorem g1_store_one {T : TypeId} [hT : OneT P T] {x y : Operand} {b off : Nat} {v : Value} {cs : List Value} (ho : o.op = .store T x y) (hx : a.eval x = .pointer (some ⟨b, off, none⟩)) (hy : a.eval y = v) (h1 : v.oneCell' = true)
    (hp : Hp w0 I w H) {F : List Value → List Ent} [hS : SetC H b cs F] (hfit : Nat.ble (off + 1) cs.length = true) (h : ∀ w', Hp w0 I w' (F (setAt cs off [v])) → K (a.put o.dst undef) w') : Go1 P o a w K :=
  g1_store hT.size ho hx hy (cells_one h1) rfl (by simpa using h1) hp hfit h
end

/-! ## Memory that is read alone -/
/-- The cells at a place of the read-only part. -/
def CellsAt (I : Imm) (b off : Nat) (vs : List Value) : Prop := ∃ c T fr, I b = some (.cells c T fr) ∧ ∀ j u, vs[j]? = some u → c[off + j]? = some u
theorem CellsAt.cell {w0 w : World} {I : Imm} {H : List Ent} (hp : Hp w0 I w H) {b off : Nat} {vs : List Value} (h : CellsAt I b off vs) (j : Nat) (u : Value) (hu : vs[j]? = some u) : w.cell? ⟨b, off + j, none⟩ = some u := by
  obtain ⟨c, T, fr, hI, hc⟩ := h
  rw [cell_of_row w b (off + j) c T fr (hp.im b _ hI)]
  exact hc j u hu
theorem CellsAt.part {I : Imm} {b off : Nat} {vs : List Value} (h : CellsAt I b off vs) (n k : Nat) : CellsAt I b (off + n) ((vs.drop n).take k) := by
  obtain ⟨c, T, fr, hI, hc⟩ := h
  refine ⟨c, T, fr, hI, fun j u hu => ?_⟩
  rw [Nat.add_assoc]
  exact hc (n + j) u (seg_get hu)
/-- A slice value that reads as 'xs' (the cells of n elements of k cells each). -/
def Rd (I : Imm) (v : Value) (k n : Nat) (xs : List Value) : Prop :=
  xs.length = n * k ∧ ∃ A c, v = .slice A n c ∧ n ≤ c ∧ c ≤ maxLen ∧ (A = none → c = 0) ∧ (0 < n * k → ∃ ad, A = some ad ∧ ad.spot = none ∧ CellsAt I ad.block ad.off xs)
def Im.le (I I' : Imm) : Prop := ∀ b o, I b = some o → I' b = some o
theorem CellsAt.mono {I I' : Imm} (hl : Im.le I I') {b off : Nat} {vs : List Value} (h : CellsAt I b off vs) : CellsAt I' b off vs := by
  obtain ⟨c, T, fr, hI, hc⟩ := h
  exact ⟨c, T, fr, hl _ _ hI, hc⟩
theorem Rd.mono {I I' : Imm} (hl : Im.le I I') {v : Value} {k n : Nat} {xs : List Value} (h : Rd I v k n xs) : Rd I' v k n xs := by
  obtain ⟨h1, A, c, h2, h3, h4, h6, h5⟩ := h
  exact ⟨h1, A, c, h2, h3, h4, h6, fun hn => by obtain ⟨ad, e, hs, hc⟩ := h5 hn; exact ⟨ad, e, hs, hc.mono hl⟩⟩
theorem Rd.nil (I : Imm) (k : Nat) : Rd I (.slice none 0 0) k 0 [] := ⟨by simp, none, 0, rfl, Nat.le_refl _, Nat.zero_le _, fun _ => rfl, by simp⟩
theorem Rd.len {I : Imm} {v : Value} {k n : Nat} {xs : List Value} (h : Rd I v k n xs) : xs.length = n * k := h.1
theorem Rd.form {I : Imm} {v : Value} {k n : Nat} {xs : List Value} (h : Rd I v k n xs) : ∃ A c, v = .slice A n c ∧ n ≤ c ∧ c ≤ maxLen ∧ (A = none → c = 0) := by
  obtain ⟨_, A, c, h2, h3, h4, h6, _⟩ := h
  exact ⟨A, c, h2, h3, h4, h6⟩
theorem Rd.cap {I : Imm} {A : Option Addr} {k n m c : Nat} {xs : List Value} (h : Rd I (.slice A m c) k n xs) : m = n ∧ n ≤ c ∧ c ≤ maxLen ∧ (A = none → c = 0) := by
  obtain ⟨_, A', c', h2, h3, h4, h6, _⟩ := h
  cases h2
  exact ⟨rfl, h3, h4, h6⟩
theorem Rd.take {I : Imm} {A : Option Addr} {k n c : Nat} {xs : List Value} (h : Rd I (.slice A n c) k n xs) (m : Nat) (hm : m ≤ n) : Rd I (.slice A m c) k m (xs.take (m * k)) := by
  obtain ⟨h1, A', c', h2, h3, h4, h6, h5⟩ := h
  cases h2
  have hle : m * k ≤ n * k := Nat.mul_le_mul_right _ hm
  refine ⟨by rw [List.length_take]; omega, A, c, rfl, by omega, h4, h6, fun h0 => ?_⟩
  obtain ⟨ad, e, hs, hc⟩ := h5 (by omega)
  exact ⟨ad, e, hs, by simpa using hc.part 0 (m * k)⟩
/-- A part of a slice that is read: from element 'lo' to element 'hi'. -/
theorem Rd.part {I : Imm} {ad : Addr} {k n c : Nat} {xs : List Value} (h : Rd I (.slice (some ad) n c) k n xs) (lo hi : Nat) (hlo : lo ≤ hi) (hhi : hi ≤ n) :
    Rd I (.slice (some (⟨ad.block, ad.off + lo * k, ad.spot⟩ : Addr)) (hi - lo) (c - lo)) k (hi - lo) ((xs.drop (lo * k)).take ((hi - lo) * k)) := by
  obtain ⟨h1, A', c', h2, h3, h4, h6, h5⟩ := h
  cases h2
  have h7 : lo * k ≤ hi * k := Nat.mul_le_mul_right _ hlo
  have h8 : hi * k ≤ n * k := Nat.mul_le_mul_right _ hhi
  have h9 : (hi - lo) * k = hi * k - lo * k := Nat.sub_mul ..
  refine ⟨by rw [List.length_take, List.length_drop]; omega, _, _, rfl, by omega, by omega, by simp, fun h0 => ?_⟩
  obtain ⟨ad', e, hs, hc⟩ := h5 (by omega)
  cases e
  exact ⟨_, rfl, hs, hc.part (lo * k) ((hi - lo) * k)⟩
theorem Im.le.trans {I J K : Imm} (h : Im.le I J) (k : Im.le J K) : Im.le I K := fun b o hb => k b o (h b o hb)
theorem Im.le.refl (I : Imm) : Im.le I I := fun _ _ h => h

/-- What a call leaves to its caller. -/
structure Post (w : World) (I : Imm) (w' : World) (I' : Imm) (H : List Ent) : Prop where
  hp : Hp w I' w' H
  same : ∀ b, b < w.heap.size → I' b = I b
theorem Post.le {w w' : World} {I I' : Imm} {H : List Ent} (h : Post w I w' I' H) (hI : ∀ b o, I b = some o → w.heap[b]? = some o) : Im.le I I' := fun b o hb => by
  have hlt : b < w.heap.size := (Array.getElem?_eq_some_iff.1 (hI b o hb)).1
  rw [h.same b hlt]; exact hb
/-- Behind a call that keeps all that was there. -/
theorem Hp.call {w0 w w' : World} {I I' : Imm} {H H1 : List Ent} (h : Hp w0 I w H) (hc : Post w I w' I' H1) : Hp w0 I' w' (H1 ++ H) := by
  have hlt : ∀ e ∈ H, ∀ b, e.foot = some b → b < w.heap.size := fun e he b hb => Ent.ok_lt (h.ok e he) hb
  refine ⟨h.below.trans (hc.hp.below.mono h.below.size), hc.hp.im, ?_, ?_, ?_⟩
  · intro e he
    rcases List.mem_append.1 he with he | he
    · exact hc.hp.ok e he
    · exact Ent.ok_same (h.ok e he) fun b hb => hc.hp.below.block b (hlt e he b hb)
  · intro e he b hb
    rcases List.mem_append.1 he with he | he
    · have := hc.hp.fr e he b hb
      exact ⟨this.1, Nat.le_trans h.below.size this.2⟩
    · refine ⟨?_, (h.fr e he b hb).2⟩
      rw [hc.same b (hlt e he b hb)]; exact (h.fr e he b hb).1
  · refine List.pairwise_append.2 ⟨hc.hp.ap, h.ap, fun e he f hf b hb hb' => ?_⟩
    have h1 := (hc.hp.fr e he b hb).2
    have h2 := hlt f hf b hb'
    omega
/-- What is owned is let go. -/
theorem Hp.sub {w0 w : World} {I : Imm} {H H' : List Ent} (h : Hp w0 I w H) (hs : H'.Sublist H) : Hp w0 I w H' :=
  ⟨h.below, h.im, fun e he => h.ok e (hs.subset he), fun e he => h.fr e (hs.subset he), h.ap.sublist hs⟩
theorem Hp.post {w0 w : World} {I I' : Imm} {H : List Ent} (h : Hp w0 I' w H) (hs : ∀ b, b < w0.heap.size → I' b = I b) : Post w0 I w I' H := ⟨h, hs⟩
/-- An owned row becomes memory that is read alone. -/
theorem Hp.freeze {w0 w : World} {I : Imm} {H : List Ent} {v : Value} {T k n : Nat} {xs : List Value} (h : Hp w0 I w (.row v T k n xs :: H)) :
    ∃ I', Hp w0 I' w H ∧ (∀ b, b < w0.heap.size → I' b = I b) ∧ Im.le I I' ∧ Rd I' v k n xs := by
  have hok := h.ok _ (List.mem_cons_self ..)
  have hap := List.pairwise_cons.1 h.ap
  have hs : Hp w0 I w H := h.sub (List.sublist_cons_self ..)
  rcases hok.2 with ⟨rfl, A, rfl⟩ | ⟨g, cap, cur, rfl, hh, hn, hm, hc, ht⟩
  · exact ⟨I, hs, fun _ _ => rfl, fun _ _ hb => hb, by have := hok.1; exact ⟨this, A, 0, rfl, Nat.le_refl _, Nat.zero_le _, fun _ => rfl, by simp⟩⟩
  · have hfr := h.fr _ (List.mem_cons_self ..) g rfl
    refine ⟨fun b => if b = g then some (.cells cur T (0, 0)) else I b, ⟨hs.below, ?_, hs.ok, ?_, hs.ap⟩, ?_, ?_, ?_⟩
    · intro b o hb
      by_cases hbg : b = g
      · subst hbg; simp at hb; subst hb; exact hh
      · simp [hbg] at hb; exact hs.im b o hb
    · intro e he b hb
      have hne : b ≠ g := fun e' => by subst e'; exact hap.1 e he _ rfl hb
      simp [hne]
      exact hs.fr e he b hb
    · intro b hb
      have hne : b ≠ g := by have := hfr.2; omega
      simp [hne]
    · intro b o hb
      have hne : b ≠ g := fun e' => by subst e'; rw [hfr.1] at hb; cases hb
      simp [hne, hb]
    · refine ⟨hok.1, _, _, rfl, hn, hm, by simp, fun _ => ⟨_, rfl, rfl, cur, T, (0, 0), by simp, fun j u hu => ?_⟩⟩
      rw [← ht, List.getElem?_take] at hu
      split at hu
      · simpa using hu
      · cases hu

/-! ## Rows -/
inductive SetR : List Ent → Value → TypeId → Nat → Nat → List Value → Value → Nat → List Value → List Ent → Prop
  | here {v v' : Value} {T k n n' : Nat} {xs xs' : List Value} {H : List Ent} : SetR (.row v T k n xs :: H) v T k n xs v' n' xs' (.row v' T k n' xs' :: H)
  | there {v v' : Value} {T k n n' : Nat} {xs xs' : List Value} {e : Ent} {H H' : List Ent} (h : SetR H v T k n xs v' n' xs' H') : SetR (e :: H) v T k n xs v' n' xs' (e :: H')
class SetRC (H : List Ent) (v : Value) (T k n : outParam Nat) (xs : outParam (List Value)) (F : outParam (Value → Nat → List Value → List Ent)) : Prop where set : ∀ v' n' xs', SetR H v T k n xs v' n' xs' (F v' n' xs')
instance (priority := high) SetRC.here {v : Value} {T k n : Nat} {xs : List Value} {H : List Ent} : SetRC (.row v T k n xs :: H) v T k n xs (fun v' n' xs' => .row v' T k n' xs' :: H) := ⟨fun _ _ _ => .here⟩
instance SetRC.there {v : Value} {T k n : Nat} {xs : List Value} {e : Ent} {H : List Ent} {F : Value → Nat → List Value → List Ent} [h : SetRC H v T k n xs F] : SetRC (e :: H) v T k n xs (fun v' n' xs' => e :: F v' n' xs') := ⟨fun v' n' xs' => .there (h.set v' n' xs')⟩
theorem SetR.mem {H H' : List Ent} {v v' : Value} {T k n n' : Nat} {xs xs' : List Value} (h : SetR H v T k n xs v' n' xs' H') : Ent.row v T k n xs ∈ H := by
  induction h with
  | here => simp
  | there _ ih => simp [ih]
theorem SetR.others {H H' : List Ent} {v v' : Value} {T k n n' : Nat} {xs xs' : List Value} (h : SetR H v T k n xs v' n' xs' H') (ap : H.Pairwise fun e f => ∀ b, e.foot = some b → f.foot ≠ some b) :
    ∀ e ∈ H', e = .row v' T k n' xs' ∨ (e ∈ H ∧ ∀ b, e.foot = some b → ownB v ≠ some b) := by
  induction h with
  | @here v v' T k n n' xs xs' H =>
    intro e he
    rcases List.mem_cons.1 he with rfl | he
    · exact .inl rfl
    · exact .inr ⟨by simp [he], fun b hb hv => (List.pairwise_cons.1 ap).1 e he b hv hb⟩
  | @there v v' T k n n' xs xs' e0 H H' h ih =>
    intro e he
    obtain ⟨ap1, ap2⟩ := List.pairwise_cons.1 ap
    rcases List.mem_cons.1 he with rfl | he
    · exact .inr ⟨by simp, fun b hb hv => ap1 _ h.mem b hb hv⟩
    · rcases ih ap2 e he with h1 | ⟨h1, h2⟩
      · exact .inl h1
      · exact .inr ⟨by simp [h1], h2⟩
theorem SetR.pair {H H' : List Ent} {v v' : Value} {T k n n' : Nat} {xs xs' : List Value} (h : SetR H v T k n xs v' n' xs' H') (ap : H.Pairwise fun e f => ∀ b, e.foot = some b → f.foot ≠ some b)
    (hf : ∀ b, ownB v' = some b → ownB v = some b ∨ ∀ e ∈ H, e.foot ≠ some b) : H'.Pairwise fun e f => ∀ b, e.foot = some b → f.foot ≠ some b := by
  induction h with
  | @here v v' T k n n' xs xs' H =>
    obtain ⟨ap1, ap2⟩ := List.pairwise_cons.1 ap
    refine List.pairwise_cons.2 ⟨fun f hff b hb hb' => ?_, ap2⟩
    rcases hf b hb with h1 | h1
    · exact ap1 f hff b h1 hb'
    · exact h1 f (by simp [hff]) hb'
  | @there v v' T k n n' xs xs' e0 H H' h ih =>
    obtain ⟨ap1, ap2⟩ := List.pairwise_cons.1 ap
    refine List.pairwise_cons.2 ⟨fun f hff b hb hb' => ?_, ih ap2 fun b hb => (hf b hb).imp id fun h1 e he => h1 e (by simp [he])⟩
    rcases h.others ap2 f hff with rfl | ⟨h1, _⟩
    · rcases hf b hb' with h2 | h2
      · exact ap1 _ h.mem b hb h2
      · exact h2 e0 (by simp) hb
    · exact ap1 f h1 b hb hb'
theorem Hp.turnR {w0 w w' : World} {I : Imm} {H H' : List Ent} {v v' : Value} {T k n n' : Nat} {xs xs' : List Value} (h : Hp w0 I w H) (hs : SetR H v T k n xs v' n' xs' H')
    (hg : w.grownBy w' (ownB v)) (hv : Ent.ok w' (.row v' T k n' xs')) (hat : ∀ b, ownB v' = some b → ownB v = some b ∨ w.heap.size ≤ b) : Hp w0 I w' H' := by
  have hok := h.ok _ hs.mem
  have hfr := h.fr _ hs.mem
  have hnew : ∀ b, w.heap.size ≤ b → I b = none := fun b hb => by
    cases hI : I b with
    | none => rfl
    | some o => exact absurd (h.imlt hI) (by omega)
  refine ⟨h.below.grown hg h.below.size (fun c hc => (hfr c hc).2), fun c o hc => ?_, ?_, ?_, hs.pair h.ap fun b hb => ?_⟩
  · have hne : some c ≠ ownB v := fun e => by rw [(hfr c e.symm).1] at hc; cases hc
    exact (hg.block c (h.imlt hc) hne).trans (h.im c o hc)
  · intro e he
    rcases hs.others h.ap e he with rfl | ⟨h1, h2⟩
    · exact hv
    · exact Ent.ok_same (h.ok e h1) fun c hc => hg.block c (Ent.ok_lt (h.ok e h1) hc) (fun hh => h2 c hc hh.symm)
  · intro e he c hc
    rcases hs.others h.ap e he with rfl | ⟨h1, h2⟩
    · rcases hat c hc with hat | hat
      · exact hfr c hat
      · exact ⟨hnew c hat, Nat.le_trans h.below.size hat⟩
    · exact h.fr e h1 c hc
  · rcases hat b hb with hat | hat
    · exact .inl hat
    · exact .inr fun e he hf => absurd (Ent.ok_lt (h.ok e he) hf) (by omega)

/-- A new row, written out. -/
theorem Hp.allocR {w0 w : World} {I : Imm} {H : List Ent} (h : Hp w0 I w H) (cs : List Value) (T k n : Nat) (hl : cs.length = n * k) (hn : n ≤ maxLen) :
    Hp w0 I (w.alloc (.cells cs.toArray T)) (.row (.slice (some ⟨w.heap.size, 0, none⟩) n n) T k n cs :: H) := by
  have hb := h.alloc cs T
  have hf : ∀ b, ownB (.slice (some ⟨w.heap.size, 0, none⟩) n n) = some b → b = w.heap.size := by
    intro b hb
    cases n with
    | zero => cases hb
    | succ n => cases hb; rfl
  refine ⟨hb.below, hb.im, ?_, ?_, ?_⟩
  · intro e he
    rcases List.mem_cons.1 he with rfl | he
    · have := hb.ok _ (List.mem_cons_self ..)
      exact Own.of_owns ⟨hl, .inr ⟨_, n, cs.toArray, rfl, Nat.zero_le _, this, Nat.le_refl _, hn, by simp [hl], by simp [← hl]⟩⟩
    · exact hb.ok e (List.mem_cons_of_mem _ he)
  · intro e he b hbb
    rcases List.mem_cons.1 he with rfl | he
    · obtain rfl := hf b hbb
      exact hb.fr _ (List.mem_cons_self ..) _ rfl
    · exact hb.fr e (List.mem_cons_of_mem _ he) b hbb
  · refine List.pairwise_cons.2 ⟨fun f hf' b hbb => ?_, (List.pairwise_cons.1 hb.ap).2⟩
    obtain rfl := hf b hbb
    exact (List.pairwise_cons.1 hb.ap).1 f hf' _ rfl
theorem Hp.nilR {w0 w : World} {I : Imm} {H : List Ent} (h : Hp w0 I w H) (T k : Nat) : Hp w0 I w (.row (.slice none 0 0) T k 0 [] :: H) := by
  refine ⟨h.below, h.im, ?_, ?_, ?_⟩
  · intro e he
    rcases List.mem_cons.1 he with rfl | he
    · exact Own.of_owns (World.ownsRow_nil _ _ _ _)
    · exact h.ok e he
  · intro e he b hb
    rcases List.mem_cons.1 he with rfl | he
    · simp [Ent.foot, ownB] at hb
    · exact h.fr e he b hb
  · exact List.pairwise_cons.2 ⟨fun f _ b hb => by simp [Ent.foot, ownB] at hb, h.ap⟩

/-- What the element type of a slice type tells. -/
class SlT (P : Program) (T : TypeId) (e : outParam TypeId) (k bytes : outParam Nat) : Prop where
  under : P.underlying T = some (.slice e)
  info : ∃ i z, P.info? e = some i ∧ i.zero = some z ∧ i.size = k ∧ i.bytes = bytes ∧ z.cells.size = k
  pos : 0 < k
  small : k ≤ 16777216

theorem SlT.of {P : Program} {T e : TypeId} {k bytes : Nat} (z : Value) (hu : P.underlying T = some (.slice e)) (hi : (P.info? e).map (fun i => (i.zero, i.size, i.bytes)) = some (some z, k, bytes)) (hz : z.cells.size = k) (hk : 0 < k) (hs : k ≤ 16777216) : SlT P T e k bytes := by
  obtain ⟨i, h1, h2, h3, h4⟩ := info_parts hi
  exact ⟨hu, ⟨i, z, h1, h2, h3, h4, hz⟩, hk, hs⟩

section
variable {P : Program} {ops : Array Oper} {Q : Exit → Act → World → Prop} {a : Act} {w : World} {rest : List Oper} {o : Oper} {w0 : World} {I : Imm} {H H' : List Ent} {K : Act → World → Prop}

/-- 'append(s, x...)', s a row of the call's own. -/
theorem g1_append {T e : TypeId} {k bytes : Nat} [hT : SlT P T e k bytes] {s x : Operand} {n n0 c0 m c : Nat} {xs news : List Value} {A A0 : Option Addr}
    (ho : o.op = .call { callee := .builtin .append, args := #[s, x], argTypes := #[T, T] }) (hs : a.eval s = .slice A0 n0 c0) (hx : a.eval x = .slice A m c)
    (hp : Hp w0 I w H) {Hf : Value → Nat → List Value → List Ent} [hS : SetRC H (.slice A0 n0 c0) e k n xs Hf] (hl : news.length = m * k) (hA : A = none → c = 0) (hc : 0 < m * k → ∃ ad, A = some ad ∧ ∀ j u, news[j]? = some u → w.cell? (ad.add j) = some u) (h1 : ∀ u ∈ news, u.oneCell' = true)
    (h63 : n + m ≤ maxLen) (hby : (n + m) * bytes ≤ 140737488355328)
    (h : ∀ A' c' w', Hp w0 I w' (Hf (.slice A' (n + m) c') (n + m) (xs ++ news)) → K (a.put o.dst (.slice A' (n + m) c')) w') : Go1 P o a w K := by
  obtain ⟨i, z, hi, hz, hsz, hbs, hzs⟩ := hT.info
  have hset := fun v' => hS.set v' (n + m) (xs ++ news)
  have hown := hp.ok _ (hset (.slice A0 n0 c0)).mem
  -- a row of a block of its own, or nil
  have key0 : ∀ v, w.ownsRow 0 e k v n xs → ∃ v' w', (Builtin.append_ #[T, T] o.type #[v, .slice A m c]).run P w = .ok v' w' ∧ w'.ownsRow 0 e k v' (n + m) (xs ++ news) ∧ w.grownBy w' v.ownBlock ∧ (v'.ownBlock = v.ownBlock ∨ v'.ownBlock = some w.heap.size) := by
    intro v hown
    rcases Nat.eq_zero_or_pos (m * k) with h0 | h0
    · have hm0 : m = 0 := by rcases Nat.mul_eq_zero.1 h0 with h | h; exact h; have := hT.pos; omega
      subst hm0
      have hn : news = [] := List.eq_nil_of_length_eq_zero (by simpa using hl)
      subst hn
      cases A with
      | none =>
        have := hA rfl
        subst this
        have hr := run_append_owned_none (P := P) (w := w) 0 T o.type e i k hT.under hi v n xs hown
        exact ⟨v, w, hr, (by rw [Nat.add_zero, List.append_nil]; exact hown), ⟨rfl, rfl, rfl, Nat.le_refl _, fun _ _ _ => rfl⟩, .inl rfl⟩
      | some ad =>
        obtain ⟨v', w', h1', h2', h3', _, h5'⟩ := run_append_own_at (P := P) w 0 T o.type e i z k bytes hT.under hi hz hsz hbs hzs hT.pos v n xs hown ad 0 c [] (by simp) (by simp) (by simp) h63 hby (Nat.zero_le _)
        exact ⟨v', w', h1', h2', h3', h5'⟩
    · obtain ⟨ad, rfl, hc'⟩ := hc h0
      obtain ⟨v', w', h1', h2', h3', _, h5'⟩ := run_append_own_at (P := P) w 0 T o.type e i z k bytes hT.under hi hz hsz hbs hzs hT.pos v n xs hown ad m c news hl hc' h1 h63 hby (Nat.zero_le _)
      exact ⟨v', w', h1', h2', h3', h5'⟩
  have hk := hT.pos
  have key : ∃ v' w', (Builtin.append_ #[T, T] o.type #[.slice A0 n0 c0, .slice A m c]).run P w = .ok v' w' ∧ Own w' e k v' (n + m) (xs ++ news) ∧ w.grownBy w' (ownB (.slice A0 n0 c0)) ∧ (∀ b, ownB v' = some b → ownB (.slice A0 n0 c0) = some b ∨ w.heap.size ≤ b) := by
    cases c0 with
    | succ c0 =>
      obtain ⟨v', w', h1', h2', h3', h5'⟩ := key0 _ hown.owns
      have e1 : (Value.slice A0 n0 (c0 + 1)).ownBlock = ownB (.slice A0 n0 (c0 + 1)) := by cases A0 <;> rfl
      rw [e1] at h3' h5'
      refine ⟨v', w', h1', .of_owns h2', h3', fun b hb => ?_⟩
      have hb' := ownB_block hb
      rw [hb'] at h5'
      rcases h5' with h | h
      · exact .inl h.symm
      · cases h; exact .inr (Nat.le_refl _)
    | zero =>
      have hn : n = 0 ∧ n0 = 0 := by
        rcases hown.2 with ⟨h, A', he⟩ | ⟨g, c', cur, he, _⟩
        · cases he; exact ⟨h, rfl⟩
        · cases he
      obtain ⟨rfl, rfl⟩ := hn
      have hx0 : xs = [] := List.eq_nil_of_length_eq_zero (by have := hown.1; simpa using this)
      subst hx0
      obtain ⟨v', w', h1', h2', h3', h5'⟩ := key0 (.slice none 0 0) (World.ownsRow_nil _ _ _ _)
      have hg : w.grownBy w' (ownB (.slice A0 0 0)) := by
        have : ownB (.slice A0 0 0) = none := by cases A0 <;> rfl
        rw [this]; exact h3'
      cases A0 with
      | none =>
        refine ⟨v', w', h1', .of_owns h2', hg, fun b hb => ?_⟩
        have hb' := ownB_block hb
        rw [hb'] at h5'
        rcases h5' with h | h
        · cases h
        · cases h; exact .inr (Nat.le_refl _)
      | some ad0 =>
        rcases Nat.eq_zero_or_pos m with hm | hm
        · subst hm
          have hn : news = [] := List.eq_nil_of_length_eq_zero (by simpa using hl)
          subst hn
          refine ⟨.slice (some ad0) 0 0, w, ?_, ⟨by simp, .inl ⟨rfl, _, rfl⟩⟩, ⟨rfl, rfl, rfl, Nat.le_refl _, fun _ _ _ => rfl⟩, fun b hb => .inl hb⟩
          cases A <;> simp [Builtin.append_, run_underlying hT.under, sizeOf, typeInfo, hi, Builtin.lenOf, Builtin.firstCells, storeCells, loadCells, loadCellsFrom]
        · obtain ⟨ad, rfl, hc'⟩ := hc (Nat.mul_pos hm hk)
          obtain ⟨v2, w2, g1, g2, g3⟩ := run_append_arg_grows (P := P) w T o.type e i z k bytes hT.under hi hz hsz hbs hzs hk ad0 0 0 [] (by simp) (by simp) ad m c news hl hc' (by omega) h63 hby
          have g2' : w2.ownsRow w.heap.size e k v2 (0 + m) ([] ++ news) := g2
          refine ⟨v2, w2, g1, .of_owns (g2'.base 0 (Nat.zero_le _)), g3, fun b hb => .inr ?_⟩
          exact (g2'.lt b (ownB_block hb)).1
  obtain ⟨v', w', hr, h2, h3, h5⟩ := key
  obtain ⟨A', c', rfl⟩ : ∃ A' c', v' = .slice A' (n + m) c' := by
    rcases h2.2 with ⟨h0, A', rfl⟩ | ⟨g, cap, cur, rfl, _⟩
    · exact ⟨A', 0, by rw [h0]⟩
    · exact ⟨_, _, rfl⟩
  refine g1_val (w' := w') ?_ (h A' c' w' (hp.turnR (hset _) h3 h2 h5))
  unfold execOp
  simp only [ho, resolve, invoke, builtin, Sem.run_bind, Sem.run_pure, Result.andThen_ok, List.map_toArray, List.map_cons, List.map_nil, hs, hx, hr]

/-- The same, the row at the list's head and one element appended that lies in a row of its own behind it (which is let go). -/
theorem add_lit' (ad : Addr) (hs : ad.spot = none) (j : Nat) : ad.add j = ⟨ad.block, ad.off + j, none⟩ := by
  obtain ⟨b, o, s⟩ := ad
  simp only at hs
  subst hs
  unfold Addr.add; split <;> simp_all
theorem Hp.row_cells {w0 w : World} {I : Imm} {H : List Ent} (hp : Hp w0 I w H) {v : Value} {T k n : Nat} {xs : List Value} (hm : Ent.row v T k n xs ∈ H) {A : Option Addr} {m c : Nat} (hv : v = .slice A m c) :
    m = n ∧ (A = none → c = 0) ∧ xs.length = m * k ∧ (0 < m * k → ∃ ad, A = some ad ∧ ∀ j u, xs[j]? = some u → w.cell? (ad.add j) = some u) := by
  have hown : Own w T k v n xs := hp.ok _ hm
  subst hv
  rcases hown.2 with ⟨h0, A', he⟩ | ⟨g, cap, cur, he, hg, hn, _, _, ht⟩
  · cases he
    exact ⟨h0.symm, fun _ => rfl, by rw [hown.1, h0], by intro h; simp at h⟩
  · cases he
    exact ⟨rfl, by simp, hown.1, fun _ => ⟨_, rfl, hown.owns.cells (g := g) rfl⟩⟩
theorem g1_append_own {T e e' : TypeId} {k bytes : Nat} [hT : SlT P T e k bytes] {s x : Operand} {n n0 c0 m m' c : Nat} {xs news : List Value} {A A0 : Option Addr}
    (ho : o.op = .call { callee := .builtin .append, args := #[s, x], argTypes := #[T, T] }) (hs : a.eval s = .slice A0 n0 c0) (hx : a.eval x = .slice A m c)
    (hp : Hp w0 I w H) {Hf : Value → Nat → List Value → List Ent} [hS : SetRC H (.slice A0 n0 c0) e k n xs Hf] [hX : InR H (.slice A m c) e' k m' news] (h1 : ∀ u ∈ news, u.oneCell' = true)
    (h63 : n + m ≤ maxLen) (hby : (n + m) * bytes ≤ 140737488355328)
    (h : ∀ A' c' w', Hp w0 I w' (Hf (.slice A' (n + m) c') (n + m) (xs ++ news)) → K (a.put o.dst (.slice A' (n + m) c')) w') : Go1 P o a w K :=
  have hc := hp.row_cells hX.mem rfl
  g1_append ho hs hx hp hc.2.2.1 hc.2.1 hc.2.2.2 h1 h63 hby h
theorem Rd.src {w0 w : World} {I : Imm} {H : List Ent} (hp : Hp w0 I w H) {v : Value} {k n : Nat} {xs : List Value} (hr : Rd I v k n xs) {A : Option Addr} {m c : Nat} (hv : v = .slice A m c) :
    m = n ∧ xs.length = m * k ∧ (0 < m * k → ∃ ad, A = some ad ∧ ∀ j u, xs[j]? = some u → w.cell? (ad.add j) = some u) := by
  obtain ⟨h1, A', c', h3, _, _, _, h5⟩ := hr
  rw [hv] at h3
  cases h3
  refine ⟨rfl, h1, fun hn => ?_⟩
  obtain ⟨ad, e, hs, hc⟩ := h5 hn
  refine ⟨ad, e, fun j u hu => ?_⟩
  rw [add_lit' ad hs]
  exact hc.cell hp j u hu
theorem g1_append_rd {T e : TypeId} {k bytes : Nat} [hT : SlT P T e k bytes] {s x : Operand} {n n0 c0 m m' c : Nat} {xs news : List Value} {A A0 : Option Addr}
    (ho : o.op = .call { callee := .builtin .append, args := #[s, x], argTypes := #[T, T] }) (hs : a.eval s = .slice A0 n0 c0) (hx : a.eval x = .slice A m c)
    (hp : Hp w0 I w H) {Hf : Value → Nat → List Value → List Ent} [hS : SetRC H (.slice A0 n0 c0) e k n xs Hf] (hX : Rd I (.slice A m c) k m' news) (h1 : ∀ u ∈ news, u.oneCell' = true)
    (h63 : n + m ≤ maxLen) (hby : (n + m) * bytes ≤ 140737488355328)
    (h : ∀ A' c' w', Hp w0 I w' (Hf (.slice A' (n + m) c') (n + m) (xs ++ news)) → K (a.put o.dst (.slice A' (n + m) c')) w') : Go1 P o a w K :=
  have hc := hX.src hp rfl
  g1_append ho hs hx hp hc.2.1 hX.cap.2.2.2 hc.2.2 h1 h63 hby h

theorem g1_buildSlice {T e : TypeId} {k bytes n : Nat} [_hT : SlT P T e k bytes] {ps : Array (Nat × Operand)} {cs : List Value} (ho : o.op = .buildSlice T n ps)
    (hr : ∀ w, (Instr.buildSlice T n (ps.map fun (i, x) => (i, a.eval x))).run P w = .ok (.slice (some ⟨w.heap.size, 0, none⟩) n n) (w.alloc (.cells cs.toArray e)))
    (hl : cs.length = n * k) (hn : Nat.ble n 1000 = true) (hp : Hp w0 I w H)
    (h : ∀ b w', Hp w0 I w' (.row (.slice (some ⟨b, 0, none⟩) n n) e k n cs :: H) → K (a.put o.dst (.slice (some ⟨b, 0, none⟩) n n)) w') : Go1 P o a w K :=
  g1_val (by simp [execOp, ho, hr]) (h _ _ (hp.allocR cs e k n hl (by have := Nat.le_of_ble_eq_true hn; unfold maxLen; omega)))

/-- An element of a row, or a part of it, read. -/
theorem g1_load_im_agg {T : TypeId} {k : Nat} [hT : AggT P T k] {x : Operand} {b off : Nat} {vs : List Value} (ho : o.op = .load T x) (hx : a.eval x = .pointer (some ⟨b, off, none⟩))
    (hp : Hp w0 I w H) (hc : CellsAt I b off vs) (hl : vs.length = k) (h : K (a.put o.dst (.agg vs.toArray)) w) : Go1 P o a w K :=
  g1_val (by simp [execOp, ho, hx, Instr.loadAt, Instr.sureAddr, run_loadVar_agg (P := P) (T := T) (b := b) (off := off) (vs := vs) (w := w) hl (fun j u hu => hc.cell hp j u hu)]) h
theorem g1_load_im_one {T : TypeId} [hT : OneT P T] {x : Operand} {b off : Nat} {v : Value} (ho : o.op = .load T x) (hx : a.eval x = .pointer (some ⟨b, off, none⟩))
    (hp : Hp w0 I w H) (hc : CellsAt I b off [v]) (h : K (a.put o.dst v) w) : Go1 P o a w K :=
  g1_val (by simp [execOp, ho, hx, Instr.loadAt, Instr.sureAddr, run_loadVar_one (P := P) (T := T) (w := w) (ad := ⟨b, off, none⟩) (v := v) (by simpa using hc.cell hp 0 v rfl)]) h
end

/-! ## Results -/
theorem Hp.load_agg {P : Program} {w0 w : World} {I : Imm} {H : List Ent} {T U : TypeId} {k b : Nat} {cs : List Value} [hT : AggT P T k] (hp : Hp w0 I w H) [hm : InE H b cs U] (hl : cs.length = k) :
    (loadVar T ⟨b, 0, none⟩).run P w = .ok (.agg cs.toArray) w :=
  run_loadVar_agg (P := P) hl fun j u hu => by rw [cell_blk (hp.ok _ hm.mem)]; simpa using hu
theorem Hp.load_one {P : Program} {w0 w : World} {I : Imm} {H : List Ent} {T U : TypeId} {b : Nat} {v : Value} [hT : OneT P T] (hp : Hp w0 I w H) [hm : InE H b [v] U] :
    (loadVar T ⟨b, 0, none⟩).run P w = .ok v w :=
  run_loadVar_one (P := P) (by rw [cell_blk (hp.ok _ hm.mem)]; rfl)
/-- What a function's results read as. -/
def ResIs (P : Program) (w : World) (tmps : Array Value) : ResultVar → Value → Prop
  | .tmp t, v => tmps.getD t undef = v
  | .cell p T, v => ∃ ad, tmps.getD p undef = .pointer (some ad) ∧ (loadVar T ad).run P w = .ok v w
def ResAll (P : Program) (w : World) (tmps : Array Value) : List ResultVar → List Value → Prop
  | [], [] => True
  | r :: rs, v :: vs => ResIs P w tmps r v ∧ ResAll P w tmps rs vs
  | _, _ => False
def resOf (tmps : Array Value) (r : ResultVar) : Sem Value := match r with
  | .tmp t => pure (tmps.getD t undef)
  | .cell a t => do loadVar t (← asAddr (tmps.getD a undef))
theorem resOf_run {P : Program} {w : World} {tmps : Array Value} {r : ResultVar} {v : Value} (h : ResIs P w tmps r v) : (resOf tmps r).run P w = .ok v w := by
  cases r with
  | tmp t =>
    have hr' : tmps.getD t undef = v := h
    simp only [resOf, Sem.run_pure, hr']
  | cell p T =>
    obtain ⟨ad, h1, h2⟩ := h
    simp only [resOf, Sem.run_bind, h1, asAddr, Sem.run_pure, Result.andThen_ok, h2]
theorem results_go {P : Program} {w : World} {tmps : Array Value} : ∀ (rs : List ResultVar) (vs : List Value) (_ : ResAll P w tmps rs vs), (rs.mapM (resOf tmps)).run P w = .ok vs w
  | [], [], _ => rfl
  | r :: rs, v :: vs, h => by
    rw [List.mapM_cons]
    simp only [Sem.run_bind, resOf_run h.1, Result.andThen_ok, results_go rs vs h.2, Sem.run_pure]
  | [], _ :: _, h => h.elim
  | _ :: _, [], h => h.elim
theorem results_many {P : Program} {w : World} {tmps : Array Value} {fn : Func} {rs : List ResultVar} {vs : List Value} (hf : fn.results = rs.toArray) (h : ResAll P w tmps rs vs) (hn : (vs.length == 1) = false) :
    (results fn tmps).run P w = .ok (.tuple vs.toArray) w := by
  have hg := results_go rs vs h
  have hn' : vs.length ≠ 1 := by simpa using hn
  change ((fn.results.mapM (resOf tmps)) >>= fun (vs : Array Value) => (pure (if h : vs.size = 1 then vs[0] else .tuple vs) : Sem Value)).run P w = _
  rw [hf, List.mapM_toArray]
  simp only [Sem.run_bind, Sem.run_map, hg, Result.andThen_ok, Sem.run_pure]
  simp [hn']
theorem results_one {P : Program} {w : World} {tmps : Array Value} {fn : Func} {r : ResultVar} {v : Value} (hf : fn.results = #[r]) (h : ResIs P w tmps r v) :
    (results fn tmps).run P w = .ok v w := by
  have hg := results_go [r] [v] ⟨h, trivial⟩
  change ((fn.results.mapM (resOf tmps)) >>= fun (vs : Array Value) => (pure (if h : vs.size = 1 then vs[0] else .tuple vs) : Sem Value)).run P w = _
  rw [hf, show (#[r] : Array ResultVar) = [r].toArray from rfl, List.mapM_toArray]
  simp only [Sem.run_bind, Sem.run_map, hg, Result.andThen_ok, Sem.run_pure]
  simp

/-! ## Slices that are built -/
theorem fold_set (off : Nat) (l : List Value) : ∀ (s : Nat) (z : Array Value), off + s + l.length ≤ z.size →
    ((l.zipIdx s).foldl (fun (cs : Array Value) (p : Value × Nat) => cs.setIfInBounds (off + p.2) p.1) z).toList = z.toList.take (off + s) ++ l ++ z.toList.drop (off + s + l.length) := by
  induction l with
  | nil => intro s z _; simp
  | cons v l ih =>
    intro s z h
    simp only [List.length_cons] at h
    rw [List.zipIdx_cons, List.foldl_cons, ih (s + 1) _ (by simp; omega)]
    simp only [Array.toList_setIfInBounds, List.length_cons]
    have e := list_seg_step z.toList (off + s) v l (by simp; omega)
    simpa [Nat.add_assoc, Nat.add_comm 1] using e
theorem build_range (zero : Array Value) (n : Nat) : ((Array.range n).map (zero[· % zero.size]!)).size = n := by simp
section
variable {P : Program} {a : Act} {w : World} {o : Oper} {w0 : World} {I : Imm} {H H' : List Ent} {K : Act → World → Prop}
theorem SlT.size_run {T e : TypeId} {k bytes : Nat} [hT : SlT P T e k bytes] (w : World) : (sizeOf e).run P w = .ok k w := by
  obtain ⟨i, z, hi, _, hs, _⟩ := hT.info
  simp [sizeOf, typeInfo, hi, hs]
theorem SlT.zero_run {T e : TypeId} {k bytes : Nat} [hT : SlT P T e k bytes] : ∃ z : Value, z.cells.size = k ∧ ∀ w, (zeroValue e).run P w = .ok z w := by
  obtain ⟨i, z, hi, hz, hs, _, hzs⟩ := hT.info
  exact ⟨z, hzs, fun w => by simp [zeroValue, typeInfo, hi, hz]⟩
theorem g1_build0 {T e : TypeId} {k bytes : Nat} [hT : SlT P T e k bytes] (ho : o.op = .buildSlice T 0 #[]) (hp : Hp w0 I w H)
    (h : ∀ b w', Hp w0 I w' (.row (.slice (some ⟨b, 0, none⟩) 0 0) e k 0 [] :: H) → K (a.put o.dst (.slice (some ⟨b, 0, none⟩) 0 0)) w') : Go1 P o a w K := by
  refine g1_val (v := .slice (some ⟨w.heap.size, 0, none⟩) 0 0) (w' := w.alloc (.cells ([] : List Value).toArray e)) ?_ (h _ _ (hp.allocR [] e k 0 (by simp) (Nat.zero_le _)))
  simp [execOp, ho, Instr.buildSlice, run_underlying hT.under, SlT.size_run (P := P) (T := T), Instr.fill, newRow, Array.range_zero']
theorem g1_build1 {T e : TypeId} {k bytes : Nat} [hT : SlT P T e k bytes] {x : Operand} {v : Value} {vs : List Value} (ho : o.op = .buildSlice T 1 #[(0, x)]) (hx : a.eval x = v) (hv : v.cells = vs.toArray) (hl : vs.length = k) (hp : Hp w0 I w H)
    (h : ∀ b w', Hp w0 I w' (.row (.slice (some ⟨b, 0, none⟩) 1 1) e k 1 vs :: H) → K (a.put o.dst (.slice (some ⟨b, 0, none⟩) 1 1)) w') : Go1 P o a w K := by
  obtain ⟨z, hz, hzr⟩ := SlT.zero_run (P := P) (T := T) (e := e) (k := k) (bytes := bytes)
  have hk := hT.pos
  have hsm := hT.small
  refine g1_val (v := .slice (some ⟨w.heap.size, 0, none⟩) 1 1) (w' := w.alloc (.cells vs.toArray e)) ?_ (h _ _ (hp.allocR vs e k 1 (by simp [hl]) (by unfold maxLen; omega)))
  have hf : Instr.fill (fun i => some (i * k, k)) ((Array.range (1 * k)).map (z.cells[· % z.cells.size]!)) [(0, v)] = some vs.toArray := by
    have hfold := fold_set 0 vs 0 ((Array.range (1 * k)).map (z.cells[· % z.cells.size]!)) (by simp [hl])
    simp only [Nat.zero_add] at hfold
    have e1 : (Array.foldl (fun (cs : Array Value) (x : Value × Nat) => cs.setIfInBounds (0 * k + x.2) x.1) ((Array.range (1 * k)).map (z.cells[· % z.cells.size]!)) vs.toArray.zipIdx) = vs.toArray := by
      rw [← Array.foldl_toList]
      apply Array.ext'
      rw [Array.toList_zipIdx]
      simp only [Nat.zero_mul, Nat.zero_add]
      rw [hfold]
      simp [hl]
    have e2 : ¬ (v.cells.size ≠ k ∨ 0 * k + v.cells.size > ((Array.range (1 * k)).map (z.cells[· % z.cells.size]!)).size) := by rw [hv]; simp [hl]
    simp only [Instr.fill, Bool.or_eq_true, decide_eq_true_eq]
    rw [if_neg (by simpa using e2), hv]
    congr 1
  simp only [Nat.one_mul] at hf
  have h24 : ¬ (k > 16777216) := by omega
  have h0 : ¬ (k = 0) := by omega
  simp [execOp, ho, Instr.buildSlice, run_underlying hT.under, SlT.size_run (P := P) (T := T), newRow, hx, h24, h0, hzr, hf]
end

/-! ## A region that draws its order: a load is taken first where what else may come up only reads -/
/-- It leaves the world as it is, where it comes to an end. -/
def StillS {α : Type} (P : Program) (s : Sem α) : Prop := ∀ w v w', s.run P w = .ok v w' → w' = w
theorem StillS.pure {α : Type} {P : Program} (a : α) : StillS P (Pure.pure a : Sem α) := fun w v w' h => by simp at h; exact h.2.symm
theorem StillS.bind {α β : Type} {P : Program} {s : Sem α} {f : α → Sem β} (h : StillS P s) (hf : ∀ a, StillS P (f a)) : StillS P (s >>= f) := fun w v w' hr => by
  rw [Sem.run_bind] at hr
  cases hs : s.run P w with
  | ok a w1 => rw [hs, Result.andThen_ok] at hr; have := h _ _ _ hs; subst this; exact hf a _ _ _ hr
  | halt x w1 => rw [hs, Result.andThen_halt] at hr; cases hr
theorem StillS.map {α β : Type} {P : Program} {s : Sem α} {f : α → β} (h : StillS P s) : StillS P (f <$> s) := fun w v w' hr => by
  rw [Sem.run_map] at hr
  cases hs : s.run P w with
  | ok a w1 => rw [hs, Result.andThen_ok] at hr; have := h _ _ _ hs; subst this; cases hr; rfl
  | halt x w1 => rw [hs, Result.andThen_halt] at hr; cases hr
theorem StillS.halt {α : Type} {P : Program} (x : Halt) : StillS P (.halt x : Sem α) := fun w v w' h => by simp at h
theorem StillS.stuck {α : Type} {P : Program} (x : String) : StillS P (Go.stuck x : Sem α) := fun w v w' h => by simp at h
theorem StillS.program {P : Program} : StillS P Go.program := fun w v w' h => by simp at h; exact h.2.symm
theorem StillS.load {P : Program} (ad : Addr) (m : Mode) : StillS P (Go.load ad m) := fun w v w' h => by
  rw [run_load] at h
  split at h
  · cases h; rfl
  · split at h
    · cases h; rfl
    · cases h
theorem StillS.loadCellsFrom {P : Program} (ad : Addr) : ∀ (n i : Nat) (acc : Array Value), StillS P (Go.loadCellsFrom ad i n acc)
  | 0, _, _ => StillS.pure _
  | n + 1, i, acc => StillS.bind (StillS.load _ _) fun v => StillS.loadCellsFrom ad n (i + 1) (acc.push v)
theorem StillS.underlying {P : Program} (t : TypeId) : StillS P (Go.underlying t) := by
  unfold Go.underlying
  exact StillS.bind StillS.program fun p => by split <;> first | exact StillS.pure _ | exact StillS.stuck _
theorem StillS.typeInfo {P : Program} (t : TypeId) : StillS P (Go.typeInfo t) := by
  unfold Go.typeInfo
  exact StillS.bind StillS.program fun p => by split <;> first | exact StillS.pure _ | exact StillS.stuck _
theorem StillS.sizeOf {P : Program} (t : TypeId) : StillS P (Go.sizeOf t) := StillS.bind (StillS.typeInfo t) fun _ => StillS.pure _
theorem StillS.isAgg {P : Program} (t : TypeId) : StillS P (Go.isAgg t) := by
  unfold Go.isAgg
  exact StillS.bind (StillS.underlying t) fun d => by split <;> exact StillS.pure _
theorem StillS.loadVar {P : Program} (t : TypeId) (ad : Addr) : StillS P (Go.loadVar t ad) := by
  unfold Go.loadVar
  refine StillS.bind (StillS.isAgg t) fun b => ?_
  split
  · exact StillS.bind (StillS.sizeOf t) fun n => StillS.bind (StillS.loadCellsFrom ad n 0 #[]) fun _ => StillS.pure _
  · exact StillS.load _ _
def quietK : Op → Bool
  | .move _ | .assign _ | .load .. => true
  | _ => false
theorem quiet_run {P : Program} {o : Oper} {ρ : Operand → Value} {w w' : World} {n : Next} (hq : quietK o.op = true) (h : (execOp ρ o).run P w = .ok n w') : w' = w ∧ ∃ u, n = .value u := by
  obtain ⟨dst, op, ty, pos, after, guard⟩ := o
  cases op <;> simp only [quietK] at hq <;> try (cases hq; done)
  case move x => simp [execOp] at h; exact ⟨h.2.symm, _, h.1.symm⟩
  case assign x => simp [execOp] at h; exact ⟨h.2.symm, _, h.1.symm⟩
  case load t x =>
    have hs : StillS P (Instr.loadAt t (ρ x)) := by
      unfold Instr.loadAt
      refine StillS.bind ?_ fun ad => StillS.loadVar t ad
      unfold Instr.sureAddr
      split <;> first | exact StillS.pure _ | exact StillS.stuck _
    simp only [execOp, Sem.run_bind] at h
    cases hr : (Instr.loadAt t (ρ x)).run P w with
    | ok v w1 => rw [hr] at h; simp at h; obtain ⟨rfl, rfl⟩ := h; exact ⟨hs _ _ _ hr, _, rfl⟩
    | halt e w1 => rw [hr] at h; simp at h

section
variable {P : Program} {ops : Array Oper} {Q : Exit → Act → World → Prop} {md : Region.Mode}
/-- In this state, in this world, operation 'o' leaves 'v' in its temporary and does nothing else. -/
def YieldsAt (P : Program) (ops : Array Oper) (o : Oper) (v : Value) (a : Act) (w : World) : Prop :=
  Region.wanted o (yielded ops a.tmps) = true ∧ (execOp a.eval o).run P w = .ok (.value v) w
theorem YieldsAt.wpOp {i : Nat} {o : Oper} {v : Value} {a : Act} {w : World} (hi : ops[i]? = some o) (hy : YieldsAt P ops o v a w) {K : Act → World → Prop} (h : K (a.put o.dst v) w) : wpOp P ops Q i K a w := by
  unfold Go.wpOp
  simp only [hi, hy.1, if_true, Oper.wp, hy.2, Oper.upon]
  exact .inl h
theorem wpOp_putQ {j : Nat} {oi oj : Oper} {v : Value} (hj : ops[j]? = some oj) (hap : oi.apart ops oj = true) (hq : quietK oj.op = true)
    (hsi : ∀ cs b, oi.op ≠ .select cs b) (hsj : ∀ cs b, oj.op ≠ .select cs b)
    (hQ : ∀ c a w, Q (.panic c) (a.put oi.dst v) w → Q (.panic c) a w) {K : Act → World → Prop} {a : Act} {w : World}
    (hy : YieldsAt P ops oi v a w) (h : wpOp P ops Q j K (a.put oi.dst v) w) :
    wpOp P ops Q j (fun a' w' => YieldsAt P ops oi v a' w' ∧ K (a'.put oi.dst v) w') a w := by
  obtain ⟨h1, h2, h3⟩ := Oper.apart_spec hap
  have keep : ∀ u, YieldsAt P ops oi v (a.put oj.dst u) w := fun u =>
    ⟨(wanted_put oi a oj.dst u h3).trans hy.1, by rw [execOp_put oi hsi a oj.dst u h3]; exact hy.2⟩
  unfold wpOp at *
  simp only [hj] at *
  rw [wanted_put oj a oi.dst v h1] at h
  split
  · rename_i hw
    simp only [hw, if_true] at h
    rcases h with h | ⟨hasks, hlets⟩
    case inr => exact .inr ⟨by unfold Oper.asks at *; rw [execOp_put oj hsj a oi.dst v h1] at hasks; exact hasks, hlets⟩
    refine .inl ?_
    unfold Oper.wp at *
    rw [execOp_put oj hsj a oi.dst v h1] at h
    cases hr : (execOp a.eval oj).run P w with
    | ok n w' =>
      rw [hr] at h
      obtain ⟨rfl, u, rfl⟩ := quiet_run hq hr
      simp only [Oper.upon] at h ⊢
      exact ⟨keep u, by rw [← Act.put_comm a v u h2]; exact h⟩
    | halt x w' =>
      rw [hr] at h
      cases x <;> simp only [Oper.upon] at h ⊢
      case panic u => exact hQ _ _ _ h
  · rename_i hw
    simp only [hw] at h
    exact ⟨keep _, by rw [← Act.put_comm a v undef h2]; exact h⟩
theorem wpAny_firstQ {i : Nat} {oi : Oper} {v : Value} {D : List Nat} (hi : ops[i]? = some oi) (hsel : ∀ (j : Nat) (o : Oper) cs b, ops[j]? = some o → o.op ≠ .select cs b)
    (hQ : ∀ c a w, Q (.panic c) (a.put oi.dst v) w → Q (.panic c) a w) (hD : ∀ j oj, j ∈ D → ops[j]? = some oj → ∃ e ∈ oj.after, Region.binds md e = true ∧ (e.on = i ∨ e.on ∈ D)) :
    ∀ (fuel : Nat) (listed : Array Bool) (a : Act) (w : World), (∀ j ∈ D, listed.getD j true = false) →
      (∀ j oj, ops[j]? = some oj → j ≠ i → listed.getD j true = false → j ∉ D → oi.apart ops oj = true ∧ quietK oj.op = true) →
      i ∈ Region.ready md ops listed → YieldsAt P ops oi v a w →
      wpAny P md ops Q fuel (listed.setIfInBounds i true) (a.put oi.dst v) w → wpAny P md ops Q (fuel + 1) listed a w := by
  intro fuel
  induction fuel with
  | zero =>
    intro listed a w _ _ hr hy H
    refine ⟨fun h => (by rw [h] at hr; cases hr), fun j hj => ?_⟩
    by_cases hji : j = i
    · subst hji; exact hy.wpOp hi H
    · have := ready_mono hj hji
      rw [H.1] at this
      cases this
  | succ fuel ih =>
    intro listed a w hDu hfree hr hy H
    refine ⟨fun h => (by rw [h] at hr; cases hr), fun j hj => ?_⟩
    by_cases hji : j = i
    · subst hji; exact hy.wpOp hi H
    · have h1 := H.2 j (ready_mono hj hji)
      obtain ⟨hjun, oj, hoj, hall⟩ := mem_ready.1 hj
      have hnot : j ∉ D := fun hjD => by
        obtain ⟨e, he, hb, hon⟩ := hD j oj hjD hoj
        have h2 := hall e he hb
        have h3 : listed.getD e.on true = false := by
          rcases hon with heq | hon
          · rw [heq]; exact (mem_ready.1 hr).1
          · exact hDu _ hon
        cases hg : listed[e.on]? with
        | none => simp [Array.getD_eq_getD_getElem?, hg] at h2 h3
        | some b => simp [Array.getD_eq_getD_getElem?, hg] at h2 h3; rw [h2] at h3; cases h3
      obtain ⟨hap, hqu⟩ := hfree j oj hoj hji hjun hnot
      refine wpOp_mono (fun a' w' h' => ?_) (wpOp_putQ hoj hap hqu (fun cs b => hsel i oi cs b hi) (fun cs b => hsel j oj cs b hoj) hQ hy h1)
      refine ih (listed.setIfInBounds j true) a' w' (fun k hk => ?_) (fun k ok hok hki hkun hkn => ?_) (ready_mono hr (Ne.symm hji)) h'.1 ?_
      · have hkj : j ≠ k := fun e => hnot (by rw [e]; exact hk)
        rw [getD_set_ne true hkj]; exact hDu k hk
      · refine hfree k ok hok hki ?_ hkn
        by_cases hkj : k = j
        · subst hkj; exact hjun
        · rw [getD_set_ne true (Ne.symm hkj)] at hkun; exact hkun
      · rw [Array.setIfInBounds_comm _ _ hji]; exact h'.2
/-- May operation i be taken first, if it yields in this world: all others that have not come up wait for it (those in D: by whatever road), or only read. -/
def freeQ (md : Region.Mode) (ops : Array Oper) (listed : Array Bool) (i : Nat) (D : List Nat) : Bool :=
  (match ops[i]? with
  | none => false
  | some oi => (List.range ops.size).all fun j => j == i || listed.getD j true || D.contains j || match ops[j]? with
      | some oj => oi.apart ops oj && quietK oj.op
      | none => true) &&
  D.all fun j => !listed.getD j true && match ops[j]? with
    | some oj => oj.after.any fun e => Region.binds md e && (e.on == i || D.contains e.on)
    | none => true
theorem freeQ_spec {i : Nat} {oi : Oper} {listed : Array Bool} {D : List Nat} (hi : ops[i]? = some oi) (h : freeQ md ops listed i D = true) :
    (∀ j oj, j ∈ D → ops[j]? = some oj → ∃ e ∈ oj.after, Region.binds md e = true ∧ (e.on = i ∨ e.on ∈ D)) ∧ (∀ j ∈ D, listed.getD j true = false) ∧
    ∀ j oj, ops[j]? = some oj → j ≠ i → listed.getD j true = false → j ∉ D → oi.apart ops oj = true ∧ quietK oj.op = true := by
  simp only [freeQ, hi, Bool.and_eq_true] at h
  obtain ⟨ha, hb⟩ := h
  rw [List.all_eq_true] at ha hb
  refine ⟨fun j oj hj hoj => ?_, fun j hj => ?_, fun j oj hj hne hun hno => ?_⟩
  · have h1 := hb j hj
    simp only [hoj, Bool.and_eq_true] at h1
    obtain ⟨e, he, hbd⟩ := Array.any_eq_true'.1 h1.2
    simp only [Bool.and_eq_true, Bool.or_eq_true, beq_iff_eq, List.contains_iff_mem] at hbd
    exact ⟨e, he, hbd.1, hbd.2⟩
  · have h1 := hb j hj
    simp only [Bool.and_eq_true] at h1
    simpa using h1.1
  · have h1 := ha j (List.mem_range.2 (Array.getElem?_eq_some_iff.1 hj).1)
    have hc : D.contains j = false := by simpa using hno
    simp only [hj, Bool.or_eq_true, beq_iff_eq, hne, false_or, hun, hc, Bool.false_eq_true, Bool.and_eq_true] at h1
    exact h1
theorem wpAny_takeQ {i : Nat} {oi : Oper} {D : List Nat} {fuel : Nat} {listed : Array Bool} {a : Act} {w : World} (hi : ops[i]? = some oi)
    (hs : Region.noSelect ops = true) (hf : freeQ md ops listed i D = true) (hr : (Region.ready md ops listed).contains i = true)
    (hQ : ∀ c a w v, Q (.panic c) (a.put oi.dst v) w → Q (.panic c) a w) (hg : oi.guard = none)
    (hl : quietK oi.op = true) (h : Go1 P oi a w (wpAny P md ops Q fuel (listed.setIfInBounds i true))) : wpAny P md ops Q (fuel + 1) listed a w := by
  obtain ⟨n, v, w', hr', hn, hk⟩ := h
  obtain ⟨rfl, u, rfl⟩ := quiet_run hl hr'
  have : u = v := by rcases hn with h | ⟨h, _⟩ <;> cases h; rfl
  subst this
  obtain ⟨f1, f2, f3⟩ := freeQ_spec hi hf
  exact wpAny_firstQ hi (Region.noSelect_spec hs) (fun c a w => hQ c a w u) f1 fuel listed a w' f2 f3 (by simpa using hr) ⟨by simp [Region.wanted, hg], hr'⟩ hk
end
theorem wpAny_norm {P : Program} {ops : Array Oper} {Q : Exit → Act → World → Prop} {md : Region.Mode} {fuel : Nat} {listed : Array Bool} {a a' : Act} {w : World} (ha : a = a') (h : wpAny P md ops Q fuel listed a' w) : wpAny P md ops Q fuel listed a w := ha ▸ h
theorem Hp.drew {w0 w : World} {I : Imm} {H : List Ent} (h : Hp w0 I w H) : Hp w0 I w.drew H :=
  ⟨h.below.drew, h.im, fun e he => Ent.ok_same (h.ok e he) fun _ _ => rfl, h.fr, h.ap⟩

/-- A row that is cut at its end. -/
theorem Hp.cut {w0 w : World} {I : Imm} {H : List Ent} {A : Option Addr} {n n' c T k : Nat} {xs : List Value} {F : Value → Nat → List Value → List Ent} (h : Hp w0 I w H) [hS : SetRC H (.slice A n' c) T k n xs F] (m : Nat) (hm : m ≤ n) :
    Hp w0 I w (F (.slice A m c) m (xs.take (m * k))) := by
  have hset := hS.set (.slice A m c) m (xs.take (m * k))
  have hown : Own w T k (.slice A n' c) n xs := h.ok _ hset.mem
  refine h.turnR hset ⟨rfl, rfl, rfl, Nat.le_refl _, fun _ _ _ => rfl⟩ ?_ (fun b hb => .inl (by cases A <;> cases c <;> first | (cases hb; done) | exact hb))
  have hl := hown.1
  have hle : m * k ≤ n * k := Nat.mul_le_mul_right _ hm
  refine ⟨by rw [List.length_take]; omega, ?_⟩
  rcases hown.2 with ⟨h0, A', he⟩ | ⟨g', c', cur, he, hh, hn, hmx, hc, ht⟩
  · cases he
    obtain rfl : m = 0 := by omega
    exact .inl ⟨rfl, _, rfl⟩
  · cases he
    refine .inr ⟨g', c', cur, rfl, hh, by omega, hmx, hc, ?_⟩
    rw [← ht, List.take_take, Nat.min_eq_left hle]
theorem Hp.row_at {w0 w : World} {I : Imm} {H : List Ent} {A : Option Addr} {n n' c T k : Nat} {xs : List Value} (h : Hp w0 I w H) [hm : InR H (.slice A n' c) T k n xs] (hn : 0 < n) : ∃ g, A = some ⟨g, 0, none⟩ := by
  rcases (show Own w T k _ n xs from h.ok _ hm.mem).2 with ⟨h0, _⟩ | ⟨g, cap, cur, he, _⟩
  · omega
  · cases he; exact ⟨g, rfl⟩
theorem Hp.row_form {w0 w : World} {I : Imm} {H : List Ent} {A : Option Addr} {n n' c T k : Nat} {xs : List Value} (h : Hp w0 I w H) [hm : InR H (.slice A n' c) T k n xs] : n' = n ∧ n ≤ c ∧ c ≤ maxLen ∧ (A = none → c = 0) ∧ xs.length = n * k ∧ (0 < c → ∃ g, A = some ⟨g, 0, none⟩) := by
  have hown : Own w T k _ n xs := h.ok _ hm.mem
  rcases hown.2 with ⟨h0, A', he⟩ | ⟨g, c', cur, he, hh, hn, hmx, hc, ht⟩
  · cases he; exact ⟨h0.symm, by omega, Nat.zero_le _, fun _ => rfl, hown.1, by omega⟩
  · cases he; exact ⟨rfl, hn, hmx, by simp, hown.1, fun _ => ⟨g, rfl⟩⟩
/-- An entry's row by its block. -/
class InG (H : List Ent) (g : Nat) (n c T k : outParam Nat) (xs : outParam (List Value)) : Prop where mem : Ent.row (.slice (some ⟨g, 0, none⟩) n c) T k n xs ∈ H
instance (priority := high) InG.here {g n c T k : Nat} {xs : List Value} {H : List Ent} : InG (.row (.slice (some ⟨g, 0, none⟩) n c) T k n xs :: H) g n c T k xs := ⟨List.mem_cons_self⟩
instance InG.there {g n c T k : Nat} {xs : List Value} {e : Ent} {H : List Ent} [h : InG H g n c T k xs] : InG (e :: H) g n c T k xs := ⟨List.mem_cons_of_mem _ h.mem⟩
theorem Hp.row_cell {w0 w : World} {I : Imm} {H : List Ent} {g n c T k : Nat} {xs : List Value} (h : Hp w0 I w H) (hm : Ent.row (.slice (some ⟨g, 0, none⟩) n c) T k n xs ∈ H) {j : Nat} {u : Value} (hu : xs[j]? = some u) : w.cell? ⟨g, j, none⟩ = some u := by
  have hown : Own w T k _ n xs := h.ok _ hm
  have hc : ∃ c', c = c' + 1 := by
    rcases hown.2 with ⟨h0, A', he⟩ | ⟨g, c', cur, he, _⟩
    · have := hown.1; rw [h0] at this; have : xs = [] := List.eq_nil_of_length_eq_zero (by simpa using this); subst this; simp at hu
    · cases he; exact ⟨_, rfl⟩
  obtain ⟨c', rfl⟩ := hc
  have := hown.owns.cells (g := g) rfl j u hu
  have hadd : (⟨g, 0, none⟩ : Addr).add j = ⟨g, j, none⟩ := by unfold Addr.add; split <;> simp_all
  rwa [hadd] at this
theorem g1_load_row_one {P : Program} {a : Act} {w : World} {o : Oper} {w0 : World} {I : Imm} {H : List Ent} {K : Act → World → Prop} {T U : TypeId} [hT : OneT P T] {x : Operand} {g off n c k : Nat} {xs : List Value} {v : Value} (ho : o.op = .load T x) (hx : a.eval x = .pointer (some ⟨g, off, none⟩))
    (hp : Hp w0 I w H) [hm : InG H g n c U k xs] (hk : xs[off]? = some v) (h : K (a.put o.dst v) w) : Go1 P o a w K :=
  g1_val (by simp [execOp, ho, hx, Instr.loadAt, Instr.sureAddr, run_loadVar_one (P := P) (T := T) (w := w) (ad := ⟨g, off, none⟩) (v := v) (hp.row_cell hm.mem hk)]) h
theorem bodyPost_idN {P : Program} {fn : Func} {R : Ending → World → Prop} {a : Act} {w : World} (h : bodyPost P fn R .normal a w) : bodyPost P fn R .normal a w := h
theorem bodyPost_id {P : Program} (fn : Func) {R : Ending → World → Prop} {a : Act} {w : World} (h : bodyPost P fn R .ret a w) : bodyPost P fn R .ret a w := h
theorem Hp.done {w0 w : World} {I : Imm} {H : List Ent} (h : Hp w0 I w H) : Post w0 I w I [] := ⟨h.sub (List.nil_sublist _), fun _ _ => rfl⟩
theorem Hp.done_row {w0 w : World} {I : Imm} {H : List Ent} {v : Value} {T k n : Nat} {xs : List Value} (h : Hp w0 I w H) [hm : InR H v T k n xs] :
    ∃ I', Post w0 I w I' [] ∧ Im.le I I' ∧ Rd I' v k n xs := by
  obtain ⟨I', h1, h2, h3, h4⟩ := (h.sub (List.singleton_sublist.2 hm.mem)).freeze
  exact ⟨I', ⟨h1, h2⟩, h3, h4⟩
/-- What a call that keeps memory hands back may be forgotten. -/
theorem Hp.weak {w0 w : World} {I I' : Imm} {H : List Ent} (h : Hp w0 I' w H) (hl : Im.le I I') : Post w0 I w I [] :=
  ⟨⟨h.below, fun b o hb => h.im b o (hl b o hb), (by simp), (by simp), List.Pairwise.nil⟩, fun _ _ => rfl⟩
/-- What of the memory that calls have made is handed on: the old part as it was. -/
theorem Hp.done_im {w0 w : World} {I I' : Imm} {H : List Ent} (h : Hp w0 I' w H) (hs : ∀ b, b < w0.heap.size → I' b = I b) : Post w0 I w I' [] := ⟨h.sub (List.nil_sublist _), hs⟩
theorem Hp.own_row {w0 w : World} {I : Imm} {H : List Ent} {v : Value} {T k n : Nat} {xs : List Value} (h : Hp w0 I w H) [hm : InR H v T k n xs] : Post w0 I w I [.row v T k n xs] :=
  ⟨h.sub (List.singleton_sublist.2 hm.mem), fun _ _ => rfl⟩

/-! ## Rows: read, written, lent, let go -/
section
variable {P : Program} {a : Act} {w : World} {o : Oper} {w0 : World} {I : Imm} {H : List Ent} {K : Act → World → Prop}
theorem g1_load_row_agg {T U : TypeId} {j : Nat} [hT : AggT P T j] {x : Operand} {g off n c k : Nat} {xs : List Value} (ho : o.op = .load T x) (hx : a.eval x = .pointer (some ⟨g, off, none⟩))
    (hp : Hp w0 I w H) [hm : InG H g n c U k xs] {vs : List Value} (hk : ∀ i u, vs[i]? = some u → xs[off + i]? = some u) (hl : vs.length = j) (h : K (a.put o.dst (.agg vs.toArray)) w) : Go1 P o a w K :=
  g1_val (by simp [execOp, ho, hx, Instr.loadAt, Instr.sureAddr, run_loadVar_agg (P := P) (T := T) (b := g) (off := off) (vs := vs) (w := w) hl (fun i u hu => hp.row_cell hm.mem (hk i u hu))]) h
/-- The list with one row's cells turned, by the row's block. -/
class SetG (H : List Ent) (g : Nat) (n c T k : outParam Nat) (xs : outParam (List Value)) (F : outParam (List Value → List Ent)) : Prop where set : ∀ xs', SetR H (.slice (some ⟨g, 0, none⟩) n c) T k n xs (.slice (some ⟨g, 0, none⟩) n c) n xs' (F xs')
instance (priority := high) SetG.here {g n c T k : Nat} {xs : List Value} {H : List Ent} : SetG (.row (.slice (some ⟨g, 0, none⟩) n c) T k n xs :: H) g n c T k xs (fun xs' => .row (.slice (some ⟨g, 0, none⟩) n c) T k n xs' :: H) := ⟨fun _ => .here⟩
instance SetG.there {g n c T k : Nat} {xs : List Value} {e : Ent} {H : List Ent} {F : List Value → List Ent} [h : SetG H g n c T k xs F] : SetG (e :: H) g n c T k xs (fun xs' => e :: F xs') := ⟨fun xs' => .there (h.set xs')⟩
theorem g1_store_row {T : TypeId} {j : Nat} {x y : Operand} {g off n c k U : Nat} {v : Value} {vs xs : List Value} (hsz : ∀ w, (sizeOf T).run P w = .ok j w) (ho : o.op = .store T x y) (hx : a.eval x = .pointer (some ⟨g, off, none⟩)) (hy : a.eval y = v) (hv : v.cells = vs.toArray) (hl : vs.length = j) (h1 : ∀ u ∈ vs, u.oneCell' = true)
    (hp : Hp w0 I w H) {F : List Value → List Ent} [hS : SetG H g n c U k xs F] (hfit : off + j ≤ n * k) (hj : 0 < j) (h : ∀ w', Hp w0 I w' (F (setAt xs off vs)) → K (a.put o.dst undef) w') : Go1 P o a w K := by
  have hs := hS.set (setAt xs off vs)
  have hown : Own w U k (.slice (some ⟨g, 0, none⟩) n c) n xs := hp.ok _ hs.mem
  rcases hown.2 with ⟨h0, _⟩ | ⟨g', c', cur, he, hh, hn, hm, hc, ht⟩
  · subst h0; simp at hfit; omega
  · cases he
    have hlen : n * k ≤ (c' + 1) * k := Nat.mul_le_mul_right _ hn
    have hcl : cur.toList.length = (c' + 1) * k := by simpa using hc
    have hst := run_storeVar (P := P) (T := T) (w := w) (b := g) (off := off) (cs := cur.toList) (U := U) hsz hv hl h1 (by simpa using hh) (by omega)
    refine g1_unit (w' := w.setRow g (setAt cur.toList off vs).toArray) (by simp [execOp, ho, hx, hy, Instr.storeAt, Instr.sureAddr, hst]) (h _ (hp.turnR hs (grownBy_setRow _ _ _) ?_ (fun b hb => .inl hb)))
    have hx1 : xs.length = n * k := hown.1
    have e1 : setAt xs off vs = xs.take off ++ vs ++ xs.drop (off + vs.length) := setAt_eq _ _ _ (by omega)
    have e2 : setAt cur.toList off vs = cur.toList.take off ++ vs ++ cur.toList.drop (off + vs.length) := setAt_eq _ _ _ (by omega)
    refine ⟨by rw [e1]; simp; omega, .inr ⟨g, c', _, rfl, setRow_heap w g cur _ U _ hh, hn, hm, ?_, ?_⟩⟩
    · rw [e2]; simp; omega
    · rw [e1, e2, ← ht]

      have h2 : off ≤ n * k := by omega
      rw [List.take_append, List.take_append, List.take_take, List.take_take, List.take_of_length_le (l := vs) (by simp; omega)]
      congr 1
      · congr 2
        omega
      · simp only [List.length_append, List.length_take]
        rw [List.drop_take]
        congr 1
        omega
theorem g1_store_row_one {T : TypeId} [hT : OneT P T] {x y : Operand} {g off n c k U : Nat} {v : Value} {xs : List Value} (ho : o.op = .store T x y) (hx : a.eval x = .pointer (some ⟨g, off, none⟩)) (hy : a.eval y = v) (h1 : v.oneCell' = true)
    (hp : Hp w0 I w H) {F : List Value → List Ent} [hS : SetG H g n c U k xs F] (hfit : off + 1 ≤ n * k) (h : ∀ w', Hp w0 I w' (F (setAt xs off [v])) → K (a.put o.dst undef) w') : Go1 P o a w K :=
  g1_store_row hT.size ho hx hy (cells_one h1) rfl (by simpa using h1) hp hfit (by omega) h
theorem g1_store_row_agg {T : TypeId} {j : Nat} [hT : AggT P T j] {x y : Operand} {g off n c k U : Nat} {vs xs : List Value} (ho : o.op = .store T x y) (hx : a.eval x = .pointer (some ⟨g, off, none⟩)) (hy : a.eval y = .agg vs.toArray) (hl : vs.length = j) (h1 : ∀ u ∈ vs, u.oneCell' = true)
    (hp : Hp w0 I w H) {F : List Value → List Ent} [hS : SetG H g n c U k xs F] (hfit : off + j ≤ n * k) (hj : 0 < j) (h : ∀ w', Hp w0 I w' (F (setAt xs off vs)) → K (a.put o.dst undef) w') : Go1 P o a w K :=
  g1_store_row hT.size ho hx hy rfl hl h1 hp hfit hj h
end
/-- The order of what is owned does not matter. -/
theorem Hp.perm {w0 w : World} {I : Imm} {H H' : List Ent} (h : Hp w0 I w H) (hs : H.Perm H') : Hp w0 I w H' :=
  ⟨h.below, h.im, fun e he => h.ok e (hs.mem_iff.2 he), fun e he => h.fr e (hs.mem_iff.2 he), hs.pairwise h.ap fun hef b hb hb' => hef b hb' hb⟩
/-- The list without an entry. -/
class DelR (H : List Ent) (v : Value) (T k n : outParam Nat) (xs : outParam (List Value)) (H' : outParam (List Ent)) : Prop where perm : H.Perm (.row v T k n xs :: H')
instance (priority := high) DelR.here {v : Value} {T k n : Nat} {xs : List Value} {H : List Ent} : DelR (.row v T k n xs :: H) v T k n xs H := ⟨List.Perm.refl _⟩
instance DelR.there {v : Value} {T k n : Nat} {xs : List Value} {e : Ent} {H H' : List Ent} [h : DelR H v T k n xs H'] : DelR (e :: H) v T k n xs (e :: H') := ⟨(List.Perm.cons e h.perm).trans (List.Perm.swap _ _ _)⟩
/-- A row of what is owned becomes memory that is read alone. -/
theorem Hp.freezeR {w0 w : World} {I : Imm} {H H' : List Ent} (h : Hp w0 I w H) (v : Value) {T k n : Nat} {xs : List Value} [hd : DelR H v T k n xs H'] :
    ∃ I', Hp w0 I' w H' ∧ (∀ b, b < w0.heap.size → I' b = I b) ∧ Im.le I I' ∧ Rd I' v k n xs := (h.perm hd.perm).freeze
/-- A row is lent to a call that only reads. -/
theorem Hp.lend {w0 w : World} {I : Imm} {H : List Ent} (h : Hp w0 I w H) (v : Value) {T k n : Nat} {xs : List Value} [hm : InR H v T k n xs] :
    ∃ I1, (∀ b o, I1 b = some o → w.heap[b]? = some o) ∧ Im.le I I1 ∧ Rd I1 v k n xs := by
  obtain ⟨I', h1, h2, h3, h4⟩ := (h.sub (List.singleton_sublist.2 hm.mem)).freeze
  exact ⟨I', h1.im, h3, h4⟩
/-- What a call leaves that read more than the caller lets go of. -/
def Im.upto (I : Imm) (n : Nat) (J : Imm) : Imm := fun b => if b < n then I b else J b
theorem Post.lent {w w' : World} {I I1 I1' : Imm} {H : List Ent} (h : Post w I1 w' I1' H) (hI : ∀ b o, I b = some o → w.heap[b]? = some o) : Post w I w' (Im.upto I w.heap.size I1') H := by
  refine ⟨⟨h.hp.below, fun b o hb => ?_, h.hp.ok, fun e he b hb => ?_, h.hp.ap⟩, fun b hb => by simp [Im.upto, hb]⟩
  · by_cases hlt : b < w.heap.size
    · simp only [Im.upto, hlt, if_true] at hb
      rw [h.hp.below.block b hlt]; exact hI b o hb
    · simp only [Im.upto, hlt, if_false] at hb
      exact h.hp.im b o hb
  · obtain ⟨h1, h2⟩ := h.hp.fr e he b hb
    exact ⟨by simp [Im.upto, Nat.not_lt.2 h2, h1], h2⟩
theorem Post.lent0 {w w' : World} {I I1 : Imm} (h : Post w I1 w' I1 []) (hl : Im.le I I1) : Post w I w' I [] := h.hp.weak hl

/-! ## A region that draws its order: what yields one value in every world that the region's calls leave is taken first -/
section
variable {P : Program} {ops : Array Oper} {Q : Exit → Act → World → Prop} {md : Region.Mode} {S : World → Prop} {T : Nat → Bool}
/-- Whatever order is picked from here on; behind every operation that is carried out, but for those of the tail T, S holds. -/
def wpAnyT (P : Program) (md : Region.Mode) (ops : Array Oper) (Q : Exit → Act → World → Prop) (S : World → Prop) (T : Nat → Bool) : Nat → Array Bool → Act → World → Prop
  | 0, listed, a, w => Region.ready md ops listed = [] ∧ Q .normal a w
  | fuel + 1, listed, a, w => (Region.ready md ops listed = [] → Q .normal a w) ∧
    ∀ i ∈ Region.ready md ops listed, wpOp P ops Q i (fun a' w' => (T i = false → S w') ∧ wpAnyT P md ops Q S T fuel (listed.setIfInBounds i true) a' w') a w
theorem wpAny_of_T : ∀ (fuel : Nat) (listed : Array Bool) (a : Act) (w : World), wpAnyT P md ops Q S T fuel listed a w → wpAny P md ops Q fuel listed a w
  | 0, _, _, _, h => h
  | fuel + 1, _, _, _, h => ⟨h.1, fun i hi => wpOp_mono (fun a' w' h' => wpAny_of_T fuel _ a' w' h'.2) (h.2 i hi)⟩
theorem wpAnyT_first {i : Nat} {oi : Oper} {v : Value} (hi : ops[i]? = some oi) (hsel : ∀ (j : Nat) (o : Oper) cs b, ops[j]? = some o → o.op ≠ .select cs b)
    (hQ : ∀ c a w, Q (.panic c) (a.put oi.dst v) w → Q (.panic c) a w) (hT : ∀ j oj, T j = true → ops[j]? = some oj → ∃ e ∈ oj.after, Region.binds md e = true ∧ e.on = i) :
    ∀ (fuel : Nat) (listed : Array Bool) (a : Act) (w : World),
      (∀ j oj, ops[j]? = some oj → j ≠ i → listed.getD j true = false → (∀ e ∈ oj.after, Region.binds md e = true → e.on ≠ i) → oi.apart ops oj = true) →
      i ∈ Region.ready md ops listed → T i = false → YieldsIf P ops S oi v a → S w →
      wpAnyT P md ops Q S T fuel (listed.setIfInBounds i true) (a.put oi.dst v) w → wpAnyT P md ops Q S T (fuel + 1) listed a w := by
  intro fuel
  induction fuel with
  | zero =>
    intro listed a w _ hr hTi hy hS H
    refine ⟨fun h => (by rw [h] at hr; cases hr), fun j hj => ?_⟩
    by_cases hji : j = i
    · subst hji; exact hy.wpOp hi hS ⟨fun _ => hS, H⟩
    · have := ready_mono hj hji
      rw [H.1] at this
      cases this
  | succ fuel ih =>
    intro listed a w hfree hr hTi hy hS H
    refine ⟨fun h => (by rw [h] at hr; cases hr), fun j hj => ?_⟩
    by_cases hji : j = i
    · subst hji; exact hy.wpOp hi hS ⟨fun _ => hS, H⟩
    · have h1 := H.2 j (ready_mono hj hji)
      obtain ⟨hjun, oj, hoj, hall⟩ := mem_ready.1 hj
      have hnot : ∀ e ∈ oj.after, Region.binds md e = true → e.on ≠ i := fun e he hb heq => by
        have h1 := hall e he hb
        have h0 := (mem_ready.1 hr).1
        rw [heq] at h1
        cases hg : listed[i]? with
        | none => simp [Array.getD_eq_getD_getElem?, hg] at h0 h1
        | some b => simp [Array.getD_eq_getD_getElem?, hg] at h0 h1; rw [h1] at h0; cases h0
      have hTj : T j = false := by
        cases hTj : T j with
        | false => rfl
        | true =>
          obtain ⟨e, he, hb, hon⟩ := hT j oj hTj hoj
          exact absurd hon (hnot e he hb)
      have h2 := wpOp_putIf hoj (hfree j oj hoj hji hjun hnot) (fun cs b => hsel i oi cs b hi) (fun cs b => hsel j oj cs b hoj) hQ hy h1
      have hfree' : ∀ k ok, ops[k]? = some ok → k ≠ i → (listed.setIfInBounds j true).getD k true = false →
          (∀ e ∈ ok.after, Region.binds md e = true → e.on ≠ i) → oi.apart ops ok = true := fun k ok hk hki hun hno => by
        refine hfree k ok hk hki ?_ hno
        by_cases hjk : j = k
        · subst hjk; exact hjun
        · rw [getD_set_ne true hjk] at hun; exact hun
      refine wpOp_mono (fun a' w' h3 => ⟨fun _ => h3.2.1 hTj, ih (listed.setIfInBounds j true) a' w' hfree' (ready_mono hr (Ne.symm hji)) hTi h3.1 (h3.2.1 hTj) ?_⟩) h2
      rw [Array.setIfInBounds_comm _ _ hji]
      exact h3.2.2
/-- Do all operations of the tail wait for this one? -/
def tailOK (md : Region.Mode) (ops : Array Oper) (T : Nat → Bool) (i : Nat) : Bool :=
  !T i && (List.range ops.size).all fun j => !T j || match ops[j]? with
    | some oj => oj.after.any fun e => Region.binds md e && e.on == i
    | none => true
theorem tailOK_spec {i : Nat} (h : tailOK md ops T i = true) : T i = false ∧ ∀ j oj, T j = true → ops[j]? = some oj → ∃ e ∈ oj.after, Region.binds md e = true ∧ e.on = i := by
  simp only [tailOK, Bool.and_eq_true, Bool.not_eq_true', List.all_eq_true, List.mem_range] at h
  refine ⟨h.1, fun j oj hTj hoj => ?_⟩
  have h1 := h.2 j (Array.getElem?_eq_some_iff.1 hoj).1
  simp only [hTj, Bool.not_true, Bool.false_or, hoj] at h1
  obtain ⟨e, he, hb⟩ := Array.any_eq_true'.1 h1
  simp only [Bool.and_eq_true, beq_iff_eq] at hb
  exact ⟨e, he, hb.1, hb.2⟩
theorem wpAnyT_take {i : Nat} {oi : Oper} {v : Value} {fuel : Nat} {listed : Array Bool} {a : Act} {w : World} (hi : ops[i]? = some oi)
    (hs : Region.noSelect ops = true) (hf : Region.free md ops listed i = true) (hr : (Region.ready md ops listed).contains i = true) (hT : tailOK md ops T i = true)
    (hQ : ∀ c a w v, Q (.panic c) (a.put oi.dst v) w → Q (.panic c) a w) (hS : S w) (hy : YieldsIf P ops S oi v a)
    (h : wpAnyT P md ops Q S T fuel (listed.setIfInBounds i true) (a.put oi.dst v) w) : wpAnyT P md ops Q S T (fuel + 1) listed a w :=
  wpAnyT_first hi (Region.noSelect_spec hs) (fun c a w => hQ c a w v) (tailOK_spec hT).2 fuel listed a w (Region.free_spec hi hf) (by simpa using hr) (tailOK_spec hT).1 hy hS h
def AllReadyT (P : Program) (md : Region.Mode) (ops : Array Oper) (Q : Exit → Act → World → Prop) (S : World → Prop) (T : Nat → Bool) (fuel : Nat) (listed : Array Bool) (a : Act) (w : World) (rs : List Nat) : Prop :=
  ∀ i ∈ rs, wpOp P ops Q i (fun a' w' => (T i = false → S w') ∧ wpAnyT P md ops Q S T fuel (listed.setIfInBounds i true) a' w') a w
theorem AllReadyT.nil {fuel : Nat} {listed : Array Bool} {a : Act} {w : World} : AllReadyT P md ops Q S T fuel listed a w [] := fun _ h => by cases h
theorem AllReadyT.cons {fuel : Nat} {listed : Array Bool} {a : Act} {w : World} {i : Nat} {o : Oper} {rs : List Nat} (ho : ops[i]? = some o)
    (h : ∀ K' : Act → World → Prop, (∀ a w, (T i = false → S w) → wpAnyT P md ops Q S T fuel (listed.setIfInBounds i true) a w → K' a w) → if Region.wanted o (yielded ops a.tmps) = true then Oper.wp P o a w K' Q else K' (a.put o.dst undef) w)
    (hs : AllReadyT P md ops Q S T fuel listed a w rs) : AllReadyT P md ops Q S T fuel listed a w (i :: rs) := fun j hj => by
  rcases List.mem_cons.1 hj with rfl | hj
  · exact wpOp_step ho fun K' hK => h K' fun a w h1 h2 => hK a w ⟨h1, h2⟩
  · exact hs j hj
theorem wpAnyT_ready {rs : List Nat} {fuel : Nat} {listed : Array Bool} {a : Act} {w : World} (hr : Region.ready md ops listed = rs) (hne : rs ≠ [])
    (h : AllReadyT P md ops Q S T fuel listed a w rs) : wpAnyT P md ops Q S T (fuel + 1) listed a w := ⟨fun h0 => absurd (hr ▸ h0) hne, hr ▸ h⟩
theorem wpAnyT_done {listed : Array Bool} {a : Act} {w : World} (hr : Region.ready md ops listed = []) (h : Q .normal a w) :
    ∀ fuel, wpAnyT P md ops Q S T fuel listed a w
  | 0 => ⟨hr, h⟩
  | _ + 1 => ⟨fun _ => h, by rw [hr]; simp⟩
theorem wpAnyT_norm {fuel : Nat} {listed : Array Bool} {a a' : Act} {w : World} (ha : a = a') (h : wpAnyT P md ops Q S T fuel listed a' w) : wpAnyT P md ops Q S T fuel listed a w := ha ▸ h
theorem wp_region_T {id : Nat} {a : Act} {w : World} (S : World → Prop) (T : Nat → Bool) (hm : P.follows .mixedOrders = true)
    (h : wpAnyT P .any ops Q S T ops.size (Array.replicate ops.size false) a w.drew) : (Code.region id ops true).wp P Q a w :=
  wp_region_any hm (wpAny_of_T _ _ _ _ h)
theorem yields_at {o : Oper} {v : Value} {a : Act} (hw : Region.wanted o (yielded ops a.tmps) = true) (h : ∀ w, S w → (execOp a.eval o).run P w = .ok (.value v) w) : YieldsIf P ops S o v a := .inl ⟨hw, h⟩
theorem yields_not {o : Oper} {a : Act} (hw : Region.wanted o (yielded ops a.tmps) = false) : YieldsIf P ops S o undef a := .inr ⟨hw, rfl⟩
theorem want_ofT {o : Oper} {a : Act} {w : World} {K : Act → World → Prop} {E : Prop} (hg : Region.wanted o (yielded ops a.tmps) = true) (h : Go1 P o a w K) : if Region.wanted o (yielded ops a.tmps) = true then o.wp P a w K Q else E := by
  rw [if_pos hg]
  exact opw_of h
theorem want_opT {o : Oper} {a : Act} {w : World} {K : Act → World → Prop} {E : Prop} (hg : Region.wanted o (yielded ops a.tmps) = true) (h : o.wp P a w K Q) : if Region.wanted o (yielded ops a.tmps) = true then o.wp P a w K Q else E := by
  rw [if_pos hg]
  exact h
end
theorem want_notT {P : Program} {ops : Array Oper} {Q : Exit → Act → World → Prop} {o : Oper} {a : Act} {w : World} {K : Act → World → Prop} {E : Prop} (hg : Region.wanted o (yielded ops a.tmps) = false) (h : E) : if Region.wanted o (yielded ops a.tmps) = true then o.wp P a w K Q else E := by
  rw [if_neg (by rw [hg]; simp)]
  exact h
theorem g1_same {P : Program} {o : Oper} {a : Act} {w : World} {K : Act → World → Prop} {v : Value} (hr : (execOp a.eval o).run P w = .ok (.value v) w) (h : K (a.put o.dst v) w) : Go1 P o a w K := g1_val hr h
/-- What a region's calls leave in place. -/
class SubL (H H' : List Ent) : Prop where sub : H.Sublist H'
instance (priority := low) SubL.nil {H : List Ent} : SubL [] H := ⟨List.nil_sublist _⟩
instance (priority := high) SubL.refl {H : List Ent} : SubL H H := ⟨List.Sublist.refl _⟩
instance SubL.both {e : Ent} {H H' : List Ent} [h : SubL H H'] : SubL (e :: H) (e :: H') := ⟨h.sub.cons_cons _⟩
instance (priority := 900) SubL.more {e : Ent} {H H' : List Ent} [h : SubL H H'] : SubL H (e :: H') := ⟨h.sub.cons _⟩
/-- The boxes alone. -/
class KeepB (H : List Ent) (H' : outParam (List Ent)) : Prop where sub : H'.Sublist H
instance KeepB.nil : KeepB [] [] := ⟨List.Sublist.refl _⟩
instance KeepB.blk {b : Nat} {cs : List Value} {T : TypeId} {H H' : List Ent} [h : KeepB H H'] : KeepB (.blk b cs T :: H) (.blk b cs T :: H') := ⟨h.sub.cons_cons _⟩
instance KeepB.row {v : Value} {T k n : Nat} {xs : List Value} {H H' : List Ent} [h : KeepB H H'] : KeepB (.row v T k n xs :: H) H' := ⟨h.sub.cons _⟩
/-- All but one box. -/
class DropB (H : List Ent) (b : Nat) (H' : outParam (List Ent)) : Prop where sub : H'.Sublist H
instance (priority := high) DropB.here {b : Nat} {cs : List Value} {T : TypeId} {H : List Ent} : DropB (.blk b cs T :: H) b H := ⟨List.sublist_cons_self _ _⟩
instance DropB.there {b : Nat} {e : Ent} {H H' : List Ent} [h : DropB H b H'] : DropB (e :: H) b (e :: H') := ⟨h.sub.cons_cons _⟩
theorem wp_region_hpD {P : Program} {ops : Array Oper} {Q : Exit → Act → World → Prop} {id : Nat} {a : Act} {w w0 : World} {I : Imm} {H H' : List Ent} (b : Nat) [_hk : DropB H b H'] (hp : Hp w0 I w H) (T : Nat → Bool) (hm : P.follows .mixedOrders = true)
    (h : Hp w0 I w.drew H → wpAnyT P .any ops Q (fun w' => Hp w0 I w' H') T ops.size (Array.replicate ops.size false) a w.drew) : (Code.region id ops true).wp P Q a w :=
  wp_region_T _ T hm (h hp.drew)
theorem wp_region_hp {P : Program} {ops : Array Oper} {Q : Exit → Act → World → Prop} {id : Nat} {a : Act} {w w0 : World} {I : Imm} {H : List Ent} (hp : Hp w0 I w H) (T : Nat → Bool) (hm : P.follows .mixedOrders = true)
    (h : Hp w0 I w.drew H → wpAnyT P .any ops Q (fun w' => Hp w0 I w' H) T ops.size (Array.replicate ops.size false) a w.drew) : (Code.region id ops true).wp P Q a w :=
  wp_region_T _ T hm (h hp.drew)
theorem wp_region_hpB {P : Program} {ops : Array Oper} {Q : Exit → Act → World → Prop} {id : Nat} {a : Act} {w w0 : World} {I : Imm} {H H' : List Ent} [_hk : KeepB H H'] (hp : Hp w0 I w H) (T : Nat → Bool) (hm : P.follows .mixedOrders = true)
    (h : Hp w0 I w.drew H → wpAnyT P .any ops Q (fun w' => Hp w0 I w' H') T ops.size (Array.replicate ops.size false) a w.drew) : (Code.region id ops true).wp P Q a w :=
  wp_region_T _ T hm (h hp.drew)
theorem Hp.part {w0 w : World} {I : Imm} {H H' : List Ent} (h : Hp w0 I w H') [hs : SubL H H'] : Hp w0 I w H := h.sub hs.sub
section
variable {P : Program} {a : Act} {w : World} {o : Oper} {w0 : World} {I : Imm} {H : List Ent}
theorem y_load_agg {T U : TypeId} {k : Nat} [hT : AggT P T k] {x : Operand} {b off : Nat} {cs : List Value} (ho : o.op = .load T x) (hx : a.eval x = .pointer (some ⟨b, off, none⟩))
    (hp : Hp w0 I w H) [hm' : InE H b cs U] (hk : Nat.ble (off + k) cs.length = true) : (execOp a.eval o).run P w = .ok (.value (.agg ((cs.drop off).take k).toArray)) w := by
  simp [execOp, ho, hx, Instr.loadAt, Instr.sureAddr, run_loadVar_agg (P := P) (T := T) (b := b) (off := off) (vs := (cs.drop off).take k) (w := w) (by have := Nat.le_of_ble_eq_true hk; simp; omega) (fun j u hu => by rw [cell_blk (hp.ok _ hm'.mem)]; exact seg_get hu)]
theorem y_load_one {T U : TypeId} [hT : OneT P T] {x : Operand} {b off : Nat} {cs : List Value} {v : Value} (ho : o.op = .load T x) (hx : a.eval x = .pointer (some ⟨b, off, none⟩))
    (hp : Hp w0 I w H) [hm' : InE H b cs U] (hk : cs[off]? = some v) : (execOp a.eval o).run P w = .ok (.value v) w := by
  simp [execOp, ho, hx, Instr.loadAt, Instr.sureAddr, run_loadVar_one (P := P) (T := T) (w := w) (ad := ⟨b, off, none⟩) (v := v) (by rw [cell_blk (hp.ok _ hm'.mem)]; exact hk)]
theorem y_load_im_agg {T : TypeId} {k : Nat} [hT : AggT P T k] {x : Operand} {b off : Nat} {vs : List Value} (ho : o.op = .load T x) (hx : a.eval x = .pointer (some ⟨b, off, none⟩))
    (hp : Hp w0 I w H) (hc : CellsAt I b off vs) (hl : vs.length = k) : (execOp a.eval o).run P w = .ok (.value (.agg vs.toArray)) w := by
  simp [execOp, ho, hx, Instr.loadAt, Instr.sureAddr, run_loadVar_agg (P := P) (T := T) (b := b) (off := off) (vs := vs) (w := w) hl (fun j u hu => hc.cell hp j u hu)]
theorem y_load_im_one {T : TypeId} [hT : OneT P T] {x : Operand} {b off : Nat} {v : Value} (ho : o.op = .load T x) (hx : a.eval x = .pointer (some ⟨b, off, none⟩))
    (hp : Hp w0 I w H) (hc : CellsAt I b off [v]) : (execOp a.eval o).run P w = .ok (.value v) w := by
  simp [execOp, ho, hx, Instr.loadAt, Instr.sureAddr, run_loadVar_one (P := P) (T := T) (w := w) (ad := ⟨b, off, none⟩) (v := v) (by simpa using hc.cell hp 0 v rfl)]
theorem y_load_row_one {T U : TypeId} [hT : OneT P T] {x : Operand} {g off n c k : Nat} {xs : List Value} {v : Value} (ho : o.op = .load T x) (hx : a.eval x = .pointer (some ⟨g, off, none⟩))
    (hp : Hp w0 I w H) [hm : InG H g n c U k xs] (hk : xs[off]? = some v) : (execOp a.eval o).run P w = .ok (.value v) w := by
  simp [execOp, ho, hx, Instr.loadAt, Instr.sureAddr, run_loadVar_one (P := P) (T := T) (w := w) (ad := ⟨g, off, none⟩) (v := v) (hp.row_cell hm.mem hk)]
theorem y_load_row_agg {T U : TypeId} {j : Nat} [hT : AggT P T j] {x : Operand} {g off n c k : Nat} {xs : List Value} (ho : o.op = .load T x) (hx : a.eval x = .pointer (some ⟨g, off, none⟩))
    (hp : Hp w0 I w H) [hm : InG H g n c U k xs] {vs : List Value} (hk : ∀ i u, vs[i]? = some u → xs[off + i]? = some u) (hl : vs.length = j) : (execOp a.eval o).run P w = .ok (.value (.agg vs.toArray)) w := by
  simp [execOp, ho, hx, Instr.loadAt, Instr.sureAddr, run_loadVar_agg (P := P) (T := T) (b := g) (off := off) (vs := vs) (w := w) hl (fun i u hu => hp.row_cell hm.mem (hk i u hu))]
end
end Go.Hpw
