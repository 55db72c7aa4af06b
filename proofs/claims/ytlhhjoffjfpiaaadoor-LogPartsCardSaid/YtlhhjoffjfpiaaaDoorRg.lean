/- A loop over an iterator, said by what each party owns: 'Hpo' is 'Hp' with objects that are no cells (the loops' records) beside it. -/
import Derived.Test.YtlhhjoffjfpiaaaDoorHp
import Derived.RangeFuncNested
import Derived.RangeFuncLeaves
import Derived.OwnWalkIn
import Derived.TacticsInMore
import Derived.LoopNIn
import Derived.LoopIn
namespace Go.Hpw
open Go Go.RowKit

def addO (I : Imm) : List (Nat × Obj) → Imm
  | [] => I
  | p :: O => fun b => if b = p.1 then some p.2 else addO I O b
theorem addO_none {I : Imm} : ∀ {O : List (Nat × Obj)} {b : Nat}, (∀ p ∈ O, p.1 ≠ b) → addO I O b = I b
  | [], _, _ => rfl
  | p :: O, b, h => by
    have h1 := h p (by simp)
    show (if b = p.1 then some p.2 else addO I O b) = I b
    rw [if_neg (fun e => h1 e.symm)]
    exact addO_none fun q hq => h q (by simp [hq])
theorem addO_le {I : Imm} : ∀ {O : List (Nat × Obj)}, (∀ p ∈ O, I p.1 = none) → Im.le I (addO I O)
  | O, h => fun b o hb => by
    rw [addO_none (fun p hp e => ?_)]
    · exact hb
    · have := h p hp
      rw [e, hb] at this
      cases this
theorem addO_app {I : Imm} : ∀ {A O : List (Nat × Obj)}, (A ++ O).Pairwise (fun p q => p.1 ≠ q.1) → addO (addO I A) O = addO I (A ++ O)
  | [], _, _ => rfl
  | p :: A, O, h => by
    obtain ⟨h1, h2⟩ := List.pairwise_cons.1 (show (p :: (A ++ O)).Pairwise _ from h)
    funext b
    show addO (addO I (p :: A)) O b = if b = p.1 then some p.2 else addO I (A ++ O) b
    have ih := congrFun (addO_app (I := I) (A := A) (O := O) h2) b
    by_cases hb : b = p.1
    · rw [if_pos hb, addO_none (fun q hq e => h1 q (by simp [hq]) (by rw [e, hb]))]
      show (if b = p.1 then some p.2 else _) = _
      rw [if_pos hb]
    · rw [if_neg hb, ← ih]
      clear ih
      have hk : ∀ (O : List (Nat × Obj)), addO (addO I (p :: A)) O b = addO (addO I A) O b := by
        intro O
        induction O with
        | nil =>
          show (if b = p.1 then some p.2 else addO I A b) = addO I A b
          rw [if_neg hb]
        | cons q O ihO =>
          show (if b = q.1 then some q.2 else addO (addO I (p :: A)) O b) = (if b = q.1 then some q.2 else addO (addO I A) O b)
          rw [ihO]
      exact hk O

structure Hpo (w0 : World) (I : Imm) (w : World) (O : List (Nat × Obj)) (H : List Ent) : Prop where
  hp : Hp w0 (addO I O) w H
  fr : ∀ p ∈ O, I p.1 = none ∧ w0.heap.size ≤ p.1
  nd : O.Pairwise fun p q => p.1 ≠ q.1

section
variable {w0 w : World} {I : Imm} {O : List (Nat × Obj)} {H : List Ent}
theorem Hp.hpo (h : Hp w0 I w H) : Hpo w0 I w [] H := ⟨h, (by simp), List.Pairwise.nil⟩
theorem Hpo.le (h : Hpo w0 I w O H) : Im.le I (addO I O) := addO_le fun p hp => (h.fr p hp).1
theorem Hp.weaken {I' : Imm} (h : Hp w0 I' w H) (hl : Im.le I I') : Hp w0 I w H :=
  ⟨h.below, fun b o hb => h.im b o (hl b o hb), h.ok, fun e he b hb => by
    refine ⟨?_, (h.fr e he b hb).2⟩
    cases hI : I b with
    | none => rfl
    | some o =>
      have := (h.fr e he b hb).1
      rw [hl b o hI] at this
      exact absurd this (by simp), h.ap⟩
theorem Hpo.out (h : Hpo w0 I w O H) : Hp w0 I w H := h.hp.weaken h.le
theorem Hpo.drop {p : Nat × Obj} (h : Hpo w0 I w (p :: O) H) : Hpo w0 I w O H := by
  obtain ⟨h1, h2⟩ := List.pairwise_cons.1 h.nd
  refine ⟨h.hp.weaken fun b o hb => ?_, fun q hq => h.fr q (by simp [hq]), h2⟩
  show (if b = p.1 then some p.2 else addO I O b) = some o
  by_cases hbp : b = p.1
  · exfalso
    rw [addO_none (fun q hq e => h1 q hq (by rw [e, hbp]))] at hb
    have := (h.fr p (by simp)).1
    rw [← hbp, hb] at this
    cases this
  · rw [if_neg hbp]; exact hb
theorem Hpo.at {p : Nat × Obj} (h : Hpo w0 I w (p :: O) H) : w.heap[p.1]? = some p.2 := h.hp.im _ _ (by show (if p.1 = p.1 then some p.2 else _) = _; rw [if_pos rfl])
theorem Hpo.lt {p : Nat × Obj} (h : Hpo w0 I w O H) (hp : p ∈ O) : p.1 < w.heap.size := by
  have : ∃ o, addO I O p.1 = some o := by
    clear h
    induction O with
    | nil => cases hp
    | cons q O ih =>
      show ∃ o, (if p.1 = q.1 then some q.2 else addO I O p.1) = some o
      by_cases e : p.1 = q.1
      · exact ⟨_, by rw [if_pos e]⟩
      · rw [if_neg e]
        rcases List.mem_cons.1 hp with rfl | hp
        · exact absurd rfl e
        · exact ih hp
  obtain ⟨o, ho⟩ := this
  exact h.hp.imlt ho
theorem Hp.allocObj (h : Hp w0 I w H) (o : Obj) : Hp w0 I (w.alloc o) H := by
  have hn : ∀ b, b < w.heap.size → (w.alloc o).heap[b]? = w.heap[b]? := fun b hb => Below.heap_alloc w _ b hb
  exact ⟨h.below.alloc h.below.size _, fun b o hb => (hn b (h.imlt hb)).trans (h.im b o hb), fun e he => Ent.ok_same (h.ok e he) fun b hb => hn b (Ent.ok_lt (h.ok e he) hb), h.fr, h.ap⟩
theorem Hpo.alloc (h : Hpo w0 I w O H) (o : Obj) : Hpo w0 I (w.alloc o) ((w.heap.size, o) :: O) H := by
  have h1 := h.hp.allocObj o
  refine ⟨⟨h1.below, fun b o' hb => ?_, h1.ok, fun e he b hb => ?_, h1.ap⟩, fun p hp => ?_, List.pairwise_cons.2 ⟨fun q hq => ?_, h.nd⟩⟩
  · change (if b = w.heap.size then some o else addO I O b) = some o' at hb
    by_cases hbp : b = w.heap.size
    · rw [if_pos hbp] at hb; cases hb; rw [hbp]; exact World.alloc_heap_new w o
    · rw [if_neg hbp] at hb; exact h1.im b o' hb
  · refine ⟨?_, (h1.fr e he b hb).2⟩
    show (if b = w.heap.size then some o else addO I O b) = none
    have := Ent.ok_lt (h.hp.ok e he) hb
    rw [if_neg (by omega)]
    exact (h1.fr e he b hb).1
  · rcases List.mem_cons.1 hp with rfl | hp
    · refine ⟨?_, h.hp.below.size⟩
      show I w.heap.size = none
      cases hI : I w.heap.size with
      | none => rfl
      | some o' => exact absurd (h.out.imlt hI) (by omega)
    · exact h.fr p hp
  · show w.heap.size ≠ q.1
    have := h.lt hq
    omega
theorem Hpo.put {l : Nat} {o : Obj} (h : Hpo w0 I w ((l, o) :: O) H) (o' : Obj) : Hpo w0 I (w.putObj l o') ((l, o') :: O) H := by
  obtain ⟨h1, h2⟩ := List.pairwise_cons.1 h.nd
  have hat : w.heap[l]? = some o := h.at
  have hlt := (Array.getElem?_eq_some_iff.1 hat).1
  have hfr := h.fr (l, o) (by simp)
  have hIl : addO I ((l, o) :: O) l = some o := by show (if l = l then some o else _) = _; rw [if_pos rfl]
  have hne : ∀ e ∈ H, e.foot ≠ some l := fun e he hf => by
    have := (h.hp.fr e he l hf).1
    rw [hIl] at this; cases this
  have hIk : ∀ b, b ≠ l → addO I ((l, o') :: O) b = addO I ((l, o) :: O) b := fun b hb => by
    show (if b = l then some o' else addO I O b) = (if b = l then some o else addO I O b)
    rw [if_neg hb, if_neg hb]
  refine ⟨⟨?_, fun b ob hb => ?_, fun e he => ?_, fun e he b hb => ?_, h.hp.ap⟩, fun p hp => ?_, List.pairwise_cons.2 ⟨h1, h2⟩⟩
  · exact h.hp.below.trans ((Below.refl _ w).grown (grownBy_putObj' w l o') h.hp.below.size (fun k e => by cases e; exact hfr.2))
  · by_cases hbl : b = l
    · subst hbl
      have hx : addO I ((b, o') :: O) b = some o' := by show (if b = b then some o' else _) = _; rw [if_pos rfl]
      rw [hx] at hb; cases hb
      exact World.putObj_heap_same hlt
    · rw [hIk b hbl] at hb
      exact (World.putObj_heap_other hbl).trans (h.hp.im b ob hb)
  · refine Ent.ok_same (h.hp.ok e he) fun b hb => World.putObj_heap_other (fun e' => hne e he (by rw [← e']; exact hb))
  · refine ⟨?_, (h.hp.fr e he b hb).2⟩
    rw [hIk b (fun e' => hne e he (by rw [← e']; exact hb))]
    exact (h.hp.fr e he b hb).1
  · rcases List.mem_cons.1 hp with rfl | hp
    · exact hfr
    · exact h.fr p (by simp [hp])
theorem Hpo.frameIn {A : List (Nat × Obj)} (h : Hpo w0 I w (A ++ O) H) : Hpo w0 (addO I A) w O H := by
  obtain ⟨n1, n2, n3⟩ := List.pairwise_append.1 h.nd
  refine ⟨by rw [addO_app h.nd]; exact h.hp, fun p hp => ⟨?_, (h.fr p (by simp [hp])).2⟩, n2⟩
  rw [addO_none (fun q hq => n3 q hq p hp)]
  exact (h.fr p (by simp [hp])).1
theorem Hpo.frameOut {A : List (Nat × Obj)} (h : Hpo w0 (addO I A) w O H) (ha : ∀ p ∈ A, I p.1 = none ∧ w0.heap.size ≤ p.1) (hn : A.Pairwise fun p q => p.1 ≠ q.1) : Hpo w0 I w (A ++ O) H := by
  have key : ∀ p ∈ O, (∀ q ∈ A, q.1 ≠ p.1) := fun p hp q hq e => by
    have h1 := (h.fr p hp).1
    have : ∃ o, addO I A p.1 = some o := by
      clear h1 h ha hn
      induction A with
      | nil => cases hq
      | cons r A ih =>
        show ∃ o, (if p.1 = r.1 then some r.2 else addO I A p.1) = some o
        by_cases er : p.1 = r.1
        · exact ⟨_, by rw [if_pos er]⟩
        · rw [if_neg er]
          rcases List.mem_cons.1 hq with rfl | hq
          · exact absurd e.symm er
          · exact ih hq
    obtain ⟨o, ho⟩ := this
    rw [ho] at h1; cases h1
  have nd : (A ++ O).Pairwise fun p q => p.1 ≠ q.1 := List.pairwise_append.2 ⟨hn, h.nd, fun q hq p hp => key p hp q hq⟩
  refine ⟨by rw [← addO_app nd]; exact h.hp, fun p hp => ?_, nd⟩
  rcases List.mem_append.1 hp with hp | hp
  · exact ha p hp
  · have := h.fr p hp
    rw [addO_none (key p hp)] at this
    exact this
end

theorem Hpo.weaken {w0 w : World} {I I' : Imm} {O : List (Nat × Obj)} {H : List Ent} (h : Hpo w0 I' w O H) (hl : Im.le I I') : Hpo w0 I w O H := by
  have hfr : ∀ p ∈ O, I p.1 = none := fun p hp => by
    cases hI : I p.1 with
    | none => rfl
    | some o =>
      have := (h.fr p hp).1
      rw [hl _ _ hI] at this
      exact absurd this (by simp)
  refine ⟨h.hp.weaken ?_, fun p hp => ⟨hfr p hp, (h.fr p hp).2⟩, h.nd⟩
  clear h hfr
  induction O with
  | nil => exact hl
  | cons p O ih =>
    intro b o hb
    change (if b = p.1 then some p.2 else addO I O b) = some o at hb
    show (if b = p.1 then some p.2 else addO I' O b) = some o
    by_cases hbp : b = p.1
    · rw [if_pos hbp] at hb ⊢; exact hb
    · rw [if_neg hbp] at hb ⊢; exact ih b o hb
/-- A box of one's own is made memory that is read alone. -/
theorem Hpo.freezeB {w0 w : World} {I : Imm} {O : List (Nat × Obj)} {b : Nat} {cs : List Value} {T : TypeId} {H : List Ent} (h : Hpo w0 I w O (.blk b cs T :: H)) :
    ∃ I', Hpo w0 I' w O H ∧ Im.le I I' ∧ CellsAt I' b 0 cs := by
  have hfr := h.hp.fr _ (List.mem_cons_self ..) b rfl
  have hok := h.hp.ok _ (List.mem_cons_self ..)
  have hap := List.pairwise_cons.1 h.hp.ap
  have hbO : ∀ p ∈ O, p.1 ≠ b := fun p hp e => by
    have h1 := hfr.1
    have : ∀ (O : List (Nat × Obj)), p ∈ O → addO I O p.1 ≠ none := by
      intro O
      induction O with
      | nil => intro h; cases h
      | cons q O ih =>
        intro hq
        show (if p.1 = q.1 then some q.2 else addO I O p.1) ≠ none
        by_cases hh : p.1 = q.1
        · rw [if_pos hh]; simp
        · rw [if_neg hh]
          rcases List.mem_cons.1 hq with rfl | hq
          · exact absurd rfl hh
          · exact ih hq
    exact this O hp (by rw [e]; exact h1)
  have hIb : I b = none := by have := hfr.1; rwa [addO_none hbO] at this
  have nd : ((b, Obj.cells cs.toArray T (0, 0)) :: O).Pairwise (fun p q => p.1 ≠ q.1) := List.pairwise_cons.2 ⟨fun q hq e => hbO q hq e.symm, h.nd⟩
  have hpo : Hpo w0 I w ((b, .cells cs.toArray T (0, 0)) :: O) H := by
    refine ⟨⟨h.hp.below, fun c o hc => ?_, fun e he => h.hp.ok e (by simp [he]), fun e he c hc => ?_, hap.2⟩, fun p hp => ?_, nd⟩
    · change (if c = b then some (Obj.cells cs.toArray T (0, 0)) else addO I O c) = some o at hc
      by_cases hcb : c = b
      · rw [if_pos hcb] at hc; cases hc; rw [hcb]; exact hok
      · rw [if_neg hcb] at hc; exact h.hp.im c o hc
    · have h2 := h.hp.fr e (by simp [he]) c hc
      refine ⟨?_, h2.2⟩
      show (if c = b then some (Obj.cells cs.toArray T (0, 0)) else addO I O c) = none
      rw [if_neg (fun e' => hap.1 e he b rfl (by rw [← e']; exact hc))]
      exact h2.1
    · rcases List.mem_cons.1 hp with rfl | hp
      · exact ⟨hIb, hfr.2⟩
      · exact h.fr p hp
  refine ⟨addO I [(b, .cells cs.toArray T (0, 0))], Hpo.frameIn (A := [(b, .cells cs.toArray T (0, 0))]) hpo, addO_le (fun p hp => by
    obtain rfl := List.mem_singleton.1 hp
    exact hIb), cs.toArray, T, (0, 0), ?_, fun j u hu => by simpa using hu⟩
  show (if b = b then some (Obj.cells cs.toArray T (0, 0)) else _) = _
  rw [if_pos rfl]
/-- The activation's own steps, the records aside. -/
theorem Hpo.with {w0 w w' : World} {I : Imm} {O : List (Nat × Obj)} {H H' : List Ent} (h : Hpo w0 I w O H) (hp : Hp w0 (addO I O) w' H') : Hpo w0 I w' O H' := ⟨hp, h.fr, h.nd⟩
theorem tw_stop {α : Type} {p : α → Bool} : ∀ {L pre : List α} {x : α}, pre ++ [x] <+: L → (∀ y ∈ pre, p y = true) → p x = false → L.takeWhile p = pre
  | [], pre, x, h, _, _ => absurd h.length_le (by simp)
  | y :: L, [], x, h, _, hx => by
    obtain ⟨rfl, _⟩ := List.cons_prefix_cons.1 (show [x] <+: y :: L from h)
    simp [hx]
  | y :: L, z :: pre, x, h, ha, hx => by
    obtain ⟨rfl, h2⟩ := List.cons_prefix_cons.1 (show z :: (pre ++ [x]) <+: y :: L from h)
    rw [List.takeWhile_cons, if_pos (ha z (by simp)), tw_stop h2 (fun q hq => ha q (by simp [hq])) hx]
theorem tw_go {α : Type} {p : α → Bool} : ∀ {L pre : List α}, pre <+: L → (∀ y ∈ pre, p y = true) → pre <+: L.takeWhile p
  | _, [], _, _ => List.nil_prefix
  | [], z :: pre, h, _ => absurd h.length_le (by simp)
  | y :: L, z :: pre, h, ha => by
    obtain ⟨rfl, h2⟩ := List.cons_prefix_cons.1 h
    rw [List.takeWhile_cons, if_pos (ha z (by simp))]
    exact List.cons_prefix_cons.2 ⟨rfl, tw_go h2 fun q hq => ha q (by simp [hq])⟩
theorem tw_all {α : Type} {p : α → Bool} : ∀ {L : List α}, (∀ y ∈ L, p y = true) → L.takeWhile p = L
  | [], _ => rfl
  | y :: L, h => by rw [List.takeWhile_cons, if_pos (h y (by simp)), tw_all fun q hq => h q (by simp [hq])]
theorem wpAnyT_top {P : Program} {md : Region.Mode} {ops : Array Oper} {Q : Exit → Act → World → Prop} {S : World → Prop} {T : Nat → Bool} : ∀ (fuel : Nat) (listed : Array Bool) (a : Act) (w : World), wpAnyT P md ops Q S T fuel listed a w → wpAnyT P md ops Q (fun _ => True) (fun _ => false) fuel listed a w
  | 0, _, _, _, h => h
  | fuel + 1, _, _, _, h => ⟨h.1, fun i hi => wpOp_mono (fun a' w' h' => ⟨fun _ => trivial, wpAnyT_top fuel _ a' w' h'.2⟩) (h.2 i hi)⟩
/-- What the loads lean on is named when the operations that look at no memory are behind. -/
theorem wpAnyT_hp {P : Program} {md : Region.Mode} {ops : Array Oper} {Q : Exit → Act → World → Prop} {w0 : World} {I : Imm} {H : List Ent} {fuel : Nat} {listed : Array Bool} {a : Act} {w : World} (_hp : Hp w0 I w H) (T : Nat → Bool)
    (h : wpAnyT P md ops Q (fun w' => Hp w0 I w' H) T fuel listed a w) : wpAnyT P md ops Q (fun _ => True) (fun _ => false) fuel listed a w := wpAnyT_top _ _ _ _ h
/-- An iterator: it hands over xs, one by one; what the rounds own is theirs; the memory I is all that it reads. -/
def SeqH {α : Type} (P : Program) (g : Nat) (lb : Array Value) (encs : α → Array Value) (xs : List α) (I : Imm) : Prop :=
  ∀ (l : Nat) (w0 : World) (I1 : Imm) (J Jx : List α → List (Nat × Obj) → List Ent → Prop) (W : World) (O0 : List (Nat × Obj)) (H0 : List Ent),
    Im.le I I1 → Hpo w0 I1 W O0 H0 → J [] O0 H0 →
    (∀ (m : Nat) (pre : List α) (x : α) (W1 : World) (O : List (Nat × Obj)) (H : List Ent) (I2 : Imm), (pre ++ [x]) <+: xs → Im.le I1 I2 → J pre O H → Hpo w0 I2 W1 O H →
      YieldAt Fence.wide m P l (encs x) W1 fun e W' =>
        (e = .returned (.bool true) ∧ ∃ O' H', J (pre ++ [x]) O' H' ∧ Hpo w0 I2 W' O' H') ∨ (e = .returned (.bool false) ∧ ∃ O' H', Jx (pre ++ [x]) O' H' ∧ Hpo w0 I2 W' O' H')) →
    ∀ n, CallsIn Fence.wide n P g (#[.func (.yield l) #[] #[]] ++ lb) W fun e W' => (∃ v, e = .returned v) ∧
      ((∃ O' H', J xs O' H' ∧ Hpo w0 I1 W' O' H') ∨ (∃ pre O' H', pre <+: xs ∧ Jx pre O' H' ∧ Hpo w0 I1 W' O' H'))

/-- How a round's body may be left. -/
def postH {α : Type} (w0 : World) (I : Imm) (J : List α → List (Nat × Obj) → List Ent → Prop) (Jx : Code → List α → List (Nat × Obj) → List Ent → Prop) (xs : List α) : Exit → Act → World → Prop
  | .normal, _, W => ∃ O H, J xs O H ∧ Hpo w0 I W O H
  | .ret, _, W => ∃ O H, Jx .ret xs O H ∧ Hpo w0 I W O H
  | .exit id, _, W => ∃ O H, Jx (.exit id) xs O H ∧ Hpo w0 I W O H
  | .goto t, _, W => ∃ O H, Jx (.goto t) xs O H ∧ Hpo w0 I W O H
  | .panic _, _, _ => False
  | .outgrown, _, _ => False

theorem pw2 {l D : Nat} {o o' : Obj} (h : l ≠ D) : [(l, o), (D, o')].Pairwise (fun p q => p.1 ≠ q.1) := by
  simp [h]

/-- A loop over an iterator. -/
theorem wpIn_rangeH {α : Type} {P : Program} {n : Nat} {g : Operand} {ps : Array Tmp} {assign body : Code} {Q : Exit → Act → World → Prop} {a : Act} {w w0 : World} {I0 I : Imm} {O0 : List (Nat × Obj)} {H0 : List Ent}
    {gf : Nat} {lb : Array Value} {encs : α → Array Value} {xs : List α}
    (hg : a.eval g = .func (.func gf) #[] lb) (eg : ∀ args w, (callFunc gf args).run P w = .ok (.enter gf args) w)
    (hseq : SeqH P gf lb encs xs I0) (hps : ∀ x, (encs x).size = ps.size) (hI0 : Im.le I0 I)
    (J : List α → List (Nat × Obj) → List Ent → Prop) (Jx : Code → List α → List (Nat × Obj) → List Ent → Prop)
    (hp : Hpo w0 I w O0 H0) (hJ : J [] O0 H0)
    (hround : ∀ (m l : Nat) (pre : List α) (x : α) (W : World) (O : List (Nat × Obj)) (H : List Ent) (I' : Imm), (pre ++ [x]) <+: xs → Im.le I I' → J pre O H → Hpo w0 I' W O H →
      assign.wpIn (Fence.wide.inRound l) m P (Exit.then (fun a1 W1 => ∃ O1 H1, Hpo w0 I' W1 O1 H1 ∧ ∀ (W2 : World) (I2 : Imm), Im.le I I2 → Hpo w0 I2 W2 O1 H1 →
          body.wpIn (Fence.wide.inRound l) m P (postH w0 I2 J Jx (pre ++ [x])) a1 W2) (fun _ _ _ => False))
        { tmps := (ps.zip (encs x)).foldl (fun t (p, v) => t.setIfInBounds p v) a.tmps, defers := [] } W)
    (hdone : ∀ (D : Nat) (W : World) (O : List (Nat × Obj)) (H : List Ent), J xs O H → Hpo w0 I W ((D, .deferred (some [])) :: O) H → Q .normal { a with defers := { target := .collected D, args := #[] } :: a.defers } W)
    (hstop : ∀ (D : Nat) (c : Code) (pre : List α) (W : World) (O : List (Nat × Obj)) (H : List Ent), pre <+: xs → Jx c pre O H → Hpo w0 I W ((D, .deferred (some [])) :: O) H →
      c.wpIn Fence.wide n P Q { a with defers := { target := .collected D, args := #[] } :: a.defers } W) :
    (Code.rangeFunc g ps assign body).wpIn Fence.wide n P Q a w := by
  refine wpIn_rangeFunc ?_
  intro fn hfn
  rw [show Fence.wide.round = none from rfl]
  obtain ⟨rec, hrec⟩ : ∃ rec : LoopState → Option Code → Loop, rec = fun st pe => { state := st, pending := pe, fn, tmps := a.tmps, params := ps, assign, body, defers := w.heap.size } := ⟨_, rfl⟩
  obtain ⟨W1, hW1⟩ : ∃ W1, (w.alloc (.deferred (some []))).alloc (.loop (rec .ready none)) = W1 := ⟨_, rfl⟩
  obtain ⟨l, hl0⟩ : ∃ l, w.heap.size + 1 = l := ⟨_, rfl⟩
  obtain ⟨D, hD0⟩ : ∃ D, w.heap.size = D := ⟨_, rfl⟩
  have hlD : l ≠ D := by omega
  have hp1 : Hpo w0 I W1 ((l, .loop (rec .ready none)) :: (D, .deferred (some [])) :: O0) H0 := by
    have := (hp.alloc (.deferred (some []))).alloc (.loop (rec .ready none))
    rw [World.size_alloc, hW1, hl0, hD0] at this
    exact this
  refine ⟨l, [{ target := .collected D, args := #[] }], W1, { target := .fn (.func gf) lb, args := #[.func (.yield l) #[] #[]] }, W1, gf,
    #[.func (.yield l) #[] #[]] ++ lb, W1, ?_, ?_, ?_, ?_, fun h => (by simp [Fence.wide] at h), ?_⟩
  · rw [← hW1, hrec, ← hl0, ← hD0]; exact run_enterLoop_outer _ _ _ _ _
  · simp only [resolve, hg]
    simp [go_sem]
  · intro f' _; trivial
  · simp [invoke, go_sem, eg]
  · refine (hseq l w0 I (fun pre O H => ∃ O1, O = (l, .loop (rec .ready none)) :: (D, .deferred (some [])) :: O1 ∧ J pre O1 H)
      (fun pre O H => ∃ c O1, O = (l, .loop (rec .done (some c))) :: (D, .deferred (some [])) :: O1 ∧ Jx c pre O1 H)
      W1 _ _ hI0 hp1 ⟨_, rfl, hJ⟩ ?_ _).mono ?_
    · rintro m pre x W O H I2 hpre hle ⟨O1, rfl, hj⟩ hq
      have hl : W.heap[l]? = some (.loop (rec .ready none)) := hq.at
      have hA : ∀ st pe, ∀ p ∈ [(l, Obj.loop (rec st pe)), (D, .deferred (some []))], I2 p.1 = none ∧ w0.heap.size ≤ p.1 := fun st pe p hp' => by
        have h1 := hq.fr (l, .loop (rec .ready none)) (by simp)
        have h2 := hq.fr (D, .deferred (some [])) (by simp)
        rcases List.mem_cons.1 hp' with rfl | hp'
        · exact h1
        · rcases List.mem_cons.1 hp' with rfl | hp'
          · exact h2
          · cases hp'
      have hle2 : ∀ st pe, Im.le I (addO I2 [(l, .loop (rec st pe)), (D, .deferred (some []))]) := fun st pe => hle.trans (addO_le fun p hp' => (hA st pe p hp').1)
      have hy := run_yield (P := P) (args := encs x) hl (by rw [hrec]; exact hps x)
      rw [hrec] at hy
      refine ⟨fn, _, assign, body, hy, roundIn_of_wpIn hfn ?_⟩
      refine wpIn_mono (hround m l pre x W O1 H (addO I2 [(l, .loop (rec .ready none)), (D, .deferred (some []))]) hpre (hle2 _ _) hj (Hpo.frameIn (A := [(l, .loop (rec .ready none)), (D, .deferred (some []))]) hq)) ?_
      rintro e a1 Wa hqa
      cases e with
      | normal =>
        obtain ⟨O2, H2, hpa, hb⟩ := hqa
        have hpo := hpa.frameOut (hA _ _) (pw2 hlD)
        refine ⟨_, run_beginRound hpo.at (by rw [hrec]), ?_⟩
        have hpb := Hpo.put (l := l) hpo (.loop { rec .ready none with state := .busy })
        have hbz : ({ rec .ready none with state := .busy } : Loop) = rec .busy none := by rw [hrec]
        rw [hbz] at hpb ⊢
        refine wpIn_mono (hb _ _ (hle2 .busy none) (Hpo.frameIn (A := [(l, .loop (rec .busy none)), (D, .deferred (some []))]) hpb)) ?_
        have fin : ∀ (jump : Option Code) (W3 : World) (O3 : List (Nat × Obj)) (H3 : List Ent), Hpo w0 (addO I2 [(l, .loop (rec .busy none)), (D, .deferred (some []))]) W3 O3 H3 →
            (Instr.endRound l jump).run P W3 = .ok (.bool jump.isNone) (W3.putObj l (.loop (rec (if jump.isNone then .ready else .done) jump))) ∧
            Hpo w0 I2 (W3.putObj l (.loop (rec (if jump.isNone then .ready else .done) jump))) ((l, .loop (rec (if jump.isNone then .ready else .done) jump)) :: (D, .deferred (some [])) :: O3) H3 := fun jump W3 O3 H3 h3 => by
          have h4 := h3.frameOut (hA _ _) (pw2 hlD)
          have h5 := run_endRound (P := P) jump h4.at
          have h6 := Hpo.put (l := l) h4 (.loop (rec (if jump.isNone then .ready else .done) jump))
          refine ⟨?_, h6⟩
          rw [hrec] at h5 ⊢
          exact h5
        rintro e a3 W3 hq3
        cases e with
        | normal =>
          obtain ⟨O3, H3, hj3, h3⟩ := hq3
          obtain ⟨hr, h4⟩ := fin none W3 O3 H3 h3
          exact ⟨_, _, hr, .inl ⟨rfl, _, _, ⟨O3, rfl, hj3⟩, h4⟩⟩
        | ret =>
          obtain ⟨O3, H3, hj3, h3⟩ := hq3
          obtain ⟨hr, h4⟩ := fin (some .ret) W3 O3 H3 h3
          exact ⟨_, _, hr, .inr ⟨rfl, _, _, ⟨_, O3, rfl, hj3⟩, h4⟩⟩
        | exit id =>
          obtain ⟨O3, H3, hj3, h3⟩ := hq3
          obtain ⟨hr, h4⟩ := fin (some (.exit id)) W3 O3 H3 h3
          exact ⟨_, _, hr, .inr ⟨rfl, _, _, ⟨_, O3, rfl, hj3⟩, h4⟩⟩
        | goto t =>
          obtain ⟨O3, H3, hj3, h3⟩ := hq3
          obtain ⟨hr, h4⟩ := fin (some (.goto t)) W3 O3 H3 h3
          exact ⟨_, _, hr, .inr ⟨rfl, _, _, ⟨_, O3, rfl, hj3⟩, h4⟩⟩
        | panic ch => exact hq3.elim
        | outgrown => exact hq3.elim
      | exit id => exact hqa.elim
      | goto t => exact hqa.elim
      | ret => exact hqa.elim
      | panic chain => exact hqa.elim
      | outgrown => exact hqa.elim
    · rintro e W2 ⟨⟨v, rfl⟩, (⟨O', H', ⟨O1, rfl, hj⟩, h2⟩ | ⟨pre, O', H', hpre, ⟨c, O1, rfl, hj⟩, h2⟩)⟩
      · have h3 : (Instr.endLoop l).run P W2 = .ok none (W2.putObj l (.loop (rec .exhausted none))) := by
          have := run_endLoop (P := P) h2.at (by rw [hrec]; simp)
          rw [hrec] at this ⊢
          exact this
        have h4 := (Hpo.put (l := l) h2 (.loop (rec .exhausted none))).drop
        exact ⟨none, _, h3, hdone D _ O1 _ hj h4⟩
      · have h3 : (Instr.endLoop l).run P W2 = .ok (some c) (W2.putObj l (.loop (rec .exhausted (some c)))) := by
          have := run_endLoop (P := P) h2.at (by rw [hrec]; simp)
          rw [hrec] at this ⊢
          exact this
        have h4 := (Hpo.put (l := l) h2 (.loop (rec .exhausted (some c)))).drop
        exact ⟨some c, _, h3, hstop D c pre _ O1 _ hpre hj h4⟩

/-- A step of ours in a fence that lets all functions in. -/
theorem wplIn_of {P : Program} {F : Fence} {n : Nat} {ops : Array Oper} {Q : Exit → Act → World → Prop} {a : Act} {w : World} {rest : List Oper} {o : Oper} (hF : ∀ f, F.fn f) (hd : ∀ c, o.op ≠ .defer c) (hg : o.guard = none)
    (h : Go1 P o a w (wpListIn F n P ops Q rest)) : wpListIn F n P ops Q (o :: rest) a w :=
  wpListIn_plain hg fun K hK => ⟨fun f _ => hF f, by
    rw [Oper.semAt_plain F _ _ hd]
    obtain ⟨m, v, w', hr, hn, hk⟩ := h
    rw [hr]
    rcases hn with rfl | ⟨rfl, rfl⟩ <;> exact hK _ _ hk⟩
theorem wplIn_mem {P : Program} {F : Fence} {n : Nat} {ops : Array Oper} {Q : Exit → Act → World → Prop} {a : Act} {w : World} {rest : List Oper} {o : Oper} (hk : memK o.op = true) (hg : Region.wanted o (yielded ops a.tmps) = true) (hF : ∀ f, F.fn f)
    (h : Go1 P o a w (wpListIn F n P ops Q rest)) : wpListIn F n P ops Q (o :: rest) a w :=
  wpListIn_step fun K hK => by
    rw [if_pos hg]
    refine ⟨fun f _ => hF f, ?_⟩
    rw [Oper.semAt_plain F _ _ (fun c hc => by rw [hc] at hk; cases hk)]
    obtain ⟨m, v, w', hr, hn, hk⟩ := h
    rw [hr]
    rcases hn with rfl | ⟨rfl, rfl⟩ <;> exact hK _ _ hk
end Go.Hpw
