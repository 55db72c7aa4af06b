/- How this seat's arguments read. Printed by a program of this session's. -/
import Derived.Test.YtlhhjoffjfpiaaaDoorHr
import Derived.Test.YtlhhjoffjfpiaaaDoorProg
import Derived.Test.YtlhhjoffjfpiaaaDoorD3
set_option linter.unusedVariables false
set_option linter.unusedSimpArgs false
namespace Go.Proofs.YtlhhjoffjfpiaaaDoor
open Go Go.RowKit Go.Hpw Go.ChangeShapes Go.WideShapes Go.ChangeAt
def wfLn (x : Ln) : Prop := (Lit.int .u64 x.num).wf = true
theorem cellsT24 : Tryd.prog.cellsOf 24 = 1 := by kernel_rfl
theorem cellsT3 : Tryd.prog.cellsOf 3 = 1 := by kernel_rfl
theorem cellsT30 : Tryd.prog.cellsOf 30 = 1 := by kernel_rfl
theorem cellsT31 : Tryd.prog.cellsOf 31 = 1 := by kernel_rfl
theorem cellsT33 : Tryd.prog.cellsOf 33 = 2 := by kernel_rfl
theorem listT2 {α : Type} {l : List α} (h : l.length = 2) : ∃ a0 a1, l = [a0, a1] := by
  match l, h with
  | [a0, a1], _ => exact ⟨a0, a1, rfl⟩
theorem open_t33 {H : Type} {enc : TypeId × Value → H} {W : World} {n : Nat} {y : DataW H × List MemPlace} {cs : List Value} (h : DataW.trod enc Tryd.prog W 0 (fun _ => true) true n 33 cs = some y) : ∃ (x0 : Int) (x1 : Int), cs = [.int .i64 x0, .int .u16 x1] ∧ (Lit.int .i64 x0).wf = true ∧ (Lit.int .u16 x1).wf = true ∧ True := by
  obtain ⟨hl, hf⟩ := open_fields Tryd.underlying33 h
  rw [cellsT33] at hl
  obtain ⟨v0, v1, rfl⟩ := listT2 hl
  obtain ⟨k0, z0, h0⟩ := hf 0 _ rfl
  change DataW.trod enc Tryd.prog W 0 (fun _ => true) true k0 3 ((List.drop 0 [v0, v1]).take (Tryd.prog.cellsOf 3)) = some z0 at h0
  obtain ⟨k1, z1, h1⟩ := hf 1 _ rfl
  change DataW.trod enc Tryd.prog W 0 (fun _ => true) true k1 31 ((List.drop 1 [v0, v1]).take (Tryd.prog.cellsOf 31)) = some z1 at h1
  simp only [cellsT3, cellsT31, List.drop_zero, List.drop_succ_cons, List.take_succ_cons, List.take_zero] at h0 h1
  obtain ⟨x0, e0, _, w0_0⟩ := DataW.trod_int Tryd.underlying3 h0
  obtain ⟨x1, e1, _, w1_0⟩ := DataW.trod_int Tryd.underlying31 h1
  simp only [List.cons.injEq, and_true] at e0 e1
  exact ⟨x0, x1, by simp only [e0, e1], w0_0, w1_0, trivial⟩
theorem cellsT35 : Tryd.prog.cellsOf 35 = 6 := by kernel_rfl
theorem listT6 {α : Type} {l : List α} (h : l.length = 6) : ∃ a0 a1 a2 a3 a4 a5, l = [a0, a1, a2, a3, a4, a5] := by
  match l, h with
  | [a0, a1, a2, a3, a4, a5], _ => exact ⟨a0, a1, a2, a3, a4, a5, rfl⟩
theorem open_t35 {H : Type} {enc : TypeId × Value → H} {W : World} {n : Nat} {y : DataW H × List MemPlace} {cs : List Value} (h : DataW.trod enc Tryd.prog W 0 (fun _ => true) true n 35 cs = some y) : ∃ (x0 : Int) (x1 : Int) (x2 : Int) (x3 : Int) (x4 : Int) (x5 : Int), cs = [.int .u64 x0, .int .i64 x1, .int .u32 x2, .int .u32 x3, .int .i64 x4, .int .u16 x5] ∧ (Lit.int .u64 x0).wf = true ∧ (Lit.int .i64 x1).wf = true ∧ (Lit.int .u32 x2).wf = true ∧ (Lit.int .u32 x3).wf = true ∧ (Lit.int .i64 x4).wf = true ∧ (Lit.int .u16 x5).wf = true ∧ True := by
  obtain ⟨hl, hf⟩ := open_fields Tryd.underlying35 h
  rw [cellsT35] at hl
  obtain ⟨v0, v1, v2, v3, v4, v5, rfl⟩ := listT6 hl
  obtain ⟨k0, z0, h0⟩ := hf 0 _ rfl
  change DataW.trod enc Tryd.prog W 0 (fun _ => true) true k0 24 ((List.drop 0 [v0, v1, v2, v3, v4, v5]).take (Tryd.prog.cellsOf 24)) = some z0 at h0
  obtain ⟨k1, z1, h1⟩ := hf 1 _ rfl
  change DataW.trod enc Tryd.prog W 0 (fun _ => true) true k1 3 ((List.drop 1 [v0, v1, v2, v3, v4, v5]).take (Tryd.prog.cellsOf 3)) = some z1 at h1
  obtain ⟨k2, z2, h2⟩ := hf 2 _ rfl
  change DataW.trod enc Tryd.prog W 0 (fun _ => true) true k2 30 ((List.drop 2 [v0, v1, v2, v3, v4, v5]).take (Tryd.prog.cellsOf 30)) = some z2 at h2
  obtain ⟨k3, z3, h3⟩ := hf 3 _ rfl
  change DataW.trod enc Tryd.prog W 0 (fun _ => true) true k3 30 ((List.drop 3 [v0, v1, v2, v3, v4, v5]).take (Tryd.prog.cellsOf 30)) = some z3 at h3
  obtain ⟨k4, z4, h4⟩ := hf 4 _ rfl
  change DataW.trod enc Tryd.prog W 0 (fun _ => true) true k4 33 ((List.drop 4 [v0, v1, v2, v3, v4, v5]).take (Tryd.prog.cellsOf 33)) = some z4 at h4
  simp only [cellsT3, cellsT24, cellsT30, cellsT33, List.drop_zero, List.drop_succ_cons, List.take_succ_cons, List.take_zero] at h0 h1 h2 h3 h4
  obtain ⟨x0, e0, _, w0_0⟩ := DataW.trod_int Tryd.underlying24 h0
  obtain ⟨x1, e1, _, w1_0⟩ := DataW.trod_int Tryd.underlying3 h1
  obtain ⟨x2, e2, _, w2_0⟩ := DataW.trod_int Tryd.underlying30 h2
  obtain ⟨x3, e3, _, w3_0⟩ := DataW.trod_int Tryd.underlying30 h3
  obtain ⟨x4, x5, e4, w4_0, w4_1, _⟩ := open_t33 h4
  simp only [List.cons.injEq, and_true] at e0 e1 e2 e3 e4
  exact ⟨x0, x1, x2, x3, x4, x5, by simp only [e0, e1, e2, e3, e4], w0_0, w1_0, w2_0, w3_0, w4_0, w4_1, trivial⟩
theorem open_s22 {H : Type} {enc : TypeId × Value → H} {W : World} {n : Nat} {y : DataW H × List MemPlace} {cs : List Value} (h : DataW.trod enc Tryd.prog W 0 (fun _ => true) true n 22 cs = some y) : ∃ (A : Option Addr) (n c : Nat) (l : List Ln), cs = [.slice A n c] ∧ Rd (memI W) (.slice A n c) 6 n (l.flatMap Ln.cells) ∧ l.length = n ∧ ∀ x ∈ l, wfLn x := by
  refine open_slice_of Ln.cells (wfLn) Tryd.underlying22 cellsT35 (by decide) (fun _ => rfl) (fun n cs y h => ?_) h
  obtain ⟨a, b, c, d, e, f, rfl, w0, _⟩ := open_t35 h; exact ⟨⟨a, b, c, d, e, f⟩, rfl, w0⟩
theorem cellsT22 : Tryd.prog.cellsOf 22 = 1 := by kernel_rfl
theorem cellsT26 : Tryd.prog.cellsOf 26 = 3 := by kernel_rfl
theorem listT3 {α : Type} {l : List α} (h : l.length = 3) : ∃ a0 a1 a2, l = [a0, a1, a2] := by
  match l, h with
  | [a0, a1, a2], _ => exact ⟨a0, a1, a2, rfl⟩
theorem open_t26 {H : Type} {enc : TypeId × Value → H} {W : World} {n : Nat} {y : DataW H × List MemPlace} {cs : List Value} (h : DataW.trod enc Tryd.prog W 0 (fun _ => true) true n 26 cs = some y) : ∃ (x0 : Int) (x1 : Int) (A2 : Option Addr) (n2 : Nat) (c2 : Nat) (l2 : List Ln), cs = [.int .i64 x0, .int .u64 x1, .slice A2 n2 c2] ∧ (Lit.int .i64 x0).wf = true ∧ (Lit.int .u64 x1).wf = true ∧ Rd (memI W) (.slice A2 n2 c2) 6 n2 (l2.flatMap Ln.cells) ∧ l2.length = n2 ∧ (∀ x ∈ l2, wfLn x) ∧ True := by
  obtain ⟨hl, hf⟩ := open_fields Tryd.underlying26 h
  rw [cellsT26] at hl
  obtain ⟨v0, v1, v2, rfl⟩ := listT3 hl
  obtain ⟨k0, z0, h0⟩ := hf 0 _ rfl
  change DataW.trod enc Tryd.prog W 0 (fun _ => true) true k0 3 ((List.drop 0 [v0, v1, v2]).take (Tryd.prog.cellsOf 3)) = some z0 at h0
  obtain ⟨k1, z1, h1⟩ := hf 1 _ rfl
  change DataW.trod enc Tryd.prog W 0 (fun _ => true) true k1 24 ((List.drop 1 [v0, v1, v2]).take (Tryd.prog.cellsOf 24)) = some z1 at h1
  obtain ⟨k2, z2, h2⟩ := hf 2 _ rfl
  change DataW.trod enc Tryd.prog W 0 (fun _ => true) true k2 22 ((List.drop 2 [v0, v1, v2]).take (Tryd.prog.cellsOf 22)) = some z2 at h2
  simp only [cellsT3, cellsT22, cellsT24, List.drop_zero, List.drop_succ_cons, List.take_succ_cons, List.take_zero] at h0 h1 h2
  obtain ⟨x0, e0, _, w0_0⟩ := DataW.trod_int Tryd.underlying3 h0
  obtain ⟨x1, e1, _, w1_0⟩ := DataW.trod_int Tryd.underlying24 h1
  obtain ⟨A2, n2, c2, l2, e2, w2_0, w2_1, w2_2⟩ := open_s22 h2
  simp only [List.cons.injEq, and_true] at e0 e1 e2
  exact ⟨x0, x1, A2, n2, c2, l2, by simp only [e0, e1, e2], w0_0, w1_0, w2_0, w2_1, w2_2, trivial⟩
end Go.Proofs.YtlhhjoffjfpiaaaDoor
