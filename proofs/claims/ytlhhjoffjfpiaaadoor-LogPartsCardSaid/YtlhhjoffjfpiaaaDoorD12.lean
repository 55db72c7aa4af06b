/- What the row's list gives: the table of the actions. -/
import Derived.Test.YtlhhjoffjfpiaaaDoorOp
import Derived.Test.YtlhhjoffjfpiaaaDoorD1
import Derived.Test.YtlhhjoffjfpiaaaDoorCards
import Derived.Test.YtlhhjoffjfpiaaaDoorTie
import Derived.LaidMore
import Derived.Stop.Joined
set_option linter.unusedVariables false
set_option linter.unusedSimpArgs false
namespace Go.Proofs.YtlhhjoffjfpiaaaDoor
open Go Go.RowKit Go.Hpw Go.ChangeShapes Go.WideShapes Go.ChangeAt
abbrev laidL : List (String × DataW Unit) := [("wicketgate/effect.effects", Rows.laid_wicketgate_effect_effects)]
theorem own : ownKnob Tryd.prog.godebug = none := by kernel_rfl
theorem laidOut : laidOutB Tryd.prog = true := by kernel_rfl
theorem gTab : Tryd.prog.globalNamed "wicketgate/effect.effects" = some 0 := by kernel_rfl
theorem tTab : (Tryd.prog.globals[0]?).map (·.type) = some 82 := by kernel_rfl
theorem cellsT81 : Tryd.prog.cellsOf 81 = 1 := by kernel_rfl
theorem cellsT82 : Tryd.prog.cellsOf 82 = 8 := by kernel_rfl
theorem list8 {α : Type} {l : List α} (h : l.length = 8) : ∃ a b c d e f g i, l = [a, b, c, d, e, f, g, i] := by
  match l, h with
  | [a, b, c, d, e, f, g, i], _ => exact ⟨a, b, c, d, e, f, g, i, rfl⟩
theorem door_met (os : Os) (args : Array Value) : laidMetH Tryd.prog laidL ((World.doorLaid Tryd.prog 600 os).forCall (fun _ _ => 0) ⟨#[], args, []⟩).memory :=
  laidMetH_of_parts3 (fuel := 8) (laidMet_of_run' 8 (by kernel_rfl) (by kernel_rfl)) (by kernel_rfl) (by kernel_rfl)
theorem of_laid {W : World} (h : laidMetH Tryd.prog laidL W) : CellsAt (memI W) 0 0 tabV := by
  obtain ⟨g, t, cs, fuel, p, hg, ht, hv, hd⟩ := h.funcs (List.mem_singleton.2 rfl)
  obtain rfl := Option.some.inj (gTab.symm.trans hg)
  obtain rfl := Option.some.inj (tTab.symm.trans ht)
  obtain ⟨xs, m, _, hx, hl, hn, he⟩ := DataW.trod_array Tryd.underlying82 hd
  rw [cellsT82] at hl
  obtain ⟨a0, a1, a2, a3, a4, a5, a6, a7, hcs⟩ := list8 hl
  obtain ⟨⟨d0, q0⟩, ⟨d1, q1⟩, ⟨d2, q2⟩, ⟨d3, q3⟩, ⟨d4, q4⟩, ⟨d5, q5⟩, ⟨d6, q6⟩, ⟨d7, q7⟩, rfl⟩ := list8 hn
  rw [hcs] at he
  simp only [cellsT81] at he
  simp only [Prod.mk.injEq] at hx
  obtain ⟨hx, _⟩ := hx
  have h0 := he 0 (by decide)
  have h1 := he 1 (by decide)
  have h2 := he 2 (by decide)
  have h3 := he 3 (by decide)
  have h4 := he 4 (by decide)
  have h5 := he 5 (by decide)
  have h6 := he 6 (by decide)
  have h7 := he 7 (by decide)
  clear he
  have hx2 : (.agg [.held [119, 105, 99, 107, 101, 116, 103, 97, 116, 101, 47, 101, 102, 102, 101, 99, 116, 46, 101, 102, 102, 101, 99, 116, 115, 36, 49], .held [119, 105, 99, 107, 101, 116, 103, 97, 116, 101, 47, 101, 102, 102, 101, 99, 116, 46, 101, 102, 102, 101, 99, 116, 115, 36, 50], .held [119, 105, 99, 107, 101, 116, 103, 97, 116, 101, 47, 101, 102, 102, 101, 99, 116, 46, 101, 102, 102, 101, 99, 116, 115, 36, 51], .held [119, 105, 99, 107, 101, 116, 103, 97, 116, 101, 47, 101, 102, 102, 101, 99, 116, 46, 101, 102, 102, 101, 99, 116, 115, 36, 52], .held [119, 105, 99, 107, 101, 116, 103, 97, 116, 101, 47, 101, 102, 102, 101, 99, 116, 46, 101, 102, 102, 101, 99, 116, 115, 36, 53], .held [119, 105, 99, 107, 101, 116, 103, 97, 116, 101, 47, 101, 102, 102, 101, 99, 116, 46, 101, 102, 102, 101, 99, 116, 115, 36, 54], .held [119, 105, 99, 107, 101, 116, 103, 97, 116, 101, 47, 101, 102, 102, 101, 99, 116, 46, 101, 102, 102, 101, 99, 116, 115, 36, 55], .held [119, 105, 99, 107, 101, 116, 103, 97, 116, 101, 47, 101, 102, 102, 101, 99, 116, 46, 101, 102, 102, 101, 99, 116, 115, 36, 56]] : DataW (List UInt8)) = .agg [d0, d1, d2, d3, d4, d5, d6, d7] := hx
  clear hx
  simp only [DataW.agg.injEq, List.cons.injEq, and_true] at hx2
  obtain ⟨rfl, rfl, rfl, rfl, rfl, rfl, rfl, rfl⟩ := hx2
  obtain rfl := func_of_trod (f0 := 56) (b := 119) (r := [105, 99, 107, 101, 116, 103, 97, 116, 101, 47, 101, 102, 102, 101, 99, 116, 46, 101, 102, 102, 101, 99, 116, 115, 36, 49]) (q := q0) Tryd.underlying81 (by kernel_rfl) h0
  obtain rfl := func_of_trod (f0 := 57) (b := 119) (r := [105, 99, 107, 101, 116, 103, 97, 116, 101, 47, 101, 102, 102, 101, 99, 116, 46, 101, 102, 102, 101, 99, 116, 115, 36, 50]) (q := q1) Tryd.underlying81 (by kernel_rfl) h1
  obtain rfl := func_of_trod (f0 := 58) (b := 119) (r := [105, 99, 107, 101, 116, 103, 97, 116, 101, 47, 101, 102, 102, 101, 99, 116, 46, 101, 102, 102, 101, 99, 116, 115, 36, 51]) (q := q2) Tryd.underlying81 (by kernel_rfl) h2
  obtain rfl := func_of_trod (f0 := 59) (b := 119) (r := [105, 99, 107, 101, 116, 103, 97, 116, 101, 47, 101, 102, 102, 101, 99, 116, 46, 101, 102, 102, 101, 99, 116, 115, 36, 52]) (q := q3) Tryd.underlying81 (by kernel_rfl) h3
  obtain rfl := func_of_trod (f0 := 60) (b := 119) (r := [105, 99, 107, 101, 116, 103, 97, 116, 101, 47, 101, 102, 102, 101, 99, 116, 46, 101, 102, 102, 101, 99, 116, 115, 36, 53]) (q := q4) Tryd.underlying81 (by kernel_rfl) h4
  obtain rfl := func_of_trod (f0 := 62) (b := 119) (r := [105, 99, 107, 101, 116, 103, 97, 116, 101, 47, 101, 102, 102, 101, 99, 116, 46, 101, 102, 102, 101, 99, 116, 115, 36, 54]) (q := q5) Tryd.underlying81 (by kernel_rfl) h5
  obtain rfl := func_of_trod (f0 := 63) (b := 119) (r := [105, 99, 107, 101, 116, 103, 97, 116, 101, 47, 101, 102, 102, 101, 99, 116, 46, 101, 102, 102, 101, 99, 116, 115, 36, 55]) (q := q6) Tryd.underlying81 (by kernel_rfl) h6
  obtain rfl := func_of_trod (f0 := 64) (b := 119) (r := [105, 99, 107, 101, 116, 103, 97, 116, 101, 47, 101, 102, 102, 101, 99, 116, 46, 101, 102, 102, 101, 99, 116, 115, 36, 56]) (q := q7) Tryd.underlying81 (by kernel_rfl) h7
  refine (cellsAt_of (W := W) (a := ⟨0, 0, none⟩) (vs := tabV) (by decide) fun i u hu => ?_).2
  rw [add_lit' _ rfl]
  have := World.var?_cell gTab hv i
  rw [show (⟨0, 0 + i, none⟩ : Addr) = ⟨0, i, none⟩ from by rw [Nat.zero_add], this, ← hu]
  change cs[i]? = [_, _, _, _, _, _, _, _][i]?
  rw [← hcs]
  simp
end Go.Proofs.YtlhhjoffjfpiaaaDoor
