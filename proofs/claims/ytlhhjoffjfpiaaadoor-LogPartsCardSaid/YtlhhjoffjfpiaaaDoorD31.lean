/- The card of the law LogParts: the threads' lines are all of a ring, and what is read from a place on is all behind it, for every input; the package-level table of the actions starts as the program's text lays it (the card ties it). -/
import Derived.Test.YtlhhjoffjfpiaaaDoorD30
import Derived.Test.YtlhhjoffjfpiaaaDoorD12
set_option linter.unusedVariables false
set_option linter.unusedSimpArgs false
namespace Go.Proofs.YtlhhjoffjfpiaaaDoor
open Go Go.RowKit Go.Hpw Go.ChangeShapes Go.WideShapes Go.ChangeAt
theorem open_arg26 {H : Type} {enc : TypeId × Value → H} {W : World} {b : Nat} {v : Value} {d : DataW H} {p : List MemPlace} (hv : Value.okWide Tryd.prog W .any b 26 v) (h : DataW.Trod enc Tryd.prog W 0 (fun _ => true) true 26 v d p) :
    ∃ (room next : Int) (A : Option Addr) (n c : Nat) (l : List Ln), v = ringV room next A n c ∧ RdL (memI W) A n c l ∧ 0 ≤ next ∧ next ≤ 18446744073709551615 := by
  obtain ⟨cs, rfl, _⟩ := okWide_struct Tryd.underlying26 hv
  obtain ⟨n, hn⟩ := h
  obtain ⟨room, next, A, n', c, l, e, _, w1, hr, _, _, _⟩ := open_t26 hn
  have hw := wf_u64 w1
  refine ⟨room, next, A, n', c, l, ?_, hr, hw.1, hw.2⟩
  obtain ⟨cs⟩ := cs
  simp only [Value.cells] at e
  rw [e]
set_option maxRecDepth 100000 in
theorem logParts_lifted (os : Os) (started : os.Started) (H : Type) (enc : TypeId × Value → H) :
    ReturnsInHanded {} Tryd.checked os 6 .any (fun w args => (Rows.logPartsSpec.pre enc Tryd.prog Tryd.f6 [] false w args ∧ laidMetH Tryd.prog laidL w) ∧ sizedMet enc Tryd.prog Tryd.f6 (OpenSpec.ofChange Rows.logPartsSpec) false w args) (Rows.logPartsSpec.post enc Tryd.prog Tryd.f6 false true false false) := by
  refine returnsInHanded_of_change_and (C := Tryd.checked) (X := fun w _ => laidMetH Tryd.prog laidL w) (fun _ _ _ hh h => h.of_heap hh) own started (by kernel_rfl) Tryd.func6
    (ChangeSpec.witness_shaped (enc := enc) (C := Tryd.checked) (os := os) (X := fun w _ => laidMetH Tryd.prog laidL w) false (World.doorLaid Tryd.prog 600 os) #[ringV 0 0 none 0 0, .int .u64 0] 8 rfl (World.shaped_of_RefB (by kernel_rfl) (by kernel_rfl)) (by kernel_rfl) (by kernel_rfl) (by kernel_rfl) (door_met os _)) ?_
  intro W base args ds gs before hval0 hW _ _ hL _
  have hval : ∀ (j : Nat) t v, Tryd.f6.params[j]? = some t → args[j]? = some v → Value.okWide Tryd.prog W .any base t v := hval0
  have hW' := hW
  obtain ⟨p, q, hA0, hV, rfl, hfz, hnd⟩ := hW
  have hA : DataW.TrodAll enc Tryd.prog W 0 (fun _ => true) true Tryd.f6.params.toList args.toList ds p := hA0
  rw [Tryd.params6] at hA hval
  obtain ⟨v0, v1, d0, d1, p0, p1, rfl, rfl, rfl, h0, h1⟩ := trodAll_two hA
  obtain ⟨rfl, rfl⟩ := trodVars_none hV
  obtain ⟨room, next, A, n, c, l, rfl, hr, hx1, hx2⟩ := open_arg26 (hval 0 26 v0 rfl rfl) h0
  obtain ⟨frm, rfl, rfl, rfl, w1⟩ := open_int Tryd.underlying24 (hval 1 24 v1 rfl rfl) h1
  have hw := wf_u64 w1
  refine (parts W (memI W) (memI_im W) (of_laid hL) room next frm A n c l hr ⟨hx1, hx2⟩ ⟨hw.1, hw.2⟩).mono fun e W' hpost => ?_
  obtain ⟨rfl, hb⟩ := hpost
  exact ⟨_, rfl, post_true laidOut (by kernel_rfl) hW' rfl (tb := 4) (by kernel_rfl) Tryd.underlying4 ⟨rfl, rfl, rfl⟩ hb⟩
theorem logParts_row : Rows.LogPartsSaid :=
  OpenClaim.holds_of_wide 6 Tryd.f6 rfl rfl rfl rfl rfl rfl rfl ⟨rfl, rfl, rfl, rfl, rfl⟩ rfl rfl rfl rfl rfl (by kernel_rfl) Tryd.func6 (by kernel_rfl)
    (of_decide_eq_true (by kernel_rfl)) (by unfold Func.isWrapper; first | (rw [if_pos (by decide +kernel)]; kernel_rfl) | (rw [if_neg (by decide +kernel)]; exact ⟨rfl, rfl⟩))
    (fun os started H enc _ => logParts_lifted os started H enc)
theorem logParts_holds : Rows.LogPartsCardSaid :=
  Claim7.holds_tied_plain_at .later [] _ _ _ _ logParts_row (fun _ h => by cases h) (by kernel_rfl) (fun _ h => by cases h) logParts_row_tie rfl ⟨rfl, rfl⟩ (by kernel_rfl) rfl
    (fun f fn hf hfn => by
      obtain rfl : f = 6 := Option.some.inj ((show Tryd.prog.funcNamed "wicketgate/wicketgatelaw27.LogParts" = some 6 by kernel_rfl).symm.trans hf) |>.symm
      obtain rfl : fn = Tryd.f6 := (Option.some.inj (Tryd.func6.symm.trans hfn)).symm
      exact ⟨by kernel_rfl, fun j t ht => by
        rw [Tryd.params6] at ht
        have hm : t ∈ [26, 24] := by simpa using Array.mem_of_getElem? ht
        have hall : ([26, 24].all fun u => !Tryd.prog.wantsStandIn u) = true := by kernel_rfl
        exact (show Tryd.prog.wantsStandIn t = false by simpa using List.all_eq_true.1 hall t hm)⟩)
    (by kernel_rfl)
end Go.Proofs.YtlhhjoffjfpiaaaDoor
