/- The row of the law SignalWaits. -/
import Derived.Test.YtlhhjoffjfpiaaaS10
import Derived.Test.YtlhhjoffjfpiaaaS9
import Derived.Test.YtlhhjoffjfpiaaaHr
import Derived.Test.YtlhhjoffjfpiaaaRows
set_option linter.unusedVariables false
set_option linter.unusedSimpArgs false
namespace Go.Proofs.Ytlhhjoffjfpiaaa
open Go Go.RowKit Go.Hpw Go.ChangeShapes Go.WideShapes Go.ChangeAt
theorem ok_mk {act : Int} {op bl : Bool} {ci ce nr ar : Int} {n : Nat} (h : okS act op bl false ci ce nr ar n = true) : 0 ≤ act ∧ act ≤ 2 ∧ n ≤ 4 ∧ (op = true → act = 2) := by
  cases op <;> simp [okS] at h ⊢ <;> omega
/-- The whole law. -/
theorem law (w : World) (I : Imm) (hI : ∀ b o, I b = some o → w.heap[b]? = some o) (act : Int) (op bl pe : Bool) (ci ce nr ar : Int) (A : Option Addr) (n c : Nat) (l : List Bool) (hr : RdB I A n c l) (hnc : n ≤ c) (hn : n ≤ 9223372036854775807) (c1 e1 r1 a1 c2 e2 r2 a2 : Int) :
    Calls Try.prog 3 #[sigV act op bl pe ci ce nr ar A n c, infV c1 e1 r1 a1, infV c2 e2 r2 a2] w (LawPost w) := by
  have hl : l.length = n := by have := hr.1.1; simpa using this
  have hm : min n 6 = (l.take (min n 6)).length := by simp [hl]
  cases hok : okS act op bl pe ci ce nr ar (min n 6) with
  | false => exact law_no w I hI act op bl pe ci ce nr ar A n c l hr hnc hn c1 e1 r1 a1 c2 e2 r2 a2 (min n 6) _ (Lib.hid rfl) (Lib.hid hm) (Lib.hid hok)
  | true =>
    by_cases hpa : pe = true ∨ act = 1
    · exact law_out w I hI act op bl pe ci ce nr ar A n c l hr hnc hn c1 e1 r1 a1 c2 e2 r2 a2 (min n 6) _ (Lib.hid rfl) (Lib.hid hm) (Lib.hid hok) hpa
    · simp only [not_or, Bool.not_eq_true] at hpa
      obtain ⟨rfl, hact⟩ := hpa
      obtain ⟨rfl, rfl, rfl, rfl⟩ := ok_to hok
      obtain ⟨h1, h2, h3, h4⟩ := ok_mk hok
      have hA : (act == 1) = false := by simpa using hact
      rcases (show act = 0 ∨ act = 2 by omega) with rfl | rfl
      · have hop : op = false := by cases op with
          | false => rfl
          | true => exact absurd (h4 rfl) (by decide)
        subst hop
        refine law_dies w I hI A n c l hr hnc hn c1 e1 r1 a1 c2 e2 r2 a2 (min n 6) _ (Lib.hid rfl) (Lib.hid hm) (Lib.hid (by omega)) 0 false bl (Lib.hid hA) (Lib.hid (.inl rfl)) (Lib.hid hok) (Lib.hid ?_) (Lib.hid ?_) (Lib.hid ?_) <;> (simp [okS]; omega)
      · by_cases h5 : min n 6 = 4
        · refine law_dies w I hI A n c l hr hnc hn c1 e1 r1 a1 c2 e2 r2 a2 (min n 6) _ (Lib.hid rfl) (Lib.hid hm) (Lib.hid (by omega)) 2 op bl (Lib.hid hA) (Lib.hid (.inr ⟨rfl, h5⟩)) (Lib.hid hok) (Lib.hid ?_) (Lib.hid ?_) (Lib.hid ?_) <;> (simp [okS]; omega)
        · refine law_runs w I hI A n c l hr hnc hn c1 e1 r1 a1 c2 e2 r2 a2 (min n 6) _ (Lib.hid rfl) (Lib.hid hm) (Lib.hid (by omega)) (Lib.hid ?_) (Lib.hid (by omega)) op bl (Lib.hid hA) (Lib.hid (by omega)) (Lib.hid hok) (Lib.hid ?_) (Lib.hid ?_) (Lib.hid ?_)
          · rw [List.length_append, ← hm]; rfl
          all_goals (simp [okS]; omega)

/-! ## The row -/
theorem own : ownKnob Try.prog.godebug = none := by kernel_rfl
theorem laidOut : laidOutB Try.prog = true := by kernel_rfl
theorem cells27 : Try.prog.cellsOf 27 = 9 := by kernel_rfl
theorem cells24 : Try.prog.cellsOf 24 = 4 := by kernel_rfl
theorem cells25 : Try.prog.cellsOf 25 = 1 := by kernel_rfl
theorem cells22 : Try.prog.cellsOf 22 = 1 := by kernel_rfl
theorem cells3 : Try.prog.cellsOf 3 = 1 := by kernel_rfl
theorem cells4 : Try.prog.cellsOf 4 = 1 := by kernel_rfl
theorem types27 : Try.prog.cellTypes Try.prog.depth 27 = some [3, 4, 4, 4, 3, 3, 22, 22, 25] := by kernel_rfl
theorem list9 {α : Type} {l : List α} (h : l.length = 9) : ∃ a b c d e f g i j, l = [a, b, c, d, e, f, g, i, j] := by
  match l, h with
  | [a, b, c, d, e, f, g, i, j], _ => exact ⟨a, b, c, d, e, f, g, i, j, rfl⟩
theorem list4 {α : Type} {l : List α} (h : l.length = 4) : ∃ a b c d, l = [a, b, c, d] := by
  match l, h with
  | [a, b, c, d], _ => exact ⟨a, b, c, d, rfl⟩
section
variable {H : Type} {enc : TypeId × Value → H} {W : World}
theorem open_info_cells {n : Nat} {y : DataW H × List MemPlace} {cs : List Value} (h : DataW.trod enc Try.prog W 0 (fun _ => true) true n 24 cs = some y) : ∃ a b c d : Int, cs = [.int .i64 a, .int .i64 b, .int .u32 c, .int .u32 d] := by
  obtain ⟨hl, hf⟩ := open_fields Try.underlying24 h
  obtain ⟨a, b, c, d, rfl⟩ := list4 (hl.trans cells24)
  obtain ⟨k0, z0, h0⟩ := hf 0 _ rfl
  change DataW.trod enc Try.prog W 0 (fun _ => true) true k0 3 ((List.drop 0 [a, b, c, d]).take (Try.prog.cellsOf 3)) = some z0 at h0
  obtain ⟨k1, z1, h1⟩ := hf 1 _ rfl
  change DataW.trod enc Try.prog W 0 (fun _ => true) true k1 3 ((List.drop 1 [a, b, c, d]).take (Try.prog.cellsOf 3)) = some z1 at h1
  obtain ⟨k2, z2, h2⟩ := hf 2 _ rfl
  change DataW.trod enc Try.prog W 0 (fun _ => true) true k2 22 ((List.drop 2 [a, b, c, d]).take (Try.prog.cellsOf 22)) = some z2 at h2
  obtain ⟨k3, z3, h3⟩ := hf 3 _ rfl
  change DataW.trod enc Try.prog W 0 (fun _ => true) true k3 22 ((List.drop 3 [a, b, c, d]).take (Try.prog.cellsOf 22)) = some z3 at h3
  simp only [cells3, cells22, List.drop_zero, List.drop_succ_cons, List.take_succ_cons, List.take_zero] at h0 h1 h2 h3
  obtain ⟨x0, e0, _⟩ := DataW.trod_int Try.underlying3 h0
  obtain ⟨x1, e1, _⟩ := DataW.trod_int Try.underlying3 h1
  obtain ⟨x2, e2, _⟩ := DataW.trod_int Try.underlying22 h2
  obtain ⟨x3, e3, _⟩ := DataW.trod_int Try.underlying22 h3
  simp only [List.cons.injEq, and_true] at e0 e1 e2 e3
  exact ⟨x0, x1, x2, x3, by rw [e0, e1, e2, e3]⟩
theorem open_info {b : Nat} {v : Value} {d : DataW H} {p : List MemPlace} (hv : Value.okWide Try.prog W .any b 24 v) (h : DataW.Trod enc Try.prog W 0 (fun _ => true) true 24 v d p) : ∃ a b c d : Int, v = infV a b c d := by
  obtain ⟨cs, rfl, _⟩ := okWide_struct Try.underlying24 hv
  obtain ⟨n, hn⟩ := h
  obtain ⟨a, b, c, d, e⟩ := open_info_cells hn
  exact ⟨a, b, c, d, by obtain ⟨cs⟩ := cs; simp only [Value.cells] at e; simp_all⟩
theorem open_sig {b : Nat} {v : Value} {d : DataW H} {p : List MemPlace} (hv : Value.okWide Try.prog W .any b 27 v) (h : DataW.Trod enc Try.prog W 0 (fun _ => true) true 27 v d p) :
    ∃ (act : Int) (op bl pe : Bool) (ci ce nr ar : Int) (A : Option Addr) (n c : Nat) (l : List Bool), v = sigV act op bl pe ci ce nr ar A n c ∧ RdB (memI W) A n c l ∧ n ≤ c ∧ n ≤ 9223372036854775807 := by
  obtain ⟨cs, rfl, hl, hrow, hf⟩ := open_struct Try.underlying27 hv h
  obtain ⟨a, b, c, d, e, f, g, i, j, rfl⟩ := list9 (hl.trans cells27)
  obtain ⟨k0, z0, h0⟩ := hf 0 _ rfl
  change DataW.trod enc Try.prog W 0 (fun _ => true) true k0 3 ((List.drop 0 [a, b, c, d, e, f, g, i, j]).take (Try.prog.cellsOf 3)) = some z0 at h0
  obtain ⟨k1, z1, h1⟩ := hf 1 _ rfl
  change DataW.trod enc Try.prog W 0 (fun _ => true) true k1 4 ((List.drop 1 [a, b, c, d, e, f, g, i, j]).take (Try.prog.cellsOf 4)) = some z1 at h1
  obtain ⟨k2, z2, h2⟩ := hf 2 _ rfl
  change DataW.trod enc Try.prog W 0 (fun _ => true) true k2 4 ((List.drop 2 [a, b, c, d, e, f, g, i, j]).take (Try.prog.cellsOf 4)) = some z2 at h2
  obtain ⟨k3, z3, h3⟩ := hf 3 _ rfl
  change DataW.trod enc Try.prog W 0 (fun _ => true) true k3 4 ((List.drop 3 [a, b, c, d, e, f, g, i, j]).take (Try.prog.cellsOf 4)) = some z3 at h3
  obtain ⟨k4, z4, h4⟩ := hf 4 _ rfl
  change DataW.trod enc Try.prog W 0 (fun _ => true) true k4 24 ((List.drop 4 [a, b, c, d, e, f, g, i, j]).take (Try.prog.cellsOf 24)) = some z4 at h4
  obtain ⟨k5, z5, h5⟩ := hf 5 _ rfl
  change DataW.trod enc Try.prog W 0 (fun _ => true) true k5 25 ((List.drop 8 [a, b, c, d, e, f, g, i, j]).take (Try.prog.cellsOf 25)) = some z5 at h5
  simp only [cells3, cells4, cells24, cells25, List.drop_zero, List.drop_succ_cons, List.take_succ_cons, List.take_zero] at h0 h1 h2 h3 h4 h5
  obtain ⟨x0, e0, _⟩ := DataW.trod_int Try.underlying3 h0
  obtain ⟨x1, e1, _⟩ := DataW.trod_bool Try.underlying4 h1
  obtain ⟨x2, e2, _⟩ := DataW.trod_bool Try.underlying4 h2
  obtain ⟨x3, e3, _⟩ := DataW.trod_bool Try.underlying4 h3
  obtain ⟨y0, y1, y2, y3, e4⟩ := open_info_cells h4
  simp only [List.cons.injEq, and_true] at e0 e1 e2 e3 e4
  obtain ⟨rfl, rfl, rfl, rfl⟩ := e4
  subst e0 e1 e2 e3
  rcases Go.Deep.open_bools Try.underlying25 Try.underlying4 cells4 h5 with ⟨e5, _⟩ | ⟨ad, len, cap, B, e5, _, hlc, hcm, _, hB⟩
  · simp only [List.cons.injEq, and_true] at e5
    subst e5
    exact ⟨x0, x1, x2, x3, y0, y1, y2, y3, none, 0, 0, [], rfl, RdB.nil _, Nat.le_refl _, Nat.zero_le _⟩
  · simp only [List.cons.injEq, and_true] at e5
    subst e5
    have hspot : ad.spot = none := by
      obtain ⟨ts, hts, _, hc⟩ := hrow
      rw [types27] at hts
      cases hts
      obtain ⟨u, hu, hk⟩ := hc 8 (.slice (some ad) len cap) rfl
      obtain rfl : 25 = u := by simpa using hu
      have hk' : Cell.ok Try.prog W .any b 25 (.slice (some ad) len cap) := by simpa only [Cell.okWide, Try.underlying25] using hk
      simp only [Cell.ok, Try.underlying25, World.has] at hk'
      exact hk'.2.2.2.1
    refine ⟨x0, x1, x2, x3, y0, y1, y2, y3, some ad, len, cap, (List.range len).map B, rfl, ⟨⟨by simp, by omega, _, _, rfl, ?_, fun h0 => ⟨ad, rfl, ?_⟩⟩, fun h => by cases h⟩, hlc, by unfold maxLen at hcm; omega⟩
    · rintro _ ⟨rfl⟩; exact hspot
    · refine (cellsAt_of (by simpa using h0) fun i u hu => ?_).2
      simp only [List.map_map, List.getElem?_map, List.getElem?_range, Function.comp] at hu
      by_cases hi : i < len
      · simp [List.getElem?_range hi] at hu
        rw [hB i (by omega), ← hu]
      · simp [List.getElem?_eq_none, Nat.le_of_not_lt hi] at hu
end
set_option maxRecDepth 100000 in
theorem signalWaits_lifted (os : Os) (started : os.Started) (H : Type) (enc : TypeId × Value → H) :
    ReturnsInHanded {} Try.checked os 3 .any (Rows.signalWaitsSpec.pre6 enc Try.prog Try.f3 Rows.signalWaitsRow.domain false) (Rows.signalWaitsSpec.post enc Try.prog Try.f3 false true false false) := by
  refine returnsInHanded_of_change (C := Try.checked) own started (by kernel_rfl) Try.func3
    (ChangeSpec.witness6 (enc := enc) (C := Try.checked) false ⟨#[], #[sigV 0 false false false 0 0 0 0 none 0 0, infV 0 0 0 0, infV 0 0 0 0], []⟩ 16 (by kernel_rfl) (by kernel_rfl) (by kernel_rfl) (by kernel_rfl)) ?_
  intro W base args ds gs before hval0 hW hcnd _
  have hval : ∀ (j : Nat) t v, Try.f3.params[j]? = some t → args[j]? = some v → Value.okWide Try.prog W .any base t v := hval0
  have hW' := hW
  obtain ⟨p, q, hA0, hV, rfl, hfz, hnd⟩ := hW
  have hA : DataW.TrodAll enc Try.prog W 0 (fun _ => true) true Try.f3.params.toList args.toList ds p := hA0
  rw [Try.params3] at hA hval
  obtain ⟨v0, v1, v2, d0, d1, d2, p0, p1, p2, rfl, rfl, rfl, h0, h1, h2⟩ := trodAll_three hA
  obtain ⟨rfl, rfl⟩ := trodVars_none hV
  obtain ⟨act, op, bl, pe, ci, ce, nr, ar, A, n, c, l, rfl, hr, hnc, hn⟩ := open_sig (hval 0 27 v0 rfl rfl) h0
  obtain ⟨c1, e1, r1, a1, rfl⟩ := open_info (hval 1 24 v1 rfl rfl) h1
  obtain ⟨c2, e2, r2, a2, rfl⟩ := open_info (hval 2 24 v2 rfl rfl) h2
  refine (law W (memI W) (memI_im W) act op bl pe ci ce nr ar A n c l hr hnc hn c1 e1 r1 a1 c2 e2 r2 a2).mono fun e W' hpost => ?_
  obtain ⟨rfl, hb⟩ := hpost
  exact ⟨_, rfl, post_true laidOut (by kernel_rfl) hW' rfl (tb := 4) (by kernel_rfl) Try.underlying4 ⟨rfl, rfl, rfl⟩ hb⟩
theorem signalWaits_holds : Rows.SignalWaitsSaid :=
  OpenClaim.holds_of_wide 3 Try.f3 rfl rfl rfl rfl rfl rfl rfl ⟨rfl, rfl, rfl, rfl, rfl⟩ rfl rfl rfl rfl rfl (by kernel_rfl) Try.func3 (by kernel_rfl)
    (of_decide_eq_true (by kernel_rfl)) (by unfold Func.isWrapper; first | (rw [if_pos (by decide +kernel)]; kernel_rfl) | (rw [if_neg (by decide +kernel)]; exact ⟨rfl, rfl⟩))
    (fun os started H enc _ => signalWaits_lifted os started H enc)
end Go.Proofs.Ytlhhjoffjfpiaaa
