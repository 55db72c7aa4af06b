/- The plain law of LogNarrow: what is written keeps rings right, and a narrow one stays the newest part of a wide one. -/
import Derived.Test.YtlhhjoffjfpiaaaDoorD5
set_option linter.unusedVariables false
set_option linter.unusedSimpArgs false
namespace Go.Proofs.YtlhhjoffjfpiaaaDoor
open Go Go.RowKit Go.Hpw
theorem lastN_len (r : Nat) (l : List Ln) : (lastN r l).length = min l.length r := by simp [lastN]; omega
theorem okFrom_drops {first : Int} {l : List Ln} (h : okFrom first l = true) (k : Nat) : okFrom (first + k) (l.drop k) = true := by
  induction k generalizing first l with
  | zero => simpa using h
  | succ k ih =>
    cases l with
    | nil => rfl
    | cons x r =>
      simp only [okFrom, Bool.and_eq_true] at h
      have := ih h.2
      rw [List.drop_succ_cons]
      rw [show first + ((k + 1 : Nat) : Int) = first + 1 + k by push_cast; omega]
      exact this
theorem okFrom_append (first : Int) (l m : List Ln) : okFrom first (l ++ m) = (okFrom first l && okFrom (first + l.length) m) := by
  induction l generalizing first with
  | nil => simp [okFrom]
  | cons x r ih =>
    simp only [List.cons_append, okFrom, ih, List.length_cons, Bool.and_assoc]
    congr 3
    push_cast
    omega
theorem checkR_iff {room next : Int} {l : List Ln} : checkR room next l = true ↔ 1 ≤ room ∧ room ≤ 32 ∧ 1 ≤ next ∧ next ≤ 4611686018427387904 ∧ (l.length : Int) = min (next - 1) room ∧ okFrom (next - l.length) l = true := by
  simp only [checkR, headR, Bool.and_eq_true, decide_eq_true_eq]
  constructor
  · rintro ⟨⟨⟨⟨⟨h1, h2⟩, h3⟩, h4⟩, h5⟩, h6⟩; exact ⟨h1, h2, h3, h4, h5, h6⟩
  · rintro ⟨h1, h2, h3, h4, h5, h6⟩; exact ⟨⟨⟨⟨⟨h1, h2⟩, h3⟩, h4⟩, h5⟩, h6⟩
theorem okFrom_last {next : Int} {l : List Ln} (h : okFrom (next - l.length) l = true) (r : Nat) : okFrom (next - (lastN r l).length) (lastN r l) = true := by
  have := okFrom_drops h (l.length - r)
  rw [lastN_len]
  unfold lastN
  rw [show next - ((min l.length r : Nat) : Int) = next - (l.length : Int) + ((l.length - r : Nat) : Int) by omega]
  exact this
theorem checkR_narrow {R N next : Int} {l : List Ln} (h : checkR R next l = true) (h1 : 1 ≤ N) (h2 : N ≤ R) : checkR N next (lastN N.toNat l) = true := by
  rw [checkR_iff] at h ⊢
  obtain ⟨a, b, c, d, e, f⟩ := h
  refine ⟨h1, by omega, c, d, ?_, okFrom_last f _⟩
  rw [lastN_len]
  omega
theorem checkR_put {R next : Int} {l : List Ln} (h : checkR R next l = true) (hx : next ≠ 4611686018427387904) (tid nr arch act data : Int) (hA : okA act = true) (ht : thr tid = true) (hL : lgA act = true) :
    checkR R (next + 1) (lastN R.toNat (l ++ [⟨next, tid, nr, arch, act, data⟩])) = true := by
  rw [checkR_iff] at h ⊢
  obtain ⟨a, b, c, d, e, f⟩ := h
  refine ⟨a, b, by omega, by omega, ?_, okFrom_last ?_ _⟩
  · rw [lastN_len]; simp only [List.length_append, List.length_cons, List.length_nil]; omega
  · rw [okFrom_append]
    simp only [List.length_append, List.length_cons, List.length_nil]
    rw [show next + 1 - ((l.length + (0 + 1) : Nat) : Int) = next - l.length by push_cast; omega, f]
    simp [okFrom, okLn, hA, ht, hL]
theorem lastN_of_le {r : Nat} {l : List Ln} (h : l.length ≤ r) : lastN r l = l := by unfold lastN; rw [show l.length - r = 0 by omega]; rfl
theorem lastN_lastN {r s : Nat} (h : r ≤ s) (l : List Ln) : lastN r (lastN s l) = lastN r l := by
  unfold lastN
  rw [List.drop_drop, List.length_drop]
  congr 1
  omega
theorem lastN_snoc {r : Nat} (h : 1 ≤ r) (l : List Ln) (y : Ln) : lastN r (l ++ [y]) = lastN (r - 1) l ++ [y] := by
  unfold lastN
  rw [List.drop_append_of_le_length (by simp; omega)]
  congr 2
  simp; omega
/-- A narrow ring is the newest part of a wide one, and stays so. -/
theorem lastN_put {N R : Nat} (h1 : 1 ≤ N) (h2 : N ≤ R) (l : List Ln) (y : Ln) : lastN N (lastN N l ++ [y]) = lastN N (lastN R (l ++ [y])) := by
  rw [lastN_lastN h2, lastN_snoc h1, lastN_snoc h1, lastN_lastN (by omega)]
end Go.Proofs.YtlhhjoffjfpiaaaDoor
