import Derived.Test.YtlhhjoffjfpiaaaTy
import Derived.Lib.SliceRun
import Derived.WalkSpells
namespace Go.Proofs.Ytlhhjoffjfpiaaa
open Go Go.RowKit Go.Hpw
theorem clone (I : Imm) (w : World) (hI : ∀ b o, I b = some o → w.heap[b]? = some o) (A : Option Addr) (n c : Nat) (xs : List Value) (hr : Rd I (.slice A n c) 1 n xs) (h1 : ∀ u ∈ xs, u.oneCell' = true) (hA : A = none → c = 0)
    (hn : n ≤ 1000000000) :
    Calls Try.prog 21 #[.slice A n c] w fun e w' => ∃ A' c', e = .returned (.slice A' n c') ∧ Post w I w' I [.row (.slice A' n c') 4 1 n xs] := by
  have qT : ∀ (w : World) (a : Option Addr) (n c n' c' : Nat), (binOp .eql 25 (.slice a n c) (.slice none n' c')).run Try.prog w = .ok (.bool a.isNone) w := fun w a n c n' c' => Lib.run_eql_slice_nil w _ _ a n c n' c' Try.underlying25
  have hp := Hp.start hI
  cases A with
  | none =>
    have hc := hA rfl
    subst hc
    have h0 : n = 0 := by
      obtain ⟨_, _, A', c', he, _, hx⟩ := hr
      cases he
      rcases Nat.eq_zero_or_pos n with h | h
      · exact h
      · obtain ⟨ad, e, _⟩ := hx (by omega); cases e
    subst h0
    have hx : xs = [] := List.eq_nil_of_length_eq_zero (by simpa using hr.1)
    subst hx
    go_enter Try.func21, Try.ntmps21
    go_wp2
    go_ret
    exact ⟨_, _, rfl, (hp.nilR 4 1).post fun _ _ => rfl⟩
  | some ad =>
    go_enter Try.func21, Try.ntmps21
    go_wp2_with (first
      | (refine wpl_of rfl (g1_build0 rfl hp ?_); clear hp; intro b w' hp)
      | (refine wpl_of rfl (g1_append (T := 25) (m := n) (news := xs) rfl rfl rfl hp (by have := hr.1; omega) (by simp) (fun h => (hr.src hp rfl).2.2 h) h1 (by unfold maxLen; omega) (by omega) ?_); clear hp; intro A' c' w' hp; simp only [Nat.zero_add, List.nil_append] at hp ⊢))
    go_ret
    exact ⟨_, _, rfl, hp.post fun _ _ => rfl⟩
end Go.Proofs.Ytlhhjoffjfpiaaa
