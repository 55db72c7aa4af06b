/- What the calls of package signal leave, case by case. -/
import Derived.Test.YtlhhjoffjfpiaaaTy
import Derived.Test.YtlhhjoffjfpiaaaS1
set_option linter.unusedVariables false
set_option linter.unusedSimpArgs false
namespace Go.Proofs.Ytlhhjoffjfpiaaa
open Go Go.RowKit Go.Hpw
def RdB (I : Imm) (A : Option Addr) (n c : Nat) (l : List Bool) : Prop := Rd I (.slice A n c) 1 n (l.map .bool) ∧ (A = none → c = 0)
abbrev sigV (act : Int) (opn blk pen : Bool) (ci ce nr ar : Int) (A : Option Addr) (n c : Nat) : Value :=
  .agg #[.int .i64 act, .bool opn, .bool blk, .bool pen, .int .i64 ci, .int .i64 ce, .int .u32 nr, .int .u32 ar, .slice A n c]
abbrev infV (ci ce nr ar : Int) : Value := .agg #[.int .i64 ci, .int .i64 ce, .int .u32 nr, .int .u32 ar]
abbrev hitV (d r : Bool) (ci ce nr ar : Int) : Value := .agg #[.bool d, .bool r, .int .i64 ci, .int .i64 ce, .int .u32 nr, .int .u32 ar]
/-- May a signal be? -/
def okS (act : Int) (opn blk pen : Bool) (ci ce nr ar : Int) (n : Nat) : Bool :=
  decide (0 ≤ act) && decide (act ≤ 2) && decide (n ≤ 4) && (!opn || decide (act = 2)) && (if pen then blk && !decide (act = 1) else decide (ci = 0) && decide (ce = 0) && decide (nr = 0) && decide (ar = 0))
def CheckPost (w : World) (I : Imm) (ok : Bool) (e : Ending) (w' : World) : Prop := e = .returned (.int .i64 (if ok then 0 else 360)) ∧ Post w I w' I []
set_option maxHeartbeats 4000000 in
theorem check (act ci ce nr ar : Int) (op bl pe : Bool) (A : Option Addr) (n c : Nat) (w : World) (I : Imm) (hI : ∀ b o, I b = some o → w.heap[b]? = some o) :
    Calls Try.prog 6 #[sigV act op bl pe ci ce nr ar A n c] w (CheckPost w I (okS act op bl pe ci ce nr ar n)) := by
  have hp := Hp.start hI
  cases op <;> cases bl <;> cases pe
  all_goals
    go_enter Try.func6, Try.ntmps6
    go_wp2_with (first | ((with_reducible refine wpl_mem ?_ ?_ ?_); exact rfl; exact rfl; first | (refine (g1_box_agg rfl rfl hp ?_); clear hp; intro b w' hp) | (refine (g1_alloc rfl hp ?_); clear hp; intro b w' hp) | (refine (g1_load_agg rfl rfl hp (by rfl) ?_); (try simp only [List.drop_zero, List.drop_succ_cons, List.take_succ_cons, List.take_zero])) | (refine (g1_load_one rfl rfl hp (by rfl) ?_)) | (refine (g1_load_row_one rfl rfl hp (by rfl) ?_)) | (refine (g1_store_agg rfl rfl rfl rfl rfl hp (by rfl) ?_); clear hp; intro w' hp; (try simp only [setAt, Act.eval, Array.getD_eq_getD_getElem?, List.getElem?_toArray, List.getElem?_cons_succ, List.getElem?_cons_zero, Option.getD_some] at hp)) | (refine (g1_store_one rfl rfl rfl rfl hp (by rfl) ?_); clear hp; intro w' hp; (try simp only [setAt, Act.eval, Array.getD_eq_getD_getElem?, List.getElem?_toArray, List.getElem?_cons_succ, List.getElem?_cons_zero, Option.getD_some] at hp)) | (refine (g1_build0 rfl hp ?_); clear hp; intro b w' hp) | (refine (g1_build1 rfl rfl rfl rfl hp ?_); clear hp; intro b w' hp; (try simp only [setAt, Act.eval, Array.getD_eq_getD_getElem?, List.getElem?_toArray, List.getElem?_cons_succ, List.getElem?_cons_zero, Option.getD_some] at hp)) | (refine (g1_box_one rfl rfl rfl hp ?_); clear hp; intro b w' hp; (try simp only [setAt, Act.eval, Array.getD_eq_getD_getElem?, List.getElem?_toArray, List.getElem?_cons_succ, List.getElem?_cons_zero, Option.getD_some] at hp))) | ((with_reducible refine bodyPost_id Try.f3 ?_); refine bodyPost_ret (results_one Try.results3 rfl) rfl ?_) | ((with_reducible refine bodyPost_id Try.f4 ?_); refine bodyPost_ret (results_one Try.results4 rfl) rfl ?_) | ((with_reducible refine bodyPost_id Try.f5 ?_); refine bodyPost_ret (results_one Try.results5 ⟨_, rfl, by first | exact hp.load_agg rfl | exact hp.load_one⟩) rfl ?_) | ((with_reducible refine bodyPost_id Try.f6 ?_); refine bodyPost_ret (results_one Try.results6 rfl) rfl ?_) | ((with_reducible refine bodyPost_id Try.f7 ?_); refine bodyPost_ret (results_many (vs := [_, _, _]) Try.results7 ⟨⟨_, rfl, by first | exact hp.load_agg rfl | exact hp.load_one⟩, ⟨_, rfl, by first | exact hp.load_agg rfl | exact hp.load_one⟩, rfl, trivial⟩ rfl) rfl ?_) | ((with_reducible refine bodyPost_id Try.f8 ?_); refine bodyPost_ret (results_many (vs := [_, _, _]) Try.results8 ⟨⟨_, rfl, by first | exact hp.load_agg rfl | exact hp.load_one⟩, ⟨_, rfl, by first | exact hp.load_agg rfl | exact hp.load_one⟩, rfl, trivial⟩ rfl) rfl ?_) | ((with_reducible refine bodyPost_id Try.f9 ?_); refine bodyPost_ret (results_one Try.results9 rfl) rfl ?_) | ((with_reducible refine bodyPost_id Try.f10 ?_); refine bodyPost_ret (results_many (vs := [_, _, _]) Try.results10 ⟨⟨_, rfl, by first | exact hp.load_agg rfl | exact hp.load_one⟩, ⟨_, rfl, by first | exact hp.load_agg rfl | exact hp.load_one⟩, rfl, trivial⟩ rfl) rfl ?_) | ((with_reducible refine bodyPost_id Try.f11 ?_); refine bodyPost_ret (results_many (vs := [_, _, _]) Try.results11 ⟨⟨_, rfl, by first | exact hp.load_agg rfl | exact hp.load_one⟩, ⟨_, rfl, by first | exact hp.load_agg rfl | exact hp.load_one⟩, rfl, trivial⟩ rfl) rfl ?_) | ((with_reducible refine bodyPost_id Try.f12 ?_); refine bodyPost_ret (results_many (vs := [_, _, _]) Try.results12 ⟨⟨_, rfl, by first | exact hp.load_agg rfl | exact hp.load_one⟩, ⟨_, rfl, by first | exact hp.load_agg rfl | exact hp.load_one⟩, rfl, trivial⟩ rfl) rfl ?_) | ((with_reducible refine bodyPost_id Try.f13 ?_); refine bodyPost_ret (results_many (vs := [_, _]) Try.results13 ⟨⟨_, rfl, by first | exact hp.load_agg rfl | exact hp.load_one⟩, rfl, trivial⟩ rfl) rfl ?_) | ((with_reducible refine bodyPost_id Try.f14 ?_); refine bodyPost_ret (results_one Try.results14 ⟨_, rfl, by first | exact hp.load_agg rfl | exact hp.load_one⟩) rfl ?_) | ((with_reducible refine bodyPost_id Try.f15 ?_); refine bodyPost_ret (results_many (vs := [_, _]) Try.results15 ⟨⟨_, rfl, by first | exact hp.load_agg rfl | exact hp.load_one⟩, rfl, trivial⟩ rfl) rfl ?_) | ((with_reducible refine bodyPost_id Try.f16 ?_); refine bodyPost_ret (results_one Try.results16 ⟨_, rfl, by first | exact hp.load_agg rfl | exact hp.load_one⟩) rfl ?_) | ((with_reducible refine bodyPost_id Try.f17 ?_); refine bodyPost_ret (results_one Try.results17 rfl) rfl ?_) | ((with_reducible refine bodyPost_id Try.f18 ?_); refine bodyPost_ret (results_many (vs := [_, _]) Try.results18 ⟨⟨_, rfl, by first | exact hp.load_agg rfl | exact hp.load_one⟩, rfl, trivial⟩ rfl) rfl ?_) | ((with_reducible refine bodyPost_id Try.f20 ?_); refine bodyPost_ret (results_many (vs := [_, _]) Try.results20 ⟨⟨_, rfl, by first | exact hp.load_agg rfl | exact hp.load_one⟩, rfl, trivial⟩ rfl) rfl ?_) | ((with_reducible refine bodyPost_id Try.f21 ?_); refine bodyPost_ret (results_one Try.results21 rfl) rfl ?_) | ((with_reducible refine bodyPost_idN ?_); go_end0) | go_in)
    all_goals (refine ⟨congrArg (fun x => Ending.returned (.int .i64 x)) (?_ : (_ : Int) = _), hp.done⟩)
    all_goals clear hp
    all_goals first | (simp [okS]; done) | (simp [okS]; omega) | (rename_i h; have h2 : ¬ act = 1 := (by simpa using h); simp [okS]; omega) | (rename_i h; have h2 : act = 1 := (by simpa using h); simp [okS]; omega)
theorem check_ok (act ci ce nr ar : Int) (op bl pe : Bool) (A : Option Addr) (n c : Nat) (hok : okS act op bl pe ci ce nr ar n = true) (w : World) (I : Imm) (hI : ∀ b o, I b = some o → w.heap[b]? = some o) :
    Calls Try.prog 6 #[sigV act op bl pe ci ce nr ar A n c] w (fun e w' => e = .returned (.int .i64 0) ∧ Post w I w' I []) :=
  (check act ci ce nr ar op bl pe A n c w I hI).mono fun e w' h => by
    unfold CheckPost at h
    rw [hok] at h
    exact h
def OutP (w : World) (I : Imm) (act : Int) (opn blk pen : Bool) (ci ce nr ar : Int) (l : List Bool) (hit : Value) (e : Ending) (w' : World) : Prop :=
  ∃ A n c I', e = .returned (.tuple #[sigV act opn blk pen ci ce nr ar A n c, hit, .int .i64 0]) ∧ n = l.length ∧ Post w I w' I' [] ∧ RdB I' A n c l ∧ Im.le I I'
theorem out_row {w : World} {I : Imm} {act : Int} {opn blk pen : Bool} {ci ce nr ar : Int} {l : List Bool} {hit : Value} {w' : World} {H : List Ent} {A : Option Addr} {n c : Nat} (h : Hp w I w' H) [hm : InR H (.slice A n c) 4 1 n (l.map .bool)] :
    OutP w I act opn blk pen ci ce nr ar l hit (.returned (.tuple #[sigV act opn blk pen ci ce nr ar A n c, hit, .int .i64 0])) w' := by
  obtain ⟨I', h1, h2, h3, h4⟩ := h.done_row (v := .slice A n c) (T := 4) (k := 1) (n := n) (xs := l.map .bool)
  refine ⟨A, n, c, I', rfl, ?_, h1, ⟨h3, h4 A n c rfl⟩, h2⟩
  have := h3.1
  simpa using this.symm
theorem out_row' {w : World} {I : Imm} {act : Int} {opn blk pen : Bool} {ci ce nr ar : Int} {m : List Bool} {hit : Value} {w' : World} {H : List Ent} {A : Option Addr} {n c : Nat} {xs : List Value} (h : Hp w I w' H) [hm : InR H (.slice A n c) 4 1 n xs] (hx : xs = m.map .bool) :
    OutP w I act opn blk pen ci ce nr ar m hit (.returned (.tuple #[sigV act opn blk pen ci ce nr ar A n c, hit, .int .i64 0])) w' := by
  subst hx
  exact out_row h
end Go.Proofs.Ytlhhjoffjfpiaaa
