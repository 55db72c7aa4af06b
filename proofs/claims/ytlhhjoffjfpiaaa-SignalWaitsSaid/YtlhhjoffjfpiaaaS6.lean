/- What slices.Equal, signal.Same and short say. -/
import Derived.Test.YtlhhjoffjfpiaaaS2
import Derived.Lib.Hide
set_option linter.unusedVariables false
set_option linter.unusedSimpArgs false
namespace Go.Hpw
open Go.RowKit
theorem Rd.take {I : Imm} {A : Option Addr} {k n c : Nat} {xs : List Value} (h : Rd I (.slice A n c) k n xs) (m : Nat) (hm : m ≤ n) : Rd I (.slice A m c) k m (xs.take (m * k)) := by
  obtain ⟨h1, h2, A', c', h3, h4, h5⟩ := h
  cases h3
  have hle : m * k ≤ n * k := Nat.mul_le_mul_right _ hm
  refine ⟨by rw [List.length_take]; omega, by omega, A, c, rfl, h4, fun h0 => ?_⟩
  obtain ⟨ad, e, hc⟩ := h5 (by omega)
  exact ⟨ad, e, by simpa using hc.part 0 (m * k)⟩
theorem g1_append_rd {P : Program} {a : Act} {w : World} {o : Oper} {w0 : World} {I : Imm} {H : List Ent} {K : Act → World → Prop} {T e : TypeId} {k bytes : Nat} [hT : SlT P T e k bytes] {s x : Operand} {n n0 c0 m m' c : Nat} {xs news : List Value} {A A0 : Option Addr}
    (ho : o.op = .call { callee := .builtin .append, args := #[s, x], argTypes := #[T, T] }) (hs : a.eval s = .slice A0 n0 c0) (hx : a.eval x = .slice A m c)
    (hp : Hp w0 I w H) {Hf : Value → Nat → List Value → List Ent} [hS : SetRC H (.slice A0 n0 c0) e k n xs Hf] (hX : Rd I (.slice A m c) k m' news) (hA : A = none → c = 0) (h1 : ∀ u ∈ news, u.oneCell' = true)
    (h63 : n + m ≤ maxLen) (hby : (n + m) * bytes ≤ 140737488355328)
    (h : ∀ A' c' w', Hp w0 I w' (Hf (.slice A' (n + m) c') (n + m) (xs ++ news)) → K (a.put o.dst (.slice A' (n + m) c')) w') : Go1 P o a w K :=
  have hc := hX.src hp rfl
  g1_append ho hs hx hp hc.2.1 hA hc.2.2 h1 h63 hby h
end Go.Hpw
namespace Go.Proofs.Ytlhhjoffjfpiaaa
open Go Go.RowKit Go.Hpw
theorem cells_elem {I : Imm} {b off : Nat} {l : List Bool} (h : CellsAt I b off (l.map .bool)) (k : Nat) (hk : k < l.length) : CellsAt I b (off + k) [.bool (l.getD k false)] := by
  have := h.part k 1
  rwa [show ((l.map Value.bool).drop k).take 1 = [.bool (l.getD k false)] from by
    rw [List.drop_eq_getElem_cons (by simpa using hk)]; simp [List.getD_eq_getElem?_getD, List.getElem?_eq_getElem hk]] at this
def TruePost (w : World) (I : Imm) (e : Ending) (w' : World) : Prop := e = .returned (.bool true) ∧ Post w I w' I []
set_option maxHeartbeats 1000000 in
theorem equal_true (w : World) (I : Imm) (hI : ∀ b o, I b = some o → w.heap[b]? = some o) (A B : Option Addr) (n c d : Nat) (l : List Bool) (hr : RdB I A n c l) (hs : RdB I B n d l) (hn : n ≤ 1000000000) :
    Calls Try.prog 17 #[.slice A n c, .slice B n d] w (TruePost w I) := by
  have hp := Hp.start hI
  have hl : l.length = n := by have := hr.1.1; simpa using this
  rcases Nat.eq_zero_or_pos n with h0 | h0
  · subst h0
    go_enter Try.func17, Try.ntmps17
    go_wp2
    refine wp_loop_rounds 1 ?_
    rw [rounds_succ]
    go_wp2
    go_ret
    exact ⟨rfl, hp.done⟩
  · obtain ⟨_, _, A', c', e1, hsp1, hc1⟩ := hr.1
    cases e1
    obtain ⟨ad, e2, hca⟩ := hc1 (by omega)
    subst e2
    obtain ⟨_, _, B', d', e3, hsp2, hc2⟩ := hs.1
    cases e3
    obtain ⟨bd, e4, hcb⟩ := hc2 (by omega)
    subst e4
    obtain ⟨b1, o1, s1⟩ := ad
    obtain ⟨b2, o2, s2⟩ := bd
    have h1 : s1 = none := hsp1 _ rfl
    have h2 : s2 = none := hsp2 _ rfl
    subst h1 h2
    clear hsp1 hsp2 hc1 hc2
    have HA := Lib.hid hca
    have HB := Lib.hid hcb
    have HL := Lib.hid hl
    clear hca hcb hl hr hs
    go_enter Try.func17, Try.ntmps17
    go_wp2
    go_loopw [5, 13] (fun i j wr => ∃ k : Nat, k ≤ n ∧ j = .int .i64 k ∧ Hp w I wr []) (fun _ j _ => n - (intOf j).toNat)
    case atStart => exact ⟨0, Nat.zero_le _, rfl, hp⟩
    case round =>
      clear hp
      obtain ⟨k, hk, rfl, hp⟩ := hrel
      by_cases hlt : k < n
      · have ha := cells_elem HA.out k (by rw [HL.out]; omega)
        have hb := cells_elem HB.out k (by rw [HL.out]; omega)
        go_wp2
        refine wp_region_any (by kernel_rfl) ?_
        change wpAny _ _ _ _ _ _ _ (World.drew _)
        replace hp := hp.drew
        refine wpAny_take (i := 0) (oi := { dst := some 16, op := Go.Op.move (Go.Operand.tmp 0), type := 25, pos := "slices.go:25", after := #[], guard := none }) (v := ?_) rfl (by kernel_rfl) (by kernel_rfl) (by kernel_rfl) (fun _ _ _ h => h) (Or.inl ⟨by rfl, ?_⟩) ?_
        rotate_left; (intro w; go_simp; try with_reducible rfl)
        refine wpAny_norm (by simp only [Act.put, List.setIfInBounds_toArray, List.set_cons_succ, List.set_cons_zero]; rfl) ?_
        refine wpAny_take (i := 1) (oi := { dst := some 17, op := Go.Op.move (Go.Operand.tmp 5), type := 3, pos := "slices.go:25", after := #[], guard := none }) (v := ?_) rfl (by kernel_rfl) (by kernel_rfl) (by kernel_rfl) (fun _ _ _ h => h) (Or.inl ⟨by rfl, ?_⟩) ?_
        rotate_left; (intro w; go_simp; try with_reducible rfl)
        refine wpAny_norm (by simp only [Act.put, List.setIfInBounds_toArray, List.set_cons_succ, List.set_cons_zero]; rfl) ?_
        refine wpAny_take (i := 2) (oi := { dst := some 18, op := Go.Op.indexAddr 25 (Go.Operand.tmp 16) (Go.Operand.tmp 17), type := 0, pos := "slices.go:25", after := #[{ on := 0, ground := Go.Ground.data }, { on := 1, ground := Go.Ground.data }], guard := none }) (v := ?_) rfl (by kernel_rfl) (by kernel_rfl) (by kernel_rfl) (fun _ _ _ h => h) (Or.inl ⟨by rfl, ?_⟩) ?_
        rotate_left; (intro w; go_simp; try with_reducible rfl)
        refine wpAny_norm (by simp only [Act.put, List.setIfInBounds_toArray, List.set_cons_succ, List.set_cons_zero]; rfl) ?_
        refine wpAny_take (i := 4) (oi := { dst := some 20, op := Go.Op.move (Go.Operand.tmp 1), type := 25, pos := "slices.go:25", after := #[], guard := none }) (v := ?_) rfl (by kernel_rfl) (by kernel_rfl) (by kernel_rfl) (fun _ _ _ h => h) (Or.inl ⟨by rfl, ?_⟩) ?_
        rotate_left; (intro w; go_simp; try with_reducible rfl)
        refine wpAny_norm (by simp only [Act.put, List.setIfInBounds_toArray, List.set_cons_succ, List.set_cons_zero]; rfl) ?_
        refine wpAny_take (i := 5) (oi := { dst := some 21, op := Go.Op.move (Go.Operand.tmp 5), type := 3, pos := "slices.go:25", after := #[], guard := none }) (v := ?_) rfl (by kernel_rfl) (by kernel_rfl) (by kernel_rfl) (fun _ _ _ h => h) (Or.inl ⟨by rfl, ?_⟩) ?_
        rotate_left; (intro w; go_simp; try with_reducible rfl)
        refine wpAny_norm (by simp only [Act.put, List.setIfInBounds_toArray, List.set_cons_succ, List.set_cons_zero]; rfl) ?_
        refine wpAny_take (i := 6) (oi := { dst := some 22, op := Go.Op.indexAddr 25 (Go.Operand.tmp 20) (Go.Operand.tmp 21), type := 0, pos := "slices.go:25", after := #[{ on := 4, ground := Go.Ground.data }, { on := 5, ground := Go.Ground.data }], guard := none }) (v := ?_) rfl (by kernel_rfl) (by kernel_rfl) (by kernel_rfl) (fun _ _ _ h => h) (Or.inl ⟨by rfl, ?_⟩) ?_
        rotate_left; (intro w; go_simp; try with_reducible rfl)
        refine wpAny_norm (by simp only [Act.put, List.setIfInBounds_toArray, List.set_cons_succ, List.set_cons_zero]; rfl) ?_
        refine wpAny_takeQ (i := 3) (oi := { dst := some 19, op := Go.Op.load 4 (Go.Operand.tmp 18), type := 4, pos := "slices.go:25", after := #[{ on := 2, ground := Go.Ground.data }], guard := none }) rfl (by kernel_rfl) (by kernel_rfl) (by kernel_rfl) (fun _ _ _ _ h => h) rfl rfl ?_
        (first | (refine g1_load_im_one rfl rfl hp ha ?_) | (refine g1_load_im_one rfl rfl hp hb ?_) | (refine (g1_box_agg rfl rfl hp ?_); clear hp; intro b w' hp) | (refine (g1_alloc rfl hp ?_); clear hp; intro b w' hp) | (refine (g1_load_agg rfl rfl hp (by rfl) ?_); (try simp only [List.drop_zero, List.drop_succ_cons, List.take_succ_cons, List.take_zero])) | (refine (g1_load_one rfl rfl hp (by rfl) ?_)) | (refine (g1_load_row_one rfl rfl hp (by rfl) ?_)) | (refine (g1_store_agg rfl rfl rfl rfl rfl hp (by rfl) ?_); clear hp; intro w' hp; (try simp only [setAt, Act.eval, Array.getD_eq_getD_getElem?, List.getElem?_toArray, List.getElem?_cons_succ, List.getElem?_cons_zero, Option.getD_some] at hp)) | (refine (g1_store_one rfl rfl rfl rfl hp (by rfl) ?_); clear hp; intro w' hp; (try simp only [setAt, Act.eval, Array.getD_eq_getD_getElem?, List.getElem?_toArray, List.getElem?_cons_succ, List.getElem?_cons_zero, Option.getD_some] at hp)) | (refine (g1_build0 rfl hp ?_); clear hp; intro b w' hp) | (refine (g1_build1 rfl rfl rfl rfl hp ?_); clear hp; intro b w' hp; (try simp only [setAt, Act.eval, Array.getD_eq_getD_getElem?, List.getElem?_toArray, List.getElem?_cons_succ, List.getElem?_cons_zero, Option.getD_some] at hp)) | (refine (g1_box_one rfl rfl rfl hp ?_); clear hp; intro b w' hp; (try simp only [setAt, Act.eval, Array.getD_eq_getD_getElem?, List.getElem?_toArray, List.getElem?_cons_succ, List.getElem?_cons_zero, Option.getD_some] at hp)))
        refine wpAny_norm (by simp only [Act.put, List.setIfInBounds_toArray, List.set_cons_succ, List.set_cons_zero]; rfl) ?_
        refine wpAny_takeQ (i := 7) (oi := { dst := some 23, op := Go.Op.load 4 (Go.Operand.tmp 22), type := 4, pos := "slices.go:25", after := #[{ on := 6, ground := Go.Ground.data }], guard := none }) rfl (by kernel_rfl) (by kernel_rfl) (by kernel_rfl) (fun _ _ _ _ h => h) rfl rfl ?_
        (first | (refine g1_load_im_one rfl rfl hp ha ?_) | (refine g1_load_im_one rfl rfl hp hb ?_) | (refine (g1_box_agg rfl rfl hp ?_); clear hp; intro b w' hp) | (refine (g1_alloc rfl hp ?_); clear hp; intro b w' hp) | (refine (g1_load_agg rfl rfl hp (by rfl) ?_); (try simp only [List.drop_zero, List.drop_succ_cons, List.take_succ_cons, List.take_zero])) | (refine (g1_load_one rfl rfl hp (by rfl) ?_)) | (refine (g1_load_row_one rfl rfl hp (by rfl) ?_)) | (refine (g1_store_agg rfl rfl rfl rfl rfl hp (by rfl) ?_); clear hp; intro w' hp; (try simp only [setAt, Act.eval, Array.getD_eq_getD_getElem?, List.getElem?_toArray, List.getElem?_cons_succ, List.getElem?_cons_zero, Option.getD_some] at hp)) | (refine (g1_store_one rfl rfl rfl rfl hp (by rfl) ?_); clear hp; intro w' hp; (try simp only [setAt, Act.eval, Array.getD_eq_getD_getElem?, List.getElem?_toArray, List.getElem?_cons_succ, List.getElem?_cons_zero, Option.getD_some] at hp)) | (refine (g1_build0 rfl hp ?_); clear hp; intro b w' hp) | (refine (g1_build1 rfl rfl rfl rfl hp ?_); clear hp; intro b w' hp; (try simp only [setAt, Act.eval, Array.getD_eq_getD_getElem?, List.getElem?_toArray, List.getElem?_cons_succ, List.getElem?_cons_zero, Option.getD_some] at hp)) | (refine (g1_box_one rfl rfl rfl hp ?_); clear hp; intro b w' hp; (try simp only [setAt, Act.eval, Array.getD_eq_getD_getElem?, List.getElem?_toArray, List.getElem?_cons_succ, List.getElem?_cons_zero, Option.getD_some] at hp)))
        refine wpAny_norm (by simp only [Act.put, List.setIfInBounds_toArray, List.set_cons_succ, List.set_cons_zero]; rfl) ?_
        refine wpAny_take (i := 8) (oi := { dst := some 24, op := Go.Op.binOp Go.BinOp.neq 4 (Go.Operand.tmp 19) (Go.Operand.tmp 23) 4, type := 4, pos := "slices.go:25", after := #[{ on := 3, ground := Go.Ground.data }, { on := 7, ground := Go.Ground.data }], guard := none }) (v := ?_) rfl (by kernel_rfl) (by kernel_rfl) (by kernel_rfl) (fun _ _ _ h => h) (Or.inl ⟨by rfl, ?_⟩) ?_
        rotate_left; (intro w; go_simp; try with_reducible rfl)
        refine wpAny_norm (by simp only [Act.put, List.setIfInBounds_toArray, List.set_cons_succ, List.set_cons_zero]; rfl) ?_
        refine wpAny_done (by kernel_rfl) ?_ _
        go_wp2
        go_roundw
        case rel => exact ⟨k + 1, by omega, by go_num, hp⟩
        case measure => simp [intOf]; omega
      · go_wp2
        go_ret
        exact ⟨rfl, hp.done⟩
def ShortPost (w : World) (I : Imm) (act : Int) (opn blk pen : Bool) (ci ce nr ar : Int) (l : List Bool) (e : Ending) (w' : World) : Prop :=
  ∃ A n c I', e = .returned (sigV act opn blk pen ci ce nr ar A n c) ∧ n = l.length ∧ Post w I w' I' [] ∧ RdB I' A n c l ∧ Im.le I I'
theorem short_row {w : World} {I : Imm} {act : Int} {opn blk pen : Bool} {ci ce nr ar : Int} {l : List Bool} {w' : World} {H : List Ent} {A : Option Addr} {n c : Nat} {xs : List Value} (h : Hp w I w' H) [hm : InR H (.slice A n c) 4 1 n xs] (hx : xs = l.map .bool) :
    ShortPost w I act opn blk pen ci ce nr ar l (.returned (sigV act opn blk pen ci ce nr ar A n c)) w' := by
  subst hx
  obtain ⟨I', h1, h2, h3, h4⟩ := h.done_row (v := .slice A n c) (T := 4) (k := 1) (n := n) (xs := l.map .bool)
  refine ⟨A, n, c, I', rfl, ?_, h1, ⟨h3, h4 A n c rfl⟩, h2⟩
  have := h3.1
  simpa using this.symm
set_option maxHeartbeats 1000000 in
theorem short (w : World) (I : Imm) (hI : ∀ b o, I b = some o → w.heap[b]? = some o) (act : Int) (opn blk pen : Bool) (ci ce nr ar : Int) (A : Option Addr) (n c : Nat) (l : List Bool) (hr : RdB I A n c l) (hnc : n ≤ c) (hn : n ≤ 9223372036854775807) :
    Calls Try.prog 5 #[sigV act opn blk pen ci ce nr ar A n c] w (ShortPost w I act opn blk pen ci ce nr ar (l.take (min n 6))) := by
  have hp := Hp.start hI
  by_cases h6 : n ≤ 6
  · have hX := hr.1
    have hA := hr.2
    have hm : min n 6 = n := by omega
    have hl : l.length = n := by have := hr.1.1; simpa using this
    rw [hm, List.take_of_length_le (by omega)]
    clear hm hl
    have hmin : min (n : Int) 6 = n := by omega
    have HM := Lib.hid hmin
    clear hmin
    go_enter Try.func5, Try.ntmps5
    go_wp2_with (first | ((with_reducible refine wpl_mem ?_ ?_ ?_); exact rfl; exact rfl; first | (refine g1_append_rd (T := 25) rfl rfl rfl hp hX hA bools_one (by unfold maxLen; omega) (by omega) ?_; clear hp; intro A' c' w' hp; simp only [Nat.zero_add, List.nil_append] at hp ⊢) | (refine (g1_box_agg rfl rfl hp ?_); clear hp; intro b w' hp) | (refine (g1_alloc rfl hp ?_); clear hp; intro b w' hp) | (refine (g1_load_agg rfl rfl hp (by rfl) ?_); (try simp only [List.drop_zero, List.drop_succ_cons, List.take_succ_cons, List.take_zero])) | (refine (g1_load_one rfl rfl hp (by rfl) ?_)) | (refine (g1_load_row_one rfl rfl hp (by rfl) ?_)) | (refine (g1_store_agg rfl rfl rfl rfl rfl hp (by rfl) ?_); clear hp; intro w' hp; (try simp only [setAt, Act.eval, Array.getD_eq_getD_getElem?, List.getElem?_toArray, List.getElem?_cons_succ, List.getElem?_cons_zero, Option.getD_some] at hp)) | (refine (g1_store_one rfl rfl rfl rfl hp (by rfl) ?_); clear hp; intro w' hp; (try simp only [setAt, Act.eval, Array.getD_eq_getD_getElem?, List.getElem?_toArray, List.getElem?_cons_succ, List.getElem?_cons_zero, Option.getD_some] at hp)) | (refine (g1_build0 rfl hp ?_); clear hp; intro b w' hp) | (refine (g1_build1 rfl rfl rfl rfl hp ?_); clear hp; intro b w' hp; (try simp only [setAt, Act.eval, Array.getD_eq_getD_getElem?, List.getElem?_toArray, List.getElem?_cons_succ, List.getElem?_cons_zero, Option.getD_some] at hp)) | (refine (g1_box_one rfl rfl rfl hp ?_); clear hp; intro b w' hp; (try simp only [setAt, Act.eval, Array.getD_eq_getD_getElem?, List.getElem?_toArray, List.getElem?_cons_succ, List.getElem?_cons_zero, Option.getD_some] at hp))) | ((with_reducible refine bodyPost_id Try.f3 ?_); refine bodyPost_ret (results_one Try.results3 rfl) rfl ?_) | ((with_reducible refine bodyPost_id Try.f4 ?_); refine bodyPost_ret (results_one Try.results4 rfl) rfl ?_) | ((with_reducible refine bodyPost_id Try.f5 ?_); refine bodyPost_ret (results_one Try.results5 ⟨_, rfl, by first | exact hp.load_agg rfl | exact hp.load_one⟩) rfl ?_) | ((with_reducible refine bodyPost_id Try.f6 ?_); refine bodyPost_ret (results_one Try.results6 rfl) rfl ?_) | ((with_reducible refine bodyPost_id Try.f7 ?_); refine bodyPost_ret (results_many (vs := [_, _, _]) Try.results7 ⟨⟨_, rfl, by first | exact hp.load_agg rfl | exact hp.load_one⟩, ⟨_, rfl, by first | exact hp.load_agg rfl | exact hp.load_one⟩, rfl, trivial⟩ rfl) rfl ?_) | ((with_reducible refine bodyPost_id Try.f8 ?_); refine bodyPost_ret (results_many (vs := [_, _, _]) Try.results8 ⟨⟨_, rfl, by first | exact hp.load_agg rfl | exact hp.load_one⟩, ⟨_, rfl, by first | exact hp.load_agg rfl | exact hp.load_one⟩, rfl, trivial⟩ rfl) rfl ?_) | ((with_reducible refine bodyPost_id Try.f9 ?_); refine bodyPost_ret (results_one Try.results9 rfl) rfl ?_) | ((with_reducible refine bodyPost_id Try.f10 ?_); refine bodyPost_ret (results_many (vs := [_, _, _]) Try.results10 ⟨⟨_, rfl, by first | exact hp.load_agg rfl | exact hp.load_one⟩, ⟨_, rfl, by first | exact hp.load_agg rfl | exact hp.load_one⟩, rfl, trivial⟩ rfl) rfl ?_) | ((with_reducible refine bodyPost_id Try.f11 ?_); refine bodyPost_ret (results_many (vs := [_, _, _]) Try.results11 ⟨⟨_, rfl, by first | exact hp.load_agg rfl | exact hp.load_one⟩, ⟨_, rfl, by first | exact hp.load_agg rfl | exact hp.load_one⟩, rfl, trivial⟩ rfl) rfl ?_) | ((with_reducible refine bodyPost_id Try.f12 ?_); refine bodyPost_ret (results_many (vs := [_, _, _]) Try.results12 ⟨⟨_, rfl, by first | exact hp.load_agg rfl | exact hp.load_one⟩, ⟨_, rfl, by first | exact hp.load_agg rfl | exact hp.load_one⟩, rfl, trivial⟩ rfl) rfl ?_) | ((with_reducible refine bodyPost_id Try.f13 ?_); refine bodyPost_ret (results_many (vs := [_, _]) Try.results13 ⟨⟨_, rfl, by first | exact hp.load_agg rfl | exact hp.load_one⟩, rfl, trivial⟩ rfl) rfl ?_) | ((with_reducible refine bodyPost_id Try.f14 ?_); refine bodyPost_ret (results_one Try.results14 ⟨_, rfl, by first | exact hp.load_agg rfl | exact hp.load_one⟩) rfl ?_) | ((with_reducible refine bodyPost_id Try.f15 ?_); refine bodyPost_ret (results_many (vs := [_, _]) Try.results15 ⟨⟨_, rfl, by first | exact hp.load_agg rfl | exact hp.load_one⟩, rfl, trivial⟩ rfl) rfl ?_) | ((with_reducible refine bodyPost_id Try.f16 ?_); refine bodyPost_ret (results_one Try.results16 ⟨_, rfl, by first | exact hp.load_agg rfl | exact hp.load_one⟩) rfl ?_) | ((with_reducible refine bodyPost_id Try.f17 ?_); refine bodyPost_ret (results_one Try.results17 rfl) rfl ?_) | ((with_reducible refine bodyPost_id Try.f18 ?_); refine bodyPost_ret (results_many (vs := [_, _]) Try.results18 ⟨⟨_, rfl, by first | exact hp.load_agg rfl | exact hp.load_one⟩, rfl, trivial⟩ rfl) rfl ?_) | ((with_reducible refine bodyPost_id Try.f20 ?_); refine bodyPost_ret (results_many (vs := [_, _]) Try.results20 ⟨⟨_, rfl, by first | exact hp.load_agg rfl | exact hp.load_one⟩, rfl, trivial⟩ rfl) rfl ?_) | ((with_reducible refine bodyPost_id Try.f21 ?_); refine bodyPost_ret (results_one Try.results21 rfl) rfl ?_) | ((with_reducible refine bodyPost_idN ?_); go_end0) | go_in)
    all_goals exact short_row hp rfl
  · have hX := hr.1.take 6 (by omega)
    have hA := hr.2
    have hm : min n 6 = 6 := by omega
    have hmp : (l.map Value.bool).take (6 * 1) = (l.take 6).map Value.bool := by simp [List.map_take]
    rw [hmp] at hX
    rw [hm]
    clear hm hmp
    have h6' : 6 < n := by omega
    clear h6
    go_enter Try.func5, Try.ntmps5
    go_wp2_with (first | ((with_reducible refine wpl_mem ?_ ?_ ?_); exact rfl; exact rfl; first | (refine g1_append_rd (T := 25) rfl rfl rfl hp hX hA bools_one (by unfold maxLen; omega) (by omega) ?_; clear hp; intro A' c' w' hp; simp only [Nat.zero_add, List.nil_append] at hp ⊢) | (refine (g1_box_agg rfl rfl hp ?_); clear hp; intro b w' hp) | (refine (g1_alloc rfl hp ?_); clear hp; intro b w' hp) | (refine (g1_load_agg rfl rfl hp (by rfl) ?_); (try simp only [List.drop_zero, List.drop_succ_cons, List.take_succ_cons, List.take_zero])) | (refine (g1_load_one rfl rfl hp (by rfl) ?_)) | (refine (g1_load_row_one rfl rfl hp (by rfl) ?_)) | (refine (g1_store_agg rfl rfl rfl rfl rfl hp (by rfl) ?_); clear hp; intro w' hp; (try simp only [setAt, Act.eval, Array.getD_eq_getD_getElem?, List.getElem?_toArray, List.getElem?_cons_succ, List.getElem?_cons_zero, Option.getD_some] at hp)) | (refine (g1_store_one rfl rfl rfl rfl hp (by rfl) ?_); clear hp; intro w' hp; (try simp only [setAt, Act.eval, Array.getD_eq_getD_getElem?, List.getElem?_toArray, List.getElem?_cons_succ, List.getElem?_cons_zero, Option.getD_some] at hp)) | (refine (g1_build0 rfl hp ?_); clear hp; intro b w' hp) | (refine (g1_build1 rfl rfl rfl rfl hp ?_); clear hp; intro b w' hp; (try simp only [setAt, Act.eval, Array.getD_eq_getD_getElem?, List.getElem?_toArray, List.getElem?_cons_succ, List.getElem?_cons_zero, Option.getD_some] at hp)) | (refine (g1_box_one rfl rfl rfl hp ?_); clear hp; intro b w' hp; (try simp only [setAt, Act.eval, Array.getD_eq_getD_getElem?, List.getElem?_toArray, List.getElem?_cons_succ, List.getElem?_cons_zero, Option.getD_some] at hp))) | ((with_reducible refine bodyPost_id Try.f3 ?_); refine bodyPost_ret (results_one Try.results3 rfl) rfl ?_) | ((with_reducible refine bodyPost_id Try.f4 ?_); refine bodyPost_ret (results_one Try.results4 rfl) rfl ?_) | ((with_reducible refine bodyPost_id Try.f5 ?_); refine bodyPost_ret (results_one Try.results5 ⟨_, rfl, by first | exact hp.load_agg rfl | exact hp.load_one⟩) rfl ?_) | ((with_reducible refine bodyPost_id Try.f6 ?_); refine bodyPost_ret (results_one Try.results6 rfl) rfl ?_) | ((with_reducible refine bodyPost_id Try.f7 ?_); refine bodyPost_ret (results_many (vs := [_, _, _]) Try.results7 ⟨⟨_, rfl, by first | exact hp.load_agg rfl | exact hp.load_one⟩, ⟨_, rfl, by first | exact hp.load_agg rfl | exact hp.load_one⟩, rfl, trivial⟩ rfl) rfl ?_) | ((with_reducible refine bodyPost_id Try.f8 ?_); refine bodyPost_ret (results_many (vs := [_, _, _]) Try.results8 ⟨⟨_, rfl, by first | exact hp.load_agg rfl | exact hp.load_one⟩, ⟨_, rfl, by first | exact hp.load_agg rfl | exact hp.load_one⟩, rfl, trivial⟩ rfl) rfl ?_) | ((with_reducible refine bodyPost_id Try.f9 ?_); refine bodyPost_ret (results_one Try.results9 rfl) rfl ?_) | ((with_reducible refine bodyPost_id Try.f10 ?_); refine bodyPost_ret (results_many (vs := [_, _, _]) Try.results10 ⟨⟨_, rfl, by first | exact hp.load_agg rfl | exact hp.load_one⟩, ⟨_, rfl, by first | exact hp.load_agg rfl | exact hp.load_one⟩, rfl, trivial⟩ rfl) rfl ?_) | ((with_reducible refine bodyPost_id Try.f11 ?_); refine bodyPost_ret (results_many (vs := [_, _, _]) Try.results11 ⟨⟨_, rfl, by first | exact hp.load_agg rfl | exact hp.load_one⟩, ⟨_, rfl, by first | exact hp.load_agg rfl | exact hp.load_one⟩, rfl, trivial⟩ rfl) rfl ?_) | ((with_reducible refine bodyPost_id Try.f12 ?_); refine bodyPost_ret (results_many (vs := [_, _, _]) Try.results12 ⟨⟨_, rfl, by first | exact hp.load_agg rfl | exact hp.load_one⟩, ⟨_, rfl, by first | exact hp.load_agg rfl | exact hp.load_one⟩, rfl, trivial⟩ rfl) rfl ?_) | ((with_reducible refine bodyPost_id Try.f13 ?_); refine bodyPost_ret (results_many (vs := [_, _]) Try.results13 ⟨⟨_, rfl, by first | exact hp.load_agg rfl | exact hp.load_one⟩, rfl, trivial⟩ rfl) rfl ?_) | ((with_reducible refine bodyPost_id Try.f14 ?_); refine bodyPost_ret (results_one Try.results14 ⟨_, rfl, by first | exact hp.load_agg rfl | exact hp.load_one⟩) rfl ?_) | ((with_reducible refine bodyPost_id Try.f15 ?_); refine bodyPost_ret (results_many (vs := [_, _]) Try.results15 ⟨⟨_, rfl, by first | exact hp.load_agg rfl | exact hp.load_one⟩, rfl, trivial⟩ rfl) rfl ?_) | ((with_reducible refine bodyPost_id Try.f16 ?_); refine bodyPost_ret (results_one Try.results16 ⟨_, rfl, by first | exact hp.load_agg rfl | exact hp.load_one⟩) rfl ?_) | ((with_reducible refine bodyPost_id Try.f17 ?_); refine bodyPost_ret (results_one Try.results17 rfl) rfl ?_) | ((with_reducible refine bodyPost_id Try.f18 ?_); refine bodyPost_ret (results_many (vs := [_, _]) Try.results18 ⟨⟨_, rfl, by first | exact hp.load_agg rfl | exact hp.load_one⟩, rfl, trivial⟩ rfl) rfl ?_) | ((with_reducible refine bodyPost_id Try.f20 ?_); refine bodyPost_ret (results_many (vs := [_, _]) Try.results20 ⟨⟨_, rfl, by first | exact hp.load_agg rfl | exact hp.load_one⟩, rfl, trivial⟩ rfl) rfl ?_) | ((with_reducible refine bodyPost_id Try.f21 ?_); refine bodyPost_ret (results_one Try.results21 rfl) rfl ?_) | ((with_reducible refine bodyPost_idN ?_); go_end0) | go_in)
    all_goals exact short_row hp rfl
def BoolPost (w : World) (I : Imm) (b : Bool) (e : Ending) (w' : World) : Prop := e = .returned (.bool b) ∧ Post w I w' I []
set_option maxHeartbeats 1000000 in
theorem same_true (w : World) (I : Imm) (hI : ∀ b o, I b = some o → w.heap[b]? = some o) (act : Int) (opn blk pen : Bool) (ci ce nr ar : Int) (A B : Option Addr) (n c d : Nat) (l : List Bool) (hr : RdB I A n c l) (hs : RdB I B n d l) (hn : n ≤ 1000000000) :
    Calls Try.prog 9 #[sigV act opn blk pen ci ce nr ar A n c, sigV act opn blk pen ci ce nr ar B n d] w (BoolPost w I true) := by
  have hp := Hp.start hI
  go_enter Try.func9, Try.ntmps9
  go_wp2_with (first | ((with_reducible refine wpl_mem ?_ ?_ ?_); exact rfl; exact rfl; first | (refine (g1_box_agg rfl rfl hp ?_); clear hp; intro b w' hp) | (refine (g1_alloc rfl hp ?_); clear hp; intro b w' hp) | (refine (g1_load_agg rfl rfl hp (by rfl) ?_); (try simp only [List.drop_zero, List.drop_succ_cons, List.take_succ_cons, List.take_zero])) | (refine (g1_load_one rfl rfl hp (by rfl) ?_)) | (refine (g1_load_row_one rfl rfl hp (by rfl) ?_)) | (refine (g1_store_agg rfl rfl rfl rfl rfl hp (by rfl) ?_); clear hp; intro w' hp; (try simp only [setAt, Act.eval, Array.getD_eq_getD_getElem?, List.getElem?_toArray, List.getElem?_cons_succ, List.getElem?_cons_zero, Option.getD_some] at hp)) | (refine (g1_store_one rfl rfl rfl rfl hp (by rfl) ?_); clear hp; intro w' hp; (try simp only [setAt, Act.eval, Array.getD_eq_getD_getElem?, List.getElem?_toArray, List.getElem?_cons_succ, List.getElem?_cons_zero, Option.getD_some] at hp)) | (refine (g1_build0 rfl hp ?_); clear hp; intro b w' hp) | (refine (g1_build1 rfl rfl rfl rfl hp ?_); clear hp; intro b w' hp; (try simp only [setAt, Act.eval, Array.getD_eq_getD_getElem?, List.getElem?_toArray, List.getElem?_cons_succ, List.getElem?_cons_zero, Option.getD_some] at hp)) | (refine (g1_box_one rfl rfl rfl hp ?_); clear hp; intro b w' hp; (try simp only [setAt, Act.eval, Array.getD_eq_getD_getElem?, List.getElem?_toArray, List.getElem?_cons_succ, List.getElem?_cons_zero, Option.getD_some] at hp))) | (go_at_call 17; refine (equal_true _ I hp.im _ _ _ _ _ l hr hs hn).mono ?_; rintro e w' ⟨rfl, hc⟩; replace hp := hp.call hc; simp only [List.nil_append] at hp; clear hc) | ((with_reducible refine bodyPost_id Try.f3 ?_); refine bodyPost_ret (results_one Try.results3 rfl) rfl ?_) | ((with_reducible refine bodyPost_id Try.f4 ?_); refine bodyPost_ret (results_one Try.results4 rfl) rfl ?_) | ((with_reducible refine bodyPost_id Try.f5 ?_); refine bodyPost_ret (results_one Try.results5 ⟨_, rfl, by first | exact hp.load_agg rfl | exact hp.load_one⟩) rfl ?_) | ((with_reducible refine bodyPost_id Try.f6 ?_); refine bodyPost_ret (results_one Try.results6 rfl) rfl ?_) | ((with_reducible refine bodyPost_id Try.f7 ?_); refine bodyPost_ret (results_many (vs := [_, _, _]) Try.results7 ⟨⟨_, rfl, by first | exact hp.load_agg rfl | exact hp.load_one⟩, ⟨_, rfl, by first | exact hp.load_agg rfl | exact hp.load_one⟩, rfl, trivial⟩ rfl) rfl ?_) | ((with_reducible refine bodyPost_id Try.f8 ?_); refine bodyPost_ret (results_many (vs := [_, _, _]) Try.results8 ⟨⟨_, rfl, by first | exact hp.load_agg rfl | exact hp.load_one⟩, ⟨_, rfl, by first | exact hp.load_agg rfl | exact hp.load_one⟩, rfl, trivial⟩ rfl) rfl ?_) | ((with_reducible refine bodyPost_id Try.f9 ?_); refine bodyPost_ret (results_one Try.results9 rfl) rfl ?_) | ((with_reducible refine bodyPost_id Try.f10 ?_); refine bodyPost_ret (results_many (vs := [_, _, _]) Try.results10 ⟨⟨_, rfl, by first | exact hp.load_agg rfl | exact hp.load_one⟩, ⟨_, rfl, by first | exact hp.load_agg rfl | exact hp.load_one⟩, rfl, trivial⟩ rfl) rfl ?_) | ((with_reducible refine bodyPost_id Try.f11 ?_); refine bodyPost_ret (results_many (vs := [_, _, _]) Try.results11 ⟨⟨_, rfl, by first | exact hp.load_agg rfl | exact hp.load_one⟩, ⟨_, rfl, by first | exact hp.load_agg rfl | exact hp.load_one⟩, rfl, trivial⟩ rfl) rfl ?_) | ((with_reducible refine bodyPost_id Try.f12 ?_); refine bodyPost_ret (results_many (vs := [_, _, _]) Try.results12 ⟨⟨_, rfl, by first | exact hp.load_agg rfl | exact hp.load_one⟩, ⟨_, rfl, by first | exact hp.load_agg rfl | exact hp.load_one⟩, rfl, trivial⟩ rfl) rfl ?_) | ((with_reducible refine bodyPost_id Try.f13 ?_); refine bodyPost_ret (results_many (vs := [_, _]) Try.results13 ⟨⟨_, rfl, by first | exact hp.load_agg rfl | exact hp.load_one⟩, rfl, trivial⟩ rfl) rfl ?_) | ((with_reducible refine bodyPost_id Try.f14 ?_); refine bodyPost_ret (results_one Try.results14 ⟨_, rfl, by first | exact hp.load_agg rfl | exact hp.load_one⟩) rfl ?_) | ((with_reducible refine bodyPost_id Try.f15 ?_); refine bodyPost_ret (results_many (vs := [_, _]) Try.results15 ⟨⟨_, rfl, by first | exact hp.load_agg rfl | exact hp.load_one⟩, rfl, trivial⟩ rfl) rfl ?_) | ((with_reducible refine bodyPost_id Try.f16 ?_); refine bodyPost_ret (results_one Try.results16 ⟨_, rfl, by first | exact hp.load_agg rfl | exact hp.load_one⟩) rfl ?_) | ((with_reducible refine bodyPost_id Try.f17 ?_); refine bodyPost_ret (results_one Try.results17 rfl) rfl ?_) | ((with_reducible refine bodyPost_id Try.f18 ?_); refine bodyPost_ret (results_many (vs := [_, _]) Try.results18 ⟨⟨_, rfl, by first | exact hp.load_agg rfl | exact hp.load_one⟩, rfl, trivial⟩ rfl) rfl ?_) | ((with_reducible refine bodyPost_id Try.f20 ?_); refine bodyPost_ret (results_many (vs := [_, _]) Try.results20 ⟨⟨_, rfl, by first | exact hp.load_agg rfl | exact hp.load_one⟩, rfl, trivial⟩ rfl) rfl ?_) | ((with_reducible refine bodyPost_id Try.f21 ?_); refine bodyPost_ret (results_one Try.results21 rfl) rfl ?_) | ((with_reducible refine bodyPost_idN ?_); go_end0) | go_in)
  all_goals exact ⟨rfl, hp.done⟩
end Go.Proofs.Ytlhhjoffjfpiaaa
