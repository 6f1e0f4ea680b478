/- What slices.Clone answers at ints: the same, in new memory. -/
import Derived.Test.YtkkkbcjmkmadhaaProg
import Derived.Lib.SliceRun
import Derived.Test.YtkkkbcjmkmadhaaWLast
import Derived.Test.YtkkkbcjmkmadhaaWTab
import Derived.Test.YtkkkbcjmkmadhaaWFour
import Derived.Test.YtkkkbcjmkmadhaaWQPut
import Derived.Test.YtkkkbcjmkmadhaaWApart
import Derived.Test.YtkkkbcjmkmadhaaWArr
import Derived.Test.YtkkkbcjmkmadhaaWZeros
import Derived.Test.YtkkkbcjmkmadhaaWFoot
import Derived.Test.YtkkkbcjmkmadhaaWKept
import Derived.Test.YtkkkbcjmkmadhaaWShare
import Derived.Test.YtkkkbcjmkmadhaaWN
import Derived.Test.YtkkkbcjmkmadhaaWFootNe
import Derived.Test.YtkkkbcjmkmadhaaWAt
import Derived.Test.YtkkkbcjmkmadhaaWMore
namespace Go.Proofs.YtkkkbcjmkmadhaaHand
open Go.RowKit Go.Proofs.YtkkkbcjmkmadhaaW.PrintWords Go.Proofs.YtkkkbcjmkmadhaaW.PrintLast
set_option linter.unusedVariables false
set_option linter.unusedSimpArgs false

theorem ints_R {W : World} {base : Nat} {v : Value} {xs : List Int} (h : W.ownsRow base 3 1 v xs.length (nums .i64 xs)) : Kd.R (Kd.int .i64) 3 W base (fun _ => True) v xs := by
  have hl : xs.length * 1 = xs.length := Nat.mul_one _
  refine ⟨fun _ _ => trivial, ⟨nums .i64 xs, h, ?_⟩⟩
  refine ⟨by simp [nums, Kd.int, Kd.scalar], ?_⟩
  intro j p hj
  have hlt : j < xs.length := by
    rcases Nat.lt_or_ge j xs.length with h | h
    · exact h
    · rw [List.getElem?_eq_none h] at hj
      cases hj
  have e : xs[j] = p := by
    rw [List.getElem?_eq_getElem hlt] at hj
    exact Option.some.inj hj
  show ((nums .i64 xs).drop (j * 1)).take 1 = [Value.int .i64 p]
  rw [Nat.mul_one, nums, ← List.map_drop, ← List.map_take]
  rw [List.drop_eq_getElem_cons hlt, e]
  rfl

theorem cloneInfo : (Try.prog.info? 3).map (fun i => (i.zero, i.size, i.bytes)) = some (some (.int .i64 0), 1, 8) := by kernel_rfl

set_option maxHeartbeats 4000000 in
set_option maxRecDepth 100000 in
theorem clone_calls (A0 : Option Addr) (c0 : Nat) (l0 : List Int) (w : World) (hr0 : Kd.C (Kd.int .i64) w A0 l0.length l0) (hn : l0.length ≤ 17592186044416) :
    Calls Try.prog 67 #[.slice A0 l0.length c0] w fun e w' => ∃ v0_ : Value, e = .returned (v0_) ∧ Kd.R (Kd.int .i64) 3 w' w.heap.size (fun _ => True) v0_ l0 ∧ Below w.heap.size w w' := by
  have HR0 := Aside0.mk hr0
  have HN := Aside0.mk hn
  have q : ∀ (w : World) (a : Option Addr) (n c n' c' : Nat), (binOp .eql 27 (.slice a n c) (.slice none n' c')).run Try.prog w = .ok (.bool a.isNone) w := fun w a n c n' c' => Go.Lib.run_eql_slice_nil w _ _ a n c n' c' Try.underlying27
  clear hr0 hn
  cases A0 with
  | none =>
    have h0 : l0 = [] := by
      rcases Nat.eq_zero_or_pos l0.length with h | h
      · exact List.eq_nil_of_length_eq_zero h
      · obtain ⟨ad, e1, _⟩ := Kd.at_int HR0.out 0 (by omega) (by omega)
        cases e1
    subst h0
    go_enter Try.func67, Try.ntmps67
    go_wp2
    go_ret
    exact ⟨.slice none 0 0, rfl, Kd.R_nil _ _ _ _ _, Below.refl _ _⟩
  | some a =>
    go_enter Try.func67, Try.ntmps67
    go_wp2_with ((with_reducible refine gate_builtin (b := .append) (xs := #[.tmp 5, .tmp 6]) rfl ?_); at_builtin; refine print_append_row (w0 := w) w.heap.size rfl (.tmp 5) (.tmp 6) 27 3 .i64 8 rfl Try.underlying27 cloneInfo (by decide) _ ([] : List Int) l0 (some a) _ _ rfl rfl ?aO ?aR ?aB ?aS ?aL ?_; (case aO => exact own_lit w w.heap.size 3 .i64 ([] : List Int) (Nat.le_refl _) (Nat.zero_le _)); (case aR => exact Kd.reads_of_C (Kd.C_alloc HR0.out _)); (case aB => exact (Below.refl _ _).alloc (Nat.le_refl _) _); (case aS => simp); (case aL => have := HN.out; simp; omega); intro v1 w2 ho1 hb1 hg1 hat; have HO1 := Aside0.mk ho1; have HB1 := Aside0.mk hb1; clear ho1 hb1 hg1 hat)
    go_ret
    exact ⟨_, rfl, ints_R (by simpa using HO1.out), HB1.out⟩
end Go.Proofs.YtkkkbcjmkmadhaaHand
