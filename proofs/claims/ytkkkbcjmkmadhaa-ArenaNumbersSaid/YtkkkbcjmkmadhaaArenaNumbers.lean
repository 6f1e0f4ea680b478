/- The law ArenaNumbers: New's arena, Put's and Drop's refusals, and what the law answers. -/
import Derived.Test.YtkkkbcjmkmadhaaLitsSound
import Derived.Test.YtkkkbcjmkmadhaaIntMap
import Derived.Test.YtkkkbcjmkmadhaaWRepsOne
namespace Go.Proofs.YtkkkbcjmkmadhaaHand
open Go.RowKit Go.Proofs.YtkkkbcjmkmadhaaW.PrintWords Go.Proofs.YtkkkbcjmkmadhaaW.PrintLast Go.Proofs.YtkkkbcjmkmadhaaMath Go.Proofs.YtkkkbcjmkmadhaaMaps Go.Maps
set_option linter.unusedVariables false
set_option linter.unusedSimpArgs false

theorem keyR : Keyed Try.prog 34 := int_keyed Try.underlying34
theorem zeroM (w : World) : (zeroValue 96).run Try.prog w = .ok (.agg #[.bool false]) w := by kernel_rfl
theorem hkeyR {x : Int} (h : -9223372036854775808 ≤ x ∧ x ≤ 9223372036854775807) : keyOf Try.prog 34 (.int .i64 x) = some (intKeys.kl x) := keyOf_int_mk Try.underlying34 (WalkArith.wf_i64 h)
abbrev IMM (W : World) (B n : Nat) (f : Int → Option Bool) (c : Nat) : Prop := IM Try.prog 34 intKeys markElem W B n f c

set_option maxHeartbeats 4000000 in
set_option maxRecDepth 100000 in
theorem new_calls (w : World) : Calls Try.prog 19 #[] w fun e w' => e = .returned (.pointer (some ⟨w.heap.size + 1, 0, none⟩)) ∧ w' = (w.alloc (.map #[] 0)).alloc (.cells #[.slice none 0 0, .map (some w.heap.size), .slice none 0 0] 94) := by
  have hmm := @run_makeMap Try.prog
  go_enter Try.func19, Try.ntmps19
  go_wp2
  go_ret
  exact ⟨by simp, rfl⟩

set_option maxHeartbeats 4000000 in
set_option maxRecDepth 100000 in
theorem put_bad (p : Value) (A0 : Option Addr) (n c0 : Nat) (l0 : List Int) (b : Bool) (w : World) (hnl : l0.length = n) (hr0 : Kd.C (Kd.int .i64) w A0 l0.length l0) (hn : l0.length ≤ 17592186044416) (hs : sound l0 = false) :
    Calls Try.prog 20 #[p, .slice A0 n c0, .bool b] w fun e w' => e = .returned (.tuple #[.int .i64 0, .int .i64 1]) ∧ Drawn0 w w' := by
  subst hnl
  have S := sound_calls A0 c0 l0 w hr0 hn
  rw [hs] at S
  go_enter Try.func20, Try.ntmps20
  go_wp2_with (go_at_call 55; (with_reducible refine S.mono ?_); rintro e w' ⟨rfl, ⟨nd, rfl⟩⟩)
  go_ret2
  exact ⟨rfl, ⟨_, rfl⟩⟩

set_option maxHeartbeats 4000000 in
set_option maxRecDepth 100000 in
theorem drop_none (b B n c : Nat) (f : Int → Option Bool) (r : Int) (w : World) (hc : w.cell? ⟨b, 1, none⟩ = some (.map (some B))) (hm : IMM w B n f c) (hr : -9223372036854775808 ≤ r ∧ r ≤ 9223372036854775807) (hf : f r = none) :
    Calls Try.prog 21 #[.pointer (some ⟨b, 0, none⟩), .int .i64 r] w fun e w' => e = .returned (.int .i64 2) ∧ Below w.heap.size w w' := by
  have L : (Instr.lookup 92 (.map (some B)) (.int .i64 r) true).run Try.prog w = .ok (.tuple #[.agg #[.bool false], .bool false]) w := by
    have := hm.look_ok keyR Try.underlying92 (z := false) (zeroM _) trivial (hkeyR hr)
    rwa [hf] at this
  clear hm hr hf
  go_enter Try.func21, Try.ntmps21
  go_wp2
  go_ret
  exact ⟨rfl, by repeat (first | exact Below.refl _ _ | apply Below.setCell | apply below_alloc)⟩

set_option maxHeartbeats 4000000 in
set_option maxRecDepth 100000 in
theorem numbers_calls (w : World) : Calls Try.prog 6 #[] w fun e w' => e = .returned (.bool true) ∧ Below w.heap.size w w' := by
  have N := new_calls
  go_enter Try.func6, Try.ntmps6
  go_wp2_with fail
  (with_reducible refine (N _).mono ?_)
  rintro e w1 ⟨rfl, hw1⟩
  have hb1 : Below w.heap.size w w1 := by rw [hw1]; exact ((Below.refl _ _).alloc (Nat.le_refl _) _).alloc (by simp) _
  have hz1 : w1.heap.size = w.heap.size + 2 := by rw [hw1]; simp
  have hc1 : w1.cell? ⟨w.heap.size + 1, 1, none⟩ = some (.map (some w.heap.size)) := by rw [hw1]; simp [go_sem]
  have hm1 : IMM w1 w.heap.size 0 (fun _ => none) 0 := by rw [hw1]; exact (IM.made w).alloc _
  clear hw1
  have HB1 := Aside0.mk hb1
  have HZ1 := Aside0.mk hz1
  have HC1 := Aside0.mk hc1
  have HM1 := Aside0.mk hm1
  clear hb1 hz1 hc1 hm1
  obtain ⟨y2, hy2⟩ : ∃ y_ : List Int, y_ = ([0] : List Int) := ⟨_, rfl⟩
  go_wp2_with (first
    | ((with_reducible refine gate_dst (N := 10) rfl ?_); go_loud ((try (refine gate_guard (by rfl) ?_; dsimp only)); refine Kd.R_lit (Kd.int .i64) _ 3 ?hg (N := 10) ?hd (xs := ([0] : List Int)) (inner := [.int .i64 0]) (ok := fun _ => True) (okp := fun _ => True) ?hr ?hp (fun _ hk => hk) trivial (Below.refl _ _) (Nat.le_refl _) (by simp) ?_; (case hd => rfl); (case hg => rfl); (case hr => first | (go_simp; done) | (go_simp; rfl)); (case hp => exact Reps.one (show Kd.M (Kd.int .i64) _ _ _ 0 [.int .i64 0] from rfl) (Reps.none _ _)); intro v2 w2 ho2 hb2 hg_ hnew_; clear hg_ hnew_; have HO2 := Aside0.mk ho2; have HB2 := Aside0.mk hb2; clear ho2 hb2; obtain ⟨Ao2, co2, eo2⟩ := Kd.R_slice HO2.out; subst eo2))
    | (go_at_call 20; go_loud ((with_reducible refine (put_bad _ Ao2 1 co2 ([0] : List Int) false w2 rfl (Kd.R_reads' HO2.out).2.2 (by decide) (by decide)).mono ?_); rintro e w3 ⟨rfl, hd3⟩; have HB3 := Aside0.mk (below_step HB2.out hd3.below); have HC3 := Aside0.mk ((HB3.out.cell (p := ⟨w.heap.size + 1, 1, none⟩) (show w.heap.size + 1 < w1.heap.size by have := HZ1.out; omega)).trans HC1.out); have HM3 := Aside0.mk (IM.below HM1.out HB3.out)))
    | (go_at_call 21; go_loud ((with_reducible refine (drop_none (w.heap.size + 1) w.heap.size 0 0 (fun _ => none) 0 w3 ?hc ?hm (by omega) rfl).mono ?_); (case hc => exact HC3.out); (case hm => exact HM3.out); rintro e w4 ⟨rfl, hb4⟩; have HB4 := Aside0.mk hb4)))
  go_ret
  exact ⟨rfl, below_step HB1.out (below_step HB3.out HB4.out)⟩
end Go.Proofs.YtkkkbcjmkmadhaaHand
namespace Go.Proofs.Ytkkkbcjmkmadhaa.PArenaNumbers
open Go.RowKit
def depotlaw04_ArenaNumbers.f : Option Bool := some true
theorem depotlaw04_ArenaNumbers.calls (r : Bool) (w : World) (h : depotlaw04_ArenaNumbers.f = some r) :
    Calls Try.prog 6 #[] w fun e w' => e = .returned (.bool r) ∧ Below w.heap.size w w' := by
  obtain rfl := Option.some.inj h
  exact Go.Proofs.YtkkkbcjmkmadhaaHand.numbers_calls w
end Go.Proofs.Ytkkkbcjmkmadhaa.PArenaNumbers
