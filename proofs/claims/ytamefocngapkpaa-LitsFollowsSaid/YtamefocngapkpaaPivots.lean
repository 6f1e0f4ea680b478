/- What lits.pivots hands out: an iterator over the variables, rising, that a tidy clause has and another one has the opposite of. -/
import Derived.Test.YtamefocngapkpaaSearch
import Derived.RangeFuncNested
import Derived.RangeFuncBound
import Derived.RangeFuncCalls
import Derived.RangeFuncLeaves
import Derived.Shelf.Abstract
import Derived.Shelf.RegionOpen
import Derived.WalkKit
import Derived.OwnWalkIn
import Derived.TacticsInMore
import Derived.LoopNIn
import Derived.LoopIn
namespace Go.Proofs.YtamefocngapkpaaMath
open Go.RowKit Go.Proofs.YtamefocngapkpaaW.PrintWords
def isPiv (b : List Int) (v : Int) : Bool := decide (0 ≤ v) && b.contains (-v)
def pivOf (a b : List Int) : List Int := a.filter (isPiv b)
theorem pivOf_take {a b : List Int} {k : Nat} (h : k < a.length) : pivOf (a.take (k + 1)) b = pivOf (a.take k) b ++ (if isPiv b (rd a (k : Int)) = true then [rd a (k : Int)] else []) := by
  unfold pivOf
  rw [take_rd h, List.filter_append]
  cases hh : isPiv b (rd a (k : Int)) <;> simp [hh]
end Go.Proofs.YtamefocngapkpaaMath
namespace Go.Proofs.YtamefocngapkpaaHand
open Go.RowKit Go.Sort Go.Lib Go.Shelf Go.Proofs.YtamefocngapkpaaW.PrintWords Go.Proofs.YtamefocngapkpaaW.PrintLast Go.Proofs.YtamefocngapkpaaMath
attribute [local go_sem] Oper.semAt_some
set_option linter.unusedVariables false
set_option linter.unusedSimpArgs false

theorem sortWorld_same {enc : Int → Value} {W : World} {g n : Nat} {d : Array Int} {os : Array Obj} (h : Holds enc W g 0 d) : sortWorld enc W g 0 n d os = grow (W.drewN n) os := by
  have h0 := sortWorld_start enc W g 0 d h
  unfold sortWorld at h0 ⊢
  rw [grow_empty] at h0
  have := putRow_drewN enc W 0 n g 0 d
  rw [Nat.zero_add] at this
  rw [← this, h0]

theorem search_quiet (W : World) (base g cap : Nat) (xs : List Int) (l : Int) (h : OwnInts W base (.slice (some ⟨g, 0, none⟩) xs.length cap) xs) (hr : Rising xs) (hf : ∀ x ∈ xs, formed x = true) (hl : formed l = true) (hn : xs.length < 4611686018427387904) :
    Calls Try.prog 64 #[.slice (some ⟨g, 0, none⟩) xs.length cap, .int .i64 l, .func (.func 58) #[] #[]] W fun e W' => ∃ n : Int, e = .returned (.tuple #[.int .i64 n, .bool (xs.contains l)]) ∧ W.grownBy W' none := by
  obtain ⟨hH, hg, _, _⟩ := own_holds h
  have hcmp : CmpLaysT Try.prog 58 #[] (Value.int .i64) (.int .i64 l) (fun x => byIdx x l) g 0 xs.toArray.size W := by
    intro m os dk _ x
    refine (byIndex_calls x l _).mono ?_
    rintro e w' ⟨rfl, ⟨q, rfl⟩⟩
    exact ⟨rfl, q, #[], rfl⟩
  have hmono : ∀ a b, a ≤ b → b < xs.toArray.size → (fun x => byIdx x l) xs.toArray[b]! < 0 → (fun x => byIdx x l) xs.toArray[a]! < 0 := by
    intro a b hab hb hlt
    rcases Nat.eq_or_lt_of_le hab with rfl | hab
    · exact hlt
    · simp only [List.size_toArray] at hb
      have e1 : xs.toArray[b]! = xs[b] := by simp [hb]
      have e2 : xs.toArray[a]! = xs[a]'(by omega) := by simp [show a < xs.length by omega]
      have := List.pairwise_iff_getElem.1 hr a b (by omega) hb hab
      simp only [e1, e2, byIdx] at hlt ⊢
      omega
  have hc := Any.slices_BinarySearchFunc Try.searchF (Value.int .i64) (fun _ => rfl) (.int .i64 l) (fun x => byIdx x l) 58 #[] g 0 cap xs.toArray W (enters_of Try.func58 (by kernel_rfl) rfl) hcmp hH hg (by simpa using hn) hmono
  refine Calls.mono hc ?_
  rintro e W' ⟨rfl, n, os, rfl⟩
  have hm := search_math l hl xs hr hf
  have e1 : xs.toArray.toList = xs := by simp
  have hb : (decide (xs.countP (fun x => decide (byIdx x l < 0)) < xs.length) && decide (byIdx (xs.toArray[xs.countP (fun x => decide (byIdx x l < 0))]!) l = 0)) = xs.contains l := by
    rw [Bool.eq_iff_iff]
    simp only [Bool.and_eq_true, decide_eq_true_eq, List.contains_iff_mem]
    exact hm
  rw [e1, List.size_toArray, hb]
  refine ⟨_, rfl, ?_⟩
  rw [sortWorld_same hH]
  refine ⟨rfl, rfl, rfl, by simp [grow, World.drewN], fun k hk _ => ?_⟩
  simp only [grow, World.drewN]
  rw [Array.getElem?_append_left hk]

set_option maxRecDepth 100000 in
set_option maxHeartbeats 4000000 in
theorem pivots1_in (n : Nat) (hn : 1 ≤ n) (l Ba Bb n₀ g1 c1 g2 c2 base : Nat) (xs ys : List Int) (hys : Rising ys) (hyf : ∀ x ∈ ys, formed x = true) (hxf : ∀ x ∈ xs, formed x = true) (hxl : xs.length ≤ 2097152) (hyl : ys.length ≤ 2097152) (hBa' : Ba < n₀) (hBb' : Bb < n₀) (hg1 : g1 < n₀) (hg2 : g2 < n₀)
    (J Jx : List Int → World → Prop) (W : World) (hn₀ : n₀ ≤ W.heap.size) (hJ : AbidesFrom W.heap.size J)
    (hY : ∀ pre x W, J pre W → pre.length < xs.length → YieldAt Fence.wide (n - 1) Try.prog l #[.int .i64 x] W fun e W' =>
      (e = .returned (.bool true) ∧ J (pre ++ [x]) W' ∧ Below n₀ W W') ∨ (e = .returned (.bool false) ∧ Jx (pre ++ [x]) W'))
    (hBa : W.cell? ⟨Ba, 0, none⟩ = some (.slice (some ⟨g1, 0, none⟩) xs.length c1)) (hBb : W.cell? ⟨Bb, 0, none⟩ = some (.slice (some ⟨g2, 0, none⟩) ys.length c2))
    (hc : ∀ j, j < xs.length → W.cell? ⟨g1, j, none⟩ = some (.int .i64 (rd xs (j : Int)))) (ho : OwnInts W base (.slice (some ⟨g2, 0, none⟩) ys.length c2) ys) (h0 : J [] W) :
    CallsIn Fence.wide n Try.prog 79 #[.func (.yield l) #[] #[], .pointer (some ⟨Ba, 0, none⟩), .pointer (some ⟨Bb, 0, none⟩)] W fun e W' => (∃ v, e = .returned v) ∧
      ((∃ zs, zs = pivOf xs ys ∧ J zs W') ∨ (∃ pre, (∃ k, k ≤ xs.length ∧ pre = pivOf (xs.take k) ys) ∧ Jx pre W')) := by
  refine callsIn_of_wp Try.func79 rfl trivial ?_ rfl
  simp only [Try.ntmps79, List.size_toArray, List.length_cons, List.length_nil, Nat.reduceAdd, Nat.reduceSub, Array.replicate_succ, Array.replicate_zero, List.push_toArray, List.append_toArray, List.nil_append, List.cons_append]
  gi_wp2
  gi_loopw [10] (fun i wr => ∃ k : Nat, k ≤ xs.length ∧ i = .int .i64 k ∧ J (pivOf (xs.take k) ys) wr ∧ Below n₀ W wr)
    (fun i _ => xs.length - (intOf i).toNat)
  case atStart => exact ⟨0, Nat.zero_le _, rfl, h0, Below.refl _ _⟩
  case round =>
    obtain ⟨k, hk, rfl, hJs, hnx⟩ := hrel
    by_cases hlt : k < xs.length
    · have hcx := (hnx.cell (p := ⟨g1, k, none⟩) hg1).trans (hc k hlt)
      have hb2 := (hnx.cell (p := ⟨Bb, 0, none⟩) hBb').trans hBb
      have hpt := pivOf_take (b := ys) hlt
      have hfx := hxf _ (rd_mem hlt)
      have hbd := formed_bd hfx
      generalize rd xs (k : Int) = x at *
      have hneg : wrap64 (-x) = -x := by unfold wrap64; omega
      by_cases c0 : x < 0
      · have e0 : isPiv ys x = false := by unfold isPiv; rw [decide_eq_false (by omega), Bool.false_and]
        have c0' : decide (x < 0) = true := decide_eq_true c0
        gi_wp2
        go_roundw
        case rel => exact ⟨k + 1, by omega, by simp, by rw [hpt, e0]; simpa using hJs, hnx⟩
        case measure => simp [intOf]; omega
      · have c0' : decide (x < 0) = false := decide_eq_false c0
        have hfn : formed (-x) = true := by rw [formed_neg]; exact hfx
        have hown : OwnInts wr base (.slice (some ⟨g2, 0, none⟩) ys.length c2) ys := own_move ho (fun j hj => hnx.block j (by simp [Value.ownBlock] at hj; omega))
        have S := search_quiet wr base g2 c2 ys (-x) hown hys hyf hfn (by omega)
        cases hcn : ys.contains (-x) with
        | false =>
          have e0 : isPiv ys x = false := by unfold isPiv; rw [hcn, Bool.and_false]
          rw [hcn] at S
          have HSS := Aside0.mk S
          clear S
          gi_wp2
          refine ⟨trivial, ?_⟩
          (with_reducible refine (callsIn_wide.2 HSS.out).mono ?_)
          rintro e w2 ⟨q, rfl, hgb⟩
          gi_wp2
          refine ⟨fun _ h => (by cases h), ?_⟩
          gi_wp2
          have hJ2 := hJ _ wr w2 none hJs hgb (by intro r hr; cases hr)
          have hb2 : Below n₀ wr w2 := ⟨hgb.os, hgb.tape, hgb.output, hgb.size, fun i hi => hgb.block i (by have := hnx.size; omega) (by simp)⟩
          go_roundw
          case rel => exact ⟨k + 1, by omega, by simp, by rw [hpt, e0]; simpa using hJ2, hnx.trans hb2⟩
          case measure => simp [intOf]; omega
        | true =>
          have e0 : isPiv ys x = true := by unfold isPiv; rw [hcn, decide_eq_true (by omega)]; rfl
          rw [hcn] at S
          have HSS := Aside0.mk S
          clear S
          gi_wp2
          refine ⟨trivial, ?_⟩
          (with_reducible refine (callsIn_wide.2 HSS.out).mono ?_)
          rintro e w2 ⟨q, rfl, hgb⟩
          have hJ2 := hJ _ wr w2 none hJs hgb (by intro r hr; cases hr)
          have hb2 : Below n₀ wr w2 := ⟨hgb.os, hgb.tape, hgb.output, hgb.size, fun i hi => hgb.block i (by have := hnx.size; omega) (by simp)⟩
          obtain ⟨fn, tmps, assign, body, hy, hR⟩ := hY _ x w2 hJ2 (by unfold pivOf; have := List.length_filter_le (isPiv ys) (xs.take k); rw [List.length_take] at this; omega)
          gi_wp2
          refine hR.mono ?_
          rintro e W3 (⟨rfl, hJ3, hk3⟩ | ⟨rfl, hJx3⟩)
          · gi_wp2
            go_roundw
            case rel => exact ⟨k + 1, by omega, by simp, by rw [hpt, e0]; exact hJ3, hnx.trans (hb2.trans hk3)⟩
            case measure => simp [intOf]; omega
          · gi_wp2
            refine bodyPost_ret (results_none rfl _ _ _) rfl ?_
            exact ⟨⟨_, rfl⟩, .inr ⟨_, ⟨k + 1, by omega, by rw [hpt, e0]; rfl⟩, hJx3⟩⟩
    · obtain rfl : k = xs.length := by omega
      gi_wp2
      go_end0
      exact ⟨⟨_, rfl⟩, .inl ⟨_, by rw [List.take_length], hJs⟩⟩

theorem pivots_calls (A1 A2 : Option Addr) (n1 n2 c1 c2 : Nat) (w : World) :
    Calls Try.prog 68 #[.slice A1 n1 c1, .slice A2 n2 c2] w fun e w' => e = .returned (.func (.func 79) #[] #[.pointer (some ⟨w.heap.size, 0, none⟩), .pointer (some ⟨w.heap.size + 1, 0, none⟩)]) ∧ w' = (w.alloc (.cells #[.slice A1 n1 c1] 26)).alloc (.cells #[.slice A2 n2 c2] 26) := by
  go_enter Try.func68, Try.ntmps68
  go_wp2
  go_ret
  exact ⟨rfl, rfl⟩

theorem pivots_stops (n : Nat) (hn : 1 ≤ n) (Ba Bb g1 c1 g2 c2 base : Nat) (xs ys : List Int) (hys : Rising ys) (hyf : ∀ x ∈ ys, formed x = true) (hxf : ∀ x ∈ xs, formed x = true) (hxl : xs.length ≤ 2097152) (hyl : ys.length ≤ 2097152) (w : World) (hBa' : Ba < w.heap.size) (hBb' : Bb < w.heap.size) (hg1 : g1 < w.heap.size) (hg2 : g2 < w.heap.size)
    (hBa : w.cell? ⟨Ba, 0, none⟩ = some (.slice (some ⟨g1, 0, none⟩) xs.length c1)) (hBb : w.cell? ⟨Bb, 0, none⟩ = some (.slice (some ⟨g2, 0, none⟩) ys.length c2))
    (hc : ∀ j, j < xs.length → w.cell? ⟨g1, j, none⟩ = some (.int .i64 (rd xs (j : Int)))) (ho : OwnInts w base (.slice (some ⟨g2, 0, none⟩) ys.length c2) ys) :
    SeqStopsK Fence.wide n Try.prog 79 #[.pointer (some ⟨Ba, 0, none⟩), .pointer (some ⟨Bb, 0, none⟩)] (fun x : Int => #[Value.int .i64 x]) (Below w.heap.size) (fun zs => zs = pivOf xs ys) (fun pre => ∃ k, k ≤ xs.length ∧ pre = pivOf (xs.take k) ys) xs.length w := fun l J Jx W hW hJ hJx hY h0 => by
  refine (pivots1_in n hn l Ba Bb w.heap.size g1 c1 g2 c2 base xs ys hys hyf hxf hxl hyl hBa' hBb' hg1 hg2 J Jx W hW.size hJ hY ((hW.cell (p := ⟨Ba, 0, none⟩) hBa').trans hBa) ((hW.cell (p := ⟨Bb, 0, none⟩) hBb').trans hBb) (fun j hj => (hW.cell (p := ⟨g1, j, none⟩) hg1).trans (hc j hj)) (own_move ho (fun j hj => hW.block j (by simp [Value.ownBlock] at hj; omega))) h0).mono ?_
  rintro e W' ⟨he, ⟨zs, hz, hj⟩ | ⟨pre, hp, hj⟩⟩
  · exact ⟨he, .inl ⟨zs, hz, hj⟩⟩
  · exact ⟨he, .inr ⟨pre, hp, hj⟩⟩
end Go.Proofs.YtamefocngapkpaaHand
