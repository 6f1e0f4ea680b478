/- What lits.pivots hands out: an iterator over the variables, rising, that a tidy clause has and another one has the opposite of. -/
import Derived.Test.YtggnnnddnppcpaaClCnfResolventsi
import Derived.RangeFuncNested
import Derived.RangeFuncBound
import Derived.RangeFuncCalls
import Derived.RangeFuncLeaves
import Derived.Shelf.Abstract
import Derived.Shelf.RegionOpen
import Derived.WalkKit
import Derived.OwnWalkIn
import Derived.TacticsInMore
import Derived.LoopNIn
import Derived.LoopIn
import Derived.Test.YtggnnnddnppcpaaClCnfResolventsd
import Derived.Test.YtggnnnddnppcpaaClCnfResolventse
/-! text YtggnnnddnppcpaaPivots -/
namespace Go.Proofs.YtggnnnddnppcpaaMath
open Go.RowKit Go.Proofs.YtggnnnddnppcpaaW.PrintWords
def isPiv (b : List Int) (v : Int) : Bool := decide (0 ≤ v) && b.contains (-v)
def pivOf (a b : List Int) : List Int := a.filter (isPiv b)
theorem pivOf_take {a b : List Int} {k : Nat} (h : k < a.length) : pivOf (a.take (k + 1)) b = pivOf (a.take k) b ++ (if isPiv b (rd a (k : Int)) = true then [rd a (k : Int)] else []) := by
  unfold pivOf
  rw [take_rd h, List.filter_append]
  cases hh : isPiv b (rd a (k : Int)) <;> simp [hh]
end Go.Proofs.YtggnnnddnppcpaaMath
namespace Go.Proofs.YtggnnnddnppcpaaHand
open Go.RowKit Go.Sort Go.Lib Go.Shelf Go.Proofs.YtggnnnddnppcpaaW.PrintWords Go.Proofs.YtggnnnddnppcpaaW.PrintLast Go.Proofs.YtggnnnddnppcpaaMath
attribute [local go_sem] Oper.semAt_some
set_option linter.unusedVariables false
set_option linter.unusedSimpArgs false

theorem sortWorld_same {enc : Int → Value} {W : World} {g n : Nat} {d : Array Int} {os : Array Obj} (h : Holds enc W g 0 d) : sortWorld enc W g 0 n d os = grow (W.drewN n) os := by
  have h0 := sortWorld_start enc W g 0 d h
  unfold sortWorld at h0 ⊢
  rw [grow_empty] at h0
  have := putRow_drewN enc W 0 n g 0 d
  rw [Nat.zero_add] at this
  rw [← this, h0]

theorem search_quiet (W : World) (base g cap : Nat) (xs : List Int) (l : Int) (h : OwnInts W base (.slice (some ⟨g, 0, none⟩) xs.length cap) xs) (hr : Rising xs) (hf : ∀ x ∈ xs, formed x = true) (hl : formed l = true) (hn : xs.length < 4611686018427387904) :
    Calls Try.prog 88 #[.slice (some ⟨g, 0, none⟩) xs.length cap, .int .i64 l, .func (.func 89) #[] #[]] W fun e W' => ∃ n : Int, e = .returned (.tuple #[.int .i64 n, .bool (xs.contains l)]) ∧ W.grownBy W' none := by
  obtain ⟨hH, hg, _, _⟩ := own_holds h
  have hcmp : CmpLaysT Try.prog 89 #[] (Value.int .i64) (.int .i64 l) (fun x => byIdx x l) g 0 xs.toArray.size W := by
    intro m os dk _ x
    refine (byIndex_calls x l _).mono ?_
    rintro e w' ⟨rfl, ⟨q, rfl⟩⟩
    exact ⟨rfl, q, #[], rfl⟩
  have hmono : ∀ a b, a ≤ b → b < xs.toArray.size → (fun x => byIdx x l) xs.toArray[b]! < 0 → (fun x => byIdx x l) xs.toArray[a]! < 0 := by
    intro a b hab hb hlt
    rcases Nat.eq_or_lt_of_le hab with rfl | hab
    · exact hlt
    · simp only [List.size_toArray] at hb
      have e1 : xs.toArray[b]! = xs[b] := by simp [hb]
      have e2 : xs.toArray[a]! = xs[a]'(by omega) := by simp [show a < xs.length by omega]
      have := List.pairwise_iff_getElem.1 hr a b (by omega) hb hab
      simp only [e1, e2, byIdx] at hlt ⊢
      omega
  have hc := Any.slices_BinarySearchFunc Try.searchF (Value.int .i64) (fun _ => rfl) (.int .i64 l) (fun x => byIdx x l) 89 #[] g 0 cap xs.toArray W (enters_of Try.func89 (by kernel_rfl) rfl) hcmp hH hg (by simpa using hn) hmono
  refine Calls.mono hc ?_
  rintro e W' ⟨rfl, n, os, rfl⟩
  have hm := search_math l hl xs hr hf
  have e1 : xs.toArray.toList = xs := by simp
  have hb : (decide (xs.countP (fun x => decide (byIdx x l < 0)) < xs.length) && decide (byIdx (xs.toArray[xs.countP (fun x => decide (byIdx x l < 0))]!) l = 0)) = xs.contains l := by
    rw [Bool.eq_iff_iff]
    simp only [Bool.and_eq_true, decide_eq_true_eq, List.contains_iff_mem]
    exact hm
  rw [e1, List.size_toArray, hb]
  refine ⟨_, rfl, ?_⟩
  rw [sortWorld_same hH]
  refine ⟨rfl, rfl, rfl, by simp [grow, World.drewN], fun k hk _ => ?_⟩
  simp only [grow, World.drewN]
  rw [Array.getElem?_append_left hk]

set_option maxRecDepth 100000 in
set_option maxHeartbeats 4000000 in
theorem pivots1_in (n : Nat) (hn : 1 ≤ n) (l Ba Bb n₀ g1 c1 g2 c2 base : Nat) (xs ys : List Int) (hys : Rising ys) (hyf : ∀ x ∈ ys, formed x = true) (hxf : ∀ x ∈ xs, formed x = true) (hxl : xs.length ≤ 2097152) (hyl : ys.length ≤ 2097152) (hBa' : Ba < n₀) (hBb' : Bb < n₀) (hg1 : g1 < n₀) (hg2 : g2 < n₀)
    (J Jx : List Int → World → Prop) (W : World) (hn₀ : n₀ ≤ W.heap.size) (hJ : AbidesFrom W.heap.size J)
    (hY : ∀ pre x W, J pre W → pre.length < xs.length → YieldAt Fence.wide (n - 1) Try.prog l #[.int .i64 x] W fun e W' =>
      (e = .returned (.bool true) ∧ J (pre ++ [x]) W' ∧ Below n₀ W W') ∨ (e = .returned (.bool false) ∧ Jx (pre ++ [x]) W'))
    (hBa : W.cell? ⟨Ba, 0, none⟩ = some (.slice (some ⟨g1, 0, none⟩) xs.length c1)) (hBb : W.cell? ⟨Bb, 0, none⟩ = some (.slice (some ⟨g2, 0, none⟩) ys.length c2))
    (hc : ∀ j, j < xs.length → W.cell? ⟨g1, j, none⟩ = some (.int .i64 (rd xs (j : Int)))) (ho : OwnInts W base (.slice (some ⟨g2, 0, none⟩) ys.length c2) ys) (h0 : J [] W) :
    CallsIn Fence.wide n Try.prog 87 #[.func (.yield l) #[] #[], .pointer (some ⟨Ba, 0, none⟩), .pointer (some ⟨Bb, 0, none⟩)] W fun e W' => (∃ v, e = .returned v) ∧
      ((∃ zs, zs = pivOf xs ys ∧ J zs W') ∨ (∃ pre, (∃ k, k ≤ xs.length ∧ pre = pivOf (xs.take k) ys) ∧ Jx pre W')) := by
  refine callsIn_of_wp Try.func87 rfl trivial ?_ rfl
  simp only [Try.ntmps87, List.size_toArray, List.length_cons, List.length_nil, Nat.reduceAdd, Nat.reduceSub, Array.replicate_succ, Array.replicate_zero, List.push_toArray, List.append_toArray, List.nil_append, List.cons_append]
  gi_wp2
  gi_loopw [10] (fun i wr => ∃ k : Nat, k ≤ xs.length ∧ i = .int .i64 k ∧ J (pivOf (xs.take k) ys) wr ∧ Below n₀ W wr)
    (fun i _ => xs.length - (intOf i).toNat)
  case atStart => exact ⟨0, Nat.zero_le _, rfl, h0, Below.refl _ _⟩
  case round =>
    obtain ⟨k, hk, rfl, hJs, hnx⟩ := hrel
    by_cases hlt : k < xs.length
    · have hcx := (hnx.cell (p := ⟨g1, k, none⟩) hg1).trans (hc k hlt)
      have hb2 := (hnx.cell (p := ⟨Bb, 0, none⟩) hBb').trans hBb
      have hpt := pivOf_take (b := ys) hlt
      have hfx := hxf _ (rd_mem hlt)
      have hbd := formed_bd hfx
      generalize rd xs (k : Int) = x at *
      have hneg : wrap64 (-x) = -x := by unfold wrap64; omega
      by_cases c0 : x < 0
      · have e0 : isPiv ys x = false := by unfold isPiv; rw [decide_eq_false (by omega), Bool.false_and]
        have c0' : decide (x < 0) = true := decide_eq_true c0
        gi_wp2
        go_roundw
        case rel => exact ⟨k + 1, by omega, by simp, by rw [hpt, e0]; simpa using hJs, hnx⟩
        case measure => simp [intOf]; omega
      · have c0' : decide (x < 0) = false := decide_eq_false c0
        have hfn : formed (-x) = true := by rw [formed_neg]; exact hfx
        have hown : OwnInts wr base (.slice (some ⟨g2, 0, none⟩) ys.length c2) ys := own_move ho (fun j hj => hnx.block j (by simp [Value.ownBlock] at hj; omega))
        have S := search_quiet wr base g2 c2 ys (-x) hown hys hyf hfn (by omega)
        cases hcn : ys.contains (-x) with
        | false =>
          have e0 : isPiv ys x = false := by unfold isPiv; rw [hcn, Bool.and_false]
          rw [hcn] at S
          have HSS := Aside0.mk S
          clear S
          gi_wp2
          refine ⟨trivial, ?_⟩
          (with_reducible refine (callsIn_wide.2 HSS.out).mono ?_)
          rintro e w2 ⟨q, rfl, hgb⟩
          gi_wp2
          refine ⟨fun _ h => (by cases h), ?_⟩
          gi_wp2
          have hJ2 := hJ _ wr w2 none hJs hgb (by intro r hr; cases hr)
          have hb2 : Below n₀ wr w2 := ⟨hgb.os, hgb.tape, hgb.output, hgb.size, fun i hi => hgb.block i (by have := hnx.size; omega) (by simp)⟩
          go_roundw
          case rel => exact ⟨k + 1, by omega, by simp, by rw [hpt, e0]; simpa using hJ2, hnx.trans hb2⟩
          case measure => simp [intOf]; omega
        | true =>
          have e0 : isPiv ys x = true := by unfold isPiv; rw [hcn, decide_eq_true (by omega)]; rfl
          rw [hcn] at S
          have HSS := Aside0.mk S
          clear S
          gi_wp2
          refine ⟨trivial, ?_⟩
          (with_reducible refine (callsIn_wide.2 HSS.out).mono ?_)
          rintro e w2 ⟨q, rfl, hgb⟩
          have hJ2 := hJ _ wr w2 none hJs hgb (by intro r hr; cases hr)
          have hb2 : Below n₀ wr w2 := ⟨hgb.os, hgb.tape, hgb.output, hgb.size, fun i hi => hgb.block i (by have := hnx.size; omega) (by simp)⟩
          obtain ⟨fn, tmps, assign, body, hy, hR⟩ := hY _ x w2 hJ2 (by unfold pivOf; have := List.length_filter_le (isPiv ys) (xs.take k); rw [List.length_take] at this; omega)
          gi_wp2
          refine hR.mono ?_
          rintro e W3 (⟨rfl, hJ3, hk3⟩ | ⟨rfl, hJx3⟩)
          · gi_wp2
            go_roundw
            case rel => exact ⟨k + 1, by omega, by simp, by rw [hpt, e0]; exact hJ3, hnx.trans (hb2.trans hk3)⟩
            case measure => simp [intOf]; omega
          · gi_wp2
            refine bodyPost_ret (results_none rfl _ _ _) rfl ?_
            exact ⟨⟨_, rfl⟩, .inr ⟨_, ⟨k + 1, by omega, by rw [hpt, e0]; rfl⟩, hJx3⟩⟩
    · obtain rfl : k = xs.length := by omega
      gi_wp2
      go_end0
      exact ⟨⟨_, rfl⟩, .inl ⟨_, by rw [List.take_length], hJs⟩⟩

theorem pivots_calls (A1 A2 : Option Addr) (n1 n2 c1 c2 : Nat) (w : World) :
    Calls Try.prog 79 #[.slice A1 n1 c1, .slice A2 n2 c2] w fun e w' => e = .returned (.func (.func 87) #[] #[.pointer (some ⟨w.heap.size, 0, none⟩), .pointer (some ⟨w.heap.size + 1, 0, none⟩)]) ∧ w' = (w.alloc (.cells #[.slice A1 n1 c1] 43)).alloc (.cells #[.slice A2 n2 c2] 43) := by
  go_enter Try.func79, Try.ntmps79
  go_wp2
  go_ret
  exact ⟨rfl, rfl⟩

theorem pivots_stops (n : Nat) (hn : 1 ≤ n) (Ba Bb g1 c1 g2 c2 base : Nat) (xs ys : List Int) (hys : Rising ys) (hyf : ∀ x ∈ ys, formed x = true) (hxf : ∀ x ∈ xs, formed x = true) (hxl : xs.length ≤ 2097152) (hyl : ys.length ≤ 2097152) (w : World) (hBa' : Ba < w.heap.size) (hBb' : Bb < w.heap.size) (hg1 : g1 < w.heap.size) (hg2 : g2 < w.heap.size)
    (hBa : w.cell? ⟨Ba, 0, none⟩ = some (.slice (some ⟨g1, 0, none⟩) xs.length c1)) (hBb : w.cell? ⟨Bb, 0, none⟩ = some (.slice (some ⟨g2, 0, none⟩) ys.length c2))
    (hc : ∀ j, j < xs.length → w.cell? ⟨g1, j, none⟩ = some (.int .i64 (rd xs (j : Int)))) (ho : OwnInts w base (.slice (some ⟨g2, 0, none⟩) ys.length c2) ys) :
    SeqStopsK Fence.wide n Try.prog 87 #[.pointer (some ⟨Ba, 0, none⟩), .pointer (some ⟨Bb, 0, none⟩)] (fun x : Int => #[Value.int .i64 x]) (Below w.heap.size) (fun zs => zs = pivOf xs ys) (fun pre => ∃ k, k ≤ xs.length ∧ pre = pivOf (xs.take k) ys) xs.length w := fun l J Jx W hW hJ hJx hY h0 => by
  refine (pivots1_in n hn l Ba Bb w.heap.size g1 c1 g2 c2 base xs ys hys hyf hxf hxl hyl hBa' hBb' hg1 hg2 J Jx W hW.size hJ hY ((hW.cell (p := ⟨Ba, 0, none⟩) hBa').trans hBa) ((hW.cell (p := ⟨Bb, 0, none⟩) hBb').trans hBb) (fun j hj => (hW.cell (p := ⟨g1, j, none⟩) hg1).trans (hc j hj)) (own_move ho (fun j hj => hW.block j (by simp [Value.ownBlock] at hj; omega))) h0).mono ?_
  rintro e W' ⟨he, ⟨zs, hz, hj⟩ | ⟨pre, hp, hj⟩⟩
  · exact ⟨he, .inl ⟨zs, hz, hj⟩⟩
  · exact ⟨he, .inr ⟨pre, hp, hj⟩⟩
end Go.Proofs.YtggnnnddnppcpaaHand
/-! text YtggnnnddnppcpaaWithout -/
namespace Go.Proofs.YtggnnnddnppcpaaHand
open Go.RowKit Go.Sort Go.Lib Go.Shelf Go.Proofs.YtggnnnddnppcpaaW.PrintWords Go.Proofs.YtggnnnddnppcpaaW.PrintLast Go.Proofs.YtggnnnddnppcpaaMath
set_option linter.unusedVariables false
set_option linter.unusedSimpArgs false

theorem is_gives (l x : Int) (B : Nat) (W : World) (hc : W.cell? ⟨B, 0, none⟩ = some (.int .i64 l)) :
    FnGives Try.prog 101 #[.pointer (some ⟨B, 0, none⟩)] #[.int .i64 x] (.bool (x == l)) W := by
  show Calls Try.prog 101 #[.int .i64 x, .pointer (some ⟨B, 0, none⟩)] W _
  go_enter Try.func101, Try.ntmps101
  go_wp2
  all_goals (go_ret; exact ⟨rfl, 0, rfl⟩)
theorem is_pred (l : Int) (B : Nat) (w : World) (hB : B < w.heap.size) (hcell : w.cell? ⟨B, 0, none⟩ = some (.int .i64 l)) :
    PredAt Try.prog 101 #[.pointer (some ⟨B, 0, none⟩)] (Value.int .i64) (fun x => x == l) w :=
  fun W x hb => is_gives l x B W ((hb.cell (p := ⟨B, 0, none⟩) hB).trans hcell)
theorem is_over (l : Int) (B blk off size : Nat) (w : World) (hB : B < w.heap.size) (hne : B ≠ blk) (hcell : w.cell? ⟨B, 0, none⟩ = some (.int .i64 l)) :
    PredOver Try.prog 101 #[.pointer (some ⟨B, 0, none⟩)] (Value.int .i64) (fun x => x == l) blk off size w :=
  fun n os dk x _ => is_gives l x B _ (by
    unfold sortWorld
    rw [cell?_grow _ _ _ (by show B < (putRow _ _ _ _ _).heap.size; rw [size_putRow]; exact hB), cell?_putRow_other _ _ blk off _ _ (Or.inl hne)]
    exact hcell)
theorem delete_calls (W : World) (base g cap B : Nat) (l : Int) (zs : List Int) (h : OwnInts W base (.slice (some ⟨g, 0, none⟩) zs.length cap) zs) (hB : B < W.heap.size) (hne : B ≠ g) (hc : W.cell? ⟨B, 0, none⟩ = some (.int .i64 l)) :
    Calls Try.prog 100 #[.slice (some ⟨g, 0, none⟩) zs.length cap, .func (.func 101) #[] #[.pointer (some ⟨B, 0, none⟩)]] W fun e W' => e = .returned (.slice (some ⟨g, 0, none⟩) (zs.filter fun x => !(x == l)).length cap) ∧
      OwnInts W' base (.slice (some ⟨g, 0, none⟩) (zs.filter fun x => !(x == l)).length cap) (zs.filter fun x => !(x == l)) ∧ W.grownBy W' (some g) := by
  obtain ⟨hH, hg, hcap, hmx⟩ := own_holds h
  have hcon := AnyE.slices_DeleteFunc Try.deleteF (Value.int .i64) (fun _ => rfl) (fun x => x == l) 101 #[.pointer (some ⟨B, 0, none⟩)] (enters_of Try.func101 (by kernel_rfl) rfl) 0 (fun w => by kernel_rfl) g 0 cap zs.toArray W
    (is_pred l B W hB hc) (is_over l B g 0 _ W hB hne hc) hH (by simpa using hmx) (by simpa using hcap)
  change Calls Try.prog 100 _ _ _ at hcon
  simp only [List.size_toArray] at hcon
  refine hcon.mono ?_
  rintro e W' ⟨rfl, q, rfl⟩
  have hle := List.length_filter_le (fun x : Int => !(x == l)) zs
  have hl : ((zs.filter fun x => !(x == l)) ++ List.replicate (zs.length - (zs.filter fun x => !(x == l)).length) (0 : Int)).length = zs.length := by
    rw [List.length_append, List.length_replicate]
    omega
  have ho := own_put (n := q) (os := #[]) h hl
  simp only [grow_empty] at ho
  refine ⟨rfl, ?_, ho.2⟩
  have hcut := own_cut ho.1 (m := (zs.filter fun x => !(x == l)).length) (by rw [hl]; exact hle)
  have e3 : (nums .i64 ((zs.filter fun x => !(x == l)) ++ List.replicate (zs.length - (zs.filter fun x => !(x == l)).length) (0 : Int))).take (zs.filter fun x => !(x == l)).length = nums .i64 (zs.filter fun x => !(x == l)) := by
    rw [nums_append, List.take_append_of_le_length (Nat.le_of_eq (nums_length _ _).symm), List.take_of_length_le (Nat.le_of_eq (nums_length _ _))]
  rw [e3] at hcut
  exact hcut

set_option maxHeartbeats 4000000 in
set_option maxRecDepth 100000 in
theorem without_calls (A0 : Option Addr) (c0 : Nat) (l0 : List Int) (a1 : Int) (w : World) (hr0 : Kd.C (Kd.int .i64) w A0 l0.length l0) (hc0 : l0.length ≤ c0) (hn : l0.length ≤ 17592186044416) :
    Calls Try.prog 93 #[.slice A0 l0.length c0, .int .i64 a1] w fun e w' => ∃ v0_ : Value, e = .returned (v0_) ∧ Kd.R (Kd.int .i64) 3 w' w.heap.size (fun _ => True) v0_ ((tidyOf l0).filter fun x => !(x == a1)) ∧ Below w.heap.size w w' := by
  have T := fun W h => tidy_own A0 c0 l0 W h hc0 hn
  have HT := Aside0.mk T
  have HR0 := Aside0.mk hr0
  clear T hr0 hc0 hn
  go_enter Try.func93, Try.ntmps93
  go_wp2_with fail
  (with_reducible refine (HT.out _ (Kd.C_alloc HR0.out _)).mono ?_)
  rintro e w1 ⟨g, cap, rfl, ho, hb⟩
  have hb0 : Below w.heap.size w w1 := below_step (below_alloc (Below.refl _ _) _) hb
  have hg : w.heap.size + 1 ≤ g := by
    have := own_base ho g rfl
    simpa using this
  have hsz : w.heap.size < w1.heap.size := by
    have := hb.size
    simp at this
    omega
  have hcell : w1.cell? ⟨w.heap.size, 0, none⟩ = some (.int .i64 a1) := (hb.cell (p := ⟨w.heap.size, 0, none⟩) (by simp)).trans (by simp)
  have hob : OwnInts w1 w.heap.size (.slice (some ⟨g, 0, none⟩) (tidyOf l0).length cap) (tidyOf l0) := own_weaken ho (by simp)
  have D := delete_calls w1 w.heap.size g cap w.heap.size a1 (tidyOf l0) hob hsz (by omega) hcell
  have HD := Aside0.mk D
  have HB := Aside0.mk hb0
  have HG : Aside0 (w.heap.size ≤ g) := ⟨by omega⟩
  clear D hb0 hb hg hsz hcell hob ho
  go_wp2_with fail
  (with_reducible refine HD.out.mono ?_)
  rintro e w2 ⟨rfl, ho2, hg2⟩
  have HO2 := Aside0.mk ho2
  have HB2 : Aside0 (Below w.heap.size w w2) := ⟨HB.out.grown hg2 HB.out.size (fun j hj => by cases hj; exact HG.out)⟩
  clear ho2 hg2
  go_wp2
  go_ret
  exact ⟨_, rfl, own_R HO2.out, HB2.out⟩

end Go.Proofs.YtggnnnddnppcpaaHand
/-! text YtggnnnddnppcpaaJoin -/
namespace Go.Proofs.YtggnnnddnppcpaaHand
open Go.RowKit Go.Sort Go.Lib Go.Shelf Go.Proofs.YtggnnnddnppcpaaW.PrintWords Go.Proofs.YtggnnnddnppcpaaW.PrintLast Go.Proofs.YtggnnnddnppcpaaMath
set_option linter.unusedVariables false
set_option linter.unusedSimpArgs false

theorem grow_calls (n : Nat) (hn : n * 8 ≤ 140737488355328) (w : World) :
    Calls Try.prog 113 #[.slice none 0 0, .int .i64 n] w fun e w' => ∃ v : Value, e = .returned v ∧ OwnInts w' w.heap.size v [] ∧ Below w.heap.size w w' := by
  rcases Nat.eq_zero_or_pos n with h0 | h0
  · subst h0
    have h := Any8.slices_Grow_room Try.growF none 0 0 0 w (Nat.le_refl _) (by omega) (by omega) (by omega)
    change Calls Try.prog 113 _ _ _ at h
    refine h.mono ?_
    rintro e w' ⟨rfl, rfl⟩
    exact ⟨_, rfl, own_nil _ _ _ _, Below.refl _ _⟩
  · obtain ⟨i0, hi, hz0, hz1, hz2⟩ := info_parts infoI
    have h := Any8.slices_Grow_grow Try.growF i0 (.int .i64 0) hi hz0 (by omega) none 0 0 n [] w (Nat.le_refl _) (by omega) (by rw [hz2]; omega) (by omega) (by simp) (fun _ => rfl) (fun a h => by cases h)
    change Calls Try.prog 113 _ _ _ at h
    refine h.mono ?_
    rintro e w' ⟨rfl, rfl⟩
    refine ⟨_, rfl, ⟨rfl, .inr ⟨w.heap.size, _, _, rfl, Nat.le_refl _, heap_alloc_new _ _, Nat.zero_le _, grownCap_le_maxLen _ _ _ _ (by simp only [maxLen]; omega), ?_, by simp [nums]⟩⟩, (below_drew (Below.refl _ _)).alloc (by simp) _⟩
    have h2 := grownCap_ge w (0 + n) 0 (Try.growF_ren.t 25)
    generalize grownCap w (0 + n) 0 (Try.growF_ren.t 25) = cp at h2 ⊢
    simp only [Builtin.zeroCells, Array.size_append, List.size_toArray, List.length_nil, Value.cells]
    simp
    omega

set_option maxHeartbeats 4000000 in
set_option maxRecDepth 100000 in
theorem concat_calls (B : Nat) (A0 A1 : Option Addr) (c0 c1 : Nat) (l0 l1 : List Int) (w : World) (hB : B < w.heap.size) (h0 : w.cell? ⟨B, 0, none⟩ = some (.slice A0 l0.length c0)) (h1 : w.cell? ⟨B, 1, none⟩ = some (.slice A1 l1.length c1))
    (hr0 : Kd.C (Kd.int .i64) w A0 l0.length l0) (hr1 : Kd.C (Kd.int .i64) w A1 l1.length l1) (hn : (l0.length + l1.length) * 8 ≤ 140737488355328) :
    Calls Try.prog 99 #[.slice (some ⟨B, 0, none⟩) 2 2] w fun e w' => ∃ v : Value, e = .returned v ∧ OwnInts w' w.heap.size v (l0 ++ l1) ∧ Below w.heap.size w w' := by
  have HR0 := Aside0.mk hr0
  have HR1 := Aside0.mk hr1
  have HN := Aside0.mk hn
  have H0 := Aside0.mk h0
  have H1 := Aside0.mk h1
  have HBB := Aside0.mk hB
  obtain ⟨z, hz⟩ : ∃ z : Int, z = ((l0.length + l1.length : Nat) : Int) := ⟨_, rfl⟩
  have G : ∀ w, Calls Try.prog 113 #[.slice none 0 0, .int .i64 z] w fun e w' => ∃ v : Value, e = .returned v ∧ OwnInts w' w.heap.size v [] ∧ Below w.heap.size w w' := fun w => by rw [hz]; exact grow_calls (l0.length + l1.length) hn w
  have HG := Aside0.mk G
  have s1 : wrap64 (l0.length : Int) = (l0.length : Int) := w64 (by omega) (by omega)
  have s2 : wrap64 ((l0.length : Int) + (l1.length : Int)) = z := by rw [hz, w64 (by omega) (by omega)]; omega
  have p0 : decide (z < 0) = false := decide_eq_false (by omega)
  clear G hr0 hr1 hn hB hz
  go_enter Try.func99, Try.ntmps99
  go_wp2
  go_loop [3, 5, 11] (fun v3 _ v11 => ∃ (k : Nat) (x y : Int), v11 = .int .i64 x ∧ v3 = .int .i64 y ∧ Aside0 (x = k ∧ k ≤ 2 ∧ y = (if k = 0 then 0 else if k = 1 then (l0.length : Int) else z))) (fun _ _ i => 2 - (intOf i).toNat)
  case atStart => exact ⟨0, 0, 0, rfl, rfl, ⟨rfl, by omega, rfl⟩⟩
  case round =>
    obtain ⟨k, x, y, rfl, rfl, HX⟩ := hrel
    obtain ⟨hx, hk, hy⟩ := HX.out
    clear HX
    have hc : k = 0 ∨ k = 1 ∨ k = 2 := by omega
    rcases hc with rfl | rfl | rfl
    · obtain rfl : x = 0 := hx
      obtain rfl : y = 0 := hy
      clear hk
      go_wp2
      go_round
      case measure => simp [intOf]
      case rel => exact ⟨1, _, _, rfl, rfl, ⟨by decide, by omega, by simp [s1]⟩⟩
    · obtain rfl : x = 1 := hx
      obtain rfl : y = (l0.length : Int) := hy
      clear hk
      go_wp2
      go_round
      case measure => simp [intOf]
      case rel => exact ⟨2, _, _, rfl, rfl, ⟨by decide, by omega, by simp [s2]⟩⟩
    · obtain rfl : x = 2 := hx
      obtain rfl : y = z := hy
      clear hk
      go_wp2_with fail
      (with_reducible refine (HG.out _).mono ?_)
      rintro e w1 ⟨v, rfl, ho, hb⟩
      have HO := Aside0.mk ho
      have HB := Aside0.mk hb
      clear ho hb
      go_wp2
      go_loopw [6, 8, 27] (fun v6 _ v27 wr => ∃ (k : Nat) (x : Int), v27 = .int .i64 x ∧ Aside0 (x = k ∧ k ≤ 2) ∧ Aside0 (OwnInts wr w.heap.size v6 (if k = 0 then ([] : List Int) else if k = 1 then ([] : List Int) ++ l0 else ([] : List Int) ++ l0 ++ l1)) ∧ Aside0 (Below w.heap.size w wr)) (fun _ _ i _ => 2 - (intOf i).toNat)
      case atStart => exact ⟨0, 0, rfl, ⟨rfl, by omega⟩, ⟨HO.out⟩, ⟨HB.out⟩⟩
      case round =>
        clear HO HB
        obtain ⟨k, x, rfl, HX, HO, HB⟩ := hrel
        obtain ⟨hx, hk⟩ := HX.out
        clear HX
        have hc : k = 0 ∨ k = 1 ∨ k = 2 := by omega
        rcases hc with rfl | rfl | rfl
        · obtain rfl : x = 0 := hx
          clear hk
          replace HO : Aside0 (OwnInts _ w.heap.size _ ([] : List Int)) := HO
          have k0 := (HB.out.cell (p := ⟨B, 0, none⟩) HBB.out).trans h0
          go_wp2_with ((with_reducible refine gate_builtin (b := .append) (xs := #[.tmp 31, .tmp 32]) rfl ?_); at_builtin; refine print_append_row (w0 := w) w.heap.size rfl (.tmp 31) (.tmp 32) 43 3 .i64 8 rfl Try.underlying43 infoI (by decide) _ ([] : List Int) l0 A0 _ _ rfl rfl ?aO ?aR ?aB ?aS ?aL ?_; (case aO => exact HO.out); (case aR => exact Kd.reads_of_C (Kd.C_below HR0.out HB.out)); (case aB => exact HB.out); (case aS => exact HB.out.size); (case aL => have := HN.out; simp; omega); intro v1 w2 ho1 hb1 hg1 hat; have HO1 := Aside0.mk ho1; have HB1 := Aside0.mk hb1; clear ho1 hb1 hg1 hat)
          go_roundw
          case measure => simp [intOf]
          case rel => exact ⟨1, _, rfl, ⟨by decide, by omega⟩, ⟨HO1.out⟩, ⟨HB1.out⟩⟩
        · obtain rfl : x = 1 := hx
          clear hk
          replace HO : Aside0 (OwnInts _ w.heap.size _ (([] : List Int) ++ l0)) := HO
          have k1 := (HB.out.cell (p := ⟨B, 1, none⟩) HBB.out).trans h1
          go_wp2_with ((with_reducible refine gate_builtin (b := .append) (xs := #[.tmp 31, .tmp 32]) rfl ?_); at_builtin; refine print_append_row (w0 := w) w.heap.size rfl (.tmp 31) (.tmp 32) 43 3 .i64 8 rfl Try.underlying43 infoI (by decide) _ (([] : List Int) ++ l0) l1 A1 _ _ rfl rfl ?aO ?aR ?aB ?aS ?aL ?_; (case aO => exact HO.out); (case aR => exact Kd.reads_of_C (Kd.C_below HR1.out HB.out)); (case aB => exact HB.out); (case aS => exact HB.out.size); (case aL => have := HN.out; simp; omega); intro v1 w2 ho1 hb1 hg1 hat; have HO1 := Aside0.mk ho1; have HB1 := Aside0.mk hb1; clear ho1 hb1 hg1 hat)
          go_roundw
          case measure => simp [intOf]
          case rel => exact ⟨2, _, rfl, ⟨by decide, by omega⟩, ⟨HO1.out⟩, ⟨HB1.out⟩⟩
        · obtain rfl : x = 2 := hx
          clear hk
          replace HO : Aside0 (OwnInts _ w.heap.size _ (([] : List Int) ++ l0 ++ l1)) := HO
          go_wp2
          go_ret
          exact ⟨_, rfl, by simpa using HO.out, HB.out⟩

theorem concat_reads (B : Nat) (A0 A1 : Option Addr) (c0 c1 : Nat) (l0 l1 : List Int) (w : World) (hB : B < w.heap.size) (h0 : w.cell? ⟨B, 0, none⟩ = some (.slice A0 l0.length c0)) (h1 : w.cell? ⟨B, 1, none⟩ = some (.slice A1 l1.length c1))
    (hr0 : Kd.C (Kd.int .i64) w A0 l0.length l0) (hr1 : Kd.C (Kd.int .i64) w A1 l1.length l1) (hn : (l0.length + l1.length) * 8 ≤ 140737488355328) :
    Calls Try.prog 99 #[.slice (some ⟨B, 0, none⟩) 2 2] w fun e w' => ∃ (zs : List Int) (A : Option Addr) (c : Nat), Aside0 (zs = l0 ++ l1) ∧ e = .returned (.slice A zs.length c) ∧ zs.length ≤ c ∧ Kd.C (Kd.int .i64) w' A zs.length zs ∧ Below w.heap.size w w' := by
  refine (concat_calls B A0 A1 c0 c1 l0 l1 w hB h0 h1 hr0 hr1 hn).mono ?_
  rintro e w' ⟨v, rfl, ho, hb⟩
  obtain ⟨A, c, rfl, hl, hC⟩ := Kd.R_reads (own_R ho)
  exact ⟨_, A, c, ⟨rfl⟩, rfl, hl, hC, hb⟩

set_option maxHeartbeats 4000000 in
set_option maxRecDepth 100000 in
theorem join_calls (A0 A1 : Option Addr) (c0 c1 : Nat) (l0 l1 : List Int) (w : World) (hr0 : Kd.C (Kd.int .i64) w A0 l0.length l0) (hc0 : l0.length ≤ c0) (hr1 : Kd.C (Kd.int .i64) w A1 l1.length l1) (hc1 : l1.length ≤ c1) (hn : l0.length + l1.length ≤ 17592186044416) :
    Calls Try.prog 92 #[.slice A0 l0.length c0, .slice A1 l1.length c1] w fun e w' => ∃ v0_ : Value, e = .returned (v0_) ∧ Kd.R (Kd.int .i64) 3 w' w.heap.size (fun _ => True) v0_ (tidyOf (l0 ++ l1)) ∧ Below w.heap.size w w' := by
  have HR0 := Aside0.mk hr0
  have HR1 := Aside0.mk hr1
  have HN := Aside0.mk hn
  clear hr0 hc0 hr1 hc1 hn
  go_enter Try.func92, Try.ntmps92
  go_wp2_with fail
  (with_reducible refine (concat_reads _ A0 A1 c0 c1 l0 l1 _ ?h1 ?h2 ?h3 ?h4 ?h5 ?h6).mono ?_)
  case h1 => simp
  case h2 => simp
  case h3 => simp
  case h4 => exact Kd.C_alloc HR0.out _
  case h5 => exact Kd.C_alloc HR1.out _
  case h6 => have := HN.out; omega
  rintro e w1 ⟨zs, A, c, HZ, rfl, hl, hC, hb⟩
  have hb0 : Below w.heap.size w w1 := below_step (below_alloc (Below.refl _ _) _) hb
  have hzl : zs.length ≤ 17592186044416 := by have := HN.out; rw [HZ.out]; simp; omega
  have T := tidy_calls A c zs w1 hC hl hzl
  clear hzl
  have HT := Aside0.mk T
  have HB := Aside0.mk hb0
  clear T hb0 hb hl hC
  go_wp2_with fail
  (with_reducible refine HT.out.mono ?_)
  rintro e w2 ⟨v2, rfl, ho2, hb2⟩
  rw [HZ.out] at ho2
  have HO2 := Aside0.mk (Kd.R_lower ho2 HB.out.size)
  have HB2 : Aside0 (Below w.heap.size w w2) := ⟨below_step HB.out hb2⟩
  clear ho2 hb2
  go_wp2
  go_ret
  exact ⟨_, rfl, HO2.out, HB2.out⟩

end Go.Proofs.YtggnnnddnppcpaaHand
/-! text YtggnnnddnppcpaaOn -/
namespace Go.Proofs.YtggnnnddnppcpaaMath
open Go.RowKit Go.Proofs.YtggnnnddnppcpaaW.PrintWords
/-- the literals of the list but one, tidy -/
def lessOf (c : List Int) (l : Int) : List Int := (tidyOf c).filter fun x => !(x == l)
theorem lessOf_length (c : List Int) (l : Int) : (lessOf c l).length ≤ 2097152 := Nat.le_trans (List.length_filter_le _ _) (formed_count (tidyOf c) (rising_tidyOf _) (fun _ h => tidyOf_formed h))
/-- what follows from both on v -/
def onOf (a b : List Int) (v : Int) : List Int := tidyOf (lessOf a v ++ lessOf b (-v))
end Go.Proofs.YtggnnnddnppcpaaMath
namespace Go.Proofs.YtggnnnddnppcpaaHand
open Go.RowKit Go.Sort Go.Lib Go.Shelf Go.Proofs.YtggnnnddnppcpaaW.PrintWords Go.Proofs.YtggnnnddnppcpaaW.PrintLast Go.Proofs.YtggnnnddnppcpaaMath
set_option linter.unusedVariables false
set_option linter.unusedSimpArgs false

set_option maxHeartbeats 4000000 in
set_option maxRecDepth 100000 in
theorem on_calls (A0 A1 : Option Addr) (c0 c1 : Nat) (l0 l1 : List Int) (v : Int) (w : World) (hr0 : Kd.C (Kd.int .i64) w A0 l0.length l0) (hc0 : l0.length ≤ c0) (hr1 : Kd.C (Kd.int .i64) w A1 l1.length l1) (hc1 : l1.length ≤ c1)
    (hn0 : l0.length ≤ 17592186044416) (hn1 : l1.length ≤ 17592186044416) (hv : -9223372036854775807 ≤ v ∧ v ≤ 9223372036854775807) :
    Calls Try.prog 81 #[.slice A0 l0.length c0, .slice A1 l1.length c1, .int .i64 v] w fun e w' => ∃ v0_ : Value, e = .returned (v0_) ∧ Kd.R (Kd.int .i64) 3 w' w.heap.size (fun _ => True) v0_ (onOf l0 l1 v) ∧ Below w.heap.size w w' := by
  have HR0 := Aside0.mk hr0
  have HR1 := Aside0.mk hr1
  have W0 := fun w (h : Kd.C (Kd.int .i64) w A0 l0.length l0) => without_calls A0 c0 l0 v w h hc0 hn0
  have W1 := fun w (h : Kd.C (Kd.int .i64) w A1 l1.length l1) => without_calls A1 c1 l1 (-v) w h hc1 hn1
  have hneg : wrap64 (-v) = -v := by unfold wrap64; omega
  have z0 := lessOf_length l0 v
  have z1 := lessOf_length l1 (-v)
  unfold lessOf at z0 z1
  obtain ⟨r, hr⟩ : ∃ r, r = onOf l0 l1 v := ⟨_, rfl⟩
  rw [← hr]
  unfold onOf lessOf at hr
  generalize (tidyOf l0).filter (fun x => !(x == v)) = y0 at W0 z0 hr
  generalize (tidyOf l1).filter (fun x => !(x == -v)) = y1 at W1 z1 hr
  rw [← hneg] at W1
  have HW0 := Aside0.mk W0
  have HW1 := Aside0.mk W1
  have HZ : Aside0 (y0.length + y1.length ≤ 17592186044416) := ⟨by omega⟩
  have HR := Aside0.mk hr
  clear W0 W1 hr0 hr1 hn0 hn1 z0 z1 hr hc0 hc1 hv hneg
  go_enter Try.func81, Try.ntmps81
  go_wp2_with fail
  (with_reducible refine (HW0.out _ HR0.out).mono ?_)
  rintro e w1 ⟨v1, rfl, ho, hb⟩
  obtain ⟨Ao1, co1, eo1⟩ := Kd.R_slice ho
  subst eo1
  have HO1 := Aside0.mk ho
  have HB := Aside0.mk hb
  clear ho hb
  go_wp2_with fail
  (with_reducible refine (HW1.out _ (Kd.C_below HR1.out HB.out)).mono ?_)
  rintro e w2 ⟨v2, rfl, ho, hb⟩
  obtain ⟨Ao2, co2, eo2⟩ := Kd.R_slice ho
  subst eo2
  have HO12 := Aside0.mk (Kd.R_below HO1.out hb)
  have HO2 := Aside0.mk ho
  have HB2 : Aside0 (Below w.heap.size w w2) := ⟨below_step HB.out hb⟩
  clear ho hb
  go_wp2_with fail
  (with_reducible refine (join_calls Ao1 Ao2 co1 co2 y0 y1 w2 (Kd.R_reads' HO12.out).2.2 (Kd.R_reads' HO12.out).2.1 (Kd.R_reads' HO2.out).2.2 (Kd.R_reads' HO2.out).2.1 HZ.out).mono ?_)
  rintro e w3 ⟨v3, rfl, ho, hb⟩
  rw [← HR.out] at ho
  have HO3 := Aside0.mk (Kd.R_lower ho HB2.out.size)
  have HB3 : Aside0 (Below w.heap.size w w3) := ⟨below_step HB2.out hb⟩
  clear ho hb
  go_wp2
  go_ret
  exact ⟨_, rfl, HO3.out, HB3.out⟩
end Go.Proofs.YtggnnnddnppcpaaHand
