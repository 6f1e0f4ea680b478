/- What lits.pivots hands out: an iterator over the variables, rising, that a tidy clause has and another one has the opposite of. -/
import Derived.Test.YtamefocngapkpaaClLitsMeetsf
import Derived.RangeFuncNested
import Derived.RangeFuncBound
import Derived.RangeFuncCalls
import Derived.RangeFuncLeaves
import Derived.Shelf.Abstract
import Derived.Shelf.RegionOpen
import Derived.WalkKit
import Derived.OwnWalkIn
import Derived.TacticsInMore
import Derived.LoopNIn
import Derived.LoopIn
import Derived.RangeFuncWrites
/-! text YtamefocngapkpaaPivots -/
namespace Go.Proofs.YtamefocngapkpaaMath
open Go.RowKit Go.Proofs.YtamefocngapkpaaW.PrintWords
def isPiv (b : List Int) (v : Int) : Bool := decide (0 ≤ v) && b.contains (-v)
def pivOf (a b : List Int) : List Int := a.filter (isPiv b)
theorem pivOf_take {a b : List Int} {k : Nat} (h : k < a.length) : pivOf (a.take (k + 1)) b = pivOf (a.take k) b ++ (if isPiv b (rd a (k : Int)) = true then [rd a (k : Int)] else []) := by
  unfold pivOf
  rw [take_rd h, List.filter_append]
  cases hh : isPiv b (rd a (k : Int)) <;> simp [hh]
end Go.Proofs.YtamefocngapkpaaMath
namespace Go.Proofs.YtamefocngapkpaaHand
open Go.RowKit Go.Sort Go.Lib Go.Shelf Go.Proofs.YtamefocngapkpaaW.PrintWords Go.Proofs.YtamefocngapkpaaW.PrintLast Go.Proofs.YtamefocngapkpaaMath
attribute [local go_sem] Oper.semAt_some
set_option linter.unusedVariables false
set_option linter.unusedSimpArgs false

theorem sortWorld_same {enc : Int → Value} {W : World} {g n : Nat} {d : Array Int} {os : Array Obj} (h : Holds enc W g 0 d) : sortWorld enc W g 0 n d os = grow (W.drewN n) os := by
  have h0 := sortWorld_start enc W g 0 d h
  unfold sortWorld at h0 ⊢
  rw [grow_empty] at h0
  have := putRow_drewN enc W 0 n g 0 d
  rw [Nat.zero_add] at this
  rw [← this, h0]

theorem search_quiet (W : World) (base g cap : Nat) (xs : List Int) (l : Int) (h : OwnInts W base (.slice (some ⟨g, 0, none⟩) xs.length cap) xs) (hr : Rising xs) (hf : ∀ x ∈ xs, formed x = true) (hl : formed l = true) (hn : xs.length < 4611686018427387904) :
    Calls Try.prog 64 #[.slice (some ⟨g, 0, none⟩) xs.length cap, .int .i64 l, .func (.func 58) #[] #[]] W fun e W' => ∃ n : Int, e = .returned (.tuple #[.int .i64 n, .bool (xs.contains l)]) ∧ W.grownBy W' none := by
  obtain ⟨hH, hg, _, _⟩ := own_holds h
  have hcmp : CmpLaysT Try.prog 58 #[] (Value.int .i64) (.int .i64 l) (fun x => byIdx x l) g 0 xs.toArray.size W := by
    intro m os dk _ x
    refine (byIndex_calls x l _).mono ?_
    rintro e w' ⟨rfl, ⟨q, rfl⟩⟩
    exact ⟨rfl, q, #[], rfl⟩
  have hmono : ∀ a b, a ≤ b → b < xs.toArray.size → (fun x => byIdx x l) xs.toArray[b]! < 0 → (fun x => byIdx x l) xs.toArray[a]! < 0 := by
    intro a b hab hb hlt
    rcases Nat.eq_or_lt_of_le hab with rfl | hab
    · exact hlt
    · simp only [List.size_toArray] at hb
      have e1 : xs.toArray[b]! = xs[b] := by simp [hb]
      have e2 : xs.toArray[a]! = xs[a]'(by omega) := by simp [show a < xs.length by omega]
      have := List.pairwise_iff_getElem.1 hr a b (by omega) hb hab
      simp only [e1, e2, byIdx] at hlt ⊢
      omega
  have hc := Any.slices_BinarySearchFunc Try.searchF (Value.int .i64) (fun _ => rfl) (.int .i64 l) (fun x => byIdx x l) 58 #[] g 0 cap xs.toArray W (enters_of Try.func58 (by kernel_rfl) rfl) hcmp hH hg (by simpa using hn) hmono
  refine Calls.mono hc ?_
  rintro e W' ⟨rfl, n, os, rfl⟩
  have hm := search_math l hl xs hr hf
  have e1 : xs.toArray.toList = xs := by simp
  have hb : (decide (xs.countP (fun x => decide (byIdx x l < 0)) < xs.length) && decide (byIdx (xs.toArray[xs.countP (fun x => decide (byIdx x l < 0))]!) l = 0)) = xs.contains l := by
    rw [Bool.eq_iff_iff]
    simp only [Bool.and_eq_true, decide_eq_true_eq, List.contains_iff_mem]
    exact hm
  rw [e1, List.size_toArray, hb]
  refine ⟨_, rfl, ?_⟩
  rw [sortWorld_same hH]
  refine ⟨rfl, rfl, rfl, by simp [grow, World.drewN], fun k hk _ => ?_⟩
  simp only [grow, World.drewN]
  rw [Array.getElem?_append_left hk]

set_option maxRecDepth 100000 in
set_option maxHeartbeats 4000000 in
theorem pivots1_in (n : Nat) (hn : 1 ≤ n) (l Ba Bb n₀ g1 c1 g2 c2 base : Nat) (xs ys : List Int) (hys : Rising ys) (hyf : ∀ x ∈ ys, formed x = true) (hxf : ∀ x ∈ xs, formed x = true) (hxl : xs.length ≤ 2097152) (hyl : ys.length ≤ 2097152) (hBa' : Ba < n₀) (hBb' : Bb < n₀) (hg1 : g1 < n₀) (hg2 : g2 < n₀)
    (J Jx : List Int → World → Prop) (W : World) (hn₀ : n₀ ≤ W.heap.size) (hJ : AbidesFrom W.heap.size J)
    (hY : ∀ pre x W, J pre W → pre.length < xs.length → YieldAt Fence.wide (n - 1) Try.prog l #[.int .i64 x] W fun e W' =>
      (e = .returned (.bool true) ∧ J (pre ++ [x]) W' ∧ Below n₀ W W') ∨ (e = .returned (.bool false) ∧ Jx (pre ++ [x]) W'))
    (hBa : W.cell? ⟨Ba, 0, none⟩ = some (.slice (some ⟨g1, 0, none⟩) xs.length c1)) (hBb : W.cell? ⟨Bb, 0, none⟩ = some (.slice (some ⟨g2, 0, none⟩) ys.length c2))
    (hc : ∀ j, j < xs.length → W.cell? ⟨g1, j, none⟩ = some (.int .i64 (rd xs (j : Int)))) (ho : OwnInts W base (.slice (some ⟨g2, 0, none⟩) ys.length c2) ys) (h0 : J [] W) :
    CallsIn Fence.wide n Try.prog 79 #[.func (.yield l) #[] #[], .pointer (some ⟨Ba, 0, none⟩), .pointer (some ⟨Bb, 0, none⟩)] W fun e W' => (∃ v, e = .returned v) ∧
      ((∃ zs, zs = pivOf xs ys ∧ J zs W') ∨ (∃ pre, (∃ k, k ≤ xs.length ∧ pre = pivOf (xs.take k) ys) ∧ Jx pre W')) := by
  refine callsIn_of_wp Try.func79 rfl trivial ?_ rfl
  simp only [Try.ntmps79, List.size_toArray, List.length_cons, List.length_nil, Nat.reduceAdd, Nat.reduceSub, Array.replicate_succ, Array.replicate_zero, List.push_toArray, List.append_toArray, List.nil_append, List.cons_append]
  gi_wp2
  gi_loopw [10] (fun i wr => ∃ k : Nat, k ≤ xs.length ∧ i = .int .i64 k ∧ J (pivOf (xs.take k) ys) wr ∧ Below n₀ W wr)
    (fun i _ => xs.length - (intOf i).toNat)
  case atStart => exact ⟨0, Nat.zero_le _, rfl, h0, Below.refl _ _⟩
  case round =>
    obtain ⟨k, hk, rfl, hJs, hnx⟩ := hrel
    by_cases hlt : k < xs.length
    · have hcx := (hnx.cell (p := ⟨g1, k, none⟩) hg1).trans (hc k hlt)
      have hb2 := (hnx.cell (p := ⟨Bb, 0, none⟩) hBb').trans hBb
      have hpt := pivOf_take (b := ys) hlt
      have hfx := hxf _ (rd_mem hlt)
      have hbd := formed_bd hfx
      generalize rd xs (k : Int) = x at *
      have hneg : wrap64 (-x) = -x := by unfold wrap64; omega
      by_cases c0 : x < 0
      · have e0 : isPiv ys x = false := by unfold isPiv; rw [decide_eq_false (by omega), Bool.false_and]
        have c0' : decide (x < 0) = true := decide_eq_true c0
        gi_wp2
        go_roundw
        case rel => exact ⟨k + 1, by omega, by simp, by rw [hpt, e0]; simpa using hJs, hnx⟩
        case measure => simp [intOf]; omega
      · have c0' : decide (x < 0) = false := decide_eq_false c0
        have hfn : formed (-x) = true := by rw [formed_neg]; exact hfx
        have hown : OwnInts wr base (.slice (some ⟨g2, 0, none⟩) ys.length c2) ys := own_move ho (fun j hj => hnx.block j (by simp [Value.ownBlock] at hj; omega))
        have S := search_quiet wr base g2 c2 ys (-x) hown hys hyf hfn (by omega)
        cases hcn : ys.contains (-x) with
        | false =>
          have e0 : isPiv ys x = false := by unfold isPiv; rw [hcn, Bool.and_false]
          rw [hcn] at S
          have HSS := Aside0.mk S
          clear S
          gi_wp2
          refine ⟨trivial, ?_⟩
          (with_reducible refine (callsIn_wide.2 HSS.out).mono ?_)
          rintro e w2 ⟨q, rfl, hgb⟩
          gi_wp2
          refine ⟨fun _ h => (by cases h), ?_⟩
          gi_wp2
          have hJ2 := hJ _ wr w2 none hJs hgb (by intro r hr; cases hr)
          have hb2 : Below n₀ wr w2 := ⟨hgb.os, hgb.tape, hgb.output, hgb.size, fun i hi => hgb.block i (by have := hnx.size; omega) (by simp)⟩
          go_roundw
          case rel => exact ⟨k + 1, by omega, by simp, by rw [hpt, e0]; simpa using hJ2, hnx.trans hb2⟩
          case measure => simp [intOf]; omega
        | true =>
          have e0 : isPiv ys x = true := by unfold isPiv; rw [hcn, decide_eq_true (by omega)]; rfl
          rw [hcn] at S
          have HSS := Aside0.mk S
          clear S
          gi_wp2
          refine ⟨trivial, ?_⟩
          (with_reducible refine (callsIn_wide.2 HSS.out).mono ?_)
          rintro e w2 ⟨q, rfl, hgb⟩
          have hJ2 := hJ _ wr w2 none hJs hgb (by intro r hr; cases hr)
          have hb2 : Below n₀ wr w2 := ⟨hgb.os, hgb.tape, hgb.output, hgb.size, fun i hi => hgb.block i (by have := hnx.size; omega) (by simp)⟩
          obtain ⟨fn, tmps, assign, body, hy, hR⟩ := hY _ x w2 hJ2 (by unfold pivOf; have := List.length_filter_le (isPiv ys) (xs.take k); rw [List.length_take] at this; omega)
          gi_wp2
          refine hR.mono ?_
          rintro e W3 (⟨rfl, hJ3, hk3⟩ | ⟨rfl, hJx3⟩)
          · gi_wp2
            go_roundw
            case rel => exact ⟨k + 1, by omega, by simp, by rw [hpt, e0]; exact hJ3, hnx.trans (hb2.trans hk3)⟩
            case measure => simp [intOf]; omega
          · gi_wp2
            refine bodyPost_ret (results_none rfl _ _ _) rfl ?_
            exact ⟨⟨_, rfl⟩, .inr ⟨_, ⟨k + 1, by omega, by rw [hpt, e0]; rfl⟩, hJx3⟩⟩
    · obtain rfl : k = xs.length := by omega
      gi_wp2
      go_end0
      exact ⟨⟨_, rfl⟩, .inl ⟨_, by rw [List.take_length], hJs⟩⟩

theorem pivots_calls (A1 A2 : Option Addr) (n1 n2 c1 c2 : Nat) (w : World) :
    Calls Try.prog 68 #[.slice A1 n1 c1, .slice A2 n2 c2] w fun e w' => e = .returned (.func (.func 79) #[] #[.pointer (some ⟨w.heap.size, 0, none⟩), .pointer (some ⟨w.heap.size + 1, 0, none⟩)]) ∧ w' = (w.alloc (.cells #[.slice A1 n1 c1] 26)).alloc (.cells #[.slice A2 n2 c2] 26) := by
  go_enter Try.func68, Try.ntmps68
  go_wp2
  go_ret
  exact ⟨rfl, rfl⟩

theorem pivots_stops (n : Nat) (hn : 1 ≤ n) (Ba Bb g1 c1 g2 c2 base : Nat) (xs ys : List Int) (hys : Rising ys) (hyf : ∀ x ∈ ys, formed x = true) (hxf : ∀ x ∈ xs, formed x = true) (hxl : xs.length ≤ 2097152) (hyl : ys.length ≤ 2097152) (w : World) (hBa' : Ba < w.heap.size) (hBb' : Bb < w.heap.size) (hg1 : g1 < w.heap.size) (hg2 : g2 < w.heap.size)
    (hBa : w.cell? ⟨Ba, 0, none⟩ = some (.slice (some ⟨g1, 0, none⟩) xs.length c1)) (hBb : w.cell? ⟨Bb, 0, none⟩ = some (.slice (some ⟨g2, 0, none⟩) ys.length c2))
    (hc : ∀ j, j < xs.length → w.cell? ⟨g1, j, none⟩ = some (.int .i64 (rd xs (j : Int)))) (ho : OwnInts w base (.slice (some ⟨g2, 0, none⟩) ys.length c2) ys) :
    SeqStopsK Fence.wide n Try.prog 79 #[.pointer (some ⟨Ba, 0, none⟩), .pointer (some ⟨Bb, 0, none⟩)] (fun x : Int => #[Value.int .i64 x]) (Below w.heap.size) (fun zs => zs = pivOf xs ys) (fun pre => ∃ k, k ≤ xs.length ∧ pre = pivOf (xs.take k) ys) xs.length w := fun l J Jx W hW hJ hJx hY h0 => by
  refine (pivots1_in n hn l Ba Bb w.heap.size g1 c1 g2 c2 base xs ys hys hyf hxf hxl hyl hBa' hBb' hg1 hg2 J Jx W hW.size hJ hY ((hW.cell (p := ⟨Ba, 0, none⟩) hBa').trans hBa) ((hW.cell (p := ⟨Bb, 0, none⟩) hBb').trans hBb) (fun j hj => (hW.cell (p := ⟨g1, j, none⟩) hg1).trans (hc j hj)) (own_move ho (fun j hj => hW.block j (by simp [Value.ownBlock] at hj; omega))) h0).mono ?_
  rintro e W' ⟨he, ⟨zs, hz, hj⟩ | ⟨pre, hp, hj⟩⟩
  · exact ⟨he, .inl ⟨zs, hz, hj⟩⟩
  · exact ⟨he, .inr ⟨pre, hp, hj⟩⟩
end Go.Proofs.YtamefocngapkpaaHand
/-! text YtamefocngapkpaaRangeOwn -/
namespace Go.Proofs.YtamefocngapkpaaOwn
open Go Go.RowKit
set_option linter.unusedVariables false
variable {F : Fence} {n : Nat} {P : Program}

/-- from A to B: new blocks, and turns of blocks of M alone -/
structure Grow (M : Nat → Prop) (A B : World) : Prop where
  os : B.os = A.os
  tape : B.tape = A.tape
  output : B.output = A.output
  size : A.heap.size ≤ B.heap.size
  block : ∀ k, k < A.heap.size → ¬ M k → B.heap[k]? = A.heap[k]?
theorem Grow.refl (M : Nat → Prop) (A : World) : Grow M A A := ⟨rfl, rfl, rfl, Nat.le_refl _, fun _ _ _ => rfl⟩
theorem Grow.trans {M M' : Nat → Prop} {A B C : World} (h : Grow M A B) (k : Grow M' B C) (hM : ∀ k, M' k → M k ∨ A.heap.size ≤ k) : Grow M A C :=
  ⟨k.os.trans h.os, k.tape.trans h.tape, k.output.trans h.output, Nat.le_trans h.size k.size, fun i hi hn => (k.block i (Nat.lt_of_lt_of_le hi h.size) (fun e => by rcases hM i e with h | h; exact hn h; omega)).trans (h.block i hi hn)⟩
theorem Grow.mono {M M' : Nat → Prop} {A B : World} (h : Grow M A B) (hM : ∀ k, M k → M' k) : Grow M' A B := ⟨h.os, h.tape, h.output, h.size, fun k hk hn => h.block k hk (fun e => hn (hM k e))⟩
theorem Grow.of_grownBy {M : Nat → Prop} {A B : World} {row : Option Nat} (h : A.grownBy B row) (hr : ∀ r, row = some r → M r) : Grow M A B := ⟨h.os, h.tape, h.output, h.size, fun k hk hn => h.block k hk (fun e => hn (hr k e.symm))⟩
theorem Grow.of_below {M : Nat → Prop} {A B : World} (h : Below A.heap.size A B) : Grow M A B := ⟨h.os, h.tape, h.output, h.size, fun k hk _ => h.block k hk⟩
theorem Grow.put {M : Nat → Prop} {A : World} {l : Nat} (o : Obj) (h : M l) : Grow M A (A.putObj l o) := Grow.of_grownBy (grownBy_putObj' A l o) (fun r e => by cases e; exact h)
theorem Grow.below {M : Nat → Prop} {A B : World} {n₀ : Nat} (h : Grow M A B) (hn : n₀ ≤ A.heap.size) (hM : ∀ k, M k → n₀ ≤ k) : Below n₀ A B := ⟨h.os, h.tape, h.output, h.size, fun k hk => h.block k (Nat.lt_of_lt_of_le hk hn) (fun e => Nat.not_le_of_lt hk (hM k e))⟩
/-- M's blocks lie as they lay -/
def KeptD (M : Nat → Prop) (A B : World) : Prop := A.heap.size ≤ B.heap.size ∧ ∀ k o, M k → A.heap[k]? = some o → B.heap[k]? = some o
theorem KeptD.refl (M : Nat → Prop) (A : World) : KeptD M A A := ⟨Nat.le_refl _, fun _ _ _ h => h⟩
theorem KeptD.trans {M : Nat → Prop} {A B C : World} (h : KeptD M A B) (k : KeptD M B C) : KeptD M A C := ⟨Nat.le_trans h.1 k.1, fun i o hi ho => k.2 i o hi (h.2 i o hi ho)⟩
theorem KeptD.mono {M M' : Nat → Prop} {A B : World} (h : KeptD M A B) (hM : ∀ k, M' k → M k) : KeptD M' A B := ⟨h.1, fun k o hk ho => h.2 k o (hM k hk) ho⟩
theorem KeptD.of_below {M : Nat → Prop} {A B : World} (h : Below A.heap.size A B) : KeptD M A B := ⟨h.size, fun k o _ ho => (h.block k (Array.getElem?_eq_some_iff.1 ho).1).trans ho⟩
theorem KeptD.setCell {M : Nat → Prop} {A : World} {p : Addr} (h : ¬ M p.block) (u : Value) : KeptD M A (A.setCell p u) :=
  ⟨((Below.refl 0 A).setCell (p := p) (Nat.zero_le _) u).size, fun k o hk ho => (Below.heap_setCell A p u k (fun e => h (by rw [← e]; exact hk))).trans ho⟩
theorem KeptD.of_grownBy {M : Nat → Prop} {A B : World} {row : Option Nat} (h : A.grownBy B row) (hr : ∀ r, row = some r → ¬ M r) : KeptD M A B :=
  ⟨h.size, fun k o hk ho => (h.block k (Array.getElem?_eq_some_iff.1 ho).1 (fun e => hr k e.symm hk)).trans ho⟩
theorem KeptD.alloc {M : Nat → Prop} (A : World) (o : Obj) : KeptD M A (A.alloc o) := KeptD.of_grownBy (World.grownBy_alloc A o none) (fun r e => by cases e)
/-- M and what is new from A to B -/
def More (M : Nat → Prop) (A B : World) (M1 : Nat → Prop) : Prop := ∀ k, M1 k → M k ∨ (A.heap.size ≤ k ∧ k < B.heap.size)
theorem More.refl (M : Nat → Prop) (A B : World) : More M A B M := fun _ h => .inl h
/-- what a caller holds may go on, whatever the iterator lays and turns of its own -/
def OwnD {β : Type} (I : (Nat → Prop) → β → World → Prop) : Prop := ∀ M M1 s A B, I M s A → Grow M A B → More M A B M1 → I M1 s B
/-- the iterator's contract: Rd: the blocks that it reads and never turns -/
def SeqD {α : Type} (F : Fence) (n : Nat) (P : Program) (g : Nat) (lb : Array Value) (encs : α → Array Value) (Hd : World → (Nat → Prop) → α → World → Prop) (Rd : Nat → Prop) (S Sp : List α → Prop) (N : Nat) (w : World) : Prop :=
  ∀ (l : Nat) (J Jx : (Nat → Prop) → List α → World → Prop) (W : World), Below w.heap.size w W → OwnD J → OwnD Jx →
    (∀ M M1 pre x A W1, J M pre A → Grow M A W1 → More M A W1 M1 → (∀ k, M k → M1 k) → Hd A M1 x W1 → pre.length < N → YieldAt F (n - 1) P l (encs x) W1 fun e W' =>
      (e = .returned (.bool true) ∧ J M1 (pre ++ [x]) W' ∧ KeptD (fun k => M1 k ∨ Rd k) W1 W') ∨ (e = .returned (.bool false) ∧ Jx M1 (pre ++ [x]) W' ∧ KeptD (fun k => M1 k ∨ Rd k) W1 W')) →
    J (fun _ => False) [] W →
    CallsIn F n P g (#[.func (.yield l) #[] #[]] ++ lb) W fun e W' => (∃ v, e = .returned v) ∧ ∃ M, ((∃ xs, S xs ∧ J M xs W') ∨ (∃ pre, Sp pre ∧ Jx M pre W'))
/-- what a body has to show -/
def ownPostD {β : Type} (Rd M : Nat → Prop) (I : (Nat → Prop) → β → World → Prop) (Ix : Code → (Nat → Prop) → β → World → Prop) (s : β) (W : World) : Exit → Act → World → Prop
  | .normal, _, W' => KeptD (fun k => M k ∨ Rd k) W W' ∧ I M s W'
  | .ret, _, W' => KeptD (fun k => M k ∨ Rd k) W W' ∧ Ix .ret M s W'
  | .exit id, _, W' => KeptD (fun k => M k ∨ Rd k) W W' ∧ Ix (.exit id) M s W'
  | .goto t, _, W' => KeptD (fun k => M k ∨ Rd k) W W' ∧ Ix (.goto t) M s W'
  | _, _, _ => False
/-- a record's two blocks beside M -/
def With (B : Nat) (M : Nat → Prop) (k : Nat) : Prop := M k ∨ k = B ∨ k = B + 1

theorem wpIn_range_own {α : Type} {g : Operand} {ps : Array Tmp} {assign body : Code} {Q : Exit → Act → World → Prop} {a : Act} {w : World}
    (h1 : 1 ≤ n) {gf : Nat} {lb : Array Value} (hro : F.round = none) (hg : a.eval g = .func (.func gf) #[] lb) (hFg : F.fn gf) (eg : ∀ args w, (callFunc gf args).run P w = .ok (.enter gf args) w)
    {encs : α → Array Value} {Hd : World → (Nat → Prop) → α → World → Prop} {Rd : Nat → Prop} {S Sp : List α → Prop} {N : Nat} {w0 : World} (hseq : SeqD F (n - 1) P gf lb encs Hd Rd S Sp N w0)
    (hHd : ∀ A M M' x W W', Hd A M x W → (∀ k, M' k → M k ∨ k < A.heap.size) → (∀ k cs t z, A.heap.size ≤ k → W.heap[k]? = some (.cells cs t z) → W'.heap[k]? = some (.cells cs t z)) → Hd A M' x W')
    (hRd : ∀ k, Rd k → k < w0.heap.size) (hb0 : Below w0.heap.size w0 w) (hps : ∀ x, (encs x).size = ps.size)
    (I : (Nat → Prop) → List α → World → Prop) (Ix : Code → (Nat → Prop) → List α → World → Prop) (hI : OwnD I) (hIx : ∀ c, OwnD (Ix c)) (h0 : I (fun _ => False) [] w) (a₁ : α → Act)
    (hassign : ∀ (l : Nat) (x : α) (W : World) (K : Act → World → Prop), K (a₁ x) W →
      assign.wpIn (F.inRound l) (n - 1 - 1) P (Exit.then K (fun _ _ _ => False)) { tmps := (ps.zip (encs x)).foldl (fun t (p, v) => t.setIfInBounds p v) a.tmps, defers := [] } W)
    (hbody : ∀ (l : Nat) (M M1 : Nat → Prop) (pre : List α) (x : α) (A W : World), I M pre A → Grow M A W → More M A W M1 → (∀ k, M k → M1 k) → M w.heap.size → M (w.heap.size + 1) → w.heap.size + 2 ≤ A.heap.size → Hd A M1 x W → pre.length < N → body.wpIn (F.inRound l) (n - 1 - 1) P (ownPostD Rd M1 I Ix (pre ++ [x]) W) (a₁ x) W)
    (hdone : ∀ (M : Nat → Prop) (xs : List α) (W : World), M w.heap.size → S xs → I M xs W → W.heap[w.heap.size]? = some (.deferred (some [])) → Q .normal { a with defers := { target := .collected w.heap.size, args := #[] } :: a.defers } W)
    (hstop : ∀ (M : Nat → Prop) (c : Code) (pre : List α) (W : World), M w.heap.size → Sp pre → Ix c M pre W → W.heap[w.heap.size]? = some (.deferred (some [])) → c.wpIn F n P Q { a with defers := { target := .collected w.heap.size, args := #[] } :: a.defers } W) :
    (Code.rangeFunc g ps assign body).wpIn F n P Q a w := by
  refine wpIn_rangeFunc ?_
  intro fn hfn
  rw [hro]
  obtain ⟨rec, hrec⟩ : ∃ rec : LoopState → Option Code → Loop, rec = fun st pe => { state := st, pending := pe, fn, tmps := a.tmps, params := ps, assign, body, defers := w.heap.size } := ⟨_, rfl⟩
  obtain ⟨W1, hW1⟩ : ∃ W1, (w.alloc (.deferred (some []))).alloc (.loop (rec .ready none)) = W1 := ⟨_, rfl⟩
  have hz1 : W1.heap.size = w.heap.size + 2 := by rw [← hW1]; simp
  have hL1 : W1.heap[w.heap.size + 1]? = some (.loop (rec .ready none)) := by
    rw [← hW1]
    have := World.alloc_heap_new (w.alloc (.deferred (some []))) (.loop (rec .ready none))
    rwa [World.size_alloc] at this
  have hK1 : W1.heap[w.heap.size]? = some (.deferred (some [])) := by
    rw [← hW1]
    exact (Below.heap_alloc _ _ _ (by simp)).trans (World.alloc_heap_new w _)
  have hG1 : Below w.heap.size w W1 := by rw [← hW1]; exact ((Below.refl _ w).alloc (Nat.le_refl _) _).alloc (by simp) _
  have hb1 : Below w0.heap.size w0 W1 := hb0.trans (hG1.mono hb0.size)
  have hRlt : ∀ k, Rd k → k < w.heap.size := fun k hk => Nat.lt_of_lt_of_le (hRd k hk) hb0.size
  have hI1 : I (With w.heap.size (fun _ => False)) [] W1 := hI _ _ _ _ _ h0 (Grow.of_below hG1) (fun k hk => by rcases hk with h | h | h; exact .inl h; exact .inr (by omega); exact .inr (by omega))
  refine ⟨w.heap.size + 1, [{ target := .collected w.heap.size, args := #[] }], W1, { target := .fn (.func gf) lb, args := #[.func (.yield (w.heap.size + 1)) #[] #[]] }, W1, gf,
    #[.func (.yield (w.heap.size + 1)) #[] #[]] ++ lb, W1, ?_, ?_, ?_, ?_, fun _ => h1, ?_⟩
  · rw [← hW1, hrec]; exact run_enterLoop_outer _ _ _ _ _
  · simp only [resolve, hg]
    simp [go_sem]
  · intro f' hf'
    simp [Target.leads] at hf'
    subst hf'
    exact hFg
  · simp [invoke, go_sem, eg]
  · refine (hseq (w.heap.size + 1)
      (fun M pre W => I (With w.heap.size M) pre W ∧ W.heap[w.heap.size + 1]? = some (.loop (rec .ready none)) ∧ W.heap[w.heap.size]? = some (.deferred (some [])) ∧ ¬ M w.heap.size ∧ ¬ M (w.heap.size + 1))
      (fun M pre W => ∃ c, Ix c (With w.heap.size M) pre W ∧ W.heap[w.heap.size + 1]? = some (.loop (rec .done (some c))) ∧ W.heap[w.heap.size]? = some (.deferred (some [])) ∧ ¬ M w.heap.size ∧ ¬ M (w.heap.size + 1))
      W1 hb1 ?_ ?_ ?_ ⟨hI1, hL1, hK1, fun h => h, fun h => h⟩).mono ?_
    · rintro M M1 s A B ⟨hi, hl, hk, n1, n2⟩ hg' hm
      have l1 := (Array.getElem?_eq_some_iff.1 hl).1
      have l2 := (Array.getElem?_eq_some_iff.1 hk).1
      refine ⟨hI _ _ _ _ _ hi (hg'.mono fun k h => .inl h) (fun k h => ?_), (hg'.block _ l1 n2).trans hl, (hg'.block _ l2 n1).trans hk, fun h => ?_, fun h => ?_⟩
      · rcases h with h | h
        · rcases hm k h with h | h
          · exact .inl (.inl h)
          · exact .inr h
        · exact .inl (.inr h)
      · rcases hm _ h with h | h
        · exact n1 h
        · omega
      · rcases hm _ h with h | h
        · exact n2 h
        · omega
    · rintro M M1 s A B ⟨c, hi, hl, hk, n1, n2⟩ hg' hm
      have l1 := (Array.getElem?_eq_some_iff.1 hl).1
      have l2 := (Array.getElem?_eq_some_iff.1 hk).1
      refine ⟨c, hIx c _ _ _ _ _ hi (hg'.mono fun k h => .inl h) (fun k h => ?_), (hg'.block _ l1 n2).trans hl, (hg'.block _ l2 n1).trans hk, fun h => ?_, fun h => ?_⟩
      · rcases h with h | h
        · rcases hm k h with h | h
          · exact .inl (.inl h)
          · exact .inr h
        · exact .inl (.inr h)
      · rcases hm _ h with h | h
        · exact n1 h
        · omega
      · rcases hm _ h with h | h
        · exact n2 h
        · omega
    · rintro M M1 pre x A W ⟨hi, hlA, hkA, n1, n2⟩ hgr hm hsub hx hlen
      have l1 := (Array.getElem?_eq_some_iff.1 hlA).1
      have l2 := (Array.getElem?_eq_some_iff.1 hkA).1
      have hl := (hgr.block _ l1 n2).trans hlA
      have hk := (hgr.block _ l2 n1).trans hkA
      have m1 : ¬ M1 w.heap.size := fun h => by rcases hm _ h with h | h; exact n1 h; omega
      have m2 : ¬ M1 (w.heap.size + 1) := fun h => by rcases hm _ h with h | h; exact n2 h; omega
      have hlt : w.heap.size + 1 < W.heap.size := (Array.getElem?_eq_some_iff.1 hl).1
      have hy := run_yield (P := P) (args := encs x) hl (by rw [hrec]; exact hps x)
      rw [hrec] at hy
      refine ⟨fn, _, assign, body, hy, roundIn_of_wpIn hfn (hassign _ x W _ ⟨_, run_beginRound hl (by rw [hrec]), ?_⟩)⟩
      have hl2 : (W.putObj (w.heap.size + 1) (.loop { rec .ready none with state := .busy })).heap[w.heap.size + 1]? = some (.loop { rec .ready none with state := .busy }) := World.putObj_heap_same hlt
      have hk2 : (W.putObj (w.heap.size + 1) (.loop { rec .ready none with state := .busy })).heap[w.heap.size]? = some (.deferred (some [])) := (World.putObj_heap_other (by omega)).trans hk
      have hgp : Grow (With w.heap.size M) A (W.putObj (w.heap.size + 1) (.loop { rec .ready none with state := .busy })) := (hgr.mono fun k h => .inl h).trans (Grow.put (M := With w.heap.size M) _ (.inr (.inr rfl))) (fun k h => .inl h)
      have hmp : More (With w.heap.size M) A (W.putObj (w.heap.size + 1) (.loop { rec .ready none with state := .busy })) (With w.heap.size M1) := fun k h => by
        rcases h with h | h
        · rcases hm k h with h | h
          · exact .inl (.inl h)
          · exact .inr ⟨h.1, Nat.lt_of_lt_of_le h.2 (grownBy_putObj' W _ _).size⟩
        · exact .inl (.inr h)
      have hxp : Hd A (With w.heap.size M1) x (W.putObj (w.heap.size + 1) (.loop { rec .ready none with state := .busy })) := hHd _ _ _ _ _ _ hx
        (fun k h => by rcases h with h | h; exact .inl h; exact .inr (by omega))
        (fun k cs t z hkk hcs => (World.putObj_heap_other (fun e => by subst e; rw [hl] at hcs; cases hcs)).trans hcs)
      refine wpIn_mono (hbody _ (With w.heap.size M) (With w.heap.size M1) pre x A _ hi hgp hmp (fun k h => by rcases h with h | h; exact .inl (hsub k h); exact .inr h) (.inr (.inl rfl)) (.inr (.inr rfl)) (by omega) hxp hlen) ?_
      have fin : ∀ (jump : Option Code) (W3 : World), KeptD (fun k => With w.heap.size M1 k ∨ Rd k) (W.putObj (w.heap.size + 1) (.loop { rec .ready none with state := .busy })) W3 →
          (Instr.endRound (w.heap.size + 1) jump).run P W3 = .ok (.bool jump.isNone) (W3.putObj (w.heap.size + 1) (.loop (rec (if jump.isNone then .ready else .done) jump))) ∧
          W3.heap[w.heap.size + 1]? = some (.loop { rec .ready none with state := .busy }) ∧
          (W3.putObj (w.heap.size + 1) (.loop (rec (if jump.isNone then .ready else .done) jump))).heap[w.heap.size + 1]? = some (.loop (rec (if jump.isNone then .ready else .done) jump)) ∧
          (W3.putObj (w.heap.size + 1) (.loop (rec (if jump.isNone then .ready else .done) jump))).heap[w.heap.size]? = some (.deferred (some [])) := fun jump W3 hk3 => by
        have hl3 := hk3.2 _ _ (.inl (.inr (.inr rfl))) hl2
        have := run_endRound (P := P) jump hl3
        rw [hrec] at this ⊢
        exact ⟨this, by rw [hrec] at hl3; exact hl3, World.putObj_heap_same (Array.getElem?_eq_some_iff.1 hl3).1, (World.putObj_heap_other (by omega)).trans (hk3.2 _ _ (.inl (.inr (.inl rfl))) hk2)⟩
      have left : ∀ (c : Code) (W3 : World), KeptD (fun k => With w.heap.size M1 k ∨ Rd k) (W.putObj (w.heap.size + 1) (.loop { rec .ready none with state := .busy })) W3 → Ix c (With w.heap.size M1) (pre ++ [x]) W3 → _ := fun c W3 hk3 hi3 => by
        obtain ⟨hr, hl3, hl4, hk4⟩ := fin (some c) W3 hk3
        have mr : ¬ (M1 (w.heap.size + 1) ∨ Rd (w.heap.size + 1)) := fun h => h.elim m2 (fun h => by have := hRlt _ h; omega)
        exact (⟨_, _, hr, .inr ⟨rfl, ⟨c, hIx c _ _ _ _ _ hi3 (Grow.put _ (.inr (.inr rfl))) (More.refl _ _ _), hl4, hk4, m1, m2⟩, ((KeptD.of_grownBy (grownBy_putObj' W _ _) (fun r e => by cases e; exact mr)).trans (hk3.mono fun k h => h.elim (fun h => .inl (.inl h)) .inr)).trans (KeptD.of_grownBy (grownBy_putObj' W3 _ _) (fun r e => by cases e; exact mr))⟩⟩ : ∃ v W4, (Instr.endRound (w.heap.size + 1) (some c)).run P W3 = .ok v W4 ∧ ((Ending.returned v = .returned (.bool true) ∧ (I (With w.heap.size M1) (pre ++ [x]) W4 ∧ W4.heap[w.heap.size + 1]? = some (.loop (rec .ready none)) ∧ W4.heap[w.heap.size]? = some (.deferred (some [])) ∧ ¬ M1 w.heap.size ∧ ¬ M1 (w.heap.size + 1)) ∧ KeptD (fun k => M1 k ∨ Rd k) W W4) ∨ (Ending.returned v = .returned (.bool false) ∧ (∃ c, Ix c (With w.heap.size M1) (pre ++ [x]) W4 ∧ W4.heap[w.heap.size + 1]? = some (.loop (rec .done (some c))) ∧ W4.heap[w.heap.size]? = some (.deferred (some [])) ∧ ¬ M1 w.heap.size ∧ ¬ M1 (w.heap.size + 1)) ∧ KeptD (fun k => M1 k ∨ Rd k) W W4)))
      rintro e a3 W3 hp
      cases e with
      | normal =>
        obtain ⟨hk3, hi3⟩ := hp
        obtain ⟨hr, hl3, hl4, hk4⟩ := fin none W3 hk3
        refine ⟨_, _, hr, .inl ⟨rfl, ⟨hI _ _ _ _ _ hi3 (Grow.put _ (.inr (.inr rfl))) (More.refl _ _ _), hl4, hk4, m1, m2⟩, ?_⟩⟩
        have mr : ¬ (M1 (w.heap.size + 1) ∨ Rd (w.heap.size + 1)) := fun h => h.elim m2 (fun h => by have := hRlt _ h; omega)
        refine ((KeptD.of_grownBy (grownBy_putObj' W _ _) (fun r e => by cases e; exact mr)).trans (hk3.mono fun k h => h.elim (fun h => .inl (.inl h)) .inr)).trans (KeptD.of_grownBy (grownBy_putObj' W3 _ _) (fun r e => by cases e; exact mr))
      | ret => exact left .ret W3 hp.1 hp.2
      | exit id => exact left (.exit id) W3 hp.1 hp.2
      | goto t => exact left (.goto t) W3 hp.1 hp.2
      | panic ch => exact hp.elim
      | outgrown => exact hp.elim
    · rintro e W2 ⟨⟨v, rfl⟩, M, (⟨xs, hS, hi, hl, hk, n1, n2⟩ | ⟨pre, hSp, c, hi, hl, hk, n1, n2⟩)⟩
      · exact ⟨none, _, by have := run_endLoop (P := P) hl (by rw [hrec]; simp); rw [hrec] at this; exact this, hdone _ xs _ (.inr (.inl rfl)) hS (hI _ _ _ _ _ hi (Grow.put _ (.inr (.inr rfl))) (More.refl _ _ _)) ((World.putObj_heap_other (by omega)).trans hk)⟩
      · exact ⟨some c, _, by have := run_endLoop (P := P) hl (by rw [hrec]; simp); rw [hrec] at this; exact this, hstop _ c pre _ (.inr (.inl rfl)) hSp (hIx c _ _ _ _ _ hi (Grow.put _ (.inr (.inr rfl))) (More.refl _ _ _)) ((World.putObj_heap_other (by omega)).trans hk)⟩
end Go.Proofs.YtamefocngapkpaaOwn
