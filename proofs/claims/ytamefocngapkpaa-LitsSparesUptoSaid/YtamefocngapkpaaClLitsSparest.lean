/- What lits.pivots hands out, for whatever rounds keep the four blocks that it reads. -/
import Derived.Test.YtamefocngapkpaaClLitsSparesi
import Derived.Test.YtamefocngapkpaaClLitsSparesm
import Derived.RangeFuncBox
import Derived.Maps.AppendAt
/-! text YtamefocngapkpaaPivots2 -/
namespace Go.Proofs.YtamefocngapkpaaHand
open Go.RowKit Go.Sort Go.Lib Go.Shelf Go.Proofs.YtamefocngapkpaaW.PrintWords Go.Proofs.YtamefocngapkpaaW.PrintLast Go.Proofs.YtamefocngapkpaaMath Go.Proofs.YtamefocngapkpaaOwn
attribute [local go_sem] Oper.semAt_some
set_option linter.unusedVariables false
set_option linter.unusedSimpArgs false

/-- four blocks lie as they lay -/
def Four (a b c d : Nat) (W W' : World) : Prop := ∀ k, (k = a ∨ k = b ∨ k = c ∨ k = d) → W'.heap[k]? = W.heap[k]?
theorem own_read {W : World} {base g cap : Nat} {xs : List Int} (h : OwnInts W base (.slice (some ⟨g, 0, none⟩) xs.length cap) xs) {k : Nat} (hk : k < xs.length) : W.cell? ⟨g, k, none⟩ = some (.int .i64 (rd xs (k : Int))) := by
  have := (own_at h (k : Int) (by omega) (by omega)).1
  rwa [Int.toNat_natCast] at this
theorem Four.grown {a b c d : Nat} {W A B : World} (h : Four a b c d W A) (hg : A.grownBy B none) (hl : ∀ k, (k = a ∨ k = b ∨ k = c ∨ k = d) → k < W.heap.size) (hs : W.heap.size ≤ A.heap.size) : Four a b c d W B := fun k hk => (hg.block k (Nat.lt_of_lt_of_le (hl k hk) hs) (by simp)).trans (h k hk)
theorem four_cells {W : World} {Ba Bb g1 c1 g2 c2 base t1 t2 : Nat} {v1 v2 : Value} {xs ys : List Int} (hBa : W.heap[Ba]? = some (.cells #[v1] t1 (0, 0))) (hBb : W.heap[Bb]? = some (.cells #[v2] t2 (0, 0)))
    (h1 : OwnInts W base (.slice (some ⟨g1, 0, none⟩) xs.length c1) xs) (h2 : OwnInts W base (.slice (some ⟨g2, 0, none⟩) ys.length c2) ys) : ∀ k, (k = Ba ∨ k = Bb ∨ k = g1 ∨ k = g2) → ∃ cs t z, W.heap[k]? = some (.cells cs t z) := by
  have row : ∀ {g cap : Nat} {zs : List Int}, OwnInts W base (.slice (some ⟨g, 0, none⟩) zs.length cap) zs → ∃ cs t z, W.heap[g]? = some (.cells cs t z) := by
    intro g cap zs h
    rcases h.2 with ⟨e, _⟩ | ⟨g', cap', cur, e, _, hb, _⟩
    · cases e
    · cases e
      exact ⟨_, _, _, hb⟩
  rintro k (rfl | rfl | rfl | rfl)
  · exact ⟨_, _, _, hBa⟩
  · exact ⟨_, _, _, hBb⟩
  · exact row h1
  · exact row h2
theorem four_lt {W : World} {Ba Bb g1 c1 g2 c2 base t1 t2 : Nat} {v1 v2 : Value} {xs ys : List Int} (hBa : W.heap[Ba]? = some (.cells #[v1] t1 (0, 0))) (hBb : W.heap[Bb]? = some (.cells #[v2] t2 (0, 0)))
    (h1 : OwnInts W base (.slice (some ⟨g1, 0, none⟩) xs.length c1) xs) (h2 : OwnInts W base (.slice (some ⟨g2, 0, none⟩) ys.length c2) ys) : ∀ k, (k = Ba ∨ k = Bb ∨ k = g1 ∨ k = g2) → k < W.heap.size := fun k hk => by
  obtain ⟨cs, t, z, h⟩ := four_cells hBa hBb h1 h2 k hk
  exact (Array.getElem?_eq_some_iff.1 h).1
theorem Four.kept {a b c d : Nat} {W A B : World} (h : Four a b c d W A) (hc : ∀ k, (k = a ∨ k = b ∨ k = c ∨ k = d) → ∃ cs t z, W.heap[k]? = some (.cells cs t z)) (hk : ∀ k, (k = a ∨ k = b ∨ k = c ∨ k = d) → ∀ cs t z, A.heap[k]? = some (.cells cs t z) → B.heap[k]? = some (.cells cs t z)) : Four a b c d W B := fun k hj => by
  obtain ⟨cs, t, z, e⟩ := hc k hj
  rw [e]
  exact hk k hj cs t z ((h k hj).trans e)

set_option maxRecDepth 100000 in
set_option maxHeartbeats 4000000 in
theorem pivots1_kept (n : Nat) (hn : 1 ≤ n) (l Ba Bb g1 c1 g2 c2 base : Nat) (Kp : World → World → Prop) (hKp : ∀ {A B : World}, Kp A B → ∀ k, (k = Ba ∨ k = Bb ∨ k = g1 ∨ k = g2) → ∀ cs t z, A.heap[k]? = some (.cells cs t z) → B.heap[k]? = some (.cells cs t z)) (hKs : ∀ {A B : World}, Kp A B → A.heap.size ≤ B.heap.size) (xs ys : List Int) (hys : Rising ys) (hyf : ∀ x ∈ ys, formed x = true) (hxf : ∀ x ∈ xs, formed x = true) (hxl : xs.length ≤ 2097152) (hyl : ys.length ≤ 2097152) (J Jx : List Int → World → Prop) (W : World) (hJ : ∀ s A B, J s A → A.grownBy B none → J s B)
    (hY : ∀ pre x W, J pre W → formed x = true → pre.length < xs.length → YieldAt Fence.wide (n - 1) Try.prog l #[.int .i64 x] W fun e W' =>
      (e = .returned (.bool true) ∧ J (pre ++ [x]) W' ∧ Kp W W') ∨ (e = .returned (.bool false) ∧ Jx (pre ++ [x]) W'))
    (hBa : W.heap[Ba]? = some (.cells #[.slice (some ⟨g1, 0, none⟩) xs.length c1] 26 (0, 0))) (hBb : W.heap[Bb]? = some (.cells #[.slice (some ⟨g2, 0, none⟩) ys.length c2] 26 (0, 0)))
    (hc : OwnInts W base (.slice (some ⟨g1, 0, none⟩) xs.length c1) xs) (ho : OwnInts W base (.slice (some ⟨g2, 0, none⟩) ys.length c2) ys) (h0 : J [] W) :
    CallsIn Fence.wide n Try.prog 79 #[.func (.yield l) #[] #[], .pointer (some ⟨Ba, 0, none⟩), .pointer (some ⟨Bb, 0, none⟩)] W fun e W' => (∃ v, e = .returned v) ∧
      ((∃ zs, zs = pivOf xs ys ∧ J zs W') ∨ (∃ pre, (∃ k, k ≤ xs.length ∧ pre = pivOf (xs.take k) ys) ∧ Jx pre W')) := by
  refine callsIn_of_wp Try.func79 rfl trivial ?_ rfl
  simp only [Try.ntmps79, List.size_toArray, List.length_cons, List.length_nil, Nat.reduceAdd, Nat.reduceSub, Array.replicate_succ, Array.replicate_zero, List.push_toArray, List.append_toArray, List.nil_append, List.cons_append]
  have hBa0 := (blk_cell hBa 0).trans rfl
  gi_wp2
  clear hBa0
  gi_loopw [10] (fun i wr => ∃ k : Nat, k ≤ xs.length ∧ i = .int .i64 k ∧ J (pivOf (xs.take k) ys) wr ∧ Four Ba Bb g1 g2 W wr ∧ W.heap.size ≤ wr.heap.size)
    (fun i _ => xs.length - (intOf i).toNat)
  case atStart => exact ⟨0, Nat.zero_le _, rfl, h0, fun _ _ => rfl, Nat.le_refl _⟩
  case round =>
    obtain ⟨k, hk, rfl, hJs, hnx, hsz⟩ := hrel
    by_cases hlt : k < xs.length
    · have hcx := own_read (own_move hc (fun j hj => hnx j (by simp [Value.ownBlock] at hj; simp [hj]))) hlt
      have hb2 := (blk_cell ((hnx Bb (by simp)).trans hBb) 0).trans rfl
      have hpt := pivOf_take (b := ys) hlt
      have hfx := hxf _ (rd_mem hlt)
      have hbd := formed_bd hfx
      generalize rd xs (k : Int) = x at *
      have hneg : wrap64 (-x) = -x := by unfold wrap64; omega
      by_cases c0 : x < 0
      · have e0 : isPiv ys x = false := by unfold isPiv; rw [decide_eq_false (by omega), Bool.false_and]
        have c0' : decide (x < 0) = true := decide_eq_true c0
        gi_wp2
        go_roundw
        case rel => exact ⟨k + 1, by omega, by simp, by rw [hpt, e0]; simpa using hJs, hnx, hsz⟩
        case measure => simp [intOf]; omega
      · have c0' : decide (x < 0) = false := decide_eq_false c0
        have hfn : formed (-x) = true := by rw [formed_neg]; exact hfx
        have hown : OwnInts wr base (.slice (some ⟨g2, 0, none⟩) ys.length c2) ys := own_move ho (fun j hj => hnx j (by simp [Value.ownBlock] at hj; simp [hj]))
        have S := search_quiet wr base g2 c2 ys (-x) hown hys hyf hfn (by omega)
        cases hcn : ys.contains (-x) with
        | false =>
          have e0 : isPiv ys x = false := by unfold isPiv; rw [hcn, Bool.and_false]
          rw [hcn] at S
          have HSS := Aside0.mk S
          clear S
          gi_wp2
          refine ⟨trivial, ?_⟩
          (with_reducible refine (callsIn_wide.2 HSS.out).mono ?_)
          rintro e w2 ⟨q, rfl, hgb⟩
          gi_wp2
          refine ⟨fun _ h => (by cases h), ?_⟩
          gi_wp2
          have hJ2 := hJ _ wr w2 hJs hgb
          have hb2 : Four Ba Bb g1 g2 W w2 := hnx.grown hgb (four_lt hBa hBb hc ho) hsz
          go_roundw
          case rel => exact ⟨k + 1, by omega, by simp, by rw [hpt, e0]; simpa using hJ2, hb2, Nat.le_trans hsz hgb.size⟩
          case measure => simp [intOf]; omega
        | true =>
          have e0 : isPiv ys x = true := by unfold isPiv; rw [hcn, decide_eq_true (by omega)]; rfl
          rw [hcn] at S
          have HSS := Aside0.mk S
          clear S
          gi_wp2
          refine ⟨trivial, ?_⟩
          (with_reducible refine (callsIn_wide.2 HSS.out).mono ?_)
          rintro e w2 ⟨q, rfl, hgb⟩
          have hJ2 := hJ _ wr w2 hJs hgb
          have hb2 : Four Ba Bb g1 g2 W w2 := hnx.grown hgb (four_lt hBa hBb hc ho) hsz
          obtain ⟨fn, tmps, assign, body, hy, hR⟩ := hY _ x w2 hJ2 hfx (by unfold pivOf; have := List.length_filter_le (isPiv ys) (xs.take k); rw [List.length_take] at this; omega)
          gi_wp2
          refine hR.mono ?_
          rintro e W3 (⟨rfl, hJ3, hk3⟩ | ⟨rfl, hJx3⟩)
          · gi_wp2
            go_roundw
            case rel => exact ⟨k + 1, by omega, by simp, by rw [hpt, e0]; exact hJ3, hb2.kept (four_cells hBa hBb hc ho) (hKp hk3), Nat.le_trans (Nat.le_trans hsz hgb.size) (hKs hk3)⟩
            case measure => simp [intOf]; omega
          · gi_wp2
            refine bodyPost_ret (results_none rfl _ _ _) rfl ?_
            exact ⟨⟨_, rfl⟩, .inr ⟨_, ⟨k + 1, by omega, by rw [hpt, e0]; rfl⟩, hJx3⟩⟩
    · obtain rfl : k = xs.length := by omega
      gi_wp2
      go_end0
      exact ⟨⟨_, rfl⟩, .inl ⟨_, by rw [List.take_length], hJs⟩⟩

theorem pivots_own (n : Nat) (hn : 1 ≤ n) (Ba Bb g1 c1 g2 c2 base : Nat)
    (xs ys : List Int) (hys : Rising ys) (hyf : ∀ x ∈ ys, formed x = true) (hxf : ∀ x ∈ xs, formed x = true) (hxl : xs.length ≤ 2097152) (hyl : ys.length ≤ 2097152) (w : World)
    (hBa : w.heap[Ba]? = some (.cells #[.slice (some ⟨g1, 0, none⟩) xs.length c1] 26 (0, 0))) (hBb : w.heap[Bb]? = some (.cells #[.slice (some ⟨g2, 0, none⟩) ys.length c2] 26 (0, 0)))
    (hc : OwnInts w base (.slice (some ⟨g1, 0, none⟩) xs.length c1) xs) (ho : OwnInts w base (.slice (some ⟨g2, 0, none⟩) ys.length c2) ys) :
    SeqD Fence.wide n Try.prog 79 #[.pointer (some ⟨Ba, 0, none⟩), .pointer (some ⟨Bb, 0, none⟩)] (fun x : Int => #[Value.int .i64 x]) (fun _ _ v _ => formed v = true) (fun k => k = Ba ∨ k = Bb ∨ k = g1 ∨ k = g2) (fun zs => zs = pivOf xs ys) (fun pre => ∃ k, k ≤ xs.length ∧ pre = pivOf (xs.take k) ys) xs.length w := fun l J Jx W hW hJ hJx hY h0 => by
  have lt := four_lt hBa hBb hc ho
  refine (pivots1_kept n hn l Ba Bb g1 c1 g2 c2 base (KeptD (fun k => k = Ba ∨ k = Bb ∨ k = g1 ∨ k = g2)) (fun h k hk cs t z e => h.2 k _ hk e) (fun h => h.1) xs ys hys hyf hxf hxl hyl (fun pre W => ∃ M, J M pre W) (fun pre W => ∃ M, Jx M pre W) W
    (fun s A B ⟨M, hj⟩ hg => ⟨M, hJ M M s A B hj (Grow.of_grownBy hg (fun r e => by cases e)) (More.refl _ _ _)⟩)
    (fun pre x W1 ⟨M, hj⟩ hfx hlen => (hY M M pre x W1 W1 hj (Grow.refl _ _) (More.refl _ _ _) (fun _ h => h) hfx hlen).mono ?_)
    ((hW.block Ba (lt Ba (by simp))).trans hBa) ((hW.block Bb (lt Bb (by simp))).trans hBb)
    (own_move hc (fun j hj => hW.block j (lt j (by simp [Value.ownBlock] at hj; simp [hj])))) (own_move ho (fun j hj => hW.block j (lt j (by simp [Value.ownBlock] at hj; simp [hj])))) ⟨_, h0⟩).mono ?_
  · rintro e W' (⟨rfl, hj, hk⟩ | ⟨rfl, hj⟩)
    · exact .inl ⟨rfl, ⟨M, hj⟩, hk.mono fun k h => .inr h⟩
    · exact .inr ⟨rfl, M, hj.1⟩
  · rintro e W' ⟨he, ⟨zs, hz, M, hj⟩ | ⟨pre, hp, M, hj⟩⟩
    · exact ⟨he, M, .inl ⟨zs, hz, hj⟩⟩
    · exact ⟨he, M, .inr ⟨pre, hp, hj⟩⟩
end Go.Proofs.YtamefocngapkpaaHand
/-! text YtamefocngapkpaaCollect -/
namespace Go.Proofs.YtamefocngapkpaaHand
open Go.RowKit Go.Sort Go.Lib Go.Shelf Go.Proofs.YtamefocngapkpaaW.PrintWords Go.Proofs.YtamefocngapkpaaW.PrintLast Go.Proofs.YtamefocngapkpaaMath
attribute [local go_sem] Oper.semAt_some
set_option linter.unusedVariables false
set_option linter.unusedSimpArgs false

set_option maxRecDepth 100000 in
set_option maxHeartbeats 4000000 in
theorem appendSeq_calls (Ba Bb : Nat) (S Sp : List Int → Prop) (N : Nat) (hN : N ≤ 2097152) (w : World)
    (hseq : SeqStopsK Fence.wide 5 Try.prog 79 #[.pointer (some ⟨Ba, 0, none⟩), .pointer (some ⟨Bb, 0, none⟩)] (fun x : Int => #[Value.int .i64 x]) (Below w.heap.size) S Sp N w) :
    Calls Try.prog 80 #[.slice none 0 0, .func (.func 79) #[] #[.pointer (some ⟨Ba, 0, none⟩), .pointer (some ⟨Bb, 0, none⟩)]] w fun e w' => ∃ v xs, e = .returned v ∧ S xs ∧ OwnInts w' w.heap.size v xs ∧ Below w.heap.size w w' := by
  obtain ⟨i0, hi, hz0, hz1, hz2⟩ := info_parts infoI
  refine (callsIn_wide (n := 6)).1 ?_
  refine callsIn_of_wp_marks Try.func80 rfl trivial ?_ rfl
  simp only [Try.ntmps80, List.size_toArray, List.length_cons, List.length_nil, Nat.reduceAdd, Nat.reduceSub, Array.replicate_succ, Array.replicate_zero, List.push_toArray, List.append_toArray, List.nil_append, List.cons_append]
  gi_wp2
  have bO := Boxed.new w 26 (.slice none 0 0)
  have hB0 : Below w.heap.size w (w.alloc (.cells #[.slice none 0 0] 26)) := (Below.refl _ w).alloc (Nat.le_refl _) _
  refine wpIn_rangeFunc_ownG rfl (by decide) (gf := 79) (lb := #[.pointer (some ⟨Ba, 0, none⟩), .pointer (some ⟨Bb, 0, none⟩)]) rfl trivial (enters_of Try.func79 (by kernel_rfl) rfl)
    hseq belowK_t (belowK_b (by simp)) hB0 (fun _ => rfl)
    (fun pre W => ((∃ v, Boxed W w.heap.size 26 v ∧ W.ownsRow w.heap.size 3 1 v pre.length (pre.map (Value.int .i64)) ∧ True) ∧ Below w.heap.size w W))
    (fun _ _ _ => False)
    (OwnFrom.and (Own.from (holdsRow_own w.heap.size w.heap.size 26 3 1 (fun pre : List Int => pre.length) (fun pre : List Int => pre.map (Value.int .i64)) (fun (_ : List Int) _ => True)) _) (ownFrom_below (Nat.le_refl _) (by simp)))
    (fun _ _ _ _ _ hs _ _ => hs)
    ⟨⟨_, bO, World.ownsRow_nil _ _ _ _, trivial⟩, hB0⟩
    (fun x => { tmps := #[.slice none 0 0, .func (.func 79) #[] #[.pointer (some ⟨Ba, 0, none⟩), .pointer (some ⟨Bb, 0, none⟩)], .pointer (some ⟨w.heap.size, 0, none⟩), undef, .slice none 0 0, .int .i64 x, .func (.func 79) #[] #[.pointer (some ⟨Ba, 0, none⟩), .pointer (some ⟨Bb, 0, none⟩)], .int .i64 x, undef, undef, undef, undef, undef], defers := [] }) ?assign ?body ?done ?stop
  case assign =>
    intro l x W K hK
    gi_wp2
    exact hK
  case body =>
    rintro l pre x W ⟨⟨v, hv, hrow, _⟩, hB⟩ hlt
    have hc := hv.cell
    gi_wp2_with (gi_at_builtin; refine wpListIn_append_own _ rfl _ _ 26 rfl w.heap.size 3 i0 (.int .i64 0) 1 8 Try.underlying26 hi hz0 hz1 hz2 rfl (by decide) _ _ _ rfl (hrow.alloc _) ⟨W.heap.size, 0, none⟩ 1 1 [.int .i64 x] rfl rfl (cell_one_new _ _ _) (by simp [Value.oneCell']) (by unfold maxLen; omega) (by omega) (by have := hB.size; simp; omega) ?_; intro v' w1 hown' hgrow _; obtain ⟨g', cap', rfl⟩ := ownsRow_succ hown'; obtain ⟨hv1, hv2, hr2, hk2, hb2⟩ := hv.appended (by decide) hrow hB.size (Nat.le_refl _) hown' hgrow; have hc1 := hv1.cell; have hf1 := hv1.frozen)
    exact ⟨hk2.from _, hb2, ⟨_, hv2, by simpa using hr2, trivial⟩, hB.trans hb2⟩
  case done =>
    rintro D ys W hD hS ⟨⟨v, hv, hrow, _⟩, hB⟩ hK
    have hc := hv.cell
    gi_wp2
    refine ⟨by simp, .inl ⟨_, _, rfl, run_takeDeferred hK, ?_⟩⟩
    refine ⟨_, results_tmp rfl _ _ _, v, ys, rfl, hS, ownsRow_putObj hrow _ hK rfl, hB.trans (belowK_b (w := w) (Nat.le_refl _) W D _ _ (by simp at hD; omega) hK rfl rfl)⟩
  case stop =>
    rintro D c pre W _ _ h _
    exact h.elim

set_option maxRecDepth 100000 in
set_option maxHeartbeats 4000000 in
theorem collect_calls (Ba Bb : Nat) (S Sp : List Int → Prop) (N : Nat) (hN : N ≤ 2097152) (w : World)
    (hseq : SeqStopsK Fence.wide 5 Try.prog 79 #[.pointer (some ⟨Ba, 0, none⟩), .pointer (some ⟨Bb, 0, none⟩)] (fun x : Int => #[Value.int .i64 x]) (Below w.heap.size) S Sp N w) :
    Calls Try.prog 72 #[.func (.func 79) #[] #[.pointer (some ⟨Ba, 0, none⟩), .pointer (some ⟨Bb, 0, none⟩)]] w fun e w' => ∃ v xs, e = .returned v ∧ S xs ∧ OwnInts w' w.heap.size v xs ∧ Below w.heap.size w w' := by
  have H := Aside0.mk (appendSeq_calls Ba Bb S Sp N hN w hseq)
  clear hseq
  go_enter Try.func72, Try.ntmps72
  go_wp2_with fail
  (with_reducible refine H.out.mono ?_)
  rintro e w' ⟨v, xs, rfl, hS, ho, hb⟩
  have HH : Aside0 (S xs ∧ OwnInts w' w.heap.size v xs ∧ Below w.heap.size w w') := ⟨hS, ho, hb⟩
  clear hS ho hb H
  go_wp2
  go_ret
  exact ⟨v, xs, rfl, HH.out⟩
end Go.Proofs.YtamefocngapkpaaHand
/-! text YtamefocngapkpaaWeave -/
namespace Go.Proofs.YtamefocngapkpaaMath
open Go.RowKit Go.Proofs.YtamefocngapkpaaW.PrintWords
set_option linter.unusedVariables false
set_option linter.unusedSimpArgs false
/-- what follows on a pivot of the other way -/
def bk1 (x y : List Int) (b : Int) : Int × List Int := (b, onOf y x b)
def wst (x y : List Int) (s : List (Int × List Int) × List Int) (v : Int) : List (Int × List Int) × List Int :=
  (s.1 ++ (s.2.takeWhile (fun b => decide (b < v))).map (bk1 x y) ++ [(v, onOf x y v)], s.2.dropWhile (fun b => decide (b < v)))
def wrun (x y : List Int) (bk pre : List Int) : List (Int × List Int) × List Int := pre.foldl (wst x y) ([], bk)
def weave (x y : List Int) : List (Int × List Int) := (wrun x y (pivOf y x) (pivOf x y)).1 ++ (wrun x y (pivOf y x) (pivOf x y)).2.map (bk1 x y)
theorem wrun_snoc (x y bk pre : List Int) (v : Int) : wrun x y bk (pre ++ [v]) = wst x y (wrun x y bk pre) v := by
  unfold wrun
  rw [List.foldl_append]
  rfl
theorem wst_len (x y : List Int) (s : List (Int × List Int) × List Int) (v : Int) : (wst x y s v).1.length + (wst x y s v).2.length = s.1.length + s.2.length + 1 := by
  have h : (s.2.takeWhile (fun b => decide (b < v))).length + (s.2.dropWhile (fun b => decide (b < v))).length = s.2.length := by
    rw [← List.length_append, List.takeWhile_append_dropWhile]
  unfold wst
  simp only [List.length_append, List.length_map, List.length_singleton]
  omega
theorem wrun_len (x y bk : List Int) (pre : List Int) : ∀ s, (pre.foldl (wst x y) s).1.length + (pre.foldl (wst x y) s).2.length = s.1.length + s.2.length + pre.length := by
  induction pre with
  | nil => intro s; simp
  | cons v pre ih =>
    intro s
    rw [List.foldl_cons, ih, wst_len]
    simp only [List.length_cons]
    omega
theorem fold_prefix (x y : List Int) (r : List Int) : ∀ s, s.1 <+: (r.foldl (wst x y) s).1 := by
  induction r with
  | nil => intro s; exact List.prefix_refl _
  | cons v r ih =>
    intro s
    refine List.IsPrefix.trans ?_ (ih _)
    unfold wst
    rw [List.append_assoc]
    exact List.prefix_append _ _
theorem fold_mem (x y pre : List Int) : ∀ (s : List (Int × List Int) × List Int) (b : Int), b ∈ (pre.foldl (wst x y) s).2 → b ∈ s.2 := by
  induction pre with
  | nil => intro s b h; exact h
  | cons v pre ih =>
    intro s b h
    have h1 := ih _ b h
    unfold wst at h1
    exact (List.dropWhile_sublist _).subset h1
theorem wrun_mem {x y pre : List Int} {b : Int} (h : b ∈ (wrun x y (pivOf y x) pre).2) : b ∈ y := by
  have h1 := fold_mem x y pre _ b h
  unfold pivOf at h1
  exact (List.mem_filter.1 h1).1
theorem wrun_weave {x y pre : List Int} (h : pre <+: pivOf x y) : (wrun x y (pivOf y x) pre).1 <+: weave x y := by
  obtain ⟨r, hr⟩ := h
  refine List.IsPrefix.trans ?_ (List.prefix_append _ _)
  rw [← hr]
  unfold wrun
  rw [List.foldl_append]
  exact fold_prefix x y r _
theorem pivOf_prefix (x y : List Int) (k : Nat) : pivOf (x.take k) y <+: pivOf x y := by
  unfold pivOf
  exact (List.take_prefix k x).filter _
theorem pivOf_length (x y : List Int) : (pivOf x y).length ≤ x.length := List.length_filter_le _ _
/-- within a round: some of the back's pivots have been told -/
theorem wst_mid {x y : List Int} {s : List (Int × List Int) × List Int} {v : Int} {d r : List Int} (hs : s.2 = d ++ r) (hd : ∀ b ∈ d, b < v) : ∃ t, (wst x y s v).1 = s.1 ++ d.map (bk1 x y) ++ t := by
  unfold wst
  rw [hs, List.takeWhile_append_of_pos (by simpa using hd), List.map_append]
  exact ⟨(r.takeWhile (fun b => decide (b < v))).map (bk1 x y) ++ [(v, onOf x y v)], by simp⟩
theorem wst_end {x y : List Int} {s : List (Int × List Int) × List Int} {v : Int} {d r : List Int} (hs : s.2 = d ++ r) (hd : ∀ b ∈ d, b < v) (hr : ∀ b r', r = b :: r' → ¬ b < v) : wst x y s v = (s.1 ++ d.map (bk1 x y) ++ [(v, onOf x y v)], r) := by
  have h1 : r.takeWhile (fun b => decide (b < v)) = [] := by
    cases r with
    | nil => rfl
    | cons b r' => simp [hr b r' rfl]
  have h2 : r.dropWhile (fun b => decide (b < v)) = r := by
    cases r with
    | nil => rfl
    | cons b r' => simp [hr b r' rfl]
  unfold wst
  rw [hs, List.takeWhile_append_of_pos (by simpa using hd), List.dropWhile_append_of_pos (by simpa using hd), h1, h2, List.append_nil]
end Go.Proofs.YtamefocngapkpaaMath
/-! text YtamefocngapkpaaResolvents0 -/
namespace Go.Proofs.YtamefocngapkpaaHand
open Go.RowKit Go.Sort Go.Lib Go.Shelf Go.Proofs.YtamefocngapkpaaW.PrintWords Go.Proofs.YtamefocngapkpaaW.PrintLast Go.Proofs.YtamefocngapkpaaMath Go.Proofs.YtamefocngapkpaaOwn
attribute [local go_sem] Oper.semAt_some
set_option linter.unusedVariables false
set_option linter.unusedSimpArgs false

/-- what is handed out: a row of its own, new since A, none of the iterator's -/
def HandI (A : World) (M : Nat → Prop) (p : Int × Value × List Int) (W : World) : Prop := OwnInts W A.heap.size p.2.1 p.2.2 ∧ (∀ k, p.2.1.ownBlock = some k → ¬ M k) ∧ (∀ z ∈ p.2.2, formed z = true) ∧ p.2.2.length ≤ 2097152
theorem HandI.move (A : World) (M M' : Nat → Prop) (p : Int × Value × List Int) (W W' : World) (h : HandI A M p W) (hM : ∀ k, M' k → M k ∨ k < A.heap.size) (hW : ∀ k cs t z, A.heap.size ≤ k → W.heap[k]? = some (.cells cs t z) → W'.heap[k]? = some (.cells cs t z)) : HandI A M' p W' := by
  obtain ⟨h1, h2, h3⟩ := h
  have hb : ∀ k, p.2.1.ownBlock = some k → A.heap.size ≤ k ∧ W'.heap[k]? = W.heap[k]? := fun k hk => by
    rcases h1.2 with ⟨e, _⟩ | ⟨g, cap, cur, e, hg, hc, _⟩
    · rw [e] at hk; simp [Value.ownBlock] at hk
    · rw [e] at hk
      simp [Value.ownBlock] at hk
      subst hk
      exact ⟨hg, (hW g _ _ _ hg hc).trans hc.symm⟩
  refine ⟨own_move h1 fun k hk => (hb k hk).2, fun k hk h4 => ?_, h3⟩
  rcases hM k h4 with h5 | h5
  · exact h2 k hk h5
  · have := (hb k hk).1
    omega
theorem on_good (p q : List Int) (v : Int) : (∀ z ∈ onOf p q v, formed z = true) ∧ (onOf p q v).length ≤ 2097152 := ⟨fun _ h => tidyOf_formed h, formed_count (onOf p q v) (rising_tidyOf _) (fun _ h => tidyOf_formed h)⟩
/-- two boxes with two tidy lists -/
structure Two (x y : List Int) (Bx By gx cx gy cy base : Nat) (W : World) : Prop where
  hx : W.heap[Bx]? = some (.cells #[.slice (some ⟨gx, 0, none⟩) x.length cx] 26 (0, 0))
  hy : W.heap[By]? = some (.cells #[.slice (some ⟨gy, 0, none⟩) y.length cy] 26 (0, 0))
  ox : OwnInts W base (.slice (some ⟨gx, 0, none⟩) x.length cx) x
  oy : OwnInts W base (.slice (some ⟨gy, 0, none⟩) y.length cy) y
theorem Two.move {x y : List Int} {Bx By gx cx gy cy base : Nat} {W W' : World} (h : Two x y Bx By gx cx gy cy base W) (k : ∀ k, (k = Bx ∨ k = By ∨ k = gx ∨ k = gy) → W'.heap[k]? = W.heap[k]?) : Two x y Bx By gx cx gy cy base W' :=
  ⟨(k Bx (by simp)).trans h.hx, (k By (by simp)).trans h.hy, own_move h.ox (fun j hj => k j (by simp [Value.ownBlock] at hj; simp [hj])), own_move h.oy (fun j hj => k j (by simp [Value.ownBlock] at hj; simp [hj]))⟩
theorem Two.lt {x y : List Int} {Bx By gx cx gy cy base : Nat} {W : World} (h : Two x y Bx By gx cx gy cy base W) : ∀ k, (k = Bx ∨ k = By ∨ k = gx ∨ k = gy) → k < W.heap.size := four_lt h.hx h.hy h.ox h.oy
theorem Two.below {x y : List Int} {Bx By gx cx gy cy base : Nat} {W W' : World} (h : Two x y Bx By gx cx gy cy base W) (k : Below W.heap.size W W') : Two x y Bx By gx cx gy cy base W' := h.move fun j hj => k.block j (h.lt j hj)

/-- what the iterator holds: the two lists; its box with yield; what is left of the back's pivots -/
structure RV (l : Nat) (x y : List Int) (b0 bb Bx By gx cx gy cy base gb : Nat) (bk : List Int) (W : World) : Prop where
  two : Two x y Bx By gx cx gy cy base W
  hb0 : W.heap[b0]? = some (.cells #[.func (.yield l) #[] #[]] 65 (0, 0))
  hg : gb < W.heap.size
  hbb : ∃ A c, W.heap[bb]? = some (.cells #[.slice A bk.length c] 26 (0, 0)) ∧ bk.length ≤ c ∧ ∀ W' : World, W'.heap[gb]? = W.heap[gb]? → Kd.C (Kd.int .i64) W' A bk.length bk
def RIt (b0 bb Bx By gx gy gb k : Nat) : Prop := k = b0 ∨ k = bb ∨ k = gb ∨ k = Bx ∨ k = By ∨ k = gx ∨ k = gy
section
variable {l : Nat} {x y : List Int} {b0 bb Bx By gx cx gy cy base gb : Nat} {bk : List Int} {W W' : World}
theorem RV.lt (h : RV l x y b0 bb Bx By gx cx gy cy base gb bk W) {k : Nat} (hk : RIt b0 bb Bx By gx gy gb k) : k < W.heap.size := by
  obtain ⟨A, c, hb, _⟩ := h.hbb
  rcases hk with rfl | rfl | rfl | hk
  · exact blk_lt h.hb0
  · exact blk_lt hb
  · exact h.hg
  · exact h.two.lt k hk
theorem RV.move (h : RV l x y b0 bb Bx By gx cx gy cy base gb bk W) (k : ∀ k, RIt b0 bb Bx By gx gy gb k → W'.heap[k]? = W.heap[k]?) : RV l x y b0 bb Bx By gx cx gy cy base gb bk W' := by
  obtain ⟨A, c, hb, hc, hC⟩ := h.hbb
  refine ⟨h.two.move fun j hj => k j (.inr (.inr (.inr hj))), (k b0 (.inl rfl)).trans h.hb0, ?_, A, c, (k bb (.inr (.inl rfl))).trans hb, hc, fun W2 h2 => hC W2 (h2.trans (k gb (.inr (.inr (.inl rfl)))))⟩
  have e := k gb (.inr (.inr (.inl rfl)))
  rw [Array.getElem?_eq_getElem h.hg] at e
  exact blk_lt e
theorem RV.below (h : RV l x y b0 bb Bx By gx cx gy cy base gb bk W) (k : Below W.heap.size W W') : RV l x y b0 bb Bx By gx cx gy cy base gb bk W' := h.move fun j hj => k.block j (h.lt hj)
theorem RV.kept {M : Nat → Prop} (h : RV l x y b0 bb Bx By gx cx gy cy base gb bk W) (k : KeptD M W W') (hM : ∀ k, RIt b0 bb Bx By gx gy gb k → M k) : RV l x y b0 bb Bx By gx cx gy cy base gb bk W' := h.move fun j hj => by
  have hl := h.lt hj
  rw [Array.getElem?_eq_getElem hl]
  exact k.2 j _ (hM j hj) (Array.getElem?_eq_getElem hl)
/-- the back's next pivot is told -/
theorem RV.next {b : Int} {A : Option Addr} {c : Nat} (h : RV l x y b0 bb Bx By gx cx gy cy base gb (b :: bk) W) (hb : W.heap[bb]? = some (.cells #[.slice A (bk.length + 1) c] 26 (0, 0))) (hne : bb ≠ b0 ∧ bb ≠ gb ∧ bb ≠ Bx ∧ bb ≠ By ∧ bb ≠ gx ∧ bb ≠ gy) :
    RV l x y b0 bb Bx By gx cx gy cy base gb bk (W.setCell ⟨bb, 0, none⟩ (.slice (if c = 1 then A else A.map (·.add 1)) bk.length (c - 1))) := by
  obtain ⟨A', c', hb', hc, hC⟩ := h.hbb
  rw [hb] at hb'
  simp only [List.length_cons, Option.some.injEq, Obj.cells.injEq, Array.mk.injEq, List.cons.injEq, Value.slice.injEq, and_true, true_and] at hb'
  obtain ⟨rfl, rfl⟩ := hb'
  obtain ⟨n1, n2, n3, n4, n5, n6⟩ := hne
  have far : ∀ j, j ≠ bb → (W.setCell ⟨bb, 0, none⟩ (.slice (if c = 1 then A else A.map (·.add 1)) bk.length (c - 1))).heap[j]? = W.heap[j]? := fun j hj => Below.heap_setCell W ⟨bb, 0, none⟩ _ j hj
  refine ⟨h.two.move fun j hj => far j (by rintro rfl; rcases hj with h | h | h | h <;> contradiction), (far b0 (fun e => n1 e.symm)).trans h.hb0, ?_, _, _, blk_put hb 0 _ rfl, ?_, ?_⟩
  · exact Nat.lt_of_lt_of_le h.hg ((Below.refl 0 W).setCell (p := ⟨bb, 0, none⟩) (Nat.zero_le _) _).size
  · simp only [List.length_cons] at hc
    omega
  · intro W2 h2
    have h3 := hC W2 (h2.trans (far gb (fun e => n2 e.symm)))
    have h4 := Kd.C_drop (k := Kd.int .i64) (m := 1) h3 (by simp) hc
    rw [show 1 * (Kd.int .i64).sz = 1 from rfl] at h4
    simpa using h4
end
/-- a list that a call has made, as the back's pivots -/
theorem own_back {W : World} {b1 z : Nat} {v : Value} {xs : List Int} (h : OwnInts W b1 v xs) (hz : z < W.heap.size) (hzb : z ≤ b1) : ∃ A c gb, v = .slice A xs.length c ∧ xs.length ≤ c ∧ gb < W.heap.size ∧ (gb = z ∨ b1 ≤ gb ∧ some gb = v.ownBlock) ∧ ∀ W' : World, W'.heap[gb]? = W.heap[gb]? → Kd.C (Kd.int .i64) W' A xs.length xs := by
  obtain ⟨A, c, rfl⟩ := Kd.R_slice (own_R h)
  have hle := (Kd.R_reads' (own_R h)).2.1
  rcases h.2 with ⟨e, h0⟩ | ⟨g, cap, cur, e, hbg, hgb, _⟩
  · have hx : xs = [] := by cases xs with | nil => rfl | cons a r => simp at h0
    subst hx
    injection e with e1 _ e2
    subst e1
    subst e2
    exact ⟨none, 0, z, rfl, Nat.le_refl _, hz, .inl rfl, fun W' _ => Kd.C_nil _ _⟩
  · injection e with e1 _ e2
    subst e1
    subst e2
    refine ⟨some ⟨g, 0, none⟩, _, g, rfl, hle, blk_lt hgb, .inr ⟨hbg, rfl⟩, fun W' hW => ?_⟩
    exact (Kd.R_reads' (own_R (own_move h (fun j hj => by simp [Value.ownBlock] at hj; rw [← hj]; exact hW)))).2.2
theorem R_own {W : World} {base : Nat} {v : Value} {xs : List Int} (h : Kd.R (Kd.int .i64) 3 W base (fun _ => True) v xs) : OwnInts W base v xs := by
  obtain ⟨_, cs, ho, hl, hr⟩ := h
  have e : cs = nums .i64 xs := by
    refine List.ext_getElem? fun j => ?_
    rcases Nat.lt_or_ge j xs.length with hj | hj
    · have := hr j xs[j] (List.getElem?_eq_getElem hj)
      have h2 : (cs.drop (j * 1)).take 1 = [Value.int .i64 xs[j]] := this
      rw [Nat.mul_one] at h2
      have h3 := congrArg (fun l => l[0]?) h2
      simp only [List.getElem?_take, List.getElem?_drop] at h3
      simp at h3
      rw [h3]
      simp [nums, List.getElem?_eq_getElem hj]
    · have hl2 : cs.length = xs.length := by rw [hl]; exact Nat.mul_one _
      rw [List.getElem?_eq_none (by omega), List.getElem?_eq_none (by simp [nums]; omega)]
  rw [e] at ho
  exact ho

theorem roundIn_wide {l : Nat} {n m : Nat} {P : Program} {li : Nat} {f : FuncId} {tmps : Array Value} {assign body : Code} {w : World} {R : Ending → World → Prop} (h : RoundIn Fence.wide n P l f tmps assign body w R) : RoundIn (Fence.wide.inRound li) m P l f tmps assign body w R :=
  ⟨h.1, fun c cs _ => h.2 c cs (room_wide _)⟩
theorem roundIn_wide0 {l : Nat} {n m : Nat} {P : Program} {f : FuncId} {tmps : Array Value} {assign body : Code} {w : World} {R : Ending → World → Prop} (h : RoundIn Fence.wide n P l f tmps assign body w R) : RoundIn Fence.wide m P l f tmps assign body w R :=
  ⟨h.1, fun c cs _ => h.2 c cs (room_wide _)⟩

/-- the round's answer as one truth -/
theorem round_bool {l n : Nat} {P : Program} {li : Nat} {f : FuncId} {tmps : Array Value} {assign body : Code} {w : World} {p q : World → Prop} (h : RoundIn Fence.wide n P l f tmps assign body w fun e W' => (e = .returned (.bool true) ∧ p W') ∨ (e = .returned (.bool false) ∧ q W')) (m : Nat) :
    RoundIn (Fence.wide.inRound li) m P l f tmps assign body w fun e W' => ∃ b : Bool, e = .returned (.bool b) ∧ Aside0 ((b = true ∧ p W') ∨ (b = false ∧ q W')) := (roundIn_wide h).mono fun e W' hh => by
  rcases hh with ⟨rfl, h⟩ | ⟨rfl, h⟩
  · exact ⟨true, rfl, ⟨.inl ⟨rfl, h⟩⟩⟩
  · exact ⟨false, rfl, ⟨.inr ⟨rfl, h⟩⟩⟩

/-- how many of the back's pivots are left, read off the world -/
def backLen (bb : Nat) (W : World) : Nat := match W.heap[bb]? with
  | some (.cells cs _ _) => (match cs.toList with | [.slice _ n _] => n | _ => 0)
  | _ => 0
theorem backLen_eq {bb n c t : Nat} {A : Option Addr} {W : World} (h : W.heap[bb]? = some (.cells #[.slice A n c] t (0, 0))) : backLen bb W = n := by
  unfold backLen
  rw [h]

/-- what is told so far, with the caller's own -/
structure RJ (J : (Nat → Prop) → List (Int × Value × List Int) → World → Prop) (l : Nat) (x y : List Int) (b0 bb Bx By gx cx gy cy base gb Ba Bb : Nat) (Mi Mo : Nat → Prop) (es : List (Int × Value × List Int)) (told : List (Int × List Int)) (bk : List Int) (W : World) : Prop where
  hj : J Mo es W
  he : es.map (fun p => (p.1, p.2.2)) = told
  hv : RV l x y b0 bb Bx By gx cx gy cy base gb bk W
  hi : ∀ k, Mi k → Mo k
  hn : ∀ k, RIt b0 bb Bx By gx gy gb k → ¬ Mi k
  hm : ∀ k, (k = b0 ∨ k = bb ∨ k = gb ∨ k = Ba ∨ k = Bb) → Mo k
  hs : ∀ k, Mo k → k < W.heap.size
def RI (J : (Nat → Prop) → List (Int × Value × List Int) → World → Prop) (l : Nat) (x y : List Int) (b0 bb Bx By gx cx gy cy base gb Ba Bb : Nat) (Mi : Nat → Prop) (pre : List Int) (W : World) : Prop :=
  ∃ Mo es, RJ J l x y b0 bb Bx By gx cx gy cy base gb Ba Bb Mi Mo es (wrun x y (pivOf y x) pre).1 (wrun x y (pivOf y x) pre).2 W
def RX (Jx : (Nat → Prop) → List (Int × Value × List Int) → World → Prop) (x y : List Int) (c : Code) (Mi : Nat → Prop) (pre : List Int) (W : World) : Prop :=
  c = .ret ∧ ∃ Mo es, Jx Mo es W ∧ es.map (fun p => (p.1, p.2.2)) <+: (wrun x y (pivOf y x) pre).1 ∧ (∀ k, Mi k → Mo k)
section
variable {J Jx : (Nat → Prop) → List (Int × Value × List Int) → World → Prop} {l : Nat} {x y : List Int} {b0 bb Bx By gx cx gy cy base gb Ba Bb : Nat} {Mi Mo : Nat → Prop} {es : List (Int × Value × List Int)} {told : List (Int × List Int)} {bk : List Int} {A B W : World}
theorem RJ.step (h : RJ J l x y b0 bb Bx By gx cx gy cy base gb Ba Bb Mi Mo es told bk A) (hJ : OwnD J) (hg : Grow Mi A B) {M1 : Nat → Prop} (hm : More Mi A B M1) : RJ J l x y b0 bb Bx By gx cx gy cy base gb Ba Bb M1 (fun k => Mo k ∨ (A.heap.size ≤ k ∧ k < B.heap.size)) es told bk B where
  hj := hJ _ _ _ _ _ h.hj (hg.mono h.hi) (fun k hk => hk)
  he := h.he
  hv := h.hv.move fun k hk => hg.block k (h.hv.lt hk) (h.hn k hk)
  hi := fun k hk => (hm k hk).imp (h.hi k) id
  hn := fun k hk h1 => by
    rcases hm k h1 with h2 | h2
    · exact h.hn k hk h2
    · have := h.hv.lt hk
      omega
  hm := fun k hk => .inl (h.hm k hk)
  hs := fun k hk => by
    rcases hk with hk | hk
    · exact Nat.lt_of_lt_of_le (h.hs k hk) hg.size
    · exact hk.2
theorem RI.own (hJ : OwnD J) : OwnD (RI J l x y b0 bb Bx By gx cx gy cy base gb Ba Bb) := fun M M1 s A B ⟨Mo, es, h⟩ hg hm => ⟨_, es, h.step hJ hg hm⟩
theorem RX.own (hJx : OwnD Jx) (c : Code) : OwnD (RX Jx x y c) := fun M M1 s A B ⟨hc, Mo, es, h, hp, hi⟩ hg hm => ⟨hc, (fun k => Mo k ∨ (A.heap.size ≤ k ∧ k < B.heap.size)), es, hJx _ _ _ _ _ h (hg.mono hi) (fun k hk => hk), hp, fun k hk => (hm k hk).imp (hi k) id⟩
theorem RJ.yield (h : RJ J l x y b0 bb Bx By gx cx gy cy base gb Ba Bb Mi Mo es told bk A) (hb : Below A.heap.size A B) {u : Value} {row : List Int} (v : Int) (ho : OwnInts B A.heap.size u row) (hrow : (∀ z ∈ row, formed z = true) ∧ row.length ≤ 2097152) :
    ∃ M1, Grow Mo A B ∧ More Mo A B M1 ∧ (∀ k, Mo k → M1 k) ∧ HandI A M1 (v, u, row) B ∧ (∀ k, Mi k → M1 k) ∧ ∀ W6, KeptD (fun k => M1 k ∨ (k = Bx ∨ k = By ∨ k = gx ∨ k = gy)) B W6 →
      (∀ k, RIt b0 bb Bx By gx gy gb k → W6.heap[k]? = A.heap[k]?) ∧ KeptD (fun k => Mi k ∨ (k = Ba ∨ k = Bb ∨ k = gx ∨ k = gy)) A W6 ∧ (J M1 (es ++ [(v, u, row)]) W6 → RJ J l x y b0 bb Bx By gx cx gy cy base gb Ba Bb Mi M1 (es ++ [(v, u, row)]) (told ++ [(v, row)]) bk W6) := by
  refine ⟨fun k => Mo k ∨ (A.heap.size ≤ k ∧ k < B.heap.size ∧ u.ownBlock ≠ some k), Grow.of_below hb, fun k hk => hk.imp id (fun h => ⟨h.1, h.2.1⟩), fun k hk => .inl hk, ⟨ho, fun k hk h1 => ?_, hrow⟩, fun k hk => .inl (h.hi k hk), fun W6 hk => ?_⟩
  · rcases h1 with h1 | h1
    · have h2 := h.hs k h1
      rcases ho.2 with ⟨e, _⟩ | ⟨g, cap, cur, e, hg, _⟩
      · rw [e] at hk; simp [Value.ownBlock] at hk
      · rw [e] at hk
        simp [Value.ownBlock] at hk
        omega
    · exact h1.2.2 hk
  · have h6 : ∀ k, RIt b0 bb Bx By gx gy gb k → W6.heap[k]? = A.heap[k]? := fun k hr => by
      have hl := h.hv.lt hr
      rw [Array.getElem?_eq_getElem hl]
      refine hk.2 k _ ?_ ((hb.block k hl).trans (Array.getElem?_eq_getElem hl))
      rcases hr with rfl | rfl | rfl | hr
      · exact .inl (.inl (h.hm _ (by simp)))
      · exact .inl (.inl (h.hm _ (by simp)))
      · exact .inl (.inl (h.hm _ (by simp)))
      · exact .inr hr
    refine ⟨h6, ?_, fun hj => ⟨hj, by simp [h.he], h.hv.move h6, fun k hk => .inl (h.hi k hk), h.hn, fun k hk => .inl (h.hm k hk), fun k h1 => ?_⟩⟩
    · refine (KeptD.of_below hb).trans (hk.mono fun k h1 => ?_)
      rcases h1 with h1 | rfl | rfl | rfl | rfl
      · exact .inl (.inl (h.hi k h1))
      · exact .inl (.inl (h.hm _ (by simp)))
      · exact .inl (.inl (h.hm _ (by simp)))
      · exact .inr (by simp)
      · exact .inr (by simp)
    · have := hb.size
      have := hk.1
      rcases h1 with h1 | h1
      · have := h.hs k h1; omega
      · omega
theorem RJ.next {b : Int} (h : RJ J l x y b0 bb Bx By gx cx gy cy base gb Ba Bb Mi Mo es told (b :: bk) W) (hJ : OwnD J) {Ad : Option Addr} {c : Nat} (hb : W.heap[bb]? = some (.cells #[.slice Ad (bk.length + 1) c] 26 (0, 0))) (hne : bb ≠ b0 ∧ bb ≠ gb ∧ bb ≠ Bx ∧ bb ≠ By ∧ bb ≠ gx ∧ bb ≠ gy) :
    RJ J l x y b0 bb Bx By gx cx gy cy base gb Ba Bb Mi Mo es told bk (W.setCell ⟨bb, 0, none⟩ (.slice (if c = 1 then Ad else Ad.map (·.add 1)) bk.length (c - 1))) where
  hj := hJ _ _ _ _ _ h.hj (Grow.of_grownBy (grownBy_setCell' W bb _) (fun r e => by cases e; exact h.hm _ (by simp))) (More.refl _ _ _)
  he := h.he
  hv := h.hv.next hb hne
  hi := h.hi
  hn := h.hn
  hm := h.hm
  hs := fun k hk => Nat.lt_of_lt_of_le (h.hs k hk) ((Below.refl 0 W).setCell (p := ⟨bb, 0, none⟩) (Nat.zero_le _) _).size
end
theorem on_any (p q : List Int) (gp cp gq cq base : Nat) (v : Int) (wr W' : World) {Bp Bq : Nat} (h : Two p q Bp Bq gp cp gq cq base wr) (hb : Below wr.heap.size wr W') (hlp : p.length ≤ 2097152) (hlq : q.length ≤ 2097152) (hv : -9223372036854775807 ≤ v ∧ v ≤ 9223372036854775807) :
    Calls Try.prog 69 #[.slice (some ⟨gp, 0, none⟩) p.length cp, .slice (some ⟨gq, 0, none⟩) q.length cq, .int .i64 v] W' fun e w' => ∃ u : Value, e = .returned u ∧ OwnInts w' wr.heap.size u (onOf p q v) ∧ Below wr.heap.size wr w' := by
  have h2 := h.below hb
  have r1 := Kd.R_reads' (own_R h2.ox)
  have r2 := Kd.R_reads' (own_R h2.oy)
  refine (on_calls (some ⟨gp, 0, none⟩) (some ⟨gq, 0, none⟩) cp cq p q v W' r1.2.2 r1.2.1 r2.2.2 r2.2.1 (by omega) (by omega) hv).mono ?_
  rintro e w' ⟨u, he, hR, hb2⟩
  exact ⟨u, he, own_weaken (R_own hR) hb.size, below_step hb hb2⟩
section
variable {J Jx : (Nat → Prop) → List (Int × Value × List Int) → World → Prop} {l : Nat} {x y : List Int} {b0 bb Bx By gx cx gy cy base gb Ba Bb : Nat} {Mi Mo : Nat → Prop} {es : List (Int × Value × List Int)} {pre d r : List Int} {v : Int} {A B W : World}
theorem RJ.done (h : RJ J l x y b0 bb Bx By gx cx gy cy base gb Ba Bb Mi Mo es ((wrun x y (pivOf y x) pre).1 ++ d.map (bk1 x y) ++ [(v, onOf x y v)]) r W) (hs : (wrun x y (pivOf y x) pre).2 = d ++ r ∧ ∀ b ∈ d, b < v) (hr : ∀ b r', r = b :: r' → ¬ b < v) :
    RI J l x y b0 bb Bx By gx cx gy cy base gb Ba Bb Mi (pre ++ [v]) W := by
  refine ⟨Mo, es, ?_⟩
  rw [wrun_snoc, wst_end hs.1 hs.2 hr]
  exact h
theorem RJ.left (h : RJ J l x y b0 bb Bx By gx cx gy cy base gb Ba Bb Mi Mo es ((wrun x y (pivOf y x) pre).1 ++ d.map (bk1 x y)) r A) (hs : (wrun x y (pivOf y x) pre).2 = d ++ r ∧ ∀ b ∈ d, b < v) (hr : ∀ b r', r = b :: r' → ¬ b < v) {M2 : Nat → Prop} {u : Value} (hx : Jx M2 (es ++ [(v, u, onOf x y v)]) W) (hi : ∀ k, Mi k → M2 k) :
    RX Jx x y .ret Mi (pre ++ [v]) W := by
  refine ⟨rfl, M2, _, hx, ?_, hi⟩
  rw [wrun_snoc, wst_end hs.1 hs.2 hr]
  simp [h.he]
theorem RJ.left2 {b : Int} (h : RJ J l x y b0 bb Bx By gx cx gy cy base gb Ba Bb Mi Mo es ((wrun x y (pivOf y x) pre).1 ++ d.map (bk1 x y)) (b :: r) A) (hs : (wrun x y (pivOf y x) pre).2 = d ++ b :: r ∧ ∀ b ∈ d, b < v) (hb : b < v) {M2 : Nat → Prop} {u : Value} (hx : Jx M2 (es ++ [(b, u, onOf y x b)]) W) (hi : ∀ k, Mi k → M2 k) :
    RX Jx x y .ret Mi (pre ++ [v]) W := by
  refine ⟨rfl, M2, _, hx, ?_, hi⟩
  rw [wrun_snoc]
  obtain ⟨t, ht⟩ := wst_mid (x := x) (y := y) (v := v) (d := d ++ [b]) (r := r) (by rw [hs.1, List.append_assoc]; rfl) (fun c hc => by
    rcases List.mem_append.1 hc with hc | hc
    · exact hs.2 c hc
    · rw [List.mem_singleton] at hc; subst hc; exact hb)
  rw [ht]
  refine ⟨t, ?_⟩
  simp [h.he, bk1]
theorem RJ.few (h : RJ J l x y b0 bb Bx By gx cx gy cy base gb Ba Bb Mi Mo es ((wrun x y (pivOf y x) pre).1 ++ d.map (bk1 x y)) r A) (hs : (wrun x y (pivOf y x) pre).2 = d ++ r) (hx : x.length ≤ 2097152) (hy : y.length ≤ 2097152) (hp : pre.length < x.length) : es.length < 4194304 := by
  have h1 := congrArg List.length h.he
  have h2 := wrun_len x y (pivOf y x) pre ([], pivOf y x)
  have h3 := congrArg List.length hs
  have h4 := pivOf_length y x
  unfold wrun at h1 h3
  simp only [List.length_map, List.length_append, List.length_nil] at h1 h2 h3
  omega
end
end Go.Proofs.YtamefocngapkpaaHand
