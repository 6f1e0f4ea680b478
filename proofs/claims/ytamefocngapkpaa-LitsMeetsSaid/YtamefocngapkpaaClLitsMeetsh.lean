/- What lits.pivots hands out, for whatever rounds keep the four blocks that it reads. -/
import Derived.Test.YtamefocngapkpaaClLitsMeetsg
import Derived.RangeFuncBox
import Derived.Maps.AppendAt
import Derived.Test.YtamefocngapkpaaClLitsMeetsf
/-! text YtamefocngapkpaaPivots2 -/
namespace Go.Proofs.YtamefocngapkpaaHand
open Go.RowKit Go.Sort Go.Lib Go.Shelf Go.Proofs.YtamefocngapkpaaW.PrintWords Go.Proofs.YtamefocngapkpaaW.PrintLast Go.Proofs.YtamefocngapkpaaMath Go.Proofs.YtamefocngapkpaaOwn
attribute [local go_sem] Oper.semAt_some
set_option linter.unusedVariables false
set_option linter.unusedSimpArgs false

/-- four blocks lie as they lay -/
def Four (a b c d : Nat) (W W' : World) : Prop := ∀ k, (k = a ∨ k = b ∨ k = c ∨ k = d) → W'.heap[k]? = W.heap[k]?
theorem own_read {W : World} {base g cap : Nat} {xs : List Int} (h : OwnInts W base (.slice (some ⟨g, 0, none⟩) xs.length cap) xs) {k : Nat} (hk : k < xs.length) : W.cell? ⟨g, k, none⟩ = some (.int .i64 (rd xs (k : Int))) := by
  have := (own_at h (k : Int) (by omega) (by omega)).1
  rwa [Int.toNat_natCast] at this
theorem Four.grown {a b c d : Nat} {W A B : World} (h : Four a b c d W A) (hg : A.grownBy B none) (hl : ∀ k, (k = a ∨ k = b ∨ k = c ∨ k = d) → k < W.heap.size) (hs : W.heap.size ≤ A.heap.size) : Four a b c d W B := fun k hk => (hg.block k (Nat.lt_of_lt_of_le (hl k hk) hs) (by simp)).trans (h k hk)
theorem four_cells {W : World} {Ba Bb g1 c1 g2 c2 base t1 t2 : Nat} {v1 v2 : Value} {xs ys : List Int} (hBa : W.heap[Ba]? = some (.cells #[v1] t1 (0, 0))) (hBb : W.heap[Bb]? = some (.cells #[v2] t2 (0, 0)))
    (h1 : OwnInts W base (.slice (some ⟨g1, 0, none⟩) xs.length c1) xs) (h2 : OwnInts W base (.slice (some ⟨g2, 0, none⟩) ys.length c2) ys) : ∀ k, (k = Ba ∨ k = Bb ∨ k = g1 ∨ k = g2) → ∃ cs t z, W.heap[k]? = some (.cells cs t z) := by
  have row : ∀ {g cap : Nat} {zs : List Int}, OwnInts W base (.slice (some ⟨g, 0, none⟩) zs.length cap) zs → ∃ cs t z, W.heap[g]? = some (.cells cs t z) := by
    intro g cap zs h
    rcases h.2 with ⟨e, _⟩ | ⟨g', cap', cur, e, _, hb, _⟩
    · cases e
    · cases e
      exact ⟨_, _, _, hb⟩
  rintro k (rfl | rfl | rfl | rfl)
  · exact ⟨_, _, _, hBa⟩
  · exact ⟨_, _, _, hBb⟩
  · exact row h1
  · exact row h2
theorem four_lt {W : World} {Ba Bb g1 c1 g2 c2 base t1 t2 : Nat} {v1 v2 : Value} {xs ys : List Int} (hBa : W.heap[Ba]? = some (.cells #[v1] t1 (0, 0))) (hBb : W.heap[Bb]? = some (.cells #[v2] t2 (0, 0)))
    (h1 : OwnInts W base (.slice (some ⟨g1, 0, none⟩) xs.length c1) xs) (h2 : OwnInts W base (.slice (some ⟨g2, 0, none⟩) ys.length c2) ys) : ∀ k, (k = Ba ∨ k = Bb ∨ k = g1 ∨ k = g2) → k < W.heap.size := fun k hk => by
  obtain ⟨cs, t, z, h⟩ := four_cells hBa hBb h1 h2 k hk
  exact (Array.getElem?_eq_some_iff.1 h).1
theorem Four.kept {a b c d : Nat} {W A B : World} (h : Four a b c d W A) (hc : ∀ k, (k = a ∨ k = b ∨ k = c ∨ k = d) → ∃ cs t z, W.heap[k]? = some (.cells cs t z)) (hk : ∀ k, (k = a ∨ k = b ∨ k = c ∨ k = d) → ∀ cs t z, A.heap[k]? = some (.cells cs t z) → B.heap[k]? = some (.cells cs t z)) : Four a b c d W B := fun k hj => by
  obtain ⟨cs, t, z, e⟩ := hc k hj
  rw [e]
  exact hk k hj cs t z ((h k hj).trans e)

set_option maxRecDepth 100000 in
set_option maxHeartbeats 4000000 in
theorem pivots1_kept (n : Nat) (hn : 1 ≤ n) (l Ba Bb g1 c1 g2 c2 base : Nat) (Kp : World → World → Prop) (hKp : ∀ {A B : World}, Kp A B → ∀ k, (k = Ba ∨ k = Bb ∨ k = g1 ∨ k = g2) → ∀ cs t z, A.heap[k]? = some (.cells cs t z) → B.heap[k]? = some (.cells cs t z)) (hKs : ∀ {A B : World}, Kp A B → A.heap.size ≤ B.heap.size) (xs ys : List Int) (hys : Rising ys) (hyf : ∀ x ∈ ys, formed x = true) (hxf : ∀ x ∈ xs, formed x = true) (hxl : xs.length ≤ 2097152) (hyl : ys.length ≤ 2097152) (J Jx : List Int → World → Prop) (W : World) (hJ : ∀ s A B, J s A → A.grownBy B none → J s B)
    (hY : ∀ pre x W, J pre W → formed x = true → pre.length < xs.length → YieldAt Fence.wide (n - 1) Try.prog l #[.int .i64 x] W fun e W' =>
      (e = .returned (.bool true) ∧ J (pre ++ [x]) W' ∧ Kp W W') ∨ (e = .returned (.bool false) ∧ Jx (pre ++ [x]) W'))
    (hBa : W.heap[Ba]? = some (.cells #[.slice (some ⟨g1, 0, none⟩) xs.length c1] 26 (0, 0))) (hBb : W.heap[Bb]? = some (.cells #[.slice (some ⟨g2, 0, none⟩) ys.length c2] 26 (0, 0)))
    (hc : OwnInts W base (.slice (some ⟨g1, 0, none⟩) xs.length c1) xs) (ho : OwnInts W base (.slice (some ⟨g2, 0, none⟩) ys.length c2) ys) (h0 : J [] W) :
    CallsIn Fence.wide n Try.prog 79 #[.func (.yield l) #[] #[], .pointer (some ⟨Ba, 0, none⟩), .pointer (some ⟨Bb, 0, none⟩)] W fun e W' => (∃ v, e = .returned v) ∧
      ((∃ zs, zs = pivOf xs ys ∧ J zs W') ∨ (∃ pre, (∃ k, k ≤ xs.length ∧ pre = pivOf (xs.take k) ys) ∧ Jx pre W')) := by
  refine callsIn_of_wp Try.func79 rfl trivial ?_ rfl
  simp only [Try.ntmps79, List.size_toArray, List.length_cons, List.length_nil, Nat.reduceAdd, Nat.reduceSub, Array.replicate_succ, Array.replicate_zero, List.push_toArray, List.append_toArray, List.nil_append, List.cons_append]
  have hBa0 := (blk_cell hBa 0).trans rfl
  gi_wp2
  clear hBa0
  gi_loopw [10] (fun i wr => ∃ k : Nat, k ≤ xs.length ∧ i = .int .i64 k ∧ J (pivOf (xs.take k) ys) wr ∧ Four Ba Bb g1 g2 W wr ∧ W.heap.size ≤ wr.heap.size)
    (fun i _ => xs.length - (intOf i).toNat)
  case atStart => exact ⟨0, Nat.zero_le _, rfl, h0, fun _ _ => rfl, Nat.le_refl _⟩
  case round =>
    obtain ⟨k, hk, rfl, hJs, hnx, hsz⟩ := hrel
    by_cases hlt : k < xs.length
    · have hcx := own_read (own_move hc (fun j hj => hnx j (by simp [Value.ownBlock] at hj; simp [hj]))) hlt
      have hb2 := (blk_cell ((hnx Bb (by simp)).trans hBb) 0).trans rfl
      have hpt := pivOf_take (b := ys) hlt
      have hfx := hxf _ (rd_mem hlt)
      have hbd := formed_bd hfx
      generalize rd xs (k : Int) = x at *
      have hneg : wrap64 (-x) = -x := by unfold wrap64; omega
      by_cases c0 : x < 0
      · have e0 : isPiv ys x = false := by unfold isPiv; rw [decide_eq_false (by omega), Bool.false_and]
        have c0' : decide (x < 0) = true := decide_eq_true c0
        gi_wp2
        go_roundw
        case rel => exact ⟨k + 1, by omega, by simp, by rw [hpt, e0]; simpa using hJs, hnx, hsz⟩
        case measure => simp [intOf]; omega
      · have c0' : decide (x < 0) = false := decide_eq_false c0
        have hfn : formed (-x) = true := by rw [formed_neg]; exact hfx
        have hown : OwnInts wr base (.slice (some ⟨g2, 0, none⟩) ys.length c2) ys := own_move ho (fun j hj => hnx j (by simp [Value.ownBlock] at hj; simp [hj]))
        have S := search_quiet wr base g2 c2 ys (-x) hown hys hyf hfn (by omega)
        cases hcn : ys.contains (-x) with
        | false =>
          have e0 : isPiv ys x = false := by unfold isPiv; rw [hcn, Bool.and_false]
          rw [hcn] at S
          have HSS := Aside0.mk S
          clear S
          gi_wp2
          refine ⟨trivial, ?_⟩
          (with_reducible refine (callsIn_wide.2 HSS.out).mono ?_)
          rintro e w2 ⟨q, rfl, hgb⟩
          gi_wp2
          refine ⟨fun _ h => (by cases h), ?_⟩
          gi_wp2
          have hJ2 := hJ _ wr w2 hJs hgb
          have hb2 : Four Ba Bb g1 g2 W w2 := hnx.grown hgb (four_lt hBa hBb hc ho) hsz
          go_roundw
          case rel => exact ⟨k + 1, by omega, by simp, by rw [hpt, e0]; simpa using hJ2, hb2, Nat.le_trans hsz hgb.size⟩
          case measure => simp [intOf]; omega
        | true =>
          have e0 : isPiv ys x = true := by unfold isPiv; rw [hcn, decide_eq_true (by omega)]; rfl
          rw [hcn] at S
          have HSS := Aside0.mk S
          clear S
          gi_wp2
          refine ⟨trivial, ?_⟩
          (with_reducible refine (callsIn_wide.2 HSS.out).mono ?_)
          rintro e w2 ⟨q, rfl, hgb⟩
          have hJ2 := hJ _ wr w2 hJs hgb
          have hb2 : Four Ba Bb g1 g2 W w2 := hnx.grown hgb (four_lt hBa hBb hc ho) hsz
          obtain ⟨fn, tmps, assign, body, hy, hR⟩ := hY _ x w2 hJ2 hfx (by unfold pivOf; have := List.length_filter_le (isPiv ys) (xs.take k); rw [List.length_take] at this; omega)
          gi_wp2
          refine hR.mono ?_
          rintro e W3 (⟨rfl, hJ3, hk3⟩ | ⟨rfl, hJx3⟩)
          · gi_wp2
            go_roundw
            case rel => exact ⟨k + 1, by omega, by simp, by rw [hpt, e0]; exact hJ3, hb2.kept (four_cells hBa hBb hc ho) (hKp hk3), Nat.le_trans (Nat.le_trans hsz hgb.size) (hKs hk3)⟩
            case measure => simp [intOf]; omega
          · gi_wp2
            refine bodyPost_ret (results_none rfl _ _ _) rfl ?_
            exact ⟨⟨_, rfl⟩, .inr ⟨_, ⟨k + 1, by omega, by rw [hpt, e0]; rfl⟩, hJx3⟩⟩
    · obtain rfl : k = xs.length := by omega
      gi_wp2
      go_end0
      exact ⟨⟨_, rfl⟩, .inl ⟨_, by rw [List.take_length], hJs⟩⟩

theorem pivots_own (n : Nat) (hn : 1 ≤ n) (Ba Bb g1 c1 g2 c2 base : Nat)
    (xs ys : List Int) (hys : Rising ys) (hyf : ∀ x ∈ ys, formed x = true) (hxf : ∀ x ∈ xs, formed x = true) (hxl : xs.length ≤ 2097152) (hyl : ys.length ≤ 2097152) (w : World)
    (hBa : w.heap[Ba]? = some (.cells #[.slice (some ⟨g1, 0, none⟩) xs.length c1] 26 (0, 0))) (hBb : w.heap[Bb]? = some (.cells #[.slice (some ⟨g2, 0, none⟩) ys.length c2] 26 (0, 0)))
    (hc : OwnInts w base (.slice (some ⟨g1, 0, none⟩) xs.length c1) xs) (ho : OwnInts w base (.slice (some ⟨g2, 0, none⟩) ys.length c2) ys) :
    SeqD Fence.wide n Try.prog 79 #[.pointer (some ⟨Ba, 0, none⟩), .pointer (some ⟨Bb, 0, none⟩)] (fun x : Int => #[Value.int .i64 x]) (fun _ _ v _ => formed v = true) (fun k => k = Ba ∨ k = Bb ∨ k = g1 ∨ k = g2) (fun zs => zs = pivOf xs ys) (fun pre => ∃ k, k ≤ xs.length ∧ pre = pivOf (xs.take k) ys) xs.length w := fun l J Jx W hW hJ hJx hY h0 => by
  have lt := four_lt hBa hBb hc ho
  refine (pivots1_kept n hn l Ba Bb g1 c1 g2 c2 base (KeptD (fun k => k = Ba ∨ k = Bb ∨ k = g1 ∨ k = g2)) (fun h k hk cs t z e => h.2 k _ hk e) (fun h => h.1) xs ys hys hyf hxf hxl hyl (fun pre W => ∃ M, J M pre W) (fun pre W => ∃ M, Jx M pre W) W
    (fun s A B ⟨M, hj⟩ hg => ⟨M, hJ M M s A B hj (Grow.of_grownBy hg (fun r e => by cases e)) (More.refl _ _ _)⟩)
    (fun pre x W1 ⟨M, hj⟩ hfx hlen => (hY M M pre x W1 W1 hj (Grow.refl _ _) (More.refl _ _ _) (fun _ h => h) hfx hlen).mono ?_)
    ((hW.block Ba (lt Ba (by simp))).trans hBa) ((hW.block Bb (lt Bb (by simp))).trans hBb)
    (own_move hc (fun j hj => hW.block j (lt j (by simp [Value.ownBlock] at hj; simp [hj])))) (own_move ho (fun j hj => hW.block j (lt j (by simp [Value.ownBlock] at hj; simp [hj])))) ⟨_, h0⟩).mono ?_
  · rintro e W' (⟨rfl, hj, hk⟩ | ⟨rfl, hj⟩)
    · exact .inl ⟨rfl, ⟨M, hj⟩, hk.mono fun k h => .inr h⟩
    · exact .inr ⟨rfl, M, hj.1⟩
  · rintro e W' ⟨he, ⟨zs, hz, M, hj⟩ | ⟨pre, hp, M, hj⟩⟩
    · exact ⟨he, M, .inl ⟨zs, hz, hj⟩⟩
    · exact ⟨he, M, .inr ⟨pre, hp, hj⟩⟩
end Go.Proofs.YtamefocngapkpaaHand
/-! text YtamefocngapkpaaCollect -/
namespace Go.Proofs.YtamefocngapkpaaHand
open Go.RowKit Go.Sort Go.Lib Go.Shelf Go.Proofs.YtamefocngapkpaaW.PrintWords Go.Proofs.YtamefocngapkpaaW.PrintLast Go.Proofs.YtamefocngapkpaaMath
attribute [local go_sem] Oper.semAt_some
set_option linter.unusedVariables false
set_option linter.unusedSimpArgs false

set_option maxRecDepth 100000 in
set_option maxHeartbeats 4000000 in
theorem appendSeq_calls (Ba Bb : Nat) (S Sp : List Int → Prop) (N : Nat) (hN : N ≤ 2097152) (w : World)
    (hseq : SeqStopsK Fence.wide 5 Try.prog 79 #[.pointer (some ⟨Ba, 0, none⟩), .pointer (some ⟨Bb, 0, none⟩)] (fun x : Int => #[Value.int .i64 x]) (Below w.heap.size) S Sp N w) :
    Calls Try.prog 80 #[.slice none 0 0, .func (.func 79) #[] #[.pointer (some ⟨Ba, 0, none⟩), .pointer (some ⟨Bb, 0, none⟩)]] w fun e w' => ∃ v xs, e = .returned v ∧ S xs ∧ OwnInts w' w.heap.size v xs ∧ Below w.heap.size w w' := by
  obtain ⟨i0, hi, hz0, hz1, hz2⟩ := info_parts infoI
  refine (callsIn_wide (n := 6)).1 ?_
  refine callsIn_of_wp_marks Try.func80 rfl trivial ?_ rfl
  simp only [Try.ntmps80, List.size_toArray, List.length_cons, List.length_nil, Nat.reduceAdd, Nat.reduceSub, Array.replicate_succ, Array.replicate_zero, List.push_toArray, List.append_toArray, List.nil_append, List.cons_append]
  gi_wp2
  have bO := Boxed.new w 26 (.slice none 0 0)
  have hB0 : Below w.heap.size w (w.alloc (.cells #[.slice none 0 0] 26)) := (Below.refl _ w).alloc (Nat.le_refl _) _
  refine wpIn_rangeFunc_ownG rfl (by decide) (gf := 79) (lb := #[.pointer (some ⟨Ba, 0, none⟩), .pointer (some ⟨Bb, 0, none⟩)]) rfl trivial (enters_of Try.func79 (by kernel_rfl) rfl)
    hseq belowK_t (belowK_b (by simp)) hB0 (fun _ => rfl)
    (fun pre W => ((∃ v, Boxed W w.heap.size 26 v ∧ W.ownsRow w.heap.size 3 1 v pre.length (pre.map (Value.int .i64)) ∧ True) ∧ Below w.heap.size w W))
    (fun _ _ _ => False)
    (OwnFrom.and (Own.from (holdsRow_own w.heap.size w.heap.size 26 3 1 (fun pre : List Int => pre.length) (fun pre : List Int => pre.map (Value.int .i64)) (fun (_ : List Int) _ => True)) _) (ownFrom_below (Nat.le_refl _) (by simp)))
    (fun _ _ _ _ _ hs _ _ => hs)
    ⟨⟨_, bO, World.ownsRow_nil _ _ _ _, trivial⟩, hB0⟩
    (fun x => { tmps := #[.slice none 0 0, .func (.func 79) #[] #[.pointer (some ⟨Ba, 0, none⟩), .pointer (some ⟨Bb, 0, none⟩)], .pointer (some ⟨w.heap.size, 0, none⟩), undef, .slice none 0 0, .int .i64 x, .func (.func 79) #[] #[.pointer (some ⟨Ba, 0, none⟩), .pointer (some ⟨Bb, 0, none⟩)], .int .i64 x, undef, undef, undef, undef, undef], defers := [] }) ?assign ?body ?done ?stop
  case assign =>
    intro l x W K hK
    gi_wp2
    exact hK
  case body =>
    rintro l pre x W ⟨⟨v, hv, hrow, _⟩, hB⟩ hlt
    have hc := hv.cell
    gi_wp2_with (gi_at_builtin; refine wpListIn_append_own _ rfl _ _ 26 rfl w.heap.size 3 i0 (.int .i64 0) 1 8 Try.underlying26 hi hz0 hz1 hz2 rfl (by decide) _ _ _ rfl (hrow.alloc _) ⟨W.heap.size, 0, none⟩ 1 1 [.int .i64 x] rfl rfl (cell_one_new _ _ _) (by simp [Value.oneCell']) (by unfold maxLen; omega) (by omega) (by have := hB.size; simp; omega) ?_; intro v' w1 hown' hgrow _; obtain ⟨g', cap', rfl⟩ := ownsRow_succ hown'; obtain ⟨hv1, hv2, hr2, hk2, hb2⟩ := hv.appended (by decide) hrow hB.size (Nat.le_refl _) hown' hgrow; have hc1 := hv1.cell; have hf1 := hv1.frozen)
    exact ⟨hk2.from _, hb2, ⟨_, hv2, by simpa using hr2, trivial⟩, hB.trans hb2⟩
  case done =>
    rintro D ys W hD hS ⟨⟨v, hv, hrow, _⟩, hB⟩ hK
    have hc := hv.cell
    gi_wp2
    refine ⟨by simp, .inl ⟨_, _, rfl, run_takeDeferred hK, ?_⟩⟩
    refine ⟨_, results_tmp rfl _ _ _, v, ys, rfl, hS, ownsRow_putObj hrow _ hK rfl, hB.trans (belowK_b (w := w) (Nat.le_refl _) W D _ _ (by simp at hD; omega) hK rfl rfl)⟩
  case stop =>
    rintro D c pre W _ _ h _
    exact h.elim

set_option maxRecDepth 100000 in
set_option maxHeartbeats 4000000 in
theorem collect_calls (Ba Bb : Nat) (S Sp : List Int → Prop) (N : Nat) (hN : N ≤ 2097152) (w : World)
    (hseq : SeqStopsK Fence.wide 5 Try.prog 79 #[.pointer (some ⟨Ba, 0, none⟩), .pointer (some ⟨Bb, 0, none⟩)] (fun x : Int => #[Value.int .i64 x]) (Below w.heap.size) S Sp N w) :
    Calls Try.prog 72 #[.func (.func 79) #[] #[.pointer (some ⟨Ba, 0, none⟩), .pointer (some ⟨Bb, 0, none⟩)]] w fun e w' => ∃ v xs, e = .returned v ∧ S xs ∧ OwnInts w' w.heap.size v xs ∧ Below w.heap.size w w' := by
  have H := Aside0.mk (appendSeq_calls Ba Bb S Sp N hN w hseq)
  clear hseq
  go_enter Try.func72, Try.ntmps72
  go_wp2_with fail
  (with_reducible refine H.out.mono ?_)
  rintro e w' ⟨v, xs, rfl, hS, ho, hb⟩
  have HH : Aside0 (S xs ∧ OwnInts w' w.heap.size v xs ∧ Below w.heap.size w w') := ⟨hS, ho, hb⟩
  clear hS ho hb H
  go_wp2
  go_ret
  exact ⟨v, xs, rfl, HH.out⟩
end Go.Proofs.YtamefocngapkpaaHand
/-! text YtamefocngapkpaaWithout -/
namespace Go.Proofs.YtamefocngapkpaaHand
open Go.RowKit Go.Sort Go.Lib Go.Shelf Go.Proofs.YtamefocngapkpaaW.PrintWords Go.Proofs.YtamefocngapkpaaW.PrintLast Go.Proofs.YtamefocngapkpaaMath
set_option linter.unusedVariables false
set_option linter.unusedSimpArgs false

theorem is_gives (l x : Int) (B : Nat) (W : World) (hc : W.cell? ⟨B, 0, none⟩ = some (.int .i64 l)) :
    FnGives Try.prog 61 #[.pointer (some ⟨B, 0, none⟩)] #[.int .i64 x] (.bool (x == l)) W := by
  show Calls Try.prog 61 #[.int .i64 x, .pointer (some ⟨B, 0, none⟩)] W _
  go_enter Try.func61, Try.ntmps61
  go_wp2
  all_goals (go_ret; exact ⟨rfl, 0, rfl⟩)
theorem is_pred (l : Int) (B : Nat) (w : World) (hB : B < w.heap.size) (hcell : w.cell? ⟨B, 0, none⟩ = some (.int .i64 l)) :
    PredAt Try.prog 61 #[.pointer (some ⟨B, 0, none⟩)] (Value.int .i64) (fun x => x == l) w :=
  fun W x hb => is_gives l x B W ((hb.cell (p := ⟨B, 0, none⟩) hB).trans hcell)
theorem is_over (l : Int) (B blk off size : Nat) (w : World) (hB : B < w.heap.size) (hne : B ≠ blk) (hcell : w.cell? ⟨B, 0, none⟩ = some (.int .i64 l)) :
    PredOver Try.prog 61 #[.pointer (some ⟨B, 0, none⟩)] (Value.int .i64) (fun x => x == l) blk off size w :=
  fun n os dk x _ => is_gives l x B _ (by
    unfold sortWorld
    rw [cell?_grow _ _ _ (by show B < (putRow _ _ _ _ _).heap.size; rw [size_putRow]; exact hB), cell?_putRow_other _ _ blk off _ _ (Or.inl hne)]
    exact hcell)
theorem delete_calls (W : World) (base g cap B : Nat) (l : Int) (zs : List Int) (h : OwnInts W base (.slice (some ⟨g, 0, none⟩) zs.length cap) zs) (hB : B < W.heap.size) (hne : B ≠ g) (hc : W.cell? ⟨B, 0, none⟩ = some (.int .i64 l)) :
    Calls Try.prog 60 #[.slice (some ⟨g, 0, none⟩) zs.length cap, .func (.func 61) #[] #[.pointer (some ⟨B, 0, none⟩)]] W fun e W' => e = .returned (.slice (some ⟨g, 0, none⟩) (zs.filter fun x => !(x == l)).length cap) ∧
      OwnInts W' base (.slice (some ⟨g, 0, none⟩) (zs.filter fun x => !(x == l)).length cap) (zs.filter fun x => !(x == l)) ∧ W.grownBy W' (some g) := by
  obtain ⟨hH, hg, hcap, hmx⟩ := own_holds h
  have hcon := AnyE.slices_DeleteFunc Try.deleteF (Value.int .i64) (fun _ => rfl) (fun x => x == l) 61 #[.pointer (some ⟨B, 0, none⟩)] (enters_of Try.func61 (by kernel_rfl) rfl) 0 (fun w => by kernel_rfl) g 0 cap zs.toArray W
    (is_pred l B W hB hc) (is_over l B g 0 _ W hB hne hc) hH (by simpa using hmx) (by simpa using hcap)
  change Calls Try.prog 60 _ _ _ at hcon
  simp only [List.size_toArray] at hcon
  refine hcon.mono ?_
  rintro e W' ⟨rfl, q, rfl⟩
  have hle := List.length_filter_le (fun x : Int => !(x == l)) zs
  have hl : ((zs.filter fun x => !(x == l)) ++ List.replicate (zs.length - (zs.filter fun x => !(x == l)).length) (0 : Int)).length = zs.length := by
    rw [List.length_append, List.length_replicate]
    omega
  have ho := own_put (n := q) (os := #[]) h hl
  simp only [grow_empty] at ho
  refine ⟨rfl, ?_, ho.2⟩
  have hcut := own_cut ho.1 (m := (zs.filter fun x => !(x == l)).length) (by rw [hl]; exact hle)
  have e3 : (nums .i64 ((zs.filter fun x => !(x == l)) ++ List.replicate (zs.length - (zs.filter fun x => !(x == l)).length) (0 : Int))).take (zs.filter fun x => !(x == l)).length = nums .i64 (zs.filter fun x => !(x == l)) := by
    rw [nums_append, List.take_append_of_le_length (Nat.le_of_eq (nums_length _ _).symm), List.take_of_length_le (Nat.le_of_eq (nums_length _ _))]
  rw [e3] at hcut
  exact hcut

set_option maxHeartbeats 4000000 in
set_option maxRecDepth 100000 in
theorem without_calls (A0 : Option Addr) (c0 : Nat) (l0 : List Int) (a1 : Int) (w : World) (hr0 : Kd.C (Kd.int .i64) w A0 l0.length l0) (hc0 : l0.length ≤ c0) (hn : l0.length ≤ 17592186044416) :
    Calls Try.prog 25 #[.slice A0 l0.length c0, .int .i64 a1] w fun e w' => ∃ v0_ : Value, e = .returned (v0_) ∧ Kd.R (Kd.int .i64) 3 w' w.heap.size (fun _ => True) v0_ ((tidyOf l0).filter fun x => !(x == a1)) ∧ Below w.heap.size w w' := by
  have T := fun W h => tidy_own A0 c0 l0 W h hc0 hn
  have HT := Aside0.mk T
  have HR0 := Aside0.mk hr0
  clear T hr0 hc0 hn
  go_enter Try.func25, Try.ntmps25
  go_wp2_with fail
  (with_reducible refine (HT.out _ (Kd.C_alloc HR0.out _)).mono ?_)
  rintro e w1 ⟨g, cap, rfl, ho, hb⟩
  have hb0 : Below w.heap.size w w1 := below_step (below_alloc (Below.refl _ _) _) hb
  have hg : w.heap.size + 1 ≤ g := by
    have := own_base ho g rfl
    simpa using this
  have hsz : w.heap.size < w1.heap.size := by
    have := hb.size
    simp at this
    omega
  have hcell : w1.cell? ⟨w.heap.size, 0, none⟩ = some (.int .i64 a1) := (hb.cell (p := ⟨w.heap.size, 0, none⟩) (by simp)).trans (by simp)
  have hob : OwnInts w1 w.heap.size (.slice (some ⟨g, 0, none⟩) (tidyOf l0).length cap) (tidyOf l0) := own_weaken ho (by simp)
  have D := delete_calls w1 w.heap.size g cap w.heap.size a1 (tidyOf l0) hob hsz (by omega) hcell
  have HD := Aside0.mk D
  have HB := Aside0.mk hb0
  have HG : Aside0 (w.heap.size ≤ g) := ⟨by omega⟩
  clear D hb0 hb hg hsz hcell hob ho
  go_wp2_with fail
  (with_reducible refine HD.out.mono ?_)
  rintro e w2 ⟨rfl, ho2, hg2⟩
  have HO2 := Aside0.mk ho2
  have HB2 : Aside0 (Below w.heap.size w w2) := ⟨HB.out.grown hg2 HB.out.size (fun j hj => by cases hj; exact HG.out)⟩
  clear ho2 hg2
  go_wp2
  go_ret
  exact ⟨_, rfl, own_R HO2.out, HB2.out⟩

end Go.Proofs.YtamefocngapkpaaHand
/-! text YtamefocngapkpaaJoin -/
namespace Go.Proofs.YtamefocngapkpaaHand
open Go.RowKit Go.Sort Go.Lib Go.Shelf Go.Proofs.YtamefocngapkpaaW.PrintWords Go.Proofs.YtamefocngapkpaaW.PrintLast Go.Proofs.YtamefocngapkpaaMath
set_option linter.unusedVariables false
set_option linter.unusedSimpArgs false

theorem grow_calls (n : Nat) (hn : n * 8 ≤ 140737488355328) (w : World) :
    Calls Try.prog 77 #[.slice none 0 0, .int .i64 n] w fun e w' => ∃ v : Value, e = .returned v ∧ OwnInts w' w.heap.size v [] ∧ Below w.heap.size w w' := by
  rcases Nat.eq_zero_or_pos n with h0 | h0
  · subst h0
    have h := Any8.slices_Grow_room Try.growF none 0 0 0 w (Nat.le_refl _) (by omega) (by omega) (by omega)
    change Calls Try.prog 77 _ _ _ at h
    refine h.mono ?_
    rintro e w' ⟨rfl, rfl⟩
    exact ⟨_, rfl, own_nil _ _ _ _, Below.refl _ _⟩
  · obtain ⟨i0, hi, hz0, hz1, hz2⟩ := info_parts infoI
    have h := Any8.slices_Grow_grow Try.growF i0 (.int .i64 0) hi hz0 (by omega) none 0 0 n [] w (Nat.le_refl _) (by omega) (by rw [hz2]; omega) (by omega) (by simp) (fun _ => rfl) (fun a h => by cases h)
    change Calls Try.prog 77 _ _ _ at h
    refine h.mono ?_
    rintro e w' ⟨rfl, rfl⟩
    refine ⟨_, rfl, ⟨rfl, .inr ⟨w.heap.size, _, _, rfl, Nat.le_refl _, heap_alloc_new _ _, Nat.zero_le _, grownCap_le_maxLen _ _ _ _ (by simp only [maxLen]; omega), ?_, by simp [nums]⟩⟩, (below_drew (Below.refl _ _)).alloc (by simp) _⟩
    have h2 := grownCap_ge w (0 + n) 0 (Try.growF_ren.t 25)
    generalize grownCap w (0 + n) 0 (Try.growF_ren.t 25) = cp at h2 ⊢
    simp only [Builtin.zeroCells, Array.size_append, List.size_toArray, List.length_nil, Value.cells]
    simp
    omega

set_option maxHeartbeats 4000000 in
set_option maxRecDepth 100000 in
theorem concat_calls (B : Nat) (A0 A1 : Option Addr) (c0 c1 : Nat) (l0 l1 : List Int) (w : World) (hB : B < w.heap.size) (h0 : w.cell? ⟨B, 0, none⟩ = some (.slice A0 l0.length c0)) (h1 : w.cell? ⟨B, 1, none⟩ = some (.slice A1 l1.length c1))
    (hr0 : Kd.C (Kd.int .i64) w A0 l0.length l0) (hr1 : Kd.C (Kd.int .i64) w A1 l1.length l1) (hn : (l0.length + l1.length) * 8 ≤ 140737488355328) :
    Calls Try.prog 62 #[.slice (some ⟨B, 0, none⟩) 2 2] w fun e w' => ∃ v : Value, e = .returned v ∧ OwnInts w' w.heap.size v (l0 ++ l1) ∧ Below w.heap.size w w' := by
  have HR0 := Aside0.mk hr0
  have HR1 := Aside0.mk hr1
  have HN := Aside0.mk hn
  have H0 := Aside0.mk h0
  have H1 := Aside0.mk h1
  have HBB := Aside0.mk hB
  obtain ⟨z, hz⟩ : ∃ z : Int, z = ((l0.length + l1.length : Nat) : Int) := ⟨_, rfl⟩
  have G : ∀ w, Calls Try.prog 77 #[.slice none 0 0, .int .i64 z] w fun e w' => ∃ v : Value, e = .returned v ∧ OwnInts w' w.heap.size v [] ∧ Below w.heap.size w w' := fun w => by rw [hz]; exact grow_calls (l0.length + l1.length) hn w
  have HG := Aside0.mk G
  have s1 : wrap64 (l0.length : Int) = (l0.length : Int) := w64 (by omega) (by omega)
  have s2 : wrap64 ((l0.length : Int) + (l1.length : Int)) = z := by rw [hz, w64 (by omega) (by omega)]; omega
  have p0 : decide (z < 0) = false := decide_eq_false (by omega)
  clear G hr0 hr1 hn hB hz
  go_enter Try.func62, Try.ntmps62
  go_wp2
  go_loop [3, 5, 11] (fun v3 _ v11 => ∃ (k : Nat) (x y : Int), v11 = .int .i64 x ∧ v3 = .int .i64 y ∧ Aside0 (x = k ∧ k ≤ 2 ∧ y = (if k = 0 then 0 else if k = 1 then (l0.length : Int) else z))) (fun _ _ i => 2 - (intOf i).toNat)
  case atStart => exact ⟨0, 0, 0, rfl, rfl, ⟨rfl, by omega, rfl⟩⟩
  case round =>
    obtain ⟨k, x, y, rfl, rfl, HX⟩ := hrel
    obtain ⟨hx, hk, hy⟩ := HX.out
    clear HX
    have hc : k = 0 ∨ k = 1 ∨ k = 2 := by omega
    rcases hc with rfl | rfl | rfl
    · obtain rfl : x = 0 := hx
      obtain rfl : y = 0 := hy
      clear hk
      go_wp2
      go_round
      case measure => simp [intOf]
      case rel => exact ⟨1, _, _, rfl, rfl, ⟨by decide, by omega, by simp [s1]⟩⟩
    · obtain rfl : x = 1 := hx
      obtain rfl : y = (l0.length : Int) := hy
      clear hk
      go_wp2
      go_round
      case measure => simp [intOf]
      case rel => exact ⟨2, _, _, rfl, rfl, ⟨by decide, by omega, by simp [s2]⟩⟩
    · obtain rfl : x = 2 := hx
      obtain rfl : y = z := hy
      clear hk
      go_wp2_with fail
      (with_reducible refine (HG.out _).mono ?_)
      rintro e w1 ⟨v, rfl, ho, hb⟩
      have HO := Aside0.mk ho
      have HB := Aside0.mk hb
      clear ho hb
      go_wp2
      go_loopw [6, 8, 27] (fun v6 _ v27 wr => ∃ (k : Nat) (x : Int), v27 = .int .i64 x ∧ Aside0 (x = k ∧ k ≤ 2) ∧ Aside0 (OwnInts wr w.heap.size v6 (if k = 0 then ([] : List Int) else if k = 1 then ([] : List Int) ++ l0 else ([] : List Int) ++ l0 ++ l1)) ∧ Aside0 (Below w.heap.size w wr)) (fun _ _ i _ => 2 - (intOf i).toNat)
      case atStart => exact ⟨0, 0, rfl, ⟨rfl, by omega⟩, ⟨HO.out⟩, ⟨HB.out⟩⟩
      case round =>
        clear HO HB
        obtain ⟨k, x, rfl, HX, HO, HB⟩ := hrel
        obtain ⟨hx, hk⟩ := HX.out
        clear HX
        have hc : k = 0 ∨ k = 1 ∨ k = 2 := by omega
        rcases hc with rfl | rfl | rfl
        · obtain rfl : x = 0 := hx
          clear hk
          replace HO : Aside0 (OwnInts _ w.heap.size _ ([] : List Int)) := HO
          have k0 := (HB.out.cell (p := ⟨B, 0, none⟩) HBB.out).trans h0
          go_wp2_with ((with_reducible refine gate_builtin (b := .append) (xs := #[.tmp 31, .tmp 32]) rfl ?_); at_builtin; refine print_append_row (w0 := w) w.heap.size rfl (.tmp 31) (.tmp 32) 26 3 .i64 8 rfl Try.underlying26 infoI (by decide) _ ([] : List Int) l0 A0 _ _ rfl rfl ?aO ?aR ?aB ?aS ?aL ?_; (case aO => exact HO.out); (case aR => exact Kd.reads_of_C (Kd.C_below HR0.out HB.out)); (case aB => exact HB.out); (case aS => exact HB.out.size); (case aL => have := HN.out; simp; omega); intro v1 w2 ho1 hb1 hg1 hat; have HO1 := Aside0.mk ho1; have HB1 := Aside0.mk hb1; clear ho1 hb1 hg1 hat)
          go_roundw
          case measure => simp [intOf]
          case rel => exact ⟨1, _, rfl, ⟨by decide, by omega⟩, ⟨HO1.out⟩, ⟨HB1.out⟩⟩
        · obtain rfl : x = 1 := hx
          clear hk
          replace HO : Aside0 (OwnInts _ w.heap.size _ (([] : List Int) ++ l0)) := HO
          have k1 := (HB.out.cell (p := ⟨B, 1, none⟩) HBB.out).trans h1
          go_wp2_with ((with_reducible refine gate_builtin (b := .append) (xs := #[.tmp 31, .tmp 32]) rfl ?_); at_builtin; refine print_append_row (w0 := w) w.heap.size rfl (.tmp 31) (.tmp 32) 26 3 .i64 8 rfl Try.underlying26 infoI (by decide) _ (([] : List Int) ++ l0) l1 A1 _ _ rfl rfl ?aO ?aR ?aB ?aS ?aL ?_; (case aO => exact HO.out); (case aR => exact Kd.reads_of_C (Kd.C_below HR1.out HB.out)); (case aB => exact HB.out); (case aS => exact HB.out.size); (case aL => have := HN.out; simp; omega); intro v1 w2 ho1 hb1 hg1 hat; have HO1 := Aside0.mk ho1; have HB1 := Aside0.mk hb1; clear ho1 hb1 hg1 hat)
          go_roundw
          case measure => simp [intOf]
          case rel => exact ⟨2, _, rfl, ⟨by decide, by omega⟩, ⟨HO1.out⟩, ⟨HB1.out⟩⟩
        · obtain rfl : x = 2 := hx
          clear hk
          replace HO : Aside0 (OwnInts _ w.heap.size _ (([] : List Int) ++ l0 ++ l1)) := HO
          go_wp2
          go_ret
          exact ⟨_, rfl, by simpa using HO.out, HB.out⟩

theorem concat_reads (B : Nat) (A0 A1 : Option Addr) (c0 c1 : Nat) (l0 l1 : List Int) (w : World) (hB : B < w.heap.size) (h0 : w.cell? ⟨B, 0, none⟩ = some (.slice A0 l0.length c0)) (h1 : w.cell? ⟨B, 1, none⟩ = some (.slice A1 l1.length c1))
    (hr0 : Kd.C (Kd.int .i64) w A0 l0.length l0) (hr1 : Kd.C (Kd.int .i64) w A1 l1.length l1) (hn : (l0.length + l1.length) * 8 ≤ 140737488355328) :
    Calls Try.prog 62 #[.slice (some ⟨B, 0, none⟩) 2 2] w fun e w' => ∃ (zs : List Int) (A : Option Addr) (c : Nat), Aside0 (zs = l0 ++ l1) ∧ e = .returned (.slice A zs.length c) ∧ zs.length ≤ c ∧ Kd.C (Kd.int .i64) w' A zs.length zs ∧ Below w.heap.size w w' := by
  refine (concat_calls B A0 A1 c0 c1 l0 l1 w hB h0 h1 hr0 hr1 hn).mono ?_
  rintro e w' ⟨v, rfl, ho, hb⟩
  obtain ⟨A, c, rfl, hl, hC⟩ := Kd.R_reads (own_R ho)
  exact ⟨_, A, c, ⟨rfl⟩, rfl, hl, hC, hb⟩

set_option maxHeartbeats 4000000 in
set_option maxRecDepth 100000 in
theorem join_calls (A0 A1 : Option Addr) (c0 c1 : Nat) (l0 l1 : List Int) (w : World) (hr0 : Kd.C (Kd.int .i64) w A0 l0.length l0) (hc0 : l0.length ≤ c0) (hr1 : Kd.C (Kd.int .i64) w A1 l1.length l1) (hc1 : l1.length ≤ c1) (hn : l0.length + l1.length ≤ 17592186044416) :
    Calls Try.prog 26 #[.slice A0 l0.length c0, .slice A1 l1.length c1] w fun e w' => ∃ v0_ : Value, e = .returned (v0_) ∧ Kd.R (Kd.int .i64) 3 w' w.heap.size (fun _ => True) v0_ (tidyOf (l0 ++ l1)) ∧ Below w.heap.size w w' := by
  have HR0 := Aside0.mk hr0
  have HR1 := Aside0.mk hr1
  have HN := Aside0.mk hn
  clear hr0 hc0 hr1 hc1 hn
  go_enter Try.func26, Try.ntmps26
  go_wp2_with fail
  (with_reducible refine (concat_reads _ A0 A1 c0 c1 l0 l1 _ ?h1 ?h2 ?h3 ?h4 ?h5 ?h6).mono ?_)
  case h1 => simp
  case h2 => simp
  case h3 => simp
  case h4 => exact Kd.C_alloc HR0.out _
  case h5 => exact Kd.C_alloc HR1.out _
  case h6 => have := HN.out; omega
  rintro e w1 ⟨zs, A, c, HZ, rfl, hl, hC, hb⟩
  have hb0 : Below w.heap.size w w1 := below_step (below_alloc (Below.refl _ _) _) hb
  have hzl : zs.length ≤ 17592186044416 := by have := HN.out; rw [HZ.out]; simp; omega
  have T := tidy_calls A c zs w1 hC hl hzl
  clear hzl
  have HT := Aside0.mk T
  have HB := Aside0.mk hb0
  clear T hb0 hb hl hC
  go_wp2_with fail
  (with_reducible refine HT.out.mono ?_)
  rintro e w2 ⟨v2, rfl, ho2, hb2⟩
  rw [HZ.out] at ho2
  have HO2 := Aside0.mk (Kd.R_lower ho2 HB.out.size)
  have HB2 : Aside0 (Below w.heap.size w w2) := ⟨below_step HB.out hb2⟩
  clear ho2 hb2
  go_wp2
  go_ret
  exact ⟨_, rfl, HO2.out, HB2.out⟩

end Go.Proofs.YtamefocngapkpaaHand
/-! text YtamefocngapkpaaOn -/
namespace Go.Proofs.YtamefocngapkpaaMath
open Go.RowKit Go.Proofs.YtamefocngapkpaaW.PrintWords
/-- the literals of the list but one, tidy -/
def lessOf (c : List Int) (l : Int) : List Int := (tidyOf c).filter fun x => !(x == l)
theorem lessOf_length (c : List Int) (l : Int) : (lessOf c l).length ≤ 2097152 := Nat.le_trans (List.length_filter_le _ _) (formed_count (tidyOf c) (rising_tidyOf _) (fun _ h => tidyOf_formed h))
/-- what follows from both on v -/
def onOf (a b : List Int) (v : Int) : List Int := tidyOf (lessOf a v ++ lessOf b (-v))
end Go.Proofs.YtamefocngapkpaaMath
namespace Go.Proofs.YtamefocngapkpaaHand
open Go.RowKit Go.Sort Go.Lib Go.Shelf Go.Proofs.YtamefocngapkpaaW.PrintWords Go.Proofs.YtamefocngapkpaaW.PrintLast Go.Proofs.YtamefocngapkpaaMath
set_option linter.unusedVariables false
set_option linter.unusedSimpArgs false

set_option maxHeartbeats 4000000 in
set_option maxRecDepth 100000 in
theorem on_calls (A0 A1 : Option Addr) (c0 c1 : Nat) (l0 l1 : List Int) (v : Int) (w : World) (hr0 : Kd.C (Kd.int .i64) w A0 l0.length l0) (hc0 : l0.length ≤ c0) (hr1 : Kd.C (Kd.int .i64) w A1 l1.length l1) (hc1 : l1.length ≤ c1)
    (hn0 : l0.length ≤ 17592186044416) (hn1 : l1.length ≤ 17592186044416) (hv : -9223372036854775807 ≤ v ∧ v ≤ 9223372036854775807) :
    Calls Try.prog 69 #[.slice A0 l0.length c0, .slice A1 l1.length c1, .int .i64 v] w fun e w' => ∃ v0_ : Value, e = .returned (v0_) ∧ Kd.R (Kd.int .i64) 3 w' w.heap.size (fun _ => True) v0_ (onOf l0 l1 v) ∧ Below w.heap.size w w' := by
  have HR0 := Aside0.mk hr0
  have HR1 := Aside0.mk hr1
  have W0 := fun w (h : Kd.C (Kd.int .i64) w A0 l0.length l0) => without_calls A0 c0 l0 v w h hc0 hn0
  have W1 := fun w (h : Kd.C (Kd.int .i64) w A1 l1.length l1) => without_calls A1 c1 l1 (-v) w h hc1 hn1
  have hneg : wrap64 (-v) = -v := by unfold wrap64; omega
  have z0 := lessOf_length l0 v
  have z1 := lessOf_length l1 (-v)
  unfold lessOf at z0 z1
  obtain ⟨r, hr⟩ : ∃ r, r = onOf l0 l1 v := ⟨_, rfl⟩
  rw [← hr]
  unfold onOf lessOf at hr
  generalize (tidyOf l0).filter (fun x => !(x == v)) = y0 at W0 z0 hr
  generalize (tidyOf l1).filter (fun x => !(x == -v)) = y1 at W1 z1 hr
  rw [← hneg] at W1
  have HW0 := Aside0.mk W0
  have HW1 := Aside0.mk W1
  have HZ : Aside0 (y0.length + y1.length ≤ 17592186044416) := ⟨by omega⟩
  have HR := Aside0.mk hr
  clear W0 W1 hr0 hr1 hn0 hn1 z0 z1 hr hc0 hc1 hv hneg
  go_enter Try.func69, Try.ntmps69
  go_wp2_with fail
  (with_reducible refine (HW0.out _ HR0.out).mono ?_)
  rintro e w1 ⟨v1, rfl, ho, hb⟩
  obtain ⟨Ao1, co1, eo1⟩ := Kd.R_slice ho
  subst eo1
  have HO1 := Aside0.mk ho
  have HB := Aside0.mk hb
  clear ho hb
  go_wp2_with fail
  (with_reducible refine (HW1.out _ (Kd.C_below HR1.out HB.out)).mono ?_)
  rintro e w2 ⟨v2, rfl, ho, hb⟩
  obtain ⟨Ao2, co2, eo2⟩ := Kd.R_slice ho
  subst eo2
  have HO12 := Aside0.mk (Kd.R_below HO1.out hb)
  have HO2 := Aside0.mk ho
  have HB2 : Aside0 (Below w.heap.size w w2) := ⟨below_step HB.out hb⟩
  clear ho hb
  go_wp2_with fail
  (with_reducible refine (join_calls Ao1 Ao2 co1 co2 y0 y1 w2 (Kd.R_reads' HO12.out).2.2 (Kd.R_reads' HO12.out).2.1 (Kd.R_reads' HO2.out).2.2 (Kd.R_reads' HO2.out).2.1 HZ.out).mono ?_)
  rintro e w3 ⟨v3, rfl, ho, hb⟩
  rw [← HR.out] at ho
  have HO3 := Aside0.mk (Kd.R_lower ho HB2.out.size)
  have HB3 : Aside0 (Below w.heap.size w w3) := ⟨below_step HB2.out hb⟩
  clear ho hb
  go_wp2
  go_ret
  exact ⟨_, rfl, HO3.out, HB3.out⟩
end Go.Proofs.YtamefocngapkpaaHand
