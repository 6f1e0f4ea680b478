/- What lits.pivots hands out, for whatever rounds keep the four blocks that it reads. -/
import Derived.Test.YtamefocngapkpaaPivots
import Derived.Test.YtamefocngapkpaaRangeOwn
namespace Go.Proofs.YtamefocngapkpaaHand
open Go.RowKit Go.Sort Go.Lib Go.Shelf Go.Proofs.YtamefocngapkpaaW.PrintWords Go.Proofs.YtamefocngapkpaaW.PrintLast Go.Proofs.YtamefocngapkpaaMath Go.Proofs.YtamefocngapkpaaOwn
attribute [local go_sem] Oper.semAt_some
set_option linter.unusedVariables false
set_option linter.unusedSimpArgs false

/-- four blocks lie as they lay -/
def Four (a b c d : Nat) (W W' : World) : Prop := ∀ k, (k = a ∨ k = b ∨ k = c ∨ k = d) → W'.heap[k]? = W.heap[k]?
theorem own_read {W : World} {base g cap : Nat} {xs : List Int} (h : OwnInts W base (.slice (some ⟨g, 0, none⟩) xs.length cap) xs) {k : Nat} (hk : k < xs.length) : W.cell? ⟨g, k, none⟩ = some (.int .i64 (rd xs (k : Int))) := by
  have := (own_at h (k : Int) (by omega) (by omega)).1
  rwa [Int.toNat_natCast] at this
theorem Four.grown {a b c d : Nat} {W A B : World} (h : Four a b c d W A) (hg : A.grownBy B none) (hl : ∀ k, (k = a ∨ k = b ∨ k = c ∨ k = d) → k < W.heap.size) (hs : W.heap.size ≤ A.heap.size) : Four a b c d W B := fun k hk => (hg.block k (Nat.lt_of_lt_of_le (hl k hk) hs) (by simp)).trans (h k hk)
theorem four_cells {W : World} {Ba Bb g1 c1 g2 c2 base t1 t2 : Nat} {v1 v2 : Value} {xs ys : List Int} (hBa : W.heap[Ba]? = some (.cells #[v1] t1 (0, 0))) (hBb : W.heap[Bb]? = some (.cells #[v2] t2 (0, 0)))
    (h1 : OwnInts W base (.slice (some ⟨g1, 0, none⟩) xs.length c1) xs) (h2 : OwnInts W base (.slice (some ⟨g2, 0, none⟩) ys.length c2) ys) : ∀ k, (k = Ba ∨ k = Bb ∨ k = g1 ∨ k = g2) → ∃ cs t z, W.heap[k]? = some (.cells cs t z) := by
  have row : ∀ {g cap : Nat} {zs : List Int}, OwnInts W base (.slice (some ⟨g, 0, none⟩) zs.length cap) zs → ∃ cs t z, W.heap[g]? = some (.cells cs t z) := by
    intro g cap zs h
    rcases h.2 with ⟨e, _⟩ | ⟨g', cap', cur, e, _, hb, _⟩
    · cases e
    · cases e
      exact ⟨_, _, _, hb⟩
  rintro k (rfl | rfl | rfl | rfl)
  · exact ⟨_, _, _, hBa⟩
  · exact ⟨_, _, _, hBb⟩
  · exact row h1
  · exact row h2
theorem four_lt {W : World} {Ba Bb g1 c1 g2 c2 base t1 t2 : Nat} {v1 v2 : Value} {xs ys : List Int} (hBa : W.heap[Ba]? = some (.cells #[v1] t1 (0, 0))) (hBb : W.heap[Bb]? = some (.cells #[v2] t2 (0, 0)))
    (h1 : OwnInts W base (.slice (some ⟨g1, 0, none⟩) xs.length c1) xs) (h2 : OwnInts W base (.slice (some ⟨g2, 0, none⟩) ys.length c2) ys) : ∀ k, (k = Ba ∨ k = Bb ∨ k = g1 ∨ k = g2) → k < W.heap.size := fun k hk => by
  obtain ⟨cs, t, z, h⟩ := four_cells hBa hBb h1 h2 k hk
  exact (Array.getElem?_eq_some_iff.1 h).1
theorem Four.kept {a b c d : Nat} {W A B : World} (h : Four a b c d W A) (hc : ∀ k, (k = a ∨ k = b ∨ k = c ∨ k = d) → ∃ cs t z, W.heap[k]? = some (.cells cs t z)) (hk : ∀ k, (k = a ∨ k = b ∨ k = c ∨ k = d) → ∀ cs t z, A.heap[k]? = some (.cells cs t z) → B.heap[k]? = some (.cells cs t z)) : Four a b c d W B := fun k hj => by
  obtain ⟨cs, t, z, e⟩ := hc k hj
  rw [e]
  exact hk k hj cs t z ((h k hj).trans e)

set_option maxRecDepth 100000 in
set_option maxHeartbeats 4000000 in
theorem pivots1_kept (n : Nat) (hn : 1 ≤ n) (l Ba Bb g1 c1 g2 c2 base : Nat) (Kp : World → World → Prop) (hKp : ∀ {A B : World}, Kp A B → ∀ k, (k = Ba ∨ k = Bb ∨ k = g1 ∨ k = g2) → ∀ cs t z, A.heap[k]? = some (.cells cs t z) → B.heap[k]? = some (.cells cs t z)) (hKs : ∀ {A B : World}, Kp A B → A.heap.size ≤ B.heap.size) (xs ys : List Int) (hys : Rising ys) (hyf : ∀ x ∈ ys, formed x = true) (hxf : ∀ x ∈ xs, formed x = true) (hxl : xs.length ≤ 2097152) (hyl : ys.length ≤ 2097152) (J Jx : List Int → World → Prop) (W : World) (hJ : ∀ s A B, J s A → A.grownBy B none → J s B)
    (hY : ∀ pre x W, J pre W → formed x = true → pre.length < xs.length → YieldAt Fence.wide (n - 1) Try.prog l #[.int .i64 x] W fun e W' =>
      (e = .returned (.bool true) ∧ J (pre ++ [x]) W' ∧ Kp W W') ∨ (e = .returned (.bool false) ∧ Jx (pre ++ [x]) W'))
    (hBa : W.heap[Ba]? = some (.cells #[.slice (some ⟨g1, 0, none⟩) xs.length c1] 26 (0, 0))) (hBb : W.heap[Bb]? = some (.cells #[.slice (some ⟨g2, 0, none⟩) ys.length c2] 26 (0, 0)))
    (hc : OwnInts W base (.slice (some ⟨g1, 0, none⟩) xs.length c1) xs) (ho : OwnInts W base (.slice (some ⟨g2, 0, none⟩) ys.length c2) ys) (h0 : J [] W) :
    CallsIn Fence.wide n Try.prog 79 #[.func (.yield l) #[] #[], .pointer (some ⟨Ba, 0, none⟩), .pointer (some ⟨Bb, 0, none⟩)] W fun e W' => (∃ v, e = .returned v) ∧
      ((∃ zs, zs = pivOf xs ys ∧ J zs W') ∨ (∃ pre, (∃ k, k ≤ xs.length ∧ pre = pivOf (xs.take k) ys) ∧ Jx pre W')) := by
  refine callsIn_of_wp Try.func79 rfl trivial ?_ rfl
  simp only [Try.ntmps79, List.size_toArray, List.length_cons, List.length_nil, Nat.reduceAdd, Nat.reduceSub, Array.replicate_succ, Array.replicate_zero, List.push_toArray, List.append_toArray, List.nil_append, List.cons_append]
  have hBa0 := (blk_cell hBa 0).trans rfl
  gi_wp2
  clear hBa0
  gi_loopw [10] (fun i wr => ∃ k : Nat, k ≤ xs.length ∧ i = .int .i64 k ∧ J (pivOf (xs.take k) ys) wr ∧ Four Ba Bb g1 g2 W wr ∧ W.heap.size ≤ wr.heap.size)
    (fun i _ => xs.length - (intOf i).toNat)
  case atStart => exact ⟨0, Nat.zero_le _, rfl, h0, fun _ _ => rfl, Nat.le_refl _⟩
  case round =>
    obtain ⟨k, hk, rfl, hJs, hnx, hsz⟩ := hrel
    by_cases hlt : k < xs.length
    · have hcx := own_read (own_move hc (fun j hj => hnx j (by simp [Value.ownBlock] at hj; simp [hj]))) hlt
      have hb2 := (blk_cell ((hnx Bb (by simp)).trans hBb) 0).trans rfl
      have hpt := pivOf_take (b := ys) hlt
      have hfx := hxf _ (rd_mem hlt)
      have hbd := formed_bd hfx
      generalize rd xs (k : Int) = x at *
      have hneg : wrap64 (-x) = -x := by unfold wrap64; omega
      by_cases c0 : x < 0
      · have e0 : isPiv ys x = false := by unfold isPiv; rw [decide_eq_false (by omega), Bool.false_and]
        have c0' : decide (x < 0) = true := decide_eq_true c0
        gi_wp2
        go_roundw
        case rel => exact ⟨k + 1, by omega, by simp, by rw [hpt, e0]; simpa using hJs, hnx, hsz⟩
        case measure => simp [intOf]; omega
      · have c0' : decide (x < 0) = false := decide_eq_false c0
        have hfn : formed (-x) = true := by rw [formed_neg]; exact hfx
        have hown : OwnInts wr base (.slice (some ⟨g2, 0, none⟩) ys.length c2) ys := own_move ho (fun j hj => hnx j (by simp [Value.ownBlock] at hj; simp [hj]))
        have S := search_quiet wr base g2 c2 ys (-x) hown hys hyf hfn (by omega)
        cases hcn : ys.contains (-x) with
        | false =>
          have e0 : isPiv ys x = false := by unfold isPiv; rw [hcn, Bool.and_false]
          rw [hcn] at S
          have HSS := Aside0.mk S
          clear S
          gi_wp2
          refine ⟨trivial, ?_⟩
          (with_reducible refine (callsIn_wide.2 HSS.out).mono ?_)
          rintro e w2 ⟨q, rfl, hgb⟩
          gi_wp2
          refine ⟨fun _ h => (by cases h), ?_⟩
          gi_wp2
          have hJ2 := hJ _ wr w2 hJs hgb
          have hb2 : Four Ba Bb g1 g2 W w2 := hnx.grown hgb (four_lt hBa hBb hc ho) hsz
          go_roundw
          case rel => exact ⟨k + 1, by omega, by simp, by rw [hpt, e0]; simpa using hJ2, hb2, Nat.le_trans hsz hgb.size⟩
          case measure => simp [intOf]; omega
        | true =>
          have e0 : isPiv ys x = true := by unfold isPiv; rw [hcn, decide_eq_true (by omega)]; rfl
          rw [hcn] at S
          have HSS := Aside0.mk S
          clear S
          gi_wp2
          refine ⟨trivial, ?_⟩
          (with_reducible refine (callsIn_wide.2 HSS.out).mono ?_)
          rintro e w2 ⟨q, rfl, hgb⟩
          have hJ2 := hJ _ wr w2 hJs hgb
          have hb2 : Four Ba Bb g1 g2 W w2 := hnx.grown hgb (four_lt hBa hBb hc ho) hsz
          obtain ⟨fn, tmps, assign, body, hy, hR⟩ := hY _ x w2 hJ2 hfx (by unfold pivOf; have := List.length_filter_le (isPiv ys) (xs.take k); rw [List.length_take] at this; omega)
          gi_wp2
          refine hR.mono ?_
          rintro e W3 (⟨rfl, hJ3, hk3⟩ | ⟨rfl, hJx3⟩)
          · gi_wp2
            go_roundw
            case rel => exact ⟨k + 1, by omega, by simp, by rw [hpt, e0]; exact hJ3, hb2.kept (four_cells hBa hBb hc ho) (hKp hk3), Nat.le_trans (Nat.le_trans hsz hgb.size) (hKs hk3)⟩
            case measure => simp [intOf]; omega
          · gi_wp2
            refine bodyPost_ret (results_none rfl _ _ _) rfl ?_
            exact ⟨⟨_, rfl⟩, .inr ⟨_, ⟨k + 1, by omega, by rw [hpt, e0]; rfl⟩, hJx3⟩⟩
    · obtain rfl : k = xs.length := by omega
      gi_wp2
      go_end0
      exact ⟨⟨_, rfl⟩, .inl ⟨_, by rw [List.take_length], hJs⟩⟩

theorem pivots_own (n : Nat) (hn : 1 ≤ n) (Ba Bb g1 c1 g2 c2 base : Nat)
    (xs ys : List Int) (hys : Rising ys) (hyf : ∀ x ∈ ys, formed x = true) (hxf : ∀ x ∈ xs, formed x = true) (hxl : xs.length ≤ 2097152) (hyl : ys.length ≤ 2097152) (w : World)
    (hBa : w.heap[Ba]? = some (.cells #[.slice (some ⟨g1, 0, none⟩) xs.length c1] 26 (0, 0))) (hBb : w.heap[Bb]? = some (.cells #[.slice (some ⟨g2, 0, none⟩) ys.length c2] 26 (0, 0)))
    (hc : OwnInts w base (.slice (some ⟨g1, 0, none⟩) xs.length c1) xs) (ho : OwnInts w base (.slice (some ⟨g2, 0, none⟩) ys.length c2) ys) :
    SeqD Fence.wide n Try.prog 79 #[.pointer (some ⟨Ba, 0, none⟩), .pointer (some ⟨Bb, 0, none⟩)] (fun x : Int => #[Value.int .i64 x]) (fun _ _ v _ => formed v = true) (fun k => k = Ba ∨ k = Bb ∨ k = g1 ∨ k = g2) (fun zs => zs = pivOf xs ys) (fun pre => ∃ k, k ≤ xs.length ∧ pre = pivOf (xs.take k) ys) xs.length w := fun l J Jx W hW hJ hJx hY h0 => by
  have lt := four_lt hBa hBb hc ho
  refine (pivots1_kept n hn l Ba Bb g1 c1 g2 c2 base (KeptD (fun k => k = Ba ∨ k = Bb ∨ k = g1 ∨ k = g2)) (fun h k hk cs t z e => h.2 k _ hk e) (fun h => h.1) xs ys hys hyf hxf hxl hyl (fun pre W => ∃ M, J M pre W) (fun pre W => ∃ M, Jx M pre W) W
    (fun s A B ⟨M, hj⟩ hg => ⟨M, hJ M M s A B hj (Grow.of_grownBy hg (fun r e => by cases e)) (More.refl _ _ _)⟩)
    (fun pre x W1 ⟨M, hj⟩ hfx hlen => (hY M M pre x W1 W1 hj (Grow.refl _ _) (More.refl _ _ _) (fun _ h => h) hfx hlen).mono ?_)
    ((hW.block Ba (lt Ba (by simp))).trans hBa) ((hW.block Bb (lt Bb (by simp))).trans hBb)
    (own_move hc (fun j hj => hW.block j (lt j (by simp [Value.ownBlock] at hj; simp [hj])))) (own_move ho (fun j hj => hW.block j (lt j (by simp [Value.ownBlock] at hj; simp [hj])))) ⟨_, h0⟩).mono ?_
  · rintro e W' (⟨rfl, hj, hk⟩ | ⟨rfl, hj⟩)
    · exact .inl ⟨rfl, ⟨M, hj⟩, hk.mono fun k h => .inr h⟩
    · exact .inr ⟨rfl, M, hj.1⟩
  · rintro e W' ⟨he, ⟨zs, hz, M, hj⟩ | ⟨pre, hp, M, hj⟩⟩
    · exact ⟨he, M, .inl ⟨zs, hz, hj⟩⟩
    · exact ⟨he, M, .inr ⟨pre, hp, hj⟩⟩
end Go.Proofs.YtamefocngapkpaaHand
