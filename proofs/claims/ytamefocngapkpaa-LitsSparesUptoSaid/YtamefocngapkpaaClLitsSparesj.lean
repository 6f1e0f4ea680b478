/- What lits.Resolve answers. -/
import Derived.Test.YtamefocngapkpaaClLitsSparesi
/-! text YtamefocngapkpaaResolve -/
namespace Go.Proofs.YtamefocngapkpaaMath
open Go.RowKit Go.Proofs.YtamefocngapkpaaW.PrintWords
def resOf (a b : List Int) (v : Int) : List Int × Int :=
  if (sound a && sound b && decide (1 ≤ v ∧ v ≤ 1048576)) = true then (if (pivOf (tidyOf a) (tidyOf b)).contains v = true then (onOf a b v, 0) else ([], 10)) else ([], 1)
end Go.Proofs.YtamefocngapkpaaMath
namespace Go.Proofs.YtamefocngapkpaaHand
open Go.RowKit Go.Sort Go.Lib Go.Shelf Go.Proofs.YtamefocngapkpaaW.PrintWords Go.Proofs.YtamefocngapkpaaW.PrintLast Go.Proofs.YtamefocngapkpaaMath
attribute [local go_sem] Oper.semAt_some
set_option linter.unusedVariables false
set_option linter.unusedSimpArgs false

structure Five (w : World) (a b c d e : Value) (W0 : World) : Prop where
  hz : w.heap.size + 5 ≤ W0.heap.size
  hB : Below w.heap.size w W0
  f3 : W0.cell? ⟨w.heap.size, 0, none⟩ = some a
  f4 : W0.cell? ⟨w.heap.size + 1, 0, none⟩ = some b
  f5 : W0.cell? ⟨w.heap.size + 1 + 1, 0, none⟩ = some c
  f6 : W0.cell? ⟨w.heap.size + 1 + 1 + 1, 0, none⟩ = some d
  f7 : W0.cell? ⟨w.heap.size + 1 + 1 + 1 + 1, 0, none⟩ = some e
  z6 : W0.frozen? ⟨w.heap.size + 1 + 1 + 1, 0, none⟩ = false
  z7 : W0.frozen? ⟨w.heap.size + 1 + 1 + 1 + 1, 0, none⟩ = false
theorem five (w : World) (a b c d e : Value) (ta tb tc td te : Nat) (W0 : World) (h : W0 = ((((w.alloc (.cells #[a] ta)).alloc (.cells #[b] tb)).alloc (.cells #[c] tc)).alloc (.cells #[d] td)).alloc (.cells #[e] te)) : Five w a b c d e W0 := by
  subst h
  refine ⟨by simp, by repeat (first | exact Below.refl _ _ | apply below_alloc), ?_, ?_, ?_, ?_, ?_, ?_, ?_⟩ <;> simp [go_sem]
theorem Five.keep {w : World} {a b c d e : Value} {W0 W1 : World} (h : Five w a b c d e W0) (k : Below W0.heap.size W0 W1) : Five w a b c d e W1 := by
  obtain ⟨hz, hB, f3, f4, f5, f6, f7, z6, z7⟩ := h
  refine ⟨Nat.le_trans hz k.size, below_step hB k, ?_, ?_, ?_, ?_, ?_, ?_, ?_⟩
  · exact (k.cell (p := ⟨w.heap.size, 0, none⟩) (show w.heap.size < _ by omega)).trans f3
  · exact (k.cell (p := ⟨w.heap.size + 1, 0, none⟩) (show w.heap.size + 1 < _ by omega)).trans f4
  · exact (k.cell (p := ⟨w.heap.size + 1 + 1, 0, none⟩) (show w.heap.size + 1 + 1 < _ by omega)).trans f5
  · exact (k.cell (p := ⟨w.heap.size + 1 + 1 + 1, 0, none⟩) (show w.heap.size + 1 + 1 + 1 < _ by omega)).trans f6
  · exact (k.cell (p := ⟨w.heap.size + 1 + 1 + 1 + 1, 0, none⟩) (show w.heap.size + 1 + 1 + 1 + 1 < _ by omega)).trans f7
  · exact (World.frozen?_of_block (a := ⟨w.heap.size + 1 + 1 + 1, 0, none⟩) (k.block _ (show w.heap.size + 1 + 1 + 1 < _ by omega))).trans z6
  · exact (World.frozen?_of_block (a := ⟨w.heap.size + 1 + 1 + 1 + 1, 0, none⟩) (k.block _ (show w.heap.size + 1 + 1 + 1 + 1 < _ by omega))).trans z7
theorem Five.drewN {w : World} {a b c d e : Value} {W0 : World} (h : Five w a b c d e W0) (k : Nat) : Five w a b c d e (W0.drewN k) := h.keep (pw_below_drewN (Below.refl _ _) _)
theorem Five.drew {w : World} {a b c d e : Value} {W0 : World} (h : Five w a b c d e W0) : Five w a b c d e W0.drew := h.keep (below_drew (Below.refl _ _))
theorem Five.grown {w : World} {a b c d e : Value} {W0 W1 : World} {row : Option Nat} (h : Five w a b c d e W0) (hg : W0.grownBy W1 row) (hr : ∀ r, row = some r → w.heap.size + 5 ≤ r) : Five w a b c d e W1 := by
  have hb : ∀ k, k < w.heap.size + 5 → W1.heap[k]? = W0.heap[k]? := fun k hk => hg.block k (by have := h.hz; omega) (fun e => by have := hr k e.symm; omega)
  refine ⟨Nat.le_trans h.hz hg.size, h.hB.grown hg (by have := h.hz; omega) (fun k e => by have := hr k e; omega), ?_, ?_, ?_, ?_, ?_, ?_, ?_⟩
  · exact (World.cell?_of_block (a := ⟨w.heap.size, 0, none⟩) (hb (w.heap.size) (by omega))).trans h.f3
  · exact (World.cell?_of_block (a := ⟨w.heap.size + 1, 0, none⟩) (hb (w.heap.size + 1) (by omega))).trans h.f4
  · exact (World.cell?_of_block (a := ⟨w.heap.size + 1 + 1, 0, none⟩) (hb (w.heap.size + 1 + 1) (by omega))).trans h.f5
  · exact (World.cell?_of_block (a := ⟨w.heap.size + 1 + 1 + 1, 0, none⟩) (hb (w.heap.size + 1 + 1 + 1) (by omega))).trans h.f6
  · exact (World.cell?_of_block (a := ⟨w.heap.size + 1 + 1 + 1 + 1, 0, none⟩) (hb (w.heap.size + 1 + 1 + 1 + 1) (by omega))).trans h.f7
  · exact (World.frozen?_of_block (a := ⟨w.heap.size + 1 + 1 + 1, 0, none⟩) (hb (w.heap.size + 1 + 1 + 1) (by omega))).trans h.z6
  · exact (World.frozen?_of_block (a := ⟨w.heap.size + 1 + 1 + 1 + 1, 0, none⟩) (hb (w.heap.size + 1 + 1 + 1 + 1) (by omega))).trans h.z7
/-- what a round that has answered leaves -/
structure Found (w : World) (xs : List Int) (cd : Int) (W : World) : Prop where
  hz : w.heap.size + 5 ≤ W.heap.size
  hB : Below w.heap.size w W
  hc : ∃ u : Value, W.cell? ⟨w.heap.size + 1 + 1 + 1, 0, none⟩ = some u ∧ W.cell? ⟨w.heap.size + 1 + 1 + 1 + 1, 0, none⟩ = some (.int .i64 cd) ∧ Kd.R (Kd.int .i64) 3 W (w.heap.size + 5) (fun _ => True) u xs
theorem Found.grown {w : World} {xs : List Int} {cd : Int} {W0 W1 : World} {row : Option Nat} (h : Found w xs cd W0) (hg : W0.grownBy W1 row) (hr : ∀ r, row = some r → w.heap.size + 5 ≤ r ∧ ∃ o : Obj, W0.heap[r]? = some o ∧ o.isCells = false) : Found w xs cd W1 := by
  have hb : ∀ k, k < w.heap.size + 5 → W1.heap[k]? = W0.heap[k]? := fun k hk => hg.block k (by have := h.hz; omega) (fun e => by have := (hr k e.symm).1; omega)
  obtain ⟨u, h1, h2, h3⟩ := h.hc
  refine ⟨Nat.le_trans h.hz hg.size, h.hB.grown hg (by have := h.hz; omega) (fun k e => by have := (hr k e).1; omega), u, ?_, ?_, ?_⟩
  · exact (World.cell?_of_block (a := ⟨w.heap.size + 1 + 1 + 1, 0, none⟩) (hb (w.heap.size + 1 + 1 + 1) (by omega))).trans h1
  · exact (World.cell?_of_block (a := ⟨w.heap.size + 1 + 1 + 1 + 1, 0, none⟩) (hb (w.heap.size + 1 + 1 + 1 + 1) (by omega))).trans h2
  · refine Kd.R_mono (Kd.R_move (Kd.R_bound h3) (fun k hk => hg.block k hk.2.2.1 (fun e => ?_))) (fun _ h => h.1)
    obtain ⟨_, _, _, q, _, cells, hcells⟩ := hk
    obtain ⟨_, o, ho, hoc⟩ := hr k e.symm
    rw [hcells] at ho
    cases ho
    simp [Obj.isCells] at hoc
theorem found_of {w W6 : World} {a b c d e : Value} (F6 : Five w a b c d e W6) {B : Nat} {u : Value} {xs : List Int} (cd : Int) (ho : Kd.R (Kd.int .i64) 3 W6 B (fun _ => True) u xs) (hB : w.heap.size + 5 ≤ B) :
    Found w xs cd ((W6.setCell ⟨w.heap.size + 1 + 1 + 1, 0, none⟩ u).setCell ⟨w.heap.size + 1 + 1 + 1 + 1, 0, none⟩ (.int .i64 cd)) := by
  refine ⟨?_, (F6.hB.setCell (p := ⟨w.heap.size + 1 + 1 + 1, 0, none⟩) (show w.heap.size ≤ w.heap.size + 1 + 1 + 1 by omega) _).setCell (p := ⟨w.heap.size + 1 + 1 + 1 + 1, 0, none⟩) (show w.heap.size ≤ w.heap.size + 1 + 1 + 1 + 1 by omega) _, u, ?_, ?_, ?_⟩
  · exact Nat.le_trans F6.hz (Nat.le_trans (KeepsOthers.setCell _ _ _).size (KeepsOthers.setCell _ _ _).size)
  · exact (World.cell?_setCell_far _ ⟨w.heap.size + 1 + 1 + 1 + 1, 0, none⟩ ⟨w.heap.size + 1 + 1 + 1, 0, none⟩ _ (show w.heap.size + 1 + 1 + 1 + 1 ≠ w.heap.size + 1 + 1 + 1 by omega)).trans (World.cell?_setCell_same' _ _ _ (by rw [F6.f6]; rfl))
  · exact World.cell?_setCell_same' _ _ _ (by rw [World.cell?_setCell_far _ ⟨w.heap.size + 1 + 1 + 1, 0, none⟩ ⟨w.heap.size + 1 + 1 + 1 + 1, 0, none⟩ _ (show w.heap.size + 1 + 1 + 1 ≠ w.heap.size + 1 + 1 + 1 + 1 by omega), F6.f7]; rfl)
  · refine Kd.R_lower (Kd.R_mono (Kd.R_far (p := ⟨w.heap.size + 1 + 1 + 1 + 1, 0, none⟩) (Kd.R_far (p := ⟨w.heap.size + 1 + 1 + 1, 0, none⟩) (Kd.R_bound ho) (fun k hk => ?_) u) (fun k hk => ?_) (.int .i64 cd)) (fun _ h => h.1)) hB
    · have := hk.2.1
      show k ≠ w.heap.size + 1 + 1 + 1
      omega
    · have := hk.2.1
      show k ≠ w.heap.size + 1 + 1 + 1 + 1
      omega
theorem below_of_drawn {W W1 : World} (h : Drawn0 W W1) : Below W.heap.size W W1 := by
  obtain ⟨q, rfl⟩ := h
  exact pw_below_drewN (Below.refl _ _) _

set_option maxRecDepth 100000 in
set_option maxHeartbeats 4000000 in
theorem resolve_good (A0 A1 : Option Addr) (c0 c1 : Nat) (l0 l1 : List Int) (v : Int) (w : World) (hr0 : Kd.C (Kd.int .i64) w A0 l0.length l0) (hc0 : l0.length ≤ c0) (hr1 : Kd.C (Kd.int .i64) w A1 l1.length l1) (hc1 : l1.length ≤ c1)
    (hn0 : l0.length ≤ 17592186044416) (hn1 : l1.length ≤ 17592186044416) (hs0 : sound l0 = true) (hs1 : sound l1 = true) (hv0 : 1 ≤ v) (hv1 : v ≤ 1048576) :
    Calls Try.prog 45 #[.slice A0 l0.length c0, .slice A1 l1.length c1, .int .i64 v] w fun e w' => ∃ v1_ : Value, e = .returned (.tuple #[v1_, .int .i64 (resOf l0 l1 v).2]) ∧ Kd.R (Kd.int .i64) 3 w' w.heap.size (fun _ => True) v1_ (resOf l0 l1 v).1 ∧ Below w.heap.size w w' := by
  have HR0 := Aside0.mk hr0
  have HR1 := Aside0.mk hr1
  have S0 := fun w (h : Kd.C (Kd.int .i64) w A0 l0.length l0) => sound_calls A0 c0 l0 w h hn0
  have S1 := fun w (h : Kd.C (Kd.int .i64) w A1 l1.length l1) => sound_calls A1 c1 l1 w h hn1
  have T0 := fun w (h : Kd.C (Kd.int .i64) w A0 l0.length l0) => tidy_own A0 c0 l0 w h hc0 hn0
  have T1 := fun w (h : Kd.C (Kd.int .i64) w A1 l1.length l1) => tidy_own A1 c1 l1 w h hc1 hn1
  rw [hs0] at S0
  rw [hs1] at S1
  have HS0 := Aside0.mk S0
  have HS1 := Aside0.mk S1
  have HT0 := Aside0.mk T0
  have HT1 := Aside0.mk T1
  have p1 : decide (v < 1) = false := decide_eq_false (by omega)
  have p2 : decide (v > 1048576) = false := decide_eq_false (by omega)
  have p3 : decide (1048576 < v) = false := decide_eq_false (by omega)
  clear S0 S1 T0 T1 hr0 hr1
  refine (callsIn_wide (n := 6)).1 ?_
  refine callsIn_of_wp_marks Try.func45 rfl trivial ?_ rfl
  simp only [Try.ntmps45, List.size_toArray, List.length_cons, List.length_nil, Nat.reduceAdd, Nat.reduceSub, Array.replicate_succ, Array.replicate_zero, List.push_toArray, List.append_toArray, List.nil_append, List.cons_append]
  gi_wp2
  obtain ⟨W0, hW0⟩ : ∃ W0, W0 = ((((w.alloc (.cells #[.slice A0 l0.length c0] 26)).alloc (.cells #[.slice A1 l1.length c1] 26)).alloc (.cells #[.int .i64 v] 3)).alloc (.cells #[.slice none 0 0] 26)).alloc (.cells #[.int .i64 0] 37) := ⟨_, rfl⟩
  rw [← hW0]
  have F0 := five w _ _ _ _ _ _ _ _ _ _ W0 hW0
  clear hW0
  refine ⟨trivial, ?_⟩
  (with_reducible refine (callsIn_wide.2 (HS0.out _ (Kd.C_below HR0.out F0.hB))).mono ?_)
  rintro e W1 ⟨rfl, hd⟩
  have F1 := F0.keep (below_of_drawn hd)
  clear F0 hd
  have f4 := F1.f4
  gi_wp2
  refine ⟨trivial, ?_⟩
  (with_reducible refine (callsIn_wide.2 (HS1.out _ (Kd.C_below HR1.out F1.hB))).mono ?_)
  rintro e W2 ⟨rfl, hd⟩
  have F2 := F1.keep (below_of_drawn hd)
  clear F1 hd f4
  have f5 := F2.f5
  gi_wp2
  have f3 := F2.f3
  have f4 := F2.f4
  clear f5
  have hmx : Try.prog.follows .mixedOrders = true := by kernel_rfl
  gi_region_with_o (refine ⟨trivial, ?_⟩; first
    | ((with_reducible refine (callsIn_wide.2 (HT0.out _ (Kd.C_below HR0.out ?hh))).mono ?_); (case hh => first | exact F2.hB | exact F2.drew.hB | exact (F2.drewN _).hB | exact F2.drew.drew.hB); rintro e W3 ⟨g1, cap1, rfl, ho1, hb1⟩; have F3 := Five.keep (by first | exact F2 | exact F2.drew | exact F2.drewN _ | exact F2.drew.drew) hb1; have HO1 := Aside0.mk ho1; have HB31 := Aside0.mk hb1; clear ho1 hb1; have f4 := F3.f4)
    | ((with_reducible refine (callsIn_wide.2 (HT1.out _ (Kd.C_below HR1.out ?hh))).mono ?_); (case hh => first | exact F3.hB | exact F3.drew.hB | exact (F3.drewN _).hB | exact F3.drew.drew.hB); rintro e W4 ⟨g2, cap2, rfl, ho2, hb2⟩; have F4 := Five.keep (by first | exact F3 | exact F3.drew | exact F3.drewN _ | exact F3.drew.drew) hb2; have HO2 := Aside0.mk ho2; have HB42 := Aside0.mk hb2; clear ho2 hb2)
    | ((with_reducible refine (callsIn_wide.2 (pivots_calls _ _ _ _ _ _ _)).mono ?_); rintro e W5 ⟨rfl, hW5⟩))
  all_goals
    have o1 : OwnInts W3 w.heap.size (.slice (some ⟨g1, 0, none⟩) (tidyOf l0).length cap1) (tidyOf l0) := own_weaken HO1.out (by first | exact F2.hB.size | exact F2.drew.hB.size | exact F2.drew.drew.hB.size | exact (F2.drewN _).hB.size)
    have o2 : OwnInts W4 w.heap.size (.slice (some ⟨g2, 0, none⟩) (tidyOf l1).length cap2) (tidyOf l1) := own_weaken HO2.out (by first | exact F3.hB.size | exact F3.drew.hB.size | exact F3.drew.drew.hB.size | exact (F3.drewN _).hB.size)
    have o1' : OwnInts W4 w.heap.size (.slice (some ⟨g1, 0, none⟩) (tidyOf l0).length cap1) (tidyOf l0) := own_move o1 (fun k hk => HB42.out.block k (own_lt o1 k hk))
    have b1 : g1 < W4.heap.size := own_lt o1' g1 rfl
    have b2 : g2 < W4.heap.size := own_lt o2 g2 rfl
    clear HO1 HO2 HB31 HB42 o1 F3 F2
    gi_wp2
    obtain ⟨W5, hW5⟩ : ∃ W5, W5 = (W4.alloc (.cells #[.slice (some ⟨g1, 0, none⟩) (tidyOf l0).length cap1] 26)).alloc (.cells #[.slice (some ⟨g2, 0, none⟩) (tidyOf l1).length cap2] 26) := ⟨_, rfl⟩
    rw [← hW5]
    have hB45 : Below W4.heap.size W4 W5 := by rw [hW5]; repeat (first | exact Below.refl _ _ | apply below_alloc)
    have F5 := F4.keep hB45
    have s5 : W5.heap.size = W4.heap.size + 1 + 1 := by rw [hW5]; simp
    have hBa : W5.cell? ⟨W4.heap.size, 0, none⟩ = some (.slice (some ⟨g1, 0, none⟩) (tidyOf l0).length cap1) := by rw [hW5]; simp [go_sem]
    have hBb : W5.cell? ⟨W4.heap.size + 1, 0, none⟩ = some (.slice (some ⟨g2, 0, none⟩) (tidyOf l1).length cap2) := by rw [hW5]; simp [go_sem]
    have o5 : OwnInts W5 w.heap.size (.slice (some ⟨g1, 0, none⟩) (tidyOf l0).length cap1) (tidyOf l0) := own_move o1' (fun k hk => hB45.block k (own_lt o1' k hk))
    have o6 : OwnInts W5 w.heap.size (.slice (some ⟨g2, 0, none⟩) (tidyOf l1).length cap2) (tidyOf l1) := own_move o2 (fun k hk => hB45.block k (own_lt o2 k hk))
    have hc5 : ∀ j, j < (tidyOf l0).length → W5.cell? ⟨g1, j, none⟩ = some (.int .i64 (rd (tidyOf l0) (j : Int))) := fun j hj => by
      have := (own_at o5 (j : Int) (by omega) (by omega)).1
      rwa [Int.toNat_natCast] at this
    have t0 := formed_count (tidyOf l0) (rising_tidyOf _) (fun _ h => tidyOf_formed h)
    have t1 := formed_count (tidyOf l1) (rising_tidyOf _) (fun _ h => tidyOf_formed h)
    have seq := pivots_stops 5 (by omega) W4.heap.size (W4.heap.size + 1) g1 cap1 g2 cap2 w.heap.size (tidyOf l0) (tidyOf l1) (rising_tidyOf _) (fun _ h => tidyOf_formed h) (fun _ h => tidyOf_formed h) t0 t1 W5 (by omega) (by omega) (by omega) (by omega) hBa hBb hc5 o6
    clear hW5 hBa hBb o5 o6 hc5 o1' o2 hB45 F4
    refine wpIn_rangeFunc_ownF rfl (by omega) (gf := 79) (lb := #[.pointer (some ⟨W4.heap.size, 0, none⟩), .pointer (some ⟨W4.heap.size + 1, 0, none⟩)]) rfl trivial (enters_of Try.func79 (by kernel_rfl) rfl) seq belowK_t (belowK_b (Nat.le_refl _)) (Below.refl _ _) (fun _ => rfl)
      (fun pre W => Five w (.slice A0 l0.length c0) (.slice A1 l1.length c1) (.int .i64 v) (.slice none 0 0) (.int .i64 0) W ∧ ¬ v ∈ pre)
      (fun c pre W => c = .ret ∧ v ∈ pre ∧ Found w (onOf l0 l1 v) 0 W)
      (fun s A B row hs hg hr => ⟨hs.1.grown hg (fun r e => by have := (hr r e).1; have := F5.hz; omega), hs.2⟩)
      (fun c s A B row hs hg hr => ⟨hs.1, hs.2.1, hs.2.2.grown hg (fun r e => ⟨by have := (hr r e).1; have := F5.hz; omega, (hr r e).2⟩)⟩)
      ⟨F5, by simp⟩
      (fun x => { tmps := #[.slice A0 l0.length c0, .slice A1 l1.length c1, .int .i64 v, .pointer (some ⟨w.heap.size, 0, none⟩), .pointer (some ⟨w.heap.size + 1, 0, none⟩), .pointer (some ⟨w.heap.size + 1 + 1, 0, none⟩), .pointer (some ⟨w.heap.size + 1 + 1 + 1, 0, none⟩), .pointer (some ⟨w.heap.size + 1 + 1 + 1 + 1, 0, none⟩), .int .i64 x, .slice A0 l0.length c0, .bool true, .bool false, .bool false, .slice A1 l1.length c1, .bool true, .bool false, .bool false, .bool false, .int .i64 v, .bool false, .bool false, .bool false, .int .i64 v, .bool false, .bool false, .slice A0 l0.length c0, .slice (some ⟨g1, 0, none⟩) (tidyOf l0).length cap1, .slice A1 l1.length c1, .slice (some ⟨g2, 0, none⟩) (tidyOf l1).length cap2, .func (.func 79) #[] #[.pointer (some ⟨W4.heap.size, 0, none⟩), .pointer (some ⟨W4.heap.size + 1, 0, none⟩)], .int .i64 x, undef, undef, undef, undef, undef, undef, undef], defers := [] }) ?assign ?body ?done ?stop
    case assign =>
      intro l x W K hK
      gi_wp2
      exact hK
    case body =>
      rintro l pre x W ⟨F, hnv⟩ _
      have f3 := F.f3
      have f4 := F.f4
      have f5 := F.f5
      by_cases hx : x = v
      · subst hx
        gi_wp2
        refine ⟨trivial, ?_⟩
        (with_reducible refine (CallsIn.inRound l (callsIn_wide.2 (on_calls A0 A1 c0 c1 l0 l1 x W (Kd.C_below HR0.out F.hB) hc0 (Kd.C_below HR1.out F.hB) hc1 hn0 hn1 (by omega)))).mono ?_)
        rintro e W6 ⟨u, rfl, ho, hb⟩
        have F6 := F.keep hb
        obtain ⟨Ao, co, eo⟩ := Kd.R_slice ho
        subst eo
        have f6 := F6.f6
        have f7 := F6.f7
        have z6 := F6.z6
        have z7 := F6.z7
        gi_wp2
        refine ⟨((KeepsOthers.of_grownBy (row := none) ⟨hb.os, hb.tape, hb.output, hb.size, fun k hk _ => hb.block k hk⟩ (fun j o e => by cases e)).trans (KeepsOthers.setCell _ _ _)).trans (KeepsOthers.setCell _ _ _), rfl, by simp, ?_⟩
        exact found_of F6 0 ho F.hz
      · have hx' : decide (x = v) = false := decide_eq_false hx
        gi_wp2
        exact ⟨KeepsOthers.refl _, Below.refl _ _, F, by simp [hnv]; exact fun h => hx h.symm⟩
    case done =>
      rintro D xs W hD rfl ⟨F, hnv⟩ hK
      have f6 := F.f6
      have f7 := F.f7
      have z6 := F.z6
      have z7 := F.z7
      gi_wp2
      have hK2 := (((KeepsOthers.setCell W ⟨w.heap.size + 1 + 1 + 1, 0, none⟩ (.slice none 0 0)).trans (KeepsOthers.setCell _ ⟨w.heap.size + 1 + 1 + 1 + 1, 0, none⟩ (.int .i64 10))).same D _ hK rfl)
      refine ⟨by simp, .inl ⟨_, _, rfl, run_takeDeferred hK2, ?_⟩⟩
      have G := (found_of (u := .slice none 0 0) F 10 (Kd.R_nil (Kd.int .i64) 3 W W.heap.size (fun _ => True)) F.hz).grown (grownBy_putObj' _ D (.deferred none)) (fun r e => by cases e; exact ⟨by have := F5.hz; omega, _, hK2, rfl⟩)
      obtain ⟨u, h1, h2, h3⟩ := G.hc
      refine ⟨.tuple #[u, .int .i64 10], ?_, ?_⟩
      · simp [results, go_sem, h1, h2]
      · have hres : resOf l0 l1 v = ([], 10) := by
          have hm : (pivOf (tidyOf l0) (tidyOf l1)).contains v = false := by
            rw [← Bool.not_eq_true, List.contains_iff_mem]
            exact hnv
          unfold resOf
          rw [hs0, hs1, decide_eq_true ⟨hv0, hv1⟩, hm]
          rfl
        rw [hres]
        exact ⟨u, rfl, Kd.R_lower h3 (by omega), G.hB⟩
    case stop =>
      rintro D c pre W hD hp ⟨rfl, hv, G⟩ hK
      obtain ⟨u, h1, h2, h3⟩ := G.hc
      gi_wp2
      refine ⟨by simp, .inl ⟨_, _, rfl, run_takeDeferred hK, ?_⟩⟩
      have h1' := cell_kept h1 (grownBy_putObj' _ D (.deferred none)) (fun r e => by cases e; exact ⟨_, hK, rfl⟩)
      have h2' := cell_kept h2 (grownBy_putObj' _ D (.deferred none)) (fun r e => by cases e; exact ⟨_, hK, rfl⟩)
      refine ⟨.tuple #[u, .int .i64 0], ?_, ?_⟩
      · simp [results, go_sem, h1', h2']
      · have hres : resOf l0 l1 v = (onOf l0 l1 v, 0) := by
          obtain ⟨k, _, rfl⟩ := hp
          have hm : v ∈ pivOf (tidyOf l0) (tidyOf l1) := by
            unfold pivOf at hv ⊢
            rw [List.mem_filter] at hv ⊢
            exact ⟨List.mem_of_mem_take hv.1, hv.2⟩
          unfold resOf
          rw [hs0, hs1, decide_eq_true ⟨hv0, hv1⟩, List.contains_iff_mem.2 hm]
          rfl
        rw [hres]
        have G' := G.grown (grownBy_putObj' W D (.deferred none)) (fun r e => by cases e; exact ⟨by have := F5.hz; omega, _, hK, rfl⟩)
        obtain ⟨u', k1, k2, k3⟩ := G'.hc
        rw [h1'] at k1
        cases k1
        exact ⟨u, rfl, Kd.R_lower k3 (by omega), G'.hB⟩

set_option maxRecDepth 100000 in
set_option maxHeartbeats 4000000 in
theorem resolve_bad (A0 A1 : Option Addr) (c0 c1 : Nat) (l0 l1 : List Int) (v : Int) (w : World) (hr0 : Kd.C (Kd.int .i64) w A0 l0.length l0) (hr1 : Kd.C (Kd.int .i64) w A1 l1.length l1)
    (hn0 : l0.length ≤ 17592186044416) (hn1 : l1.length ≤ 17592186044416) (hbad : (sound l0 && sound l1 && decide (1 ≤ v ∧ v ≤ 1048576)) = false) :
    Calls Try.prog 45 #[.slice A0 l0.length c0, .slice A1 l1.length c1, .int .i64 v] w fun e w' => ∃ v1_ : Value, e = .returned (.tuple #[v1_, .int .i64 (resOf l0 l1 v).2]) ∧ Kd.R (Kd.int .i64) 3 w' w.heap.size (fun _ => True) v1_ (resOf l0 l1 v).1 ∧ Below w.heap.size w w' := by
  have hres : resOf l0 l1 v = ([], 1) := by unfold resOf; rw [hbad]; rfl
  rw [hres]
  have HR0 := Aside0.mk hr0
  have HR1 := Aside0.mk hr1
  have S0 := fun w (h : Kd.C (Kd.int .i64) w A0 l0.length l0) => sound_calls A0 c0 l0 w h hn0
  have S1 := fun w (h : Kd.C (Kd.int .i64) w A1 l1.length l1) => sound_calls A1 c1 l1 w h hn1
  cases hs0 : sound l0 with
  | false =>
    rw [hs0] at S0
    have HS0 := Aside0.mk S0
    clear S0 S1 hr0 hr1 hn0 hn1 hbad hres hs0
    go_enter Try.func45, Try.ntmps45
    go_wp2_with fail
    obtain ⟨W0, hW0⟩ : ∃ W0, W0 = ((((w.alloc (.cells #[.slice A0 l0.length c0] 26)).alloc (.cells #[.slice A1 l1.length c1] 26)).alloc (.cells #[.int .i64 v] 3)).alloc (.cells #[.slice none 0 0] 26)).alloc (.cells #[.int .i64 0] 37) := ⟨_, rfl⟩
    rw [← hW0]
    have F0 := five w _ _ _ _ _ _ _ _ _ _ W0 hW0
    clear hW0
    (with_reducible refine (HS0.out _ (Kd.C_below HR0.out F0.hB)).mono ?_)
    rintro e W1 ⟨rfl, hd⟩
    have F1 := F0.keep (below_of_drawn hd)
    clear F0 hd
    have F := F1
    clear F1
    have f6 := F.f6
    have f7 := F.f7
    have z6 := F.z6
    have z7 := F.z7
    go_wp2
    have G := found_of (u := .slice none 0 0) F 1 (Kd.R_nil (Kd.int .i64) 3 _ _ (fun _ => True)) F.hz
    obtain ⟨u, h1, h2, h3⟩ := G.hc
    refine bodyPost_ret (v := .tuple #[u, .int .i64 1]) ?_ rfl ?_
    · simp [results, go_sem, h1, h2]
    · exact ⟨u, rfl, Kd.R_lower h3 (by omega), G.hB⟩
  | true =>
    rw [hs0, Bool.true_and] at hbad
    rw [hs0] at S0
    have HS0 := Aside0.mk S0
    cases hs1 : sound l1 with
    | false =>
      rw [hs1] at S1
      have HS1 := Aside0.mk S1
      clear S0 S1 hr0 hr1 hn0 hn1 hbad hres hs0 hs1
      go_enter Try.func45, Try.ntmps45
      go_wp2_with fail
      obtain ⟨W0, hW0⟩ : ∃ W0, W0 = ((((w.alloc (.cells #[.slice A0 l0.length c0] 26)).alloc (.cells #[.slice A1 l1.length c1] 26)).alloc (.cells #[.int .i64 v] 3)).alloc (.cells #[.slice none 0 0] 26)).alloc (.cells #[.int .i64 0] 37) := ⟨_, rfl⟩
      rw [← hW0]
      have F0 := five w _ _ _ _ _ _ _ _ _ _ W0 hW0
      clear hW0
      (with_reducible refine (HS0.out _ (Kd.C_below HR0.out F0.hB)).mono ?_)
      rintro e W1 ⟨rfl, hd⟩
      have F1 := F0.keep (below_of_drawn hd)
      clear F0 hd
      have f4 := F1.f4
      go_wp2_with fail
      (with_reducible refine (HS1.out _ (Kd.C_below HR1.out F1.hB)).mono ?_)
      rintro e W2 ⟨rfl, hd⟩
      have F := F1.keep (below_of_drawn hd)
      have f5 := F.f5
      clear F1 hd f4
      have f6 := F.f6
      have f7 := F.f7
      have z6 := F.z6
      have z7 := F.z7
      go_wp2
      have G := found_of (u := .slice none 0 0) F 1 (Kd.R_nil (Kd.int .i64) 3 _ _ (fun _ => True)) F.hz
      obtain ⟨u, h1, h2, h3⟩ := G.hc
      refine bodyPost_ret (v := .tuple #[u, .int .i64 1]) ?_ rfl ?_
      · simp [results, go_sem, h1, h2]
      · exact ⟨u, rfl, Kd.R_lower h3 (by omega), G.hB⟩
    | true =>
      rw [hs1, Bool.true_and] at hbad
      rw [hs1] at S1
      have HS1 := Aside0.mk S1
      have hv := of_decide_eq_false hbad
      by_cases hv0 : v < 1
      · have p1 : decide (v < 1) = true := decide_eq_true hv0
        clear S0 S1 hr0 hr1 hn0 hn1 hbad hres hs0 hs1 hv hv0
        go_enter Try.func45, Try.ntmps45
        go_wp2_with fail
        obtain ⟨W0, hW0⟩ : ∃ W0, W0 = ((((w.alloc (.cells #[.slice A0 l0.length c0] 26)).alloc (.cells #[.slice A1 l1.length c1] 26)).alloc (.cells #[.int .i64 v] 3)).alloc (.cells #[.slice none 0 0] 26)).alloc (.cells #[.int .i64 0] 37) := ⟨_, rfl⟩
        rw [← hW0]
        have F0 := five w _ _ _ _ _ _ _ _ _ _ W0 hW0
        clear hW0
        (with_reducible refine (HS0.out _ (Kd.C_below HR0.out F0.hB)).mono ?_)
        rintro e W1 ⟨rfl, hd⟩
        have F1 := F0.keep (below_of_drawn hd)
        clear F0 hd
        have f4 := F1.f4
        go_wp2_with fail
        (with_reducible refine (HS1.out _ (Kd.C_below HR1.out F1.hB)).mono ?_)
        rintro e W2 ⟨rfl, hd⟩
        have F := F1.keep (below_of_drawn hd)
        have f5 := F.f5
        clear F1 hd f4
        have f6 := F.f6
        have f7 := F.f7
        have z6 := F.z6
        have z7 := F.z7
        go_wp2
        have G := found_of (u := .slice none 0 0) F 1 (Kd.R_nil (Kd.int .i64) 3 _ _ (fun _ => True)) F.hz
        obtain ⟨u, h1, h2, h3⟩ := G.hc
        refine bodyPost_ret (v := .tuple #[u, .int .i64 1]) ?_ rfl ?_
        · simp [results, go_sem, h1, h2]
        · exact ⟨u, rfl, Kd.R_lower h3 (by omega), G.hB⟩
      · have p1 : decide (v < 1) = false := decide_eq_false hv0
        have p2 : decide (v > 1048576) = true := decide_eq_true (by omega)
        have p3 : decide (1048576 < v) = true := decide_eq_true (by omega)
        clear S0 S1 hr0 hr1 hn0 hn1 hbad hres hs0 hs1 hv hv0
        go_enter Try.func45, Try.ntmps45
        go_wp2_with fail
        obtain ⟨W0, hW0⟩ : ∃ W0, W0 = ((((w.alloc (.cells #[.slice A0 l0.length c0] 26)).alloc (.cells #[.slice A1 l1.length c1] 26)).alloc (.cells #[.int .i64 v] 3)).alloc (.cells #[.slice none 0 0] 26)).alloc (.cells #[.int .i64 0] 37) := ⟨_, rfl⟩
        rw [← hW0]
        have F0 := five w _ _ _ _ _ _ _ _ _ _ W0 hW0
        clear hW0
        (with_reducible refine (HS0.out _ (Kd.C_below HR0.out F0.hB)).mono ?_)
        rintro e W1 ⟨rfl, hd⟩
        have F1 := F0.keep (below_of_drawn hd)
        clear F0 hd
        have f4 := F1.f4
        go_wp2_with fail
        (with_reducible refine (HS1.out _ (Kd.C_below HR1.out F1.hB)).mono ?_)
        rintro e W2 ⟨rfl, hd⟩
        have F := F1.keep (below_of_drawn hd)
        have f5 := F.f5
        clear F1 hd f4
        have f6 := F.f6
        have f7 := F.f7
        have z6 := F.z6
        have z7 := F.z7
        go_wp2
        have G := found_of (u := .slice none 0 0) F 1 (Kd.R_nil (Kd.int .i64) 3 _ _ (fun _ => True)) F.hz
        obtain ⟨u, h1, h2, h3⟩ := G.hc
        refine bodyPost_ret (v := .tuple #[u, .int .i64 1]) ?_ rfl ?_
        · simp [results, go_sem, h1, h2]
        · exact ⟨u, rfl, Kd.R_lower h3 (by omega), G.hB⟩

theorem resolve_calls (A0 A1 : Option Addr) (c0 c1 : Nat) (l0 l1 : List Int) (v : Int) (w : World) (hr0 : Kd.C (Kd.int .i64) w A0 l0.length l0) (hc0 : l0.length ≤ c0) (hr1 : Kd.C (Kd.int .i64) w A1 l1.length l1) (hc1 : l1.length ≤ c1)
    (hn0 : l0.length ≤ 17592186044416) (hn1 : l1.length ≤ 17592186044416) :
    Calls Try.prog 45 #[.slice A0 l0.length c0, .slice A1 l1.length c1, .int .i64 v] w fun e w' => ∃ v1_ : Value, e = .returned (.tuple #[v1_, .int .i64 (resOf l0 l1 v).2]) ∧ Kd.R (Kd.int .i64) 3 w' w.heap.size (fun _ => True) v1_ (resOf l0 l1 v).1 ∧ Below w.heap.size w w' := by
  cases h : (sound l0 && sound l1 && decide (1 ≤ v ∧ v ≤ 1048576)) with
  | false => exact resolve_bad A0 A1 c0 c1 l0 l1 v w hr0 hr1 hn0 hn1 h
  | true =>
    rw [Bool.and_eq_true, Bool.and_eq_true] at h
    have hv := of_decide_eq_true h.2
    exact resolve_good A0 A1 c0 c1 l0 l1 v w hr0 hc0 hr1 hc1 hn0 hn1 h.1.1 h.1.2 hv.1 hv.2
end Go.Proofs.YtamefocngapkpaaHand
