/- What lits.Resolvents answers: its iterator over two tidy lists; or over nothing. -/
import Derived.Test.YtamefocngapkpaaResolvents
namespace Go.Proofs.YtamefocngapkpaaHand
open Go.RowKit Go.Sort Go.Lib Go.Shelf Go.Proofs.YtamefocngapkpaaW.PrintWords Go.Proofs.YtamefocngapkpaaW.PrintLast Go.Proofs.YtamefocngapkpaaMath Go.Proofs.YtamefocngapkpaaOwn
attribute [local go_sem] Oper.semAt_some
set_option linter.unusedVariables false
set_option linter.unusedSimpArgs false

set_option maxRecDepth 100000 in
set_option maxHeartbeats 8000000 in
theorem resolvents_bad (A0 A1 : Option Addr) (c0 c1 : Nat) (l0 l1 : List Int) (w : World) (hr0 : Kd.C (Kd.int .i64) w A0 l0.length l0) (hr1 : Kd.C (Kd.int .i64) w A1 l1.length l1)
    (hn0 : l0.length ≤ 17592186044416) (hn1 : l1.length ≤ 17592186044416) (hbad : (sound l0 && sound l1) = false) :
    Calls Try.prog 48 #[.slice A0 l0.length c0, .slice A1 l1.length c1] w fun e w' => e = .returned (.func (.func 70) #[] #[]) ∧ Below w.heap.size w w' := by
  have HR0 := Aside0.mk hr0
  have HR1 := Aside0.mk hr1
  have S0 := fun w (h : Kd.C (Kd.int .i64) w A0 l0.length l0) => sound_calls A0 c0 l0 w h hn0
  have S1 := fun w (h : Kd.C (Kd.int .i64) w A1 l1.length l1) => sound_calls A1 c1 l1 w h hn1
  cases hs0 : sound l0 with
  | false =>
    rw [hs0] at S0
    have HS0 := Aside0.mk S0
    clear S0 S1 hr0 hr1 hn0 hn1 hbad hs0
    go_enter Try.func48, Try.ntmps48
    go_wp2_with fail
    (with_reducible refine (HS0.out _ HR0.out).mono ?_)
    rintro e W1 ⟨rfl, hd⟩
    have B1 := Aside0.mk (hd.below)
    clear hd
    go_wp2_with fail
    go_ret
    exact ⟨rfl, B1.out⟩
  | true =>
    rw [hs0, Bool.true_and] at hbad
    rw [hs0] at S0
    rw [hbad] at S1
    have HS0 := Aside0.mk S0
    have HS1 := Aside0.mk S1
    clear S0 S1 hr0 hr1 hn0 hn1 hbad hs0
    go_enter Try.func48, Try.ntmps48
    go_wp2_with fail
    (with_reducible refine (HS0.out _ HR0.out).mono ?_)
    rintro e W1 ⟨rfl, hd⟩
    have B1 := hd.below
    clear hd
    go_wp2_with fail
    (with_reducible refine (HS1.out _ (Kd.C_below HR1.out B1)).mono ?_)
    rintro e W2 ⟨rfl, hd⟩
    have B2 := Aside0.mk (below_step B1 (hd.below))
    clear hd B1
    go_wp2_with fail
    go_ret
    exact ⟨rfl, B2.out⟩

set_option maxRecDepth 100000 in
set_option maxHeartbeats 8000000 in
theorem resolvents_good (A0 A1 : Option Addr) (c0 c1 : Nat) (l0 l1 : List Int) (w : World) (hr0 : Kd.C (Kd.int .i64) w A0 l0.length l0) (hr1 : Kd.C (Kd.int .i64) w A1 l1.length l1) (hc0 : l0.length ≤ c0) (hc1 : l1.length ≤ c1)
    (hn0 : l0.length ≤ 17592186044416) (hn1 : l1.length ≤ 17592186044416) (hs0 : sound l0 = true) (hs1 : sound l1 = true) :
    Calls Try.prog 48 #[.slice A0 l0.length c0, .slice A1 l1.length c1] w fun e w' => ∃ Bx By gx cx gy cy : Nat, e = .returned (.func (.func 71) #[] #[.pointer (some ⟨By, 0, none⟩), .pointer (some ⟨Bx, 0, none⟩)]) ∧ Two (tidyOf l0) (tidyOf l1) Bx By gx cx gy cy w.heap.size w' ∧ (w.heap.size ≤ Bx ∧ w.heap.size ≤ By) ∧ Below w.heap.size w w' := by
  have HR0 := Aside0.mk hr0
  have HR1 := Aside0.mk hr1
  have S0 := fun w (h : Kd.C (Kd.int .i64) w A0 l0.length l0) => sound_calls A0 c0 l0 w h hn0
  have S1 := fun w (h : Kd.C (Kd.int .i64) w A1 l1.length l1) => sound_calls A1 c1 l1 w h hn1
  have T0 := fun w (h : Kd.C (Kd.int .i64) w A0 l0.length l0) => tidy_own A0 c0 l0 w h hc0 hn0
  have T1 := fun w (h : Kd.C (Kd.int .i64) w A1 l1.length l1) => tidy_own A1 c1 l1 w h hc1 hn1
  rw [hs0] at S0
  rw [hs1] at S1
  have HS0 := Aside0.mk S0
  have HS1 := Aside0.mk S1
  have HT0 := Aside0.mk T0
  have HT1 := Aside0.mk T1
  clear S0 S1 T0 T1 hr0 hr1 hn0 hn1 hs0 hs1 hc0 hc1
  go_enter Try.func48, Try.ntmps48
  go_wp2_with fail
  (with_reducible refine (HS0.out _ HR0.out).mono ?_)
  rintro e W1 ⟨rfl, hd⟩
  have B1 := hd.below
  clear hd
  go_wp2_with fail
  (with_reducible refine (HS1.out _ (Kd.C_below HR1.out B1)).mono ?_)
  rintro e W2 ⟨rfl, hd⟩
  have B2 := below_step B1 (hd.below)
  clear hd B1
  go_wp2_with fail
  (with_reducible refine (HT0.out _ (Kd.C_below HR0.out B2)).mono ?_)
  rintro e W3 ⟨g1, cap1, rfl, o1, b3⟩
  have B3 := below_step B2 b3
  have o1' := own_weaken o1 B2.size
  clear o1 b3
  go_wp2_with fail
  (with_reducible refine (HT1.out _ (Kd.C_below HR1.out B3)).mono ?_)
  rintro e W4 ⟨g2, cap2, rfl, o2, b4⟩
  have B4 := below_step B3 b4
  have o3 := own_move o1' (fun k hk => b4.block k (own_lt o1' k hk))
  have o4 := own_weaken o2 B3.size
  have HH : Aside0 (OwnInts W4 w.heap.size (.slice (some ⟨g1, 0, none⟩) (tidyOf l0).length cap1) (tidyOf l0) ∧ OwnInts W4 w.heap.size (.slice (some ⟨g2, 0, none⟩) (tidyOf l1).length cap2) (tidyOf l1) ∧ Below w.heap.size w W4) := ⟨o3, o4, B4⟩
  clear o1' o2 o3 o4 b4 B2 B3 B4
  go_wp2_with fail
  go_ret
  obtain ⟨o3, o4, B4⟩ := HH.out
  have hB : Below W4.heap.size W4 ((W4.alloc (.cells #[.slice (some ⟨g1, 0, none⟩) (tidyOf l0).length cap1] 26)).alloc (.cells #[.slice (some ⟨g2, 0, none⟩) (tidyOf l1).length cap2] 26)) := below_alloc (below_alloc (Below.refl _ _) _) _
  refine ⟨W4.heap.size, W4.heap.size + 1, g1, cap1, g2, cap2, rfl, ⟨blk_alloc (blk_new _ _) _, ?_, own_move o3 (fun k hk => hB.block k (own_lt o3 k hk)), own_move o4 (fun k hk => hB.block k (own_lt o4 k hk))⟩, ⟨B4.size, by have := B4.size; omega⟩, below_step B4 hB⟩
  have := blk_new (W4.alloc (.cells #[.slice (some ⟨g1, 0, none⟩) (tidyOf l0).length cap1] 26)) (.cells #[.slice (some ⟨g2, 0, none⟩) (tidyOf l1).length cap2] 26)
  simpa using this

theorem resolvents_own (l0 l1 : List Int) (Bx By gx cx gy cy base n : Nat) (hn : 8 ≤ n) (w : World) (hT : Two (tidyOf l0) (tidyOf l1) Bx By gx cx gy cy base w) :
    SeqD Fence.wide n Try.prog 71 #[.pointer (some ⟨By, 0, none⟩), .pointer (some ⟨Bx, 0, none⟩)] (fun p : Int × Value × List Int => #[.int .i64 p.1, p.2.1]) HandI (fun k => k = Bx ∨ k = By ∨ k = gx ∨ k = gy)
      (fun ps => ps.map (fun p => (p.1, p.2.2)) = weave (tidyOf l0) (tidyOf l1)) (fun pre => pre.map (fun p => (p.1, p.2.2)) <+: weave (tidyOf l0) (tidyOf l1)) 4194304 w :=
  resolvents2_own n hn (tidyOf l0) (tidyOf l1) Bx By gx cx gy cy base (rising_tidyOf _) (rising_tidyOf _) (fun _ h => tidyOf_formed h) (fun _ h => tidyOf_formed h) (formed_count (tidyOf l0) (rising_tidyOf _) (fun _ h => tidyOf_formed h)) (formed_count (tidyOf l1) (rising_tidyOf _) (fun _ h => tidyOf_formed h)) w hT

/-- an iterator over nothing -/
theorem nothing_own (n : Nat) (w : World) (Rd : Nat → Prop) :
    SeqD Fence.wide n Try.prog 70 #[] (fun p : Int × Value × List Int => #[.int .i64 p.1, p.2.1]) HandI Rd (fun ps => ps.map (fun p => (p.1, p.2.2)) = []) (fun pre => False) 4194304 w := by
  intro l J Jx W hW hJ hJx hY h0
  refine callsIn_wide.2 ((callsIn_wide (n := 6)).1 ?_)
  refine callsIn_of_wp Try.func70 rfl trivial ?_ rfl
  simp only [Try.ntmps70, List.size_toArray, List.length_cons, List.length_nil, Nat.reduceAdd, Nat.reduceSub, Array.replicate_succ, Array.replicate_zero, List.push_toArray, List.append_toArray, List.nil_append, List.cons_append]
  have H := Aside0.mk h0
  clear h0 hY hJ hJx
  gi_wp2
  go_end0
  exact ⟨⟨_, rfl⟩, _, .inl ⟨[], rfl, H.out⟩⟩
end Go.Proofs.YtamefocngapkpaaHand
