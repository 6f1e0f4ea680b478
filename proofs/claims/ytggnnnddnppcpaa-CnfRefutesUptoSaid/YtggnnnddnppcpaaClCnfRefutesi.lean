/- What cnf.Entails answers of a formula that may be counted. -/
import Derived.Test.YtggnnnddnppcpaaClCnfRefutesh
import Derived.Test.YtggnnnddnppcpaaClCnfRefutesa
import Derived.Test.YtggnnnddnppcpaaClCnfRefutesb
/-! text YtggnnnddnppcpaaCnfEntailsGood -/
namespace Go.Proofs.YtggnnnddnppcpaaHand
open Go.RowKit Go.Shelf Go.Proofs.YtggnnnddnppcpaaW.PrintWords Go.Proofs.YtggnnnddnppcpaaW.PrintLast Go.Proofs.YtggnnnddnppcpaaMath Go.Proofs.YtggnnnddnppcpaaCells
set_option linter.unusedVariables false
set_option linter.unusedSimpArgs false
attribute [local go_sem] Oper.semAt_some

set_option maxHeartbeats 8000000 in
set_option maxRecDepth 100000 in
theorem entails_good (v1 : Int) (A1 A2 : Option Addr) (c1 c2 : Nat) (l1 : List (List Int)) (l2 : List Int) (w : World) (hr1 : Kd.C (Kd.slice 3 (Kd.int .i64)) w A1 l1.length l1) (hc1 : l1.length ≤ c1) (hr2 : Kd.C (Kd.int .i64) w A2 l2.length l2) (hc2 : l2.length ≤ c2)
    (hn : l1.length ≤ 5864062014805) (hs : ∀ c ∈ l1, c.length ≤ 17592186044416) (hn2 : l2.length ≤ 17592186044416) (hf1 : isFormula v1 l1 = true) (hf2 : within l2 v1 = true) (hv : v1 ≤ 16) :
    Calls Try.prog 44 #[.agg #[.int .i64 v1, .slice A1 l1.length c1], .slice A2 l2.length c2] w fun e w' => e = .returned (.tuple #[.bool ((modelsIn v1.toNat l1).all (holdsIn l2)), .int .i64 0]) ∧ Below w.heap.size w w' := by
  have HR1 := Aside0.mk hr1
  have HR2 := Aside0.mk hr2
  have F1 := fun W h => isFormula_calls v1 A1 c1 l1 W h hc1 (by omega) hs
  have F2 := fun W h => within_calls A2 c2 l2 v1 W h hc2 hn2
  rw [hf1] at F1
  rw [hf2] at F2
  have HF1 := Aside0.mk F1
  have HF2 := Aside0.mk F2
  have M := fun W h => models_good v1 A1 c1 l1 W h hc1 hn hs hf1 hv
  have HM := Aside0.mk M
  have hgt : decide (v1 > 16) = false := decide_eq_false (by omega)
  have hgt2 : decide (16 < v1) = false := hgt
  clear F1 F2 M
  refine (callsIn_wide (n := 6)).1 ?_
  refine callsIn_of_wp_marks Try.func44 rfl trivial ?_ rfl
  simp only [Try.ntmps44, List.size_toArray, List.length_cons, List.length_nil, Nat.reduceAdd, Nat.reduceSub, Array.replicate_succ, Array.replicate_zero, List.push_toArray, List.append_toArray, List.nil_append, List.cons_append]
  gi_wp2
  have T0 := ef w (.int .i64 v1) (.slice A1 l1.length c1) (.slice A2 l2.length c2) (.bool false) (.int .i64 0)
  generalize hW0 : ((((w.alloc (.cells #[.int .i64 v1, .slice A1 l1.length c1] 24 (0, 0))).alloc (.cells #[.slice A2 l2.length c2] 43 (0, 0))).alloc (.cells #[.bool false] 4 (0, 0))).alloc (.cells #[.int .i64 0] 28 (0, 0))) = W0 at T0 ⊢
  clear hW0
  refine ⟨trivial, ?_⟩
  (with_reducible refine (callsIn_wide.2 (HF1.out _ (Kd.C_below HR1.out T0.hB))).mono ?_)
  rintro e W1 ⟨rfl, hb⟩
  have T1 := T0.keep hb
  have f0 := (blk_cell T1.b0 0).trans rfl
  have f1 := (blk_cell T1.b0 1).trans rfl
  have g0 := (blk_cell T1.b1 0).trans rfl
  clear T0 hb
  gi_wp2
  refine ⟨trivial, ?_⟩
  (with_reducible refine (callsIn_wide.2 (HF2.out _ (Kd.C_below HR2.out T1.hB))).mono ?_)
  rintro e W2 ⟨rfl, hd⟩
  have T2 := T1.keep hd.below
  clear f0 f1 g0 T1 hd
  have f0 := (blk_cell T2.b0 0).trans rfl
  have f1 := (blk_cell T2.b0 1).trans rfl
  gi_wp2
  refine ⟨trivial, ?_⟩
  (with_reducible refine (callsIn_wide.2 (HM.out _ (Kd.C_below HR1.out T2.hB))).mono ?_)
  rintro e W3 ⟨Bg, A, cap, rfl, hsrc, hBg, hBg2, hb⟩
  have T3 := T2.keep hb
  clear f0 f1
  gi_wp2
  have hz2 : w.heap.size + 4 ≤ W2.heap.size := T2.hz
  have HV16 : Aside0 (v1.toNat ≤ 16) := ⟨by omega⟩
  have HV0 : Aside0 (((v1.toNat : Nat) : Int) = v1) := ⟨by have h := hf1; unfold isFormula at h; rw [Bool.and_eq_true, decide_eq_true_eq] at h; omega⟩
  refine wpIn_range_cells rfl (by decide) (gf := 72) (lb := #[.pointer (some ⟨Bg, 0, none⟩)]) rfl trivial (enters_of Try.func72 (by kernel_rfl) rfl)
    (models_stops _ (by decide) v1.toNat l1 Bg _ _ A cap (fun k => k = w.heap.size + 1 + 1 ∨ k = w.heap.size + 1 + 1 + 1) HV16.out (by rw [HV0.out]; exact hf1) (by omega) hs W3 hsrc (fun k hk e => by have e' : k = w.heap.size + 1 + 1 ∨ k = w.heap.size + 1 + 1 + 1 := e; have := hk.1; omega) (fun e => by have e' : Bg = w.heap.size + 1 + 1 ∨ Bg = w.heap.size + 1 + 1 + 1 := e; omega) (fun k e => by have e' : k = w.heap.size + 1 + 1 ∨ k = w.heap.size + 1 + 1 + 1 := e; have := T3.hz; omega))
    KeepC.trans (fun W l o o' _ h hc => KeepC.put W l o o' h hc) Handed.put (Below.refl _ _) (fun _ => rfl)
    (fun pre W => EF w (.int .i64 v1) (.slice A1 l1.length c1) (.slice A2 l2.length c2) (.bool false) (.int .i64 0) W ∧ ∀ x ∈ pre, holdsIn l2 x.2 = true)
    (fun c pre W => c = .ret ∧ EF w (.int .i64 v1) (.slice A1 l1.length c1) (.slice A2 l2.length c2) (.bool false) (.int .i64 0) W ∧ ∃ x ∈ pre, holdsIn l2 x.2 = false)
    (fun s A B row hs hg hr => ⟨hs.1.grown hg (fun k e => Nat.le_trans T3.hz (hr k e).1), hs.2⟩)
    (fun c s A B row hs hg hr => ⟨hs.1, hs.2.1.grown hg (fun k e => Nat.le_trans T3.hz (hr k e).1), hs.2.2⟩) ⟨T3, by simp⟩
    (fun x => { tmps := #[.agg #[.int .i64 v1, .slice A1 l1.length c1], .slice A2 l2.length c2, .pointer (some ⟨w.heap.size, 0, none⟩), .pointer (some ⟨w.heap.size + 1, 0, none⟩), .pointer (some ⟨w.heap.size + 1 + 1, 0, none⟩), .pointer (some ⟨w.heap.size + 1 + 1 + 1, 0, none⟩), x.1, .agg #[.int .i64 v1, .slice A1 l1.length c1], .bool true, .bool false, .bool false, .slice A2 l2.length c2, .pointer (some ⟨w.heap.size, 0, none⟩), .int .i64 v1, .bool true, .bool false, .bool false, .pointer (some ⟨w.heap.size, 0, none⟩), .int .i64 v1, .bool false, .agg #[.int .i64 v1, .slice A1 l1.length c1], .func (.func 72) #[] #[.pointer (some ⟨Bg, 0, none⟩)], x.1, undef, undef, undef, undef], defers := [] }) ?assign ?body ?done ?stop
  case assign =>
    intro l x W K hK
    gi_wp2
    first | exact hK | simpa using hK
  case body =>
    rintro l pre ⟨u, m⟩ W ⟨hE, hall⟩ ⟨hml, base, hR⟩ hlen
    replace hR : Kd.R Kd.bool 4 W base (fun _ => True) u m := hR
    replace hml : m.length = v1.toNat := hml
    obtain ⟨Am, cm, rfl⟩ := Kd.R_slice hR
    have g0 := (blk_cell hE.b1 0).trans rfl
    have q0 := (blk_cell hE.b2 0).trans rfl
    have q1 := (blk_cell hE.b3 0).trans rfl
    have y0 := blk_frozen hE.b2 0
    have y1 := blk_frozen hE.b3 0
    have H := holdsIn_calls A2 Am c2 cm l2 m v1 W (Kd.C_below HR2.out hE.hB) hc2 (Kd.R_reads' hR).2.2 (Kd.R_reads' hR).2.1 (by have := HV0.out; omega) hf2 hn2
    rw [hml] at H
    cases hh : holdsIn l2 m with
    | true =>
      rw [hh] at H
      gi_wp2
      refine ⟨trivial, ?_⟩
      (with_reducible refine (CallsIn.inRound l (callsIn_wide.2 H)).mono ?_)
      rintro e W5 ⟨rfl, ⟨nd, rfl⟩⟩
      gi_wp2
      refine ⟨KeepsFrom.of_grownBy (row := none) ⟨rfl, rfl, rfl, Nat.le_refl _, fun _ _ _ => rfl⟩ (by simp), ⟨Nat.le_refl _, fun _ _ _ _ h _ => h⟩, hE.keep (pw_below_drewN (Below.refl _ _) _), ?_⟩
      intro x hx
      rw [List.mem_append, List.mem_singleton] at hx
      rcases hx with hx | rfl
      · exact hall x hx
      · exact hh
    | false =>
      rw [hh] at H
      gi_wp2
      refine ⟨trivial, ?_⟩
      (with_reducible refine (CallsIn.inRound l (callsIn_wide.2 H)).mono ?_)
      rintro e W5 ⟨rfl, ⟨nd, rfl⟩⟩
      gi_wp2
      refine ⟨((KeepsFrom.of_grownBy (B := W3.heap.size) (row := none) (W := W) (W' := W.drewN nd) ⟨rfl, rfl, rfl, Nat.le_refl _, fun _ _ _ => rfl⟩ (by simp)).trans ((KeepsOthers.setCell _ _ _).from _)).trans ((KeepsOthers.setCell _ _ _).from _), rfl, (hE.keep (pw_below_drewN (Below.refl _ _) _)).set (.bool false) (.int .i64 0), _, List.mem_append.2 (.inr (List.mem_singleton.2 rfl)), hh⟩
  case done =>
    rintro D xs W hD hxs ⟨hE, hall⟩ hK
    have q0 := (blk_cell hE.b2 0).trans rfl
    have q1 := (blk_cell hE.b3 0).trans rfl
    have y0 := blk_frozen hE.b2 0
    have y1 := blk_frozen hE.b3 0
    gi_wp2
    have E2 := hE.set (.bool true) (.int .i64 0)
    have hK2 := ((KeepsOthers.setCell W ⟨w.heap.size + 1 + 1, 0, none⟩ (.bool true)).trans (KeepsOthers.setCell _ ⟨w.heap.size + 1 + 1 + 1, 0, none⟩ (.int .i64 0))).same D _ hK rfl
    generalize ((W.setCell ⟨w.heap.size + 1 + 1, 0, none⟩ (.bool true)).setCell ⟨w.heap.size + 1 + 1 + 1, 0, none⟩ (.int .i64 0)) = WF at E2 hK2 ⊢
    refine ⟨by simp, .inl ⟨_, _, rfl, run_takeDeferred hK2, ?_⟩⟩
    have E3 := E2.grown (grownBy_putObj' WF D (.deferred none)) (fun k e => by cases e; exact Nat.le_trans T3.hz hD)
    have r0 := (blk_cell E3.b2 0).trans rfl
    have r1 := (blk_cell E3.b3 0).trans rfl
    refine ⟨.tuple #[.bool true, .int .i64 0], by simp [results, Try.results44, go_sem, r0, r1], ?_, E3.hB⟩
    have : (modelsIn v1.toNat l1).all (holdsIn l2) = true := by
      rw [← hxs, List.all_eq_true]
      intro m hm
      obtain ⟨x, hx, rfl⟩ := List.mem_map.1 hm
      exact hall x hx
    rw [this]
  case stop =>
    rintro D c pre W hD hpre ⟨rfl, hE, x, hx, hh⟩ hK
    gi_wp2
    refine ⟨by simp, .inl ⟨_, _, rfl, run_takeDeferred hK, ?_⟩⟩
    have E3 := hE.grown (grownBy_putObj' W D (.deferred none)) (fun k e => by cases e; exact Nat.le_trans T3.hz hD)
    have r0 := (blk_cell E3.b2 0).trans rfl
    have r1 := (blk_cell E3.b3 0).trans rfl
    refine ⟨.tuple #[.bool false, .int .i64 0], by simp [results, Try.results44, go_sem, r0, r1], ?_, E3.hB⟩
    have : (modelsIn v1.toNat l1).all (holdsIn l2) = false := by
      cases ha : (modelsIn v1.toNat l1).all (holdsIn l2) with
      | false => rfl
      | true =>
        have := List.all_eq_true.1 ha x.2 (hpre.subset (List.mem_map.2 ⟨x, hx, rfl⟩))
        rw [hh] at this
        cases this
    rw [this]
end Go.Proofs.YtggnnnddnppcpaaHand
/-! text YtggnnnddnppcpaaCnfEntails -/
namespace Go.Proofs.YtggnnnddnppcpaaHand
open Go.RowKit Go.Shelf Go.Proofs.YtggnnnddnppcpaaW.PrintWords Go.Proofs.YtggnnnddnppcpaaW.PrintLast Go.Proofs.YtggnnnddnppcpaaMath Go.Proofs.YtggnnnddnppcpaaCells
set_option linter.unusedVariables false
set_option linter.unusedSimpArgs false

set_option maxHeartbeats 8000000 in
set_option maxRecDepth 100000 in
theorem entails_bad (v1 : Int) (A1 A2 : Option Addr) (c1 c2 : Nat) (l1 : List (List Int)) (l2 : List Int) (w : World) (hr1 : Kd.C (Kd.slice 3 (Kd.int .i64)) w A1 l1.length l1) (hc1 : l1.length ≤ c1) (hr2 : Kd.C (Kd.int .i64) w A2 l2.length l2) (hc2 : l2.length ≤ c2)
    (hn : l1.length ≤ 5864062014805) (hs : ∀ c ∈ l1, c.length ≤ 17592186044416) (hn2 : l2.length ≤ 17592186044416) (hbad : (isFormula v1 l1 && within l2 v1) = false) :
    Calls Try.prog 44 #[.agg #[.int .i64 v1, .slice A1 l1.length c1], .slice A2 l2.length c2] w fun e w' => e = .returned (.tuple #[.bool false, .int .i64 1]) ∧ Below w.heap.size w w' := by
  have HR1 := Aside0.mk hr1
  have HR2 := Aside0.mk hr2
  have F1 := fun W h => isFormula_calls v1 A1 c1 l1 W h hc1 (by omega) hs
  have F2 := fun W h => within_calls A2 c2 l2 v1 W h hc2 hn2
  cases hf1 : isFormula v1 l1 with
  | false =>
    rw [hf1] at F1
    have HF1 := Aside0.mk F1
    clear F1 F2 hr1 hr2 hc1 hc2 hn hs hn2 hf1 hbad
    go_enter Try.func44, Try.ntmps44
    go_wp2_with fail
    have T0 := ef w (.int .i64 v1) (.slice A1 l1.length c1) (.slice A2 l2.length c2) (.bool false) (.int .i64 0)
    generalize hW0 : ((((w.alloc (.cells #[.int .i64 v1, .slice A1 l1.length c1] 24 (0, 0))).alloc (.cells #[.slice A2 l2.length c2] 43 (0, 0))).alloc (.cells #[.bool false] 4 (0, 0))).alloc (.cells #[.int .i64 0] 28 (0, 0))) = W0 at T0 ⊢
    clear hW0
    (with_reducible refine (HF1.out _ (Kd.C_below HR1.out T0.hB)).mono ?_)
    rintro e W1 ⟨rfl, hb⟩
    have T1 := T0.keep hb
    have HT := Aside0.mk T1
    have q0 := (blk_cell T1.b2 0).trans rfl
    have q1 := (blk_cell T1.b3 0).trans rfl
    have y0 := blk_frozen T1.b2 0
    have y1 := blk_frozen T1.b3 0
    clear T0 hb T1
    go_wp2_with fail
    have E2 := HT.out.set (.bool false) (.int .i64 1)
    generalize ((W1.setCell ⟨w.heap.size + 1 + 1, 0, none⟩ (.bool false)).setCell ⟨w.heap.size + 1 + 1 + 1, 0, none⟩ (.int .i64 1)) = WF at E2 ⊢
    have r0 := (blk_cell E2.b2 0).trans rfl
    have r1 := (blk_cell E2.b3 0).trans rfl
    exact bodyPost_ret (v := .tuple #[.bool false, .int .i64 1]) (by simp [results, Try.results44, go_sem, r0, r1]) rfl ⟨rfl, E2.hB⟩
  | true =>
    rw [hf1, Bool.true_and] at hbad
    rw [hf1] at F1
    rw [hbad] at F2
    have HF1 := Aside0.mk F1
    have HF2 := Aside0.mk F2
    clear F1 F2 hr1 hr2 hc1 hc2 hn hs hn2 hf1 hbad
    go_enter Try.func44, Try.ntmps44
    go_wp2_with fail
    have T0 := ef w (.int .i64 v1) (.slice A1 l1.length c1) (.slice A2 l2.length c2) (.bool false) (.int .i64 0)
    generalize hW0 : ((((w.alloc (.cells #[.int .i64 v1, .slice A1 l1.length c1] 24 (0, 0))).alloc (.cells #[.slice A2 l2.length c2] 43 (0, 0))).alloc (.cells #[.bool false] 4 (0, 0))).alloc (.cells #[.int .i64 0] 28 (0, 0))) = W0 at T0 ⊢
    clear hW0
    (with_reducible refine (HF1.out _ (Kd.C_below HR1.out T0.hB)).mono ?_)
    rintro e W1 ⟨rfl, hb⟩
    have T1 := T0.keep hb
    have f0 := (blk_cell T1.b0 0).trans rfl
    have g0 := (blk_cell T1.b1 0).trans rfl
    clear T0 hb
    go_wp2_with fail
    (with_reducible refine (HF2.out _ (Kd.C_below HR2.out T1.hB)).mono ?_)
    rintro e W2 ⟨rfl, hd⟩
    have T2 := T1.keep hd.below
    have HT := Aside0.mk T2
    have q0 := (blk_cell T2.b2 0).trans rfl
    have q1 := (blk_cell T2.b3 0).trans rfl
    have y0 := blk_frozen T2.b2 0
    have y1 := blk_frozen T2.b3 0
    clear T1 hd T2 f0 g0
    go_wp2_with fail
    have E2 := HT.out.set (.bool false) (.int .i64 1)
    generalize ((W2.setCell ⟨w.heap.size + 1 + 1, 0, none⟩ (.bool false)).setCell ⟨w.heap.size + 1 + 1 + 1, 0, none⟩ (.int .i64 1)) = WF at E2 ⊢
    have r0 := (blk_cell E2.b2 0).trans rfl
    have r1 := (blk_cell E2.b3 0).trans rfl
    exact bodyPost_ret (v := .tuple #[.bool false, .int .i64 1]) (by simp [results, Try.results44, go_sem, r0, r1]) rfl ⟨rfl, E2.hB⟩

set_option maxHeartbeats 8000000 in
set_option maxRecDepth 100000 in
theorem entails_room (v1 : Int) (A1 A2 : Option Addr) (c1 c2 : Nat) (l1 : List (List Int)) (l2 : List Int) (w : World) (hr1 : Kd.C (Kd.slice 3 (Kd.int .i64)) w A1 l1.length l1) (hc1 : l1.length ≤ c1) (hr2 : Kd.C (Kd.int .i64) w A2 l2.length l2) (hc2 : l2.length ≤ c2)
    (hn : l1.length ≤ 5864062014805) (hs : ∀ c ∈ l1, c.length ≤ 17592186044416) (hn2 : l2.length ≤ 17592186044416) (hf1 : isFormula v1 l1 = true) (hf2 : within l2 v1 = true) (hv : 16 < v1) :
    Calls Try.prog 44 #[.agg #[.int .i64 v1, .slice A1 l1.length c1], .slice A2 l2.length c2] w fun e w' => e = .returned (.tuple #[.bool false, .int .i64 4]) ∧ Below w.heap.size w w' := by
  have HR1 := Aside0.mk hr1
  have HR2 := Aside0.mk hr2
  have F1 := fun W h => isFormula_calls v1 A1 c1 l1 W h hc1 (by omega) hs
  have F2 := fun W h => within_calls A2 c2 l2 v1 W h hc2 hn2
  rw [hf1] at F1
  rw [hf2] at F2
  have HF1 := Aside0.mk F1
  have HF2 := Aside0.mk F2
  have hgt : decide (v1 > 16) = true := decide_eq_true hv
  have hgt2 : decide (16 < v1) = true := hgt
  clear F1 F2 hr1 hr2 hc1 hc2 hn hs hn2 hf1 hf2
  go_enter Try.func44, Try.ntmps44
  go_wp2_with fail
  have T0 := ef w (.int .i64 v1) (.slice A1 l1.length c1) (.slice A2 l2.length c2) (.bool false) (.int .i64 0)
  generalize hW0 : ((((w.alloc (.cells #[.int .i64 v1, .slice A1 l1.length c1] 24 (0, 0))).alloc (.cells #[.slice A2 l2.length c2] 43 (0, 0))).alloc (.cells #[.bool false] 4 (0, 0))).alloc (.cells #[.int .i64 0] 28 (0, 0))) = W0 at T0 ⊢
  clear hW0
  (with_reducible refine (HF1.out _ (Kd.C_below HR1.out T0.hB)).mono ?_)
  rintro e W1 ⟨rfl, hb⟩
  have T1 := T0.keep hb
  have f0 := (blk_cell T1.b0 0).trans rfl
  have g0 := (blk_cell T1.b1 0).trans rfl
  clear T0 hb
  go_wp2_with fail
  (with_reducible refine (HF2.out _ (Kd.C_below HR2.out T1.hB)).mono ?_)
  rintro e W2 ⟨rfl, hd⟩
  have T2 := T1.keep hd.below
  have HT := Aside0.mk T2
  have f0 := (blk_cell T2.b0 0).trans rfl
  have q0 := (blk_cell T2.b2 0).trans rfl
  have q1 := (blk_cell T2.b3 0).trans rfl
  have y0 := blk_frozen T2.b2 0
  have y1 := blk_frozen T2.b3 0
  clear T1 hd T2 g0
  go_wp2_with fail
  have E2 := HT.out.set (.bool false) (.int .i64 4)
  generalize ((W2.setCell ⟨w.heap.size + 1 + 1, 0, none⟩ (.bool false)).setCell ⟨w.heap.size + 1 + 1 + 1, 0, none⟩ (.int .i64 4)) = WF at E2 ⊢
  have r0 := (blk_cell E2.b2 0).trans rfl
  have r1 := (blk_cell E2.b3 0).trans rfl
  exact bodyPost_ret (v := .tuple #[.bool false, .int .i64 4]) (by simp [results, Try.results44, go_sem, r0, r1]) rfl ⟨rfl, E2.hB⟩

theorem entails_calls (v1 : Int) (A1 A2 : Option Addr) (c1 c2 : Nat) (l1 : List (List Int)) (l2 : List Int) (w : World) (hr1 : Kd.C (Kd.slice 3 (Kd.int .i64)) w A1 l1.length l1) (hc1 : l1.length ≤ c1) (hr2 : Kd.C (Kd.int .i64) w A2 l2.length l2) (hc2 : l2.length ≤ c2)
    (hn : l1.length ≤ 5864062014805) (hs : ∀ c ∈ l1, c.length ≤ 17592186044416) (hn2 : l2.length ≤ 17592186044416) :
    Calls Try.prog 44 #[.agg #[.int .i64 v1, .slice A1 l1.length c1], .slice A2 l2.length c2] w fun e w' => e = .returned (.tuple #[.bool (entailsOf v1 l1 l2).1, .int .i64 (entailsOf v1 l1 l2).2]) ∧ Below w.heap.size w w' := by
  unfold entailsOf
  by_cases hf : (isFormula v1 l1 && within l2 v1) = true
  · rw [if_pos hf]
    rw [Bool.and_eq_true] at hf
    by_cases hv : 16 < v1
    · rw [if_pos hv]
      exact entails_room v1 A1 A2 c1 c2 l1 l2 w hr1 hc1 hr2 hc2 hn hs hn2 hf.1 hf.2 hv
    · rw [if_neg hv]
      exact entails_good v1 A1 A2 c1 c2 l1 l2 w hr1 hc1 hr2 hc2 hn hs hn2 hf.1 hf.2 (by omega)
  · rw [if_neg hf]
    exact entails_bad v1 A1 A2 c1 c2 l1 l2 w hr1 hc1 hr2 hc2 hn hs hn2 (by simpa using hf)
end Go.Proofs.YtggnnnddnppcpaaHand
/-! text YtggnnnddnppcpaaGCnfRefutesx2 -/
namespace Go.Proofs.Ytggnnnddnppcpaa.PCnfRefutes
open Go.RowKit Go.Proofs.YtggnnnddnppcpaaW.PrintWords Go.Proofs.YtggnnnddnppcpaaW.PrintLast Go.Proofs.YtggnnnddnppcpaaW.PrintMore
attribute [local go_sem] max2_int min2_int max_two min_two max_three min_three max_four min_four   -- for this text's walks alone
set_option linter.unusedVariables false
set_option linter.unusedSimpArgs false

end Go.Proofs.Ytggnnnddnppcpaa.PCnfRefutes
/-! text YtggnnnddnppcpaaGCnfRefutesx3 -/
namespace Go.Proofs.Ytggnnnddnppcpaa.PCnfRefutes
open Go.RowKit Go.Proofs.YtggnnnddnppcpaaW.PrintWords Go.Proofs.YtggnnnddnppcpaaW.PrintLast Go.Proofs.YtggnnnddnppcpaaW.PrintMore
attribute [local go_sem] max2_int min2_int max_two min_two max_three min_three max_four min_four   -- for this text's walks alone
set_option linter.unusedVariables false
set_option linter.unusedSimpArgs false

/-! ### cnf_Count: function 40 -/
def cnf_Count.f (k : Nat) (a0_0 : Int) (l0_1 : List (List Int)) : Option (Int × Int) := if l0_1.length ≤ 5864062014805 ∧ ∀ c ∈ l0_1, c.length ≤ 17592186044416 then some (Go.Proofs.YtggnnnddnppcpaaMath.countOf a0_0 l0_1) else none
theorem cnf_Count.mono : ∀ a0 a1 k, LeO (cnf_Count.f k a0 a1) (cnf_Count.f (k + 1) a0 a1) := fun _ _ _ => LeO.refl _
theorem cnf_Count.calls (k : Nat) (a0_0 : Int) (A0_1 : Option Addr) (c0_1 : Nat) (l0_1 : List (List Int)) (r1 : Int) (r2 : Int) (w : World) (hr0_1 : Kd.C (Kd.slice 3 (Kd.int .i64)) w A0_1 l0_1.length l0_1) (hc0_1 : l0_1.length ≤ c0_1) (h : cnf_Count.f k a0_0 l0_1 = some (r1, r2)) :
    Calls Try.prog 40 #[.agg #[.int .i64 a0_0, .slice A0_1 l0_1.length c0_1]] w fun e w' => e = .returned (.tuple #[.int .i64 r1, .int .i64 r2]) ∧ Below w.heap.size w w' := by
  unfold cnf_Count.f at h
  by_cases hn : l0_1.length ≤ 5864062014805 ∧ ∀ c ∈ l0_1, c.length ≤ 17592186044416
  · rw [if_pos hn] at h
    have h2 := Go.Proofs.YtggnnnddnppcpaaHand.count_calls a0_0 A0_1 c0_1 l0_1 w hr0_1 hc0_1 hn.1 hn.2
    rw [Option.some.inj h] at h2
    exact h2
  · rw [if_neg hn] at h; exact absurd h (by simp)
/-! ### cnf_Entails: function 44 -/
def cnf_Entails.f (k : Nat) (a0_0 : Int) (l0_1 : List (List Int)) (l1 : List Int) : Option (Bool × Int) := if l0_1.length ≤ 5864062014805 ∧ l1.length ≤ 17592186044416 ∧ ∀ c ∈ l0_1, c.length ≤ 17592186044416 then some (Go.Proofs.YtggnnnddnppcpaaMath.entailsOf a0_0 l0_1 l1) else none
theorem cnf_Entails.mono : ∀ a0 a1 a2 k, LeO (cnf_Entails.f k a0 a1 a2) (cnf_Entails.f (k + 1) a0 a1 a2) := fun _ _ _ _ => LeO.refl _
theorem cnf_Entails.calls (k : Nat) (a0_0 : Int) (A0_1 : Option Addr) (c0_1 : Nat) (l0_1 : List (List Int)) (A1 : Option Addr) (c1 : Nat) (l1 : List Int) (r1 : Bool) (r2 : Int) (w : World) (hr0_1 : Kd.C (Kd.slice 3 (Kd.int .i64)) w A0_1 l0_1.length l0_1) (hc0_1 : l0_1.length ≤ c0_1) (hr1 : Kd.C (Kd.int .i64) w A1 l1.length l1) (hc1 : l1.length ≤ c1) (h : cnf_Entails.f k a0_0 l0_1 l1 = some (r1, r2)) :
    Calls Try.prog 44 #[.agg #[.int .i64 a0_0, .slice A0_1 l0_1.length c0_1], .slice A1 l1.length c1] w fun e w' => e = .returned (.tuple #[.bool r1, .int .i64 r2]) ∧ Below w.heap.size w w' := by
  unfold cnf_Entails.f at h
  by_cases hn : l0_1.length ≤ 5864062014805 ∧ l1.length ≤ 17592186044416 ∧ ∀ c ∈ l0_1, c.length ≤ 17592186044416
  · rw [if_pos hn] at h
    have h2 := Go.Proofs.YtggnnnddnppcpaaHand.entails_calls a0_0 A0_1 A1 c0_1 c1 l0_1 l1 w hr0_1 hc0_1 hr1 hc1 hn.1 hn.2.2 hn.2.1
    rw [Option.some.inj h] at h2
    exact h2
  · rw [if_neg hn] at h; exact absurd h (by simp)
end Go.Proofs.Ytggnnnddnppcpaa.PCnfRefutes
