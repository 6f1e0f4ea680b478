/- What cnf.Entails answers of a formula that may be counted. -/
import Derived.Test.YtggnnnddnppcpaaClCnfKeepsModelsr
import Derived.Test.YtggnnnddnppcpaaClCnfKeepsModelsg
import Derived.Test.YtggnnnddnppcpaaClCnfKeepsModelsf
import Derived.Test.YtggnnnddnppcpaaClCnfKeepsModelsc
import Derived.StillTailTactics
import Derived.Test.YtggnnnddnppcpaaClCnfKeepsModelsb
/-! text YtggnnnddnppcpaaCnfEntailsGood -/
namespace Go.Proofs.YtggnnnddnppcpaaHand
open Go.RowKit Go.Shelf Go.Proofs.YtggnnnddnppcpaaW.PrintWords Go.Proofs.YtggnnnddnppcpaaW.PrintLast Go.Proofs.YtggnnnddnppcpaaMath Go.Proofs.YtggnnnddnppcpaaCells
set_option linter.unusedVariables false
set_option linter.unusedSimpArgs false
attribute [local go_sem] Oper.semAt_some

set_option maxHeartbeats 8000000 in
set_option maxRecDepth 100000 in
theorem entails_good (v1 : Int) (A1 A2 : Option Addr) (c1 c2 : Nat) (l1 : List (List Int)) (l2 : List Int) (w : World) (hr1 : Kd.C (Kd.slice 3 (Kd.int .i64)) w A1 l1.length l1) (hc1 : l1.length ≤ c1) (hr2 : Kd.C (Kd.int .i64) w A2 l2.length l2) (hc2 : l2.length ≤ c2)
    (hn : l1.length ≤ 5864062014805) (hs : ∀ c ∈ l1, c.length ≤ 17592186044416) (hn2 : l2.length ≤ 17592186044416) (hf1 : isFormula v1 l1 = true) (hf2 : within l2 v1 = true) (hv : v1 ≤ 16) :
    Calls Try.prog 44 #[.agg #[.int .i64 v1, .slice A1 l1.length c1], .slice A2 l2.length c2] w fun e w' => e = .returned (.tuple #[.bool ((modelsIn v1.toNat l1).all (holdsIn l2)), .int .i64 0]) ∧ Below w.heap.size w w' := by
  have HR1 := Aside0.mk hr1
  have HR2 := Aside0.mk hr2
  have F1 := fun W h => isFormula_calls v1 A1 c1 l1 W h hc1 (by omega) hs
  have F2 := fun W h => within_calls A2 c2 l2 v1 W h hc2 hn2
  rw [hf1] at F1
  rw [hf2] at F2
  have HF1 := Aside0.mk F1
  have HF2 := Aside0.mk F2
  have M := fun W h => models_good v1 A1 c1 l1 W h hc1 hn hs hf1 hv
  have HM := Aside0.mk M
  have hgt : decide (v1 > 16) = false := decide_eq_false (by omega)
  have hgt2 : decide (16 < v1) = false := hgt
  clear F1 F2 M
  refine (callsIn_wide (n := 6)).1 ?_
  refine callsIn_of_wp_marks Try.func44 rfl trivial ?_ rfl
  simp only [Try.ntmps44, List.size_toArray, List.length_cons, List.length_nil, Nat.reduceAdd, Nat.reduceSub, Array.replicate_succ, Array.replicate_zero, List.push_toArray, List.append_toArray, List.nil_append, List.cons_append]
  gi_wp2
  have T0 := ef w (.int .i64 v1) (.slice A1 l1.length c1) (.slice A2 l2.length c2) (.bool false) (.int .i64 0)
  generalize hW0 : ((((w.alloc (.cells #[.int .i64 v1, .slice A1 l1.length c1] 24 (0, 0))).alloc (.cells #[.slice A2 l2.length c2] 43 (0, 0))).alloc (.cells #[.bool false] 4 (0, 0))).alloc (.cells #[.int .i64 0] 28 (0, 0))) = W0 at T0 ⊢
  clear hW0
  refine ⟨trivial, ?_⟩
  (with_reducible refine (callsIn_wide.2 (HF1.out _ (Kd.C_below HR1.out T0.hB))).mono ?_)
  rintro e W1 ⟨rfl, hb⟩
  have T1 := T0.keep hb
  have f0 := (blk_cell T1.b0 0).trans rfl
  have f1 := (blk_cell T1.b0 1).trans rfl
  have g0 := (blk_cell T1.b1 0).trans rfl
  clear T0 hb
  gi_wp2
  refine ⟨trivial, ?_⟩
  (with_reducible refine (callsIn_wide.2 (HF2.out _ (Kd.C_below HR2.out T1.hB))).mono ?_)
  rintro e W2 ⟨rfl, hd⟩
  have T2 := T1.keep hd.below
  clear f0 f1 g0 T1 hd
  have f0 := (blk_cell T2.b0 0).trans rfl
  have f1 := (blk_cell T2.b0 1).trans rfl
  gi_wp2
  refine ⟨trivial, ?_⟩
  (with_reducible refine (callsIn_wide.2 (HM.out _ (Kd.C_below HR1.out T2.hB))).mono ?_)
  rintro e W3 ⟨Bg, A, cap, rfl, hsrc, hBg, hBg2, hb⟩
  have T3 := T2.keep hb
  clear f0 f1
  gi_wp2
  have hz2 : w.heap.size + 4 ≤ W2.heap.size := T2.hz
  have HV16 : Aside0 (v1.toNat ≤ 16) := ⟨by omega⟩
  have HV0 : Aside0 (((v1.toNat : Nat) : Int) = v1) := ⟨by have h := hf1; unfold isFormula at h; rw [Bool.and_eq_true, decide_eq_true_eq] at h; omega⟩
  refine wpIn_range_cells rfl (by decide) (gf := 72) (lb := #[.pointer (some ⟨Bg, 0, none⟩)]) rfl trivial (enters_of Try.func72 (by kernel_rfl) rfl)
    (models_stops _ (by decide) v1.toNat l1 Bg _ _ A cap (fun k => k = w.heap.size + 1 + 1 ∨ k = w.heap.size + 1 + 1 + 1) HV16.out (by rw [HV0.out]; exact hf1) (by omega) hs W3 hsrc (fun k hk e => by have e' : k = w.heap.size + 1 + 1 ∨ k = w.heap.size + 1 + 1 + 1 := e; have := hk.1; omega) (fun e => by have e' : Bg = w.heap.size + 1 + 1 ∨ Bg = w.heap.size + 1 + 1 + 1 := e; omega) (fun k e => by have e' : k = w.heap.size + 1 + 1 ∨ k = w.heap.size + 1 + 1 + 1 := e; have := T3.hz; omega))
    KeepC.trans (fun W l o o' _ h hc => KeepC.put W l o o' h hc) Handed.put (Below.refl _ _) (fun _ => rfl)
    (fun pre W => EF w (.int .i64 v1) (.slice A1 l1.length c1) (.slice A2 l2.length c2) (.bool false) (.int .i64 0) W ∧ ∀ x ∈ pre, holdsIn l2 x.2 = true)
    (fun c pre W => c = .ret ∧ EF w (.int .i64 v1) (.slice A1 l1.length c1) (.slice A2 l2.length c2) (.bool false) (.int .i64 0) W ∧ ∃ x ∈ pre, holdsIn l2 x.2 = false)
    (fun s A B row hs hg hr => ⟨hs.1.grown hg (fun k e => Nat.le_trans T3.hz (hr k e).1), hs.2⟩)
    (fun c s A B row hs hg hr => ⟨hs.1, hs.2.1.grown hg (fun k e => Nat.le_trans T3.hz (hr k e).1), hs.2.2⟩) ⟨T3, by simp⟩
    (fun x => { tmps := #[.agg #[.int .i64 v1, .slice A1 l1.length c1], .slice A2 l2.length c2, .pointer (some ⟨w.heap.size, 0, none⟩), .pointer (some ⟨w.heap.size + 1, 0, none⟩), .pointer (some ⟨w.heap.size + 1 + 1, 0, none⟩), .pointer (some ⟨w.heap.size + 1 + 1 + 1, 0, none⟩), x.1, .agg #[.int .i64 v1, .slice A1 l1.length c1], .bool true, .bool false, .bool false, .slice A2 l2.length c2, .pointer (some ⟨w.heap.size, 0, none⟩), .int .i64 v1, .bool true, .bool false, .bool false, .pointer (some ⟨w.heap.size, 0, none⟩), .int .i64 v1, .bool false, .agg #[.int .i64 v1, .slice A1 l1.length c1], .func (.func 72) #[] #[.pointer (some ⟨Bg, 0, none⟩)], x.1, undef, undef, undef, undef], defers := [] }) ?assign ?body ?done ?stop
  case assign =>
    intro l x W K hK
    gi_wp2
    first | exact hK | simpa using hK
  case body =>
    rintro l pre ⟨u, m⟩ W ⟨hE, hall⟩ ⟨hml, base, hR⟩ hlen
    replace hR : Kd.R Kd.bool 4 W base (fun _ => True) u m := hR
    replace hml : m.length = v1.toNat := hml
    obtain ⟨Am, cm, rfl⟩ := Kd.R_slice hR
    have g0 := (blk_cell hE.b1 0).trans rfl
    have q0 := (blk_cell hE.b2 0).trans rfl
    have q1 := (blk_cell hE.b3 0).trans rfl
    have y0 := blk_frozen hE.b2 0
    have y1 := blk_frozen hE.b3 0
    have H := holdsIn_calls A2 Am c2 cm l2 m v1 W (Kd.C_below HR2.out hE.hB) hc2 (Kd.R_reads' hR).2.2 (Kd.R_reads' hR).2.1 (by have := HV0.out; omega) hf2 hn2
    rw [hml] at H
    cases hh : holdsIn l2 m with
    | true =>
      rw [hh] at H
      gi_wp2
      refine ⟨trivial, ?_⟩
      (with_reducible refine (CallsIn.inRound l (callsIn_wide.2 H)).mono ?_)
      rintro e W5 ⟨rfl, ⟨nd, rfl⟩⟩
      gi_wp2
      refine ⟨KeepsFrom.of_grownBy (row := none) ⟨rfl, rfl, rfl, Nat.le_refl _, fun _ _ _ => rfl⟩ (by simp), ⟨Nat.le_refl _, fun _ _ _ _ h _ => h⟩, hE.keep (pw_below_drewN (Below.refl _ _) _), ?_⟩
      intro x hx
      rw [List.mem_append, List.mem_singleton] at hx
      rcases hx with hx | rfl
      · exact hall x hx
      · exact hh
    | false =>
      rw [hh] at H
      gi_wp2
      refine ⟨trivial, ?_⟩
      (with_reducible refine (CallsIn.inRound l (callsIn_wide.2 H)).mono ?_)
      rintro e W5 ⟨rfl, ⟨nd, rfl⟩⟩
      gi_wp2
      refine ⟨((KeepsFrom.of_grownBy (B := W3.heap.size) (row := none) (W := W) (W' := W.drewN nd) ⟨rfl, rfl, rfl, Nat.le_refl _, fun _ _ _ => rfl⟩ (by simp)).trans ((KeepsOthers.setCell _ _ _).from _)).trans ((KeepsOthers.setCell _ _ _).from _), rfl, (hE.keep (pw_below_drewN (Below.refl _ _) _)).set (.bool false) (.int .i64 0), _, List.mem_append.2 (.inr (List.mem_singleton.2 rfl)), hh⟩
  case done =>
    rintro D xs W hD hxs ⟨hE, hall⟩ hK
    have q0 := (blk_cell hE.b2 0).trans rfl
    have q1 := (blk_cell hE.b3 0).trans rfl
    have y0 := blk_frozen hE.b2 0
    have y1 := blk_frozen hE.b3 0
    gi_wp2
    have E2 := hE.set (.bool true) (.int .i64 0)
    have hK2 := ((KeepsOthers.setCell W ⟨w.heap.size + 1 + 1, 0, none⟩ (.bool true)).trans (KeepsOthers.setCell _ ⟨w.heap.size + 1 + 1 + 1, 0, none⟩ (.int .i64 0))).same D _ hK rfl
    generalize ((W.setCell ⟨w.heap.size + 1 + 1, 0, none⟩ (.bool true)).setCell ⟨w.heap.size + 1 + 1 + 1, 0, none⟩ (.int .i64 0)) = WF at E2 hK2 ⊢
    refine ⟨by simp, .inl ⟨_, _, rfl, run_takeDeferred hK2, ?_⟩⟩
    have E3 := E2.grown (grownBy_putObj' WF D (.deferred none)) (fun k e => by cases e; exact Nat.le_trans T3.hz hD)
    have r0 := (blk_cell E3.b2 0).trans rfl
    have r1 := (blk_cell E3.b3 0).trans rfl
    refine ⟨.tuple #[.bool true, .int .i64 0], by simp [results, Try.results44, go_sem, r0, r1], ?_, E3.hB⟩
    have : (modelsIn v1.toNat l1).all (holdsIn l2) = true := by
      rw [← hxs, List.all_eq_true]
      intro m hm
      obtain ⟨x, hx, rfl⟩ := List.mem_map.1 hm
      exact hall x hx
    rw [this]
  case stop =>
    rintro D c pre W hD hpre ⟨rfl, hE, x, hx, hh⟩ hK
    gi_wp2
    refine ⟨by simp, .inl ⟨_, _, rfl, run_takeDeferred hK, ?_⟩⟩
    have E3 := hE.grown (grownBy_putObj' W D (.deferred none)) (fun k e => by cases e; exact Nat.le_trans T3.hz hD)
    have r0 := (blk_cell E3.b2 0).trans rfl
    have r1 := (blk_cell E3.b3 0).trans rfl
    refine ⟨.tuple #[.bool false, .int .i64 0], by simp [results, Try.results44, go_sem, r0, r1], ?_, E3.hB⟩
    have : (modelsIn v1.toNat l1).all (holdsIn l2) = false := by
      cases ha : (modelsIn v1.toNat l1).all (holdsIn l2) with
      | false => rfl
      | true =>
        have := List.all_eq_true.1 ha x.2 (hpre.subset (List.mem_map.2 ⟨x, hx, rfl⟩))
        rw [hh] at this
        cases this
    rw [this]
end Go.Proofs.YtggnnnddnppcpaaHand
/-! text YtggnnnddnppcpaaCnfEntails -/
namespace Go.Proofs.YtggnnnddnppcpaaHand
open Go.RowKit Go.Shelf Go.Proofs.YtggnnnddnppcpaaW.PrintWords Go.Proofs.YtggnnnddnppcpaaW.PrintLast Go.Proofs.YtggnnnddnppcpaaMath Go.Proofs.YtggnnnddnppcpaaCells
set_option linter.unusedVariables false
set_option linter.unusedSimpArgs false

set_option maxHeartbeats 8000000 in
set_option maxRecDepth 100000 in
theorem entails_bad (v1 : Int) (A1 A2 : Option Addr) (c1 c2 : Nat) (l1 : List (List Int)) (l2 : List Int) (w : World) (hr1 : Kd.C (Kd.slice 3 (Kd.int .i64)) w A1 l1.length l1) (hc1 : l1.length ≤ c1) (hr2 : Kd.C (Kd.int .i64) w A2 l2.length l2) (hc2 : l2.length ≤ c2)
    (hn : l1.length ≤ 5864062014805) (hs : ∀ c ∈ l1, c.length ≤ 17592186044416) (hn2 : l2.length ≤ 17592186044416) (hbad : (isFormula v1 l1 && within l2 v1) = false) :
    Calls Try.prog 44 #[.agg #[.int .i64 v1, .slice A1 l1.length c1], .slice A2 l2.length c2] w fun e w' => e = .returned (.tuple #[.bool false, .int .i64 1]) ∧ Below w.heap.size w w' := by
  have HR1 := Aside0.mk hr1
  have HR2 := Aside0.mk hr2
  have F1 := fun W h => isFormula_calls v1 A1 c1 l1 W h hc1 (by omega) hs
  have F2 := fun W h => within_calls A2 c2 l2 v1 W h hc2 hn2
  cases hf1 : isFormula v1 l1 with
  | false =>
    rw [hf1] at F1
    have HF1 := Aside0.mk F1
    clear F1 F2 hr1 hr2 hc1 hc2 hn hs hn2 hf1 hbad
    go_enter Try.func44, Try.ntmps44
    go_wp2_with fail
    have T0 := ef w (.int .i64 v1) (.slice A1 l1.length c1) (.slice A2 l2.length c2) (.bool false) (.int .i64 0)
    generalize hW0 : ((((w.alloc (.cells #[.int .i64 v1, .slice A1 l1.length c1] 24 (0, 0))).alloc (.cells #[.slice A2 l2.length c2] 43 (0, 0))).alloc (.cells #[.bool false] 4 (0, 0))).alloc (.cells #[.int .i64 0] 28 (0, 0))) = W0 at T0 ⊢
    clear hW0
    (with_reducible refine (HF1.out _ (Kd.C_below HR1.out T0.hB)).mono ?_)
    rintro e W1 ⟨rfl, hb⟩
    have T1 := T0.keep hb
    have HT := Aside0.mk T1
    have q0 := (blk_cell T1.b2 0).trans rfl
    have q1 := (blk_cell T1.b3 0).trans rfl
    have y0 := blk_frozen T1.b2 0
    have y1 := blk_frozen T1.b3 0
    clear T0 hb T1
    go_wp2_with fail
    have E2 := HT.out.set (.bool false) (.int .i64 1)
    generalize ((W1.setCell ⟨w.heap.size + 1 + 1, 0, none⟩ (.bool false)).setCell ⟨w.heap.size + 1 + 1 + 1, 0, none⟩ (.int .i64 1)) = WF at E2 ⊢
    have r0 := (blk_cell E2.b2 0).trans rfl
    have r1 := (blk_cell E2.b3 0).trans rfl
    exact bodyPost_ret (v := .tuple #[.bool false, .int .i64 1]) (by simp [results, Try.results44, go_sem, r0, r1]) rfl ⟨rfl, E2.hB⟩
  | true =>
    rw [hf1, Bool.true_and] at hbad
    rw [hf1] at F1
    rw [hbad] at F2
    have HF1 := Aside0.mk F1
    have HF2 := Aside0.mk F2
    clear F1 F2 hr1 hr2 hc1 hc2 hn hs hn2 hf1 hbad
    go_enter Try.func44, Try.ntmps44
    go_wp2_with fail
    have T0 := ef w (.int .i64 v1) (.slice A1 l1.length c1) (.slice A2 l2.length c2) (.bool false) (.int .i64 0)
    generalize hW0 : ((((w.alloc (.cells #[.int .i64 v1, .slice A1 l1.length c1] 24 (0, 0))).alloc (.cells #[.slice A2 l2.length c2] 43 (0, 0))).alloc (.cells #[.bool false] 4 (0, 0))).alloc (.cells #[.int .i64 0] 28 (0, 0))) = W0 at T0 ⊢
    clear hW0
    (with_reducible refine (HF1.out _ (Kd.C_below HR1.out T0.hB)).mono ?_)
    rintro e W1 ⟨rfl, hb⟩
    have T1 := T0.keep hb
    have f0 := (blk_cell T1.b0 0).trans rfl
    have g0 := (blk_cell T1.b1 0).trans rfl
    clear T0 hb
    go_wp2_with fail
    (with_reducible refine (HF2.out _ (Kd.C_below HR2.out T1.hB)).mono ?_)
    rintro e W2 ⟨rfl, hd⟩
    have T2 := T1.keep hd.below
    have HT := Aside0.mk T2
    have q0 := (blk_cell T2.b2 0).trans rfl
    have q1 := (blk_cell T2.b3 0).trans rfl
    have y0 := blk_frozen T2.b2 0
    have y1 := blk_frozen T2.b3 0
    clear T1 hd T2 f0 g0
    go_wp2_with fail
    have E2 := HT.out.set (.bool false) (.int .i64 1)
    generalize ((W2.setCell ⟨w.heap.size + 1 + 1, 0, none⟩ (.bool false)).setCell ⟨w.heap.size + 1 + 1 + 1, 0, none⟩ (.int .i64 1)) = WF at E2 ⊢
    have r0 := (blk_cell E2.b2 0).trans rfl
    have r1 := (blk_cell E2.b3 0).trans rfl
    exact bodyPost_ret (v := .tuple #[.bool false, .int .i64 1]) (by simp [results, Try.results44, go_sem, r0, r1]) rfl ⟨rfl, E2.hB⟩

set_option maxHeartbeats 8000000 in
set_option maxRecDepth 100000 in
theorem entails_room (v1 : Int) (A1 A2 : Option Addr) (c1 c2 : Nat) (l1 : List (List Int)) (l2 : List Int) (w : World) (hr1 : Kd.C (Kd.slice 3 (Kd.int .i64)) w A1 l1.length l1) (hc1 : l1.length ≤ c1) (hr2 : Kd.C (Kd.int .i64) w A2 l2.length l2) (hc2 : l2.length ≤ c2)
    (hn : l1.length ≤ 5864062014805) (hs : ∀ c ∈ l1, c.length ≤ 17592186044416) (hn2 : l2.length ≤ 17592186044416) (hf1 : isFormula v1 l1 = true) (hf2 : within l2 v1 = true) (hv : 16 < v1) :
    Calls Try.prog 44 #[.agg #[.int .i64 v1, .slice A1 l1.length c1], .slice A2 l2.length c2] w fun e w' => e = .returned (.tuple #[.bool false, .int .i64 4]) ∧ Below w.heap.size w w' := by
  have HR1 := Aside0.mk hr1
  have HR2 := Aside0.mk hr2
  have F1 := fun W h => isFormula_calls v1 A1 c1 l1 W h hc1 (by omega) hs
  have F2 := fun W h => within_calls A2 c2 l2 v1 W h hc2 hn2
  rw [hf1] at F1
  rw [hf2] at F2
  have HF1 := Aside0.mk F1
  have HF2 := Aside0.mk F2
  have hgt : decide (v1 > 16) = true := decide_eq_true hv
  have hgt2 : decide (16 < v1) = true := hgt
  clear F1 F2 hr1 hr2 hc1 hc2 hn hs hn2 hf1 hf2
  go_enter Try.func44, Try.ntmps44
  go_wp2_with fail
  have T0 := ef w (.int .i64 v1) (.slice A1 l1.length c1) (.slice A2 l2.length c2) (.bool false) (.int .i64 0)
  generalize hW0 : ((((w.alloc (.cells #[.int .i64 v1, .slice A1 l1.length c1] 24 (0, 0))).alloc (.cells #[.slice A2 l2.length c2] 43 (0, 0))).alloc (.cells #[.bool false] 4 (0, 0))).alloc (.cells #[.int .i64 0] 28 (0, 0))) = W0 at T0 ⊢
  clear hW0
  (with_reducible refine (HF1.out _ (Kd.C_below HR1.out T0.hB)).mono ?_)
  rintro e W1 ⟨rfl, hb⟩
  have T1 := T0.keep hb
  have f0 := (blk_cell T1.b0 0).trans rfl
  have g0 := (blk_cell T1.b1 0).trans rfl
  clear T0 hb
  go_wp2_with fail
  (with_reducible refine (HF2.out _ (Kd.C_below HR2.out T1.hB)).mono ?_)
  rintro e W2 ⟨rfl, hd⟩
  have T2 := T1.keep hd.below
  have HT := Aside0.mk T2
  have f0 := (blk_cell T2.b0 0).trans rfl
  have q0 := (blk_cell T2.b2 0).trans rfl
  have q1 := (blk_cell T2.b3 0).trans rfl
  have y0 := blk_frozen T2.b2 0
  have y1 := blk_frozen T2.b3 0
  clear T1 hd T2 g0
  go_wp2_with fail
  have E2 := HT.out.set (.bool false) (.int .i64 4)
  generalize ((W2.setCell ⟨w.heap.size + 1 + 1, 0, none⟩ (.bool false)).setCell ⟨w.heap.size + 1 + 1 + 1, 0, none⟩ (.int .i64 4)) = WF at E2 ⊢
  have r0 := (blk_cell E2.b2 0).trans rfl
  have r1 := (blk_cell E2.b3 0).trans rfl
  exact bodyPost_ret (v := .tuple #[.bool false, .int .i64 4]) (by simp [results, Try.results44, go_sem, r0, r1]) rfl ⟨rfl, E2.hB⟩

theorem entails_calls (v1 : Int) (A1 A2 : Option Addr) (c1 c2 : Nat) (l1 : List (List Int)) (l2 : List Int) (w : World) (hr1 : Kd.C (Kd.slice 3 (Kd.int .i64)) w A1 l1.length l1) (hc1 : l1.length ≤ c1) (hr2 : Kd.C (Kd.int .i64) w A2 l2.length l2) (hc2 : l2.length ≤ c2)
    (hn : l1.length ≤ 5864062014805) (hs : ∀ c ∈ l1, c.length ≤ 17592186044416) (hn2 : l2.length ≤ 17592186044416) :
    Calls Try.prog 44 #[.agg #[.int .i64 v1, .slice A1 l1.length c1], .slice A2 l2.length c2] w fun e w' => e = .returned (.tuple #[.bool (entailsOf v1 l1 l2).1, .int .i64 (entailsOf v1 l1 l2).2]) ∧ Below w.heap.size w w' := by
  unfold entailsOf
  by_cases hf : (isFormula v1 l1 && within l2 v1) = true
  · rw [if_pos hf]
    rw [Bool.and_eq_true] at hf
    by_cases hv : 16 < v1
    · rw [if_pos hv]
      exact entails_room v1 A1 A2 c1 c2 l1 l2 w hr1 hc1 hr2 hc2 hn hs hn2 hf.1 hf.2 hv
    · rw [if_neg hv]
      exact entails_good v1 A1 A2 c1 c2 l1 l2 w hr1 hc1 hr2 hc2 hn hs hn2 hf.1 hf.2 (by omega)
  · rw [if_neg hf]
    exact entails_bad v1 A1 A2 c1 c2 l1 l2 w hr1 hc1 hr2 hc2 hn hs hn2 (by simpa using hf)
end Go.Proofs.YtggnnnddnppcpaaHand
/-! text YtggnnnddnppcpaaApartBools -/
namespace Go.Proofs.YtggnnnddnppcpaaHand
open Go.RowKit Go.Proofs.YtggnnnddnppcpaaW.PrintWords Go.Proofs.YtggnnnddnppcpaaW.PrintLast Go.Proofs.YtggnnnddnppcpaaMath Go.Proofs.YtggnnnddnppcpaaOwn
set_option linter.unusedVariables false
set_option linter.unusedSimpArgs false
def mkb (a b : Int) : Bool := Int.tmod (wrap64 (wrap64 (13 * a) + wrap64 (5 * b))) 3 == 0
theorem infoBI : (Try.prog.info? 4).map (fun i => (i.zero, i.size, i.bytes)) = some (some (.bool false), 1, 1) := by kernel_rfl
theorem infoBR : (Try.prog.info? 41).map (fun i => (i.zero, i.size, i.bytes)) = some (some (.slice none 0 0), 1, 24) := by kernel_rfl
def EB (k j : Nat) : Value := .bool (mkb k j)
set_option maxHeartbeats 8000000 in
set_option maxRecDepth 100000 in
theorem apartBools_calls (rows : List (Value × Nat)) (A : Option Addr) (c : Nat) (D0 : List (Value × List Value)) (w : World) (hQ : AQ 4 41 w rows A D0 (.slice none 0 0) [] (.slice none 0 0) [] [] w) (hM : M1 EB rows D0 0 0)
    (hn : rows.length ≤ 1099511627776) (hs : ∀ p ∈ rows, p.2 ≤ 1099511627776) :
    Calls Try.prog 52 #[.slice A rows.length c] w fun e w' => e = .returned (.bool true) ∧ Grow (MR rows) w w' := by
  have HQ := Aside0.mk hQ
  have HM := Aside0.mk hM
  have HN := Aside0.mk hn
  have HS : Aside0 (∀ (k : Nat) p, rows[k]? = some p → p.2 ≤ 1099511627776) := ⟨fun k p h => hs p (List.mem_of_getElem? h)⟩
  clear hQ hM hn hs
  go_enter Try.func52, Try.ntmps52
  go_wp2
  go_loopw [3, 4] (fun v3 _ wr => ∃ (k : Nat) (x : Int) (D : List (Value × List Value)), v3 = .int .i64 x ∧ Aside0 (x = k ∧ k ≤ rows.length) ∧ Aside0 (M1 EB rows D k 0) ∧ Aside0 (AQ 4 41 w rows A D (.slice none 0 0) [] (.slice none 0 0) [] [] wr)) (fun i _ _ => rows.length - (intOf i).toNat)
  case atStart => exact ⟨0, 0, D0, rfl, ⟨rfl, Nat.zero_le _⟩, HM, HQ⟩
  case round =>
    clear HM HQ
    obtain ⟨k, x, D, rfl, HX, HM, HQ⟩ := hrel
    obtain ⟨hxk, hk⟩ := HX.out
    by_cases hlt : k < rows.length
    · have q3 : decide (x < (rows.length : Int)) = true := decide_eq_true (by omega)
      have p2 : ((0 : Int) ≤ x) = True := eq_true (by omega)
      have q2 : (x < (rows.length : Int)) = True := eq_true (by omega)
      have HLT := Aside0.mk hlt
      have HX2 : Aside0 (wrap64 (x + 1) = ((k + 1 : Nat) : Int) ∧ k + 1 ≤ rows.length) := by
        have := HN.out
        exact ⟨by rw [w64 (by omega) (by omega)]; omega, by omega⟩
      have hm : (intOf (.int .i64 (wrap64 (x + 1)))).toNat = k + 1 := by rw [HX2.out.1]; simp [intOf]
      have hm0 : (intOf (.int .i64 x)).toNat = k := by rw [hxk]; simp [intOf]
      have HMS : Aside0 (rows.length - (intOf (.int .i64 (wrap64 (x + 1)))).toNat < rows.length - (intOf (.int .i64 x)).toNat) := ⟨by rw [hm, hm0]; omega⟩
      obtain ⟨p, hp⟩ : ∃ p, rows[k]? = some p := ⟨_, List.getElem?_eq_getElem hlt⟩
      obtain ⟨ad, hA, _⟩ := HQ.out.out hp
      subst hA
      have HP := Aside0.mk hp
      clear hm hm0 hk hlt hp hxk
      go_wp2
      go_loopw [4] (fun v4 wr => ∃ (i : Nat) (y : Int) (D : List (Value × List Value)), v4 = .int .i64 y ∧ Aside0 (y = i ∧ i ≤ p.2) ∧ Aside0 (M1 EB rows D k i) ∧ Aside0 (AQ 4 41 w rows (some ad) D (.slice none 0 0) [] (.slice none 0 0) [] [] wr)) (fun i _ => p.2 - (intOf i).toNat)
      case atStart => exact ⟨0, 0, D, rfl, ⟨rfl, Nat.zero_le _⟩, HM, HQ⟩
      case round =>
        clear HM HQ
        obtain ⟨i, y, D, rfl, HY, HM, HQ⟩ := hrel
        obtain ⟨hyi, hi⟩ := HY.out
        obtain ⟨ad', hA', hcell⟩ := HQ.out.out HP.out
        cases hA'
        obtain ⟨d, hd⟩ : ∃ d, D[k]? = some d := ⟨_, List.getElem?_eq_getElem (by rw [HQ.out.len]; exact HLT.out)⟩
        obtain ⟨f, hr⟩ := HQ.out.row HP.out hd
        obtain ⟨Ap, cp, hpf⟩ := At.form' hr.old
        have hxk' : ad.add k = ad.add x.toNat := by rw [HX.out.1]; rfl
        rw [hxk', hpf] at hcell
        by_cases hlt2 : i < p.2
        · obtain ⟨e1, e2, _⟩ := HM.out k p d HP.out hd
          have q4 : decide (y < (p.2 : Int)) = true := decide_eq_true (by omega)
          have p5 : ((0 : Int) ≤ y) = True := eq_true (by omega)
          have q5 : (y < (p.2 : Int)) = True := eq_true (by omega)
          obtain ⟨u, hu⟩ : ∃ u, d.2[i]? = some u := ⟨_, List.getElem?_eq_getElem (by omega)⟩
          obtain ⟨b, c', ef, hin, cell2, fz⟩ := hr.now.cell hu
          have hyi' : (⟨b, 0, none⟩ : Addr).add y.toNat = ⟨b, i, none⟩ := by rw [hyi, add_at, Nat.zero_add]; rfl
          have HB : Aside0 (p = (.slice (some ⟨b, 0, none⟩) p.2 c', p.2) ∧ d = (.slice (some ⟨b, 0, none⟩) p.2 c', d.2)) := by
            obtain ⟨p1, p2⟩ := p
            obtain ⟨d1, d2⟩ := d
            simp only at e1 e2 ef
            rw [e2] at ef
            subst e1
            subst ef
            exact ⟨rfl, rfl⟩
          obtain ⟨ad2, had2⟩ : ∃ ad2, ad2 = (⟨b, 0, none⟩ : Addr) := ⟨_, rfl⟩
          have hpf2 : (Value.slice Ap p.2 cp) = .slice (some ad2) p.2 c' := by rw [← hpf, had2]; have := HB.out.1; rw [this]
          injection hpf2 with e3 _ e4
          subst e3 e4
          rw [← had2] at hyi'
          rw [← hyi'] at cell2 fz
          have HAD := Aside0.mk had2
          have HD := Aside0.mk hd
          have HY2 : Aside0 (wrap64 (y + 1) = ((i + 1 : Nat) : Int) ∧ i + 1 ≤ p.2) := by
            have := HS.out k p HP.out
            exact ⟨by rw [w64 (by omega) (by omega)]; omega, by omega⟩
          have hm : (intOf (.int .i64 (wrap64 (y + 1)))).toNat = i + 1 := by rw [HY2.out.1]; simp [intOf]
          have hm0 : (intOf (.int .i64 y)).toNat = i := by rw [hyi]; simp [intOf]
          have HMS2 : Aside0 (p.2 - (intOf (.int .i64 (wrap64 (y + 1)))).toNat < p.2 - (intOf (.int .i64 y)).toNat) := ⟨by rw [hm, hm0]; omega⟩
          have HI := Aside0.mk hlt2
          have hmk : (Int.tmod (wrap64 (wrap64 (13 * x) + wrap64 (5 * y))) 3 == 0) = mkb x y := rfl
          clear hm hm0 had2 hd hyi hi hlt2 e1 e2 hu hin ef hpf hr hyi' hxk'
          go_wp2
          clear hmk
          go_roundw
          case measure => exact HMS2.out
          case rel =>
            obtain ⟨hp1, hd1⟩ := HB.out
            have hD := HD.out
            rw [hd1] at hD
            have hP := HP.out
            rw [hp1] at hP
            refine ⟨i + 1, _, D.set k (.slice (some ⟨b, 0, none⟩) p.2 cp, d.2.set i (EB k i)), rfl, HY2, ⟨HM.out.mark HP.out hD HI.out⟩, ⟨?_⟩⟩
            have h5 := HQ.out.mark hP hD i (EB k i)
            rw [HAD.out, HY.out.1, HX.out.1, add_at, Nat.zero_add]
            exact h5
        · have hie : i = p.2 := by omega
          have q4 : decide (y < (p.2 : Int)) = false := decide_eq_false (by omega)
          rw [hie] at HM
          clear hyi hi hlt2 hie hr hpf hxk' hd HY
          go_wp2
          go_roundw
          case measure => exact HMS.out
          case rel => exact ⟨k + 1, _, D, rfl, HX2, ⟨HM.out.next HP.out⟩, HQ⟩
    · obtain rfl : k = rows.length := by omega
      have q3 : decide (x < (rows.length : Int)) = false := decide_eq_false (by omega)
      have HM2 := Aside0.mk HM.out.done
      clear hk hlt hxk HX HM
      go_wp2
      go_loopw [5, 6, 7, 8] (fun v5 v6 _ _ wr => ∃ (k : Nat) (x : Int) (D : List (Value × List Value)) (H : List Value), v6 = .int .i64 x ∧ Aside0 (x = k ∧ k ≤ rows.length) ∧ Aside0 (M2 EB rows D k 0 ∧ HD D H k) ∧ Aside0 (AQ 4 41 w rows A D v5 H (.slice none 0 0) [] [] wr)) (fun _ i _ _ _ => rows.length - (intOf i).toNat)
      case atStart => exact ⟨0, 0, D, [], rfl, ⟨rfl, Nat.zero_le _⟩, ⟨HM2.out, HD.start⟩, HQ⟩
      case round =>
        clear HM2 HQ
        obtain ⟨k, x, D, H, rfl, HX, HM, HQ⟩ := hrel
        obtain ⟨hxk, hk⟩ := HX.out
        by_cases hlt : k < rows.length
        · have q3 : decide (x < (rows.length : Int)) = true := decide_eq_true (by omega)
          have p2 : ((0 : Int) ≤ x) = True := eq_true (by omega)
          have q2 : (x < (rows.length : Int)) = True := eq_true (by omega)
          have HLT := Aside0.mk hlt
          have HX2 : Aside0 (wrap64 (x + 1) = ((k + 1 : Nat) : Int) ∧ k + 1 ≤ rows.length) := by
            have := HN.out
            exact ⟨by rw [w64 (by omega) (by omega)]; omega, by omega⟩
          have hm : (intOf (.int .i64 (wrap64 (x + 1)))).toNat = k + 1 := by rw [HX2.out.1]; simp [intOf]
          have hm0 : (intOf (.int .i64 x)).toNat = k := by rw [hxk]; simp [intOf]
          have HMS : Aside0 (rows.length - (intOf (.int .i64 (wrap64 (x + 1)))).toNat < rows.length - (intOf (.int .i64 x)).toNat) := ⟨by rw [hm, hm0]; omega⟩
          obtain ⟨p, hp⟩ : ∃ p, rows[k]? = some p := ⟨_, List.getElem?_eq_getElem hlt⟩
          obtain ⟨d, hd⟩ : ∃ d, D[k]? = some d := ⟨_, List.getElem?_eq_getElem (by rw [HQ.out.len]; exact HLT.out)⟩
          obtain ⟨ad, hA, hcell⟩ := HQ.out.out hp
          subst hA
          obtain ⟨f, hr⟩ := HQ.out.row hp hd
          obtain ⟨Ap, cp, hpf⟩ := At.form' hr.old
          have hxk' : ad.add k = ad.add x.toNat := by rw [hxk]; rfl
          rw [hxk', hpf] at hcell
          have HP := Aside0.mk hp
          have HPF := Aside0.mk hpf
          have HSP : Aside0 (p.2 ≤ 1099511627776) := ⟨HS.out k p hp⟩
          have hd3 := HM.out.1.row hp hd
          have HST : Aside0 (∃ D', D'[k]? = some (p.1, marks (EB k) p.2) ∧ M2 EB rows D' k 0 ∧ HD D' H k ∧ AQ 4 41 w rows (some ad) D' u5 H (.slice none 0 0) [] [] wr) := by
            rw [Nat.add_zero] at hd3
            have h5 := HQ.out.reset hp hd
            rw [hd3, marks_take _ (Nat.le_refl _)] at h5
            refine ⟨_, ?_, HM.out.1.set hp hd (d' := (p.1, marks (EB k) p.2)) (by rw [Nat.add_zero]), HM.out.2.set, h5⟩
            rw [List.getElem?_set, if_pos rfl, if_pos (List.getElem?_eq_some_iff.1 hd).1]
          clear hm hm0 hk hlt hp hxk hd hr hxk' hpf hd3
          go_wp2
          obtain ⟨D', hd', hM', hH', hQ'⟩ := HST.out
          have HM' := Aside0.mk (And.intro hM' hH')
          have HQ' := Aside0.mk hQ'
          have HD' := Aside0.mk hd'
          clear HST hd' hM' hH' hQ' HM HQ
          go_loopw [7, 8] (fun v7 v8 wr => ∃ (j : Nat) (z : Int) (D : List (Value × List Value)), v8 = .int .i64 z ∧ Aside0 (z = j ∧ j ≤ 64) ∧ Aside0 (M2 EB rows D k j ∧ HD D H k) ∧ Aside0 (D[k]? = some (v7, marks (EB k) (p.2 + j))) ∧ Aside0 (AQ 4 41 w rows (some ad) D u5 H (.slice none 0 0) [] [] wr)) (fun _ i _ => 64 - (intOf i).toNat)
          case atStart => exact ⟨0, 0, D', rfl, ⟨rfl, Nat.zero_le _⟩, HM', ⟨by rw [← HPF.out]; exact HD'.out⟩, HQ'⟩
          case round =>
            clear HM' HQ' HD' hcell
            obtain ⟨j, z, D, rfl, HZ, HM, HDK, HQ⟩ := hrel
            obtain ⟨hzj, hj⟩ := HZ.out
            obtain ⟨ad', hA', hcell⟩ := HQ.out.out HP.out
            cases hA'
            have hxk' : ad.add k = ad.add x.toNat := by rw [HX.out.1]; rfl
            rw [hxk', HPF.out] at hcell
            by_cases hlt2 : j < 64
            · have q4 : decide (z < 64) = true := decide_eq_true (by omega)
              have HZ2 : Aside0 (wrap64 (z + 1) = ((j + 1 : Nat) : Int) ∧ j + 1 ≤ 64) := ⟨by rw [w64 (by omega) (by omega)]; omega, by omega⟩
              have hm : (intOf (.int .i64 (wrap64 (z + 1)))).toNat = j + 1 := by rw [HZ2.out.1]; simp [intOf]
              have hm0 : (intOf (.int .i64 z)).toNat = j := by rw [hzj]; simp [intOf]
              have HMS2 : Aside0 (64 - (intOf (.int .i64 (wrap64 (z + 1)))).toNat < 64 - (intOf (.int .i64 z)).toNat) := ⟨by rw [hm, hm0]; omega⟩
              have HE : Aside0 (EB k (p.2 + j) = .bool (mkb x (wrap64 ((p.2 : Int) + z)))) := ⟨by
                have := HSP.out
                rw [w64 (by omega) (by omega), HX.out.1, hzj]
                unfold EB
                push_cast
                rfl⟩
              have HAP := Aside0.mk (AQ.append (P := Try.prog) (ty := 41) (tt := 41) (c := 1) (m := 1) (ad := ⟨wr.heap.size, 0, none⟩) (news := [.bool (mkb x (wrap64 ((p.2 : Int) + z)))]) (HQ.out.keep (below_alloc (Below.refl wr.heap.size wr) (.cells #[.bool (mkb x (wrap64 ((p.2 : Int) + z)))] 4 (0, 0)))) HP.out HDK.out Try.underlying41 infoBI (by decide) rfl (cell_one_new wr _ 4) (fun u hu => by rw [List.mem_singleton.1 hu]; rfl) (by omega) (by have := HSP.out; simp only [marks_len, maxLen]; omega) (by have := HSP.out; simp only [marks_len]; omega))
              clear hm hm0 hzj hj hlt2 hxk'
              have hmk : (Int.tmod (wrap64 (wrap64 (13 * x) + wrap64 (5 * wrap64 ((p.2 : Int) + z)))) 3 == 0) = mkb x (wrap64 ((p.2 : Int) + z)) := rfl
              go_wp2_with ((with_reducible refine gate_builtin (b := .append) (xs := #[.tmp 58, .tmp 72]) rfl ?_); at_builtin; obtain ⟨v', W1, hrun, hQ1, hsz⟩ := HAP.out; refine wpList_append_run rfl (.tmp 58) (.tmp 72) 41 rfl rfl rfl hrun ?_; have HQ1 := Aside0.mk hQ1; clear hrun hQ1 hsz)
              clear hmk
              go_roundw
              case measure => exact HMS2.out
              case rel =>
                have hsucc : marks (EB k) (p.2 + (j + 1)) = marks (EB k) (p.2 + j) ++ [.bool (mkb x (wrap64 ((p.2 : Int) + z)))] := by rw [← HE.out, ← marks_succ]; rfl
                refine ⟨j + 1, _, _, rfl, HZ2, ⟨HM.out.1.set HP.out HDK.out hsucc.symm, HM.out.2.set⟩, ⟨?_⟩, HQ1⟩
                rw [List.getElem?_set, if_pos rfl, if_pos (List.getElem?_eq_some_iff.1 HDK.out).1, hsucc]
            · have hje : j = 64 := by omega
              have q4 : decide (z < 64) = false := decide_eq_false (by omega)
              rw [hje] at HM HDK
              obtain ⟨f7, hr7⟩ := HQ.out.row HP.out HDK.out
              obtain ⟨A7, c7, e7⟩ := At.form' hr7.now
              replace e7 : u7 = .slice A7 (p.2 + 64) c7 := by simpa [marks_len] using e7
              subst e7
              have HAP := Aside0.mk (AQ.push (P := Try.prog) (ty := 46) (tt := 46) (c := 1) (m := 1) (ad := ⟨wr.heap.size, 0, none⟩) (news := [.slice A7 (p.2 + 64) c7]) (HQ.out.keep (below_alloc (Below.refl wr.heap.size wr) (.cells #[.slice A7 (p.2 + 64) c7] 41 (0, 0)))) Try.underlying46 infoBR (by decide) rfl (cell_one_new wr _ 41) (fun u hu => by rw [List.mem_singleton.1 hu]; rfl) (by omega) (by have := HM.out.2.1; have := HX.out.2; have := HN.out; simp only [maxLen]; omega) (by have := HM.out.2.1; have := HX.out.2; have := HN.out; omega))
              clear hzj hj hlt2 hxk' hje hr7 HZ
              go_wp2_with (first
                | ((with_reducible refine gate_builtin (b := .append) (xs := #[.tmp 74, .tmp 76]) rfl ?_); at_builtin; obtain ⟨v', W1, hrun, hQ1, hsz⟩ := HAP.out; refine wpList_append_run rfl (.tmp 74) (.tmp 76) 46 rfl rfl rfl hrun ?_; have HQ1 := Aside0.mk hQ1; clear hrun hQ1 hsz))
              go_roundw
              case measure => exact HMS.out
              case rel => exact ⟨k + 1, _, D, _, rfl, HX2, ⟨HM.out.1.next, HM.out.2.push HDK.out⟩, HQ1⟩
        · obtain rfl : k = rows.length := by omega
          have q3 : decide (x < (rows.length : Int)) = false := decide_eq_false (by omega)
          clear hk hlt hxk HX
          go_wp2
          go_loopw [9, 10] (fun v9 _ wr => ∃ (k : Nat) (x : Int), v9 = .int .i64 x ∧ Aside0 (x = k ∧ k ≤ rows.length) ∧ Aside0 (AQ 4 41 w rows A D u5 H (.slice none 0 0) [] [] wr)) (fun i _ _ => rows.length - (intOf i).toNat)
          case atStart => exact ⟨0, 0, rfl, ⟨rfl, Nat.zero_le _⟩, HQ⟩
          case round =>
            clear HQ
            obtain ⟨k, x, rfl, HX, HQ⟩ := hrel
            obtain ⟨hxk, hk⟩ := HX.out
            by_cases hlt : k < rows.length
            · have q3 : decide (x < (rows.length : Int)) = true := decide_eq_true (by omega)
              have p2 : ((0 : Int) ≤ x) = True := eq_true (by omega)
              have q2 : (x < (rows.length : Int)) = True := eq_true (by omega)
              have HLT := Aside0.mk hlt
              have HX2 : Aside0 (wrap64 (x + 1) = ((k + 1 : Nat) : Int) ∧ k + 1 ≤ rows.length) := by
                have := HN.out
                exact ⟨by rw [w64 (by omega) (by omega)]; omega, by omega⟩
              have hm : (intOf (.int .i64 (wrap64 (x + 1)))).toNat = k + 1 := by rw [HX2.out.1]; simp [intOf]
              have hm0 : (intOf (.int .i64 x)).toNat = k := by rw [hxk]; simp [intOf]
              have HMS : Aside0 (rows.length - (intOf (.int .i64 (wrap64 (x + 1)))).toNat < rows.length - (intOf (.int .i64 x)).toNat) := ⟨by rw [hm, hm0]; omega⟩
              obtain ⟨p, hp⟩ : ∃ p, rows[k]? = some p := ⟨_, List.getElem?_eq_getElem hlt⟩
              obtain ⟨d, hd⟩ : ∃ d, D[k]? = some d := ⟨_, List.getElem?_eq_getElem (by rw [HQ.out.len]; exact HLT.out)⟩
              obtain ⟨ad, hA, _⟩ := HQ.out.out hp
              subst hA
              have hH := HM.out.2.2 k d hlt hd
              obtain ⟨f5, t5, h5⟩ := HQ.out.gs
              obtain ⟨b5, c5, e5, _, _, _⟩ := h5.cell hH
              have HHL : Aside0 (H.length = rows.length) := ⟨HM.out.2.1⟩
              rw [HHL.out] at e5
              have hr := HM.out.1.full hp hd
              have HP := Aside0.mk hp
              have HDK : Aside0 (d.2 = marks (EB k) (p.2 + 64) ∧ D[k]? = some d ∧ H[k]? = some d.1) := ⟨hr, hd, hH⟩
              have HSP : Aside0 (p.2 ≤ 1099511627776) := ⟨HS.out k p hp⟩
              obtain ⟨ad5, had5⟩ : ∃ ad5, ad5 = (⟨b5, 0, none⟩ : Addr) := ⟨_, rfl⟩
              rw [← had5] at e5
              have HAD5 := Aside0.mk had5
              subst e5
              obtain ⟨m, hm64⟩ : ∃ m, m = p.2 + 64 := ⟨_, rfl⟩
              have HM64 := Aside0.mk hm64
              clear hm hm0 hk hlt hp hxk hd hr hH h5 had5 hm64
              go_wp2
              go_loopw [10] (fun v10 wr => ∃ (i : Nat) (y : Int), v10 = .int .i64 y ∧ Aside0 (y = i ∧ i ≤ m) ∧ Aside0 (AQ 4 41 w rows (some ad) D (.slice (some ad5) rows.length c5) H (.slice none 0 0) [] [] wr)) (fun i _ => m - (intOf i).toNat)
              case atStart => exact ⟨0, 0, rfl, ⟨rfl, Nat.zero_le _⟩, HQ⟩
              case round =>
                clear HQ
                obtain ⟨i, y, rfl, HY, HQ⟩ := hrel
                obtain ⟨hyi, hi⟩ := HY.out
                obtain ⟨f5, t5, h5⟩ := HQ.out.gs
                obtain ⟨b6, c6, e6, _, cell5, _⟩ := h5.cell HDK.out.2.2
                have hb6 : b6 = b5 := by
                  injection e6 with e6 _ _
                  injection e6 with e6
                  rw [HAD5.out] at e6
                  injection e6 with e6
                  exact e6.symm
                subst hb6
                have hxk5 : (⟨b6, k, none⟩ : Addr) = ad5.add x.toNat := by rw [HAD5.out, HX.out.1, add_at, Nat.zero_add]; rfl
                rw [hxk5] at cell5
                obtain ⟨f, hr⟩ := HQ.out.row HP.out HDK.out.2.1
                obtain ⟨Ad, cd, edf⟩ := At.form' hr.now
                have hln : d.2.length = m := by rw [HDK.out.1, marks_len, HM64.out]
                rw [hln] at edf
                rw [edf] at cell5
                have hbound := HSP.out
                have hmm := HM64.out
                have HY2 : Aside0 (wrap64 (y + 1) = ((i + 1 : Nat) : Int)) := ⟨by rw [w64 (by omega) (by omega)]; omega⟩
                by_cases hlt2 : i < m
                · have q4 : decide (y < (m : Int)) = true := decide_eq_true (by omega)
                  have p5 : ((0 : Int) ≤ y) = True := eq_true (by omega)
                  have q5 : (y < (m : Int)) = True := eq_true (by omega)
                  have hdi : d.2[i]? = some (EB k i) := by rw [HDK.out.1]; exact marks_at _ (by omega)
                  obtain ⟨bd, cd', ed2, _, celld, _⟩ := hr.now.cell hdi
                  rw [hln, edf] at ed2
                  obtain ⟨add, hadd⟩ : ∃ add, add = (⟨bd, 0, none⟩ : Addr) := ⟨_, rfl⟩
                  rw [← hadd] at ed2
                  injection ed2 with e3 _ e4
                  subst e3 e4
                  have hyk : (⟨bd, i, none⟩ : Addr) = add.add y.toNat := by rw [hadd, hyi, add_at, Nat.zero_add]; rfl
                  have hEE : EB k i = .bool (mkb x y) := by rw [HX.out.1, hyi]; rfl
                  rw [hyk, hEE] at celld
                  obtain ⟨ad', hA', hcell⟩ := HQ.out.out HP.out
                  cases hA'
                  obtain ⟨Ap, cp, hpf⟩ := At.form' hr.old
                  have hxk' : ad.add k = ad.add x.toNat := by rw [HX.out.1]; rfl
                  rw [hxk', hpf] at hcell
                  have hm : (intOf (.int .i64 (wrap64 (y + 1)))).toNat = i + 1 := by rw [HY2.out]; simp [intOf]
                  have hm0 : (intOf (.int .i64 y)).toNat = i := by rw [hyi]; simp [intOf]
                  have HMS2 : Aside0 (m - (intOf (.int .i64 (wrap64 (y + 1)))).toNat < m - (intOf (.int .i64 y)).toNat) := ⟨by rw [hm, hm0]; omega⟩
                  have HY3 : Aside0 (wrap64 (y + 1) = ((i + 1 : Nat) : Int) ∧ i + 1 ≤ m) := ⟨HY2.out, by omega⟩
                  by_cases hlt3 : i < p.2
                  · have q6 : decide (y < (p.2 : Int)) = true := decide_eq_true (by omega)
                    have q7 : (y < (p.2 : Int)) = True := eq_true (by omega)
                    have hpi : (d.2.take p.2)[i]? = some (EB k i) := by rw [List.getElem?_take, if_pos hlt3]; exact hdi
                    obtain ⟨bp, cp', ep2, _, cellp, _⟩ := hr.old.cell hpi
                    rw [hpf] at ep2
                    obtain ⟨adp, hadp⟩ : ∃ adp, adp = (⟨bp, 0, none⟩ : Addr) := ⟨_, rfl⟩
                    rw [← hadp] at ep2
                    injection ep2 with e3 _ e4
                    subst e3 e4
                    have hyp : (⟨bp, i, none⟩ : Addr) = adp.add y.toNat := by rw [hadp, hyi, add_at, Nat.zero_add]; rfl
                    rw [hyp, hEE] at cellp
                    clear hm hm0 hyi hi hlt2 hlt3 h5 e6 hxk5 hr hln edf hbound hmm hdi hadd hyk hEE hpf hxk' hpi hadp hyp
                    have hmk : (Int.tmod (wrap64 (wrap64 (13 * x) + wrap64 (5 * y))) 3 == 0) = mkb x y := rfl
                    go_wp2
                    clear hmk
                    go_roundw
                    case measure => exact HMS2.out
                    case rel => exact ⟨i + 1, _, rfl, HY3, HQ⟩
                  · have q6 : decide (y < (p.2 : Int)) = false := decide_eq_false (by omega)
                    clear hm hm0 hyi hi hlt2 hlt3 h5 e6 hxk5 hr hln edf hbound hmm hdi hadd hyk hEE hpf hxk'
                    have hmk : (Int.tmod (wrap64 (wrap64 (13 * x) + wrap64 (5 * y))) 3 == 0) = mkb x y := rfl
                    go_wp2
                    clear hmk
                    go_roundw
                    case measure => exact HMS2.out
                    case rel => exact ⟨i + 1, _, rfl, HY3, HQ⟩
                · have q4 : decide (y < (m : Int)) = false := decide_eq_false (by omega)
                  obtain ⟨ad', hA', hcell⟩ := HQ.out.out HP.out
                  cases hA'
                  clear hyi hi hlt2 h5 e6 hxk5 hr hln edf hbound hmm hcell HY HY2
                  go_wp2
                  go_roundw
                  case measure => exact HMS.out
                  case rel => exact ⟨k + 1, _, rfl, HX2, HQ⟩
            · obtain rfl : k = rows.length := by omega
              have q3 : decide (x < (rows.length : Int)) = false := decide_eq_false (by omega)
              have HM4 : Aside0 (M4 EB rows D ∧ HD D H rows.length) := ⟨HM.out.1.four, HM.out.2⟩
              clear hk hlt hxk HX HM
              go_wp2
              go_loopw [11, 12, 13] (fun v11 _ _ wr => ∃ (k : Nat) (x : Int) (D : List (Value × List Value)) (H : List Value), v11 = .int .i64 x ∧ Aside0 (x = k ∧ k ≤ rows.length) ∧ Aside0 (M4 EB rows D ∧ HD D H rows.length) ∧ Aside0 (AQ 4 41 w rows A D u5 H (.slice none 0 0) [] [] wr)) (fun i _ _ _ => rows.length - (intOf i).toNat)
              case atStart => exact ⟨0, 0, D, H, rfl, ⟨rfl, Nat.zero_le _⟩, HM4, HQ⟩
              case round =>
                clear HQ HM4
                obtain ⟨k, x, D, H, rfl, HX, HM, HQ⟩ := hrel
                obtain ⟨hxk, hk⟩ := HX.out
                by_cases hlt : k < rows.length
                · have q3 : decide (x < (rows.length : Int)) = true := decide_eq_true (by omega)
                  have p2 : ((0 : Int) ≤ x) = True := eq_true (by omega)
                  have q2 : (x < (rows.length : Int)) = True := eq_true (by omega)
                  have HLT := Aside0.mk hlt
                  have HX2 : Aside0 (wrap64 (x + 1) = ((k + 1 : Nat) : Int) ∧ k + 1 ≤ rows.length) := by
                    have := HN.out
                    exact ⟨by rw [w64 (by omega) (by omega)]; omega, by omega⟩
                  have hm : (intOf (.int .i64 (wrap64 (x + 1)))).toNat = k + 1 := by rw [HX2.out.1]; simp [intOf]
                  have hm0 : (intOf (.int .i64 x)).toNat = k := by rw [hxk]; simp [intOf]
                  have HMS : Aside0 (rows.length - (intOf (.int .i64 (wrap64 (x + 1)))).toNat < rows.length - (intOf (.int .i64 x)).toNat) := ⟨by rw [hm, hm0]; omega⟩
                  obtain ⟨p, hp⟩ : ∃ p, rows[k]? = some p := ⟨_, List.getElem?_eq_getElem hlt⟩
                  obtain ⟨d, hd⟩ : ∃ d, D[k]? = some d := ⟨_, List.getElem?_eq_getElem (by rw [HQ.out.len]; exact HLT.out)⟩
                  obtain ⟨ad, hA, _⟩ := HQ.out.out hp
                  subst hA
                  have HP := Aside0.mk hp
                  have HDK := Aside0.mk hd
                  have HSP : Aside0 (p.2 ≤ 1099511627776) := ⟨HS.out k p hp⟩
                  clear hm hm0 hk hlt hp hxk hd
                  go_wp2
                  go_loopw [12, 13] (fun v12 v13 wr => ∃ (j : Nat) (z : Int) (ms : List Value), v13 = .int .i64 z ∧ Aside0 (z = j ∧ j ≤ 64) ∧ Aside0 (ms.length = j ∧ ∀ u ∈ ms, u.oneCell' = true) ∧ Aside0 (AQ 4 41 w rows (some ad) D u5 H v12 ms [] wr)) (fun _ i _ => 64 - (intOf i).toNat)
                  case atStart => exact ⟨0, 0, [], rfl, ⟨rfl, Nat.zero_le _⟩, ⟨rfl, fun u hu => by cases hu⟩, HQ⟩
                  case round =>
                    clear HQ
                    obtain ⟨j, z, ms, rfl, HZ, HMSS, HQ⟩ := hrel
                    obtain ⟨hzj, hj⟩ := HZ.out
                    by_cases hlt2 : j < 64
                    · have q4 : decide (z < 64) = true := decide_eq_true (by omega)
                      have HZ2 : Aside0 (wrap64 (z + 1) = ((j + 1 : Nat) : Int) ∧ j + 1 ≤ 64) := ⟨by rw [w64 (by omega) (by omega)]; omega, by omega⟩
                      have hm : (intOf (.int .i64 (wrap64 (z + 1)))).toNat = j + 1 := by rw [HZ2.out.1]; simp [intOf]
                      have hm0 : (intOf (.int .i64 z)).toNat = j := by rw [hzj]; simp [intOf]
                      have HMS2 : Aside0 (64 - (intOf (.int .i64 (wrap64 (z + 1)))).toNat < 64 - (intOf (.int .i64 z)).toNat) := ⟨by rw [hm, hm0]; omega⟩
                      have HAP := Aside0.mk (AQ.more (P := Try.prog) (ty := 41) (tt := 41) (c := 1) (m := 1) (ad := ⟨wr.heap.size, 0, none⟩) (news := [.bool (mkb (wrap64 (x + (rows.length : Int))) z)]) (HQ.out.keep (below_alloc (Below.refl wr.heap.size wr) (.cells #[.bool (mkb (wrap64 (x + (rows.length : Int))) z)] 4 (0, 0)))) Try.underlying41 infoBI (by decide) rfl (cell_one_new wr _ 4) (fun u hu => by rw [List.mem_singleton.1 hu]; rfl) (by omega) (by have := HMSS.out.1; simp only [maxLen]; omega) (by have := HMSS.out.1; omega))
                      clear hm hm0 hzj hj hlt2
                      have hmk : (Int.tmod (wrap64 (wrap64 (13 * wrap64 (x + (rows.length : Int))) + wrap64 (5 * z))) 3 == 0) = mkb (wrap64 (x + (rows.length : Int))) z := rfl
                      go_wp2_with ((with_reducible refine gate_builtin (b := .append) (xs := #[.tmp 146, .tmp 157]) rfl ?_); at_builtin; obtain ⟨v', W1, hrun, hQ1, hsz⟩ := HAP.out; refine wpList_append_run rfl (.tmp 146) (.tmp 157) 41 rfl rfl rfl hrun ?_; have HQ1 := Aside0.mk hQ1; clear hrun hQ1 hsz)
                      clear hmk
                      go_roundw
                      case measure => exact HMS2.out
                      case rel =>
                        refine ⟨j + 1, _, _, rfl, HZ2, ⟨by rw [List.length_append, HMSS.out.1]; rfl, fun u hu => ?_⟩, HQ1⟩
                        rcases List.mem_append.1 hu with hu | hu
                        · exact HMSS.out.2 u hu
                        · rw [List.mem_singleton.1 hu]; rfl
                    · have hje : j = 64 := by omega
                      have q4 : decide (z < 64) = false := decide_eq_false (by omega)
                      obtain ⟨ad', hA', hcell⟩ := HQ.out.out HP.out
                      cases hA'
                      obtain ⟨f, hr⟩ := HQ.out.row HP.out HDK.out
                      obtain ⟨Ap, cp, hpf⟩ := At.form' hr.old
                      have hxk' : ad.add k = ad.add x.toNat := by rw [HX.out.1]; rfl
                      rw [hxk', hpf] at hcell
                      have hml : ms.length = 64 := by rw [HMSS.out.1, hje]
                      obtain ⟨fm, tm, hmany⟩ := HQ.out.many
                      obtain ⟨um, hum⟩ : ∃ u, ms[0]? = some u := ⟨_, List.getElem?_eq_getElem (by omega)⟩
                      obtain ⟨bm, cm, em, _, _, _⟩ := hmany.cell hum
                      rw [hml] at em
                      obtain ⟨fg, tg, hgs⟩ := HQ.out.gs
                      have hH := HM.out.2.2 k d HLT.out HDK.out
                      obtain ⟨bg, cg, eg, _, _, _⟩ := hgs.cell hH
                      rw [HM.out.2.1] at eg
                      have HNEW : Aside0 (∀ (jj : Nat) uu, ms[jj]? = some uu → wr.cell? ((⟨bm, 0, none⟩ : Addr).add jj) = some uu) := ⟨fun jj uu hj => by
                        obtain ⟨b2, c2, e2, _, h2, _⟩ := hmany.cell hj
                        rw [em] at e2
                        injection e2 with e2 _ _
                        injection e2 with e2
                        injection e2 with e2
                        subst e2
                        rw [add_at, Nat.zero_add]
                        exact h2⟩
                      have HBG : Aside0 (u5 = .slice (some ⟨bg, 0, none⟩) rows.length cg) := ⟨eg⟩
                      obtain ⟨adg, hadg⟩ : ∃ adg, adg = (⟨bg, 0, none⟩ : Addr) := ⟨_, rfl⟩
                      have HADG := Aside0.mk hadg
                      have HAP : Aside0 (∃ A1 n1 c1 W1 D2, (Builtin.append_ #[41, 41] 41 #[.slice Ap p.2 cp, .slice (some ⟨bm, 0, none⟩) 64 cm]).run Try.prog wr = .ok (.slice A1 n1 c1) W1 ∧ AQ 4 41 w rows (some ad) D2 u5 H u12 ms [] W1 ∧ D2 = D.set k (.slice A1 n1 c1, d.2.take p.2 ++ ms) ∧ W1.cell? (adg.add x.toNat) = some d.1 ∧ W1.frozen? (adg.add x.toNat) = false) := ⟨by
                        have h4 := HM.out.1 k p d HP.out HDK.out
                        have hk := (List.getElem?_eq_some_iff.1 HDK.out).1
                        have h5 := HQ.out.reset HP.out HDK.out
                        have hl : (d.2.take p.2).length = p.2 := by rw [h4.2, marks_len]
                        have hsp := HSP.out
                        obtain ⟨v', W1, hrun, h6, _⟩ := h5.append (P := Try.prog) (ty := 41) (tt := 41) (c := cm) (m := 64) (ad := ⟨bm, 0, none⟩) (news := ms) (d := (p.1, d.2.take p.2)) HP.out (by rw [List.getElem?_set, if_pos rfl, if_pos hk]) Try.underlying41 infoBI (by decide) hml HNEW.out HMSS.out.2 (by omega) (by simp only [hl, maxLen]; omega) (by simp only [hl]; omega)
                        rw [List.set_set] at h6
                        obtain ⟨f1, hr1⟩ := h6.row HP.out (d := (v', d.2.take p.2 ++ ms)) (by rw [List.getElem?_set, if_pos rfl, if_pos hk])
                        obtain ⟨A1, c1, e1⟩ := At.form' hr1.now
                        obtain ⟨f2, t2, hg2⟩ := h6.gs
                        obtain ⟨b2, c2, e2, _, h2, h3⟩ := hg2.cell hH
                        have hb : b2 = bg := by
                          rw [HBG.out] at e2
                          injection e2 with e2 _ _
                          injection e2 with e2
                          injection e2 with e2
                          exact e2.symm
                        subst hb
                        have ek : adg.add x.toNat = ⟨b2, k, none⟩ := by rw [hadg, HX.out.1, add_at, Nat.zero_add]; rfl
                        rw [← ek] at h2 h3
                        simp only at hrun e1
                        rw [hpf, e1] at hrun
                        rw [e1] at h6
                        exact ⟨_, _, _, W1, _, hrun, h6, rfl, h2, h3⟩⟩
                      have HMS64 := Aside0.mk hml
                      rw [← hadg] at eg
                      subst em
                      subst eg
                      clear hzj hj hlt2 hje hr hpf hxk' hml hmany hum hgs hH hadg HZ HNEW
                      go_wp2_with (first
                        | ((with_reducible refine gate_builtin (b := .append) (xs := #[.tmp 164, .tmp 165]) rfl ?_); at_builtin; obtain ⟨A1, n1, c1, W1, D2, hrun, hQ1, hD2, hc1, hf1⟩ := HAP.out; refine wpList_append_run rfl (.tmp 164) (.tmp 165) 41 rfl rfl rfl hrun ?_; have HQ1 := Aside0.mk hQ1; have HD2 := Aside0.mk hD2; clear hrun hQ1 hD2))
                      go_roundw
                      case measure => exact HMS.out
                      case rel =>
                        have h7 := HQ1.out.nomore
                        rw [HADG.out] at h7
                        have h8 := h7.put k (.slice A1 n1 c1)
                        rw [HD2.out] at h8
                        refine ⟨k + 1, _, _, _, rfl, HX2, ⟨HM.out.1.set (d' := (.slice A1 n1 c1, d.2.take p.2 ++ ms)) HP.out HDK.out HMS64.out rfl, HM.out.2.put HLT.out⟩, ⟨?_⟩⟩
                        have ek : adg.add x.toNat = ⟨bg, k, none⟩ := by rw [HADG.out, HX.out.1, add_at, Nat.zero_add]; rfl
                        rw [ek, HADG.out]
                        exact h8
                · obtain rfl : k = rows.length := by omega
                  have q3 : decide (x < (rows.length : Int)) = false := decide_eq_false (by omega)
                  clear hk hlt hxk HX
                  go_wp2
                  go_loopw [14, 15] (fun v14 _ wr => ∃ (k : Nat) (x : Int), v14 = .int .i64 x ∧ Aside0 (x = k ∧ k ≤ rows.length) ∧ Aside0 (AQ 4 41 w rows A D u5 H (.slice none 0 0) [] [] wr)) (fun i _ _ => rows.length - (intOf i).toNat)
                  case atStart => exact ⟨0, 0, rfl, ⟨rfl, Nat.zero_le _⟩, HQ⟩
                  case round =>
                    clear HQ
                    obtain ⟨k, x, rfl, HX, HQ⟩ := hrel
                    obtain ⟨hxk, hk⟩ := HX.out
                    by_cases hlt : k < rows.length
                    · have q3 : decide (x < (rows.length : Int)) = true := decide_eq_true (by omega)
                      have p2 : ((0 : Int) ≤ x) = True := eq_true (by omega)
                      have q2 : (x < (rows.length : Int)) = True := eq_true (by omega)
                      have HLT := Aside0.mk hlt
                      have HX2 : Aside0 (wrap64 (x + 1) = ((k + 1 : Nat) : Int) ∧ k + 1 ≤ rows.length) := by
                        have := HN.out
                        exact ⟨by rw [w64 (by omega) (by omega)]; omega, by omega⟩
                      have hm : (intOf (.int .i64 (wrap64 (x + 1)))).toNat = k + 1 := by rw [HX2.out.1]; simp [intOf]
                      have hm0 : (intOf (.int .i64 x)).toNat = k := by rw [hxk]; simp [intOf]
                      have HMS : Aside0 (rows.length - (intOf (.int .i64 (wrap64 (x + 1)))).toNat < rows.length - (intOf (.int .i64 x)).toNat) := ⟨by rw [hm, hm0]; omega⟩
                      obtain ⟨p, hp⟩ : ∃ p, rows[k]? = some p := ⟨_, List.getElem?_eq_getElem hlt⟩
                      obtain ⟨d, hd⟩ : ∃ d, D[k]? = some d := ⟨_, List.getElem?_eq_getElem (by rw [HQ.out.len]; exact HLT.out)⟩
                      obtain ⟨ad, hA, _⟩ := HQ.out.out hp
                      subst hA
                      have hH := HM.out.2.2 k d hlt hd
                      obtain ⟨f5, t5, h5⟩ := HQ.out.gs
                      obtain ⟨b5, c5, e5, _, _, _⟩ := h5.cell hH
                      have HHL : Aside0 (H.length = rows.length) := ⟨HM.out.2.1⟩
                      rw [HHL.out] at e5
                      have h4 := HM.out.1 k p d hp hd
                      have HP := Aside0.mk hp
                      have HDK : Aside0 ((d.2.length = p.2 + 64 ∧ d.2.take p.2 = marks (EB k) p.2) ∧ D[k]? = some d ∧ H[k]? = some d.1) := ⟨h4, hd, hH⟩
                      have HSP : Aside0 (p.2 ≤ 1099511627776) := ⟨HS.out k p hp⟩
                      obtain ⟨ad5, had5⟩ : ∃ ad5, ad5 = (⟨b5, 0, none⟩ : Addr) := ⟨_, rfl⟩
                      rw [← had5] at e5
                      have HAD5 := Aside0.mk had5
                      subst e5
                      obtain ⟨m, hm64⟩ : ∃ m, m = p.2 + 64 := ⟨_, rfl⟩
                      have HM64 := Aside0.mk hm64
                      clear hm hm0 hk hlt hp hxk hd h4 hH h5 had5 hm64
                      go_wp2
                      go_loopw [15] (fun v15 wr => ∃ (i : Nat) (y : Int), v15 = .int .i64 y ∧ Aside0 (y = i ∧ i ≤ p.2) ∧ Aside0 (AQ 4 41 w rows (some ad) D (.slice (some ad5) rows.length c5) H (.slice none 0 0) [] [] wr)) (fun i _ => p.2 - (intOf i).toNat)
                      case atStart => exact ⟨0, 0, rfl, ⟨rfl, Nat.zero_le _⟩, HQ⟩
                      case round =>
                        clear HQ
                        obtain ⟨i, y, rfl, HY, HQ⟩ := hrel
                        obtain ⟨hyi, hi⟩ := HY.out
                        obtain ⟨f5, t5, h5⟩ := HQ.out.gs
                        obtain ⟨b6, c6, e6, _, cell5, _⟩ := h5.cell HDK.out.2.2
                        have hb6 : b6 = b5 := by
                          injection e6 with e6 _ _
                          injection e6 with e6
                          rw [HAD5.out] at e6
                          injection e6 with e6
                          exact e6.symm
                        subst hb6
                        have hxk5 : (⟨b6, k, none⟩ : Addr) = ad5.add x.toNat := by rw [HAD5.out, HX.out.1, add_at, Nat.zero_add]; rfl
                        rw [hxk5] at cell5
                        obtain ⟨f, hr⟩ := HQ.out.row HP.out HDK.out.2.1
                        obtain ⟨Ad, cd, edf⟩ := At.form' hr.now
                        have hln : d.2.length = m := by rw [HDK.out.1.1, HM64.out]
                        rw [hln] at edf
                        rw [edf] at cell5
                        have hbound := HSP.out
                        have hmm := HM64.out
                        obtain ⟨ad', hA', hcell⟩ := HQ.out.out HP.out
                        cases hA'
                        obtain ⟨Ap, cp, hpf⟩ := At.form' hr.old
                        have hxk' : ad.add k = ad.add x.toNat := by rw [HX.out.1]; rfl
                        rw [hxk', hpf] at hcell
                        have HY2 : Aside0 (wrap64 (y + 1) = ((i + 1 : Nat) : Int)) := ⟨by rw [w64 (by omega) (by omega)]; omega⟩
                        by_cases hlt2 : i < p.2
                        · have p5 : ((0 : Int) ≤ y) = True := eq_true (by omega)
                          have q5 : (y < (m : Int)) = True := eq_true (by omega)
                          have q6 : decide (y < (p.2 : Int)) = true := decide_eq_true (by omega)
                          have q7 : (y < (p.2 : Int)) = True := eq_true (by omega)
                          have hpi : (d.2.take p.2)[i]? = some (EB k i) := by rw [HDK.out.1.2]; exact marks_at _ hlt2
                          have hdi : d.2[i]? = some (EB k i) := by rw [List.getElem?_take, if_pos hlt2] at hpi; exact hpi
                          obtain ⟨bd, cd', ed2, _, celld, _⟩ := hr.now.cell hdi
                          rw [hln, edf] at ed2
                          obtain ⟨add, hadd⟩ : ∃ add, add = (⟨bd, 0, none⟩ : Addr) := ⟨_, rfl⟩
                          rw [← hadd] at ed2
                          injection ed2 with e3 _ e4
                          subst e3 e4
                          have hyk : (⟨bd, i, none⟩ : Addr) = add.add y.toNat := by rw [hadd, hyi, add_at, Nat.zero_add]; rfl
                          have hEE : EB k i = .bool (mkb x y) := by rw [HX.out.1, hyi]; rfl
                          rw [hyk, hEE] at celld
                          have hm : (intOf (.int .i64 (wrap64 (y + 1)))).toNat = i + 1 := by rw [HY2.out]; simp [intOf]
                          have hm0 : (intOf (.int .i64 y)).toNat = i := by rw [hyi]; simp [intOf]
                          have HMS2 : Aside0 (p.2 - (intOf (.int .i64 (wrap64 (y + 1)))).toNat < p.2 - (intOf (.int .i64 y)).toNat) := ⟨by rw [hm, hm0]; omega⟩
                          have HY3 : Aside0 (wrap64 (y + 1) = ((i + 1 : Nat) : Int) ∧ i + 1 ≤ p.2) := ⟨HY2.out, by omega⟩
                          obtain ⟨bp, cp', ep2, _, cellp, _⟩ := hr.old.cell hpi
                          rw [hpf] at ep2
                          obtain ⟨adp, hadp⟩ : ∃ adp, adp = (⟨bp, 0, none⟩ : Addr) := ⟨_, rfl⟩
                          rw [← hadp] at ep2
                          injection ep2 with e3 _ e4
                          subst e3 e4
                          have hyp : (⟨bp, i, none⟩ : Addr) = adp.add y.toNat := by rw [hadp, hyi, add_at, Nat.zero_add]; rfl
                          rw [hyp, hEE] at cellp
                          clear hm hm0 hyi hi hlt2 h5 e6 hxk5 hr hln edf hbound hmm hdi hadd hyk hEE hpf hxk' hpi hadp hyp
                          have hmk : (Int.tmod (wrap64 (wrap64 (13 * x) + wrap64 (5 * y))) 3 == 0) = mkb x y := rfl
                          go_wp2
                          clear hmk
                          go_roundw
                          case measure => exact HMS2.out
                          case rel => exact ⟨i + 1, _, rfl, HY3, HQ⟩
                        · have q6 : decide (y < (p.2 : Int)) = false := decide_eq_false (by omega)
                          clear hyi hi hlt2 h5 e6 hxk5 hr hln edf hbound hmm hpf hxk' HY HY2
                          go_wp2
                          go_roundw
                          case measure => exact HMS.out
                          case rel => exact ⟨k + 1, _, rfl, HX2, HQ⟩
                    · obtain rfl : k = rows.length := by omega
                      have q3 : decide (x < (rows.length : Int)) = false := decide_eq_false (by omega)
                      clear hk hlt hxk HX
                      go_wp2
                      go_ret
                      exact ⟨rfl, HQ.out.grow⟩
#print axioms apartBools_calls
end Go.Proofs.YtggnnnddnppcpaaHand
/-! text YtggnnnddnppcpaaApartBoolsS -/
namespace Go.Proofs.YtggnnnddnppcpaaHand
open Go.RowKit Go.Proofs.YtggnnnddnppcpaaW.PrintWords Go.Proofs.YtggnnnddnppcpaaW.PrintLast Go.Proofs.YtggnnnddnppcpaaMath Go.Proofs.YtggnnnddnppcpaaOwn
set_option linter.unusedVariables false
set_option linter.unusedSimpArgs false
theorem apartBools_S {W : World} {base : Nat} {ok : Nat → Prop} {A : Option Addr} {n c : Nat} {xs : List (List Bool)} (h : Kd.S (Kd.slice 4 Kd.bool) 41 W base ok (.slice A n c) xs) (hn : xs.length ≤ 1099511627776) (hs : ∀ x ∈ xs, x.length ≤ 1099511627776) :
    Calls Try.prog 52 #[.slice A n c] W fun e w' => e = .returned (.bool true) ∧ Grow (fun b => ok b ∧ b < W.heap.size) W w' := by
  have hl := (Kd.S_reads' h).1
  subst hl
  obtain ⟨rows, D, hrl, hM, hQ, hD, hx⟩ := AQ.ofS Value.bool (fun _ => rfl) (e' := 41) h
  rw [← hrl]
  refine (apartBools_calls rows A c D W hQ (M1.start hD) (by omega) (fun p hp => ?_)).mono ?_
  · obtain ⟨x, hx1, hx2⟩ := hx p hp
    rw [hx2]
    exact hs x hx1
  · rintro e w' ⟨rfl, hg⟩
    exact ⟨rfl, hg.mono hM⟩
end Go.Proofs.YtggnnnddnppcpaaHand
