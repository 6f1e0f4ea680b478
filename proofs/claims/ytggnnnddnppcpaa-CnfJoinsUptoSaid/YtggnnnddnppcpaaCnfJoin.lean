/- What cnf.Join answers. -/
import Derived.Test.YtggnnnddnppcpaaCnfBase
import Derived.Test.YtggnnnddnppcpaaLaid
import Derived.Deep.RegionHeld3
namespace Go.Proofs.YtggnnnddnppcpaaMath
def joinOf (v1 : Int) (l1 : List (List Int)) (v2 : Int) (l2 : List (List Int)) : Int × List (List Int) × Int :=
  if (isFormula v1 l1 && isFormula v2 l2) = true then (max v1 v2, l1 ++ l2, 0) else (0, [], 1)
end Go.Proofs.YtggnnnddnppcpaaMath
namespace Go.Proofs.YtggnnnddnppcpaaHand
open Go.RowKit Go.Proofs.YtggnnnddnppcpaaW.PrintWords Go.Proofs.YtggnnnddnppcpaaW.PrintLast Go.Proofs.YtggnnnddnppcpaaMath
set_option linter.unusedVariables false
set_option linter.unusedSimpArgs false

/-- three variables of a struct's two cells in new blocks -/
structure Three (w : World) (a0 a1 b0 b1 c0 c1 : Value) (W : World) : Prop where
  hz : w.heap.size + 3 ≤ W.heap.size
  hB : Below w.heap.size w W
  f0 : W.cell? ⟨w.heap.size, 0, none⟩ = some a0
  f1 : W.cell? ⟨w.heap.size, 1, none⟩ = some a1
  g0 : W.cell? ⟨w.heap.size + 1, 0, none⟩ = some b0
  g1 : W.cell? ⟨w.heap.size + 1, 1, none⟩ = some b1
  k0 : W.cell? ⟨w.heap.size + 1 + 1, 0, none⟩ = some c0
  k1 : W.cell? ⟨w.heap.size + 1 + 1, 1, none⟩ = some c1
  z0 : W.frozen? ⟨w.heap.size + 1 + 1, 0, none⟩ = false
  z1 : W.frozen? ⟨w.heap.size + 1 + 1, 1, none⟩ = false
theorem three (w : World) (a0 a1 b0 b1 c0 c1 : Value) (t : Nat) (W : World) (h : W = ((w.alloc (.cells #[a0, a1] t)).alloc (.cells #[b0, b1] t)).alloc (.cells #[c0, c1] t)) : Three w a0 a1 b0 b1 c0 c1 W := by
  subst h
  refine ⟨by simp, by repeat (first | exact Below.refl _ _ | apply below_alloc), ?_, ?_, ?_, ?_, ?_, ?_, ?_, ?_⟩ <;> simp [go_sem]
theorem Three.keep {w : World} {a0 a1 b0 b1 c0 c1 : Value} {W W1 : World} (h : Three w a0 a1 b0 b1 c0 c1 W) (k : Below W.heap.size W W1) : Three w a0 a1 b0 b1 c0 c1 W1 := by
  obtain ⟨hz, hB, f0, f1, g0, g1, k0, k1, z0, z1⟩ := h
  have e : ∀ b, b < w.heap.size + 3 → ∀ o, W1.cell? ⟨b, o, none⟩ = W.cell? ⟨b, o, none⟩ := fun b hb o => k.cell (p := ⟨b, o, none⟩) (show b < _ by omega)
  have e2 : ∀ b, b < w.heap.size + 3 → ∀ o, W1.frozen? ⟨b, o, none⟩ = W.frozen? ⟨b, o, none⟩ := fun b hb o => World.frozen?_of_block (a := ⟨b, o, none⟩) (k.block b (show b < _ by omega))
  refine ⟨Nat.le_trans hz k.size, below_then hB hB.size k, ?_, ?_, ?_, ?_, ?_, ?_, ?_, ?_⟩
  · rw [e _ (by omega)]; exact f0
  · rw [e _ (by omega)]; exact f1
  · rw [e _ (by omega)]; exact g0
  · rw [e _ (by omega)]; exact g1
  · rw [e _ (by omega)]; exact k0
  · rw [e _ (by omega)]; exact k1
  · rw [e2 _ (by omega)]; exact z0
  · rw [e2 _ (by omega)]; exact z1
theorem Three.drew {w : World} {a0 a1 b0 b1 c0 c1 : Value} {W : World} (h : Three w a0 a1 b0 b1 c0 c1 W) : Three w a0 a1 b0 b1 c0 c1 W.drew := h.keep (below_drew (Below.refl _ _))
theorem Three.drewN {w : World} {a0 a1 b0 b1 c0 c1 : Value} {W : World} (h : Three w a0 a1 b0 b1 c0 c1 W) (n : Nat) : Three w a0 a1 b0 b1 c0 c1 (W.drewN n) := h.keep (pw_below_drewN (Below.refl _ _) _)

set_option maxHeartbeats 8000000 in
set_option maxRecDepth 100000 in
theorem join_good (v1 v2 : Int) (A1 A2 : Option Addr) (c1 c2 : Nat) (l1 l2 : List (List Int)) (w : World) (hr1 : Kd.C (Kd.slice 3 (Kd.int .i64)) w A1 l1.length l1) (hc1 : l1.length ≤ c1) (hr2 : Kd.C (Kd.slice 3 (Kd.int .i64)) w A2 l2.length l2) (hc2 : l2.length ≤ c2)
    (hn : l1.length + l2.length ≤ 5864062014805) (hs : ∀ c ∈ l1 ++ l2, c.length ≤ 17592186044416) (hf1 : isFormula v1 l1 = true) (hf2 : isFormula v2 l2 = true) :
    Calls Try.prog 21 #[.agg #[.int .i64 v1, .slice A1 l1.length c1], .agg #[.int .i64 v2, .slice A2 l2.length c2]] w fun e w' => ∃ v : Value, e = .returned (.tuple #[.agg #[.int .i64 (joinOf v1 l1 v2 l2).1, v], .int .i64 (joinOf v1 l1 v2 l2).2.2]) ∧ Kd.S (Kd.slice 3 (Kd.int .i64)) 43 w' w.heap.size (fun _ => True) v (joinOf v1 l1 v2 l2).2.1 ∧ Below w.heap.size w w' := by
  have hs1 : ∀ c ∈ l1, c.length ≤ 17592186044416 := fun c h => hs c (by simp [h])
  have hs2 : ∀ c ∈ l2, c.length ≤ 17592186044416 := fun c h => hs c (by simp [h])
  have HR1 := Aside0.mk hr1
  have HR2 := Aside0.mk hr2
  have F1 := fun W h => isFormula_calls v1 A1 c1 l1 W h hc1 (by omega) hs1
  have F2 := fun W h => isFormula_calls v2 A2 c2 l2 W h hc2 (by omega) hs2
  rw [hf1] at F1
  rw [hf2] at F2
  have HF1 := Aside0.mk F1
  have HF2 := Aside0.mk F2
  have HE : Aside0 (joinOf v1 l1 v2 l2 = (max v1 v2, l1 ++ l2, 0)) := ⟨by unfold joinOf; rw [hf1, hf2]; rfl⟩
  have HC1 := Aside0.mk hc1
  have HC2 := Aside0.mk hc2
  have HN := Aside0.mk hn
  have HS1 := Aside0.mk hs1
  have HS2 := Aside0.mk hs2
  clear F1 F2 hr1 hr2 hc1 hc2 hn hs hs1 hs2 hf1 hf2
  go_enter Try.func21, Try.ntmps21
  go_wp2_with fail
  obtain ⟨W0, hW0⟩ : ∃ W0, W0 = ((w.alloc (.cells #[.int .i64 v1, .slice A1 l1.length c1] 24)).alloc (.cells #[.int .i64 v2, .slice A2 l2.length c2] 24)).alloc (.cells #[.int .i64 0, .slice none 0 0] 24) := ⟨_, rfl⟩
  rw [← hW0]
  have T0 := three w _ _ _ _ _ _ _ W0 hW0
  clear hW0
  (with_reducible refine (HF1.out _ (Kd.C_below HR1.out T0.hB)).mono ?_)
  rintro e W1 ⟨rfl, hb⟩
  have T1 := T0.keep hb
  have g0 := T1.g0
  have g1 := T1.g1
  clear T0 hb
  go_wp2_with fail
  (with_reducible refine (HF2.out _ (Kd.C_below HR2.out T1.hB)).mono ?_)
  rintro e W2 ⟨rfl, hb⟩
  have T2 := T1.keep hb
  clear T1 hb g0 g1
  have HT := Aside0.mk T2
  clear T2
  have f0 := HT.out.f0
  have f1 := HT.out.f1
  have g0 := HT.out.g0
  have g1 := HT.out.g1
  have k0 := HT.out.k0
  have k1 := HT.out.k1
  have z0 := HT.out.z0
  have z1 := HT.out.z1
  go_wp2_with fail
  have hkeep : ∀ W, Three w (.int .i64 v1) (.slice A1 l1.length c1) (.int .i64 v2) (.slice A2 l2.length c2) (.int .i64 0) (.slice none 0 0) W → W.cell? ⟨w.heap.size, 0, none⟩ = some (.int .i64 v1) ∧ W.cell? ⟨w.heap.size, 1, none⟩ = some (.slice A1 l1.length c1) ∧ W.cell? ⟨w.heap.size + 1, 0, none⟩ = some (.int .i64 v2) ∧ W.cell? ⟨w.heap.size + 1, 1, none⟩ = some (.slice A2 l2.length c2) := fun W h => ⟨h.f0, h.f1, h.g0, h.g1⟩
  have HK := Aside0.mk hkeep
  clear hkeep
  go_region_held3 (fun w' => w'.cell? ⟨w.heap.size, 0, none⟩ = some (.int .i64 v1) ∧ w'.cell? ⟨w.heap.size, 1, none⟩ = some (.slice A1 l1.length c1) ∧ w'.cell? ⟨w.heap.size + 1, 0, none⟩ = some (.int .i64 v2) ∧ w'.cell? ⟨w.heap.size + 1, 1, none⟩ = some (.slice A2 l2.length c2))
    (first | exact HK.out _ HT4.out | exact HK.out _ HT3.out | exact HK.out _ HT.out | exact HK.out _ HT.out.drew | (refine ⟨?_, ?_, ?_, ?_⟩ <;> simp [go_sem, HT4.out.f0, HT4.out.f1, HT4.out.g0, HT4.out.g1]))
    (first
    | (go_at_call 59; (with_reducible refine (laid_calls A1 c1 [] l1 (.slice none 0 0) W2 _ (Kd.C_below HR1.out HT.out.hB) HC1.out ?hB ?ho ?hn HS1.out).mono ?_); (case hB => first | exact below_drew (Below.refl _ _) | exact below_drew (below_drew (Below.refl _ _)) | exact Below.refl _ _); (case ho => exact Kd.S_nil _ _ _ _ _); (case hn => have := HN.out; simp; omega); rintro e w3 ⟨v3, rfl, hs3, hb3⟩; obtain ⟨Ao3, co3, eo3⟩ := Kd.S_slice hs3; subst eo3; have HT3 := Aside0.mk (HT.out.keep hb3); have HS3 := Aside0.mk hs3; have HB3 := Aside0.mk hb3; clear hs3 hb3)
    | (go_at_call 59; (with_reducible refine (laid_calls A2 c2 ([] ++ l1) l2 _ W2 _ (Kd.C_below HR2.out HT.out.hB) HC2.out ?hB ?ho ?hn HS2.out).mono ?_); (case hB => first | exact HB3.out | exact below_drew HB3.out | exact below_drew (below_drew HB3.out)); (case ho => first | exact HS3.out | exact Kd.S_drew HS3.out); (case hn => have := HN.out; simp; omega); rintro e w4 ⟨v4, rfl, hs4, hb4⟩; obtain ⟨Ao4, co4, eo4⟩ := Kd.S_slice hs4; subst eo4; have HT4 := Aside0.mk (HT.out.keep hb4); have k0'' := HT4.out.k0; have k1'' := HT4.out.k1; have z0'' := HT4.out.z0; have z1'' := HT4.out.z1; have HS4 := Aside0.mk hs4; clear hs4 hb4))
  all_goals
    go_wp2_with fail
    have HL : Aside0 (Kd.S (Kd.slice 3 (Kd.int .i64)) 43 ((w4.setCell ⟨w.heap.size + 1 + 1, 0, none⟩ (.int .i64 (max v1 v2))).setCell ⟨w.heap.size + 1 + 1, 1, none⟩ (.slice Ao4 ([] ++ l1 ++ l2).length co4)) w.heap.size (fun _ => True) (.slice Ao4 ([] ++ l1 ++ l2).length co4) ([] ++ l1 ++ l2)) := by
      have hb := Kd.S_bound HS4.out
      have hz := HT.out.hz
      exact ⟨Kd.S_mono (Kd.S_lower (Kd.S_far (p := ⟨w.heap.size + 1 + 1, 1, none⟩) (Kd.S_far (p := ⟨w.heap.size + 1 + 1, 0, none⟩) hb (fun k hk => by have := hk.2.1; show k ≠ w.heap.size + 1 + 1; omega) _) (fun k hk => by have := hk.2.1; show k ≠ w.heap.size + 1 + 1; omega) _) (by omega)) (fun _ _ => trivial)⟩
    refine bodyPost_ret (v := .tuple #[.agg #[.int .i64 (max v1 v2), .slice Ao4 ([] ++ l1 ++ l2).length co4], .int .i64 0]) (by simp [results, Try.results21, go_sem, k0'', k1'']) rfl ?_
    rw [HE.out]
    exact ⟨_, rfl, by simpa using HL.out, (HT4.out.hB.setCell (p := ⟨w.heap.size + 1 + 1, 0, none⟩) (show w.heap.size ≤ w.heap.size + 1 + 1 by omega) _).setCell (p := ⟨w.heap.size + 1 + 1, 1, none⟩) (show w.heap.size ≤ w.heap.size + 1 + 1 by omega) _⟩

set_option maxHeartbeats 8000000 in
set_option maxRecDepth 100000 in
theorem join_bad (v1 v2 : Int) (A1 A2 : Option Addr) (c1 c2 : Nat) (l1 l2 : List (List Int)) (w : World) (hr1 : Kd.C (Kd.slice 3 (Kd.int .i64)) w A1 l1.length l1) (hc1 : l1.length ≤ c1) (hr2 : Kd.C (Kd.slice 3 (Kd.int .i64)) w A2 l2.length l2) (hc2 : l2.length ≤ c2)
    (hn : l1.length + l2.length ≤ 5864062014805) (hs : ∀ c ∈ l1 ++ l2, c.length ≤ 17592186044416) (hbad : (isFormula v1 l1 && isFormula v2 l2) = false) :
    Calls Try.prog 21 #[.agg #[.int .i64 v1, .slice A1 l1.length c1], .agg #[.int .i64 v2, .slice A2 l2.length c2]] w fun e w' => ∃ v : Value, e = .returned (.tuple #[.agg #[.int .i64 (joinOf v1 l1 v2 l2).1, v], .int .i64 (joinOf v1 l1 v2 l2).2.2]) ∧ Kd.S (Kd.slice 3 (Kd.int .i64)) 43 w' w.heap.size (fun _ => True) v (joinOf v1 l1 v2 l2).2.1 ∧ Below w.heap.size w w' := by
  have hs1 : ∀ c ∈ l1, c.length ≤ 17592186044416 := fun c h => hs c (by simp [h])
  have hs2 : ∀ c ∈ l2, c.length ≤ 17592186044416 := fun c h => hs c (by simp [h])
  have HR1 := Aside0.mk hr1
  have HR2 := Aside0.mk hr2
  have F1 := fun W h => isFormula_calls v1 A1 c1 l1 W h hc1 (by omega) hs1
  have F2 := fun W h => isFormula_calls v2 A2 c2 l2 W h hc2 (by omega) hs2
  have HE : Aside0 (joinOf v1 l1 v2 l2 = (0, [], 1)) := ⟨by unfold joinOf; rw [hbad]; rfl⟩
  cases hf1 : isFormula v1 l1 with
  | false =>
    rw [hf1] at F1
    have HF1 := Aside0.mk F1
    clear F1 F2 hr1 hr2 hc1 hc2 hn hs hs1 hs2 hf1 hbad
    go_enter Try.func21, Try.ntmps21
    go_wp2_with fail
    obtain ⟨W0, hW0⟩ : ∃ W0, W0 = ((w.alloc (.cells #[.int .i64 v1, .slice A1 l1.length c1] 24)).alloc (.cells #[.int .i64 v2, .slice A2 l2.length c2] 24)).alloc (.cells #[.int .i64 0, .slice none 0 0] 24) := ⟨_, rfl⟩
    rw [← hW0]
    have T0 := three w _ _ _ _ _ _ _ W0 hW0
    clear hW0
    (with_reducible refine (HF1.out _ (Kd.C_below HR1.out T0.hB)).mono ?_)
    rintro e W1 ⟨rfl, hb⟩
    have HT := Aside0.mk (T0.keep hb)
    clear T0 hb
    have k0 := HT.out.k0
    have k1 := HT.out.k1
    have z0 := HT.out.z0
    have z1 := HT.out.z1
    go_wp2_with fail
    refine bodyPost_ret (v := .tuple #[.agg #[.int .i64 0, .slice none 0 0], .int .i64 1]) (by simp [results, Try.results21, go_sem, k0, k1]) rfl ?_
    rw [HE.out]
    exact ⟨_, rfl, Kd.S_nil _ _ _ _ _, (HT.out.hB.setCell (p := ⟨w.heap.size + 1 + 1, 0, none⟩) (show w.heap.size ≤ w.heap.size + 1 + 1 by omega) _).setCell (p := ⟨w.heap.size + 1 + 1, 1, none⟩) (show w.heap.size ≤ w.heap.size + 1 + 1 by omega) _⟩
  | true =>
    rw [hf1, Bool.true_and] at hbad
    rw [hf1] at F1
    rw [hbad] at F2
    have HF1 := Aside0.mk F1
    have HF2 := Aside0.mk F2
    clear F1 F2 hr1 hr2 hc1 hc2 hn hs hs1 hs2 hf1 hbad
    go_enter Try.func21, Try.ntmps21
    go_wp2_with fail
    obtain ⟨W0, hW0⟩ : ∃ W0, W0 = ((w.alloc (.cells #[.int .i64 v1, .slice A1 l1.length c1] 24)).alloc (.cells #[.int .i64 v2, .slice A2 l2.length c2] 24)).alloc (.cells #[.int .i64 0, .slice none 0 0] 24) := ⟨_, rfl⟩
    rw [← hW0]
    have T0 := three w _ _ _ _ _ _ _ W0 hW0
    clear hW0
    (with_reducible refine (HF1.out _ (Kd.C_below HR1.out T0.hB)).mono ?_)
    rintro e W1 ⟨rfl, hb⟩
    have T1 := T0.keep hb
    have g0 := T1.g0
    have g1 := T1.g1
    clear T0 hb
    go_wp2_with fail
    (with_reducible refine (HF2.out _ (Kd.C_below HR2.out T1.hB)).mono ?_)
    rintro e W2 ⟨rfl, hb⟩
    have HT := Aside0.mk (T1.keep hb)
    clear T1 hb g0 g1
    have k0 := HT.out.k0
    have k1 := HT.out.k1
    have z0 := HT.out.z0
    have z1 := HT.out.z1
    go_wp2_with fail
    refine bodyPost_ret (v := .tuple #[.agg #[.int .i64 0, .slice none 0 0], .int .i64 1]) (by simp [results, Try.results21, go_sem, k0, k1]) rfl ?_
    rw [HE.out]
    exact ⟨_, rfl, Kd.S_nil _ _ _ _ _, (HT.out.hB.setCell (p := ⟨w.heap.size + 1 + 1, 0, none⟩) (show w.heap.size ≤ w.heap.size + 1 + 1 by omega) _).setCell (p := ⟨w.heap.size + 1 + 1, 1, none⟩) (show w.heap.size ≤ w.heap.size + 1 + 1 by omega) _⟩

theorem join_calls' (v1 v2 : Int) (A1 A2 : Option Addr) (c1 c2 : Nat) (l1 l2 : List (List Int)) (w : World) (hr1 : Kd.C (Kd.slice 3 (Kd.int .i64)) w A1 l1.length l1) (hc1 : l1.length ≤ c1) (hr2 : Kd.C (Kd.slice 3 (Kd.int .i64)) w A2 l2.length l2) (hc2 : l2.length ≤ c2)
    (hn : l1.length + l2.length ≤ 5864062014805) (hs : ∀ c ∈ l1 ++ l2, c.length ≤ 17592186044416) :
    Calls Try.prog 21 #[.agg #[.int .i64 v1, .slice A1 l1.length c1], .agg #[.int .i64 v2, .slice A2 l2.length c2]] w fun e w' => ∃ v : Value, e = .returned (.tuple #[.agg #[.int .i64 (joinOf v1 l1 v2 l2).1, v], .int .i64 (joinOf v1 l1 v2 l2).2.2]) ∧ Kd.S (Kd.slice 3 (Kd.int .i64)) 43 w' w.heap.size (fun _ => True) v (joinOf v1 l1 v2 l2).2.1 ∧ Below w.heap.size w w' := by
  cases h : (isFormula v1 l1 && isFormula v2 l2) with
  | false => exact join_bad v1 v2 A1 A2 c1 c2 l1 l2 w hr1 hc1 hr2 hc2 hn hs h
  | true =>
    rw [Bool.and_eq_true] at h
    exact join_good v1 v2 A1 A2 c1 c2 l1 l2 w hr1 hc1 hr2 hc2 hn hs h.1 h.2
end Go.Proofs.YtggnnnddnppcpaaHand
