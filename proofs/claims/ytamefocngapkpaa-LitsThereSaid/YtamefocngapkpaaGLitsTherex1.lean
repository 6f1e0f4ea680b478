/- The walk of LitsThere: for every two ints the call returns true; nothing in memory turns. -/
import Derived.Test.YtamefocngapkpaaPLitsTellsx1
import Derived.Test.YtamefocngapkpaaMath
namespace Go.Proofs.Ytamefocngapkpaa.PLitsThere
open Go.RowKit Go.Proofs.YtamefocngapkpaaW.PrintWords Go.Proofs.YtamefocngapkpaaW.PrintLast Go.Proofs.YtamefocngapkpaaW.PrintMore Go.Proofs.Ytamefocngapkpaa.PLitsTells Go.Proofs.YtamefocngapkpaaMath
set_option linter.unusedVariables false
set_option linter.unusedSimpArgs false
theorem lits_Formed_eq (l : Int) : lits_Formed.f l = some (formed l) := by
  unfold lits_Formed.f formed
  by_cases h0 : l = 0
  · simp [h0]
  · by_cases h1 : l ≥ -1048576
    · rw [if_neg h0, if_pos h1]; congr 1; rw [Bool.eq_iff_iff]; simp; omega
    · rw [if_neg h0, if_neg h1]; congr 1; symm; simp; omega
theorem lits_Var_eq (l : Int) : lits_Var.f l = some (varOf l) := by
  unfold lits_Var.f varOf
  rw [lits_Formed_eq]
  simp only [Option.bind_some]
  by_cases h : formed l = true
  · have := formed_bd h
    rw [if_pos h, if_pos h, w64 (by omega) (by omega)]
    split <;> rfl
  · rw [if_neg h, if_neg h]
theorem lits_Index_eq (l : Int) : lits_Index.f l = some (idxOf l) := by
  unfold lits_Index.f idxOf
  rw [lits_Formed_eq]
  simp only [Option.bind_some]
  by_cases h : formed l = true
  · have := formed_bd h
    have e1 : wrap64 (wrap64 (2 * wrap64 (-l)) - 1) = -2 * l - 1 := by unfold wrap64; omega
    have e2 : wrap64 (wrap64 (2 * l) - 2) = 2 * l - 2 := by unfold wrap64; omega
    rw [if_pos h, if_pos h, e1, e2]
    split <;> rfl
  · rw [if_neg h, if_neg h]
theorem lits_At_eq (k : Nat) (i : Int) (hi : (Lit.int .i64 i).wf = true) : lits_At.f (k + 1) i = some (atOf i) := by
  have hb := wf_lo hi
  unfold lits_At.f atOf
  by_cases h0 : i < 0
  · rw [if_pos h0, if_neg (by omega)]
    simp [lits_At.j0]
  · rw [if_neg h0]
    by_cases h1 : i ≥ 2097152
    · rw [if_neg (by omega)]
      simp [lits_At.j0, h1]
    · rw [if_pos ⟨by omega, by omega⟩, decide_eq_false h1]
      simp only [lits_At.j0, Bool.false_eq_true, if_false]
      rw [Int.tmod_eq_emod_of_nonneg (by omega), Int.tdiv_eq_ediv_of_nonneg (by omega)]
      have e1 : wrap64 (wrap64 (i / 2) + 1) = i / 2 + 1 := by unfold wrap64; omega
      have e2 : wrap64 (-(i / 2 + 1)) = -(i / 2 + 1) := by unfold wrap64; omega
      rw [e1, e2]
      split <;> rfl

theorem formed_calls (a : Int) (b : Bool) (w : World) (h : formed a = b) : Calls Try.prog 15 #[.int .i64 a] w fun e w' => e = .returned (.bool b) ∧ Drawn0 w w' :=
  lits_Formed.calls a b w (by rw [lits_Formed_eq, h])
theorem var_calls (a r : Int) (w : World) (h : varOf a = r) : Calls Try.prog 16 #[.int .i64 a] w fun e w' => e = .returned (.int .i64 r) ∧ Drawn0 w w' :=
  lits_Var.calls a r w (by rw [lits_Var_eq, h])
theorem index_calls (a r : Int) (w : World) (h : idxOf a = r) : Calls Try.prog 17 #[.int .i64 a] w fun e w' => e = .returned (.int .i64 r) ∧ Drawn0 w w' :=
  lits_Index.calls a r w (by rw [lits_Index_eq, h])
theorem at_calls (i r : Int) (w : World) (hi : (Lit.int .i64 i).wf = true) (h : atOf i = r) : Calls Try.prog 18 #[.int .i64 i] w fun e w' => e = .returned (.int .i64 r) ∧ Drawn0 w w' :=
  lits_At.calls 1 i r w (by rw [lits_At_eq 0 i hi, h])


set_option maxHeartbeats 1000000 in
theorem there_none (l m : Int) (w : World) (h : formed l = false) :
    Calls Try.prog 5 #[.int .i64 l, .int .i64 m] w fun e w' => e = .returned (.bool true) ∧ Drawn0 w w' := by
  have F := fun w => formed_calls l false w h
  have X := fun w => index_calls l (-1) w (by unfold idxOf; rw [h]; rfl)
  have V := fun w => var_calls l 0 w (by unfold varOf; rw [h]; rfl)
  have T := fun w => at_calls 0 1 w (by decide) (by decide)
  have h3 : ¬ (l ≠ 0 ∧ -1048576 ≤ l ∧ l ≤ 1048576) := fun h4 => by rw [formed_iff.2 h4] at h; cases h
  by_cases a : l = 0
  · have a1 : (l == 0) = true := beq_iff_eq.mpr a
    clear a h h3
    go_enter Try.func5, Try.ntmps5
    go_wp2_with (first | (go_at_call 15; (with_reducible refine (F _).mono ?_); rintro e w' ⟨rfl, ⟨nd, rfl⟩⟩) | (go_at_call 17; (with_reducible refine (X _).mono ?_); rintro e w' ⟨rfl, ⟨nd, rfl⟩⟩) | (go_at_call 16; (with_reducible refine (V _).mono ?_); rintro e w' ⟨rfl, ⟨nd, rfl⟩⟩) | (go_at_call 18; (with_reducible refine (T _).mono ?_); rintro e w' ⟨rfl, ⟨nd, rfl⟩⟩))
    go_ret
    exact ⟨by first | rfl | (simp; done) | (simp [*]; done), by repeat (first | exact Drawn0.refl _ | apply Drawn0.step)⟩
  · have a1 : (l == 0) = false := beq_eq_false_iff_ne.mpr a
    by_cases b : l < -1048576
    · have a2 : decide (l < -1048576) = true := decide_eq_true b
      clear a b h h3
      go_enter Try.func5, Try.ntmps5
      go_wp2_with (first | (go_at_call 15; (with_reducible refine (F _).mono ?_); rintro e w' ⟨rfl, ⟨nd, rfl⟩⟩) | (go_at_call 17; (with_reducible refine (X _).mono ?_); rintro e w' ⟨rfl, ⟨nd, rfl⟩⟩) | (go_at_call 16; (with_reducible refine (V _).mono ?_); rintro e w' ⟨rfl, ⟨nd, rfl⟩⟩) | (go_at_call 18; (with_reducible refine (T _).mono ?_); rintro e w' ⟨rfl, ⟨nd, rfl⟩⟩))
      go_ret
      exact ⟨by first | rfl | (simp; done) | (simp [*]; done), by repeat (first | exact Drawn0.refl _ | apply Drawn0.step)⟩
    · have a2 : decide (l < -1048576) = false := decide_eq_false b
      have a3 : decide (1048576 < l) = true := decide_eq_true (by omega)
      clear a b h h3
      go_enter Try.func5, Try.ntmps5
      go_wp2_with (first | (go_at_call 15; (with_reducible refine (F _).mono ?_); rintro e w' ⟨rfl, ⟨nd, rfl⟩⟩) | (go_at_call 17; (with_reducible refine (X _).mono ?_); rintro e w' ⟨rfl, ⟨nd, rfl⟩⟩) | (go_at_call 16; (with_reducible refine (V _).mono ?_); rintro e w' ⟨rfl, ⟨nd, rfl⟩⟩) | (go_at_call 18; (with_reducible refine (T _).mono ?_); rintro e w' ⟨rfl, ⟨nd, rfl⟩⟩))
      go_ret
      exact ⟨by first | rfl | (simp; done) | (simp [*]; done), by repeat (first | exact Drawn0.refl _ | apply Drawn0.step)⟩

set_option maxHeartbeats 4000000 in
theorem there_some (l m i o v k : Int) (w : World)
    (F : ∀ w, Calls Try.prog 15 #[.int .i64 l] w fun e w' => e = .returned (.bool true) ∧ Drawn0 w w') (F2 : ∀ w, Calls Try.prog 15 #[.int .i64 (wrap64 (-l))] w fun e w' => e = .returned (.bool true) ∧ Drawn0 w w')
    (X : ∀ w, Calls Try.prog 17 #[.int .i64 l] w fun e w' => e = .returned (.int .i64 i) ∧ Drawn0 w w') (X2 : ∀ w, Calls Try.prog 17 #[.int .i64 (wrap64 (-l))] w fun e w' => e = .returned (.int .i64 o) ∧ Drawn0 w w')
    (V : ∀ w, Calls Try.prog 16 #[.int .i64 l] w fun e w' => e = .returned (.int .i64 v) ∧ Drawn0 w w') (V2 : ∀ w, Calls Try.prog 16 #[.int .i64 (wrap64 (-l))] w fun e w' => e = .returned (.int .i64 v) ∧ Drawn0 w w')
    (T : ∀ w, Calls Try.prog 18 #[.int .i64 i] w fun e w' => e = .returned (.int .i64 l) ∧ Drawn0 w w') (T2 : ∀ w, Calls Try.prog 18 #[.int .i64 o] w fun e w' => e = .returned (.int .i64 (wrap64 (-l))) ∧ Drawn0 w w')
    (XM : ∀ w, Calls Try.prog 17 #[.int .i64 m] w fun e w' => e = .returned (.int .i64 k) ∧ Drawn0 w w')
    (a1 : (l == 0) = false) (a2 : decide (l < -1048576) = false) (a3 : decide (1048576 < l) = false) (a4 : decide (v < 1) = false) (a5 : decide (i < 0) = false) (a6 : decide (2097152 ≤ i) = false)
    (a7 : (wrap64 (i.tdiv 2) != wrap64 (o.tdiv 2)) = false) (a8 : (i == o) = false) (b : Bool) (a9 : decide (i < o) = b) (a10 : decide (0 < l) = b)
    (FM : ∀ w, Calls Try.prog 15 #[.int .i64 m] w fun e w' => e = .returned (.bool false) ∧ Drawn0 w w') (a11 : (k == -1) = true) :
    Calls Try.prog 5 #[.int .i64 l, .int .i64 m] w fun e w' => e = .returned (.bool true) ∧ Drawn0 w w' := by
    go_enter Try.func5, Try.ntmps5
    go_wp2_with (first | (go_at_call 15; (with_reducible refine (F _).mono ?_); rintro e w' ⟨rfl, ⟨nd, rfl⟩⟩) | (go_at_call 15; (with_reducible refine (F2 _).mono ?_); rintro e w' ⟨rfl, ⟨nd, rfl⟩⟩) | (go_at_call 17; (with_reducible refine (X _).mono ?_); rintro e w' ⟨rfl, ⟨nd, rfl⟩⟩) | (go_at_call 17; (with_reducible refine (X2 _).mono ?_); rintro e w' ⟨rfl, ⟨nd, rfl⟩⟩) | (go_at_call 16; (with_reducible refine (V _).mono ?_); rintro e w' ⟨rfl, ⟨nd, rfl⟩⟩) | (go_at_call 16; (with_reducible refine (V2 _).mono ?_); rintro e w' ⟨rfl, ⟨nd, rfl⟩⟩) | (go_at_call 18; (with_reducible refine (T _).mono ?_); rintro e w' ⟨rfl, ⟨nd, rfl⟩⟩) | (go_at_call 18; (with_reducible refine (T2 _).mono ?_); rintro e w' ⟨rfl, ⟨nd, rfl⟩⟩) | (go_at_call 17; (with_reducible refine (XM _).mono ?_); rintro e w' ⟨rfl, ⟨nd, rfl⟩⟩) | (go_at_call 15; (with_reducible refine (FM _).mono ?_); rintro e w' ⟨rfl, ⟨nd, rfl⟩⟩))
    go_ret
    exact ⟨by first | rfl | (simp; done) | (simp [*]; done), by repeat (first | exact Drawn0.refl _ | apply Drawn0.step)⟩

set_option maxHeartbeats 4000000 in
theorem there_both (l m i o v k : Int) (w : World)
    (F : ∀ w, Calls Try.prog 15 #[.int .i64 l] w fun e w' => e = .returned (.bool true) ∧ Drawn0 w w') (F2 : ∀ w, Calls Try.prog 15 #[.int .i64 (wrap64 (-l))] w fun e w' => e = .returned (.bool true) ∧ Drawn0 w w')
    (X : ∀ w, Calls Try.prog 17 #[.int .i64 l] w fun e w' => e = .returned (.int .i64 i) ∧ Drawn0 w w') (X2 : ∀ w, Calls Try.prog 17 #[.int .i64 (wrap64 (-l))] w fun e w' => e = .returned (.int .i64 o) ∧ Drawn0 w w')
    (V : ∀ w, Calls Try.prog 16 #[.int .i64 l] w fun e w' => e = .returned (.int .i64 v) ∧ Drawn0 w w') (V2 : ∀ w, Calls Try.prog 16 #[.int .i64 (wrap64 (-l))] w fun e w' => e = .returned (.int .i64 v) ∧ Drawn0 w w')
    (T : ∀ w, Calls Try.prog 18 #[.int .i64 i] w fun e w' => e = .returned (.int .i64 l) ∧ Drawn0 w w') (T2 : ∀ w, Calls Try.prog 18 #[.int .i64 o] w fun e w' => e = .returned (.int .i64 (wrap64 (-l))) ∧ Drawn0 w w')
    (XM : ∀ w, Calls Try.prog 17 #[.int .i64 m] w fun e w' => e = .returned (.int .i64 k) ∧ Drawn0 w w')
    (a1 : (l == 0) = false) (a2 : decide (l < -1048576) = false) (a3 : decide (1048576 < l) = false) (a4 : decide (v < 1) = false) (a5 : decide (i < 0) = false) (a6 : decide (2097152 ≤ i) = false)
    (a7 : (wrap64 (i.tdiv 2) != wrap64 (o.tdiv 2)) = false) (a8 : (i == o) = false) (b : Bool) (a9 : decide (i < o) = b) (a10 : decide (0 < l) = b) (vm : Int)
    (FM : ∀ w, Calls Try.prog 15 #[.int .i64 m] w fun e w' => e = .returned (.bool true) ∧ Drawn0 w w') (VM : ∀ w, Calls Try.prog 16 #[.int .i64 m] w fun e w' => e = .returned (.int .i64 vm) ∧ Drawn0 w w')
    (b1 : ((k == i) == (l == m)) = true) (b2 : ((wrap64 (k.tdiv 2) == wrap64 (i.tdiv 2)) == (v == vm)) = true) (b3 : (decide (wrap64 (k.tdiv 2) < wrap64 (i.tdiv 2)) == decide (vm < v)) = true) :
    Calls Try.prog 5 #[.int .i64 l, .int .i64 m] w fun e w' => e = .returned (.bool true) ∧ Drawn0 w w' := by
    go_enter Try.func5, Try.ntmps5
    go_wp2_with (first | (go_at_call 15; (with_reducible refine (F _).mono ?_); rintro e w' ⟨rfl, ⟨nd, rfl⟩⟩) | (go_at_call 15; (with_reducible refine (F2 _).mono ?_); rintro e w' ⟨rfl, ⟨nd, rfl⟩⟩) | (go_at_call 17; (with_reducible refine (X _).mono ?_); rintro e w' ⟨rfl, ⟨nd, rfl⟩⟩) | (go_at_call 17; (with_reducible refine (X2 _).mono ?_); rintro e w' ⟨rfl, ⟨nd, rfl⟩⟩) | (go_at_call 16; (with_reducible refine (V _).mono ?_); rintro e w' ⟨rfl, ⟨nd, rfl⟩⟩) | (go_at_call 16; (with_reducible refine (V2 _).mono ?_); rintro e w' ⟨rfl, ⟨nd, rfl⟩⟩) | (go_at_call 18; (with_reducible refine (T _).mono ?_); rintro e w' ⟨rfl, ⟨nd, rfl⟩⟩) | (go_at_call 18; (with_reducible refine (T2 _).mono ?_); rintro e w' ⟨rfl, ⟨nd, rfl⟩⟩) | (go_at_call 17; (with_reducible refine (XM _).mono ?_); rintro e w' ⟨rfl, ⟨nd, rfl⟩⟩) | (go_at_call 15; (with_reducible refine (FM _).mono ?_); rintro e w' ⟨rfl, ⟨nd, rfl⟩⟩) | (go_at_call 16; (with_reducible refine (VM _).mono ?_); rintro e w' ⟨rfl, ⟨nd, rfl⟩⟩))
    go_ret
    exact ⟨by first | rfl | (simp; done) | (simp [*]; done), by repeat (first | exact Drawn0.refl _ | apply Drawn0.step)⟩

theorem halves {a : Int} (h0 : 0 ≤ a) (h1 : a < 2097152) : wrap64 (a.tdiv 2) = a / 2 := by
  rw [Int.tdiv_eq_ediv_of_nonneg h0, w64 (by omega) (by omega)]
theorem idx_bd {l : Int} (h : formed l = true) : 0 ≤ idxOf l ∧ idxOf l < 2097152 ∧ idxOf l / 2 = varOf l - 1 ∧ 1 ≤ varOf l ∧ ((l < 0 ∧ idxOf l = -2 * l - 1) ∨ (0 < l ∧ idxOf l = 2 * l - 2)) := by
  have hb := formed_iff.1 h
  unfold idxOf varOf
  rw [if_pos h, if_pos h]
  split <;> omega
theorem at_idx {l : Int} (h : formed l = true) : atOf (idxOf l) = l := by
  obtain ⟨h0, h1, _, _, h2⟩ := idx_bd h
  unfold atOf
  rw [if_pos ⟨h0, h1⟩]
  rcases h2 with ⟨h3, h4⟩ | ⟨h3, h4⟩
  · rw [if_pos (by omega)]; omega
  · rw [if_neg (by omega)]; omega
theorem there (l m : Int) (w : World) : Calls Try.prog 5 #[.int .i64 l, .int .i64 m] w fun e w' => e = .returned (.bool true) ∧ Drawn0 w w' := by
  cases hf : formed l with
  | false => exact there_none l m w hf
  | true =>
    have hb := formed_iff.1 hf
    have en : wrap64 (-l) = -l := w64 (by omega) (by omega)
    have hn : formed (-l) = true := by rw [formed_neg, hf]
    obtain ⟨i0, i1, i2, i3, i4⟩ := idx_bd hf
    obtain ⟨o0, o1, o2, o3, o4⟩ := idx_bd hn
    have ev : varOf (-l) = varOf l := by
      unfold varOf
      rw [if_pos hf, if_pos hn]
      split <;> split <;> omega
    have wf : ∀ {a : Int}, 0 ≤ a → a < 2097152 → (Lit.int .i64 a).wf = true := fun h0 h1 => WalkArith.wf_i64 (by omega)
    have A := there_some l m (idxOf l) (idxOf (-l)) (varOf l) (idxOf m) w (fun w => formed_calls l true w hf) (fun w => formed_calls _ true w (by rw [en, hn])) (fun w => index_calls l _ w rfl) (fun w => index_calls _ _ w (by rw [en])) (fun w => var_calls l _ w rfl) (fun w => var_calls _ _ w (by rw [en, ev]))
      (fun w => at_calls _ _ w (wf i0 i1) (at_idx hf)) (fun w => at_calls _ _ w (wf o0 o1) (by rw [en, at_idx hn])) (fun w => index_calls m _ w rfl) (beq_eq_false_iff_ne.mpr hb.1) (decide_eq_false (by omega)) (decide_eq_false (by omega)) (decide_eq_false (by omega)) (decide_eq_false (by omega)) (decide_eq_false (by omega))
      (by rw [halves i0 i1, halves o0 o1, i2, o2, ev]; simp) (beq_eq_false_iff_ne.mpr (by omega)) (decide (0 < l)) (by rw [Bool.eq_iff_iff]; simp; omega) rfl
    have B := there_both l m (idxOf l) (idxOf (-l)) (varOf l) (idxOf m) w (fun w => formed_calls l true w hf) (fun w => formed_calls _ true w (by rw [en, hn])) (fun w => index_calls l _ w rfl) (fun w => index_calls _ _ w (by rw [en])) (fun w => var_calls l _ w rfl) (fun w => var_calls _ _ w (by rw [en, ev]))
      (fun w => at_calls _ _ w (wf i0 i1) (at_idx hf)) (fun w => at_calls _ _ w (wf o0 o1) (by rw [en, at_idx hn])) (fun w => index_calls m _ w rfl) (beq_eq_false_iff_ne.mpr hb.1) (decide_eq_false (by omega)) (decide_eq_false (by omega)) (decide_eq_false (by omega)) (decide_eq_false (by omega)) (decide_eq_false (by omega))
      (by rw [halves i0 i1, halves o0 o1, i2, o2, ev]; simp) (beq_eq_false_iff_ne.mpr (by omega)) (decide (0 < l)) (by rw [Bool.eq_iff_iff]; simp; omega) rfl
    cases hm : formed m with
    | false => exact A (fun w => formed_calls m false w hm) (by unfold idxOf; rw [hm]; rfl)
    | true =>
      obtain ⟨k0, k1, k2, k3, k4⟩ := idx_bd hm
      refine B (varOf m) (fun w => formed_calls m true w hm) (fun w => var_calls m _ w rfl) ?_ ?_ ?_
      · rw [beq_iff_eq, Bool.eq_iff_iff]; simp only [beq_iff_eq]; omega
      · rw [halves k0 k1, halves i0 i1, beq_iff_eq, Bool.eq_iff_iff]; simp only [beq_iff_eq]; omega
      · rw [halves k0 k1, halves i0 i1, beq_iff_eq, Bool.eq_iff_iff]; simp only [decide_eq_true_eq]; omega

/-- What the law computes. -/
def depotlaw01_LitsThere.f (a0 : Int) (a1 : Int) : Option (Bool) := some true
theorem depotlaw01_LitsThere.calls (a0 : Int) (a1 : Int) (r : Bool) (w : World) (h : depotlaw01_LitsThere.f a0 a1 = some r) :
    Calls Try.prog 5 #[.int .i64 a0, .int .i64 a1] w fun e w' => e = .returned (.bool r) ∧ Drawn0 w w' := by
  obtain rfl := Option.some.inj h
  exact there a0 a1 w

end Go.Proofs.Ytamefocngapkpaa.PLitsThere
