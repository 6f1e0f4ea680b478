/- One text of the claim of AtmostCounts: its functions as plain Lean functions, each with the proof that the code comes to these answers. Laid by standin.py out of the print of the seat; what the print does not take is proved by hand. -/
import Derived.Test.YtlemkghpcbkcpaaGAtmostCountsx0
namespace Go.Proofs.Ytlemkghpcbkcpaa.PAtmostCounts
open Go.RowKit Go.Proofs.YtlemkghpcbkcpaaW.PrintWords Go.Proofs.YtlemkghpcbkcpaaW.PrintLast Go.Proofs.YtlemkghpcbkcpaaW.PrintMore
attribute [local go_sem] max2_int min2_int max_two min_two max_three min_three max_four min_four   -- for this text's walks alone
set_option linter.unusedVariables false
set_option linter.unusedSimpArgs false

/-! ### depotlaw27_made: function 30 -/
mutual
def depotlaw27_made.l0 : Nat → List (List Int) → List Bool → List Bool → Int → Option (Bool)
  | 0, _, _, _, _ => none
  | k + 1, x0, x1, x2, x7 => if x7 < (x0.length : Int) then (depotlaw27_made.l1 k x0 x1 x2 x7 false 0) else (some true)
def depotlaw27_made.l1 : Nat → List (List Int) → List Bool → List Bool → Int → Bool → Int → Option (Bool)
  | 0, _, _, _, _, _, _ => none
  | k + 1, x0, x1, x2, x7, x8, x9 => if 0 ≤ x7 then (if x7 < (x0.length : Int) then (if x9 < ((rd_L2 x0 x7).length : Int) then (if 0 ≤ x9 then (if (rd (rd_L2 x0 x7) x9) < 0 then (depotlaw27_made.j2 k x0 x1 x2 x7 x8 x9 (wrap64 (-(rd (rd_L2 x0 x7) x9)))) else (depotlaw27_made.j2 k x0 x1 x2 x7 x8 x9 (rd (rd_L2 x0 x7) x9))) else (none)) else (if x8 = true then (depotlaw27_made.l0 k x0 x1 x2 (wrap64 (x7 + 1))) else (some false))) else (none)) else (none)
def depotlaw27_made.j2 : Nat → List (List Int) → List Bool → List Bool → Int → Bool → Int → Int → Option (Bool)
  | 0, _, _, _, _, _, _, _ => none
  | k + 1, x0, x1, x2, x7, x8, x9, x10 => if x10 ≤ 60 then (if x10 ≥ 1 then (depotlaw27_made.j3 k x0 x1 x2 x7 x8 x9 x10 false (decide (x10 ≤ (x1.length : Int)))) else (depotlaw27_made.j3 k x0 x1 x2 x7 x8 x9 x10 false false)) else (depotlaw27_made.j3 k x0 x1 x2 x7 x8 x9 x10 false false)
def depotlaw27_made.j3 : Nat → List (List Int) → List Bool → List Bool → Int → Bool → Int → Int → Bool → Bool → Option (Bool)
  | 0, _, _, _, _, _, _, _, _, _ => none
  | k + 1, x0, x1, x2, x7, x8, x9, x10, x11, x38 => if x38 = true then (if 0 ≤ (wrap64 (x10 - 1)) then (if (wrap64 (x10 - 1)) < (x1.length : Int) then (if x8 = true then (depotlaw27_made.l1 k x0 x1 x2 x7 true (wrap64 (x9 + 1))) else (if 0 ≤ x7 then (if x7 < (x0.length : Int) then (if 0 ≤ x9 then (if x9 < ((rd_L2 x0 x7).length : Int) then (depotlaw27_made.l1 k x0 x1 x2 x7 ((rdOf false x1 (wrap64 (x10 - 1))) == (decide ((rd (rd_L2 x0 x7) x9) > 0))) (wrap64 (x9 + 1))) else (none)) else (none)) else (none)) else (none))) else (none)) else (none)) else (if x10 > 60 then (if (wrap64 (x10 - 61)) < (x2.length : Int) then (if 0 ≤ (wrap64 (x10 - 61)) then (if x8 = true then (depotlaw27_made.l1 k x0 x1 x2 x7 true (wrap64 (x9 + 1))) else (if 0 ≤ x7 then (if x7 < (x0.length : Int) then (if 0 ≤ x9 then (if x9 < ((rd_L2 x0 x7).length : Int) then (depotlaw27_made.l1 k x0 x1 x2 x7 ((rdOf false x2 (wrap64 (x10 - 61))) == (decide ((rd (rd_L2 x0 x7) x9) > 0))) (wrap64 (x9 + 1))) else (none)) else (none)) else (none)) else (none))) else (none)) else (if x8 = true then (depotlaw27_made.l1 k x0 x1 x2 x7 true (wrap64 (x9 + 1))) else (if 0 ≤ x7 then (if x7 < (x0.length : Int) then (if 0 ≤ x9 then (if x9 < ((rd_L2 x0 x7).length : Int) then (depotlaw27_made.l1 k x0 x1 x2 x7 (x11 == (decide ((rd (rd_L2 x0 x7) x9) > 0))) (wrap64 (x9 + 1))) else (none)) else (none)) else (none)) else (none)))) else (if x8 = true then (depotlaw27_made.l1 k x0 x1 x2 x7 true (wrap64 (x9 + 1))) else (if 0 ≤ x7 then (if x7 < (x0.length : Int) then (if 0 ≤ x9 then (if x9 < ((rd_L2 x0 x7).length : Int) then (depotlaw27_made.l1 k x0 x1 x2 x7 (x11 == (decide ((rd (rd_L2 x0 x7) x9) > 0))) (wrap64 (x9 + 1))) else (none)) else (none)) else (none)) else (none))))
end
def depotlaw27_made.f (k : Nat) (l0 : List (List Int)) (l1 : List Bool) (l2 : List Bool) : Option (Bool) := depotlaw27_made.l0 k l0 l1 l2 0
theorem depotlaw27_made.mono_l : ∀ k, (∀ y0 y1 y2 y3, LeO (depotlaw27_made.l0 k y0 y1 y2 y3) (depotlaw27_made.l0 (k + 1) y0 y1 y2 y3)) ∧ (∀ y0 y1 y2 y3 y4 y5, LeO (depotlaw27_made.l1 k y0 y1 y2 y3 y4 y5) (depotlaw27_made.l1 (k + 1) y0 y1 y2 y3 y4 y5)) ∧ (∀ y0 y1 y2 y3 y4 y5 y6, LeO (depotlaw27_made.j2 k y0 y1 y2 y3 y4 y5 y6) (depotlaw27_made.j2 (k + 1) y0 y1 y2 y3 y4 y5 y6)) ∧ (∀ y0 y1 y2 y3 y4 y5 y6 y7 y8, LeO (depotlaw27_made.j3 k y0 y1 y2 y3 y4 y5 y6 y7 y8) (depotlaw27_made.j3 (k + 1) y0 y1 y2 y3 y4 y5 y6 y7 y8))
  | 0 => ⟨fun _ _ _ _ r h => by simp [depotlaw27_made.l0] at h, fun _ _ _ _ _ _ r h => by simp [depotlaw27_made.l1] at h, fun _ _ _ _ _ _ _ r h => by simp [depotlaw27_made.j2] at h, fun _ _ _ _ _ _ _ _ _ r h => by simp [depotlaw27_made.j3] at h⟩
  | k + 1 => by
    obtain ⟨ih0, ih1, ih2, ih3⟩ := depotlaw27_made.mono_l k
    refine ⟨?_, ?_, ?_, ?_⟩
    · intro y0 y1 y2 y3
      unfold depotlaw27_made.l0
      repeat' first
      | (with_reducible exact ih0 _ _ _ _)
      | (with_reducible exact ih1 _ _ _ _ _ _)
      | (with_reducible exact ih2 _ _ _ _ _ _ _)
      | (with_reducible exact ih3 _ _ _ _ _ _ _ _ _)
      | (with_reducible exact LeO.refl _)
      | (with_reducible exact LeO.none _)
      | (with_reducible refine LeO.ite ?_ ?_)
      | (with_reducible refine LeO.bind ?_ (fun _ => ?_))
      | exact ih0 _ _ _ _
      | exact ih1 _ _ _ _ _ _
      | exact ih2 _ _ _ _ _ _ _
      | exact ih3 _ _ _ _ _ _ _ _ _
      | exact LeO.none _
      | refine LeO.ite ?_ ?_
      | refine LeO.bind ?_ (fun _ => ?_)
    · intro y0 y1 y2 y3 y4 y5
      unfold depotlaw27_made.l1
      repeat' first
      | (with_reducible exact ih0 _ _ _ _)
      | (with_reducible exact ih1 _ _ _ _ _ _)
      | (with_reducible exact ih2 _ _ _ _ _ _ _)
      | (with_reducible exact ih3 _ _ _ _ _ _ _ _ _)
      | (with_reducible exact LeO.refl _)
      | (with_reducible exact LeO.none _)
      | (with_reducible refine LeO.ite ?_ ?_)
      | (with_reducible refine LeO.bind ?_ (fun _ => ?_))
      | exact ih0 _ _ _ _
      | exact ih1 _ _ _ _ _ _
      | exact ih2 _ _ _ _ _ _ _
      | exact ih3 _ _ _ _ _ _ _ _ _
      | exact LeO.none _
      | refine LeO.ite ?_ ?_
      | refine LeO.bind ?_ (fun _ => ?_)
    · intro y0 y1 y2 y3 y4 y5 y6
      unfold depotlaw27_made.j2
      repeat' first
      | (with_reducible exact ih0 _ _ _ _)
      | (with_reducible exact ih1 _ _ _ _ _ _)
      | (with_reducible exact ih2 _ _ _ _ _ _ _)
      | (with_reducible exact ih3 _ _ _ _ _ _ _ _ _)
      | (with_reducible exact LeO.refl _)
      | (with_reducible exact LeO.none _)
      | (with_reducible refine LeO.ite ?_ ?_)
      | (with_reducible refine LeO.bind ?_ (fun _ => ?_))
      | exact ih0 _ _ _ _
      | exact ih1 _ _ _ _ _ _
      | exact ih2 _ _ _ _ _ _ _
      | exact ih3 _ _ _ _ _ _ _ _ _
      | exact LeO.none _
      | refine LeO.ite ?_ ?_
      | refine LeO.bind ?_ (fun _ => ?_)
    · intro y0 y1 y2 y3 y4 y5 y6 y7 y8
      unfold depotlaw27_made.j3
      repeat' first
      | (with_reducible exact ih0 _ _ _ _)
      | (with_reducible exact ih1 _ _ _ _ _ _)
      | (with_reducible exact ih2 _ _ _ _ _ _ _)
      | (with_reducible exact ih3 _ _ _ _ _ _ _ _ _)
      | (with_reducible exact LeO.refl _)
      | (with_reducible exact LeO.none _)
      | (with_reducible refine LeO.ite ?_ ?_)
      | (with_reducible refine LeO.bind ?_ (fun _ => ?_))
      | exact ih0 _ _ _ _
      | exact ih1 _ _ _ _ _ _
      | exact ih2 _ _ _ _ _ _ _
      | exact ih3 _ _ _ _ _ _ _ _ _
      | exact LeO.none _
      | refine LeO.ite ?_ ?_
      | refine LeO.bind ?_ (fun _ => ?_)
theorem depotlaw27_made.mono : ∀ a0 a1 a2 k, LeO (depotlaw27_made.f k a0 a1 a2) (depotlaw27_made.f (k + 1) a0 a1 a2) := by
  intro a0 a1 a2 k
  obtain ⟨ih0, ih1, ih2, ih3⟩ := depotlaw27_made.mono_l k
  unfold depotlaw27_made.f
  repeat' first
      | (with_reducible exact ih0 _ _ _ _)
      | (with_reducible exact ih1 _ _ _ _ _ _)
      | (with_reducible exact ih2 _ _ _ _ _ _ _)
      | (with_reducible exact ih3 _ _ _ _ _ _ _ _ _)
      | (with_reducible exact LeO.refl _)
      | (with_reducible exact LeO.none _)
      | (with_reducible refine LeO.ite ?_ ?_)
      | (with_reducible refine LeO.bind ?_ (fun _ => ?_))
      | exact ih0 _ _ _ _
      | exact ih1 _ _ _ _ _ _
      | exact ih2 _ _ _ _ _ _ _
      | exact ih3 _ _ _ _ _ _ _ _ _
      | exact LeO.none _
      | refine LeO.ite ?_ ?_
      | refine LeO.bind ?_ (fun _ => ?_)
set_option maxHeartbeats 8000000 in
set_option maxRecDepth 100000 in
theorem depotlaw27_made.calls (k : Nat) (A0 : Option Addr) (c0 : Nat) (l0 : List (List Int)) (A1 : Option Addr) (c1 : Nat) (l1 : List Bool) (A2 : Option Addr) (c2 : Nat) (l2 : List Bool) (r : Bool) (w : World) (hr0 : Kd.C (Kd.slice 3 (Kd.int .i64)) w A0 l0.length l0) (hc0 : l0.length ≤ c0) (hr1 : Kd.C Kd.bool w A1 l1.length l1) (hc1 : l1.length ≤ c1) (hr2 : Kd.C Kd.bool w A2 l2.length l2) (hc2 : l2.length ≤ c2) (h : depotlaw27_made.f k l0 l1 l2 = some r) :
    Calls Try.prog 30 #[.slice A0 l0.length c0, .slice A1 l1.length c1, .slice A2 l2.length c2] w fun e w' => e = .returned (.bool r) ∧ Drawn0 w w' := by
  have HR0 := Aside0.mk hr0
  have HC0 := Aside0.mk hc0
  clear hr0 hc0
  have HR1 := Aside0.mk hr1
  have HC1 := Aside0.mk hc1
  clear hr1 hc1
  have HR2 := Aside0.mk hr2
  have HC2 := Aside0.mk hc2
  clear hr2 hc2
  have H : (depotlaw27_made.l0 k l0 l1 l2 0) = some r := h
  clear h
  have H' := Aside0.mk H
  clear H
  go_enter Try.func30, Try.ntmps30
  go_wp2
  go_loopg [7] k (fun kq v7 w' => ∃ (x7_1 : Int), v7 = .int .i64 x7_1 ∧ Aside0 (depotlaw27_made.l0 kq l0 l1 l2 x7_1 = some r) ∧ Aside0 (kq ≤ k) ∧ Drawn0 w w')
  case atStart => exact ⟨(0), (by first | rfl | (simp; done) | (simp [*]; done)), H', ⟨Nat.le_refl _⟩, by repeat (first | exact Drawn0.refl _ | apply Drawn0.step)⟩
  case round =>
    clear H'
    try clear c1
    try clear c2
    try clear p2
    try clear c3
    obtain ⟨x7_1, rfl, HA, HK1, ⟨m1, rfl⟩⟩ := hrel
    cases gk with
    | zero => exact absurd HA.out (by simp [depotlaw27_made.l0])
    | succ k1 =>
      have H := HA.out
      clear HA
      simp only [depotlaw27_made.l0] at H
      by_cases c4 : x7_1 < (l0.length : Int)
      · rw [if_pos c4] at H
        have c4b0 : decide (x7_1 < (l0.length : Int)) = true := decide_eq_true c4
        clear c4
        have H' := Aside0.mk H
        clear H
        go_wp2
        go_loopg [8, 9] k1 (fun kq v8 v9 w' => ∃ (x8_2 : Bool) (x9_2 : Int), v8 = .bool x8_2 ∧ v9 = .int .i64 x9_2 ∧ Aside0 (depotlaw27_made.l1 kq l0 l1 l2 x7_1 x8_2 x9_2 = some r) ∧ Aside0 (kq ≤ k1) ∧ Drawn0 w w')
        case atStart => exact ⟨(false), (0), (by first | rfl | (simp; done) | (simp [*]; done)), (by first | rfl | (simp; done) | (simp [*]; done)), H', ⟨Nat.le_refl _⟩, by repeat (first | exact Drawn0.refl _ | apply Drawn0.step)⟩
        case round =>
          clear H'
          try clear c1
          try clear c2
          try clear p2
          try clear c3
          try clear c4
          try clear c4b0
          try clear p2
          obtain ⟨x8_2, x9_2, rfl, rfl, HA, HK2, ⟨m2, rfl⟩⟩ := hrel
          cases gk with
          | zero => exact absurd HA.out (by simp [depotlaw27_made.l1])
          | succ k2 =>
            have H := HA.out
            clear HA
            simp only [depotlaw27_made.l1] at H
            by_cases c5 : 0 ≤ x7_1
            · rw [if_pos c5] at H
              have c5b0 : decide (0 ≤ x7_1) = true := decide_eq_true c5
              clear c5
              by_cases c6 : x7_1 < (l0.length : Int)
              · rw [if_pos c6] at H
                have c6b0 : decide (x7_1 < (l0.length : Int)) = true := decide_eq_true c6
                clear c6
                by_cases c7 : x9_2 < ((rd_L2 l0 x7_1).length : Int)
                · rw [if_pos c7] at H
                  have c7b0 : decide (x9_2 < ((rd_L2 l0 x7_1).length : Int)) = true := decide_eq_true c7
                  clear c7
                  by_cases c8 : 0 ≤ x9_2
                  · rw [if_pos c8] at H
                    have c8b0 : decide (0 ≤ x9_2) = true := decide_eq_true c8
                    clear c8
                    have HC9 := Aside0.mk H
                    clear H
                    have p264 : 0 ≤ (x7_1 : Int) := of_decide_eq_true (by first | (with_reducible assumption) | assumption)
                    have q264 : x7_1 < (l0.length : Int) := of_decide_eq_true (by first | (with_reducible assumption) | assumption)
                    obtain ⟨ad264, A264_0, c264_0, e264, hx264_0, hl264_0, hi264_0⟩ := at_L2 HR0.out x7_1 p264 q264
                    cases e264
                    have HR264_0 := Aside0.mk hi264_0
                    have HC264_0 := Aside0.mk hl264_0
                    clear hi264_0 hl264_0
                    replace p264 := eq_true p264
                    replace q264 := eq_true q264
                    have p265 : 0 ≤ (x7_1 : Int) := of_decide_eq_true (by first | (with_reducible assumption) | assumption)
                    have q265 : x7_1 < (l0.length : Int) := of_decide_eq_true (by first | (with_reducible assumption) | assumption)
                    obtain ⟨ad265, A265_0, c265_0, e265, hx265_0, hl265_0, hi265_0⟩ := at_L2 HR0.out x7_1 p265 q265
                    obtain rfl : ad264 = ad265 := (by injection e265)
                    have HR265_0 := Aside0.mk hi265_0
                    have HC265_0 := Aside0.mk hl265_0
                    clear hi265_0 hl265_0
                    replace p265 := eq_true p265
                    replace q265 := eq_true q265
                    have ea_ := Option.some.inj (hx264_0.symm.trans hx265_0)
                    injection ea_ with ea_ en_ ec_
                    subst ea_
                    subst ec_
                    clear en_
                    have p266 : 0 ≤ (x9_2 : Int) := of_decide_eq_true (by first | (with_reducible assumption) | assumption)
                    have q266 : x9_2 < ((rd_L2 l0 x7_1).length : Int) := of_decide_eq_true (by first | (with_reducible assumption) | assumption)
                    obtain ⟨ad266, e266, hx266_0⟩ := Kd.at_int HR265_0.out x9_2 p266 q266
                    cases e266
                    replace p266 := eq_true p266
                    replace q266 := eq_true q266
                    go_upto_if 35 with (fail)
                    go_cut [10] (fun v10 wc => ∃ (kq : Nat) (x10_8 : Int), v10 = .int .i64 x10_8 ∧ Aside0 (depotlaw27_made.j2 kq l0 l1 l2 x7_1 x8_2 x9_2 x10_8 = some r) ∧ Aside0 (kq ≤ k2) ∧ Drawn0 w wc)
                    case first =>
                      have H := HC9.out
                      clear HC9
                      by_cases c10 : (rd (rd_L2 l0 x7_1) x9_2) < 0
                      · rw [if_pos c10] at H
                        have c10b0 : decide ((rd (rd_L2 l0 x7_1) x9_2) < 0) = true := decide_eq_true c10
                        clear c10
                        (first | rw [c10b0] | (simp only [i64_w, i32_w]; rw [c10b0]) | skip)
                        have H' := Aside0.mk H
                        clear H
                        go_wp2
                        go_meet
                        case rel => exact ⟨_, (wrap64 (-(rd (rd_L2 l0 x7_1) x9_2))), (by first | rfl | (simp; done) | (simp [*]; done)), H', ⟨by have := HK1.out; have := HK2.out; first | omega | exact Nat.le_refl _⟩, by repeat (first | exact Drawn0.refl _ | apply Drawn0.step)⟩
                      · rw [if_neg c10] at H
                        have c10b0 : decide ((rd (rd_L2 l0 x7_1) x9_2) < 0) = false := decide_eq_false c10
                        clear c10
                        (first | rw [c10b0] | (simp only [i64_w, i32_w]; rw [c10b0]) | skip)
                        have H' := Aside0.mk H
                        clear H
                        go_wp2
                        go_meet
                        case rel => exact ⟨_, (rd (rd_L2 l0 x7_1) x9_2), (by first | rfl | (simp; done) | (simp [*]; done)), H', ⟨by have := HK1.out; have := HK2.out; first | omega | exact Nat.le_refl _⟩, by repeat (first | exact Drawn0.refl _ | apply Drawn0.step)⟩
                    case rest =>
                      clear HC9
                      try clear c1
                      try clear c2
                      try clear p2
                      try clear q2
                      try clear hx2
                      try clear c3
                      try clear c4
                      try clear c4b0
                      try clear c5
                      try clear c5b0
                      try clear c6
                      try clear c6b0
                      try clear p6
                      try clear c7
                      try clear c7b0
                      try clear c8
                      try clear c8b0
                      try clear c10
                      try clear c10b0
                      try clear hx264_0
                      try clear hx265_0
                      try clear hx266_0
                      try clear p2
                      try clear p264
                      try clear p265
                      try clear p266
                      try clear q264
                      try clear q265
                      try clear q266
                      obtain ⟨kq, x10_8, rfl, HA, HJ8, ⟨mc8, rfl⟩⟩ := hcut
                      cases kq with
                      | zero => exact absurd HA.out (by simp [depotlaw27_made.j2])
                      | succ kj8 =>
                        have H := HA.out
                        clear HA
                        simp only [depotlaw27_made.j2] at H
                        have HC11 := Aside0.mk H
                        clear H
                        go_upto_region 12 with (fail)
                        go_cut [38] (fun v38 wc => ∃ (kq : Nat) (x38_10 : Bool), v38 = .bool x38_10 ∧ Aside0 (depotlaw27_made.j3 kq l0 l1 l2 x7_1 x8_2 x9_2 x10_8 false x38_10 = some r) ∧ Aside0 (kq ≤ kj8) ∧ Drawn0 w wc)
                        case first =>
                          have H := HC11.out
                          clear HC11
                          by_cases c12 : x10_8 ≤ 60
                          · rw [if_pos c12] at H
                            have c12b0 : decide (x10_8 ≤ 60) = true := decide_eq_true c12
                            clear c12
                            (first | rw [c12b0] | (simp only [i64_w, i32_w]; rw [c12b0]) | skip)
                            by_cases c13 : x10_8 ≥ 1
                            · rw [if_pos c13] at H
                              have c13b0 : decide (1 ≤ x10_8) = true := decide_eq_true c13
                              clear c13
                              have H' := Aside0.mk H
                              clear H
                              go_wp2
                              go_meet
                              case rel => exact ⟨_, (decide (x10_8 ≤ (l1.length : Int))), (by first | rfl | (simp; done) | (simp [*]; done)), H', ⟨by have := HK1.out; have := HK2.out; have := HJ8.out; first | omega | exact Nat.le_refl _⟩, by repeat (first | exact Drawn0.refl _ | apply Drawn0.step)⟩
                            · rw [if_neg c13] at H
                              have c13b0 : decide (1 ≤ x10_8) = false := decide_eq_false c13
                              clear c13
                              have H' := Aside0.mk H
                              clear H
                              go_wp2
                              go_meet
                              case rel => exact ⟨_, (false), (by first | rfl | (simp; done) | (simp [*]; done)), H', ⟨by have := HK1.out; have := HK2.out; have := HJ8.out; first | omega | exact Nat.le_refl _⟩, by repeat (first | exact Drawn0.refl _ | apply Drawn0.step)⟩
                          · rw [if_neg c12] at H
                            have c12b0 : decide (x10_8 ≤ 60) = false := decide_eq_false c12
                            clear c12
                            (first | rw [c12b0] | (simp only [i64_w, i32_w]; rw [c12b0]) | skip)
                            have H' := Aside0.mk H
                            clear H
                            go_wp2
                            go_meet
                            case rel => exact ⟨_, (false), (by first | rfl | (simp; done) | (simp [*]; done)), H', ⟨by have := HK1.out; have := HK2.out; have := HJ8.out; first | omega | exact Nat.le_refl _⟩, by repeat (first | exact Drawn0.refl _ | apply Drawn0.step)⟩
                        case rest =>
                          clear HC11
                          try clear c1
                          try clear c2
                          try clear p2
                          try clear q2
                          try clear hx2
                          try clear c3
                          try clear c4
                          try clear c4b0
                          try clear c5
                          try clear c5b0
                          try clear c6
                          try clear c6b0
                          try clear p6
                          try clear c7
                          try clear c7b0
                          try clear c8
                          try clear c8b0
                          try clear c10
                          try clear c10b0
                          try clear c12
                          try clear c12b0
                          try clear c13
                          try clear c13b0
                          try clear hx264_0
                          try clear hx265_0
                          try clear hx266_0
                          try clear p2
                          try clear p264
                          try clear p265
                          try clear p266
                          try clear p6
                          try clear q2
                          try clear q264
                          try clear q265
                          try clear q266
                          obtain ⟨kq, x38_10, rfl, HA, HJ10, ⟨mc10, rfl⟩⟩ := hcut
                          cases kq with
                          | zero => exact absurd HA.out (by simp [depotlaw27_made.j3])
                          | succ kj10 =>
                            have H := HA.out
                            clear HA
                            simp only [depotlaw27_made.j3] at H
                            by_cases c14 : x38_10 = true
                            · subst c14
                              have H1 : (if 0 ≤ (wrap64 (x10_8 - 1)) then (if (wrap64 (x10_8 - 1)) < (l1.length : Int) then (if x8_2 = true then (depotlaw27_made.l1 kj10 l0 l1 l2 x7_1 true (wrap64 (x9_2 + 1))) else (if 0 ≤ x7_1 then (if x7_1 < (l0.length : Int) then (if 0 ≤ x9_2 then (if x9_2 < ((rd_L2 l0 x7_1).length : Int) then (depotlaw27_made.l1 kj10 l0 l1 l2 x7_1 ((rdOf false l1 (wrap64 (x10_8 - 1))) == (decide ((rd (rd_L2 l0 x7_1) x9_2) > 0))) (wrap64 (x9_2 + 1))) else (none)) else (none)) else (none)) else (none))) else (none)) else (none)) = some r := by rw [if_pos rfl] at H; exact H
                              clear H
                              have H := H1
                              clear H1
                              obtain ⟨ji15, hji15⟩ : ∃ j_ : Int, (wrap64 (x10_8 - 1)) = j_ := ⟨_, rfl⟩
                              replace H : (if 0 ≤ (ji15) then (if (ji15) < (l1.length : Int) then (if x8_2 = true then (depotlaw27_made.l1 kj10 l0 l1 l2 x7_1 true (wrap64 (x9_2 + 1))) else (if 0 ≤ x7_1 then (if x7_1 < (l0.length : Int) then (if 0 ≤ x9_2 then (if x9_2 < ((rd_L2 l0 x7_1).length : Int) then (depotlaw27_made.l1 kj10 l0 l1 l2 x7_1 ((rdOf false l1 (ji15)) == (decide ((rd (rd_L2 l0 x7_1) x9_2) > 0))) (wrap64 (x9_2 + 1))) else (none)) else (none)) else (none)) else (none))) else (none)) else (none)) = some r := by first | (rw [hji15] at H; exact H) | (simp only [hji15] at H ⊢; exact H)
                              have hji15w : (IntKind.i64.wrap (x10_8 - 1)) = ji15 := (i64_w _).trans hji15
                              by_cases c16 : 0 ≤ (ji15)
                              · rw [if_pos c16] at H
                                have c16b0 : decide (0 ≤ (ji15)) = true := decide_eq_true c16
                                clear c16
                                by_cases c17 : (ji15) < (l1.length : Int)
                                · rw [if_pos c17] at H
                                  have c17b0 : decide ((ji15) < (l1.length : Int)) = true := decide_eq_true c17
                                  clear c17
                                  by_cases c18 : x8_2 = true
                                  · subst c18
                                    have H1 : (depotlaw27_made.l1 kj10 l0 l1 l2 x7_1 true (wrap64 (x9_2 + 1))) = some r := by rw [if_pos rfl] at H; exact H
                                    clear H
                                    have H := H1
                                    clear H1
                                    have H' := Aside0.mk H
                                    clear H
                                    have p267 : 0 ≤ ((ji15) : Int) := of_decide_eq_true (by first | (with_reducible assumption) | assumption)
                                    have q267 : (ji15) < (l1.length : Int) := of_decide_eq_true (by first | (with_reducible assumption) | assumption)
                                    obtain ⟨ad267, e267, hx267_0⟩ := Kd.at_bool HR1.out (ji15) p267 q267
                                    cases e267
                                    replace p267 := eq_true p267
                                    replace q267 := eq_true q267
                                    go_wp2
                                    go_roundg kj10
                                    case measure => have := HK1.out; have := HK2.out; have := HJ8.out; have := HJ10.out; omega
                                    case rel => exact ⟨(true), (wrap64 (x9_2 + 1)), (by first | rfl | (simp; done) | (simp [*]; done)), (by first | rfl | (simp; done) | (simp [*]; done)), H', ⟨by have := HK1.out; have := HK2.out; have := HJ8.out; have := HJ10.out; omega⟩, by repeat (first | exact Drawn0.refl _ | apply Drawn0.step)⟩
                                  · replace c18 := Bool.eq_false_iff.mpr c18
                                    subst c18
                                    have H1 : (if 0 ≤ x7_1 then (if x7_1 < (l0.length : Int) then (if 0 ≤ x9_2 then (if x9_2 < ((rd_L2 l0 x7_1).length : Int) then (depotlaw27_made.l1 kj10 l0 l1 l2 x7_1 ((rdOf false l1 (ji15)) == (decide ((rd (rd_L2 l0 x7_1) x9_2) > 0))) (wrap64 (x9_2 + 1))) else (none)) else (none)) else (none)) else (none)) = some r := by rw [if_neg (show ¬ (false = true) by decide)] at H; exact H
                                    clear H
                                    have H := H1
                                    clear H1
                                    by_cases c19 : 0 ≤ x7_1
                                    · rw [if_pos c19] at H
                                      have c19b0 : decide (0 ≤ x7_1) = true := decide_eq_true c19
                                      clear c19
                                      by_cases c20 : x7_1 < (l0.length : Int)
                                      · rw [if_pos c20] at H
                                        have c20b0 : decide (x7_1 < (l0.length : Int)) = true := decide_eq_true c20
                                        clear c20
                                        by_cases c21 : 0 ≤ x9_2
                                        · rw [if_pos c21] at H
                                          have c21b0 : decide (0 ≤ x9_2) = true := decide_eq_true c21
                                          clear c21
                                          by_cases c22 : x9_2 < ((rd_L2 l0 x7_1).length : Int)
                                          · rw [if_pos c22] at H
                                            have c22b0 : decide (x9_2 < ((rd_L2 l0 x7_1).length : Int)) = true := decide_eq_true c22
                                            clear c22
                                            have H' := Aside0.mk H
                                            clear H
                                            have p267 : 0 ≤ ((ji15) : Int) := of_decide_eq_true (by first | (with_reducible assumption) | assumption)
                                            have q267 : (ji15) < (l1.length : Int) := of_decide_eq_true (by first | (with_reducible assumption) | assumption)
                                            obtain ⟨ad267, e267, hx267_0⟩ := Kd.at_bool HR1.out (ji15) p267 q267
                                            cases e267
                                            replace p267 := eq_true p267
                                            replace q267 := eq_true q267
                                            have p268 : 0 ≤ (x7_1 : Int) := of_decide_eq_true (by first | (with_reducible assumption) | assumption)
                                            have q268 : x7_1 < (l0.length : Int) := of_decide_eq_true (by first | (with_reducible assumption) | assumption)
                                            obtain ⟨ad268, A268_0, c268_0, e268, hx268_0, hl268_0, hi268_0⟩ := at_L2 HR0.out x7_1 p268 q268
                                            obtain rfl : ad264 = ad268 := (by injection e268)
                                            have HR268_0 := Aside0.mk hi268_0
                                            have HC268_0 := Aside0.mk hl268_0
                                            clear hi268_0 hl268_0
                                            replace p268 := eq_true p268
                                            replace q268 := eq_true q268
                                            have p269 : 0 ≤ (x9_2 : Int) := of_decide_eq_true (by first | (with_reducible assumption) | assumption)
                                            have q269 : x9_2 < ((rd_L2 l0 x7_1).length : Int) := of_decide_eq_true (by first | (with_reducible assumption) | assumption)
                                            obtain ⟨ad269, e269, hx269_0⟩ := Kd.at_int HR268_0.out x9_2 p269 q269
                                            cases e269
                                            replace p269 := eq_true p269
                                            replace q269 := eq_true q269
                                            go_wp2
                                            go_roundg kj10
                                            case measure => have := HK1.out; have := HK2.out; have := HJ8.out; have := HJ10.out; omega
                                            case rel => exact ⟨(((rdOf false l1 (ji15)) == (decide ((rd (rd_L2 l0 x7_1) x9_2) > 0)))), (wrap64 (x9_2 + 1)), (by first | rfl | (simp; done) | (simp only [← hji15] <;> (first | rfl | simp)) | (simp [*]; done)), (by first | rfl | (simp; done) | (simp [*]; done)), H', ⟨by have := HK1.out; have := HK2.out; have := HJ8.out; have := HJ10.out; omega⟩, by repeat (first | exact Drawn0.refl _ | apply Drawn0.step)⟩
                                          · rw [if_neg c22] at H
                                            exact absurd H (by simp)
                                        · rw [if_neg c21] at H
                                          exact absurd H (by simp)
                                      · rw [if_neg c20] at H
                                        exact absurd H (by simp)
                                    · rw [if_neg c19] at H
                                      exact absurd H (by simp)
                                · rw [if_neg c17] at H
                                  exact absurd H (by simp)
                              · rw [if_neg c16] at H
                                exact absurd H (by simp)
                            · replace c14 := Bool.eq_false_iff.mpr c14
                              subst c14
                              have H1 : (if x10_8 > 60 then (if (wrap64 (x10_8 - 61)) < (l2.length : Int) then (if 0 ≤ (wrap64 (x10_8 - 61)) then (if x8_2 = true then (depotlaw27_made.l1 kj10 l0 l1 l2 x7_1 true (wrap64 (x9_2 + 1))) else (if 0 ≤ x7_1 then (if x7_1 < (l0.length : Int) then (if 0 ≤ x9_2 then (if x9_2 < ((rd_L2 l0 x7_1).length : Int) then (depotlaw27_made.l1 kj10 l0 l1 l2 x7_1 ((rdOf false l2 (wrap64 (x10_8 - 61))) == (decide ((rd (rd_L2 l0 x7_1) x9_2) > 0))) (wrap64 (x9_2 + 1))) else (none)) else (none)) else (none)) else (none))) else (none)) else (if x8_2 = true then (depotlaw27_made.l1 kj10 l0 l1 l2 x7_1 true (wrap64 (x9_2 + 1))) else (if 0 ≤ x7_1 then (if x7_1 < (l0.length : Int) then (if 0 ≤ x9_2 then (if x9_2 < ((rd_L2 l0 x7_1).length : Int) then (depotlaw27_made.l1 kj10 l0 l1 l2 x7_1 (false == (decide ((rd (rd_L2 l0 x7_1) x9_2) > 0))) (wrap64 (x9_2 + 1))) else (none)) else (none)) else (none)) else (none)))) else (if x8_2 = true then (depotlaw27_made.l1 kj10 l0 l1 l2 x7_1 true (wrap64 (x9_2 + 1))) else (if 0 ≤ x7_1 then (if x7_1 < (l0.length : Int) then (if 0 ≤ x9_2 then (if x9_2 < ((rd_L2 l0 x7_1).length : Int) then (depotlaw27_made.l1 kj10 l0 l1 l2 x7_1 (false == (decide ((rd (rd_L2 l0 x7_1) x9_2) > 0))) (wrap64 (x9_2 + 1))) else (none)) else (none)) else (none)) else (none)))) = some r := by rw [if_neg (show ¬ (false = true) by decide)] at H; exact H
                              clear H
                              have H := H1
                              clear H1
                              by_cases c23 : x10_8 > 60
                              · rw [if_pos c23] at H
                                have c23b0 : decide (60 < x10_8) = true := decide_eq_true c23
                                clear c23
                                by_cases c24 : (wrap64 (x10_8 - 61)) < (l2.length : Int)
                                · rw [if_pos c24] at H
                                  have c24b0 : decide ((wrap64 (x10_8 - 61)) < (l2.length : Int)) = true := decide_eq_true c24
                                  clear c24
                                  obtain ⟨ji25, hji25⟩ : ∃ j_ : Int, (wrap64 (x10_8 - 61)) = j_ := ⟨_, rfl⟩
                                  replace H : (if 0 ≤ (ji25) then (if x8_2 = true then (depotlaw27_made.l1 kj10 l0 l1 l2 x7_1 true (wrap64 (x9_2 + 1))) else (if 0 ≤ x7_1 then (if x7_1 < (l0.length : Int) then (if 0 ≤ x9_2 then (if x9_2 < ((rd_L2 l0 x7_1).length : Int) then (depotlaw27_made.l1 kj10 l0 l1 l2 x7_1 ((rdOf false l2 (ji25)) == (decide ((rd (rd_L2 l0 x7_1) x9_2) > 0))) (wrap64 (x9_2 + 1))) else (none)) else (none)) else (none)) else (none))) else (none)) = some r := by first | (rw [hji25] at H; exact H) | (simp only [hji25] at H ⊢; exact H)
                                  (try rw [hji25] at c24b0)
                                  have hji25w : (IntKind.i64.wrap (x10_8 - 61)) = ji25 := (i64_w _).trans hji25
                                  by_cases c26 : 0 ≤ (ji25)
                                  · rw [if_pos c26] at H
                                    have c26b0 : decide (0 ≤ (ji25)) = true := decide_eq_true c26
                                    clear c26
                                    by_cases c27 : x8_2 = true
                                    · subst c27
                                      have H1 : (depotlaw27_made.l1 kj10 l0 l1 l2 x7_1 true (wrap64 (x9_2 + 1))) = some r := by rw [if_pos rfl] at H; exact H
                                      clear H
                                      have H := H1
                                      clear H1
                                      have H' := Aside0.mk H
                                      clear H
                                      have p270 : 0 ≤ ((ji25) : Int) := of_decide_eq_true (by first | (with_reducible assumption) | assumption)
                                      have q270 : (ji25) < (l2.length : Int) := of_decide_eq_true (by first | (with_reducible assumption) | assumption)
                                      obtain ⟨ad270, e270, hx270_0⟩ := Kd.at_bool HR2.out (ji25) p270 q270
                                      cases e270
                                      replace p270 := eq_true p270
                                      replace q270 := eq_true q270
                                      go_wp2
                                      go_roundg kj10
                                      case measure => have := HK1.out; have := HK2.out; have := HJ8.out; have := HJ10.out; omega
                                      case rel => exact ⟨(true), (wrap64 (x9_2 + 1)), (by first | rfl | (simp; done) | (simp [*]; done)), (by first | rfl | (simp; done) | (simp [*]; done)), H', ⟨by have := HK1.out; have := HK2.out; have := HJ8.out; have := HJ10.out; omega⟩, by repeat (first | exact Drawn0.refl _ | apply Drawn0.step)⟩
                                    · replace c27 := Bool.eq_false_iff.mpr c27
                                      subst c27
                                      have H1 : (if 0 ≤ x7_1 then (if x7_1 < (l0.length : Int) then (if 0 ≤ x9_2 then (if x9_2 < ((rd_L2 l0 x7_1).length : Int) then (depotlaw27_made.l1 kj10 l0 l1 l2 x7_1 ((rdOf false l2 (ji25)) == (decide ((rd (rd_L2 l0 x7_1) x9_2) > 0))) (wrap64 (x9_2 + 1))) else (none)) else (none)) else (none)) else (none)) = some r := by rw [if_neg (show ¬ (false = true) by decide)] at H; exact H
                                      clear H
                                      have H := H1
                                      clear H1
                                      by_cases c28 : 0 ≤ x7_1
                                      · rw [if_pos c28] at H
                                        have c28b0 : decide (0 ≤ x7_1) = true := decide_eq_true c28
                                        clear c28
                                        by_cases c29 : x7_1 < (l0.length : Int)
                                        · rw [if_pos c29] at H
                                          have c29b0 : decide (x7_1 < (l0.length : Int)) = true := decide_eq_true c29
                                          clear c29
                                          by_cases c30 : 0 ≤ x9_2
                                          · rw [if_pos c30] at H
                                            have c30b0 : decide (0 ≤ x9_2) = true := decide_eq_true c30
                                            clear c30
                                            by_cases c31 : x9_2 < ((rd_L2 l0 x7_1).length : Int)
                                            · rw [if_pos c31] at H
                                              have c31b0 : decide (x9_2 < ((rd_L2 l0 x7_1).length : Int)) = true := decide_eq_true c31
                                              clear c31
                                              have H' := Aside0.mk H
                                              clear H
                                              have p270 : 0 ≤ ((ji25) : Int) := of_decide_eq_true (by first | (with_reducible assumption) | assumption)
                                              have q270 : (ji25) < (l2.length : Int) := of_decide_eq_true (by first | (with_reducible assumption) | assumption)
                                              obtain ⟨ad270, e270, hx270_0⟩ := Kd.at_bool HR2.out (ji25) p270 q270
                                              cases e270
                                              replace p270 := eq_true p270
                                              replace q270 := eq_true q270
                                              have p271 : 0 ≤ (x7_1 : Int) := of_decide_eq_true (by first | (with_reducible assumption) | assumption)
                                              have q271 : x7_1 < (l0.length : Int) := of_decide_eq_true (by first | (with_reducible assumption) | assumption)
                                              obtain ⟨ad271, A271_0, c271_0, e271, hx271_0, hl271_0, hi271_0⟩ := at_L2 HR0.out x7_1 p271 q271
                                              obtain rfl : ad264 = ad271 := (by injection e271)
                                              have HR271_0 := Aside0.mk hi271_0
                                              have HC271_0 := Aside0.mk hl271_0
                                              clear hi271_0 hl271_0
                                              replace p271 := eq_true p271
                                              replace q271 := eq_true q271
                                              have p272 : 0 ≤ (x9_2 : Int) := of_decide_eq_true (by first | (with_reducible assumption) | assumption)
                                              have q272 : x9_2 < ((rd_L2 l0 x7_1).length : Int) := of_decide_eq_true (by first | (with_reducible assumption) | assumption)
                                              obtain ⟨ad272, e272, hx272_0⟩ := Kd.at_int HR271_0.out x9_2 p272 q272
                                              cases e272
                                              replace p272 := eq_true p272
                                              replace q272 := eq_true q272
                                              go_wp2
                                              go_roundg kj10
                                              case measure => have := HK1.out; have := HK2.out; have := HJ8.out; have := HJ10.out; omega
                                              case rel => exact ⟨(((rdOf false l2 (ji25)) == (decide ((rd (rd_L2 l0 x7_1) x9_2) > 0)))), (wrap64 (x9_2 + 1)), (by first | rfl | (simp; done) | (simp only [← hji25] <;> (first | rfl | simp)) | (simp [*]; done)), (by first | rfl | (simp; done) | (simp [*]; done)), H', ⟨by have := HK1.out; have := HK2.out; have := HJ8.out; have := HJ10.out; omega⟩, by repeat (first | exact Drawn0.refl _ | apply Drawn0.step)⟩
                                            · rw [if_neg c31] at H
                                              exact absurd H (by simp)
                                          · rw [if_neg c30] at H
                                            exact absurd H (by simp)
                                        · rw [if_neg c29] at H
                                          exact absurd H (by simp)
                                      · rw [if_neg c28] at H
                                        exact absurd H (by simp)
                                  · rw [if_neg c26] at H
                                    exact absurd H (by simp)
                                · rw [if_neg c24] at H
                                  have c24b0 : decide ((wrap64 (x10_8 - 61)) < (l2.length : Int)) = false := decide_eq_false c24
                                  clear c24
                                  by_cases c32 : x8_2 = true
                                  · subst c32
                                    have H1 : (depotlaw27_made.l1 kj10 l0 l1 l2 x7_1 true (wrap64 (x9_2 + 1))) = some r := by rw [if_pos rfl] at H; exact H
                                    clear H
                                    have H := H1
                                    clear H1
                                    have H' := Aside0.mk H
                                    clear H
                                    go_wp2
                                    go_roundg kj10
                                    case measure => have := HK1.out; have := HK2.out; have := HJ8.out; have := HJ10.out; omega
                                    case rel => exact ⟨(true), (wrap64 (x9_2 + 1)), (by first | rfl | (simp; done) | (simp [*]; done)), (by first | rfl | (simp; done) | (simp [*]; done)), H', ⟨by have := HK1.out; have := HK2.out; have := HJ8.out; have := HJ10.out; omega⟩, by repeat (first | exact Drawn0.refl _ | apply Drawn0.step)⟩
                                  · replace c32 := Bool.eq_false_iff.mpr c32
                                    subst c32
                                    have H1 : (if 0 ≤ x7_1 then (if x7_1 < (l0.length : Int) then (if 0 ≤ x9_2 then (if x9_2 < ((rd_L2 l0 x7_1).length : Int) then (depotlaw27_made.l1 kj10 l0 l1 l2 x7_1 (false == (decide ((rd (rd_L2 l0 x7_1) x9_2) > 0))) (wrap64 (x9_2 + 1))) else (none)) else (none)) else (none)) else (none)) = some r := by rw [if_neg (show ¬ (false = true) by decide)] at H; exact H
                                    clear H
                                    have H := H1
                                    clear H1
                                    by_cases c33 : 0 ≤ x7_1
                                    · rw [if_pos c33] at H
                                      have c33b0 : decide (0 ≤ x7_1) = true := decide_eq_true c33
                                      clear c33
                                      by_cases c34 : x7_1 < (l0.length : Int)
                                      · rw [if_pos c34] at H
                                        have c34b0 : decide (x7_1 < (l0.length : Int)) = true := decide_eq_true c34
                                        clear c34
                                        by_cases c35 : 0 ≤ x9_2
                                        · rw [if_pos c35] at H
                                          have c35b0 : decide (0 ≤ x9_2) = true := decide_eq_true c35
                                          clear c35
                                          by_cases c36 : x9_2 < ((rd_L2 l0 x7_1).length : Int)
                                          · rw [if_pos c36] at H
                                            have c36b0 : decide (x9_2 < ((rd_L2 l0 x7_1).length : Int)) = true := decide_eq_true c36
                                            clear c36
                                            have H' := Aside0.mk H
                                            clear H
                                            have p273 : 0 ≤ (x7_1 : Int) := of_decide_eq_true (by first | (with_reducible assumption) | assumption)
                                            have q273 : x7_1 < (l0.length : Int) := of_decide_eq_true (by first | (with_reducible assumption) | assumption)
                                            obtain ⟨ad273, A273_0, c273_0, e273, hx273_0, hl273_0, hi273_0⟩ := at_L2 HR0.out x7_1 p273 q273
                                            obtain rfl : ad264 = ad273 := (by injection e273)
                                            have HR273_0 := Aside0.mk hi273_0
                                            have HC273_0 := Aside0.mk hl273_0
                                            clear hi273_0 hl273_0
                                            replace p273 := eq_true p273
                                            replace q273 := eq_true q273
                                            have p274 : 0 ≤ (x9_2 : Int) := of_decide_eq_true (by first | (with_reducible assumption) | assumption)
                                            have q274 : x9_2 < ((rd_L2 l0 x7_1).length : Int) := of_decide_eq_true (by first | (with_reducible assumption) | assumption)
                                            obtain ⟨ad274, e274, hx274_0⟩ := Kd.at_int HR273_0.out x9_2 p274 q274
                                            cases e274
                                            replace p274 := eq_true p274
                                            replace q274 := eq_true q274
                                            go_wp2
                                            go_roundg kj10
                                            case measure => have := HK1.out; have := HK2.out; have := HJ8.out; have := HJ10.out; omega
                                            case rel => exact ⟨((false == (decide ((rd (rd_L2 l0 x7_1) x9_2) > 0)))), (wrap64 (x9_2 + 1)), (by first | rfl | (simp; done) | (simp [*]; done)), (by first | rfl | (simp; done) | (simp [*]; done)), H', ⟨by have := HK1.out; have := HK2.out; have := HJ8.out; have := HJ10.out; omega⟩, by repeat (first | exact Drawn0.refl _ | apply Drawn0.step)⟩
                                          · rw [if_neg c36] at H
                                            exact absurd H (by simp)
                                        · rw [if_neg c35] at H
                                          exact absurd H (by simp)
                                      · rw [if_neg c34] at H
                                        exact absurd H (by simp)
                                    · rw [if_neg c33] at H
                                      exact absurd H (by simp)
                              · rw [if_neg c23] at H
                                have c23b0 : decide (60 < x10_8) = false := decide_eq_false c23
                                clear c23
                                by_cases c37 : x8_2 = true
                                · subst c37
                                  have H1 : (depotlaw27_made.l1 kj10 l0 l1 l2 x7_1 true (wrap64 (x9_2 + 1))) = some r := by rw [if_pos rfl] at H; exact H
                                  clear H
                                  have H := H1
                                  clear H1
                                  have H' := Aside0.mk H
                                  clear H
                                  go_wp2
                                  go_roundg kj10
                                  case measure => have := HK1.out; have := HK2.out; have := HJ8.out; have := HJ10.out; omega
                                  case rel => exact ⟨(true), (wrap64 (x9_2 + 1)), (by first | rfl | (simp; done) | (simp [*]; done)), (by first | rfl | (simp; done) | (simp [*]; done)), H', ⟨by have := HK1.out; have := HK2.out; have := HJ8.out; have := HJ10.out; omega⟩, by repeat (first | exact Drawn0.refl _ | apply Drawn0.step)⟩
                                · replace c37 := Bool.eq_false_iff.mpr c37
                                  subst c37
                                  have H1 : (if 0 ≤ x7_1 then (if x7_1 < (l0.length : Int) then (if 0 ≤ x9_2 then (if x9_2 < ((rd_L2 l0 x7_1).length : Int) then (depotlaw27_made.l1 kj10 l0 l1 l2 x7_1 (false == (decide ((rd (rd_L2 l0 x7_1) x9_2) > 0))) (wrap64 (x9_2 + 1))) else (none)) else (none)) else (none)) else (none)) = some r := by rw [if_neg (show ¬ (false = true) by decide)] at H; exact H
                                  clear H
                                  have H := H1
                                  clear H1
                                  by_cases c38 : 0 ≤ x7_1
                                  · rw [if_pos c38] at H
                                    have c38b0 : decide (0 ≤ x7_1) = true := decide_eq_true c38
                                    clear c38
                                    by_cases c39 : x7_1 < (l0.length : Int)
                                    · rw [if_pos c39] at H
                                      have c39b0 : decide (x7_1 < (l0.length : Int)) = true := decide_eq_true c39
                                      clear c39
                                      by_cases c40 : 0 ≤ x9_2
                                      · rw [if_pos c40] at H
                                        have c40b0 : decide (0 ≤ x9_2) = true := decide_eq_true c40
                                        clear c40
                                        by_cases c41 : x9_2 < ((rd_L2 l0 x7_1).length : Int)
                                        · rw [if_pos c41] at H
                                          have c41b0 : decide (x9_2 < ((rd_L2 l0 x7_1).length : Int)) = true := decide_eq_true c41
                                          clear c41
                                          have H' := Aside0.mk H
                                          clear H
                                          have p275 : 0 ≤ (x7_1 : Int) := of_decide_eq_true (by first | (with_reducible assumption) | assumption)
                                          have q275 : x7_1 < (l0.length : Int) := of_decide_eq_true (by first | (with_reducible assumption) | assumption)
                                          obtain ⟨ad275, A275_0, c275_0, e275, hx275_0, hl275_0, hi275_0⟩ := at_L2 HR0.out x7_1 p275 q275
                                          obtain rfl : ad264 = ad275 := (by injection e275)
                                          have HR275_0 := Aside0.mk hi275_0
                                          have HC275_0 := Aside0.mk hl275_0
                                          clear hi275_0 hl275_0
                                          replace p275 := eq_true p275
                                          replace q275 := eq_true q275
                                          have p276 : 0 ≤ (x9_2 : Int) := of_decide_eq_true (by first | (with_reducible assumption) | assumption)
                                          have q276 : x9_2 < ((rd_L2 l0 x7_1).length : Int) := of_decide_eq_true (by first | (with_reducible assumption) | assumption)
                                          obtain ⟨ad276, e276, hx276_0⟩ := Kd.at_int HR275_0.out x9_2 p276 q276
                                          cases e276
                                          replace p276 := eq_true p276
                                          replace q276 := eq_true q276
                                          go_wp2
                                          go_roundg kj10
                                          case measure => have := HK1.out; have := HK2.out; have := HJ8.out; have := HJ10.out; omega
                                          case rel => exact ⟨((false == (decide ((rd (rd_L2 l0 x7_1) x9_2) > 0)))), (wrap64 (x9_2 + 1)), (by first | rfl | (simp; done) | (simp [*]; done)), (by first | rfl | (simp; done) | (simp [*]; done)), H', ⟨by have := HK1.out; have := HK2.out; have := HJ8.out; have := HJ10.out; omega⟩, by repeat (first | exact Drawn0.refl _ | apply Drawn0.step)⟩
                                        · rw [if_neg c41] at H
                                          exact absurd H (by simp)
                                      · rw [if_neg c40] at H
                                        exact absurd H (by simp)
                                    · rw [if_neg c39] at H
                                      exact absurd H (by simp)
                                  · rw [if_neg c38] at H
                                    exact absurd H (by simp)
                  · rw [if_neg c8] at H
                    exact absurd H (by simp)
                · rw [if_neg c7] at H
                  have c7b0 : decide (x9_2 < ((rd_L2 l0 x7_1).length : Int)) = false := decide_eq_false c7
                  clear c7
                  by_cases c42 : x8_2 = true
                  · subst c42
                    have H1 : (depotlaw27_made.l0 k2 l0 l1 l2 (wrap64 (x7_1 + 1))) = some r := by rw [if_pos rfl] at H; exact H
                    clear H
                    have H := H1
                    clear H1
                    have H' := Aside0.mk H
                    clear H
                    have p264 : 0 ≤ (x7_1 : Int) := of_decide_eq_true (by first | (with_reducible assumption) | assumption)
                    have q264 : x7_1 < (l0.length : Int) := of_decide_eq_true (by first | (with_reducible assumption) | assumption)
                    obtain ⟨ad264, A264_0, c264_0, e264, hx264_0, hl264_0, hi264_0⟩ := at_L2 HR0.out x7_1 p264 q264
                    cases e264
                    have HR264_0 := Aside0.mk hi264_0
                    have HC264_0 := Aside0.mk hl264_0
                    clear hi264_0 hl264_0
                    replace p264 := eq_true p264
                    replace q264 := eq_true q264
                    go_wp2
                    go_roundg k2
                    case measure => have := HK1.out; have := HK2.out; omega
                    case rel => exact ⟨(wrap64 (x7_1 + 1)), (by first | rfl | (simp; done) | (simp [*]; done)), H', ⟨by have := HK1.out; have := HK2.out; omega⟩, by repeat (first | exact Drawn0.refl _ | apply Drawn0.step)⟩
                  · replace c42 := Bool.eq_false_iff.mpr c42
                    subst c42
                    have H1 : (some false) = some r := by rw [if_neg (show ¬ (false = true) by decide)] at H; exact H
                    clear H
                    have H := H1
                    clear H1
                    obtain rfl := Option.some.inj H
                    have p264 : 0 ≤ (x7_1 : Int) := of_decide_eq_true (by first | (with_reducible assumption) | assumption)
                    have q264 : x7_1 < (l0.length : Int) := of_decide_eq_true (by first | (with_reducible assumption) | assumption)
                    obtain ⟨ad264, A264_0, c264_0, e264, hx264_0, hl264_0, hi264_0⟩ := at_L2 HR0.out x7_1 p264 q264
                    cases e264
                    have HR264_0 := Aside0.mk hi264_0
                    have HC264_0 := Aside0.mk hl264_0
                    clear hi264_0 hl264_0
                    replace p264 := eq_true p264
                    replace q264 := eq_true q264
                    go_wp2
                    go_ret
                    exact ⟨by first | rfl | (simp; done) | (simp [*]; done), by repeat (first | exact Drawn0.refl _ | apply Drawn0.step)⟩
              · rw [if_neg c6] at H
                exact absurd H (by simp)
            · rw [if_neg c5] at H
              exact absurd H (by simp)
      · rw [if_neg c4] at H
        have c4b0 : decide (x7_1 < (l0.length : Int)) = false := decide_eq_false c4
        clear c4
        obtain rfl := Option.some.inj H
        go_wp2
        go_ret
        exact ⟨by first | rfl | (simp; done) | (simp [*]; done), by repeat (first | exact Drawn0.refl _ | apply Drawn0.step)⟩

end Go.Proofs.Ytlemkghpcbkcpaa.PAtmostCounts
