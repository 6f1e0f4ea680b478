/- What lits.Subsumes answers. -/
import Derived.Test.YtamefocngapkpaaClLitsSparesd
/-! text YtamefocngapkpaaSubsumes -/
namespace Go.Proofs.YtamefocngapkpaaHand
open Go.RowKit Go.Sort Go.Lib Go.Shelf Go.Proofs.YtamefocngapkpaaW.PrintWords Go.Proofs.YtamefocngapkpaaW.PrintLast Go.Proofs.YtamefocngapkpaaMath
set_option linter.unusedVariables false
set_option linter.unusedSimpArgs false

set_option maxHeartbeats 4000000 in
set_option maxRecDepth 100000 in
theorem subsumes_calls (A0 A1 : Option Addr) (c0 c1 : Nat) (l0 l1 : List Int) (w : World) (hr0 : Kd.C (Kd.int .i64) w A0 l0.length l0) (hr1 : Kd.C (Kd.int .i64) w A1 l1.length l1) (hc1 : l1.length ≤ c1) (hn0 : l0.length ≤ 17592186044416) (hn1 : l1.length ≤ 17592186044416) :
    Calls Try.prog 33 #[.slice A0 l0.length c0, .slice A1 l1.length c1] w fun e w' => e = .returned (.bool (subOf l0 l1)) ∧ Below w.heap.size w w' := by
  have HR0 := Aside0.mk hr0
  have HR1 := Aside0.mk hr1
  have HN := Aside0.mk hn0
  have S0 := fun w (h : Kd.C (Kd.int .i64) w A0 l0.length l0) => sound_calls A0 c0 l0 w h hn0
  have S1 := fun w (h : Kd.C (Kd.int .i64) w A1 l1.length l1) => sound_calls A1 c1 l1 w h hn1
  have T1 := fun w (h : Kd.C (Kd.int .i64) w A1 l1.length l1) => tidy_own A1 c1 l1 w h hc1 hn1
  obtain ⟨b0, hb0⟩ : ∃ b, sound l0 = b := ⟨_, rfl⟩
  obtain ⟨b1, hb1⟩ : ∃ b, sound l1 = b := ⟨_, rfl⟩
  obtain ⟨r, hr⟩ : ∃ r, r = subOf l0 l1 := ⟨_, rfl⟩
  rw [← hr]
  unfold subOf at hr
  rw [hb0] at S0 hr
  rw [hb1] at S1 hr
  have ht : (tidyOf l1).length < 4611686018427387904 := by have := tidyOf_length l1; omega
  have HS0 := Aside0.mk S0
  have HS1 := Aside0.mk S1
  have HT1 := Aside0.mk T1
  cases b0 with
  | false =>
    rw [Bool.false_and] at hr
    subst hr
    clear S0 S1 T1 hr0 hr1 hn0 hn1 hc1 ht hb0 hb1
    go_enter Try.func33, Try.ntmps33
    go_wp2_with fail
    (with_reducible refine (HS0.out _ HR0.out).mono ?_)
    rintro e w1 ⟨rfl, ⟨q, rfl⟩⟩
    go_wp2
    go_ret
    exact ⟨rfl, pw_below_drewN (Below.refl _ _) _⟩
  | true =>
    rw [Bool.true_and] at hr
    cases b1 with
    | false =>
      rw [Bool.false_and] at hr
      subst hr
      clear S0 S1 T1 hr0 hr1 hn0 hn1 hc1 ht hb0 hb1
      go_enter Try.func33, Try.ntmps33
      go_wp2_with fail
      (with_reducible refine (HS0.out _ HR0.out).mono ?_)
      rintro e w1 ⟨rfl, ⟨q, rfl⟩⟩
      go_wp2_with fail
      (with_reducible refine (HS1.out _ (Kd.C_below HR1.out (pw_below_drewN (Below.refl _ _) _))).mono ?_)
      rintro e w1 ⟨rfl, ⟨q, rfl⟩⟩
      go_wp2
      go_ret
      exact ⟨rfl, pw_below_drewN (Below.refl _ _) _⟩
    | true =>
      rw [Bool.true_and] at hr
      have HR := Aside0.mk hr
      have hf0 : ∀ x ∈ l0, formed x = true := fun x hx => sound_mem hb0 hx
      have HF0 := Aside0.mk hf0
      have SE := fun (W : World) (g cap : Nat) (l : Int) (h : OwnInts W w.heap.size (.slice (some ⟨g, 0, none⟩) (tidyOf l1).length cap) (tidyOf l1)) (hl : formed l = true) => search_calls W w.heap.size g cap (tidyOf l1) l h (rising_tidyOf l1) (fun _ h => tidyOf_formed h) hl ht
      have HSE := Aside0.mk SE
      generalize tidyOf l1 = t1 at HSE HT1 HR SE T1
      clear S0 S1 T1 SE hr0 hr1 hn0 hn1 hc1 ht hb0 hb1 hr hf0
      go_enter Try.func33, Try.ntmps33
      go_wp2_with fail
      (with_reducible refine (HS0.out _ HR0.out).mono ?_)
      rintro e w1 ⟨rfl, ⟨q, rfl⟩⟩
      go_wp2_with fail
      (with_reducible refine (HS1.out _ (Kd.C_below HR1.out (pw_below_drewN (Below.refl _ _) _))).mono ?_)
      rintro e w1 ⟨rfl, ⟨q1, rfl⟩⟩
      go_wp2_with fail
      (with_reducible refine (HT1.out _ (Kd.C_below HR1.out (pw_below_drewN (Below.refl _ _) _))).mono ?_)
      rintro e w1 ⟨g, cap, rfl, ho, hb⟩
      have HO : Aside0 (OwnInts w1 w.heap.size (.slice (some ⟨g, 0, none⟩) t1.length cap) t1) := ⟨by simpa using ho⟩
      have HB : Aside0 (Below w.heap.size w w1) := ⟨below_step (pw_below_drewN (Below.refl _ _) _) hb⟩
      clear ho hb HS0 HS1 HT1
      go_wp2
      go_loopw [22] (fun v22 wr => ∃ (k : Nat) (x : Int), v22 = .int .i64 x ∧ Aside0 (x = k ∧ k ≤ l0.length ∧ ((l0.drop k).all fun l => t1.contains l) = r) ∧ Aside0 (OwnInts wr w.heap.size (.slice (some ⟨g, 0, none⟩) t1.length cap) t1) ∧ Aside0 (Below w.heap.size w wr)) (fun i _ => l0.length - (intOf i).toNat)
      case atStart => exact ⟨0, 0, rfl, ⟨rfl, Nat.zero_le _, by rw [HR.out]; rfl⟩, ⟨HO.out⟩, ⟨HB.out⟩⟩
      case round =>
        clear HO HB
        obtain ⟨k, x, rfl, HX, HO, HB⟩ := hrel
        obtain ⟨hxk, hk, hs⟩ := HX.out
        by_cases hlt : k < l0.length
        · have p1 : 0 ≤ x := by omega
          have q1 : x < (l0.length : Int) := by omega
          obtain ⟨ad, e1, hcell⟩ := Kd.at_int (Kd.C_below HR0.out HB.out) x p1 q1
          subst e1
          have p2 := eq_true p1
          have q2 := eq_true q1
          have q3 : decide (x < (l0.length : Int)) = true := decide_eq_true q1
          rw [drop_rd hlt, ← hxk] at hs
          simp only [List.all_cons] at hs
          have HFL : Aside0 (formed (rd l0 x) = true) := ⟨HF0.out _ (by rw [hxk]; exact rd_mem hlt)⟩
          have HX2 : Aside0 (wrap64 (x + 1) = ((k + 1 : Nat) : Int)) := by
            have := HN.out
            exact ⟨by rw [w64 (by omega) (by omega)]; omega⟩
          have hm : (intOf (.int .i64 (wrap64 (x + 1)))).toNat = k + 1 := by rw [HX2.out]; simp [intOf]
          have hm0 : (intOf (.int .i64 x)).toNat = k := by rw [hxk]; simp [intOf]
          have HM : Aside0 (l0.length - (intOf (.int .i64 (wrap64 (x + 1)))).toNat < l0.length - (intOf (.int .i64 x)).toNat) := ⟨by rw [hm, hm0]; omega⟩
          have HK : Aside0 (k + 1 ≤ l0.length) := ⟨hlt⟩
          cases hf : t1.contains (rd l0 x) with
          | false =>
            rw [hf, Bool.false_and] at hs
            subst hs
            have HF := Aside0.mk hf
            clear hf hm hm0 hxk hk hlt p1 q1 HX HR
            go_wp2_with fail
            (with_reducible refine (HSE.out _ _ _ _ HO.out HFL.out).mono ?_)
            rintro e w2 ⟨n, rfl, ho, hg⟩
            rw [HF.out]
            have HB2 : Aside0 (Below w.heap.size w w2) := ⟨HB.out.grown hg HB.out.size (fun j hj => by cases hj; exact own_base HO.out g rfl)⟩
            clear ho hg
            go_wp2
            go_ret
            exact ⟨rfl, HB2.out⟩
          | true =>
            rw [hf, Bool.true_and] at hs
            have HS := Aside0.mk hs
            have HF := Aside0.mk hf
            clear hf hm hm0 hxk hk hlt p1 q1 hs HX HR
            go_wp2_with fail
            (with_reducible refine (HSE.out _ _ _ _ HO.out HFL.out).mono ?_)
            rintro e w2 ⟨n, rfl, ho, hg⟩
            rw [HF.out]
            have HB2 : Aside0 (Below w.heap.size w w2) := ⟨HB.out.grown hg HB.out.size (fun j hj => by cases hj; exact own_base HO.out g rfl)⟩
            have HO2 := Aside0.mk ho
            clear ho hg
            go_wp2
            go_roundw
            case measure => exact HM.out
            case rel => exact ⟨k + 1, _, rfl, ⟨HX2.out, HK.out, HS.out⟩, ⟨HO2.out⟩, ⟨HB2.out⟩⟩
        · obtain rfl : k = l0.length := by omega
          have q3 : decide (x < (l0.length : Int)) = false := decide_eq_false (by omega)
          rw [List.drop_of_length_le (Nat.le_refl _)] at hs
          obtain rfl : true = r := hs
          clear hxk hk hlt HX HR HO
          go_wp2
          go_ret
          exact ⟨rfl, HB.out⟩
end Go.Proofs.YtamefocngapkpaaHand
