/- What atmost.AtMost answers. -/
import Derived.Test.YtlemkghpcbkcpaaAtmostWalk
namespace Go.Proofs.YtlemkghpcbkcpaaHand
open Go.RowKit Go.Proofs.YtlemkghpcbkcpaaW.PrintWords Go.Proofs.YtlemkghpcbkcpaaW.PrintLast Go.Proofs.YtlemkghpcbkcpaaMath Go.Proofs.YtlemkghpcbkcpaaMaps Go.Maps
set_option linter.unusedVariables false
set_option linter.unusedSimpArgs false

structure Two (w : World) (a b : Value) (W : World) : Prop where
  hz : w.heap.size + 2 ≤ W.heap.size
  hB : Below w.heap.size w W
  f4 : W.cell? ⟨w.heap.size, 0, none⟩ = some a
  f5 : W.cell? ⟨w.heap.size + 1, 0, none⟩ = some b
theorem two (w : World) (a b : Value) (ta tb : Nat) (W : World) (h : W = (w.alloc (.cells #[a] ta)).alloc (.cells #[b] tb)) : Two w a b W := by
  subst h
  refine ⟨by simp, by repeat (first | exact Below.refl _ _ | apply below_alloc), ?_, ?_⟩ <;> simp [go_sem]
theorem Two.keep {w : World} {a b : Value} {W W1 : World} (h : Two w a b W) (k : Below W.heap.size W W1) : Two w a b W1 := by
  obtain ⟨hz, hB, f4, f5⟩ := h
  refine ⟨Nat.le_trans hz k.size, below_then hB hB.size k, ?_, ?_⟩
  · exact (k.cell (p := ⟨w.heap.size, 0, none⟩) (show w.heap.size < _ by omega)).trans f4
  · exact (k.cell (p := ⟨w.heap.size + 1, 0, none⟩) (show w.heap.size + 1 < _ by omega)).trans f5
theorem Two.drewN {w : World} {a b : Value} {W : World} (h : Two w a b W) (n : Nat) : Two w a b (W.drewN n) := h.keep (pw_below_drewN (Below.refl _ _) _)

def badK (l : List Int) (k first : Int) : Bool := decide (k < 0 ∨ first < 1 ∨ first > 1048577 ∨ (k < (l.length : Int) ∧ helpersOf l.length k > 1048577 - first))
theorem quiet_var {y : Int} {w : World} {n : Nat} : Calls Try.prog 35 #[.int .i64 y] (w.drewN n) fun e w'' => e = .returned (.int .i64 (varOf y)) ∧ ∃ m, w'' = w.drewN m :=
  Calls.quiet_of ((var_calls y (varOf y) _ rfl).mono fun _ _ h => ⟨h.1, h.2.out⟩)

set_option maxHeartbeats 8000000 in
set_option maxRecDepth 100000 in
theorem atmost_calls (A0 : Option Addr) (c0 : Nat) (l0 : List Int) (k first : Int) (w : World) (hr0 : Kd.C (Kd.int .i64) w A0 l0.length l0) (hn : l0.length ≤ 17592186044416) (hkb : -9223372036854775808 ≤ k ∧ k ≤ 9223372036854775807) :
    Calls Try.prog 17 #[.slice A0 l0.length c0, .int .i64 k, .int .i64 first] w fun e w' => ∃ v : Value, e = .returned (.tuple #[v, .int .i64 (atmostOf l0 k first).2.1, .int .i64 (atmostOf l0 k first).2.2]) ∧ Kd.S (Kd.slice 3 (Kd.int .i64)) 33 w' w.heap.size (fun _ => True) v (atmostOf l0 k first).1 ∧ Below w.heap.size w w' := by
  have HR0 := Aside0.mk hr0
  have UC := fun W (h : Kd.C (Kd.int .i64) W A0 l0.length l0) => unlike_calls A0 c0 l0 W h hn
  have HUC := Aside0.mk UC
  have HN := Aside0.mk hn
  have HKB := Aside0.mk hkb
  clear UC hr0 hn hkb
  go_enter Try.func17, Try.ntmps17
  go_wp2_with fail
  obtain ⟨W0, hW0⟩ : ∃ W0, W0 = (w.alloc (.cells #[.int .i64 k] 3)).alloc (.cells #[.int .i64 first] 3) := ⟨_, rfl⟩
  rw [← hW0]
  have T0 := two w _ _ _ _ W0 hW0
  clear hW0
  (with_reducible refine (HUC.out _ (Kd.C_below HR0.out T0.hB)).mono ?_)
  rintro e W1 ⟨rfl, hb⟩
  have HT1 := Aside0.mk (T0.keep hb)
  clear T0 hb
  cases hu : unlikeOf l0 with
  | false =>
    have HE : Aside0 (atmostOf l0 k first = ([], 0, 1)) := ⟨by unfold atmostOf; rw [if_pos hu]⟩
    clear hu
    go_wp2_with fail
    go_ret3
    rw [HE.out]
    exact ⟨_, rfl, Kd.S_nil _ _ _ _ _, HT1.out.hB⟩
  | true =>
    have HU := Aside0.mk hu
    clear hu
    obtain ⟨b, hb⟩ : ∃ b, b = badK l0 k first := ⟨_, rfl⟩
    have HBD := Aside0.mk hb
    clear hb
    go_upto_region 4 with fail
    go_cut [40] (fun s40 wx => s40 = .bool b ∧ Two w (.int .i64 k) (.int .i64 first) wx)
    case first =>
      have f4 := HT1.out.f4
      have f5 := HT1.out.f5
      have hb := HBD.out
      unfold badK at hb
      by_cases c1 : k < 0
      · have d1 : decide (k < 0) = true := decide_eq_true c1
        obtain rfl : b = true := by rw [hb]; simp [c1]
        clear hb c1
        go_quiet (fail)
        go_wp2_with fail
        go_meet
        exact ⟨rfl, HT1.out.drewN _⟩
      · have d1 : decide (k < 0) = false := decide_eq_false c1
        by_cases c2 : first < 1
        · have d2 : decide (first < 1) = true := decide_eq_true c2
          obtain rfl : b = true := by rw [hb]; simp [c2]
          clear hb c1 c2
          go_quiet (fail)
          go_wp2_with fail
          go_meet
          exact ⟨rfl, HT1.out.drewN _⟩
        · have d2 : decide (first < 1) = false := decide_eq_false c2
          by_cases c3 : first > 1048577
          · have d3 : decide (first > 1048577) = true := decide_eq_true c3
            have d3' : decide (1048577 < first) = true := decide_eq_true c3
            obtain rfl : b = true := by rw [hb]; simp [c3]
            clear hb c1 c2 c3
            go_quiet (fail)
            go_wp2_with fail
            go_meet
            exact ⟨rfl, HT1.out.drewN _⟩
          · have d3 : decide (first > 1048577) = false := decide_eq_false c3
            have d3' : decide (1048577 < first) = false := decide_eq_false c3
            by_cases c4 : k < (l0.length : Int)
            · have d4 : decide (k < (l0.length : Int)) = true := decide_eq_true c4
              have hl := unlike_length HU.out
              obtain ⟨R, hR⟩ : ∃ R, IntKind.i64.wrap (1048577 - first) = R := ⟨_, rfl⟩
              have eR : R = 1048577 - first := by rw [← hR, wrapI _ (by omega) (by omega)]
              obtain ⟨q, hq⟩ : ∃ q, helpersOf l0.length k = q := ⟨_, rfl⟩
              have HC := fun W => helpers_calls l0.length k q W (by omega) (by omega) (by omega) hq
              have d5 : decide (R < q) = b := by rw [hb, hq, eR, Bool.eq_iff_iff]; simp; omega
              have d5' : decide (q > R) = b := d5
              have HHC := Aside0.mk HC
              clear hb c1 c2 c3 c4 hl eR hq HC
              go_quiet ((go_at_call 31; exact Calls.quiet_of_same ((HHC.out _).mono fun _ _ h => ⟨h.1, h.2.symm⟩)))
              go_wp2_with fail
              go_meet
              exact ⟨rfl, HT1.out.drewN _⟩
            · have d4 : decide (k < (l0.length : Int)) = false := decide_eq_false c4
              obtain rfl : b = false := by rw [hb]; simp [c1, c2, c3, c4]
              clear hb c1 c2 c3 c4
              go_quiet (fail)
              go_wp2_with fail
              go_meet
              exact ⟨rfl, HT1.out.drewN _⟩
    case rest =>
      obtain ⟨rfl, hT⟩ := hcut
      have HT := Aside0.mk hT
      clear hT HT1
      cases b with
      | true =>
        have HE : Aside0 (atmostOf l0 k first = ([], 0, 2)) := ⟨by
          unfold atmostOf
          rw [if_neg (by rw [HU.out]; simp), if_pos]
          have := HBD.out
          unfold badK at this
          exact of_decide_eq_true this.symm⟩
        go_wp2_with fail
        go_ret3
        rw [HE.out]
        exact ⟨_, rfl, Kd.S_nil _ _ _ _ _, HT.out.hB⟩
      | false =>
        have hbd0 := HBD.out
        unfold badK at hbd0
        have hbd := of_decide_eq_false hbd0.symm
        clear hbd0
        have hl := unlike_length HU.out
        have hk0 : 0 ≤ k := by omega
        have hf0 : 1 ≤ first ∧ first ≤ 1048577 := by omega
        have HA : Aside0 (0 ≤ k ∧ 1 ≤ first ∧ first ≤ 1048577 ∧ l0.length ≤ 1048576 ∧ (k < (l0.length : Int) → helpersOf l0.length k ≤ 1048577 - first)) := ⟨⟨hk0, hf0.1, hf0.2, hl, fun h => by omega⟩⟩
        have HND : Aside0 (¬ (k < 0 ∨ first < 1 ∨ first > 1048577 ∨ (k < (l0.length : Int) ∧ helpersOf l0.length k > 1048577 - first))) := ⟨hbd⟩
        clear hbd hl hk0 hf0
        go_wp2_with fail
        go_loopw [6, 43] (fun v6 v43 wr => ∃ (j : Nat) (x : Int), v6 = .slice none 0 0 ∧ v43 = .int .i64 x ∧ Aside0 (x = j ∧ j ≤ l0.length) ∧ Aside0 ((∀ y ∈ l0.take j, varOf y < first) ∧ Two w (.int .i64 k) (.int .i64 first) wr)) (fun _ i _ => l0.length - (intOf i).toNat)
        case atStart => exact ⟨0, 0, rfl, rfl, ⟨rfl, Nat.zero_le _⟩, ⟨by simp, HT.out⟩⟩
        case round =>
          clear HT
          obtain ⟨j, x, rfl, rfl, HX, HM⟩ := hrel
          obtain ⟨hxj, hj⟩ := HX.out
          by_cases hlt : j < l0.length
          · have p1 : 0 ≤ x := by omega
            have q1 : x < (l0.length : Int) := by omega
            obtain ⟨ad, e1, hcell⟩ := Kd.at_int (Kd.C_below HR0.out HM.out.2.hB) x p1 q1
            subst e1
            have p2 := eq_true p1
            have q2 := eq_true q1
            have q3 : decide (x < (l0.length : Int)) = true := decide_eq_true q1
            have RF := Aside0.mk (round_facts hxj hlt (by have := HN.out; omega))
            have f5 := HM.out.2.f5
            obtain ⟨y, hy⟩ : ∃ y, y = rd l0 x := ⟨_, rfl⟩
            rw [← hy] at hcell
            have hmem : y ∈ l0 := by rw [hy, hxj]; exact rd_mem hlt
            have htk : l0.take (j + 1) = l0.take j ++ [y] := by rw [hy, hxj, take_rd hlt]
            by_cases hv : first ≤ varOf y
            · have d1 : decide (first ≤ varOf y) = true := decide_eq_true hv
              have HE : Aside0 (atmostOf l0 k first = ([], 0, 2)) := ⟨by
                unfold atmostOf
                rw [if_neg (by rw [HU.out]; simp), if_neg HND.out, if_pos]
                exact List.any_eq_true.2 ⟨y, hmem, d1⟩⟩
              clear hxj hj hlt p1 q1 hy hv hmem htk HX
              go_wp2_with fail
              go_quiet ((go_at_call 35; exact quiet_var))
              go_wp2_with fail
              go_ret3
              rw [HE.out]
              exact ⟨_, rfl, Kd.S_nil _ _ _ _ _, (HM.out.2.drewN _).hB⟩
            · have d1 : decide (first ≤ varOf y) = false := decide_eq_false hv
              have HALL : Aside0 (∀ z ∈ l0.take (j + 1), varOf z < first) := ⟨by
                rw [htk]
                intro z hz
                rcases List.mem_append.1 hz with hz | hz
                · exact HM.out.1 z hz
                · rw [List.mem_singleton.1 hz]; omega⟩
              have HJ : Aside0 (j + 1 ≤ l0.length) := ⟨hlt⟩
              clear hxj hj hlt p1 q1 hy hv hmem htk HX
              go_wp2_with fail
              go_quiet ((go_at_call 35; exact quiet_var))
              go_wp2_with fail
              go_roundw
              case measure => exact RF.out.2
              case rel => exact ⟨j + 1, _, rfl, rfl, ⟨RF.out.1, HJ.out⟩, ⟨HALL.out, HM.out.2.drewN _⟩⟩
          · obtain rfl : j = l0.length := by omega
            have q3 : decide (x < (l0.length : Int)) = false := decide_eq_false (by omega)
            have f4 := HM.out.2.f4
            have f5 := HM.out.2.f5
            have hall := HM.out.1
            rw [List.take_length] at hall
            have hnone : ¬ (l0.any fun x => decide (first ≤ varOf x)) = true := by
              intro h
              obtain ⟨z, hz, h2⟩ := List.any_eq_true.1 h
              have h3 := of_decide_eq_true h2
              have := hall z hz
              omega
            obtain ⟨a0, a1, a2, a3, a4⟩ := HA.out
            obtain ⟨q, hq⟩ : ∃ q, helpersOf l0.length k = q := ⟨_, rfl⟩
            have HC := Aside0.mk (fun W => helpers_calls l0.length k q W (by omega) (by omega) a0 hq)
            by_cases c4 : k < (l0.length : Int)
            · have d4 : decide (k < (l0.length : Int)) = true := decide_eq_true c4
              have hqb : 0 ≤ q ∧ q ≤ 1048577 - first := by
                refine ⟨?_, by rw [← hq]; exact a4 c4⟩
                rw [← hq]
                unfold helpersOf
                split
                · exact Int.le_refl _
                · exact Int.mul_nonneg (by omega) a0
              have HE : Aside0 (atmostOf l0 k first = (clausesOf l0 k.toNat first, first + q, 0)) := ⟨by
                unfold atmostOf
                rw [if_neg (by rw [HU.out]; simp), if_neg HND.out, if_neg hnone, if_pos c4, hq]⟩
              have HQ : Aside0 (wrap64 (first + q) = first + q) := ⟨w64 (by omega) (by omega)⟩
              have CC : Calls Try.prog 37 #[.slice A0 l0.length c0, .int .i64 k, .func (.func 36) #[] #[.pointer (some ⟨w.heap.size + 1, 0, none⟩), .pointer (some ⟨w.heap.size, 0, none⟩)]] wr fun e w' => ∃ v : Value, e = .returned v ∧ Kd.S (Kd.slice 3 (Kd.int .i64)) 33 w' wr.heap.size (fun _ => True) v (clausesOf l0 k.toNat first) ∧ Below wr.heap.size wr w' := by
                rcases Int.lt_or_eq_of_le a0 with hk | hk
                · refine clauses_pos A0 c0 l0 k.toNat k first (w.heap.size + 1) w.heap.size wr (Kd.C_below HR0.out HM.out.2.hB) (unlike_sound HU.out) ⟨by omega, by omega, a3, a1, ?_, by omega⟩ f5 f4 (by have := HM.out.2.hz; omega) (by have := HM.out.2.hz; omega)
                  have h5 := a4 c4
                  unfold helpersOf at h5
                  rw [if_neg (by omega)] at h5
                  rw [show ((k.toNat : Nat) : Int) = k by omega]
                  omega
                · subst hk
                  exact clauses_zero A0 c0 l0 _ first wr (Kd.C_below HR0.out HM.out.2.hB) (unlike_sound HU.out) a3
              have HCC := Aside0.mk CC
              clear CC a0 a1 a2 a3 a4 hnone hall hq hqb c4 hxj hj hlt HX
              go_wp2_with fail
              (with_reducible refine (HCC.out).mono ?_)
              rintro e W5 ⟨v, rfl, hs, hb⟩
              have HT5 := Aside0.mk (HM.out.2.keep hb)
              have HS5 := Aside0.mk (Kd.S_lower hs (show w.heap.size ≤ wr.heap.size by have := HM.out.2.hz; omega))
              clear hs hb f4 f5
              have f4 := HT5.out.f4
              have f5 := HT5.out.f5
              go_wp2_with fail
              go_quiet ((go_at_call 31; exact Calls.quiet_of_same ((HC.out _).mono fun _ _ h => ⟨h.1, h.2.symm⟩)))
              go_wp2_with fail
              go_ret3
              rw [HE.out]
              exact ⟨v, by show Ending.returned (.tuple #[v, .int .i64 (wrap64 (first + q)), .int .i64 0]) = _; rw [HQ.out], Kd.S_drewN HS5.out _, (HT5.out.drewN _).hB⟩
            · have d4 : decide (k < (l0.length : Int)) = false := decide_eq_false c4
              obtain rfl : q = 0 := by
                rw [← hq]
                unfold helpersOf
                rw [if_pos (by omega)]
              have HE : Aside0 (atmostOf l0 k first = ([], first + 0, 0)) := ⟨by
                unfold atmostOf
                rw [if_neg (by rw [HU.out]; simp), if_neg HND.out, if_neg hnone, if_neg c4, hq]⟩
              have HQ : Aside0 (wrap64 first = first + 0) := ⟨by rw [w64 (by omega) (by omega)]; omega⟩
              clear a0 a1 a2 a3 a4 hnone hall hq c4 hxj hj hlt HX
              go_wp2_with fail
              go_quiet ((go_at_call 31; exact Calls.quiet_of_same ((HC.out _).mono fun _ _ h => ⟨h.1, h.2.symm⟩)))
              go_wp2_with fail
              go_ret3
              rw [HE.out]
              exact ⟨.slice none 0 0, by show Ending.returned (.tuple #[.slice none 0 0, .int .i64 (wrap64 first), .int .i64 0]) = _; rw [HQ.out], Kd.S_nil _ _ _ _ _, (HM.out.2.drewN _).hB⟩
end Go.Proofs.YtlemkghpcbkcpaaHand
