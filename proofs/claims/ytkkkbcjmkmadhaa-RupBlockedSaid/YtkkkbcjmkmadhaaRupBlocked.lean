/- What rup.Blocked answers. -/
import Derived.Test.YtkkkbcjmkmadhaaRupBase
namespace Go.Proofs.YtkkkbcjmkmadhaaMath
open Go.RowKit Go.Proofs.YtkkkbcjmkmadhaaW.PrintWords
def restTaut (left rest : List Int) : Bool := tautIn (tidyOf (tidyOf (left ++ rest)))
def lessBy (d : List Int) (x : Int) : List Int := (tidyOf d).filter fun y => !(y == x)
def eachOf (cs : List (List Int)) (x : Int) (left : List Int) : Bool := cs.all fun d => !(has d (-x)) || restTaut left (lessBy d (-x))
def blockedOf (v : Int) (cs : List (List Int)) (c : List Int) : Bool × Int :=
  if (isFormula v cs && sound c) = true then (if c.length = 0 then (false, 0) else (eachOf cs (rd c 0) (lessBy c (rd c 0)), 0)) else (false, 1)
theorem lessBy_length (d : List Int) (x : Int) : (lessBy d x).length ≤ 2097152 :=
  Nat.le_trans (List.length_filter_le _ _) (formed_count (tidyOf d) (rising_tidyOf d) (fun _ h => tidyOf_formed h))
end Go.Proofs.YtkkkbcjmkmadhaaMath
namespace Go.Proofs.YtkkkbcjmkmadhaaHand
open Go.RowKit Go.Proofs.YtkkkbcjmkmadhaaW.PrintWords Go.Proofs.YtkkkbcjmkmadhaaW.PrintLast Go.Proofs.YtkkkbcjmkmadhaaMath
set_option linter.unusedVariables false
set_option linter.unusedSimpArgs false

theorem cell_lt {w : World} {a : Addr} {v : Value} (h : w.cell? a = some v) : a.block < w.heap.size := by
  rcases Nat.lt_or_ge a.block w.heap.size with h1 | h1
  · exact h1
  · have h2 : w.heap[a.block]? = none := Array.getElem?_eq_none h1
    unfold World.cell? at h
    simp [h2] at h

set_option maxHeartbeats 4000000 in
set_option maxRecDepth 100000 in
theorem rest_calls (B : Nat) (A0 A1 : Option Addr) (c0 c1 : Nat) (l0 l1 : List Int) (w : World) (hc : w.cell? ⟨B, 0, none⟩ = some (.slice A0 l0.length c0)) (hr0 : Kd.C (Kd.int .i64) w A0 l0.length l0) (hc0 : l0.length ≤ c0) (hr1 : Kd.C (Kd.int .i64) w A1 l1.length l1) (hc1 : l1.length ≤ c1) (hn : l0.length + l1.length ≤ 17592186044416) :
    Calls Try.prog 92 #[.slice A1 l1.length c1, .pointer (some ⟨B, 0, none⟩)] w fun e w' => e = .returned (.bool (restTaut l0 l1)) ∧ Below w.heap.size w w' := by
  have J := Aside0.mk (join_calls A0 A1 c0 c1 l0 l1 w hr0 hc0 hr1 hc1 hn)
  have ht := tidyOf_length (l0 ++ l1)
  rw [List.length_append] at ht
  have HT : Aside0 ((tidyOf (l0 ++ l1)).length ≤ 17592186044416) := ⟨by omega⟩
  clear hr0 hc0 hr1 hc1 hn ht
  unfold restTaut
  generalize tidyOf (l0 ++ l1) = t at *
  go_enter Try.func92, Try.ntmps92
  go_wp2_with (first
    | (go_at_call 93; (with_reducible refine J.out.mono ?_); rintro e w1 ⟨v1, rfl, ho1, hb1⟩; have HO1 := Aside0.mk ho1; have HB1 := Aside0.mk hb1; clear ho1 hb1; obtain ⟨Ao, co, eo⟩ := Kd.R_slice HO1.out; subst eo)
    | (go_at_call 82; (with_reducible refine (taut_calls Ao co t w1 (Kd.R_reads' HO1.out).2.2 (Kd.R_reads' HO1.out).2.1 HT.out).mono ?_); rintro e w2 ⟨rfl, hb2⟩; have HB2 := Aside0.mk hb2; clear hb2))
  go_ret
  exact ⟨rfl, below_step HB1.out HB2.out⟩

set_option maxHeartbeats 8000000 in
set_option maxRecDepth 100000 in
theorem each_calls (v1 : Int) (A1 A2 A3 : Option Addr) (c1 c2 c3 B : Nat) (l1 : List (List Int)) (l2 l3 : List Int) (w : World) (hr1 : Kd.C (Kd.slice 3 (Kd.int .i64)) w A1 l1.length l1) (hr2 : Kd.C (Kd.int .i64) w A2 l2.length l2)
    (hB : B < w.heap.size) (hc : w.cell? ⟨B, 0, none⟩ = some (.slice A3 l3.length c3)) (hr3 : Kd.C (Kd.int .i64) w A3 l3.length l3) (hc3 : l3.length ≤ c3)
    (hn : l1.length ≤ 17592186044416) (hs : ∀ c ∈ l1, c.length ≤ 17592186044416) (hn3 : l3.length ≤ 2097152) (hp : 0 < l2.length) (hf : formed (rd l2 0) = true) :
    Calls Try.prog 91 #[.agg #[.int .i64 v1, .slice A1 l1.length c1], .slice A2 l2.length c2, .func (.func 92) #[] #[.pointer (some ⟨B, 0, none⟩)]] w fun e w' => e = .returned (.bool (eachOf l1 (rd l2 0) l3)) ∧ Below w.heap.size w w' := by
  have HR1 := Aside0.mk hr1
  have HR2 := Aside0.mk hr2
  have HR3 := Aside0.mk hr3
  have HC3 := Aside0.mk hc3
  have HBL := Aside0.mk hB
  have HCB := Aside0.mk hc
  have HN := Aside0.mk hn
  have HS := Aside0.mk hs
  have HN3 := Aside0.mk hn3
  have HP := Aside0.mk hp
  have hbd := formed_bd hf
  obtain ⟨y, hy⟩ : ∃ y, y = rd l2 0 := ⟨_, rfl⟩
  rw [← hy] at hbd ⊢
  have HY := Aside0.mk hy
  have hneg : wrap64 (-y) = -y := by rw [w64 (by omega) (by omega)]
  clear hr1 hr2 hr3 hc3 hB hc hn hs hn3 hp hf hbd hy
  go_enter Try.func91, Try.ntmps91
  go_wp2_with fail
  go_loopw [8, 12] (fun _ v12 wr => ∃ (k : Nat) (x : Int), v12 = .int .i64 x ∧ Aside0 (x = k ∧ k ≤ l1.length) ∧ Aside0 (∀ d ∈ l1.take k, (!(has d (-y)) || restTaut l3 (lessBy d (-y))) = true) ∧ Aside0 (Below w.heap.size w wr)) (fun _ i _ => l1.length - (intOf i).toNat)
  case atStart => exact ⟨0, 0, rfl, ⟨rfl, Nat.zero_le _⟩, ⟨by simp⟩, ⟨below_alloc (Below.refl _ _) _⟩⟩
  case round =>
    obtain ⟨k, x, rfl, HX, HA, HB⟩ := hrel
    obtain ⟨hxk, hk⟩ := HX.out
    by_cases hlt : k < l1.length
    · have p1 : 0 ≤ x := by omega
      have q1 : x < (l1.length : Int) := by omega
      obtain ⟨ad, A, cc, e1, hcell, hlc, hrow⟩ := row_at (Kd.C_below HR1.out HB.out) x p1 q1
      subst e1
      have p2 := eq_true p1
      have q2 := eq_true q1
      have q3 : decide (x < (l1.length : Int)) = true := decide_eq_true q1
      have hgd : l1.getD x.toNat [] = l1.getD k [] := by rw [hxk]; rfl
      rw [hgd] at hcell hrow hlc
      have hmem : l1.getD k [] ∈ l1 := by rw [List.getD_eq_getElem?_getD, List.getElem?_eq_getElem hlt]; exact List.getElem_mem hlt
      have HX2 : Aside0 (wrap64 (x + 1) = ((k + 1 : Nat) : Int) ∧ k + 1 ≤ l1.length) := by
        have := HN.out
        exact ⟨by rw [w64 (by omega) (by omega)]; omega, by omega⟩
      have hm : (intOf (.int .i64 (wrap64 (x + 1)))).toNat = k + 1 := by rw [HX2.out.1]; simp [intOf]
      have hm0 : (intOf (.int .i64 x)).toNat = k := by rw [hxk]; simp [intOf]
      have HMS : Aside0 (l1.length - (intOf (.int .i64 (wrap64 (x + 1)))).toNat < l1.length - (intOf (.int .i64 x)).toNat) := ⟨by rw [hm, hm0]; omega⟩
      have HLR : Aside0 ((l1.getD k []).length ≤ 17592186044416) := ⟨HS.out _ hmem⟩
      have HTK : Aside0 (l1.take (k + 1) = l1.take k ++ [l1.getD k []]) := ⟨by rw [List.take_add_one, List.getElem?_eq_getElem hlt, List.getD_eq_getElem?_getD, List.getElem?_eq_getElem hlt]; rfl⟩
      have HMEM := Aside0.mk hmem
      have HROW := Aside0.mk hrow
      have HLC := Aside0.mk hlc
      -- the clause's first literal
      have z1 : (0 : Int) < (l2.length : Int) := by have := HP.out; omega
      obtain ⟨ad2, e2, hcell2⟩ := Kd.at_int (Kd.C_below HR2.out HB.out) 0 (Int.le_refl 0) z1
      subst e2
      rw [← HY.out] at hcell2
      have z2 := eq_true z1
      have z3 : decide ((0 : Int) < (l2.length : Int)) = true := decide_eq_true z1
      have z4 : (0 < l2.length) = True := eq_true HP.out
      have hcell3 : wr.cell? ad2 = some (.int .i64 y) := by simpa [Addr.add] using hcell2
      clear hcell2
      have HCW : Aside0 (ad2.block < wr.heap.size) := ⟨cell_lt hcell3⟩
      clear hm hm0 hxk hk hlt p1 q1 hrow hlc hmem HX hgd z1
      generalize l1.getD k [] = row at *
      have H := has_calls A cc row (-y) wr HROW.out HLC.out HLR.out
      cases hh : has row (-y) with
      | false =>
        rw [hh] at H
        have HU : Aside0 ((!(has row (-y)) || restTaut l3 (lessBy row (-y))) = true) := ⟨by rw [hh]; rfl⟩
        clear hh
        go_wp2_with (go_at_call 63; (with_reducible refine H.mono ?_); rintro e w5 ⟨rfl, ⟨nd, rfl⟩⟩)
        go_roundw
        case measure => exact HMS.out
        case rel =>
          refine ⟨k + 1, _, rfl, HX2, ⟨?_⟩, ⟨pw_below_drewN HB.out _⟩⟩
          intro d hd
          rw [HTK.out, List.mem_append, List.mem_singleton] at hd
          rcases hd with hd | rfl
          · exact HA.out d hd
          · exact HU.out
      | true =>
        rw [hh] at H
        have HH := Aside0.mk hh
        clear hh
        have HIN : Aside0 (l3.length + (lessBy row (-y)).length ≤ 17592186044416) := ⟨by have := HN3.out; have := lessBy_length row (-y); omega⟩
        have WO := fun W h => without_calls A cc row (-y) W h HLC.out HLR.out
        have HWO := Aside0.mk WO
        clear WO
        have HIN2 : Aside0 (lessBy row (-y) = (tidyOf row).filter fun z => !(z == -y)) := ⟨rfl⟩
        have HU : Aside0 ((!(has row (-y)) || restTaut l3 (lessBy row (-y))) = restTaut l3 (lessBy row (-y))) := ⟨by rw [HH.out]; rfl⟩
        rw [← HIN2.out] at HWO
        obtain ⟨rest, hrest⟩ : ∃ r, r = lessBy row (-y) := ⟨_, rfl⟩
        rw [← hrest] at HWO HIN
        have HRS := Aside0.mk hrest
        clear HIN2 hrest
        cases ht : restTaut l3 rest with
        | true =>
          have RC := Aside0.mk (fun A1 c1 W a b c d e => ht ▸ rest_calls B A3 A1 c3 c1 l3 rest W a b c d e HIN.out)
          go_wp2_with (first
            | (go_at_call 63; (with_reducible refine H.mono ?_); rintro e w5 ⟨rfl, ⟨nd, rfl⟩⟩; have hcell4 : (wr.drewN nd).cell? ad2 = some (.int .i64 y) := hcell3)
            | (go_at_call 90; (with_reducible refine (HWO.out _ ?hc).mono ?_); (case hc => exact Kd.C_drewN HROW.out _); rintro e w6 ⟨v6, rfl, ho6, hb6⟩; have HO6 := Aside0.mk ho6; have HB6 := Aside0.mk (below_step (pw_below_drewN HB.out _) hb6); clear ho6 hb6; obtain ⟨Ao, co, eo⟩ := Kd.R_slice HO6.out; subst eo)
            | (go_at_call 92; ((with_reducible refine (RC.out Ao co w6 ((HB6.out.cell (p := ⟨B, 0, none⟩) HBL.out).trans HCB.out) (Kd.C_below HR3.out HB6.out) HC3.out (Kd.R_reads' HO6.out).2.2 (Kd.R_reads' HO6.out).2.1).mono ?_); rintro e w7 ⟨rfl, hb7⟩; have HB7 := Aside0.mk (below_step HB6.out hb7); clear hb7)))
          go_roundw
          case measure => exact HMS.out
          case rel =>
            refine ⟨k + 1, _, rfl, HX2, ⟨?_⟩, ⟨HB7.out⟩⟩
            intro d hd
            rw [HTK.out, List.mem_append, List.mem_singleton] at hd
            rcases hd with hd | rfl
            · exact HA.out d hd
            · rw [HU.out, ← HRS.out]; exact ht
        | false =>
          have RC := Aside0.mk (fun A1 c1 W a b c d e => ht ▸ rest_calls B A3 A1 c3 c1 l3 rest W a b c d e HIN.out)
          have HF : Aside0 (eachOf l1 y l3 = false) := by
            refine ⟨?_⟩
            cases he : eachOf l1 y l3 with
            | false => rfl
            | true =>
              have := List.all_eq_true.1 he row HMEM.out
              rw [HU.out, ← HRS.out, ht] at this
              cases this
          go_wp2_with (first
            | (go_at_call 63; (with_reducible refine H.mono ?_); rintro e w5 ⟨rfl, ⟨nd, rfl⟩⟩; have hcell4 : (wr.drewN nd).cell? ad2 = some (.int .i64 y) := hcell3)
            | (go_at_call 90; (with_reducible refine (HWO.out _ ?hc).mono ?_); (case hc => exact Kd.C_drewN HROW.out _); rintro e w6 ⟨v6, rfl, ho6, hb6⟩; have HO6 := Aside0.mk ho6; have HB6 := Aside0.mk (below_step (pw_below_drewN HB.out _) hb6); clear ho6 hb6; obtain ⟨Ao, co, eo⟩ := Kd.R_slice HO6.out; subst eo)
            | (go_at_call 92; ((with_reducible refine (RC.out Ao co w6 ((HB6.out.cell (p := ⟨B, 0, none⟩) HBL.out).trans HCB.out) (Kd.C_below HR3.out HB6.out) HC3.out (Kd.R_reads' HO6.out).2.2 (Kd.R_reads' HO6.out).2.1).mono ?_); rintro e w7 ⟨rfl, hb7⟩; have HB7 := Aside0.mk (below_step HB6.out hb7); clear hb7)))
          go_ret
          exact ⟨by rw [HF.out]; rfl, HB7.out⟩
    · obtain rfl : k = l1.length := by omega
      have q3 : decide (x < (l1.length : Int)) = false := decide_eq_false (by omega)
      have HF : Aside0 (eachOf l1 y l3 = true) := by
        have h := HA.out
        rw [List.take_length] at h
        exact ⟨List.all_eq_true.2 h⟩
      clear hxk hk hlt HX HA
      go_wp2
      go_ret
      exact ⟨by rw [HF.out]; rfl, HB.out⟩

set_option maxHeartbeats 8000000 in
set_option maxRecDepth 100000 in
theorem blocked_calls (v1 : Int) (A1 A2 : Option Addr) (c1 c2 : Nat) (l1 : List (List Int)) (l2 : List Int) (w : World) (hr1 : Kd.C (Kd.slice 3 (Kd.int .i64)) w A1 l1.length l1) (hc1 : l1.length ≤ c1) (hr2 : Kd.C (Kd.int .i64) w A2 l2.length l2) (hc2 : l2.length ≤ c2)
    (hn : l1.length ≤ 17592186044416) (hs : ∀ c ∈ l1, c.length ≤ 17592186044416) (hn2 : l2.length ≤ 17592186044416) :
    Calls Try.prog 52 #[.agg #[.int .i64 v1, .slice A1 l1.length c1], .slice A2 l2.length c2] w fun e w' => e = .returned (.tuple #[.bool (blockedOf v1 l1 l2).1, .int .i64 (blockedOf v1 l1 l2).2]) ∧ Below w.heap.size w w' := by
  have HR1 := Aside0.mk hr1
  have HR2 := Aside0.mk hr2
  have F1 := fun W h h2 => fit_calls v1 A1 A2 c1 c2 l1 l2 W h hc1 h2 hc2 hn hs hn2
  unfold blockedOf
  by_cases hf : (isFormula v1 l1 && sound l2) = true
  · rw [hf] at F1
    rw [if_pos hf]
    by_cases h0 : l2.length = 0
    · rw [if_pos h0]
      have e0 : ((l2.length : Int) == 0) = true := by simp [h0]
      have HF1 := Aside0.mk F1
      clear F1 hr1 hr2 hc1 hc2 hn hs hn2 hf h0
      go_enter Try.func52, Try.ntmps52
      go_wp2_with fail
      have B0 : Below w.heap.size w (w.alloc (.cells #[.int .i64 v1, .slice A1 l1.length c1] 51 (0, 0))) := below_alloc (Below.refl _ _) _
      have k0 := blk_new w (.cells #[.int .i64 v1, .slice A1 l1.length c1] 51 (0, 0))
      generalize hW0 : w.alloc (.cells #[.int .i64 v1, .slice A1 l1.length c1] 51 (0, 0)) = W0 at B0 k0 ⊢
      clear hW0
      (with_reducible refine (HF1.out _ (Kd.C_below HR1.out B0) (Kd.C_below HR2.out B0)).mono ?_)
      rintro e W1 ⟨rfl, hb⟩
      have B1 := Aside0.mk (below_step B0 hb)
      have BK1 := Aside0.mk (blk_below k0 hb)
      clear B0 hb k0
      go_wp2
      go_ret2
      exact ⟨rfl, B1.out⟩
    · rw [if_neg h0]
      have e0 : ((l2.length : Int) == 0) = false := beq_eq_false_iff_ne.mpr (by omega)
      have HF1 := Aside0.mk F1
      rw [Bool.and_eq_true] at hf
      have hpos : 0 < l2.length := Nat.pos_of_ne_zero h0
      have hfm : formed (rd l2 0) = true := sound_mem hf.2 (rd_mem (l := l2) (i := 0) hpos)
      have WO := fun W h => without_calls A2 c2 l2 (rd l2 0) W h hc2 hn2
      have E := Aside0.mk (fun (A3 : Option Addr) (c3 B : Nat) (l3 : List Int) W a b h c d e g => each_calls v1 A1 A2 A3 c1 c2 c3 B l1 l2 l3 W a b h c d e hn hs g hpos hfm)
      have hl : (lessBy l2 (rd l2 0)).length ≤ 2097152 := lessBy_length _ _
      have hl2 : lessBy l2 (rd l2 0) = (tidyOf l2).filter fun z => !(z == rd l2 0) := rfl
      rw [← hl2] at WO
      have HWO := Aside0.mk WO
      have z1 : (0 : Int) < (l2.length : Int) := by omega
      obtain ⟨ad2, e2, hcell2⟩ := Kd.at_int hr2 0 (Int.le_refl 0) z1
      subst e2
      have hcell3 : w.cell? ad2 = some (.int .i64 (rd l2 0)) := by simpa [Addr.add] using hcell2
      have HCL := Aside0.mk hcell3
      have HLT := Aside0.mk (cell_lt hcell3)
      have z2 := eq_true z1
      have z3 : decide ((0 : Int) < (l2.length : Int)) = true := decide_eq_true z1
      have z4 : (0 < l2.length) = True := eq_true hpos
      generalize lessBy l2 (rd l2 0) = left at *
      generalize rd l2 0 = y at *
      have HL := Aside0.mk hl
      clear F1 WO hr1 hr2 hc1 hc2 hn hs hn2 hf h0 hl hl2 z1 hcell2 hcell3 hpos hfm
      go_enter Try.func52, Try.ntmps52
      go_wp2_with fail
      have B0 : Below w.heap.size w (w.alloc (.cells #[.int .i64 v1, .slice A1 l1.length c1] 51 (0, 0))) := below_alloc (Below.refl _ _) _
      have k0 := blk_new w (.cells #[.int .i64 v1, .slice A1 l1.length c1] 51 (0, 0))
      generalize hW0 : w.alloc (.cells #[.int .i64 v1, .slice A1 l1.length c1] 51 (0, 0)) = W0 at B0 k0 ⊢
      clear hW0
      (with_reducible refine (HF1.out _ (Kd.C_below HR1.out B0) (Kd.C_below HR2.out B0)).mono ?_)
      rintro e W1 ⟨rfl, hb⟩
      have B1 := Aside0.mk (below_step B0 hb)
      have BK1 := Aside0.mk (blk_below k0 hb)
      clear B0 hb k0
      have hcell4 := (B1.out.cell (p := ad2) HLT.out).trans HCL.out
      have k1 := (blk_cell BK1.out 0).trans rfl
      have k2 := (blk_cell BK1.out 1).trans rfl
      go_wp2_with (first
        | (go_at_call 90; (with_reducible refine (HWO.out _ (Kd.C_below HR2.out B1.out)).mono ?_); rintro e w6 ⟨v6, rfl, ho6, hb6⟩; obtain ⟨Ao, co, eo⟩ := Kd.R_slice ho6; subst eo; have HO6 := Aside0.mk ho6; have HB6 := Aside0.mk (below_alloc (below_step B1.out hb6) (.cells #[.slice Ao left.length co] 27 (0, 0))); have BK6 := Aside0.mk (blk_alloc (blk_below BK1.out hb6) (.cells #[.slice Ao left.length co] 27 (0, 0))); have k17 := (blk_cell BK6.out 0).trans rfl; have k18 := (blk_cell BK6.out 1).trans rfl; have HN6 := Aside0.mk (blk_new w6 (.cells #[.slice Ao left.length co] 27 (0, 0))); clear ho6 hb6)
        | (go_at_call 91; go_loud ((with_reducible refine (E.out Ao co w6.heap.size left _ (Kd.C_below HR1.out HB6.out) (Kd.C_below HR2.out HB6.out) (blk_lt HN6.out) ((blk_cell HN6.out 0).trans rfl) (Kd.C_alloc (Kd.R_reads' HO6.out).2.2 _) (Kd.R_reads' HO6.out).2.1 HL.out).mono ?_); rintro e w7 ⟨rfl, hb7⟩; have HB7 := Aside0.mk (below_step HB6.out hb7); clear hb7)))
      go_ret2
      exact ⟨rfl, HB7.out⟩
  · rw [if_neg hf]
    simp only [Bool.not_eq_true] at hf
    rw [hf] at F1
    have HF1 := Aside0.mk F1
    clear F1 hr1 hr2 hc1 hc2 hn hs hn2 hf
    go_enter Try.func52, Try.ntmps52
    go_wp2_with fail
    have B0 : Below w.heap.size w (w.alloc (.cells #[.int .i64 v1, .slice A1 l1.length c1] 51 (0, 0))) := below_alloc (Below.refl _ _) _
    generalize hW0 : w.alloc (.cells #[.int .i64 v1, .slice A1 l1.length c1] 51 (0, 0)) = W0 at B0 ⊢
    clear hW0
    (with_reducible refine (HF1.out _ (Kd.C_below HR1.out B0) (Kd.C_below HR2.out B0)).mono ?_)
    rintro e W1 ⟨rfl, hb⟩
    have B1 := Aside0.mk (below_step B0 hb)
    clear B0 hb
    go_wp2
    go_ret2
    exact ⟨rfl, B1.out⟩
end Go.Proofs.YtkkkbcjmkmadhaaHand
