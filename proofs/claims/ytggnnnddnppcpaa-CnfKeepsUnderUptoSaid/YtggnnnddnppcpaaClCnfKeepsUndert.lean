/- The law CnfKeepsUnder answers true, of a formula and a list of some size. (Laid by gen_ku.py.) -/
import Derived.Test.YtggnnnddnppcpaaClCnfKeepsUnders
/-! text YtggnnnddnppcpaaKu -/
namespace Go.Proofs.YtggnnnddnppcpaaHand
open Go.RowKit Go.Proofs.YtggnnnddnppcpaaW.PrintWords Go.Proofs.YtggnnnddnppcpaaW.PrintLast Go.Proofs.YtggnnnddnppcpaaMath Go.Proofs.YtggnnnddnppcpaaOwn Go.Proofs.Ytggnnnddnppcpaa.PCnfKeepsJoin
set_option linter.unusedVariables false
set_option linter.unusedSimpArgs false

set_option maxHeartbeats 16000000 in
set_option maxRecDepth 100000 in
theorem ku_calls (v1 : Int) (A1 A2 : Option Addr) (c1 c2 : Nat) (l1 : List (List Int)) (part : List Int) (w : World) (hr1 : Kd.C kC w A1 l1.length l1) (hc1 : l1.length ≤ c1) (hr2 : Kd.C (Kd.int .i64) w A2 part.length part) (hc2 : part.length ≤ c2)
    (hb1 : l1.length ≤ 1048576 ∧ ∀ x ∈ l1, x.length ≤ 1099511627776) (hb2 : part.length ≤ 1099511627776) :
    Calls Try.prog 14 #[.agg #[.int .i64 v1, .slice A1 l1.length c1], .slice A2 part.length c2] w fun e w' => e = .returned (.bool true) ∧ Below w.heap.size w w' := by
  obtain ⟨⟨u1v, u1l, u1e⟩, hU1⟩ : ∃ J, underOf v1 l1 part = J := ⟨_, rfl⟩
  obtain ⟨⟨u2v, u2l, u2e⟩, hU2⟩ : ∃ J, underOf v1 (l1.map (List.map negw)) part = J := ⟨_, rfl⟩
  obtain ⟨⟨sv, sl, se⟩, hSU⟩ : ∃ J, underOf 2 [[1, 2], [-1]] [2] = J := ⟨_, rfl⟩
  obtain rfl : se = 0 := by have h := small_under; rw [hSU] at h; exact h
  have HM1 : Aside0 (Sm u1l) := ⟨by have h := underOf_sm (v := v1) (part := part) hb1; rw [hU1] at h; exact h⟩
  have HM2 : Aside0 (Sm u2l) := ⟨by have h := underOf_sm (v := v1) (part := part) (neg_sm hb1); rw [hU2] at h; exact h⟩
  have HU1 := Aside0.mk hU1
  have HU2 := Aside0.mk hU2
  have HSU := Aside0.mk hSU
  have HR1 := Aside0.mk hr1
  have HR2 := Aside0.mk hr2
  have HC := Aside0.mk (And.intro hc1 hc2)
  have HB1 := Aside0.mk hb1
  have HB2 := Aside0.mk hb2
  clear hr1 hr2 hc1 hc2 hb1 hb2 hU1 hU2 hSU
  have HX : Aside0 (∀ (W : World) b, (fun _ : Nat => False) b → b < W.heap.size) := ⟨fun _ _ h => h.elim⟩
  have H0 : Aside0 (Sep w (fun _ => False) [] w) := ⟨Sep.start (Below.refl _ _) _⟩
  have hN := H0.out.new (HX.out _) (.cells #[.int .i64 v1, .slice A1 l1.length c1] 24 (0, 0))
  obtain ⟨Bf, hBf⟩ : ∃ q, q = w.heap.size := ⟨_, rfl⟩
  rw [← hBf] at hN
  have HBB := Aside0.mk hBf
  clear hBf
  obtain ⟨V0, hV0⟩ : ∃ V, V = w.alloc (.cells #[.int .i64 v1, .slice A1 l1.length c1] 24 (0, 0)) := ⟨_, rfl⟩
  rw [← hV0] at hN
  have HV0 := Aside0.mk hV0
  have H1 : Aside0 (Sep w (fun _ => False) [fB Bf v1 (.slice A1 l1.length c1)] V0) := ⟨hN⟩
  clear H0
  clear hN hV0
  go_enter Try.func14, Try.ntmps14
  go_wp2_with (go_at_call 17; refine HoldU.out ?_)
  refine ⟨?_⟩
  rw [← HV0.out, ← HBB.out]
  refine (small_c _).mono ?_
  rintro e W2 ⟨As, cs, rfl, hC, hc, hb⟩
  have HS1 := Aside0.mk (And.intro hC hc)
  have H3 : Aside0 (Sep w (fun _ => False) [fB Bf v1 (.slice A1 l1.length c1)] W2) := ⟨H1.out.keep hb⟩
  clear H1
  clear hC hc hb HV0 HBB
  go_wp2_with (go_at_call 53; refine HoldU.out ?_)
  refine ⟨?_⟩
  have hlit := lit1_C W2 2
  have H5 : Aside0 (Sep w (fun _ => False) [fB Bf v1 (.slice A1 l1.length c1)] (W2.alloc (.cells #[.int .i64 2] 3 (0, 0)))) := ⟨H3.out.keep (below_alloc (Below.refl _ _) (.cells #[.int .i64 2] 3 (0, 0)))⟩
  clear H3
  refine (under_n (v := 2) (l := [[1, 2], [-1]]) (part := [2]) HSU.out rfl rfl As (some ⟨W2.heap.size, 0, none⟩) cs 1 _ (Kd.C_below HS1.out.1 (below_alloc (Below.refl _ _) (.cells #[.int .i64 2] 3 (0, 0)))) HS1.out.2 hlit (Nat.le_refl _) ⟨by decide, by decide⟩ (by decide)).mono ?_
  rintro e W4 ⟨Au, cu, rfl, _, hb⟩
  have H6 : Aside0 (Sep w (fun _ => False) [fB Bf v1 (.slice A1 l1.length c1)] W4) := ⟨H5.out.keep hb⟩
  clear H5
  clear hb HS1 hlit
  go_upto_region 4 with fail
  have hp := H6.out.new (HX.out _) (.cells #[.int .i64 sv, .slice Au sl.length cu] 24 (0, 0))
  generalize W4.alloc (.cells #[.int .i64 sv, .slice Au sl.length cu] 24) = W7 at hp ⊢
  generalize W4.heap.size = B5 at hp ⊢
  have H8 : Aside0 (Sep w (fun _ => False) [fB Bf v1 (.slice A1 l1.length c1), fB B5 sv (.slice Au sl.length cu)] W7) := ⟨hp⟩
  clear H6
  clear hp
  have q0 : W7.cell? ⟨Bf, 1, none⟩ = some (.slice A1 l1.length c1) := H8.out.cell 0 1 rfl
  go_wp2_with (go_at_call 24; refine HoldU.out ?_)
  refine ⟨?_⟩
  clear q0
  refine (lent_n A1 c1 l1 _ (Kd.C_below HR1.out H8.out.hB) HC.out.1 HB1.out).mono ?_
  rintro e W9 ⟨Awx, Arx, cwx, crx, nwx, nrx, Tx, Mx, rfl, hF, hs⟩
  have HFx := Aside0.mk hF
  have H10 : Aside0 (Sep w (fun _ => False) [fB Bf v1 (.slice A1 l1.length c1), fB B5 sv (.slice Au sl.length cu), headA (.slice Awx nwx cwx) ((Tx ++ Mx).map LRow.shown), headA (.slice Arx nrx crx) (Tx.map LRow.all), dataA (Tx ++ Mx)] W9) := ⟨H8.out.append hs (HX.out _)⟩
  clear H8
  clear hF hs
  go_wp2_with (go_at_call 46; refine HoldU.out ?_)
  refine ⟨?_⟩
  refine (lent1_n A2 c2 part _ (Kd.C_below HR2.out H10.out.hB) HC.out.2 HB2.out).mono ?_
  rintro e W11 ⟨Ap, np, cp, rfl, hlp, hR, hb⟩
  have H12 : Aside0 (Sep w (fun _ => False) [fB Bf v1 (.slice A1 l1.length c1), fB B5 sv (.slice Au sl.length cu), headA (.slice Awx nwx cwx) ((Tx ++ Mx).map LRow.shown), headA (.slice Arx nrx crx) (Tx.map LRow.all), dataA (Tx ++ Mx), (Asr.row (Kd.int .i64) 3 (.slice Ap np cp) (lentOf part))] W11) := ⟨H10.out.push hb (HX.out _) hR⟩
  clear H10
  clear hR hb
  go_upto_region 5 with fail
  have hp := H12.out.new (HX.out _) (.cells #[.slice Awx l1.length cwx, .slice Awx nwx cwx, .slice Arx nrx crx] 33 (0, 0))
  generalize W11.alloc (.cells #[.slice Awx l1.length cwx, .slice Awx nwx cwx, .slice Arx nrx crx] 33) = W13 at hp ⊢
  generalize W11.heap.size = Bx at hp ⊢
  have H14 : Aside0 (Sep w (fun _ => False) [fB Bf v1 (.slice A1 l1.length c1), fB B5 sv (.slice Au sl.length cu), headA (.slice Awx nwx cwx) ((Tx ++ Mx).map LRow.shown), headA (.slice Arx nrx crx) (Tx.map LRow.all), dataA (Tx ++ Mx), (Asr.row (Kd.int .i64) 3 (.slice Ap np cp) (lentOf part)), xB Bx (.slice Awx l1.length cwx) (.slice Awx nwx cwx) (.slice Arx nrx crx)] W13) := ⟨hp⟩
  clear H12
  clear hp
  have q1 : W13.cell? ⟨Bf, 0, none⟩ = some (.int .i64 v1) := H14.out.cell 0 0 rfl
  have q2 : W13.cell? ⟨Bx, 0, none⟩ = some (.slice Awx l1.length cwx) := H14.out.cell 6 0 rfl
  go_upto_region 6 with fail
  clear q1 q2
  have hp := H14.out.new (HX.out _) (.cells #[.int .i64 v1, .slice Awx l1.length cwx] 24 (0, 0))
  generalize W13.alloc (.cells #[.int .i64 v1, .slice Awx l1.length cwx] 24) = W15 at hp ⊢
  generalize W13.heap.size = Bi at hp ⊢
  have H16 : Aside0 (Sep w (fun _ => False) [fB Bf v1 (.slice A1 l1.length c1), fB B5 sv (.slice Au sl.length cu), headA (.slice Awx nwx cwx) ((Tx ++ Mx).map LRow.shown), headA (.slice Arx nrx crx) (Tx.map LRow.all), dataA (Tx ++ Mx), (Asr.row (Kd.int .i64) 3 (.slice Ap np cp) (lentOf part)), xB Bx (.slice Awx l1.length cwx) (.slice Awx nwx cwx) (.slice Arx nrx crx), fB Bi v1 (.slice Awx l1.length cwx)] W15) := ⟨hp⟩
  clear H14
  clear hp
  have q3 : W15.cell? ⟨Bf, 0, none⟩ = some (.int .i64 v1) := H16.out.cell 0 0 rfl
  have q4 : W15.cell? ⟨Bf, 1, none⟩ = some (.slice A1 l1.length c1) := H16.out.cell 0 1 rfl
  go_wp2_with (go_at_call 54; refine HoldU.out ?_)
  refine ⟨?_⟩
  clear q3 q4
  refine (refUnder_n HU1.out rfl rfl A1 A2 c1 c2 _ (Kd.C_below HR1.out H16.out.hB) HC.out.1 (Kd.C_below HR2.out H16.out.hB) HC.out.2 HB1.out HB2.out).mono ?_
  rintro e W17 ⟨Aw, cw, rfl, hS, hb⟩
  have H18 : Aside0 (Sep w (fun _ => False) [fB Bf v1 (.slice A1 l1.length c1), fB B5 sv (.slice Au sl.length cu), headA (.slice Awx nwx cwx) ((Tx ++ Mx).map LRow.shown), headA (.slice Arx nrx crx) (Tx.map LRow.all), dataA (Tx ++ Mx), (Asr.row (Kd.int .i64) 3 (.slice Ap np cp) (lentOf part)), xB Bx (.slice Awx l1.length cwx) (.slice Awx nwx cwx) (.slice Arx nrx crx), fB Bi v1 (.slice Awx l1.length cwx), sC (.slice Aw u1l.length cw) u1l] W17) := ⟨H16.out.push hb (HX.out _) hS⟩
  clear H16
  clear hS hb
  go_upto_region 7 with fail
  have hp := H18.out.new (HX.out _) (.cells #[.int .i64 u1v, .slice Aw u1l.length cw] 24 (0, 0))
  generalize W17.alloc (.cells #[.int .i64 u1v, .slice Aw u1l.length cw] 24) = W19 at hp ⊢
  generalize W17.heap.size = Bw at hp ⊢
  have H20 : Aside0 (Sep w (fun _ => False) [fB Bf v1 (.slice A1 l1.length c1), fB B5 sv (.slice Au sl.length cu), headA (.slice Awx nwx cwx) ((Tx ++ Mx).map LRow.shown), headA (.slice Arx nrx crx) (Tx.map LRow.all), dataA (Tx ++ Mx), (Asr.row (Kd.int .i64) 3 (.slice Ap np cp) (lentOf part)), xB Bx (.slice Awx l1.length cwx) (.slice Awx nwx cwx) (.slice Arx nrx crx), fB Bi v1 (.slice Awx l1.length cwx), sC (.slice Aw u1l.length cw) u1l, fB Bw u1v (.slice Aw u1l.length cw)] W19) := ⟨hp⟩
  clear H18
  clear hp
  have q5 : W19.cell? ⟨Bf, 0, none⟩ = some (.int .i64 v1) := H20.out.cell 0 0 rfl
  have q6 : W19.cell? ⟨Bf, 1, none⟩ = some (.slice A1 l1.length c1) := H20.out.cell 0 1 rfl
  go_wp2_with (go_at_call 25; refine HoldU.out ?_)
  refine ⟨?_⟩
  clear q5 q6
  refine (turned_calls v1 A1 c1 l1 _ (Kd.C_below HR1.out H20.out.hB) HC.out.1 (Nat.le_trans HB1.out.1 (by decide)) HB1.out.2).mono ?_
  rintro e W21 ⟨Atf, ctf, rfl, hC, hc, hb⟩
  have HCT := Aside0.mk hc
  have H22 : Aside0 (Sep w (fun _ => False) [fB Bf v1 (.slice A1 l1.length c1), fB B5 sv (.slice Au sl.length cu), headA (.slice Awx nwx cwx) ((Tx ++ Mx).map LRow.shown), headA (.slice Arx nrx crx) (Tx.map LRow.all), dataA (Tx ++ Mx), (Asr.row (Kd.int .i64) 3 (.slice Ap np cp) (lentOf part)), xB Bx (.slice Awx l1.length cwx) (.slice Awx nwx cwx) (.slice Arx nrx crx), fB Bi v1 (.slice Awx l1.length cwx), sC (.slice Aw u1l.length cw) u1l, fB Bw u1v (.slice Aw u1l.length cw), (Asr.foot fun W => Kd.C (Kd.slice 3 (Kd.int .i64)) W Atf l1.length (l1.map (List.map negw)))] W21) := ⟨H20.out.push hb (HX.out _) hC⟩
  clear H20
  clear hC hc hb
  go_wp2_with (go_at_call 54; refine HoldU.out ?_)
  refine ⟨?_⟩
  refine (refUnder_n HU2.out (List.length_map _).symm rfl Atf A2 ctf c2 _ (foot_now (H22.out.get 10 rfl)) HCT.out (Kd.C_below HR2.out H22.out.hB) HC.out.2 (neg_sm HB1.out) HB2.out).mono ?_
  rintro e W23 ⟨Ao, co, rfl, hS, hb⟩
  have H24 : Aside0 (Sep w (fun _ => False) [fB Bf v1 (.slice A1 l1.length c1), fB B5 sv (.slice Au sl.length cu), headA (.slice Awx nwx cwx) ((Tx ++ Mx).map LRow.shown), headA (.slice Arx nrx crx) (Tx.map LRow.all), dataA (Tx ++ Mx), (Asr.row (Kd.int .i64) 3 (.slice Ap np cp) (lentOf part)), xB Bx (.slice Awx l1.length cwx) (.slice Awx nwx cwx) (.slice Arx nrx crx), fB Bi v1 (.slice Awx l1.length cwx), sC (.slice Aw u1l.length cw) u1l, fB Bw u1v (.slice Aw u1l.length cw), (Asr.foot fun W => Kd.C (Kd.slice 3 (Kd.int .i64)) W Atf l1.length (l1.map (List.map negw))), sC (.slice Ao u2l.length co) u2l] W23) := ⟨H22.out.push hb (HX.out _) hS⟩
  clear H22
  clear hS hb
  go_upto_region 8 with fail
  have hp := H24.out.new (HX.out _) (.cells #[.int .i64 u2v, .slice Ao u2l.length co] 24 (0, 0))
  generalize W23.alloc (.cells #[.int .i64 u2v, .slice Ao u2l.length co] 24) = W25 at hp ⊢
  generalize W23.heap.size = Bo at hp ⊢
  have H26 : Aside0 (Sep w (fun _ => False) [fB Bf v1 (.slice A1 l1.length c1), fB B5 sv (.slice Au sl.length cu), headA (.slice Awx nwx cwx) ((Tx ++ Mx).map LRow.shown), headA (.slice Arx nrx crx) (Tx.map LRow.all), dataA (Tx ++ Mx), (Asr.row (Kd.int .i64) 3 (.slice Ap np cp) (lentOf part)), xB Bx (.slice Awx l1.length cwx) (.slice Awx nwx cwx) (.slice Arx nrx crx), fB Bi v1 (.slice Awx l1.length cwx), sC (.slice Aw u1l.length cw) u1l, fB Bw u1v (.slice Aw u1l.length cw), (Asr.foot fun W => Kd.C (Kd.slice 3 (Kd.int .i64)) W Atf l1.length (l1.map (List.map negw))), sC (.slice Ao u2l.length co) u2l, fB Bo u2v (.slice Ao u2l.length co)] W25) := ⟨hp⟩
  clear H24
  clear hp
  have H27 : Aside0 (Sep w (fun _ => False) [fB Bf v1 (.slice A1 l1.length c1), fB B5 sv (.slice Au sl.length cu), headA (.slice Awx nwx cwx) ((Tx ++ Mx).map LRow.shown), headA (.slice Arx nrx crx) (Tx.map LRow.all), dataA (Tx ++ Mx), (Asr.row (Kd.int .i64) 3 (.slice Ap np cp) (lentOf part)), xB Bx (.slice Awx l1.length cwx) (.slice Awx nwx cwx) (.slice Arx nrx crx), fB Bi v1 (.slice Awx l1.length cwx), sC (.slice Aw u1l.length cw) u1l, fB Bw u1v (.slice Aw u1l.length cw), (Asr.foot fun W => Kd.C (Kd.slice 3 (Kd.int .i64)) W Atf l1.length (l1.map (List.map negw))), sC (.slice Ao u2l.length co) u2l, fB Bo u2v (.slice Ao u2l.length co), .emp, .emp] W25) := ⟨H26.out.pad 2⟩
  clear H26
  go_cut [14] from 22 (fun s15 wx => ∃ (Ba : Nat) (Aa : Option Addr) (ca : Nat), s15 = .pointer (some ⟨Ba, 0, none⟩) ∧ Aside0 (Sep w (fun _ => False) [fB Bf v1 (.slice A1 l1.length c1), fB B5 sv (.slice Au sl.length cu), headA (.slice Awx nwx cwx) ((Tx ++ Mx).map LRow.shown), headA (.slice Arx nrx crx) (Tx.map LRow.all), dataA (Tx ++ Mx), (Asr.row (Kd.int .i64) 3 (.slice Ap np cp) (lentOf part)), xB Bx (.slice Awx l1.length cwx) (.slice Awx nwx cwx) (.slice Arx nrx crx), fB Bi v1 (.slice Awx l1.length cwx), sC (.slice Aw u1l.length cw) u1l, fB Bw u1v (.slice Aw u1l.length cw), (Asr.foot fun W => Kd.C (Kd.slice 3 (Kd.int .i64)) W Atf l1.length (l1.map (List.map negw))), sC (.slice Ao u2l.length co) u2l, fB Bo u2v (.slice Ao u2l.length co), sC (.slice Aa u1l.length ca) u1l, fB Ba u1v (.slice Aa u1l.length ca)] wx))
  case first =>
    as_aux_lemma =>
    have hmx : Try.prog.follows .mixedOrders = true := by kernel_rfl
    have K0 : Aside0 (Sep w (fun _ => False) [fB Bf v1 (.slice A1 l1.length c1), fB B5 sv (.slice Au sl.length cu), headA (.slice Awx nwx cwx) ((Tx ++ Mx).map LRow.shown), headA (.slice Arx nrx crx) (Tx.map LRow.all), dataA (Tx ++ Mx), (Asr.row (Kd.int .i64) 3 (.slice Ap np cp) (lentOf part)), xB Bx (.slice Awx l1.length cwx) (.slice Awx nwx cwx) (.slice Arx nrx crx), fB Bi v1 (.slice Awx l1.length cwx), sC (.slice Aw u1l.length cw) u1l, fB Bw u1v (.slice Aw u1l.length cw), (Asr.foot fun W => Kd.C (Kd.slice 3 (Kd.int .i64)) W Atf l1.length (l1.map (List.map negw))), sC (.slice Ao u2l.length co) u2l, fB Bo u2v (.slice Ao u2l.length co), .emp, .emp] W25.drew) := ⟨H27.out.keep (below_drew (Below.refl _ _))⟩
    clear H27
    refine wp_region_H (S := fun W' => W'.cell? ⟨Bi, 0, none⟩ = some (.int .i64 v1) ∧ W'.cell? ⟨Bi, 1, none⟩ = some (.slice Awx l1.length cwx)) hmx ?_
    generalize W25.drew = X0 at K0 ⊢
    have hS0 : X0.cell? ⟨Bi, 0, none⟩ = some (.int .i64 v1) ∧ X0.cell? ⟨Bi, 1, none⟩ = some (.slice Awx l1.length cwx) := ⟨K0.out.cell 7 0 rfl, K0.out.cell 7 1 rfl⟩
    refine wpAnyH_takeA (i := 0) (v := .agg #[.int .i64 v1, .slice Awx l1.length cwx]) 54 rfl rfl (by kernel_rfl) (by kernel_rfl) (by kernel_rfl) (fun _ _ _ h => h) (.inl ⟨by rfl, fun W' hS => by obtain ⟨s0, s1⟩ := hS; go_simp⟩) hS0 ?_
    intro A' hA; simp at hA; subst hA
    refine wpAnyH_takeA (i := 1) (v := .slice Ap np cp) 55 rfl rfl (by kernel_rfl) (by kernel_rfl) (by kernel_rfl) (fun _ _ _ h => h) (.inl ⟨by rfl, fun W' hS => by obtain ⟨s0, s1⟩ := hS; go_simp⟩) hS0 ?_
    intro A' hA; simp at hA; subst hA
    refine wpAnyH_takeA (i := 2) (v := .slice A2 part.length c2) 56 rfl rfl (by kernel_rfl) (by kernel_rfl) (by kernel_rfl) (fun _ _ _ h => h) (.inl ⟨by rfl, fun W' hS => by obtain ⟨s0, s1⟩ := hS; go_simp⟩) hS0 ?_
    intro A' hA; simp at hA; subst hA
    refine wpAnyH_takeA (i := 3) (v := .int .i64 part.length) 57 rfl rfl (by kernel_rfl) (by kernel_rfl) (by kernel_rfl) (fun _ _ _ h => h) (.inl ⟨by rfl, fun W' hS => by obtain ⟨s0, s1⟩ := hS; go_simp⟩) hS0 ?_
    intro A' hA; simp at hA; subst hA
    refine wpAnyH_takeA (i := 4) (v := .slice Ap part.length cp) 58 rfl rfl (by kernel_rfl) (by kernel_rfl) (by kernel_rfl) (fun _ _ _ h => h) (.inl ⟨by rfl, fun W' hS => by obtain ⟨s0, s1⟩ := hS; go_simp⟩) hS0 ?_
    intro A' hA; simp at hA; subst hA
    clear hS0
    refine wpAnyH_two (i := 5) (j := 9) (by kernel_rfl) rfl rfl (by rfl) (by rfl) (fun K' hK => ?_) (fun K' hK => ?_)
    · have HK := Aside0.mk hK
      clear hK
      go_simp
      refine (under_n HU1.out rfl rfl Awx Ap cwx cp _ (HFx.out.C K0.out 2 4 rfl rfl).1 (HFx.out.C K0.out 2 4 rfl rfl).2 (part_C K0.out 5 rfl).1 (part_C K0.out 5 rfl).2 HB1.out HB2.out).mono ?_
      rintro e X28 ⟨Aa, ca, rfl, hS, hb⟩
      have hp := K0.out.fill 13 rfl hb (HX.out _) hS
      clear hS hb
      have K28 : Aside0 (Sep w (fun _ => False) [fB Bf v1 (.slice A1 l1.length c1), fB B5 sv (.slice Au sl.length cu), headA (.slice Awx nwx cwx) ((Tx ++ Mx).map LRow.shown), headA (.slice Arx nrx crx) (Tx.map LRow.all), dataA (Tx ++ Mx), (Asr.row (Kd.int .i64) 3 (.slice Ap np cp) (lentOf part)), xB Bx (.slice Awx l1.length cwx) (.slice Awx nwx cwx) (.slice Arx nrx crx), fB Bi v1 (.slice Awx l1.length cwx), sC (.slice Aw u1l.length cw) u1l, fB Bw u1v (.slice Aw u1l.length cw), (Asr.foot fun W => Kd.C (Kd.slice 3 (Kd.int .i64)) W Atf l1.length (l1.map (List.map negw))), sC (.slice Ao u2l.length co) u2l, fB Bo u2v (.slice Ao u2l.length co), sC (.slice Aa u1l.length ca) u1l, .emp] X28) := ⟨hp⟩
      clear K0
      refine HK.out _ _ ⟨K28.out.cell 7 0 rfl, K28.out.cell 7 1 rfl⟩ ?_
      clear HK
      have hS0 : X28.cell? ⟨Bi, 0, none⟩ = some (.int .i64 v1) ∧ X28.cell? ⟨Bi, 1, none⟩ = some (.slice Awx l1.length cwx) := ⟨K28.out.cell 7 0 rfl, K28.out.cell 7 1 rfl⟩
      refine wpAnyH_takeA (i := 6) (v := .tuple #[.agg #[.int .i64 u1v, .slice Aa u1l.length ca], .int .i64 u1e]) 53 rfl rfl (by kernel_rfl) (by kernel_rfl) (by kernel_rfl) (fun _ _ _ h => h) (.inl ⟨by rfl, fun W' hS => by obtain ⟨s0, s1⟩ := hS; go_simp⟩) hS0 ?_
      intro A' hA; simp at hA; subst hA
      refine wpAnyH_takeA (i := 7) (v := .agg #[.int .i64 u1v, .slice Aa u1l.length ca]) 60 rfl rfl (by kernel_rfl) (by kernel_rfl) (by kernel_rfl) (fun _ _ _ h => h) (.inl ⟨by rfl, fun W' hS => by obtain ⟨s0, s1⟩ := hS; go_simp⟩) hS0 ?_
      intro A' hA; simp at hA; subst hA
      refine wpAnyH_takeA (i := 8) (v := .int .i64 u1e) 61 rfl rfl (by kernel_rfl) (by kernel_rfl) (by kernel_rfl) (fun _ _ _ h => h) (.inl ⟨by rfl, fun W' hS => by obtain ⟨s0, s1⟩ := hS; go_simp⟩) hS0 ?_
      intro A' hA; simp at hA; subst hA
      clear hS0
      refine wpAnyH_one (i := 9) (by kernel_rfl) rfl (by rfl) (fun K' hK => ?_)
      have HK := Aside0.mk hK
      clear hK
      go_simp
      have hp := K28.out.fillNew (HX.out _) 14 rfl (.cells #[.int .i64 0, .slice none 0 0] 24 (0, 0))
      generalize X28.alloc (.cells #[.int .i64 0, .slice none 0 0] 24) = X29 at hp ⊢
      generalize X28.heap.size = Ba at hp ⊢
      have K29 : Aside0 (Sep w (fun _ => False) [fB Bf v1 (.slice A1 l1.length c1), fB B5 sv (.slice Au sl.length cu), headA (.slice Awx nwx cwx) ((Tx ++ Mx).map LRow.shown), headA (.slice Arx nrx crx) (Tx.map LRow.all), dataA (Tx ++ Mx), (Asr.row (Kd.int .i64) 3 (.slice Ap np cp) (lentOf part)), xB Bx (.slice Awx l1.length cwx) (.slice Awx nwx cwx) (.slice Arx nrx crx), fB Bi v1 (.slice Awx l1.length cwx), sC (.slice Aw u1l.length cw) u1l, fB Bw u1v (.slice Aw u1l.length cw), (Asr.foot fun W => Kd.C (Kd.slice 3 (Kd.int .i64)) W Atf l1.length (l1.map (List.map negw))), sC (.slice Ao u2l.length co) u2l, fB Bo u2v (.slice Ao u2l.length co), sC (.slice Aa u1l.length ca) u1l, fB Ba 0 (.slice none 0 0)] X29) := ⟨hp⟩
      clear hp K28
      refine HK.out _ _ ⟨K29.out.cell 7 0 rfl, K29.out.cell 7 1 rfl⟩ ?_
      clear HK
      refine wpAnyH_one (i := 10) (by kernel_rfl) rfl (by rfl) (fun K' hK => ?_)
      have HK := Aside0.mk hK
      clear hK
      have k0 : X29.cell? ⟨Ba, 0, none⟩ = some (.int .i64 0) := K29.out.cell 14 0 rfl
      have y0 : X29.frozen? ⟨Ba, 0, none⟩ = false := K29.out.frozen 14 0 rfl
      have k1 : X29.cell? ⟨Ba, 1, none⟩ = some (.slice none 0 0) := K29.out.cell 14 1 rfl
      have y1 : X29.frozen? ⟨Ba, 1, none⟩ = false := K29.out.frozen 14 1 rfl
      refine wp_store_run (t := 24) (.tmp 14) (.tmp 60) rfl rfl rfl rfl (storeFormula k0 k1 y0 y1) ?_
      clear k0 k1 y0 y1
      have hp := ((K29.out.put (HX.out _) 14 0 rfl (.int .i64 u1v) rfl).put (HX.out _) 14 1 rfl (.slice Aa u1l.length ca) rfl)
      have K30 : Aside0 (Sep w (fun _ => False) [fB Bf v1 (.slice A1 l1.length c1), fB B5 sv (.slice Au sl.length cu), headA (.slice Awx nwx cwx) ((Tx ++ Mx).map LRow.shown), headA (.slice Arx nrx crx) (Tx.map LRow.all), dataA (Tx ++ Mx), (Asr.row (Kd.int .i64) 3 (.slice Ap np cp) (lentOf part)), xB Bx (.slice Awx l1.length cwx) (.slice Awx nwx cwx) (.slice Arx nrx crx), fB Bi v1 (.slice Awx l1.length cwx), sC (.slice Aw u1l.length cw) u1l, fB Bw u1v (.slice Aw u1l.length cw), (Asr.foot fun W => Kd.C (Kd.slice 3 (Kd.int .i64)) W Atf l1.length (l1.map (List.map negw))), sC (.slice Ao u2l.length co) u2l, fB Bo u2v (.slice Ao u2l.length co), sC (.slice Aa u1l.length ca) u1l, fB Ba u1v (.slice Aa u1l.length ca)] ((X29.setCell ⟨Ba, 0, none⟩ (.int .i64 u1v)).setCell ⟨Ba, 1, none⟩ (.slice Aa u1l.length ca))) := ⟨hp⟩
      clear hp K29
      generalize ((X29.setCell ⟨Ba, 0, none⟩ (.int .i64 u1v)).setCell ⟨Ba, 1, none⟩ (.slice Aa u1l.length ca)) = X30 at K30 ⊢
      refine HK.out _ _ ⟨K30.out.cell 7 0 rfl, K30.out.cell 7 1 rfl⟩ ?_
      clear HK
      have hS0 : X30.cell? ⟨Bi, 0, none⟩ = some (.int .i64 v1) ∧ X30.cell? ⟨Bi, 1, none⟩ = some (.slice Awx l1.length cwx) := ⟨K30.out.cell 7 0 rfl, K30.out.cell 7 1 rfl⟩
      refine wpAnyH_takeA (i := 11) (v := .int .i64 u1e) 15 rfl rfl (by kernel_rfl) (by kernel_rfl) (by kernel_rfl) (fun _ _ _ h => h) (.inl ⟨by rfl, fun W' hS => by obtain ⟨s0, s1⟩ := hS; go_simp⟩) hS0 ?_
      intro A' hA; simp at hA; subst hA
      clear hS0
      refine wpAnyH_done (by kernel_rfl) ?_ _
      go_wp2_with fail
      go_meet
      case rel => exact ⟨Ba, Aa, ca, rfl, K30⟩
    · have HK := Aside0.mk hK
      clear hK
      go_simp
      have hp := K0.out.fillNew (HX.out _) 14 rfl (.cells #[.int .i64 0, .slice none 0 0] 24 (0, 0))
      generalize X0.alloc (.cells #[.int .i64 0, .slice none 0 0] 24) = X31 at hp ⊢
      generalize X0.heap.size = Ba at hp ⊢
      have K31 : Aside0 (Sep w (fun _ => False) [fB Bf v1 (.slice A1 l1.length c1), fB B5 sv (.slice Au sl.length cu), headA (.slice Awx nwx cwx) ((Tx ++ Mx).map LRow.shown), headA (.slice Arx nrx crx) (Tx.map LRow.all), dataA (Tx ++ Mx), (Asr.row (Kd.int .i64) 3 (.slice Ap np cp) (lentOf part)), xB Bx (.slice Awx l1.length cwx) (.slice Awx nwx cwx) (.slice Arx nrx crx), fB Bi v1 (.slice Awx l1.length cwx), sC (.slice Aw u1l.length cw) u1l, fB Bw u1v (.slice Aw u1l.length cw), (Asr.foot fun W => Kd.C (Kd.slice 3 (Kd.int .i64)) W Atf l1.length (l1.map (List.map negw))), sC (.slice Ao u2l.length co) u2l, fB Bo u2v (.slice Ao u2l.length co), .emp, fB Ba 0 (.slice none 0 0)] X31) := ⟨hp⟩
      clear hp K0
      refine HK.out _ _ ⟨K31.out.cell 7 0 rfl, K31.out.cell 7 1 rfl⟩ ?_
      clear HK
      refine wpAnyH_one (i := 5) (by kernel_rfl) rfl (by rfl) (fun K' hK => ?_)
      have HK := Aside0.mk hK
      clear hK
      go_simp
      refine (under_n HU1.out rfl rfl Awx Ap cwx cp _ (HFx.out.C K31.out 2 4 rfl rfl).1 (HFx.out.C K31.out 2 4 rfl rfl).2 (part_C K31.out 5 rfl).1 (part_C K31.out 5 rfl).2 HB1.out HB2.out).mono ?_
      rintro e X32 ⟨Aa, ca, rfl, hS, hb⟩
      have hp := K31.out.fill 13 rfl hb (HX.out _) hS
      clear hS hb
      have K32 : Aside0 (Sep w (fun _ => False) [fB Bf v1 (.slice A1 l1.length c1), fB B5 sv (.slice Au sl.length cu), headA (.slice Awx nwx cwx) ((Tx ++ Mx).map LRow.shown), headA (.slice Arx nrx crx) (Tx.map LRow.all), dataA (Tx ++ Mx), (Asr.row (Kd.int .i64) 3 (.slice Ap np cp) (lentOf part)), xB Bx (.slice Awx l1.length cwx) (.slice Awx nwx cwx) (.slice Arx nrx crx), fB Bi v1 (.slice Awx l1.length cwx), sC (.slice Aw u1l.length cw) u1l, fB Bw u1v (.slice Aw u1l.length cw), (Asr.foot fun W => Kd.C (Kd.slice 3 (Kd.int .i64)) W Atf l1.length (l1.map (List.map negw))), sC (.slice Ao u2l.length co) u2l, fB Bo u2v (.slice Ao u2l.length co), sC (.slice Aa u1l.length ca) u1l, fB Ba 0 (.slice none 0 0)] X32) := ⟨hp⟩
      clear K31
      refine HK.out _ _ ⟨K32.out.cell 7 0 rfl, K32.out.cell 7 1 rfl⟩ ?_
      clear HK
      have hS0 : X32.cell? ⟨Bi, 0, none⟩ = some (.int .i64 v1) ∧ X32.cell? ⟨Bi, 1, none⟩ = some (.slice Awx l1.length cwx) := ⟨K32.out.cell 7 0 rfl, K32.out.cell 7 1 rfl⟩
      refine wpAnyH_takeA (i := 6) (v := .tuple #[.agg #[.int .i64 u1v, .slice Aa u1l.length ca], .int .i64 u1e]) 53 rfl rfl (by kernel_rfl) (by kernel_rfl) (by kernel_rfl) (fun _ _ _ h => h) (.inl ⟨by rfl, fun W' hS => by obtain ⟨s0, s1⟩ := hS; go_simp⟩) hS0 ?_
      intro A' hA; simp at hA; subst hA
      refine wpAnyH_takeA (i := 7) (v := .agg #[.int .i64 u1v, .slice Aa u1l.length ca]) 60 rfl rfl (by kernel_rfl) (by kernel_rfl) (by kernel_rfl) (fun _ _ _ h => h) (.inl ⟨by rfl, fun W' hS => by obtain ⟨s0, s1⟩ := hS; go_simp⟩) hS0 ?_
      intro A' hA; simp at hA; subst hA
      refine wpAnyH_takeA (i := 8) (v := .int .i64 u1e) 61 rfl rfl (by kernel_rfl) (by kernel_rfl) (by kernel_rfl) (fun _ _ _ h => h) (.inl ⟨by rfl, fun W' hS => by obtain ⟨s0, s1⟩ := hS; go_simp⟩) hS0 ?_
      intro A' hA; simp at hA; subst hA
      clear hS0
      refine wpAnyH_one (i := 10) (by kernel_rfl) rfl (by rfl) (fun K' hK => ?_)
      have HK := Aside0.mk hK
      clear hK
      have k0 : X32.cell? ⟨Ba, 0, none⟩ = some (.int .i64 0) := K32.out.cell 14 0 rfl
      have y0 : X32.frozen? ⟨Ba, 0, none⟩ = false := K32.out.frozen 14 0 rfl
      have k1 : X32.cell? ⟨Ba, 1, none⟩ = some (.slice none 0 0) := K32.out.cell 14 1 rfl
      have y1 : X32.frozen? ⟨Ba, 1, none⟩ = false := K32.out.frozen 14 1 rfl
      refine wp_store_run (t := 24) (.tmp 14) (.tmp 60) rfl rfl rfl rfl (storeFormula k0 k1 y0 y1) ?_
      clear k0 k1 y0 y1
      have hp := ((K32.out.put (HX.out _) 14 0 rfl (.int .i64 u1v) rfl).put (HX.out _) 14 1 rfl (.slice Aa u1l.length ca) rfl)
      have K33 : Aside0 (Sep w (fun _ => False) [fB Bf v1 (.slice A1 l1.length c1), fB B5 sv (.slice Au sl.length cu), headA (.slice Awx nwx cwx) ((Tx ++ Mx).map LRow.shown), headA (.slice Arx nrx crx) (Tx.map LRow.all), dataA (Tx ++ Mx), (Asr.row (Kd.int .i64) 3 (.slice Ap np cp) (lentOf part)), xB Bx (.slice Awx l1.length cwx) (.slice Awx nwx cwx) (.slice Arx nrx crx), fB Bi v1 (.slice Awx l1.length cwx), sC (.slice Aw u1l.length cw) u1l, fB Bw u1v (.slice Aw u1l.length cw), (Asr.foot fun W => Kd.C (Kd.slice 3 (Kd.int .i64)) W Atf l1.length (l1.map (List.map negw))), sC (.slice Ao u2l.length co) u2l, fB Bo u2v (.slice Ao u2l.length co), sC (.slice Aa u1l.length ca) u1l, fB Ba u1v (.slice Aa u1l.length ca)] ((X32.setCell ⟨Ba, 0, none⟩ (.int .i64 u1v)).setCell ⟨Ba, 1, none⟩ (.slice Aa u1l.length ca))) := ⟨hp⟩
      clear hp K32
      generalize ((X32.setCell ⟨Ba, 0, none⟩ (.int .i64 u1v)).setCell ⟨Ba, 1, none⟩ (.slice Aa u1l.length ca)) = X33 at K33 ⊢
      refine HK.out _ _ ⟨K33.out.cell 7 0 rfl, K33.out.cell 7 1 rfl⟩ ?_
      clear HK
      have hS0 : X33.cell? ⟨Bi, 0, none⟩ = some (.int .i64 v1) ∧ X33.cell? ⟨Bi, 1, none⟩ = some (.slice Awx l1.length cwx) := ⟨K33.out.cell 7 0 rfl, K33.out.cell 7 1 rfl⟩
      refine wpAnyH_takeA (i := 11) (v := .int .i64 u1e) 15 rfl rfl (by kernel_rfl) (by kernel_rfl) (by kernel_rfl) (fun _ _ _ h => h) (.inl ⟨by rfl, fun W' hS => by obtain ⟨s0, s1⟩ := hS; go_simp⟩) hS0 ?_
      intro A' hA; simp at hA; subst hA
      clear hS0
      refine wpAnyH_done (by kernel_rfl) ?_ _
      go_wp2_with fail
      go_meet
      case rel => exact ⟨Ba, Aa, ca, rfl, K33⟩
  case rest =>
    clear H27
    obtain ⟨Ba, Aa, ca, rfl, Hra⟩ := hcut
    generalize wc = Wra at Hra ⊢
    go_upto_region 9 with fail
    have H34 : Aside0 (Sep w (fun _ => False) [fB Bf v1 (.slice A1 l1.length c1), fB B5 sv (.slice Au sl.length cu), headA (.slice Awx nwx cwx) ((Tx ++ Mx).map LRow.shown), headA (.slice Arx nrx crx) (Tx.map LRow.all), dataA (Tx ++ Mx), (Asr.row (Kd.int .i64) 3 (.slice Ap np cp) (lentOf part)), xB Bx (.slice Awx l1.length cwx) (.slice Awx nwx cwx) (.slice Arx nrx crx), fB Bi v1 (.slice Awx l1.length cwx), sC (.slice Aw u1l.length cw) u1l, fB Bw u1v (.slice Aw u1l.length cw), (Asr.foot fun W => Kd.C (Kd.slice 3 (Kd.int .i64)) W Atf l1.length (l1.map (List.map negw))), sC (.slice Ao u2l.length co) u2l, fB Bo u2v (.slice Ao u2l.length co), sC (.slice Aa u1l.length ca) u1l, fB Ba u1v (.slice Aa u1l.length ca), .emp, .emp] Wra) := ⟨Hra.out.pad 2⟩
    clear Hra
    go_cut [16] from 22 (fun s15 wx => ∃ (Bb : Nat) (Ab : Option Addr) (cb : Nat), s15 = .pointer (some ⟨Bb, 0, none⟩) ∧ Aside0 (Sep w (fun _ => False) [fB Bf v1 (.slice A1 l1.length c1), fB B5 sv (.slice Au sl.length cu), headA (.slice Awx nwx cwx) ((Tx ++ Mx).map LRow.shown), headA (.slice Arx nrx crx) (Tx.map LRow.all), dataA (Tx ++ Mx), (Asr.row (Kd.int .i64) 3 (.slice Ap np cp) (lentOf part)), xB Bx (.slice Awx l1.length cwx) (.slice Awx nwx cwx) (.slice Arx nrx crx), fB Bi v1 (.slice Awx l1.length cwx), sC (.slice Aw u1l.length cw) u1l, fB Bw u1v (.slice Aw u1l.length cw), (Asr.foot fun W => Kd.C (Kd.slice 3 (Kd.int .i64)) W Atf l1.length (l1.map (List.map negw))), sC (.slice Ao u2l.length co) u2l, fB Bo u2v (.slice Ao u2l.length co), sC (.slice Aa u1l.length ca) u1l, fB Ba u1v (.slice Aa u1l.length ca), sC (.slice Ab u1l.length cb) u1l, fB Bb u1v (.slice Ab u1l.length cb)] wx))
    case first =>
      as_aux_lemma =>
      have hmx : Try.prog.follows .mixedOrders = true := by kernel_rfl
      have K0 : Aside0 (Sep w (fun _ => False) [fB Bf v1 (.slice A1 l1.length c1), fB B5 sv (.slice Au sl.length cu), headA (.slice Awx nwx cwx) ((Tx ++ Mx).map LRow.shown), headA (.slice Arx nrx crx) (Tx.map LRow.all), dataA (Tx ++ Mx), (Asr.row (Kd.int .i64) 3 (.slice Ap np cp) (lentOf part)), xB Bx (.slice Awx l1.length cwx) (.slice Awx nwx cwx) (.slice Arx nrx crx), fB Bi v1 (.slice Awx l1.length cwx), sC (.slice Aw u1l.length cw) u1l, fB Bw u1v (.slice Aw u1l.length cw), (Asr.foot fun W => Kd.C (Kd.slice 3 (Kd.int .i64)) W Atf l1.length (l1.map (List.map negw))), sC (.slice Ao u2l.length co) u2l, fB Bo u2v (.slice Ao u2l.length co), sC (.slice Aa u1l.length ca) u1l, fB Ba u1v (.slice Aa u1l.length ca), .emp, .emp] Wra.drew) := ⟨H34.out.keep (below_drew (Below.refl _ _))⟩
      clear H34
      refine wp_region_H (S := fun W' => W'.cell? ⟨Bi, 0, none⟩ = some (.int .i64 v1) ∧ W'.cell? ⟨Bi, 1, none⟩ = some (.slice Awx l1.length cwx)) hmx ?_
      generalize Wra.drew = X0 at K0 ⊢
      have hS0 : X0.cell? ⟨Bi, 0, none⟩ = some (.int .i64 v1) ∧ X0.cell? ⟨Bi, 1, none⟩ = some (.slice Awx l1.length cwx) := ⟨K0.out.cell 7 0 rfl, K0.out.cell 7 1 rfl⟩
      refine wpAnyH_takeA (i := 0) (v := .agg #[.int .i64 v1, .slice Awx l1.length cwx]) 63 rfl rfl (by kernel_rfl) (by kernel_rfl) (by kernel_rfl) (fun _ _ _ h => h) (.inl ⟨by rfl, fun W' hS => by obtain ⟨s0, s1⟩ := hS; go_simp⟩) hS0 ?_
      intro A' hA; simp at hA; subst hA
      refine wpAnyH_takeA (i := 1) (v := .slice Ap np cp) 64 rfl rfl (by kernel_rfl) (by kernel_rfl) (by kernel_rfl) (fun _ _ _ h => h) (.inl ⟨by rfl, fun W' hS => by obtain ⟨s0, s1⟩ := hS; go_simp⟩) hS0 ?_
      intro A' hA; simp at hA; subst hA
      refine wpAnyH_takeA (i := 2) (v := .slice A2 part.length c2) 65 rfl rfl (by kernel_rfl) (by kernel_rfl) (by kernel_rfl) (fun _ _ _ h => h) (.inl ⟨by rfl, fun W' hS => by obtain ⟨s0, s1⟩ := hS; go_simp⟩) hS0 ?_
      intro A' hA; simp at hA; subst hA
      refine wpAnyH_takeA (i := 3) (v := .int .i64 part.length) 66 rfl rfl (by kernel_rfl) (by kernel_rfl) (by kernel_rfl) (fun _ _ _ h => h) (.inl ⟨by rfl, fun W' hS => by obtain ⟨s0, s1⟩ := hS; go_simp⟩) hS0 ?_
      intro A' hA; simp at hA; subst hA
      refine wpAnyH_takeA (i := 4) (v := .slice Ap part.length cp) 67 rfl rfl (by kernel_rfl) (by kernel_rfl) (by kernel_rfl) (fun _ _ _ h => h) (.inl ⟨by rfl, fun W' hS => by obtain ⟨s0, s1⟩ := hS; go_simp⟩) hS0 ?_
      intro A' hA; simp at hA; subst hA
      clear hS0
      refine wpAnyH_two (i := 5) (j := 9) (by kernel_rfl) rfl rfl (by rfl) (by rfl) (fun K' hK => ?_) (fun K' hK => ?_)
      · have HK := Aside0.mk hK
        clear hK
        go_simp
        refine (under_n HU1.out rfl rfl Awx Ap cwx cp _ (HFx.out.C K0.out 2 4 rfl rfl).1 (HFx.out.C K0.out 2 4 rfl rfl).2 (part_C K0.out 5 rfl).1 (part_C K0.out 5 rfl).2 HB1.out HB2.out).mono ?_
        rintro e X35 ⟨Ab, cb, rfl, hS, hb⟩
        have hp := K0.out.fill 15 rfl hb (HX.out _) hS
        clear hS hb
        have K35 : Aside0 (Sep w (fun _ => False) [fB Bf v1 (.slice A1 l1.length c1), fB B5 sv (.slice Au sl.length cu), headA (.slice Awx nwx cwx) ((Tx ++ Mx).map LRow.shown), headA (.slice Arx nrx crx) (Tx.map LRow.all), dataA (Tx ++ Mx), (Asr.row (Kd.int .i64) 3 (.slice Ap np cp) (lentOf part)), xB Bx (.slice Awx l1.length cwx) (.slice Awx nwx cwx) (.slice Arx nrx crx), fB Bi v1 (.slice Awx l1.length cwx), sC (.slice Aw u1l.length cw) u1l, fB Bw u1v (.slice Aw u1l.length cw), (Asr.foot fun W => Kd.C (Kd.slice 3 (Kd.int .i64)) W Atf l1.length (l1.map (List.map negw))), sC (.slice Ao u2l.length co) u2l, fB Bo u2v (.slice Ao u2l.length co), sC (.slice Aa u1l.length ca) u1l, fB Ba u1v (.slice Aa u1l.length ca), sC (.slice Ab u1l.length cb) u1l, .emp] X35) := ⟨hp⟩
        clear K0
        refine HK.out _ _ ⟨K35.out.cell 7 0 rfl, K35.out.cell 7 1 rfl⟩ ?_
        clear HK
        have hS0 : X35.cell? ⟨Bi, 0, none⟩ = some (.int .i64 v1) ∧ X35.cell? ⟨Bi, 1, none⟩ = some (.slice Awx l1.length cwx) := ⟨K35.out.cell 7 0 rfl, K35.out.cell 7 1 rfl⟩
        refine wpAnyH_takeA (i := 6) (v := .tuple #[.agg #[.int .i64 u1v, .slice Ab u1l.length cb], .int .i64 u1e]) 62 rfl rfl (by kernel_rfl) (by kernel_rfl) (by kernel_rfl) (fun _ _ _ h => h) (.inl ⟨by rfl, fun W' hS => by obtain ⟨s0, s1⟩ := hS; go_simp⟩) hS0 ?_
        intro A' hA; simp at hA; subst hA
        refine wpAnyH_takeA (i := 7) (v := .agg #[.int .i64 u1v, .slice Ab u1l.length cb]) 69 rfl rfl (by kernel_rfl) (by kernel_rfl) (by kernel_rfl) (fun _ _ _ h => h) (.inl ⟨by rfl, fun W' hS => by obtain ⟨s0, s1⟩ := hS; go_simp⟩) hS0 ?_
        intro A' hA; simp at hA; subst hA
        refine wpAnyH_takeA (i := 8) (v := .int .i64 u1e) 70 rfl rfl (by kernel_rfl) (by kernel_rfl) (by kernel_rfl) (fun _ _ _ h => h) (.inl ⟨by rfl, fun W' hS => by obtain ⟨s0, s1⟩ := hS; go_simp⟩) hS0 ?_
        intro A' hA; simp at hA; subst hA
        clear hS0
        refine wpAnyH_one (i := 9) (by kernel_rfl) rfl (by rfl) (fun K' hK => ?_)
        have HK := Aside0.mk hK
        clear hK
        go_simp
        have hp := K35.out.fillNew (HX.out _) 16 rfl (.cells #[.int .i64 0, .slice none 0 0] 24 (0, 0))
        generalize X35.alloc (.cells #[.int .i64 0, .slice none 0 0] 24) = X36 at hp ⊢
        generalize X35.heap.size = Bb at hp ⊢
        have K36 : Aside0 (Sep w (fun _ => False) [fB Bf v1 (.slice A1 l1.length c1), fB B5 sv (.slice Au sl.length cu), headA (.slice Awx nwx cwx) ((Tx ++ Mx).map LRow.shown), headA (.slice Arx nrx crx) (Tx.map LRow.all), dataA (Tx ++ Mx), (Asr.row (Kd.int .i64) 3 (.slice Ap np cp) (lentOf part)), xB Bx (.slice Awx l1.length cwx) (.slice Awx nwx cwx) (.slice Arx nrx crx), fB Bi v1 (.slice Awx l1.length cwx), sC (.slice Aw u1l.length cw) u1l, fB Bw u1v (.slice Aw u1l.length cw), (Asr.foot fun W => Kd.C (Kd.slice 3 (Kd.int .i64)) W Atf l1.length (l1.map (List.map negw))), sC (.slice Ao u2l.length co) u2l, fB Bo u2v (.slice Ao u2l.length co), sC (.slice Aa u1l.length ca) u1l, fB Ba u1v (.slice Aa u1l.length ca), sC (.slice Ab u1l.length cb) u1l, fB Bb 0 (.slice none 0 0)] X36) := ⟨hp⟩
        clear hp K35
        refine HK.out _ _ ⟨K36.out.cell 7 0 rfl, K36.out.cell 7 1 rfl⟩ ?_
        clear HK
        refine wpAnyH_one (i := 10) (by kernel_rfl) rfl (by rfl) (fun K' hK => ?_)
        have HK := Aside0.mk hK
        clear hK
        have k0 : X36.cell? ⟨Bb, 0, none⟩ = some (.int .i64 0) := K36.out.cell 16 0 rfl
        have y0 : X36.frozen? ⟨Bb, 0, none⟩ = false := K36.out.frozen 16 0 rfl
        have k1 : X36.cell? ⟨Bb, 1, none⟩ = some (.slice none 0 0) := K36.out.cell 16 1 rfl
        have y1 : X36.frozen? ⟨Bb, 1, none⟩ = false := K36.out.frozen 16 1 rfl
        refine wp_store_run (t := 24) (.tmp 16) (.tmp 69) rfl rfl rfl rfl (storeFormula k0 k1 y0 y1) ?_
        clear k0 k1 y0 y1
        have hp := ((K36.out.put (HX.out _) 16 0 rfl (.int .i64 u1v) rfl).put (HX.out _) 16 1 rfl (.slice Ab u1l.length cb) rfl)
        have K37 : Aside0 (Sep w (fun _ => False) [fB Bf v1 (.slice A1 l1.length c1), fB B5 sv (.slice Au sl.length cu), headA (.slice Awx nwx cwx) ((Tx ++ Mx).map LRow.shown), headA (.slice Arx nrx crx) (Tx.map LRow.all), dataA (Tx ++ Mx), (Asr.row (Kd.int .i64) 3 (.slice Ap np cp) (lentOf part)), xB Bx (.slice Awx l1.length cwx) (.slice Awx nwx cwx) (.slice Arx nrx crx), fB Bi v1 (.slice Awx l1.length cwx), sC (.slice Aw u1l.length cw) u1l, fB Bw u1v (.slice Aw u1l.length cw), (Asr.foot fun W => Kd.C (Kd.slice 3 (Kd.int .i64)) W Atf l1.length (l1.map (List.map negw))), sC (.slice Ao u2l.length co) u2l, fB Bo u2v (.slice Ao u2l.length co), sC (.slice Aa u1l.length ca) u1l, fB Ba u1v (.slice Aa u1l.length ca), sC (.slice Ab u1l.length cb) u1l, fB Bb u1v (.slice Ab u1l.length cb)] ((X36.setCell ⟨Bb, 0, none⟩ (.int .i64 u1v)).setCell ⟨Bb, 1, none⟩ (.slice Ab u1l.length cb))) := ⟨hp⟩
        clear hp K36
        generalize ((X36.setCell ⟨Bb, 0, none⟩ (.int .i64 u1v)).setCell ⟨Bb, 1, none⟩ (.slice Ab u1l.length cb)) = X37 at K37 ⊢
        refine HK.out _ _ ⟨K37.out.cell 7 0 rfl, K37.out.cell 7 1 rfl⟩ ?_
        clear HK
        have hS0 : X37.cell? ⟨Bi, 0, none⟩ = some (.int .i64 v1) ∧ X37.cell? ⟨Bi, 1, none⟩ = some (.slice Awx l1.length cwx) := ⟨K37.out.cell 7 0 rfl, K37.out.cell 7 1 rfl⟩
        refine wpAnyH_takeA (i := 11) (v := .int .i64 u1e) 17 rfl rfl (by kernel_rfl) (by kernel_rfl) (by kernel_rfl) (fun _ _ _ h => h) (.inl ⟨by rfl, fun W' hS => by obtain ⟨s0, s1⟩ := hS; go_simp⟩) hS0 ?_
        intro A' hA; simp at hA; subst hA
        clear hS0
        refine wpAnyH_done (by kernel_rfl) ?_ _
        go_wp2_with fail
        go_meet
        case rel => exact ⟨Bb, Ab, cb, rfl, K37⟩
      · have HK := Aside0.mk hK
        clear hK
        go_simp
        have hp := K0.out.fillNew (HX.out _) 16 rfl (.cells #[.int .i64 0, .slice none 0 0] 24 (0, 0))
        generalize X0.alloc (.cells #[.int .i64 0, .slice none 0 0] 24) = X38 at hp ⊢
        generalize X0.heap.size = Bb at hp ⊢
        have K38 : Aside0 (Sep w (fun _ => False) [fB Bf v1 (.slice A1 l1.length c1), fB B5 sv (.slice Au sl.length cu), headA (.slice Awx nwx cwx) ((Tx ++ Mx).map LRow.shown), headA (.slice Arx nrx crx) (Tx.map LRow.all), dataA (Tx ++ Mx), (Asr.row (Kd.int .i64) 3 (.slice Ap np cp) (lentOf part)), xB Bx (.slice Awx l1.length cwx) (.slice Awx nwx cwx) (.slice Arx nrx crx), fB Bi v1 (.slice Awx l1.length cwx), sC (.slice Aw u1l.length cw) u1l, fB Bw u1v (.slice Aw u1l.length cw), (Asr.foot fun W => Kd.C (Kd.slice 3 (Kd.int .i64)) W Atf l1.length (l1.map (List.map negw))), sC (.slice Ao u2l.length co) u2l, fB Bo u2v (.slice Ao u2l.length co), sC (.slice Aa u1l.length ca) u1l, fB Ba u1v (.slice Aa u1l.length ca), .emp, fB Bb 0 (.slice none 0 0)] X38) := ⟨hp⟩
        clear hp K0
        refine HK.out _ _ ⟨K38.out.cell 7 0 rfl, K38.out.cell 7 1 rfl⟩ ?_
        clear HK
        refine wpAnyH_one (i := 5) (by kernel_rfl) rfl (by rfl) (fun K' hK => ?_)
        have HK := Aside0.mk hK
        clear hK
        go_simp
        refine (under_n HU1.out rfl rfl Awx Ap cwx cp _ (HFx.out.C K38.out 2 4 rfl rfl).1 (HFx.out.C K38.out 2 4 rfl rfl).2 (part_C K38.out 5 rfl).1 (part_C K38.out 5 rfl).2 HB1.out HB2.out).mono ?_
        rintro e X39 ⟨Ab, cb, rfl, hS, hb⟩
        have hp := K38.out.fill 15 rfl hb (HX.out _) hS
        clear hS hb
        have K39 : Aside0 (Sep w (fun _ => False) [fB Bf v1 (.slice A1 l1.length c1), fB B5 sv (.slice Au sl.length cu), headA (.slice Awx nwx cwx) ((Tx ++ Mx).map LRow.shown), headA (.slice Arx nrx crx) (Tx.map LRow.all), dataA (Tx ++ Mx), (Asr.row (Kd.int .i64) 3 (.slice Ap np cp) (lentOf part)), xB Bx (.slice Awx l1.length cwx) (.slice Awx nwx cwx) (.slice Arx nrx crx), fB Bi v1 (.slice Awx l1.length cwx), sC (.slice Aw u1l.length cw) u1l, fB Bw u1v (.slice Aw u1l.length cw), (Asr.foot fun W => Kd.C (Kd.slice 3 (Kd.int .i64)) W Atf l1.length (l1.map (List.map negw))), sC (.slice Ao u2l.length co) u2l, fB Bo u2v (.slice Ao u2l.length co), sC (.slice Aa u1l.length ca) u1l, fB Ba u1v (.slice Aa u1l.length ca), sC (.slice Ab u1l.length cb) u1l, fB Bb 0 (.slice none 0 0)] X39) := ⟨hp⟩
        clear K38
        refine HK.out _ _ ⟨K39.out.cell 7 0 rfl, K39.out.cell 7 1 rfl⟩ ?_
        clear HK
        have hS0 : X39.cell? ⟨Bi, 0, none⟩ = some (.int .i64 v1) ∧ X39.cell? ⟨Bi, 1, none⟩ = some (.slice Awx l1.length cwx) := ⟨K39.out.cell 7 0 rfl, K39.out.cell 7 1 rfl⟩
        refine wpAnyH_takeA (i := 6) (v := .tuple #[.agg #[.int .i64 u1v, .slice Ab u1l.length cb], .int .i64 u1e]) 62 rfl rfl (by kernel_rfl) (by kernel_rfl) (by kernel_rfl) (fun _ _ _ h => h) (.inl ⟨by rfl, fun W' hS => by obtain ⟨s0, s1⟩ := hS; go_simp⟩) hS0 ?_
        intro A' hA; simp at hA; subst hA
        refine wpAnyH_takeA (i := 7) (v := .agg #[.int .i64 u1v, .slice Ab u1l.length cb]) 69 rfl rfl (by kernel_rfl) (by kernel_rfl) (by kernel_rfl) (fun _ _ _ h => h) (.inl ⟨by rfl, fun W' hS => by obtain ⟨s0, s1⟩ := hS; go_simp⟩) hS0 ?_
        intro A' hA; simp at hA; subst hA
        refine wpAnyH_takeA (i := 8) (v := .int .i64 u1e) 70 rfl rfl (by kernel_rfl) (by kernel_rfl) (by kernel_rfl) (fun _ _ _ h => h) (.inl ⟨by rfl, fun W' hS => by obtain ⟨s0, s1⟩ := hS; go_simp⟩) hS0 ?_
        intro A' hA; simp at hA; subst hA
        clear hS0
        refine wpAnyH_one (i := 10) (by kernel_rfl) rfl (by rfl) (fun K' hK => ?_)
        have HK := Aside0.mk hK
        clear hK
        have k0 : X39.cell? ⟨Bb, 0, none⟩ = some (.int .i64 0) := K39.out.cell 16 0 rfl
        have y0 : X39.frozen? ⟨Bb, 0, none⟩ = false := K39.out.frozen 16 0 rfl
        have k1 : X39.cell? ⟨Bb, 1, none⟩ = some (.slice none 0 0) := K39.out.cell 16 1 rfl
        have y1 : X39.frozen? ⟨Bb, 1, none⟩ = false := K39.out.frozen 16 1 rfl
        refine wp_store_run (t := 24) (.tmp 16) (.tmp 69) rfl rfl rfl rfl (storeFormula k0 k1 y0 y1) ?_
        clear k0 k1 y0 y1
        have hp := ((K39.out.put (HX.out _) 16 0 rfl (.int .i64 u1v) rfl).put (HX.out _) 16 1 rfl (.slice Ab u1l.length cb) rfl)
        have K40 : Aside0 (Sep w (fun _ => False) [fB Bf v1 (.slice A1 l1.length c1), fB B5 sv (.slice Au sl.length cu), headA (.slice Awx nwx cwx) ((Tx ++ Mx).map LRow.shown), headA (.slice Arx nrx crx) (Tx.map LRow.all), dataA (Tx ++ Mx), (Asr.row (Kd.int .i64) 3 (.slice Ap np cp) (lentOf part)), xB Bx (.slice Awx l1.length cwx) (.slice Awx nwx cwx) (.slice Arx nrx crx), fB Bi v1 (.slice Awx l1.length cwx), sC (.slice Aw u1l.length cw) u1l, fB Bw u1v (.slice Aw u1l.length cw), (Asr.foot fun W => Kd.C (Kd.slice 3 (Kd.int .i64)) W Atf l1.length (l1.map (List.map negw))), sC (.slice Ao u2l.length co) u2l, fB Bo u2v (.slice Ao u2l.length co), sC (.slice Aa u1l.length ca) u1l, fB Ba u1v (.slice Aa u1l.length ca), sC (.slice Ab u1l.length cb) u1l, fB Bb u1v (.slice Ab u1l.length cb)] ((X39.setCell ⟨Bb, 0, none⟩ (.int .i64 u1v)).setCell ⟨Bb, 1, none⟩ (.slice Ab u1l.length cb))) := ⟨hp⟩
        clear hp K39
        generalize ((X39.setCell ⟨Bb, 0, none⟩ (.int .i64 u1v)).setCell ⟨Bb, 1, none⟩ (.slice Ab u1l.length cb)) = X40 at K40 ⊢
        refine HK.out _ _ ⟨K40.out.cell 7 0 rfl, K40.out.cell 7 1 rfl⟩ ?_
        clear HK
        have hS0 : X40.cell? ⟨Bi, 0, none⟩ = some (.int .i64 v1) ∧ X40.cell? ⟨Bi, 1, none⟩ = some (.slice Awx l1.length cwx) := ⟨K40.out.cell 7 0 rfl, K40.out.cell 7 1 rfl⟩
        refine wpAnyH_takeA (i := 11) (v := .int .i64 u1e) 17 rfl rfl (by kernel_rfl) (by kernel_rfl) (by kernel_rfl) (fun _ _ _ h => h) (.inl ⟨by rfl, fun W' hS => by obtain ⟨s0, s1⟩ := hS; go_simp⟩) hS0 ?_
        intro A' hA; simp at hA; subst hA
        clear hS0
        refine wpAnyH_done (by kernel_rfl) ?_ _
        go_wp2_with fail
        go_meet
        case rel => exact ⟨Bb, Ab, cb, rfl, K40⟩
    case rest =>
      clear H34
      obtain ⟨Bb, Ab, cb, rfl, Hrb⟩ := hcut
      generalize wc = Wrb at Hrb ⊢
      have q7 : Wrb.cell? ⟨Bx, 0, none⟩ = some (.slice Awx l1.length cwx) := Hrb.out.cell 6 0 rfl
      have q8 : Wrb.cell? ⟨Bx, 1, none⟩ = some (.slice Awx nwx cwx) := Hrb.out.cell 6 1 rfl
      have q9 : Wrb.cell? ⟨Bx, 2, none⟩ = some (.slice Arx nrx crx) := Hrb.out.cell 6 2 rfl
      have q10 : Wrb.cell? ⟨Bf, 1, none⟩ = some (.slice A1 l1.length c1) := Hrb.out.cell 0 1 rfl
      go_wp2_with (go_at_call 26; refine HoldU.out ?_)
      refine ⟨?_⟩
      clear q7 q8 q9 q10
      refine (HFx.out.kept Hrb.out 2 3 4 rfl rfl rfl (Kd.C_below HR1.out Hrb.out.hB) HC.out.1 HB1.out).mono ?_
      rintro e W41 ⟨rfl, hb⟩
      have H42 : Aside0 (Sep w (fun _ => False) [fB Bf v1 (.slice A1 l1.length c1), fB B5 sv (.slice Au sl.length cu), headA (.slice Awx nwx cwx) ((Tx ++ Mx).map LRow.shown), headA (.slice Arx nrx crx) (Tx.map LRow.all), dataA (Tx ++ Mx), (Asr.row (Kd.int .i64) 3 (.slice Ap np cp) (lentOf part)), xB Bx (.slice Awx l1.length cwx) (.slice Awx nwx cwx) (.slice Arx nrx crx), fB Bi v1 (.slice Awx l1.length cwx), sC (.slice Aw u1l.length cw) u1l, fB Bw u1v (.slice Aw u1l.length cw), (Asr.foot fun W => Kd.C (Kd.slice 3 (Kd.int .i64)) W Atf l1.length (l1.map (List.map negw))), sC (.slice Ao u2l.length co) u2l, fB Bo u2v (.slice Ao u2l.length co), sC (.slice Aa u1l.length ca) u1l, fB Ba u1v (.slice Aa u1l.length ca), sC (.slice Ab u1l.length cb) u1l, fB Bb u1v (.slice Ab u1l.length cb)] W41) := ⟨Hrb.out.keep hb⟩
      clear Hrb
      clear hb
      go_wp2_with (go_at_call 48; refine HoldU.out ?_)
      refine ⟨?_⟩
      refine (kept1_n H42.out 5 rfl (Kd.C_below HR2.out H42.out.hB) HC.out.2 HB2.out).mono ?_
      rintro e W43 ⟨rfl, hb⟩
      have H44 : Aside0 (Sep w (fun _ => False) [fB Bf v1 (.slice A1 l1.length c1), fB B5 sv (.slice Au sl.length cu), headA (.slice Awx nwx cwx) ((Tx ++ Mx).map LRow.shown), headA (.slice Arx nrx crx) (Tx.map LRow.all), dataA (Tx ++ Mx), (Asr.row (Kd.int .i64) 3 (.slice Ap np cp) (lentOf part)), xB Bx (.slice Awx l1.length cwx) (.slice Awx nwx cwx) (.slice Arx nrx crx), fB Bi v1 (.slice Awx l1.length cwx), sC (.slice Aw u1l.length cw) u1l, fB Bw u1v (.slice Aw u1l.length cw), (Asr.foot fun W => Kd.C (Kd.slice 3 (Kd.int .i64)) W Atf l1.length (l1.map (List.map negw))), sC (.slice Ao u2l.length co) u2l, fB Bo u2v (.slice Ao u2l.length co), sC (.slice Aa u1l.length ca) u1l, fB Ba u1v (.slice Aa u1l.length ca), sC (.slice Ab u1l.length cb) u1l, fB Bb u1v (.slice Ab u1l.length cb)] W43) := ⟨H42.out.keep hb⟩
      clear H42
      clear hb
      have q11 : W43.cell? ⟨Bx, 0, none⟩ = some (.slice Awx l1.length cwx) := H44.out.cell 6 0 rfl
      go_wp2_with (go_at_call 27; refine HoldU.out ?_)
      refine ⟨?_⟩
      clear q11
      have HKK := Aside0.mk (data_k H44.out 4 rfl)
      refine (turn_calls H44.out (HX.out _) 2 4 (by decide) rfl rfl l1.length HFx.out.le ⟨Nat.le_trans HB1.out.1 (by decide), HFx.out.ks H44.out 4 rfl HB1.out⟩).mono ?_
      rintro e W45 ⟨rfl, hs⟩
      have H46 : Aside0 (Sep w (fun _ => False) [fB Bf v1 (.slice A1 l1.length c1), fB B5 sv (.slice Au sl.length cu), headA (.slice Awx nwx cwx) ((Tx ++ Mx).map LRow.shown), headA (.slice Arx nrx crx) (Tx.map LRow.all), dataA (turnAt l1.length 0 (Tx ++ Mx)), (Asr.row (Kd.int .i64) 3 (.slice Ap np cp) (lentOf part)), xB Bx (.slice Awx l1.length cwx) (.slice Awx nwx cwx) (.slice Arx nrx crx), fB Bi v1 (.slice Awx l1.length cwx), sC (.slice Aw u1l.length cw) u1l, fB Bw u1v (.slice Aw u1l.length cw), (Asr.foot fun W => Kd.C (Kd.slice 3 (Kd.int .i64)) W Atf l1.length (l1.map (List.map negw))), sC (.slice Ao u2l.length co) u2l, fB Bo u2v (.slice Ao u2l.length co), sC (.slice Aa u1l.length ca) u1l, fB Ba u1v (.slice Aa u1l.length ca), sC (.slice Ab u1l.length cb) u1l, fB Bb u1v (.slice Ab u1l.length cb)] W45) := ⟨hs⟩
      clear H44
      clear hs
      go_upto_region 13 with fail
      have H47 : Aside0 (Sep w (fun _ => False) [fB Bf v1 (.slice A1 l1.length c1), fB B5 sv (.slice Au sl.length cu), headA (.slice Awx nwx cwx) ((Tx ++ Mx).map LRow.shown), headA (.slice Arx nrx crx) (Tx.map LRow.all), dataA (turnAt l1.length 0 (Tx ++ Mx)), (Asr.row (Kd.int .i64) 3 (.slice Ap np cp) (lentOf part)), xB Bx (.slice Awx l1.length cwx) (.slice Awx nwx cwx) (.slice Arx nrx crx), fB Bi v1 (.slice Awx l1.length cwx), sC (.slice Aw u1l.length cw) u1l, fB Bw u1v (.slice Aw u1l.length cw), (Asr.foot fun W => Kd.C (Kd.slice 3 (Kd.int .i64)) W Atf l1.length (l1.map (List.map negw))), sC (.slice Ao u2l.length co) u2l, fB Bo u2v (.slice Ao u2l.length co), sC (.slice Aa u1l.length ca) u1l, fB Ba u1v (.slice Aa u1l.length ca), sC (.slice Ab u1l.length cb) u1l, fB Bb u1v (.slice Ab u1l.length cb), .emp, .emp] W45) := ⟨H46.out.pad 2⟩
      clear H46
      go_cut [18] from 22 (fun s15 wx => ∃ (Bc : Nat) (Ac : Option Addr) (cc : Nat), s15 = .pointer (some ⟨Bc, 0, none⟩) ∧ Aside0 (Sep w (fun _ => False) [fB Bf v1 (.slice A1 l1.length c1), fB B5 sv (.slice Au sl.length cu), headA (.slice Awx nwx cwx) ((Tx ++ Mx).map LRow.shown), headA (.slice Arx nrx crx) (Tx.map LRow.all), dataA (turnAt l1.length 0 (Tx ++ Mx)), (Asr.row (Kd.int .i64) 3 (.slice Ap np cp) (lentOf part)), xB Bx (.slice Awx l1.length cwx) (.slice Awx nwx cwx) (.slice Arx nrx crx), fB Bi v1 (.slice Awx l1.length cwx), sC (.slice Aw u1l.length cw) u1l, fB Bw u1v (.slice Aw u1l.length cw), (Asr.foot fun W => Kd.C (Kd.slice 3 (Kd.int .i64)) W Atf l1.length (l1.map (List.map negw))), sC (.slice Ao u2l.length co) u2l, fB Bo u2v (.slice Ao u2l.length co), sC (.slice Aa u1l.length ca) u1l, fB Ba u1v (.slice Aa u1l.length ca), sC (.slice Ab u1l.length cb) u1l, fB Bb u1v (.slice Ab u1l.length cb), sC (.slice Ac u2l.length cc) u2l, fB Bc u2v (.slice Ac u2l.length cc)] wx))
      case first =>
        as_aux_lemma =>
        have hmx : Try.prog.follows .mixedOrders = true := by kernel_rfl
        have K0 : Aside0 (Sep w (fun _ => False) [fB Bf v1 (.slice A1 l1.length c1), fB B5 sv (.slice Au sl.length cu), headA (.slice Awx nwx cwx) ((Tx ++ Mx).map LRow.shown), headA (.slice Arx nrx crx) (Tx.map LRow.all), dataA (turnAt l1.length 0 (Tx ++ Mx)), (Asr.row (Kd.int .i64) 3 (.slice Ap np cp) (lentOf part)), xB Bx (.slice Awx l1.length cwx) (.slice Awx nwx cwx) (.slice Arx nrx crx), fB Bi v1 (.slice Awx l1.length cwx), sC (.slice Aw u1l.length cw) u1l, fB Bw u1v (.slice Aw u1l.length cw), (Asr.foot fun W => Kd.C (Kd.slice 3 (Kd.int .i64)) W Atf l1.length (l1.map (List.map negw))), sC (.slice Ao u2l.length co) u2l, fB Bo u2v (.slice Ao u2l.length co), sC (.slice Aa u1l.length ca) u1l, fB Ba u1v (.slice Aa u1l.length ca), sC (.slice Ab u1l.length cb) u1l, fB Bb u1v (.slice Ab u1l.length cb), .emp, .emp] W45.drew) := ⟨H47.out.keep (below_drew (Below.refl _ _))⟩
        clear H47
        refine wp_region_H (S := fun W' => W'.cell? ⟨Bi, 0, none⟩ = some (.int .i64 v1) ∧ W'.cell? ⟨Bi, 1, none⟩ = some (.slice Awx l1.length cwx)) hmx ?_
        generalize W45.drew = X0 at K0 ⊢
        have hS0 : X0.cell? ⟨Bi, 0, none⟩ = some (.int .i64 v1) ∧ X0.cell? ⟨Bi, 1, none⟩ = some (.slice Awx l1.length cwx) := ⟨K0.out.cell 7 0 rfl, K0.out.cell 7 1 rfl⟩
        refine wpAnyH_takeA (i := 0) (v := .agg #[.int .i64 v1, .slice Awx l1.length cwx]) 86 rfl rfl (by kernel_rfl) (by kernel_rfl) (by kernel_rfl) (fun _ _ _ h => h) (.inl ⟨by rfl, fun W' hS => by obtain ⟨s0, s1⟩ := hS; go_simp⟩) hS0 ?_
        intro A' hA; simp at hA; subst hA
        refine wpAnyH_takeA (i := 1) (v := .slice Ap np cp) 87 rfl rfl (by kernel_rfl) (by kernel_rfl) (by kernel_rfl) (fun _ _ _ h => h) (.inl ⟨by rfl, fun W' hS => by obtain ⟨s0, s1⟩ := hS; go_simp⟩) hS0 ?_
        intro A' hA; simp at hA; subst hA
        refine wpAnyH_takeA (i := 2) (v := .slice A2 part.length c2) 88 rfl rfl (by kernel_rfl) (by kernel_rfl) (by kernel_rfl) (fun _ _ _ h => h) (.inl ⟨by rfl, fun W' hS => by obtain ⟨s0, s1⟩ := hS; go_simp⟩) hS0 ?_
        intro A' hA; simp at hA; subst hA
        refine wpAnyH_takeA (i := 3) (v := .int .i64 part.length) 89 rfl rfl (by kernel_rfl) (by kernel_rfl) (by kernel_rfl) (fun _ _ _ h => h) (.inl ⟨by rfl, fun W' hS => by obtain ⟨s0, s1⟩ := hS; go_simp⟩) hS0 ?_
        intro A' hA; simp at hA; subst hA
        refine wpAnyH_takeA (i := 4) (v := .slice Ap part.length cp) 90 rfl rfl (by kernel_rfl) (by kernel_rfl) (by kernel_rfl) (fun _ _ _ h => h) (.inl ⟨by rfl, fun W' hS => by obtain ⟨s0, s1⟩ := hS; go_simp⟩) hS0 ?_
        intro A' hA; simp at hA; subst hA
        clear hS0
        refine wpAnyH_two (i := 5) (j := 9) (by kernel_rfl) rfl rfl (by rfl) (by rfl) (fun K' hK => ?_) (fun K' hK => ?_)
        · have HK := Aside0.mk hK
          clear hK
          go_simp
          refine (under_n HU2.out (List.length_map _).symm rfl Awx Ap cwx cp _ (HFx.out.CT K0.out 2 4 rfl rfl HKK.out).1 (HFx.out.CT K0.out 2 4 rfl rfl HKK.out).2 (part_C K0.out 5 rfl).1 (part_C K0.out 5 rfl).2 (neg_sm HB1.out) HB2.out).mono ?_
          rintro e X48 ⟨Ac, cc, rfl, hS, hb⟩
          have hp := K0.out.fill 17 rfl hb (HX.out _) hS
          clear hS hb
          have K48 : Aside0 (Sep w (fun _ => False) [fB Bf v1 (.slice A1 l1.length c1), fB B5 sv (.slice Au sl.length cu), headA (.slice Awx nwx cwx) ((Tx ++ Mx).map LRow.shown), headA (.slice Arx nrx crx) (Tx.map LRow.all), dataA (turnAt l1.length 0 (Tx ++ Mx)), (Asr.row (Kd.int .i64) 3 (.slice Ap np cp) (lentOf part)), xB Bx (.slice Awx l1.length cwx) (.slice Awx nwx cwx) (.slice Arx nrx crx), fB Bi v1 (.slice Awx l1.length cwx), sC (.slice Aw u1l.length cw) u1l, fB Bw u1v (.slice Aw u1l.length cw), (Asr.foot fun W => Kd.C (Kd.slice 3 (Kd.int .i64)) W Atf l1.length (l1.map (List.map negw))), sC (.slice Ao u2l.length co) u2l, fB Bo u2v (.slice Ao u2l.length co), sC (.slice Aa u1l.length ca) u1l, fB Ba u1v (.slice Aa u1l.length ca), sC (.slice Ab u1l.length cb) u1l, fB Bb u1v (.slice Ab u1l.length cb), sC (.slice Ac u2l.length cc) u2l, .emp] X48) := ⟨hp⟩
          clear K0
          refine HK.out _ _ ⟨K48.out.cell 7 0 rfl, K48.out.cell 7 1 rfl⟩ ?_
          clear HK
          have hS0 : X48.cell? ⟨Bi, 0, none⟩ = some (.int .i64 v1) ∧ X48.cell? ⟨Bi, 1, none⟩ = some (.slice Awx l1.length cwx) := ⟨K48.out.cell 7 0 rfl, K48.out.cell 7 1 rfl⟩
          refine wpAnyH_takeA (i := 6) (v := .tuple #[.agg #[.int .i64 u2v, .slice Ac u2l.length cc], .int .i64 u2e]) 85 rfl rfl (by kernel_rfl) (by kernel_rfl) (by kernel_rfl) (fun _ _ _ h => h) (.inl ⟨by rfl, fun W' hS => by obtain ⟨s0, s1⟩ := hS; go_simp⟩) hS0 ?_
          intro A' hA; simp at hA; subst hA
          refine wpAnyH_takeA (i := 7) (v := .agg #[.int .i64 u2v, .slice Ac u2l.length cc]) 92 rfl rfl (by kernel_rfl) (by kernel_rfl) (by kernel_rfl) (fun _ _ _ h => h) (.inl ⟨by rfl, fun W' hS => by obtain ⟨s0, s1⟩ := hS; go_simp⟩) hS0 ?_
          intro A' hA; simp at hA; subst hA
          refine wpAnyH_takeA (i := 8) (v := .int .i64 u2e) 93 rfl rfl (by kernel_rfl) (by kernel_rfl) (by kernel_rfl) (fun _ _ _ h => h) (.inl ⟨by rfl, fun W' hS => by obtain ⟨s0, s1⟩ := hS; go_simp⟩) hS0 ?_
          intro A' hA; simp at hA; subst hA
          clear hS0
          refine wpAnyH_one (i := 9) (by kernel_rfl) rfl (by rfl) (fun K' hK => ?_)
          have HK := Aside0.mk hK
          clear hK
          go_simp
          have hp := K48.out.fillNew (HX.out _) 18 rfl (.cells #[.int .i64 0, .slice none 0 0] 24 (0, 0))
          generalize X48.alloc (.cells #[.int .i64 0, .slice none 0 0] 24) = X49 at hp ⊢
          generalize X48.heap.size = Bc at hp ⊢
          have K49 : Aside0 (Sep w (fun _ => False) [fB Bf v1 (.slice A1 l1.length c1), fB B5 sv (.slice Au sl.length cu), headA (.slice Awx nwx cwx) ((Tx ++ Mx).map LRow.shown), headA (.slice Arx nrx crx) (Tx.map LRow.all), dataA (turnAt l1.length 0 (Tx ++ Mx)), (Asr.row (Kd.int .i64) 3 (.slice Ap np cp) (lentOf part)), xB Bx (.slice Awx l1.length cwx) (.slice Awx nwx cwx) (.slice Arx nrx crx), fB Bi v1 (.slice Awx l1.length cwx), sC (.slice Aw u1l.length cw) u1l, fB Bw u1v (.slice Aw u1l.length cw), (Asr.foot fun W => Kd.C (Kd.slice 3 (Kd.int .i64)) W Atf l1.length (l1.map (List.map negw))), sC (.slice Ao u2l.length co) u2l, fB Bo u2v (.slice Ao u2l.length co), sC (.slice Aa u1l.length ca) u1l, fB Ba u1v (.slice Aa u1l.length ca), sC (.slice Ab u1l.length cb) u1l, fB Bb u1v (.slice Ab u1l.length cb), sC (.slice Ac u2l.length cc) u2l, fB Bc 0 (.slice none 0 0)] X49) := ⟨hp⟩
          clear hp K48
          refine HK.out _ _ ⟨K49.out.cell 7 0 rfl, K49.out.cell 7 1 rfl⟩ ?_
          clear HK
          refine wpAnyH_one (i := 10) (by kernel_rfl) rfl (by rfl) (fun K' hK => ?_)
          have HK := Aside0.mk hK
          clear hK
          have k0 : X49.cell? ⟨Bc, 0, none⟩ = some (.int .i64 0) := K49.out.cell 18 0 rfl
          have y0 : X49.frozen? ⟨Bc, 0, none⟩ = false := K49.out.frozen 18 0 rfl
          have k1 : X49.cell? ⟨Bc, 1, none⟩ = some (.slice none 0 0) := K49.out.cell 18 1 rfl
          have y1 : X49.frozen? ⟨Bc, 1, none⟩ = false := K49.out.frozen 18 1 rfl
          refine wp_store_run (t := 24) (.tmp 18) (.tmp 92) rfl rfl rfl rfl (storeFormula k0 k1 y0 y1) ?_
          clear k0 k1 y0 y1
          have hp := ((K49.out.put (HX.out _) 18 0 rfl (.int .i64 u2v) rfl).put (HX.out _) 18 1 rfl (.slice Ac u2l.length cc) rfl)
          have K50 : Aside0 (Sep w (fun _ => False) [fB Bf v1 (.slice A1 l1.length c1), fB B5 sv (.slice Au sl.length cu), headA (.slice Awx nwx cwx) ((Tx ++ Mx).map LRow.shown), headA (.slice Arx nrx crx) (Tx.map LRow.all), dataA (turnAt l1.length 0 (Tx ++ Mx)), (Asr.row (Kd.int .i64) 3 (.slice Ap np cp) (lentOf part)), xB Bx (.slice Awx l1.length cwx) (.slice Awx nwx cwx) (.slice Arx nrx crx), fB Bi v1 (.slice Awx l1.length cwx), sC (.slice Aw u1l.length cw) u1l, fB Bw u1v (.slice Aw u1l.length cw), (Asr.foot fun W => Kd.C (Kd.slice 3 (Kd.int .i64)) W Atf l1.length (l1.map (List.map negw))), sC (.slice Ao u2l.length co) u2l, fB Bo u2v (.slice Ao u2l.length co), sC (.slice Aa u1l.length ca) u1l, fB Ba u1v (.slice Aa u1l.length ca), sC (.slice Ab u1l.length cb) u1l, fB Bb u1v (.slice Ab u1l.length cb), sC (.slice Ac u2l.length cc) u2l, fB Bc u2v (.slice Ac u2l.length cc)] ((X49.setCell ⟨Bc, 0, none⟩ (.int .i64 u2v)).setCell ⟨Bc, 1, none⟩ (.slice Ac u2l.length cc))) := ⟨hp⟩
          clear hp K49
          generalize ((X49.setCell ⟨Bc, 0, none⟩ (.int .i64 u2v)).setCell ⟨Bc, 1, none⟩ (.slice Ac u2l.length cc)) = X50 at K50 ⊢
          refine HK.out _ _ ⟨K50.out.cell 7 0 rfl, K50.out.cell 7 1 rfl⟩ ?_
          clear HK
          have hS0 : X50.cell? ⟨Bi, 0, none⟩ = some (.int .i64 v1) ∧ X50.cell? ⟨Bi, 1, none⟩ = some (.slice Awx l1.length cwx) := ⟨K50.out.cell 7 0 rfl, K50.out.cell 7 1 rfl⟩
          refine wpAnyH_takeA (i := 11) (v := .int .i64 u2e) 19 rfl rfl (by kernel_rfl) (by kernel_rfl) (by kernel_rfl) (fun _ _ _ h => h) (.inl ⟨by rfl, fun W' hS => by obtain ⟨s0, s1⟩ := hS; go_simp⟩) hS0 ?_
          intro A' hA; simp at hA; subst hA
          clear hS0
          refine wpAnyH_done (by kernel_rfl) ?_ _
          go_wp2_with fail
          go_meet
          case rel => exact ⟨Bc, Ac, cc, rfl, K50⟩
        · have HK := Aside0.mk hK
          clear hK
          go_simp
          have hp := K0.out.fillNew (HX.out _) 18 rfl (.cells #[.int .i64 0, .slice none 0 0] 24 (0, 0))
          generalize X0.alloc (.cells #[.int .i64 0, .slice none 0 0] 24) = X51 at hp ⊢
          generalize X0.heap.size = Bc at hp ⊢
          have K51 : Aside0 (Sep w (fun _ => False) [fB Bf v1 (.slice A1 l1.length c1), fB B5 sv (.slice Au sl.length cu), headA (.slice Awx nwx cwx) ((Tx ++ Mx).map LRow.shown), headA (.slice Arx nrx crx) (Tx.map LRow.all), dataA (turnAt l1.length 0 (Tx ++ Mx)), (Asr.row (Kd.int .i64) 3 (.slice Ap np cp) (lentOf part)), xB Bx (.slice Awx l1.length cwx) (.slice Awx nwx cwx) (.slice Arx nrx crx), fB Bi v1 (.slice Awx l1.length cwx), sC (.slice Aw u1l.length cw) u1l, fB Bw u1v (.slice Aw u1l.length cw), (Asr.foot fun W => Kd.C (Kd.slice 3 (Kd.int .i64)) W Atf l1.length (l1.map (List.map negw))), sC (.slice Ao u2l.length co) u2l, fB Bo u2v (.slice Ao u2l.length co), sC (.slice Aa u1l.length ca) u1l, fB Ba u1v (.slice Aa u1l.length ca), sC (.slice Ab u1l.length cb) u1l, fB Bb u1v (.slice Ab u1l.length cb), .emp, fB Bc 0 (.slice none 0 0)] X51) := ⟨hp⟩
          clear hp K0
          refine HK.out _ _ ⟨K51.out.cell 7 0 rfl, K51.out.cell 7 1 rfl⟩ ?_
          clear HK
          refine wpAnyH_one (i := 5) (by kernel_rfl) rfl (by rfl) (fun K' hK => ?_)
          have HK := Aside0.mk hK
          clear hK
          go_simp
          refine (under_n HU2.out (List.length_map _).symm rfl Awx Ap cwx cp _ (HFx.out.CT K51.out 2 4 rfl rfl HKK.out).1 (HFx.out.CT K51.out 2 4 rfl rfl HKK.out).2 (part_C K51.out 5 rfl).1 (part_C K51.out 5 rfl).2 (neg_sm HB1.out) HB2.out).mono ?_
          rintro e X52 ⟨Ac, cc, rfl, hS, hb⟩
          have hp := K51.out.fill 17 rfl hb (HX.out _) hS
          clear hS hb
          have K52 : Aside0 (Sep w (fun _ => False) [fB Bf v1 (.slice A1 l1.length c1), fB B5 sv (.slice Au sl.length cu), headA (.slice Awx nwx cwx) ((Tx ++ Mx).map LRow.shown), headA (.slice Arx nrx crx) (Tx.map LRow.all), dataA (turnAt l1.length 0 (Tx ++ Mx)), (Asr.row (Kd.int .i64) 3 (.slice Ap np cp) (lentOf part)), xB Bx (.slice Awx l1.length cwx) (.slice Awx nwx cwx) (.slice Arx nrx crx), fB Bi v1 (.slice Awx l1.length cwx), sC (.slice Aw u1l.length cw) u1l, fB Bw u1v (.slice Aw u1l.length cw), (Asr.foot fun W => Kd.C (Kd.slice 3 (Kd.int .i64)) W Atf l1.length (l1.map (List.map negw))), sC (.slice Ao u2l.length co) u2l, fB Bo u2v (.slice Ao u2l.length co), sC (.slice Aa u1l.length ca) u1l, fB Ba u1v (.slice Aa u1l.length ca), sC (.slice Ab u1l.length cb) u1l, fB Bb u1v (.slice Ab u1l.length cb), sC (.slice Ac u2l.length cc) u2l, fB Bc 0 (.slice none 0 0)] X52) := ⟨hp⟩
          clear K51
          refine HK.out _ _ ⟨K52.out.cell 7 0 rfl, K52.out.cell 7 1 rfl⟩ ?_
          clear HK
          have hS0 : X52.cell? ⟨Bi, 0, none⟩ = some (.int .i64 v1) ∧ X52.cell? ⟨Bi, 1, none⟩ = some (.slice Awx l1.length cwx) := ⟨K52.out.cell 7 0 rfl, K52.out.cell 7 1 rfl⟩
          refine wpAnyH_takeA (i := 6) (v := .tuple #[.agg #[.int .i64 u2v, .slice Ac u2l.length cc], .int .i64 u2e]) 85 rfl rfl (by kernel_rfl) (by kernel_rfl) (by kernel_rfl) (fun _ _ _ h => h) (.inl ⟨by rfl, fun W' hS => by obtain ⟨s0, s1⟩ := hS; go_simp⟩) hS0 ?_
          intro A' hA; simp at hA; subst hA
          refine wpAnyH_takeA (i := 7) (v := .agg #[.int .i64 u2v, .slice Ac u2l.length cc]) 92 rfl rfl (by kernel_rfl) (by kernel_rfl) (by kernel_rfl) (fun _ _ _ h => h) (.inl ⟨by rfl, fun W' hS => by obtain ⟨s0, s1⟩ := hS; go_simp⟩) hS0 ?_
          intro A' hA; simp at hA; subst hA
          refine wpAnyH_takeA (i := 8) (v := .int .i64 u2e) 93 rfl rfl (by kernel_rfl) (by kernel_rfl) (by kernel_rfl) (fun _ _ _ h => h) (.inl ⟨by rfl, fun W' hS => by obtain ⟨s0, s1⟩ := hS; go_simp⟩) hS0 ?_
          intro A' hA; simp at hA; subst hA
          clear hS0
          refine wpAnyH_one (i := 10) (by kernel_rfl) rfl (by rfl) (fun K' hK => ?_)
          have HK := Aside0.mk hK
          clear hK
          have k0 : X52.cell? ⟨Bc, 0, none⟩ = some (.int .i64 0) := K52.out.cell 18 0 rfl
          have y0 : X52.frozen? ⟨Bc, 0, none⟩ = false := K52.out.frozen 18 0 rfl
          have k1 : X52.cell? ⟨Bc, 1, none⟩ = some (.slice none 0 0) := K52.out.cell 18 1 rfl
          have y1 : X52.frozen? ⟨Bc, 1, none⟩ = false := K52.out.frozen 18 1 rfl
          refine wp_store_run (t := 24) (.tmp 18) (.tmp 92) rfl rfl rfl rfl (storeFormula k0 k1 y0 y1) ?_
          clear k0 k1 y0 y1
          have hp := ((K52.out.put (HX.out _) 18 0 rfl (.int .i64 u2v) rfl).put (HX.out _) 18 1 rfl (.slice Ac u2l.length cc) rfl)
          have K53 : Aside0 (Sep w (fun _ => False) [fB Bf v1 (.slice A1 l1.length c1), fB B5 sv (.slice Au sl.length cu), headA (.slice Awx nwx cwx) ((Tx ++ Mx).map LRow.shown), headA (.slice Arx nrx crx) (Tx.map LRow.all), dataA (turnAt l1.length 0 (Tx ++ Mx)), (Asr.row (Kd.int .i64) 3 (.slice Ap np cp) (lentOf part)), xB Bx (.slice Awx l1.length cwx) (.slice Awx nwx cwx) (.slice Arx nrx crx), fB Bi v1 (.slice Awx l1.length cwx), sC (.slice Aw u1l.length cw) u1l, fB Bw u1v (.slice Aw u1l.length cw), (Asr.foot fun W => Kd.C (Kd.slice 3 (Kd.int .i64)) W Atf l1.length (l1.map (List.map negw))), sC (.slice Ao u2l.length co) u2l, fB Bo u2v (.slice Ao u2l.length co), sC (.slice Aa u1l.length ca) u1l, fB Ba u1v (.slice Aa u1l.length ca), sC (.slice Ab u1l.length cb) u1l, fB Bb u1v (.slice Ab u1l.length cb), sC (.slice Ac u2l.length cc) u2l, fB Bc u2v (.slice Ac u2l.length cc)] ((X52.setCell ⟨Bc, 0, none⟩ (.int .i64 u2v)).setCell ⟨Bc, 1, none⟩ (.slice Ac u2l.length cc))) := ⟨hp⟩
          clear hp K52
          generalize ((X52.setCell ⟨Bc, 0, none⟩ (.int .i64 u2v)).setCell ⟨Bc, 1, none⟩ (.slice Ac u2l.length cc)) = X53 at K53 ⊢
          refine HK.out _ _ ⟨K53.out.cell 7 0 rfl, K53.out.cell 7 1 rfl⟩ ?_
          clear HK
          have hS0 : X53.cell? ⟨Bi, 0, none⟩ = some (.int .i64 v1) ∧ X53.cell? ⟨Bi, 1, none⟩ = some (.slice Awx l1.length cwx) := ⟨K53.out.cell 7 0 rfl, K53.out.cell 7 1 rfl⟩
          refine wpAnyH_takeA (i := 11) (v := .int .i64 u2e) 19 rfl rfl (by kernel_rfl) (by kernel_rfl) (by kernel_rfl) (fun _ _ _ h => h) (.inl ⟨by rfl, fun W' hS => by obtain ⟨s0, s1⟩ := hS; go_simp⟩) hS0 ?_
          intro A' hA; simp at hA; subst hA
          clear hS0
          refine wpAnyH_done (by kernel_rfl) ?_ _
          go_wp2_with fail
          go_meet
          case rel => exact ⟨Bc, Ac, cc, rfl, K53⟩
      case rest =>
        clear H47
        obtain ⟨Bc, Ac, cc, rfl, Hrc⟩ := hcut
        generalize wc = Wrc at Hrc ⊢
        go_upto_region 14 with fail
        have H54 : Aside0 (Sep w (fun _ => False) [fB Bf v1 (.slice A1 l1.length c1), fB B5 sv (.slice Au sl.length cu), headA (.slice Awx nwx cwx) ((Tx ++ Mx).map LRow.shown), headA (.slice Arx nrx crx) (Tx.map LRow.all), dataA (turnAt l1.length 0 (Tx ++ Mx)), (Asr.row (Kd.int .i64) 3 (.slice Ap np cp) (lentOf part)), xB Bx (.slice Awx l1.length cwx) (.slice Awx nwx cwx) (.slice Arx nrx crx), fB Bi v1 (.slice Awx l1.length cwx), sC (.slice Aw u1l.length cw) u1l, fB Bw u1v (.slice Aw u1l.length cw), (Asr.foot fun W => Kd.C (Kd.slice 3 (Kd.int .i64)) W Atf l1.length (l1.map (List.map negw))), sC (.slice Ao u2l.length co) u2l, fB Bo u2v (.slice Ao u2l.length co), sC (.slice Aa u1l.length ca) u1l, fB Ba u1v (.slice Aa u1l.length ca), sC (.slice Ab u1l.length cb) u1l, fB Bb u1v (.slice Ab u1l.length cb), sC (.slice Ac u2l.length cc) u2l, fB Bc u2v (.slice Ac u2l.length cc), .emp, .emp] Wrc) := ⟨Hrc.out.pad 2⟩
        clear Hrc
        go_cut [20] from 22 (fun s15 wx => ∃ (Bd : Nat) (Ad : Option Addr) (cd : Nat), s15 = .pointer (some ⟨Bd, 0, none⟩) ∧ Aside0 (Sep w (fun _ => False) [fB Bf v1 (.slice A1 l1.length c1), fB B5 sv (.slice Au sl.length cu), headA (.slice Awx nwx cwx) ((Tx ++ Mx).map LRow.shown), headA (.slice Arx nrx crx) (Tx.map LRow.all), dataA (turnAt l1.length 0 (Tx ++ Mx)), (Asr.row (Kd.int .i64) 3 (.slice Ap np cp) (lentOf part)), xB Bx (.slice Awx l1.length cwx) (.slice Awx nwx cwx) (.slice Arx nrx crx), fB Bi v1 (.slice Awx l1.length cwx), sC (.slice Aw u1l.length cw) u1l, fB Bw u1v (.slice Aw u1l.length cw), (Asr.foot fun W => Kd.C (Kd.slice 3 (Kd.int .i64)) W Atf l1.length (l1.map (List.map negw))), sC (.slice Ao u2l.length co) u2l, fB Bo u2v (.slice Ao u2l.length co), sC (.slice Aa u1l.length ca) u1l, fB Ba u1v (.slice Aa u1l.length ca), sC (.slice Ab u1l.length cb) u1l, fB Bb u1v (.slice Ab u1l.length cb), sC (.slice Ac u2l.length cc) u2l, fB Bc u2v (.slice Ac u2l.length cc), sC (.slice Ad u2l.length cd) u2l, fB Bd u2v (.slice Ad u2l.length cd)] wx))
        case first =>
          as_aux_lemma =>
          have hmx : Try.prog.follows .mixedOrders = true := by kernel_rfl
          have K0 : Aside0 (Sep w (fun _ => False) [fB Bf v1 (.slice A1 l1.length c1), fB B5 sv (.slice Au sl.length cu), headA (.slice Awx nwx cwx) ((Tx ++ Mx).map LRow.shown), headA (.slice Arx nrx crx) (Tx.map LRow.all), dataA (turnAt l1.length 0 (Tx ++ Mx)), (Asr.row (Kd.int .i64) 3 (.slice Ap np cp) (lentOf part)), xB Bx (.slice Awx l1.length cwx) (.slice Awx nwx cwx) (.slice Arx nrx crx), fB Bi v1 (.slice Awx l1.length cwx), sC (.slice Aw u1l.length cw) u1l, fB Bw u1v (.slice Aw u1l.length cw), (Asr.foot fun W => Kd.C (Kd.slice 3 (Kd.int .i64)) W Atf l1.length (l1.map (List.map negw))), sC (.slice Ao u2l.length co) u2l, fB Bo u2v (.slice Ao u2l.length co), sC (.slice Aa u1l.length ca) u1l, fB Ba u1v (.slice Aa u1l.length ca), sC (.slice Ab u1l.length cb) u1l, fB Bb u1v (.slice Ab u1l.length cb), sC (.slice Ac u2l.length cc) u2l, fB Bc u2v (.slice Ac u2l.length cc), .emp, .emp] Wrc.drew) := ⟨H54.out.keep (below_drew (Below.refl _ _))⟩
          clear H54
          refine wp_region_H (S := fun W' => W'.cell? ⟨Bi, 0, none⟩ = some (.int .i64 v1) ∧ W'.cell? ⟨Bi, 1, none⟩ = some (.slice Awx l1.length cwx)) hmx ?_
          generalize Wrc.drew = X0 at K0 ⊢
          have hS0 : X0.cell? ⟨Bi, 0, none⟩ = some (.int .i64 v1) ∧ X0.cell? ⟨Bi, 1, none⟩ = some (.slice Awx l1.length cwx) := ⟨K0.out.cell 7 0 rfl, K0.out.cell 7 1 rfl⟩
          refine wpAnyH_takeA (i := 0) (v := .agg #[.int .i64 v1, .slice Awx l1.length cwx]) 95 rfl rfl (by kernel_rfl) (by kernel_rfl) (by kernel_rfl) (fun _ _ _ h => h) (.inl ⟨by rfl, fun W' hS => by obtain ⟨s0, s1⟩ := hS; go_simp⟩) hS0 ?_
          intro A' hA; simp at hA; subst hA
          refine wpAnyH_takeA (i := 1) (v := .slice Ap np cp) 96 rfl rfl (by kernel_rfl) (by kernel_rfl) (by kernel_rfl) (fun _ _ _ h => h) (.inl ⟨by rfl, fun W' hS => by obtain ⟨s0, s1⟩ := hS; go_simp⟩) hS0 ?_
          intro A' hA; simp at hA; subst hA
          refine wpAnyH_takeA (i := 2) (v := .slice A2 part.length c2) 97 rfl rfl (by kernel_rfl) (by kernel_rfl) (by kernel_rfl) (fun _ _ _ h => h) (.inl ⟨by rfl, fun W' hS => by obtain ⟨s0, s1⟩ := hS; go_simp⟩) hS0 ?_
          intro A' hA; simp at hA; subst hA
          refine wpAnyH_takeA (i := 3) (v := .int .i64 part.length) 98 rfl rfl (by kernel_rfl) (by kernel_rfl) (by kernel_rfl) (fun _ _ _ h => h) (.inl ⟨by rfl, fun W' hS => by obtain ⟨s0, s1⟩ := hS; go_simp⟩) hS0 ?_
          intro A' hA; simp at hA; subst hA
          refine wpAnyH_takeA (i := 4) (v := .slice Ap part.length cp) 99 rfl rfl (by kernel_rfl) (by kernel_rfl) (by kernel_rfl) (fun _ _ _ h => h) (.inl ⟨by rfl, fun W' hS => by obtain ⟨s0, s1⟩ := hS; go_simp⟩) hS0 ?_
          intro A' hA; simp at hA; subst hA
          clear hS0
          refine wpAnyH_two (i := 5) (j := 9) (by kernel_rfl) rfl rfl (by rfl) (by rfl) (fun K' hK => ?_) (fun K' hK => ?_)
          · have HK := Aside0.mk hK
            clear hK
            go_simp
            refine (under_n HU2.out (List.length_map _).symm rfl Awx Ap cwx cp _ (HFx.out.CT K0.out 2 4 rfl rfl HKK.out).1 (HFx.out.CT K0.out 2 4 rfl rfl HKK.out).2 (part_C K0.out 5 rfl).1 (part_C K0.out 5 rfl).2 (neg_sm HB1.out) HB2.out).mono ?_
            rintro e X55 ⟨Ad, cd, rfl, hS, hb⟩
            have hp := K0.out.fill 19 rfl hb (HX.out _) hS
            clear hS hb
            have K55 : Aside0 (Sep w (fun _ => False) [fB Bf v1 (.slice A1 l1.length c1), fB B5 sv (.slice Au sl.length cu), headA (.slice Awx nwx cwx) ((Tx ++ Mx).map LRow.shown), headA (.slice Arx nrx crx) (Tx.map LRow.all), dataA (turnAt l1.length 0 (Tx ++ Mx)), (Asr.row (Kd.int .i64) 3 (.slice Ap np cp) (lentOf part)), xB Bx (.slice Awx l1.length cwx) (.slice Awx nwx cwx) (.slice Arx nrx crx), fB Bi v1 (.slice Awx l1.length cwx), sC (.slice Aw u1l.length cw) u1l, fB Bw u1v (.slice Aw u1l.length cw), (Asr.foot fun W => Kd.C (Kd.slice 3 (Kd.int .i64)) W Atf l1.length (l1.map (List.map negw))), sC (.slice Ao u2l.length co) u2l, fB Bo u2v (.slice Ao u2l.length co), sC (.slice Aa u1l.length ca) u1l, fB Ba u1v (.slice Aa u1l.length ca), sC (.slice Ab u1l.length cb) u1l, fB Bb u1v (.slice Ab u1l.length cb), sC (.slice Ac u2l.length cc) u2l, fB Bc u2v (.slice Ac u2l.length cc), sC (.slice Ad u2l.length cd) u2l, .emp] X55) := ⟨hp⟩
            clear K0
            refine HK.out _ _ ⟨K55.out.cell 7 0 rfl, K55.out.cell 7 1 rfl⟩ ?_
            clear HK
            have hS0 : X55.cell? ⟨Bi, 0, none⟩ = some (.int .i64 v1) ∧ X55.cell? ⟨Bi, 1, none⟩ = some (.slice Awx l1.length cwx) := ⟨K55.out.cell 7 0 rfl, K55.out.cell 7 1 rfl⟩
            refine wpAnyH_takeA (i := 6) (v := .tuple #[.agg #[.int .i64 u2v, .slice Ad u2l.length cd], .int .i64 u2e]) 94 rfl rfl (by kernel_rfl) (by kernel_rfl) (by kernel_rfl) (fun _ _ _ h => h) (.inl ⟨by rfl, fun W' hS => by obtain ⟨s0, s1⟩ := hS; go_simp⟩) hS0 ?_
            intro A' hA; simp at hA; subst hA
            refine wpAnyH_takeA (i := 7) (v := .agg #[.int .i64 u2v, .slice Ad u2l.length cd]) 101 rfl rfl (by kernel_rfl) (by kernel_rfl) (by kernel_rfl) (fun _ _ _ h => h) (.inl ⟨by rfl, fun W' hS => by obtain ⟨s0, s1⟩ := hS; go_simp⟩) hS0 ?_
            intro A' hA; simp at hA; subst hA
            refine wpAnyH_takeA (i := 8) (v := .int .i64 u2e) 102 rfl rfl (by kernel_rfl) (by kernel_rfl) (by kernel_rfl) (fun _ _ _ h => h) (.inl ⟨by rfl, fun W' hS => by obtain ⟨s0, s1⟩ := hS; go_simp⟩) hS0 ?_
            intro A' hA; simp at hA; subst hA
            clear hS0
            refine wpAnyH_one (i := 9) (by kernel_rfl) rfl (by rfl) (fun K' hK => ?_)
            have HK := Aside0.mk hK
            clear hK
            go_simp
            have hp := K55.out.fillNew (HX.out _) 20 rfl (.cells #[.int .i64 0, .slice none 0 0] 24 (0, 0))
            generalize X55.alloc (.cells #[.int .i64 0, .slice none 0 0] 24) = X56 at hp ⊢
            generalize X55.heap.size = Bd at hp ⊢
            have K56 : Aside0 (Sep w (fun _ => False) [fB Bf v1 (.slice A1 l1.length c1), fB B5 sv (.slice Au sl.length cu), headA (.slice Awx nwx cwx) ((Tx ++ Mx).map LRow.shown), headA (.slice Arx nrx crx) (Tx.map LRow.all), dataA (turnAt l1.length 0 (Tx ++ Mx)), (Asr.row (Kd.int .i64) 3 (.slice Ap np cp) (lentOf part)), xB Bx (.slice Awx l1.length cwx) (.slice Awx nwx cwx) (.slice Arx nrx crx), fB Bi v1 (.slice Awx l1.length cwx), sC (.slice Aw u1l.length cw) u1l, fB Bw u1v (.slice Aw u1l.length cw), (Asr.foot fun W => Kd.C (Kd.slice 3 (Kd.int .i64)) W Atf l1.length (l1.map (List.map negw))), sC (.slice Ao u2l.length co) u2l, fB Bo u2v (.slice Ao u2l.length co), sC (.slice Aa u1l.length ca) u1l, fB Ba u1v (.slice Aa u1l.length ca), sC (.slice Ab u1l.length cb) u1l, fB Bb u1v (.slice Ab u1l.length cb), sC (.slice Ac u2l.length cc) u2l, fB Bc u2v (.slice Ac u2l.length cc), sC (.slice Ad u2l.length cd) u2l, fB Bd 0 (.slice none 0 0)] X56) := ⟨hp⟩
            clear hp K55
            refine HK.out _ _ ⟨K56.out.cell 7 0 rfl, K56.out.cell 7 1 rfl⟩ ?_
            clear HK
            refine wpAnyH_one (i := 10) (by kernel_rfl) rfl (by rfl) (fun K' hK => ?_)
            have HK := Aside0.mk hK
            clear hK
            have k0 : X56.cell? ⟨Bd, 0, none⟩ = some (.int .i64 0) := K56.out.cell 20 0 rfl
            have y0 : X56.frozen? ⟨Bd, 0, none⟩ = false := K56.out.frozen 20 0 rfl
            have k1 : X56.cell? ⟨Bd, 1, none⟩ = some (.slice none 0 0) := K56.out.cell 20 1 rfl
            have y1 : X56.frozen? ⟨Bd, 1, none⟩ = false := K56.out.frozen 20 1 rfl
            refine wp_store_run (t := 24) (.tmp 20) (.tmp 101) rfl rfl rfl rfl (storeFormula k0 k1 y0 y1) ?_
            clear k0 k1 y0 y1
            have hp := ((K56.out.put (HX.out _) 20 0 rfl (.int .i64 u2v) rfl).put (HX.out _) 20 1 rfl (.slice Ad u2l.length cd) rfl)
            have K57 : Aside0 (Sep w (fun _ => False) [fB Bf v1 (.slice A1 l1.length c1), fB B5 sv (.slice Au sl.length cu), headA (.slice Awx nwx cwx) ((Tx ++ Mx).map LRow.shown), headA (.slice Arx nrx crx) (Tx.map LRow.all), dataA (turnAt l1.length 0 (Tx ++ Mx)), (Asr.row (Kd.int .i64) 3 (.slice Ap np cp) (lentOf part)), xB Bx (.slice Awx l1.length cwx) (.slice Awx nwx cwx) (.slice Arx nrx crx), fB Bi v1 (.slice Awx l1.length cwx), sC (.slice Aw u1l.length cw) u1l, fB Bw u1v (.slice Aw u1l.length cw), (Asr.foot fun W => Kd.C (Kd.slice 3 (Kd.int .i64)) W Atf l1.length (l1.map (List.map negw))), sC (.slice Ao u2l.length co) u2l, fB Bo u2v (.slice Ao u2l.length co), sC (.slice Aa u1l.length ca) u1l, fB Ba u1v (.slice Aa u1l.length ca), sC (.slice Ab u1l.length cb) u1l, fB Bb u1v (.slice Ab u1l.length cb), sC (.slice Ac u2l.length cc) u2l, fB Bc u2v (.slice Ac u2l.length cc), sC (.slice Ad u2l.length cd) u2l, fB Bd u2v (.slice Ad u2l.length cd)] ((X56.setCell ⟨Bd, 0, none⟩ (.int .i64 u2v)).setCell ⟨Bd, 1, none⟩ (.slice Ad u2l.length cd))) := ⟨hp⟩
            clear hp K56
            generalize ((X56.setCell ⟨Bd, 0, none⟩ (.int .i64 u2v)).setCell ⟨Bd, 1, none⟩ (.slice Ad u2l.length cd)) = X57 at K57 ⊢
            refine HK.out _ _ ⟨K57.out.cell 7 0 rfl, K57.out.cell 7 1 rfl⟩ ?_
            clear HK
            have hS0 : X57.cell? ⟨Bi, 0, none⟩ = some (.int .i64 v1) ∧ X57.cell? ⟨Bi, 1, none⟩ = some (.slice Awx l1.length cwx) := ⟨K57.out.cell 7 0 rfl, K57.out.cell 7 1 rfl⟩
            refine wpAnyH_takeA (i := 11) (v := .int .i64 u2e) 21 rfl rfl (by kernel_rfl) (by kernel_rfl) (by kernel_rfl) (fun _ _ _ h => h) (.inl ⟨by rfl, fun W' hS => by obtain ⟨s0, s1⟩ := hS; go_simp⟩) hS0 ?_
            intro A' hA; simp at hA; subst hA
            clear hS0
            refine wpAnyH_done (by kernel_rfl) ?_ _
            go_wp2_with fail
            go_meet
            case rel => exact ⟨Bd, Ad, cd, rfl, K57⟩
          · have HK := Aside0.mk hK
            clear hK
            go_simp
            have hp := K0.out.fillNew (HX.out _) 20 rfl (.cells #[.int .i64 0, .slice none 0 0] 24 (0, 0))
            generalize X0.alloc (.cells #[.int .i64 0, .slice none 0 0] 24) = X58 at hp ⊢
            generalize X0.heap.size = Bd at hp ⊢
            have K58 : Aside0 (Sep w (fun _ => False) [fB Bf v1 (.slice A1 l1.length c1), fB B5 sv (.slice Au sl.length cu), headA (.slice Awx nwx cwx) ((Tx ++ Mx).map LRow.shown), headA (.slice Arx nrx crx) (Tx.map LRow.all), dataA (turnAt l1.length 0 (Tx ++ Mx)), (Asr.row (Kd.int .i64) 3 (.slice Ap np cp) (lentOf part)), xB Bx (.slice Awx l1.length cwx) (.slice Awx nwx cwx) (.slice Arx nrx crx), fB Bi v1 (.slice Awx l1.length cwx), sC (.slice Aw u1l.length cw) u1l, fB Bw u1v (.slice Aw u1l.length cw), (Asr.foot fun W => Kd.C (Kd.slice 3 (Kd.int .i64)) W Atf l1.length (l1.map (List.map negw))), sC (.slice Ao u2l.length co) u2l, fB Bo u2v (.slice Ao u2l.length co), sC (.slice Aa u1l.length ca) u1l, fB Ba u1v (.slice Aa u1l.length ca), sC (.slice Ab u1l.length cb) u1l, fB Bb u1v (.slice Ab u1l.length cb), sC (.slice Ac u2l.length cc) u2l, fB Bc u2v (.slice Ac u2l.length cc), .emp, fB Bd 0 (.slice none 0 0)] X58) := ⟨hp⟩
            clear hp K0
            refine HK.out _ _ ⟨K58.out.cell 7 0 rfl, K58.out.cell 7 1 rfl⟩ ?_
            clear HK
            refine wpAnyH_one (i := 5) (by kernel_rfl) rfl (by rfl) (fun K' hK => ?_)
            have HK := Aside0.mk hK
            clear hK
            go_simp
            refine (under_n HU2.out (List.length_map _).symm rfl Awx Ap cwx cp _ (HFx.out.CT K58.out 2 4 rfl rfl HKK.out).1 (HFx.out.CT K58.out 2 4 rfl rfl HKK.out).2 (part_C K58.out 5 rfl).1 (part_C K58.out 5 rfl).2 (neg_sm HB1.out) HB2.out).mono ?_
            rintro e X59 ⟨Ad, cd, rfl, hS, hb⟩
            have hp := K58.out.fill 19 rfl hb (HX.out _) hS
            clear hS hb
            have K59 : Aside0 (Sep w (fun _ => False) [fB Bf v1 (.slice A1 l1.length c1), fB B5 sv (.slice Au sl.length cu), headA (.slice Awx nwx cwx) ((Tx ++ Mx).map LRow.shown), headA (.slice Arx nrx crx) (Tx.map LRow.all), dataA (turnAt l1.length 0 (Tx ++ Mx)), (Asr.row (Kd.int .i64) 3 (.slice Ap np cp) (lentOf part)), xB Bx (.slice Awx l1.length cwx) (.slice Awx nwx cwx) (.slice Arx nrx crx), fB Bi v1 (.slice Awx l1.length cwx), sC (.slice Aw u1l.length cw) u1l, fB Bw u1v (.slice Aw u1l.length cw), (Asr.foot fun W => Kd.C (Kd.slice 3 (Kd.int .i64)) W Atf l1.length (l1.map (List.map negw))), sC (.slice Ao u2l.length co) u2l, fB Bo u2v (.slice Ao u2l.length co), sC (.slice Aa u1l.length ca) u1l, fB Ba u1v (.slice Aa u1l.length ca), sC (.slice Ab u1l.length cb) u1l, fB Bb u1v (.slice Ab u1l.length cb), sC (.slice Ac u2l.length cc) u2l, fB Bc u2v (.slice Ac u2l.length cc), sC (.slice Ad u2l.length cd) u2l, fB Bd 0 (.slice none 0 0)] X59) := ⟨hp⟩
            clear K58
            refine HK.out _ _ ⟨K59.out.cell 7 0 rfl, K59.out.cell 7 1 rfl⟩ ?_
            clear HK
            have hS0 : X59.cell? ⟨Bi, 0, none⟩ = some (.int .i64 v1) ∧ X59.cell? ⟨Bi, 1, none⟩ = some (.slice Awx l1.length cwx) := ⟨K59.out.cell 7 0 rfl, K59.out.cell 7 1 rfl⟩
            refine wpAnyH_takeA (i := 6) (v := .tuple #[.agg #[.int .i64 u2v, .slice Ad u2l.length cd], .int .i64 u2e]) 94 rfl rfl (by kernel_rfl) (by kernel_rfl) (by kernel_rfl) (fun _ _ _ h => h) (.inl ⟨by rfl, fun W' hS => by obtain ⟨s0, s1⟩ := hS; go_simp⟩) hS0 ?_
            intro A' hA; simp at hA; subst hA
            refine wpAnyH_takeA (i := 7) (v := .agg #[.int .i64 u2v, .slice Ad u2l.length cd]) 101 rfl rfl (by kernel_rfl) (by kernel_rfl) (by kernel_rfl) (fun _ _ _ h => h) (.inl ⟨by rfl, fun W' hS => by obtain ⟨s0, s1⟩ := hS; go_simp⟩) hS0 ?_
            intro A' hA; simp at hA; subst hA
            refine wpAnyH_takeA (i := 8) (v := .int .i64 u2e) 102 rfl rfl (by kernel_rfl) (by kernel_rfl) (by kernel_rfl) (fun _ _ _ h => h) (.inl ⟨by rfl, fun W' hS => by obtain ⟨s0, s1⟩ := hS; go_simp⟩) hS0 ?_
            intro A' hA; simp at hA; subst hA
            clear hS0
            refine wpAnyH_one (i := 10) (by kernel_rfl) rfl (by rfl) (fun K' hK => ?_)
            have HK := Aside0.mk hK
            clear hK
            have k0 : X59.cell? ⟨Bd, 0, none⟩ = some (.int .i64 0) := K59.out.cell 20 0 rfl
            have y0 : X59.frozen? ⟨Bd, 0, none⟩ = false := K59.out.frozen 20 0 rfl
            have k1 : X59.cell? ⟨Bd, 1, none⟩ = some (.slice none 0 0) := K59.out.cell 20 1 rfl
            have y1 : X59.frozen? ⟨Bd, 1, none⟩ = false := K59.out.frozen 20 1 rfl
            refine wp_store_run (t := 24) (.tmp 20) (.tmp 101) rfl rfl rfl rfl (storeFormula k0 k1 y0 y1) ?_
            clear k0 k1 y0 y1
            have hp := ((K59.out.put (HX.out _) 20 0 rfl (.int .i64 u2v) rfl).put (HX.out _) 20 1 rfl (.slice Ad u2l.length cd) rfl)
            have K60 : Aside0 (Sep w (fun _ => False) [fB Bf v1 (.slice A1 l1.length c1), fB B5 sv (.slice Au sl.length cu), headA (.slice Awx nwx cwx) ((Tx ++ Mx).map LRow.shown), headA (.slice Arx nrx crx) (Tx.map LRow.all), dataA (turnAt l1.length 0 (Tx ++ Mx)), (Asr.row (Kd.int .i64) 3 (.slice Ap np cp) (lentOf part)), xB Bx (.slice Awx l1.length cwx) (.slice Awx nwx cwx) (.slice Arx nrx crx), fB Bi v1 (.slice Awx l1.length cwx), sC (.slice Aw u1l.length cw) u1l, fB Bw u1v (.slice Aw u1l.length cw), (Asr.foot fun W => Kd.C (Kd.slice 3 (Kd.int .i64)) W Atf l1.length (l1.map (List.map negw))), sC (.slice Ao u2l.length co) u2l, fB Bo u2v (.slice Ao u2l.length co), sC (.slice Aa u1l.length ca) u1l, fB Ba u1v (.slice Aa u1l.length ca), sC (.slice Ab u1l.length cb) u1l, fB Bb u1v (.slice Ab u1l.length cb), sC (.slice Ac u2l.length cc) u2l, fB Bc u2v (.slice Ac u2l.length cc), sC (.slice Ad u2l.length cd) u2l, fB Bd u2v (.slice Ad u2l.length cd)] ((X59.setCell ⟨Bd, 0, none⟩ (.int .i64 u2v)).setCell ⟨Bd, 1, none⟩ (.slice Ad u2l.length cd))) := ⟨hp⟩
            clear hp K59
            generalize ((X59.setCell ⟨Bd, 0, none⟩ (.int .i64 u2v)).setCell ⟨Bd, 1, none⟩ (.slice Ad u2l.length cd)) = X60 at K60 ⊢
            refine HK.out _ _ ⟨K60.out.cell 7 0 rfl, K60.out.cell 7 1 rfl⟩ ?_
            clear HK
            have hS0 : X60.cell? ⟨Bi, 0, none⟩ = some (.int .i64 v1) ∧ X60.cell? ⟨Bi, 1, none⟩ = some (.slice Awx l1.length cwx) := ⟨K60.out.cell 7 0 rfl, K60.out.cell 7 1 rfl⟩
            refine wpAnyH_takeA (i := 11) (v := .int .i64 u2e) 21 rfl rfl (by kernel_rfl) (by kernel_rfl) (by kernel_rfl) (fun _ _ _ h => h) (.inl ⟨by rfl, fun W' hS => by obtain ⟨s0, s1⟩ := hS; go_simp⟩) hS0 ?_
            intro A' hA; simp at hA; subst hA
            clear hS0
            refine wpAnyH_done (by kernel_rfl) ?_ _
            go_wp2_with fail
            go_meet
            case rel => exact ⟨Bd, Ad, cd, rfl, K60⟩
        case rest =>
          clear H54
          obtain ⟨Bd, Ad, cd, rfl, Hrd⟩ := hcut
          generalize wc = Wrd at Hrd ⊢
          have q12 : Wrd.cell? ⟨Bx, 0, none⟩ = some (.slice Awx l1.length cwx) := Hrd.out.cell 6 0 rfl
          have q13 : Wrd.cell? ⟨Bx, 1, none⟩ = some (.slice Awx nwx cwx) := Hrd.out.cell 6 1 rfl
          have q14 : Wrd.cell? ⟨Bx, 2, none⟩ = some (.slice Arx nrx crx) := Hrd.out.cell 6 2 rfl
          go_wp2_with (go_at_call 28; refine HoldU.out ?_)
          refine ⟨?_⟩
          clear q12 q13 q14
          refine (overRows_calls Hrd.out (HX.out _) 2 3 4 (by decide) (by decide) (by decide) rfl rfl rfl (likeD_turn Tx Mx _) Awx l1.length cwx (HFx.out.big HB1.out).1 (HFx.out.big HB1.out).2.1 (HFx.out.big HB1.out).2.2).mono ?_
          rintro e W61 ⟨rfl, hs⟩
          have H62 : Aside0 (Sep w (fun _ => False) [fB Bf v1 (.slice A1 l1.length c1), fB B5 sv (.slice Au sl.length cu), .emp, .emp, .emp, (Asr.row (Kd.int .i64) 3 (.slice Ap np cp) (lentOf part)), xB Bx (.slice Awx l1.length cwx) (.slice Awx nwx cwx) (.slice Arx nrx crx), fB Bi v1 (.slice Awx l1.length cwx), sC (.slice Aw u1l.length cw) u1l, fB Bw u1v (.slice Aw u1l.length cw), (Asr.foot fun W => Kd.C (Kd.slice 3 (Kd.int .i64)) W Atf l1.length (l1.map (List.map negw))), sC (.slice Ao u2l.length co) u2l, fB Bo u2v (.slice Ao u2l.length co), sC (.slice Aa u1l.length ca) u1l, fB Ba u1v (.slice Aa u1l.length ca), sC (.slice Ab u1l.length cb) u1l, fB Bb u1v (.slice Ab u1l.length cb), sC (.slice Ac u2l.length cc) u2l, fB Bc u2v (.slice Ac u2l.length cc), sC (.slice Ad u2l.length cd) u2l, fB Bd u2v (.slice Ad u2l.length cd)] W61) := ⟨hs⟩
          clear Hrd
          clear hs
          go_wp2_with (go_at_call 55; refine HoldU.out ?_)
          refine ⟨?_⟩
          refine (over1_n H62.out 5 rfl (HX.out _) (by rw [lentOf_length]; have := HB2.out; omega)).mono ?_
          rintro e W63 ⟨rfl, hs⟩
          have H64 : Aside0 (Sep w (fun _ => False) [fB Bf v1 (.slice A1 l1.length c1), fB B5 sv (.slice Au sl.length cu), .emp, .emp, .emp, .emp, xB Bx (.slice Awx l1.length cwx) (.slice Awx nwx cwx) (.slice Arx nrx crx), fB Bi v1 (.slice Awx l1.length cwx), sC (.slice Aw u1l.length cw) u1l, fB Bw u1v (.slice Aw u1l.length cw), (Asr.foot fun W => Kd.C (Kd.slice 3 (Kd.int .i64)) W Atf l1.length (l1.map (List.map negw))), sC (.slice Ao u2l.length co) u2l, fB Bo u2v (.slice Ao u2l.length co), sC (.slice Aa u1l.length ca) u1l, fB Ba u1v (.slice Aa u1l.length ca), sC (.slice Ab u1l.length cb) u1l, fB Bb u1v (.slice Ab u1l.length cb), sC (.slice Ac u2l.length cc) u2l, fB Bc u2v (.slice Ac u2l.length cc), sC (.slice Ad u2l.length cd) u2l, fB Bd u2v (.slice Ad u2l.length cd)] W63) := ⟨hs⟩
          clear H62
          clear hs
          have q15 : W63.cell? ⟨Ba, 0, none⟩ = some (.int .i64 u1v) := H64.out.cell 14 0 rfl
          have q16 : W63.cell? ⟨Ba, 1, none⟩ = some (.slice Aa u1l.length ca) := H64.out.cell 14 1 rfl
          have q17 : W63.cell? ⟨Bw, 0, none⟩ = some (.int .i64 u1v) := H64.out.cell 9 0 rfl
          have q18 : W63.cell? ⟨Bw, 1, none⟩ = some (.slice Aw u1l.length cw) := H64.out.cell 9 1 rfl
          go_wp2_with (go_at_call 23; refine HoldU.out ?_)
          refine ⟨?_⟩
          refine (same_n u1v Aa Aw ca cw _ (Kd.S_reads' (H64.out.get 13 rfl)).2.2 (Kd.S_reads' (H64.out.get 13 rfl)).2.1 (Kd.S_reads' (H64.out.get 8 rfl)).2.2 (Kd.S_reads' (H64.out.get 8 rfl)).2.1 HM1.out).mono ?_
          rintro e W65 ⟨rfl, hb⟩
          have H66 : Aside0 (Sep w (fun _ => False) [fB Bf v1 (.slice A1 l1.length c1), fB B5 sv (.slice Au sl.length cu), .emp, .emp, .emp, .emp, xB Bx (.slice Awx l1.length cwx) (.slice Awx nwx cwx) (.slice Arx nrx crx), fB Bi v1 (.slice Awx l1.length cwx), sC (.slice Aw u1l.length cw) u1l, fB Bw u1v (.slice Aw u1l.length cw), (Asr.foot fun W => Kd.C (Kd.slice 3 (Kd.int .i64)) W Atf l1.length (l1.map (List.map negw))), sC (.slice Ao u2l.length co) u2l, fB Bo u2v (.slice Ao u2l.length co), sC (.slice Aa u1l.length ca) u1l, fB Ba u1v (.slice Aa u1l.length ca), sC (.slice Ab u1l.length cb) u1l, fB Bb u1v (.slice Ab u1l.length cb), sC (.slice Ac u2l.length cc) u2l, fB Bc u2v (.slice Ac u2l.length cc), sC (.slice Ad u2l.length cd) u2l, fB Bd u2v (.slice Ad u2l.length cd)] W65) := ⟨H64.out.keep hb⟩
          clear H64
          clear hb
          clear q15 q16 q17 q18
          have q19 : W65.cell? ⟨Bb, 0, none⟩ = some (.int .i64 u1v) := H66.out.cell 16 0 rfl
          have q20 : W65.cell? ⟨Bb, 1, none⟩ = some (.slice Ab u1l.length cb) := H66.out.cell 16 1 rfl
          have q21 : W65.cell? ⟨Bw, 0, none⟩ = some (.int .i64 u1v) := H66.out.cell 9 0 rfl
          have q22 : W65.cell? ⟨Bw, 1, none⟩ = some (.slice Aw u1l.length cw) := H66.out.cell 9 1 rfl
          go_wp2_with (go_at_call 23; refine HoldU.out ?_)
          refine ⟨?_⟩
          refine (same_n u1v Ab Aw cb cw _ (Kd.S_reads' (H66.out.get 15 rfl)).2.2 (Kd.S_reads' (H66.out.get 15 rfl)).2.1 (Kd.S_reads' (H66.out.get 8 rfl)).2.2 (Kd.S_reads' (H66.out.get 8 rfl)).2.1 HM1.out).mono ?_
          rintro e W67 ⟨rfl, hb⟩
          have H68 : Aside0 (Sep w (fun _ => False) [fB Bf v1 (.slice A1 l1.length c1), fB B5 sv (.slice Au sl.length cu), .emp, .emp, .emp, .emp, xB Bx (.slice Awx l1.length cwx) (.slice Awx nwx cwx) (.slice Arx nrx crx), fB Bi v1 (.slice Awx l1.length cwx), sC (.slice Aw u1l.length cw) u1l, fB Bw u1v (.slice Aw u1l.length cw), (Asr.foot fun W => Kd.C (Kd.slice 3 (Kd.int .i64)) W Atf l1.length (l1.map (List.map negw))), sC (.slice Ao u2l.length co) u2l, fB Bo u2v (.slice Ao u2l.length co), sC (.slice Aa u1l.length ca) u1l, fB Ba u1v (.slice Aa u1l.length ca), sC (.slice Ab u1l.length cb) u1l, fB Bb u1v (.slice Ab u1l.length cb), sC (.slice Ac u2l.length cc) u2l, fB Bc u2v (.slice Ac u2l.length cc), sC (.slice Ad u2l.length cd) u2l, fB Bd u2v (.slice Ad u2l.length cd)] W67) := ⟨H66.out.keep hb⟩
          clear H66
          clear hb
          clear q19 q20 q21 q22
          have q23 : W67.cell? ⟨Bc, 0, none⟩ = some (.int .i64 u2v) := H68.out.cell 18 0 rfl
          have q24 : W67.cell? ⟨Bc, 1, none⟩ = some (.slice Ac u2l.length cc) := H68.out.cell 18 1 rfl
          have q25 : W67.cell? ⟨Bo, 0, none⟩ = some (.int .i64 u2v) := H68.out.cell 12 0 rfl
          have q26 : W67.cell? ⟨Bo, 1, none⟩ = some (.slice Ao u2l.length co) := H68.out.cell 12 1 rfl
          go_wp2_with (go_at_call 23; refine HoldU.out ?_)
          refine ⟨?_⟩
          refine (same_n u2v Ac Ao cc co _ (Kd.S_reads' (H68.out.get 17 rfl)).2.2 (Kd.S_reads' (H68.out.get 17 rfl)).2.1 (Kd.S_reads' (H68.out.get 11 rfl)).2.2 (Kd.S_reads' (H68.out.get 11 rfl)).2.1 HM2.out).mono ?_
          rintro e W69 ⟨rfl, hb⟩
          have H70 : Aside0 (Sep w (fun _ => False) [fB Bf v1 (.slice A1 l1.length c1), fB B5 sv (.slice Au sl.length cu), .emp, .emp, .emp, .emp, xB Bx (.slice Awx l1.length cwx) (.slice Awx nwx cwx) (.slice Arx nrx crx), fB Bi v1 (.slice Awx l1.length cwx), sC (.slice Aw u1l.length cw) u1l, fB Bw u1v (.slice Aw u1l.length cw), (Asr.foot fun W => Kd.C (Kd.slice 3 (Kd.int .i64)) W Atf l1.length (l1.map (List.map negw))), sC (.slice Ao u2l.length co) u2l, fB Bo u2v (.slice Ao u2l.length co), sC (.slice Aa u1l.length ca) u1l, fB Ba u1v (.slice Aa u1l.length ca), sC (.slice Ab u1l.length cb) u1l, fB Bb u1v (.slice Ab u1l.length cb), sC (.slice Ac u2l.length cc) u2l, fB Bc u2v (.slice Ac u2l.length cc), sC (.slice Ad u2l.length cd) u2l, fB Bd u2v (.slice Ad u2l.length cd)] W69) := ⟨H68.out.keep hb⟩
          clear H68
          clear hb
          clear q23 q24 q25 q26
          have q27 : W69.cell? ⟨Bd, 0, none⟩ = some (.int .i64 u2v) := H70.out.cell 20 0 rfl
          have q28 : W69.cell? ⟨Bd, 1, none⟩ = some (.slice Ad u2l.length cd) := H70.out.cell 20 1 rfl
          have q29 : W69.cell? ⟨Bo, 0, none⟩ = some (.int .i64 u2v) := H70.out.cell 12 0 rfl
          have q30 : W69.cell? ⟨Bo, 1, none⟩ = some (.slice Ao u2l.length co) := H70.out.cell 12 1 rfl
          go_wp2_with (go_at_call 23; refine HoldU.out ?_)
          refine ⟨?_⟩
          refine (same_n u2v Ad Ao cd co _ (Kd.S_reads' (H70.out.get 19 rfl)).2.2 (Kd.S_reads' (H70.out.get 19 rfl)).2.1 (Kd.S_reads' (H70.out.get 11 rfl)).2.2 (Kd.S_reads' (H70.out.get 11 rfl)).2.1 HM2.out).mono ?_
          rintro e W71 ⟨rfl, hb⟩
          have H72 : Aside0 (Sep w (fun _ => False) [fB Bf v1 (.slice A1 l1.length c1), fB B5 sv (.slice Au sl.length cu), .emp, .emp, .emp, .emp, xB Bx (.slice Awx l1.length cwx) (.slice Awx nwx cwx) (.slice Arx nrx crx), fB Bi v1 (.slice Awx l1.length cwx), sC (.slice Aw u1l.length cw) u1l, fB Bw u1v (.slice Aw u1l.length cw), (Asr.foot fun W => Kd.C (Kd.slice 3 (Kd.int .i64)) W Atf l1.length (l1.map (List.map negw))), sC (.slice Ao u2l.length co) u2l, fB Bo u2v (.slice Ao u2l.length co), sC (.slice Aa u1l.length ca) u1l, fB Ba u1v (.slice Aa u1l.length ca), sC (.slice Ab u1l.length cb) u1l, fB Bb u1v (.slice Ab u1l.length cb), sC (.slice Ac u2l.length cc) u2l, fB Bc u2v (.slice Ac u2l.length cc), sC (.slice Ad u2l.length cd) u2l, fB Bd u2v (.slice Ad u2l.length cd)] W71) := ⟨H70.out.keep hb⟩
          clear H70
          clear hb
          clear q27 q28 q29 q30
          have q31 : W71.cell? ⟨Ba, 0, none⟩ = some (.int .i64 u1v) := H72.out.cell 14 0 rfl
          have q32 : W71.cell? ⟨Ba, 1, none⟩ = some (.slice Aa u1l.length ca) := H72.out.cell 14 1 rfl
          have q33 : W71.cell? ⟨Bb, 0, none⟩ = some (.int .i64 u1v) := H72.out.cell 16 0 rfl
          have q34 : W71.cell? ⟨Bb, 1, none⟩ = some (.slice Ab u1l.length cb) := H72.out.cell 16 1 rfl
          have q35 : W71.cell? ⟨Bc, 0, none⟩ = some (.int .i64 u2v) := H72.out.cell 18 0 rfl
          have q36 : W71.cell? ⟨Bc, 1, none⟩ = some (.slice Ac u2l.length cc) := H72.out.cell 18 1 rfl
          have q37 : W71.cell? ⟨Bd, 0, none⟩ = some (.int .i64 u2v) := H72.out.cell 20 0 rfl
          have q38 : W71.cell? ⟨Bd, 1, none⟩ = some (.slice Ad u2l.length cd) := H72.out.cell 20 1 rfl
          obtain ⟨okj, hok, hdis, hrng⟩ := H72.out.fam
          have HD5 := Aside0.mk hdis
          have HG5 := Aside0.mk hrng
          have hal := below_alloc (Below.refl W71.heap.size W71) (.cells #[.int .i64 u1v, .slice Aa u1l.length ca, .int .i64 u1v, .slice Ab u1l.length cb, .int .i64 u2v, .slice Ac u2l.length cc, .int .i64 u2v, .slice Ad u2l.length cd] 24 (0, 0))
          have HAP : Aside0 (Calls Try.prog 29 #[.slice (some ⟨W71.heap.size, 0, none⟩) 4 4] (W71.alloc (.cells #[.int .i64 u1v, .slice Aa u1l.length ca, .int .i64 u1v, .slice Ab u1l.length cb, .int .i64 u2v, .slice Ac u2l.length cc, .int .i64 u2v, .slice Ad u2l.length cd] 24)) fun e w' => e = .returned (.bool true) ∧ Grow (fun b => ∃ j, okj ([13, 15, 17, 19].getD j 0) b ∧ j < 4) (W71.alloc (.cells #[.int .i64 u1v, .slice Aa u1l.length ca, .int .i64 u1v, .slice Ab u1l.length cb, .int .i64 u2v, .slice Ac u2l.length cc, .int .i64 u2v, .slice Ad u2l.length cd] 24)) w') := ⟨by
            have hmem : ∀ x ∈ ([(.slice Aa u1l.length ca, u1v, u1l), (.slice Ab u1l.length cb, u1v, u1l), (.slice Ac u2l.length cc, u2v, u2l), (.slice Ad u2l.length cd, u2v, u2l)] : List (Value × Int × List (List Int))).map fun r => r.2.2, Sm x := fun x hx => by
              simp only [List.map_cons, List.map_nil, List.mem_cons, List.not_mem_nil, or_false] at hx
              rcases hx with rfl | rfl | rfl | rfl
              · exact HM1.out
              · exact HM1.out
              · exact HM2.out
              · exact HM2.out
            refine apartFormulas_calls W71.heap.size 4 [(.slice Aa u1l.length ca, u1v, u1l), (.slice Ab u1l.length cb, u1v, u1l), (.slice Ac u2l.length cc, u2v, u2l), (.slice Ad u2l.length cd, u2v, u2l)] (fun j b => okj ([13, 15, 17, 19].getD j 0) b ∧ j < 4) _ (fun q r hq => ?_) (fun i j b h1 h2 => ?_) (fun j b h => ?_) (Nat.le_refl _) (show 4 ≤ 1099511627776 by decide) (fun r hr => Nat.le_trans (hmem _ (List.mem_map_of_mem hr)).n (by decide)) (fun x hx => ?_) ?_
            · have hcell : ∀ i, (W71.alloc (.cells #[.int .i64 u1v, .slice Aa u1l.length ca, .int .i64 u1v, .slice Ab u1l.length cb, .int .i64 u2v, .slice Ac u2l.length cc, .int .i64 u2v, .slice Ad u2l.length cd] 24)).cell? ⟨W71.heap.size, i, none⟩ = (#[.int .i64 u1v, .slice Aa u1l.length ca, .int .i64 u1v, .slice Ab u1l.length cb, .int .i64 u2v, .slice Ac u2l.length cc, .int .i64 u2v, .slice Ad u2l.length cd] : Array Value)[i]? := fun i => blk_cell (World.alloc_heap_new W71 _) i
              rw [hcell]
              rcases q with _ | _ | _ | _ | q
              · injection hq with hq; subst hq; exact ⟨rfl, Kd.S_step (Kd.S_mono (hok 13 _ rfl) fun b hb => ⟨hb, by decide⟩) fun b hb hlt => hal.block b hlt⟩
              · injection hq with hq; subst hq; exact ⟨rfl, Kd.S_step (Kd.S_mono (hok 15 _ rfl) fun b hb => ⟨hb, by decide⟩) fun b hb hlt => hal.block b hlt⟩
              · injection hq with hq; subst hq; exact ⟨rfl, Kd.S_step (Kd.S_mono (hok 17 _ rfl) fun b hb => ⟨hb, by decide⟩) fun b hb hlt => hal.block b hlt⟩
              · injection hq with hq; subst hq; exact ⟨rfl, Kd.S_step (Kd.S_mono (hok 19 _ rfl) fun b hb => ⟨hb, by decide⟩) fun b hb hlt => hal.block b hlt⟩
              · simp at hq
            · have h3 := hdis _ _ b h1.1 h2.1
              have h4 := h1.2
              have h5 := h2.2
              rcases i with _ | _ | _ | _ | i <;> rcases j with _ | _ | _ | _ | j <;> first | rfl | omega | (exfalso; revert h3; decide)
            · exact Nat.lt_of_lt_of_le (hrng _ b h.1).2.2 hal.size
            · obtain ⟨y, hy, hx⟩ := List.mem_flatten.1 hx; exact (hmem y hy).s x hx
            · have n0 := HM1.out.n
              have n1 := HM2.out.n
              simp only [List.map_cons, List.map_nil, List.flatten_cons, List.flatten_nil, List.length_append, List.length_nil]
              omega⟩
          clear hok hdis hrng hal
          go_wp2_with (go_at_call 29; refine HoldU.out ?_)
          refine ⟨?_⟩
          clear q31 q32 q33 q34 q35 q36 q37 q38
          refine (HAP.out).mono ?_
          rintro e Wz ⟨rfl, hg⟩
          have HE : Aside0 (Below w.heap.size w Wz) := ⟨by
            have h1 := H72.out.hB
            have h2 := below_alloc h1 (.cells #[.int .i64 u1v, .slice Aa u1l.length ca, .int .i64 u1v, .slice Ab u1l.length cb, .int .i64 u2v, .slice Ac u2l.length cc, .int .i64 u2v, .slice Ad u2l.length cd] 24 (0, 0))
            exact h2.trans (hg.below h2.size fun b ⟨j, hb, _⟩ => (HG5.out _ b hb).1)⟩
          clear hg HAP
          go_wp2_with fail
          go_ret
          exact ⟨rfl, HE.out⟩
end Go.Proofs.YtggnnnddnppcpaaHand
