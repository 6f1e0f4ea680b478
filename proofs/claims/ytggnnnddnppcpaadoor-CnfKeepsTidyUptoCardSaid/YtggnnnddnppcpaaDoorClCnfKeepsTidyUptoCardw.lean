/- CnfKeepsTidyUptoSaid: for every input the law CnfKeepsTidy returns true, and what came in reads as before. Condition: what comes in is of bulk at most 1048576. Written by row.py. -/
import Derived.Test.YtggnnnddnppcpaaDoorClCnfKeepsTidyUptoCardv
import Derived.Test.YtggnnnddnppcpaaDoorClCnfKeepsTidyUptoCardl
import Derived.Test.YtggnnnddnppcpaaDoorClCnfKeepsTidyUptoCardk
import Derived.Test.YtggnnnddnppcpaaDoorCards
import Derived.Test.YtggnnnddnppcpaaDoorTie
import Derived.Deep.DeepHandedRow
import Derived.Lib.LaidTab
import Derived.Stop.LaidErr
import Derived.SevenTiedAt
import Derived.LaidMore
import Derived.Test.YtggnnnddnppcpaaDoorRows
import Derived.WalkKit
import Derived.ProofKit
import Derived.OpenShut
import Derived.ShutString
import Derived.ChangeOld
import Derived.Below
import Derived.SizedLaws
import Derived.Lib.SmallJoins
import Derived.JoinedCond
import Derived.Deep.CondSized
/-! text YtggnnnddnppcpaaDoorKt -/
namespace Go.Proofs.YtggnnnddnppcpaaDoorHand
open Go.RowKit Go.Proofs.YtggnnnddnppcpaaDoorW.PrintWords Go.Proofs.YtggnnnddnppcpaaDoorW.PrintLast Go.Proofs.YtggnnnddnppcpaaDoorMath Go.Proofs.YtggnnnddnppcpaaDoorOwn Go.Proofs.YtggnnnddnppcpaaDoor.PCnfKeepsTidy
set_option linter.unusedVariables false
set_option linter.unusedSimpArgs false

set_option maxHeartbeats 16000000 in
set_option maxRecDepth 100000 in
theorem kt_calls (v1 : Int) (A1 : Option Addr) (c1 : Nat) (l1 : List (List Int)) (w : World) (hr1 : Kd.C kC w A1 l1.length l1) (hc1 : l1.length ≤ c1)
    (hb1 : l1.length ≤ 1048576 ∧ ∀ x ∈ l1, x.length ≤ 1099511627776) (htab : Tab w) :
    Calls Tryd.prog 3 #[.agg #[.int .i64 v1, .slice A1 l1.length c1]] w fun e w' => e = .returned (.bool true) ∧ Below w.heap.size w w' := by
  obtain ⟨⟨u1v, u1l, u1e⟩, hU1⟩ : ∃ J, tidiedOf v1 l1 = J := ⟨_, rfl⟩
  obtain ⟨⟨u2v, u2l, u2e⟩, hU2⟩ : ∃ J, tidiedOf v1 (l1.map (List.map negw)) = J := ⟨_, rfl⟩
  obtain ⟨⟨sv, sl, se⟩, hSU⟩ : ∃ J, tidiedOf 2 [[1, 2], [-1]] = J := ⟨_, rfl⟩
  obtain rfl : se = 0 := by have h := small_tidied; rw [hSU] at h; exact h
  have HM1 : Aside0 (Sm u1l) := ⟨by have h := tidiedOf_sm (v := v1) hb1; rw [hU1] at h; exact h⟩
  have HM2 : Aside0 (Sm u2l) := ⟨by have h := tidiedOf_sm (v := v1) (neg_sm hb1); rw [hU2] at h; exact h⟩
  have HU1 := Aside0.mk hU1
  have HU2 := Aside0.mk hU2
  have HSU := Aside0.mk hSU
  have HTB := Aside0.mk htab
  have HR1 := Aside0.mk hr1
  have HC := Aside0.mk hc1
  have HB1 := Aside0.mk hb1
  clear hr1 hc1 hb1 hU1 hU2 hSU htab
  have HX : Aside0 (∀ (W : World) b, (fun _ : Nat => False) b → b < W.heap.size) := ⟨fun _ _ h => h.elim⟩
  have H0 : Aside0 (Sep w (fun _ => False) [] w) := ⟨Sep.start (Below.refl _ _) _⟩
  have hN := H0.out.new (HX.out _) (.cells #[.int .i64 v1, .slice A1 l1.length c1] 24 (0, 0))
  obtain ⟨Bf, hBf⟩ : ∃ q, q = w.heap.size := ⟨_, rfl⟩
  rw [← hBf] at hN
  have HBB := Aside0.mk hBf
  clear hBf
  obtain ⟨V0, hV0⟩ : ∃ V, V = w.alloc (.cells #[.int .i64 v1, .slice A1 l1.length c1] 24 (0, 0)) := ⟨_, rfl⟩
  rw [← hV0] at hN
  have HV0 := Aside0.mk hV0
  have H1 : Aside0 (Sep w (fun _ => False) [fB Bf v1 (.slice A1 l1.length c1)] V0) := ⟨hN⟩
  clear H0
  clear hN hV0
  go_enter Tryd.func3, Tryd.ntmps3
  go_wp2_with (go_at_call 7; refine HoldU.out ?_)
  refine ⟨?_⟩
  rw [← HV0.out, ← HBB.out]
  refine (small_c _).mono ?_
  rintro e W2 ⟨As, cs, rfl, hC, hc, hb⟩
  have HS1 := Aside0.mk (And.intro hC hc)
  have H3 : Aside0 (Sep w (fun _ => False) [fB Bf v1 (.slice A1 l1.length c1)] W2) := ⟨H1.out.keep hb⟩
  clear H1
  clear hC hc hb HV0 HBB
  go_wp2_with (go_at_call 6; refine HoldU.out ?_)
  refine ⟨?_⟩
  refine (tidied_n (v := 2) (l := [[1, 2], [-1]]) HSU.out rfl As cs _ HS1.out.1 HS1.out.2 ⟨by decide, by decide⟩ (HTB.out.on H3.out.hB)).mono ?_
  rintro e W4 ⟨Au, cu, rfl, _, hb⟩
  have H5 : Aside0 (Sep w (fun _ => False) [fB Bf v1 (.slice A1 l1.length c1)] W4) := ⟨H3.out.keep hb⟩
  clear H3
  clear hb HS1
  go_upto_region 4 with fail
  have hp := H5.out.new (HX.out _) (.cells #[.int .i64 sv, .slice Au sl.length cu] 24 (0, 0))
  generalize W4.alloc (.cells #[.int .i64 sv, .slice Au sl.length cu] 24) = W6 at hp ⊢
  generalize W4.heap.size = B5 at hp ⊢
  have H7 : Aside0 (Sep w (fun _ => False) [fB Bf v1 (.slice A1 l1.length c1), fB B5 sv (.slice Au sl.length cu)] W6) := ⟨hp⟩
  clear H5
  clear hp
  have q0 : W6.cell? ⟨Bf, 1, none⟩ = some (.slice A1 l1.length c1) := H7.out.cell 0 1 rfl
  go_wp2_with (go_at_call 8; refine HoldU.out ?_)
  refine ⟨?_⟩
  clear q0
  refine (lent_n A1 c1 l1 _ (Kd.C_below HR1.out H7.out.hB) HC.out HB1.out).mono ?_
  rintro e W8 ⟨Awx, Arx, cwx, crx, nwx, nrx, Tx, Mx, rfl, hF, hs⟩
  have HFx := Aside0.mk hF
  have H9 : Aside0 (Sep w (fun _ => False) [fB Bf v1 (.slice A1 l1.length c1), fB B5 sv (.slice Au sl.length cu), headA (.slice Awx nwx cwx) ((Tx ++ Mx).map LRow.shown), headA (.slice Arx nrx crx) (Tx.map LRow.all), dataA (Tx ++ Mx)] W8) := ⟨H7.out.append hs (HX.out _)⟩
  clear H7
  clear hF hs
  go_upto_region 5 with fail
  have hp := H9.out.new (HX.out _) (.cells #[.slice Awx l1.length cwx, .slice Awx nwx cwx, .slice Arx nrx crx] 30 (0, 0))
  generalize W8.alloc (.cells #[.slice Awx l1.length cwx, .slice Awx nwx cwx, .slice Arx nrx crx] 30) = W10 at hp ⊢
  generalize W8.heap.size = Bx at hp ⊢
  have H11 : Aside0 (Sep w (fun _ => False) [fB Bf v1 (.slice A1 l1.length c1), fB B5 sv (.slice Au sl.length cu), headA (.slice Awx nwx cwx) ((Tx ++ Mx).map LRow.shown), headA (.slice Arx nrx crx) (Tx.map LRow.all), dataA (Tx ++ Mx), xB Bx (.slice Awx l1.length cwx) (.slice Awx nwx cwx) (.slice Arx nrx crx)] W10) := ⟨hp⟩
  clear H9
  clear hp
  have q1 : W10.cell? ⟨Bf, 0, none⟩ = some (.int .i64 v1) := H11.out.cell 0 0 rfl
  have q2 : W10.cell? ⟨Bx, 0, none⟩ = some (.slice Awx l1.length cwx) := H11.out.cell 5 0 rfl
  go_upto_region 6 with fail
  clear q1 q2
  have hp := H11.out.new (HX.out _) (.cells #[.int .i64 v1, .slice Awx l1.length cwx] 24 (0, 0))
  generalize W10.alloc (.cells #[.int .i64 v1, .slice Awx l1.length cwx] 24) = W12 at hp ⊢
  generalize W10.heap.size = Bi at hp ⊢
  have H13 : Aside0 (Sep w (fun _ => False) [fB Bf v1 (.slice A1 l1.length c1), fB B5 sv (.slice Au sl.length cu), headA (.slice Awx nwx cwx) ((Tx ++ Mx).map LRow.shown), headA (.slice Arx nrx crx) (Tx.map LRow.all), dataA (Tx ++ Mx), xB Bx (.slice Awx l1.length cwx) (.slice Awx nwx cwx) (.slice Arx nrx crx), fB Bi v1 (.slice Awx l1.length cwx)] W12) := ⟨hp⟩
  clear H11
  clear hp
  have q3 : W12.cell? ⟨Bf, 0, none⟩ = some (.int .i64 v1) := H13.out.cell 0 0 rfl
  have q4 : W12.cell? ⟨Bf, 1, none⟩ = some (.slice A1 l1.length c1) := H13.out.cell 0 1 rfl
  go_wp2_with (go_at_call 9; refine HoldU.out ?_)
  refine ⟨?_⟩
  clear q3 q4
  refine (refTidy_n HU1.out rfl A1 c1 _ (Kd.C_below HR1.out H13.out.hB) HC.out HB1.out).mono ?_
  rintro e W14 ⟨Aw, cw, rfl, hS, hb⟩
  have H15 : Aside0 (Sep w (fun _ => False) [fB Bf v1 (.slice A1 l1.length c1), fB B5 sv (.slice Au sl.length cu), headA (.slice Awx nwx cwx) ((Tx ++ Mx).map LRow.shown), headA (.slice Arx nrx crx) (Tx.map LRow.all), dataA (Tx ++ Mx), xB Bx (.slice Awx l1.length cwx) (.slice Awx nwx cwx) (.slice Arx nrx crx), fB Bi v1 (.slice Awx l1.length cwx), sC (.slice Aw u1l.length cw) u1l] W14) := ⟨H13.out.push hb (HX.out _) hS⟩
  clear H13
  clear hS hb
  go_upto_region 7 with fail
  have hp := H15.out.new (HX.out _) (.cells #[.int .i64 u1v, .slice Aw u1l.length cw] 24 (0, 0))
  generalize W14.alloc (.cells #[.int .i64 u1v, .slice Aw u1l.length cw] 24) = W16 at hp ⊢
  generalize W14.heap.size = Bw at hp ⊢
  have H17 : Aside0 (Sep w (fun _ => False) [fB Bf v1 (.slice A1 l1.length c1), fB B5 sv (.slice Au sl.length cu), headA (.slice Awx nwx cwx) ((Tx ++ Mx).map LRow.shown), headA (.slice Arx nrx crx) (Tx.map LRow.all), dataA (Tx ++ Mx), xB Bx (.slice Awx l1.length cwx) (.slice Awx nwx cwx) (.slice Arx nrx crx), fB Bi v1 (.slice Awx l1.length cwx), sC (.slice Aw u1l.length cw) u1l, fB Bw u1v (.slice Aw u1l.length cw)] W16) := ⟨hp⟩
  clear H15
  clear hp
  have q5 : W16.cell? ⟨Bf, 0, none⟩ = some (.int .i64 v1) := H17.out.cell 0 0 rfl
  have q6 : W16.cell? ⟨Bf, 1, none⟩ = some (.slice A1 l1.length c1) := H17.out.cell 0 1 rfl
  go_wp2_with (go_at_call 10; refine HoldU.out ?_)
  refine ⟨?_⟩
  clear q5 q6
  refine (turned_calls v1 A1 c1 l1 _ (Kd.C_below HR1.out H17.out.hB) HC.out (Nat.le_trans HB1.out.1 (by decide)) HB1.out.2).mono ?_
  rintro e W18 ⟨Atf, ctf, rfl, hC, hc, hb⟩
  have HCT := Aside0.mk hc
  have H19 : Aside0 (Sep w (fun _ => False) [fB Bf v1 (.slice A1 l1.length c1), fB B5 sv (.slice Au sl.length cu), headA (.slice Awx nwx cwx) ((Tx ++ Mx).map LRow.shown), headA (.slice Arx nrx crx) (Tx.map LRow.all), dataA (Tx ++ Mx), xB Bx (.slice Awx l1.length cwx) (.slice Awx nwx cwx) (.slice Arx nrx crx), fB Bi v1 (.slice Awx l1.length cwx), sC (.slice Aw u1l.length cw) u1l, fB Bw u1v (.slice Aw u1l.length cw), (Asr.foot fun W => Kd.C (Kd.slice 3 (Kd.int .i64)) W Atf l1.length (l1.map (List.map negw)))] W18) := ⟨H17.out.push hb (HX.out _) hC⟩
  clear H17
  clear hC hc hb
  go_wp2_with (go_at_call 9; refine HoldU.out ?_)
  refine ⟨?_⟩
  refine (refTidy_n HU2.out (List.length_map _).symm Atf ctf _ (foot_now (H19.out.get 9 rfl)) HCT.out (neg_sm HB1.out)).mono ?_
  rintro e W20 ⟨Ao, co, rfl, hS, hb⟩
  have H21 : Aside0 (Sep w (fun _ => False) [fB Bf v1 (.slice A1 l1.length c1), fB B5 sv (.slice Au sl.length cu), headA (.slice Awx nwx cwx) ((Tx ++ Mx).map LRow.shown), headA (.slice Arx nrx crx) (Tx.map LRow.all), dataA (Tx ++ Mx), xB Bx (.slice Awx l1.length cwx) (.slice Awx nwx cwx) (.slice Arx nrx crx), fB Bi v1 (.slice Awx l1.length cwx), sC (.slice Aw u1l.length cw) u1l, fB Bw u1v (.slice Aw u1l.length cw), (Asr.foot fun W => Kd.C (Kd.slice 3 (Kd.int .i64)) W Atf l1.length (l1.map (List.map negw))), sC (.slice Ao u2l.length co) u2l] W20) := ⟨H19.out.push hb (HX.out _) hS⟩
  clear H19
  clear hS hb
  go_upto_region 8 with fail
  have hp := H21.out.new (HX.out _) (.cells #[.int .i64 u2v, .slice Ao u2l.length co] 24 (0, 0))
  generalize W20.alloc (.cells #[.int .i64 u2v, .slice Ao u2l.length co] 24) = W22 at hp ⊢
  generalize W20.heap.size = Bo at hp ⊢
  have H23 : Aside0 (Sep w (fun _ => False) [fB Bf v1 (.slice A1 l1.length c1), fB B5 sv (.slice Au sl.length cu), headA (.slice Awx nwx cwx) ((Tx ++ Mx).map LRow.shown), headA (.slice Arx nrx crx) (Tx.map LRow.all), dataA (Tx ++ Mx), xB Bx (.slice Awx l1.length cwx) (.slice Awx nwx cwx) (.slice Arx nrx crx), fB Bi v1 (.slice Awx l1.length cwx), sC (.slice Aw u1l.length cw) u1l, fB Bw u1v (.slice Aw u1l.length cw), (Asr.foot fun W => Kd.C (Kd.slice 3 (Kd.int .i64)) W Atf l1.length (l1.map (List.map negw))), sC (.slice Ao u2l.length co) u2l, fB Bo u2v (.slice Ao u2l.length co)] W22) := ⟨hp⟩
  clear H21
  clear hp
  have q7 : W22.cell? ⟨Bi, 0, none⟩ = some (.int .i64 v1) := H23.out.cell 6 0 rfl
  have q8 : W22.cell? ⟨Bi, 1, none⟩ = some (.slice Awx l1.length cwx) := H23.out.cell 6 1 rfl
  go_wp2_with (go_at_call 6; refine HoldU.out ?_)
  refine ⟨?_⟩
  clear q7 q8
  refine (tidied_n HU1.out rfl Awx cwx _ (HFx.out.C H23.out 2 4 rfl rfl).1 (HFx.out.C H23.out 2 4 rfl rfl).2 HB1.out (HTB.out.on H23.out.hB)).mono ?_
  rintro e W24 ⟨Aa, ca, rfl, hS, hb⟩
  have H25 : Aside0 (Sep w (fun _ => False) [fB Bf v1 (.slice A1 l1.length c1), fB B5 sv (.slice Au sl.length cu), headA (.slice Awx nwx cwx) ((Tx ++ Mx).map LRow.shown), headA (.slice Arx nrx crx) (Tx.map LRow.all), dataA (Tx ++ Mx), xB Bx (.slice Awx l1.length cwx) (.slice Awx nwx cwx) (.slice Arx nrx crx), fB Bi v1 (.slice Awx l1.length cwx), sC (.slice Aw u1l.length cw) u1l, fB Bw u1v (.slice Aw u1l.length cw), (Asr.foot fun W => Kd.C (Kd.slice 3 (Kd.int .i64)) W Atf l1.length (l1.map (List.map negw))), sC (.slice Ao u2l.length co) u2l, fB Bo u2v (.slice Ao u2l.length co), sC (.slice Aa u1l.length ca) u1l] W24) := ⟨H23.out.push hb (HX.out _) hS⟩
  clear H23
  clear hS hb
  go_upto_region 9 with fail
  have hp := H25.out.new (HX.out _) (.cells #[.int .i64 u1v, .slice Aa u1l.length ca] 24 (0, 0))
  generalize W24.alloc (.cells #[.int .i64 u1v, .slice Aa u1l.length ca] 24) = W26 at hp ⊢
  generalize W24.heap.size = Ba at hp ⊢
  have H27 : Aside0 (Sep w (fun _ => False) [fB Bf v1 (.slice A1 l1.length c1), fB B5 sv (.slice Au sl.length cu), headA (.slice Awx nwx cwx) ((Tx ++ Mx).map LRow.shown), headA (.slice Arx nrx crx) (Tx.map LRow.all), dataA (Tx ++ Mx), xB Bx (.slice Awx l1.length cwx) (.slice Awx nwx cwx) (.slice Arx nrx crx), fB Bi v1 (.slice Awx l1.length cwx), sC (.slice Aw u1l.length cw) u1l, fB Bw u1v (.slice Aw u1l.length cw), (Asr.foot fun W => Kd.C (Kd.slice 3 (Kd.int .i64)) W Atf l1.length (l1.map (List.map negw))), sC (.slice Ao u2l.length co) u2l, fB Bo u2v (.slice Ao u2l.length co), sC (.slice Aa u1l.length ca) u1l, fB Ba u1v (.slice Aa u1l.length ca)] W26) := ⟨hp⟩
  clear H25
  clear hp
  have q9 : W26.cell? ⟨Bi, 0, none⟩ = some (.int .i64 v1) := H27.out.cell 6 0 rfl
  have q10 : W26.cell? ⟨Bi, 1, none⟩ = some (.slice Awx l1.length cwx) := H27.out.cell 6 1 rfl
  go_wp2_with (go_at_call 6; refine HoldU.out ?_)
  refine ⟨?_⟩
  clear q9 q10
  refine (tidied_n HU1.out rfl Awx cwx _ (HFx.out.C H27.out 2 4 rfl rfl).1 (HFx.out.C H27.out 2 4 rfl rfl).2 HB1.out (HTB.out.on H27.out.hB)).mono ?_
  rintro e W28 ⟨Ab, cb, rfl, hS, hb⟩
  have H29 : Aside0 (Sep w (fun _ => False) [fB Bf v1 (.slice A1 l1.length c1), fB B5 sv (.slice Au sl.length cu), headA (.slice Awx nwx cwx) ((Tx ++ Mx).map LRow.shown), headA (.slice Arx nrx crx) (Tx.map LRow.all), dataA (Tx ++ Mx), xB Bx (.slice Awx l1.length cwx) (.slice Awx nwx cwx) (.slice Arx nrx crx), fB Bi v1 (.slice Awx l1.length cwx), sC (.slice Aw u1l.length cw) u1l, fB Bw u1v (.slice Aw u1l.length cw), (Asr.foot fun W => Kd.C (Kd.slice 3 (Kd.int .i64)) W Atf l1.length (l1.map (List.map negw))), sC (.slice Ao u2l.length co) u2l, fB Bo u2v (.slice Ao u2l.length co), sC (.slice Aa u1l.length ca) u1l, fB Ba u1v (.slice Aa u1l.length ca), sC (.slice Ab u1l.length cb) u1l] W28) := ⟨H27.out.push hb (HX.out _) hS⟩
  clear H27
  clear hS hb
  go_upto_region 10 with fail
  have hp := H29.out.new (HX.out _) (.cells #[.int .i64 u1v, .slice Ab u1l.length cb] 24 (0, 0))
  generalize W28.alloc (.cells #[.int .i64 u1v, .slice Ab u1l.length cb] 24) = W30 at hp ⊢
  generalize W28.heap.size = Bb at hp ⊢
  have H31 : Aside0 (Sep w (fun _ => False) [fB Bf v1 (.slice A1 l1.length c1), fB B5 sv (.slice Au sl.length cu), headA (.slice Awx nwx cwx) ((Tx ++ Mx).map LRow.shown), headA (.slice Arx nrx crx) (Tx.map LRow.all), dataA (Tx ++ Mx), xB Bx (.slice Awx l1.length cwx) (.slice Awx nwx cwx) (.slice Arx nrx crx), fB Bi v1 (.slice Awx l1.length cwx), sC (.slice Aw u1l.length cw) u1l, fB Bw u1v (.slice Aw u1l.length cw), (Asr.foot fun W => Kd.C (Kd.slice 3 (Kd.int .i64)) W Atf l1.length (l1.map (List.map negw))), sC (.slice Ao u2l.length co) u2l, fB Bo u2v (.slice Ao u2l.length co), sC (.slice Aa u1l.length ca) u1l, fB Ba u1v (.slice Aa u1l.length ca), sC (.slice Ab u1l.length cb) u1l, fB Bb u1v (.slice Ab u1l.length cb)] W30) := ⟨hp⟩
  clear H29
  clear hp
  have q11 : W30.cell? ⟨Bx, 0, none⟩ = some (.slice Awx l1.length cwx) := H31.out.cell 5 0 rfl
  have q12 : W30.cell? ⟨Bx, 1, none⟩ = some (.slice Awx nwx cwx) := H31.out.cell 5 1 rfl
  have q13 : W30.cell? ⟨Bx, 2, none⟩ = some (.slice Arx nrx crx) := H31.out.cell 5 2 rfl
  have q14 : W30.cell? ⟨Bf, 1, none⟩ = some (.slice A1 l1.length c1) := H31.out.cell 0 1 rfl
  go_wp2_with (go_at_call 11; refine HoldU.out ?_)
  refine ⟨?_⟩
  clear q11 q12 q13 q14
  refine (HFx.out.kept H31.out 2 3 4 rfl rfl rfl (Kd.C_below HR1.out H31.out.hB) HC.out HB1.out).mono ?_
  rintro e W32 ⟨rfl, hb⟩
  have H33 : Aside0 (Sep w (fun _ => False) [fB Bf v1 (.slice A1 l1.length c1), fB B5 sv (.slice Au sl.length cu), headA (.slice Awx nwx cwx) ((Tx ++ Mx).map LRow.shown), headA (.slice Arx nrx crx) (Tx.map LRow.all), dataA (Tx ++ Mx), xB Bx (.slice Awx l1.length cwx) (.slice Awx nwx cwx) (.slice Arx nrx crx), fB Bi v1 (.slice Awx l1.length cwx), sC (.slice Aw u1l.length cw) u1l, fB Bw u1v (.slice Aw u1l.length cw), (Asr.foot fun W => Kd.C (Kd.slice 3 (Kd.int .i64)) W Atf l1.length (l1.map (List.map negw))), sC (.slice Ao u2l.length co) u2l, fB Bo u2v (.slice Ao u2l.length co), sC (.slice Aa u1l.length ca) u1l, fB Ba u1v (.slice Aa u1l.length ca), sC (.slice Ab u1l.length cb) u1l, fB Bb u1v (.slice Ab u1l.length cb)] W32) := ⟨H31.out.keep hb⟩
  clear H31
  clear hb
  have q15 : W32.cell? ⟨Bx, 0, none⟩ = some (.slice Awx l1.length cwx) := H33.out.cell 5 0 rfl
  go_wp2_with (go_at_call 12; refine HoldU.out ?_)
  refine ⟨?_⟩
  clear q15
  have HKK := Aside0.mk (data_k H33.out 4 rfl)
  refine (turn_calls H33.out (HX.out _) 2 4 (by decide) rfl rfl l1.length HFx.out.le ⟨Nat.le_trans HB1.out.1 (by decide), HFx.out.ks H33.out 4 rfl HB1.out⟩).mono ?_
  rintro e W34 ⟨rfl, hs⟩
  have H35 : Aside0 (Sep w (fun _ => False) [fB Bf v1 (.slice A1 l1.length c1), fB B5 sv (.slice Au sl.length cu), headA (.slice Awx nwx cwx) ((Tx ++ Mx).map LRow.shown), headA (.slice Arx nrx crx) (Tx.map LRow.all), dataA (turnAt l1.length 0 (Tx ++ Mx)), xB Bx (.slice Awx l1.length cwx) (.slice Awx nwx cwx) (.slice Arx nrx crx), fB Bi v1 (.slice Awx l1.length cwx), sC (.slice Aw u1l.length cw) u1l, fB Bw u1v (.slice Aw u1l.length cw), (Asr.foot fun W => Kd.C (Kd.slice 3 (Kd.int .i64)) W Atf l1.length (l1.map (List.map negw))), sC (.slice Ao u2l.length co) u2l, fB Bo u2v (.slice Ao u2l.length co), sC (.slice Aa u1l.length ca) u1l, fB Ba u1v (.slice Aa u1l.length ca), sC (.slice Ab u1l.length cb) u1l, fB Bb u1v (.slice Ab u1l.length cb)] W34) := ⟨hs⟩
  clear H33
  clear hs
  have q16 : W34.cell? ⟨Bi, 0, none⟩ = some (.int .i64 v1) := H35.out.cell 6 0 rfl
  have q17 : W34.cell? ⟨Bi, 1, none⟩ = some (.slice Awx l1.length cwx) := H35.out.cell 6 1 rfl
  go_wp2_with (go_at_call 6; refine HoldU.out ?_)
  refine ⟨?_⟩
  clear q16 q17
  refine (tidied_n HU2.out (List.length_map _).symm Awx cwx _ (HFx.out.CT H35.out 2 4 rfl rfl HKK.out).1 (HFx.out.CT H35.out 2 4 rfl rfl HKK.out).2 (neg_sm HB1.out) (HTB.out.on H35.out.hB)).mono ?_
  rintro e W36 ⟨Ac, cc, rfl, hS, hb⟩
  have H37 : Aside0 (Sep w (fun _ => False) [fB Bf v1 (.slice A1 l1.length c1), fB B5 sv (.slice Au sl.length cu), headA (.slice Awx nwx cwx) ((Tx ++ Mx).map LRow.shown), headA (.slice Arx nrx crx) (Tx.map LRow.all), dataA (turnAt l1.length 0 (Tx ++ Mx)), xB Bx (.slice Awx l1.length cwx) (.slice Awx nwx cwx) (.slice Arx nrx crx), fB Bi v1 (.slice Awx l1.length cwx), sC (.slice Aw u1l.length cw) u1l, fB Bw u1v (.slice Aw u1l.length cw), (Asr.foot fun W => Kd.C (Kd.slice 3 (Kd.int .i64)) W Atf l1.length (l1.map (List.map negw))), sC (.slice Ao u2l.length co) u2l, fB Bo u2v (.slice Ao u2l.length co), sC (.slice Aa u1l.length ca) u1l, fB Ba u1v (.slice Aa u1l.length ca), sC (.slice Ab u1l.length cb) u1l, fB Bb u1v (.slice Ab u1l.length cb), sC (.slice Ac u2l.length cc) u2l] W36) := ⟨H35.out.push hb (HX.out _) hS⟩
  clear H35
  clear hS hb
  go_upto_region 14 with fail
  have hp := H37.out.new (HX.out _) (.cells #[.int .i64 u2v, .slice Ac u2l.length cc] 24 (0, 0))
  generalize W36.alloc (.cells #[.int .i64 u2v, .slice Ac u2l.length cc] 24) = W38 at hp ⊢
  generalize W36.heap.size = Bc at hp ⊢
  have H39 : Aside0 (Sep w (fun _ => False) [fB Bf v1 (.slice A1 l1.length c1), fB B5 sv (.slice Au sl.length cu), headA (.slice Awx nwx cwx) ((Tx ++ Mx).map LRow.shown), headA (.slice Arx nrx crx) (Tx.map LRow.all), dataA (turnAt l1.length 0 (Tx ++ Mx)), xB Bx (.slice Awx l1.length cwx) (.slice Awx nwx cwx) (.slice Arx nrx crx), fB Bi v1 (.slice Awx l1.length cwx), sC (.slice Aw u1l.length cw) u1l, fB Bw u1v (.slice Aw u1l.length cw), (Asr.foot fun W => Kd.C (Kd.slice 3 (Kd.int .i64)) W Atf l1.length (l1.map (List.map negw))), sC (.slice Ao u2l.length co) u2l, fB Bo u2v (.slice Ao u2l.length co), sC (.slice Aa u1l.length ca) u1l, fB Ba u1v (.slice Aa u1l.length ca), sC (.slice Ab u1l.length cb) u1l, fB Bb u1v (.slice Ab u1l.length cb), sC (.slice Ac u2l.length cc) u2l, fB Bc u2v (.slice Ac u2l.length cc)] W38) := ⟨hp⟩
  clear H37
  clear hp
  have q18 : W38.cell? ⟨Bi, 0, none⟩ = some (.int .i64 v1) := H39.out.cell 6 0 rfl
  have q19 : W38.cell? ⟨Bi, 1, none⟩ = some (.slice Awx l1.length cwx) := H39.out.cell 6 1 rfl
  go_wp2_with (go_at_call 6; refine HoldU.out ?_)
  refine ⟨?_⟩
  clear q18 q19
  refine (tidied_n HU2.out (List.length_map _).symm Awx cwx _ (HFx.out.CT H39.out 2 4 rfl rfl HKK.out).1 (HFx.out.CT H39.out 2 4 rfl rfl HKK.out).2 (neg_sm HB1.out) (HTB.out.on H39.out.hB)).mono ?_
  rintro e W40 ⟨Ad, cd, rfl, hS, hb⟩
  have H41 : Aside0 (Sep w (fun _ => False) [fB Bf v1 (.slice A1 l1.length c1), fB B5 sv (.slice Au sl.length cu), headA (.slice Awx nwx cwx) ((Tx ++ Mx).map LRow.shown), headA (.slice Arx nrx crx) (Tx.map LRow.all), dataA (turnAt l1.length 0 (Tx ++ Mx)), xB Bx (.slice Awx l1.length cwx) (.slice Awx nwx cwx) (.slice Arx nrx crx), fB Bi v1 (.slice Awx l1.length cwx), sC (.slice Aw u1l.length cw) u1l, fB Bw u1v (.slice Aw u1l.length cw), (Asr.foot fun W => Kd.C (Kd.slice 3 (Kd.int .i64)) W Atf l1.length (l1.map (List.map negw))), sC (.slice Ao u2l.length co) u2l, fB Bo u2v (.slice Ao u2l.length co), sC (.slice Aa u1l.length ca) u1l, fB Ba u1v (.slice Aa u1l.length ca), sC (.slice Ab u1l.length cb) u1l, fB Bb u1v (.slice Ab u1l.length cb), sC (.slice Ac u2l.length cc) u2l, fB Bc u2v (.slice Ac u2l.length cc), sC (.slice Ad u2l.length cd) u2l] W40) := ⟨H39.out.push hb (HX.out _) hS⟩
  clear H39
  clear hS hb
  go_upto_region 15 with fail
  have hp := H41.out.new (HX.out _) (.cells #[.int .i64 u2v, .slice Ad u2l.length cd] 24 (0, 0))
  generalize W40.alloc (.cells #[.int .i64 u2v, .slice Ad u2l.length cd] 24) = W42 at hp ⊢
  generalize W40.heap.size = Bd at hp ⊢
  have H43 : Aside0 (Sep w (fun _ => False) [fB Bf v1 (.slice A1 l1.length c1), fB B5 sv (.slice Au sl.length cu), headA (.slice Awx nwx cwx) ((Tx ++ Mx).map LRow.shown), headA (.slice Arx nrx crx) (Tx.map LRow.all), dataA (turnAt l1.length 0 (Tx ++ Mx)), xB Bx (.slice Awx l1.length cwx) (.slice Awx nwx cwx) (.slice Arx nrx crx), fB Bi v1 (.slice Awx l1.length cwx), sC (.slice Aw u1l.length cw) u1l, fB Bw u1v (.slice Aw u1l.length cw), (Asr.foot fun W => Kd.C (Kd.slice 3 (Kd.int .i64)) W Atf l1.length (l1.map (List.map negw))), sC (.slice Ao u2l.length co) u2l, fB Bo u2v (.slice Ao u2l.length co), sC (.slice Aa u1l.length ca) u1l, fB Ba u1v (.slice Aa u1l.length ca), sC (.slice Ab u1l.length cb) u1l, fB Bb u1v (.slice Ab u1l.length cb), sC (.slice Ac u2l.length cc) u2l, fB Bc u2v (.slice Ac u2l.length cc), sC (.slice Ad u2l.length cd) u2l, fB Bd u2v (.slice Ad u2l.length cd)] W42) := ⟨hp⟩
  clear H41
  clear hp
  have q20 : W42.cell? ⟨Bx, 0, none⟩ = some (.slice Awx l1.length cwx) := H43.out.cell 5 0 rfl
  have q21 : W42.cell? ⟨Bx, 1, none⟩ = some (.slice Awx nwx cwx) := H43.out.cell 5 1 rfl
  have q22 : W42.cell? ⟨Bx, 2, none⟩ = some (.slice Arx nrx crx) := H43.out.cell 5 2 rfl
  go_wp2_with (go_at_call 13; refine HoldU.out ?_)
  refine ⟨?_⟩
  clear q20 q21 q22
  refine (overRows_calls H43.out (HX.out _) 2 3 4 (by decide) (by decide) (by decide) rfl rfl rfl (likeD_turn Tx Mx _) Awx l1.length cwx (HFx.out.big HB1.out).1 (HFx.out.big HB1.out).2.1 (HFx.out.big HB1.out).2.2).mono ?_
  rintro e W44 ⟨rfl, hs⟩
  have H45 : Aside0 (Sep w (fun _ => False) [fB Bf v1 (.slice A1 l1.length c1), fB B5 sv (.slice Au sl.length cu), .emp, .emp, .emp, xB Bx (.slice Awx l1.length cwx) (.slice Awx nwx cwx) (.slice Arx nrx crx), fB Bi v1 (.slice Awx l1.length cwx), sC (.slice Aw u1l.length cw) u1l, fB Bw u1v (.slice Aw u1l.length cw), (Asr.foot fun W => Kd.C (Kd.slice 3 (Kd.int .i64)) W Atf l1.length (l1.map (List.map negw))), sC (.slice Ao u2l.length co) u2l, fB Bo u2v (.slice Ao u2l.length co), sC (.slice Aa u1l.length ca) u1l, fB Ba u1v (.slice Aa u1l.length ca), sC (.slice Ab u1l.length cb) u1l, fB Bb u1v (.slice Ab u1l.length cb), sC (.slice Ac u2l.length cc) u2l, fB Bc u2v (.slice Ac u2l.length cc), sC (.slice Ad u2l.length cd) u2l, fB Bd u2v (.slice Ad u2l.length cd)] W44) := ⟨hs⟩
  clear H43
  clear hs
  have q23 : W44.cell? ⟨Ba, 0, none⟩ = some (.int .i64 u1v) := H45.out.cell 13 0 rfl
  have q24 : W44.cell? ⟨Ba, 1, none⟩ = some (.slice Aa u1l.length ca) := H45.out.cell 13 1 rfl
  have q25 : W44.cell? ⟨Bw, 0, none⟩ = some (.int .i64 u1v) := H45.out.cell 8 0 rfl
  have q26 : W44.cell? ⟨Bw, 1, none⟩ = some (.slice Aw u1l.length cw) := H45.out.cell 8 1 rfl
  go_wp2_with (go_at_call 14; refine HoldU.out ?_)
  refine ⟨?_⟩
  refine (same_n u1v Aa Aw ca cw _ (Kd.S_reads' (H45.out.get 12 rfl)).2.2 (Kd.S_reads' (H45.out.get 12 rfl)).2.1 (Kd.S_reads' (H45.out.get 7 rfl)).2.2 (Kd.S_reads' (H45.out.get 7 rfl)).2.1 HM1.out).mono ?_
  rintro e W46 ⟨rfl, hb⟩
  have H47 : Aside0 (Sep w (fun _ => False) [fB Bf v1 (.slice A1 l1.length c1), fB B5 sv (.slice Au sl.length cu), .emp, .emp, .emp, xB Bx (.slice Awx l1.length cwx) (.slice Awx nwx cwx) (.slice Arx nrx crx), fB Bi v1 (.slice Awx l1.length cwx), sC (.slice Aw u1l.length cw) u1l, fB Bw u1v (.slice Aw u1l.length cw), (Asr.foot fun W => Kd.C (Kd.slice 3 (Kd.int .i64)) W Atf l1.length (l1.map (List.map negw))), sC (.slice Ao u2l.length co) u2l, fB Bo u2v (.slice Ao u2l.length co), sC (.slice Aa u1l.length ca) u1l, fB Ba u1v (.slice Aa u1l.length ca), sC (.slice Ab u1l.length cb) u1l, fB Bb u1v (.slice Ab u1l.length cb), sC (.slice Ac u2l.length cc) u2l, fB Bc u2v (.slice Ac u2l.length cc), sC (.slice Ad u2l.length cd) u2l, fB Bd u2v (.slice Ad u2l.length cd)] W46) := ⟨H45.out.keep hb⟩
  clear H45
  clear hb
  clear q23 q24 q25 q26
  have q27 : W46.cell? ⟨Bb, 0, none⟩ = some (.int .i64 u1v) := H47.out.cell 15 0 rfl
  have q28 : W46.cell? ⟨Bb, 1, none⟩ = some (.slice Ab u1l.length cb) := H47.out.cell 15 1 rfl
  have q29 : W46.cell? ⟨Bw, 0, none⟩ = some (.int .i64 u1v) := H47.out.cell 8 0 rfl
  have q30 : W46.cell? ⟨Bw, 1, none⟩ = some (.slice Aw u1l.length cw) := H47.out.cell 8 1 rfl
  go_wp2_with (go_at_call 14; refine HoldU.out ?_)
  refine ⟨?_⟩
  refine (same_n u1v Ab Aw cb cw _ (Kd.S_reads' (H47.out.get 14 rfl)).2.2 (Kd.S_reads' (H47.out.get 14 rfl)).2.1 (Kd.S_reads' (H47.out.get 7 rfl)).2.2 (Kd.S_reads' (H47.out.get 7 rfl)).2.1 HM1.out).mono ?_
  rintro e W48 ⟨rfl, hb⟩
  have H49 : Aside0 (Sep w (fun _ => False) [fB Bf v1 (.slice A1 l1.length c1), fB B5 sv (.slice Au sl.length cu), .emp, .emp, .emp, xB Bx (.slice Awx l1.length cwx) (.slice Awx nwx cwx) (.slice Arx nrx crx), fB Bi v1 (.slice Awx l1.length cwx), sC (.slice Aw u1l.length cw) u1l, fB Bw u1v (.slice Aw u1l.length cw), (Asr.foot fun W => Kd.C (Kd.slice 3 (Kd.int .i64)) W Atf l1.length (l1.map (List.map negw))), sC (.slice Ao u2l.length co) u2l, fB Bo u2v (.slice Ao u2l.length co), sC (.slice Aa u1l.length ca) u1l, fB Ba u1v (.slice Aa u1l.length ca), sC (.slice Ab u1l.length cb) u1l, fB Bb u1v (.slice Ab u1l.length cb), sC (.slice Ac u2l.length cc) u2l, fB Bc u2v (.slice Ac u2l.length cc), sC (.slice Ad u2l.length cd) u2l, fB Bd u2v (.slice Ad u2l.length cd)] W48) := ⟨H47.out.keep hb⟩
  clear H47
  clear hb
  clear q27 q28 q29 q30
  have q31 : W48.cell? ⟨Bc, 0, none⟩ = some (.int .i64 u2v) := H49.out.cell 17 0 rfl
  have q32 : W48.cell? ⟨Bc, 1, none⟩ = some (.slice Ac u2l.length cc) := H49.out.cell 17 1 rfl
  have q33 : W48.cell? ⟨Bo, 0, none⟩ = some (.int .i64 u2v) := H49.out.cell 11 0 rfl
  have q34 : W48.cell? ⟨Bo, 1, none⟩ = some (.slice Ao u2l.length co) := H49.out.cell 11 1 rfl
  go_wp2_with (go_at_call 14; refine HoldU.out ?_)
  refine ⟨?_⟩
  refine (same_n u2v Ac Ao cc co _ (Kd.S_reads' (H49.out.get 16 rfl)).2.2 (Kd.S_reads' (H49.out.get 16 rfl)).2.1 (Kd.S_reads' (H49.out.get 10 rfl)).2.2 (Kd.S_reads' (H49.out.get 10 rfl)).2.1 HM2.out).mono ?_
  rintro e W50 ⟨rfl, hb⟩
  have H51 : Aside0 (Sep w (fun _ => False) [fB Bf v1 (.slice A1 l1.length c1), fB B5 sv (.slice Au sl.length cu), .emp, .emp, .emp, xB Bx (.slice Awx l1.length cwx) (.slice Awx nwx cwx) (.slice Arx nrx crx), fB Bi v1 (.slice Awx l1.length cwx), sC (.slice Aw u1l.length cw) u1l, fB Bw u1v (.slice Aw u1l.length cw), (Asr.foot fun W => Kd.C (Kd.slice 3 (Kd.int .i64)) W Atf l1.length (l1.map (List.map negw))), sC (.slice Ao u2l.length co) u2l, fB Bo u2v (.slice Ao u2l.length co), sC (.slice Aa u1l.length ca) u1l, fB Ba u1v (.slice Aa u1l.length ca), sC (.slice Ab u1l.length cb) u1l, fB Bb u1v (.slice Ab u1l.length cb), sC (.slice Ac u2l.length cc) u2l, fB Bc u2v (.slice Ac u2l.length cc), sC (.slice Ad u2l.length cd) u2l, fB Bd u2v (.slice Ad u2l.length cd)] W50) := ⟨H49.out.keep hb⟩
  clear H49
  clear hb
  clear q31 q32 q33 q34
  have q35 : W50.cell? ⟨Bd, 0, none⟩ = some (.int .i64 u2v) := H51.out.cell 19 0 rfl
  have q36 : W50.cell? ⟨Bd, 1, none⟩ = some (.slice Ad u2l.length cd) := H51.out.cell 19 1 rfl
  have q37 : W50.cell? ⟨Bo, 0, none⟩ = some (.int .i64 u2v) := H51.out.cell 11 0 rfl
  have q38 : W50.cell? ⟨Bo, 1, none⟩ = some (.slice Ao u2l.length co) := H51.out.cell 11 1 rfl
  go_wp2_with (go_at_call 14; refine HoldU.out ?_)
  refine ⟨?_⟩
  refine (same_n u2v Ad Ao cd co _ (Kd.S_reads' (H51.out.get 18 rfl)).2.2 (Kd.S_reads' (H51.out.get 18 rfl)).2.1 (Kd.S_reads' (H51.out.get 10 rfl)).2.2 (Kd.S_reads' (H51.out.get 10 rfl)).2.1 HM2.out).mono ?_
  rintro e W52 ⟨rfl, hb⟩
  have H53 : Aside0 (Sep w (fun _ => False) [fB Bf v1 (.slice A1 l1.length c1), fB B5 sv (.slice Au sl.length cu), .emp, .emp, .emp, xB Bx (.slice Awx l1.length cwx) (.slice Awx nwx cwx) (.slice Arx nrx crx), fB Bi v1 (.slice Awx l1.length cwx), sC (.slice Aw u1l.length cw) u1l, fB Bw u1v (.slice Aw u1l.length cw), (Asr.foot fun W => Kd.C (Kd.slice 3 (Kd.int .i64)) W Atf l1.length (l1.map (List.map negw))), sC (.slice Ao u2l.length co) u2l, fB Bo u2v (.slice Ao u2l.length co), sC (.slice Aa u1l.length ca) u1l, fB Ba u1v (.slice Aa u1l.length ca), sC (.slice Ab u1l.length cb) u1l, fB Bb u1v (.slice Ab u1l.length cb), sC (.slice Ac u2l.length cc) u2l, fB Bc u2v (.slice Ac u2l.length cc), sC (.slice Ad u2l.length cd) u2l, fB Bd u2v (.slice Ad u2l.length cd)] W52) := ⟨H51.out.keep hb⟩
  clear H51
  clear hb
  clear q35 q36 q37 q38
  have q39 : W52.cell? ⟨Ba, 0, none⟩ = some (.int .i64 u1v) := H53.out.cell 13 0 rfl
  have q40 : W52.cell? ⟨Ba, 1, none⟩ = some (.slice Aa u1l.length ca) := H53.out.cell 13 1 rfl
  have q41 : W52.cell? ⟨Bb, 0, none⟩ = some (.int .i64 u1v) := H53.out.cell 15 0 rfl
  have q42 : W52.cell? ⟨Bb, 1, none⟩ = some (.slice Ab u1l.length cb) := H53.out.cell 15 1 rfl
  have q43 : W52.cell? ⟨Bc, 0, none⟩ = some (.int .i64 u2v) := H53.out.cell 17 0 rfl
  have q44 : W52.cell? ⟨Bc, 1, none⟩ = some (.slice Ac u2l.length cc) := H53.out.cell 17 1 rfl
  have q45 : W52.cell? ⟨Bd, 0, none⟩ = some (.int .i64 u2v) := H53.out.cell 19 0 rfl
  have q46 : W52.cell? ⟨Bd, 1, none⟩ = some (.slice Ad u2l.length cd) := H53.out.cell 19 1 rfl
  obtain ⟨okj, hok, hdis, hrng⟩ := H53.out.fam
  have HD5 := Aside0.mk hdis
  have HG5 := Aside0.mk hrng
  have hal := below_alloc (Below.refl W52.heap.size W52) (.cells #[.int .i64 u1v, .slice Aa u1l.length ca, .int .i64 u1v, .slice Ab u1l.length cb, .int .i64 u2v, .slice Ac u2l.length cc, .int .i64 u2v, .slice Ad u2l.length cd] 24 (0, 0))
  have HAP : Aside0 (Calls Tryd.prog 15 #[.slice (some ⟨W52.heap.size, 0, none⟩) 4 4] (W52.alloc (.cells #[.int .i64 u1v, .slice Aa u1l.length ca, .int .i64 u1v, .slice Ab u1l.length cb, .int .i64 u2v, .slice Ac u2l.length cc, .int .i64 u2v, .slice Ad u2l.length cd] 24)) fun e w' => e = .returned (.bool true) ∧ Grow (fun b => ∃ j, okj ([12, 14, 16, 18].getD j 0) b ∧ j < 4) (W52.alloc (.cells #[.int .i64 u1v, .slice Aa u1l.length ca, .int .i64 u1v, .slice Ab u1l.length cb, .int .i64 u2v, .slice Ac u2l.length cc, .int .i64 u2v, .slice Ad u2l.length cd] 24)) w') := ⟨by
    have hmem : ∀ x ∈ ([(.slice Aa u1l.length ca, u1v, u1l), (.slice Ab u1l.length cb, u1v, u1l), (.slice Ac u2l.length cc, u2v, u2l), (.slice Ad u2l.length cd, u2v, u2l)] : List (Value × Int × List (List Int))).map fun r => r.2.2, Sm x := fun x hx => by
      simp only [List.map_cons, List.map_nil, List.mem_cons, List.not_mem_nil, or_false] at hx
      rcases hx with rfl | rfl | rfl | rfl
      · exact HM1.out
      · exact HM1.out
      · exact HM2.out
      · exact HM2.out
    refine apartFormulas_calls W52.heap.size 4 [(.slice Aa u1l.length ca, u1v, u1l), (.slice Ab u1l.length cb, u1v, u1l), (.slice Ac u2l.length cc, u2v, u2l), (.slice Ad u2l.length cd, u2v, u2l)] (fun j b => okj ([12, 14, 16, 18].getD j 0) b ∧ j < 4) _ (fun q r hq => ?_) (fun i j b h1 h2 => ?_) (fun j b h => ?_) (Nat.le_refl _) (show 4 ≤ 1099511627776 by decide) (fun r hr => Nat.le_trans (hmem _ (List.mem_map_of_mem hr)).n (by decide)) (fun x hx => ?_) ?_
    · have hcell : ∀ i, (W52.alloc (.cells #[.int .i64 u1v, .slice Aa u1l.length ca, .int .i64 u1v, .slice Ab u1l.length cb, .int .i64 u2v, .slice Ac u2l.length cc, .int .i64 u2v, .slice Ad u2l.length cd] 24)).cell? ⟨W52.heap.size, i, none⟩ = (#[.int .i64 u1v, .slice Aa u1l.length ca, .int .i64 u1v, .slice Ab u1l.length cb, .int .i64 u2v, .slice Ac u2l.length cc, .int .i64 u2v, .slice Ad u2l.length cd] : Array Value)[i]? := fun i => blk_cell (World.alloc_heap_new W52 _) i
      rw [hcell]
      rcases q with _ | _ | _ | _ | q
      · injection hq with hq; subst hq; exact ⟨rfl, Kd.S_step (Kd.S_mono (hok 12 _ rfl) fun b hb => ⟨hb, by decide⟩) fun b hb hlt => hal.block b hlt⟩
      · injection hq with hq; subst hq; exact ⟨rfl, Kd.S_step (Kd.S_mono (hok 14 _ rfl) fun b hb => ⟨hb, by decide⟩) fun b hb hlt => hal.block b hlt⟩
      · injection hq with hq; subst hq; exact ⟨rfl, Kd.S_step (Kd.S_mono (hok 16 _ rfl) fun b hb => ⟨hb, by decide⟩) fun b hb hlt => hal.block b hlt⟩
      · injection hq with hq; subst hq; exact ⟨rfl, Kd.S_step (Kd.S_mono (hok 18 _ rfl) fun b hb => ⟨hb, by decide⟩) fun b hb hlt => hal.block b hlt⟩
      · simp at hq
    · have h3 := hdis _ _ b h1.1 h2.1
      have h4 := h1.2
      have h5 := h2.2
      rcases i with _ | _ | _ | _ | i <;> rcases j with _ | _ | _ | _ | j <;> first | rfl | omega | (exfalso; revert h3; decide)
    · exact Nat.lt_of_lt_of_le (hrng _ b h.1).2.2 hal.size
    · obtain ⟨y, hy, hx⟩ := List.mem_flatten.1 hx; exact (hmem y hy).s x hx
    · have n0 := HM1.out.n
      have n1 := HM2.out.n
      simp only [List.map_cons, List.map_nil, List.flatten_cons, List.flatten_nil, List.length_append, List.length_nil]
      omega⟩
  clear hok hdis hrng hal
  go_wp2_with (go_at_call 15; refine HoldU.out ?_)
  refine ⟨?_⟩
  clear q39 q40 q41 q42 q43 q44 q45 q46
  refine (HAP.out).mono ?_
  rintro e Wz ⟨rfl, hg⟩
  have HE : Aside0 (Below w.heap.size w Wz) := ⟨by
    have h1 := H53.out.hB
    have h2 := below_alloc h1 (.cells #[.int .i64 u1v, .slice Aa u1l.length ca, .int .i64 u1v, .slice Ab u1l.length cb, .int .i64 u2v, .slice Ac u2l.length cc, .int .i64 u2v, .slice Ad u2l.length cd] 24 (0, 0))
    exact h2.trans (hg.below h2.size fun b ⟨j, hb, _⟩ => (HG5.out _ b hb).1)⟩
  clear hg HAP
  go_wp2_with fail
  go_ret
  exact ⟨rfl, HE.out⟩
end Go.Proofs.YtggnnnddnppcpaaDoorHand
/-! text YtggnnnddnppcpaaDoorKtLaw -/
namespace Go.Proofs.YtggnnnddnppcpaaDoor.PCnfKeepsTidy
open Go.RowKit Go.Proofs.YtggnnnddnppcpaaDoorW.PrintWords Go.Proofs.YtggnnnddnppcpaaDoorW.PrintLast
set_option linter.unusedVariables false
def depotlaw02_CnfKeepsTidy.f (a0_0 : Int) (l0_1 : List (List Int)) : Option Bool := if l0_1.length ≤ 1048576 ∧ ∀ x ∈ l0_1, x.length ≤ 1099511627776 then some true else none
theorem depotlaw02_CnfKeepsTidy.calls (a0_0 : Int) (A0_1 : Option Addr) (c0_1 : Nat) (l0_1 : List (List Int)) (r : Bool) (w : World) (hr0_1 : Kd.C (Kd.slice 3 (Kd.int .i64)) w A0_1 l0_1.length l0_1) (hc0_1 : l0_1.length ≤ c0_1) (ht : Go.Proofs.YtggnnnddnppcpaaDoorHand.Tab w) (h : depotlaw02_CnfKeepsTidy.f a0_0 l0_1 = some r) :
    Calls Tryd.prog 3 #[.agg #[.int .i64 a0_0, .slice A0_1 l0_1.length c0_1]] w fun e w' => e = .returned (.bool r) ∧ Below w.heap.size w w' := by
  unfold depotlaw02_CnfKeepsTidy.f at h
  split at h
  · rename_i hh
    obtain rfl := Option.some.inj h
    exact Go.Proofs.YtggnnnddnppcpaaDoorHand.kt_calls a0_0 A0_1 c0_1 l0_1 w hr0_1 hc0_1 hh ht
  · cases h
#print axioms depotlaw02_CnfKeepsTidy.calls
end Go.Proofs.YtggnnnddnppcpaaDoor.PCnfKeepsTidy
/-! text YtggnnnddnppcpaaDoorStatCnfKeepsTidy -/
namespace Go.Proofs.YtggnnnddnppcpaaDoor.PCnfKeepsTidy
open Go.RowKit Go.Proofs.YtggnnnddnppcpaaDoorW.PrintWords Go.Proofs.YtggnnnddnppcpaaDoorW.PrintLast Go.Proofs.YtggnnnddnppcpaaDoorW.PrintMore Go.Proofs.YtggnnnddnppcpaaDoorOpens
set_option linter.unusedVariables false
set_option linter.unusedSimpArgs false
def Stmt : Prop := ∀ (a0_0 : Int) (l0_1 : List (List (Int))), (((Lit.int .i64 a0_0).wf = true) ∧ (l0_1.length * 24 ≤ 140737488351232 ∧ ∀ y1 ∈ l0_1, y1.length * 8 ≤ 140737488351232 ∧ ∀ y2 ∈ y1, (Lit.int .i64 y2).wf = true)) → ((1 + (sumOf (fun y3 => (sumOf (fun y4 => 1) y3 + 1)) l0_1 + 1)) + 1) ≤ 1048576 → depotlaw02_CnfKeepsTidy.f a0_0 l0_1 = some true
theorem walk (P : Stmt) (a0_0 : Int) (A0_1 : Option Addr) (c0_1 : Nat) (l0_1 : List (List (Int))) (w : World) (hr0_1 : Kd.C (Kd.slice 3 (Kd.int .i64)) w A0_1 l0_1.length l0_1) (hc0_1 : l0_1.length ≤ c0_1) (ht : Go.Proofs.YtggnnnddnppcpaaDoorHand.Tab w) (ok0 : ((Lit.int .i64 a0_0).wf = true) ∧ (l0_1.length * 24 ≤ 140737488351232 ∧ ∀ y1 ∈ l0_1, y1.length * 8 ≤ 140737488351232 ∧ ∀ y2 ∈ y1, (Lit.int .i64 y2).wf = true)) (hm : ((1 + (sumOf (fun y3 => (sumOf (fun y4 => 1) y3 + 1)) l0_1 + 1)) + 1) ≤ 1048576) :
    Calls Tryd.prog 3 #[.agg #[.int .i64 a0_0, .slice A0_1 l0_1.length c0_1]] w fun e w' => e = .returned (.bool true) ∧ Below w.heap.size w w' := by
  have h := P a0_0 l0_1 ok0 hm
  refine (depotlaw02_CnfKeepsTidy.calls a0_0 A0_1 c0_1 l0_1 true w hr0_1 hc0_1 ht h).mono ?_
  rintro e w' ⟨rfl, hd⟩
  exact ⟨rfl, hd⟩
end Go.Proofs.YtggnnnddnppcpaaDoor.PCnfKeepsTidy
/-! text YtggnnnddnppcpaaDoorPureCnfKeepsTidy -/
namespace Go.Proofs.YtggnnnddnppcpaaDoor.Pure
open Go.RowKit Go.Proofs.YtggnnnddnppcpaaDoor.PCnfKeepsTidy Go.Proofs.YtggnnnddnppcpaaDoorW.PrintWords Go.Proofs.YtggnnnddnppcpaaDoorW.PrintLast Go.Proofs.YtggnnnddnppcpaaDoorOpens Go.Proofs.YtggnnnddnppcpaaDoorMath
set_option linter.unusedVariables false

theorem sumOf_one {α : Type} (l : List α) : sumOf (fun _ => 1) l = l.length := by
  induction l with
  | nil => rfl
  | cons x l ih => simp only [sumOf, ih, List.length_cons]; omega
theorem rows_bulk0 (l : List (List Int)) (n : Nat) (h : sumOf (fun y => y.length + 1) l ≤ n) : l.length ≤ n ∧ ∀ c ∈ l, c.length ≤ n := by
  induction l generalizing n with
  | nil => exact ⟨Nat.zero_le _, fun c hc => by simp at hc⟩
  | cons x l ih =>
    simp only [sumOf] at h
    obtain ⟨h1, h2⟩ := ih (n - x.length - 1) (by omega)
    refine ⟨by simp only [List.length_cons]; omega, fun c hc => ?_⟩
    rcases List.mem_cons.1 hc with rfl | hc
    · omega
    · have := h2 c hc; omega
theorem rows_of_bulk (l : List (List Int)) (n : Nat) (h : sumOf (fun y => sumOf (fun _ => 1) y + 1) l ≤ n) : l.length ≤ n ∧ ∀ c ∈ l, c.length ≤ n :=
  rows_bulk0 l n (by
    have e : (fun y : List Int => y.length + 1) = fun y => sumOf (fun _ => 1) y + 1 := funext fun y => by rw [sumOf_one]
    rw [e]
    exact h)

theorem CnfKeepsTidy : PCnfKeepsTidy.Stmt := by
  intro v1 l1 _ hm
  obtain ⟨n1, s1⟩ := rows_of_bulk l1 1048576 (by omega)
  unfold depotlaw02_CnfKeepsTidy.f
  rw [if_pos ⟨n1, fun x hx => Nat.le_trans (s1 x hx) (by decide)⟩]

end Go.Proofs.YtggnnnddnppcpaaDoor.Pure
/-! text YtggnnnddnppcpaaDoorRowCnfKeepsTidy -/
namespace Go.Proofs.YtggnnnddnppcpaaDoor.cnfKeepsTidy
open Go.ChangeShapes Go.WideShapes Go.ChangeAt Go.RowKit Go.Joins
open Go.Proofs.YtggnnnddnppcpaaDoorOpens Go.Proofs.YtggnnnddnppcpaaDoorW.PrintWords Go.Proofs.YtggnnnddnppcpaaDoor.PCnfKeepsTidy
set_option linter.unusedVariables false
set_option linter.unusedSimpArgs false
theorem own : ownKnob Tryd.prog.godebug = none := by kernel_rfl
theorem laidOut : laidOutB Tryd.prog = true := by kernel_rfl
theorem table {W : World} (h : laidMetH Tryd.prog Rows.cnfKeepsTidyUptoRow.laid W) : Go.Proofs.YtggnnnddnppcpaaDoorHand.Tab W := by
  rw [MakeChecks.laidMetH_plain _ _ _ (by kernel_rfl)] at h
  have h3 : laidMet Tryd.prog [("internal/strconv.uint64pow10", Lib.tabData .u64 Lib.pow10Tab)] W := laidMet.tail (laidMet.tail h)
  exact Lib.tabIs_of_head (rest := []) (show Tryd.prog.globalNamed "internal/strconv.uint64pow10" = some 0 by kernel_rfl) (show (Tryd.prog.globals[0]?).map (·.type) = some 104 by kernel_rfl) Tryd.underlying104 Tryd.underlying87 (by kernel_rfl) (by kernel_rfl) h3
set_option maxRecDepth 100000 in
theorem laid_met (os : Os) : laidMetH Tryd.prog Rows.cnfKeepsTidyUptoRow.laid ((World.doorLaid Tryd.prog 24 os).forCall (fun _ _ => 0) ⟨#[], #[.agg #[.int .i64 0, .slice none 0 0]], []⟩).memory :=
  laidMetH_of_parts3 (fuel := 8) (laidMet_of_run' 8 (by kernel_rfl) (by kernel_rfl)) (by kernel_rfl) (by kernel_rfl)
set_option maxRecDepth 100000 in
theorem reads (os : Os) {H : Type} (enc : TypeId × Value → H) : ∃ places, DataW.whole enc Tryd.prog ((World.doorLaid Tryd.prog 24 os).forCall (fun _ _ => 0) ⟨#[], #[.agg #[.int .i64 0, .slice none 0 0]], []⟩).memory Tryd.f3.params.toList Rows.cnfKeepsTidySpec.vars false #[(.agg #[.int .i64 0, .slice none 0 0] : Value)].toList 8 = some ([.agg [.lit (.int .i64 0), .nil]], [], places) :=
  ⟨[], by kernel_rfl⟩
set_option maxRecDepth 100000 in
theorem contract (H : Type) (enc : TypeId × Value → H) (W : World) (base : Nat) (args : Array Value) (ds gs : List (DataW H)) (before : List MemPlace)
    (hval0 : ∀ (j : Nat) t v, Tryd.f3.params[j]? = some t → args[j]? = some v → Value.okWide Tryd.prog W .any base t v)
    (hW : DataW.Whole enc Tryd.prog Tryd.f3.params.toList Rows.cnfKeepsTidySpec.vars false W args.toList ds gs before)
    (hsz0 : (DataW.weightsEach Tryd.prog (Tryd.f3.params.toList ++ Rows.cnfKeepsTidySpec.plain.varTypes Tryd.prog) (ds ++ gs)).all (· ≤ reachBytes) = true) (hk : Rows.uptoSmall H (ds ++ gs) = true) (hL : laidMetH Tryd.prog Rows.cnfKeepsTidyUptoRow.laid W) :
    Calls Tryd.prog 3 args W fun e W' => ∃ v, e = .returned v ∧ Rows.cnfKeepsTidySpec.post enc Tryd.prog Tryd.f3 false true false false W args v W' := by
  have hsz := hsz0
  have hval : ∀ (j : Nat) t v, Tryd.f3.params[j]? = some t → args[j]? = some v → Value.okWide Tryd.prog W .any base t v := hval0
  have hW' := hW
  obtain ⟨p, q, hA0, hV, rfl, hfz, hnd⟩ := hW
  have hA : DataW.TrodAll enc Tryd.prog W 0 (fun _ => true) true Tryd.f3.params.toList args.toList ds p := hA0
  rw [Tryd.params3] at hA hval hsz
  obtain ⟨v0, vs0, d0, ds0, p0, q0, hargs, rfl, rfl, h0, r0⟩ := trodAll_cons hA
  obtain ⟨rfl, rfl, rfl⟩ := trodAll_nil r0
  obtain rfl : args = #[v0] := by cases args; simp_all
  obtain ⟨rfl, rfl⟩ := trodVars_none hV
  obtain ⟨cs0, rfl, _⟩ := okWide_struct Tryd.underlying24 (hval 0 24 v0 rfl rfl)
  have k0 := h0
  have lt0 : ∀ x ∈ p0, x.block < W.heap.size := by obtain ⟨m, hm⟩ := k0; exact DataW.trod_lt m _ _ _ hm
  obtain ⟨a0, hK0, ok0, m0⟩ := struct_arg (opens_struct (opensF_cons (opens_int Tryd.underlying3 (by kernel_rfl)) (by kernel_rfl) (opensF_last (opens_slice (B := 24) (opens_slice (B := 8) (opens_int Tryd.underlying3 (by kernel_rfl)) Tryd.underlying40 (by kernel_rfl) (by kernel_rfl)) Tryd.underlying22 (by kernel_rfl) (by kernel_rfl)) (by kernel_rfl))) Tryd.underlying24 (by kernel_rfl)) h0 (reach_of hsz (j := 0) (t := 24) rfl rfl)
  obtain ⟨_, _, hcs0, rfl, ⟨A0_1, c0_1, rfl, hc0_1, hr0_1⟩⟩ := hK0
  obtain rfl : cs0 = #[.int .i64 a0.1, .slice A0_1 a0.2.length c0_1] := by cases cs0; simpa using hcs0
  have hm := bulk_of hk
  simp only [List.append_nil, Rows.uptoBulkAll, Rows.uptoBulk] at hm
  clear hA0 hval0 hsz0 hsz
  refine (PCnfKeepsTidy.walk Pure.CnfKeepsTidy a0.1 A0_1 c0_1 a0.2 W hr0_1 hc0_1 (table hL) ok0 (by first | omega | (simp only [sumOf] at *; omega))).mono fun e W' ⟨he, bel⟩ => ?_
  subst he
  exact ⟨_, rfl, _, _, _, [], _, [], hW', trodAll_mk1 (shut_bool Tryd.underlying4 _), (trodAll_cons_mk (Below.trod laidOut (by kernel_rfl) (of_decide_eq_true (by kernel_rfl)) k0 bel lt0) trodAll_mk0), rfl, bel.frame _, fun h => by cases h⟩
set_option maxRecDepth 100000 in
theorem lifted (os : Os) (started : os.Started) (H : Type) (enc : TypeId × Value → H) (F : Stop.Interp) :
    ReturnsInHanded {} Tryd.checked os 3 .any ((Rows.OpenSpec.upto Rows.cnfKeepsTidySpec).preRow enc Tryd.prog Tryd.f3 Rows.cnfKeepsTidyUptoRow.domain false Rows.cnfKeepsTidyUptoRow.laid) (((Rows.OpenSpec.upto Rows.cnfKeepsTidySpec).at F).post enc Tryd.prog Tryd.f3 false true false false) := by
  obtain ⟨places, hx⟩ := reads os enc
  refine returnsInHanded_of_row (C := Tryd.checked) (s := Rows.OpenSpec.upto Rows.cnfKeepsTidySpec) own started (by kernel_rfl) Tryd.func3
    (witness_row_at (enc := enc) (C := Tryd.checked) false (World.doorLaid Tryd.prog 24 os) #[.agg #[.int .i64 0, .slice none 0 0]] rfl (by kernel_rfl) (by kernel_rfl) (by kernel_rfl)
      (OpenSpec.preRow_of_cond 8 hx (by kernel_rfl) (fun k hk => by cases hk; kernel_rfl) (by kernel_rfl) (laid_met os))) ?_
  intro W base args ds gs before hval hW _ hcond hsz hL _ _
  exact contract H enc W base args ds gs before hval hW hsz (hcond _ rfl) hL
set_option maxRecDepth 100000 in
theorem said : Rows.CnfKeepsTidyUptoSaid :=
  OpenClaim.holds_of_cond 3 Tryd.f3 rfl rfl rfl rfl rfl rfl rfl ⟨rfl, rfl, rfl, rfl, rfl⟩ rfl rfl rfl rfl rfl (by kernel_rfl) Tryd.func3 (by kernel_rfl)
    (of_decide_eq_true (by kernel_rfl)) (by unfold Func.isWrapper; first | (rw [if_pos (by decide +kernel)]; kernel_rfl) | (rw [if_neg (by decide +kernel)]; exact ⟨rfl, rfl⟩))
    (fun os started H enc _ F => by rw [OpenClaim.pre_eq_preRow]; exact lifted os started H enc F)
theorem plain (f : FuncId) (fn : Func) (hf : Tryd.pinned.checked.prog.funcNamed "depot/depotlaw02.CnfKeepsTidy" = some f) (hfn : Tryd.pinned.checked.prog.funcs[f]? = some fn) :
    false = Tryd.pinned.checked.prog.looks [] ∧ ∀ (j : Nat) t, fn.params[j]? = some t → Tryd.pinned.checked.prog.wantsStandIn t = false := by
  obtain rfl : f = 3 := Option.some.inj ((show Tryd.prog.funcNamed "depot/depotlaw02.CnfKeepsTidy" = some 3 by kernel_rfl).symm.trans hf) |>.symm
  obtain rfl : fn = Tryd.f3 := (Option.some.inj (Tryd.func3.symm.trans hfn)).symm
  refine ⟨by kernel_rfl, fun j t ht => ?_⟩
  rw [Tryd.params3] at ht
  have hm : t ∈ [24] := by simpa using Array.mem_of_getElem? ht
  have hall : ([24].all fun u => !Tryd.prog.wantsStandIn u) = true := by kernel_rfl
  exact (show Tryd.prog.wantsStandIn t = false by simpa using List.all_eq_true.1 hall t hm)
theorem proved : Rows.CnfKeepsTidyUptoCardSaid :=
  Claim7.holds_tied_plain_at .later [] _ _ _ _ said (fun _ h => by cases h) (by kernel_rfl) (fun _ h => by cases h) cnfKeepsTidyUpto_row_tie rfl ⟨rfl, rfl⟩ (by kernel_rfl) rfl plain (by kernel_rfl)
#print axioms proved
end Go.Proofs.YtggnnnddnppcpaaDoor.cnfKeepsTidy
namespace Go.Proofs.YtggnnnddnppcpaaDoor
theorem cnfKeepsTidyupto_holds : Rows.CnfKeepsTidyUptoCardSaid := cnfKeepsTidy.proved
end Go.Proofs.YtggnnnddnppcpaaDoor
