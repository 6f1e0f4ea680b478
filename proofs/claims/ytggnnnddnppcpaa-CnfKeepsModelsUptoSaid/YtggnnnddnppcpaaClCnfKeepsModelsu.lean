/- The law CnfKeepsModels answers true, of formulas and lists of some size. (Laid by gen_km.py.) -/
import Derived.Test.YtggnnnddnppcpaaClCnfKeepsModelst
/-! text YtggnnnddnppcpaaKm -/
namespace Go.Proofs.YtggnnnddnppcpaaHand
open Go.RowKit Go.Sort Go.Lib Go.Shelf Go.Proofs.YtggnnnddnppcpaaW.PrintWords Go.Proofs.YtggnnnddnppcpaaW.PrintLast Go.Proofs.YtggnnnddnppcpaaMath Go.Proofs.YtggnnnddnppcpaaOwn Go.Proofs.Ytggnnnddnppcpaa.PCnfKeepsJoin Go.Proofs.Ytggnnnddnppcpaa.PCnfKeepsModels
attribute [local go_sem] Oper.semAt_some
set_option linter.unusedVariables false
set_option linter.unusedSimpArgs false
set_option maxHeartbeats 16000000 in
set_option maxRecDepth 100000 in
theorem km_calls (v1 v2 : Int) (A1 A2 A3 A4 : Option Addr) (c1 c2 c3 c4 : Nat) (l1 l2 : List (List Int)) (part : List Int) (m : List Bool) (w : World) (hr1 : Kd.C kC w A1 l1.length l1) (hc1 : l1.length ≤ c1) (hr3 : Kd.C (Kd.int .i64) w A3 part.length part) (hc3 : part.length ≤ c3) (hr4 : Kd.C Kd.bool w A4 m.length m) (hc4 : m.length ≤ c4)
    (hb1 : l1.length ≤ 1048576 ∧ ∀ x ∈ l1, x.length ≤ 1099511627776) (hb3 : part.length ≤ 1099511627776) (hb4 : m.length ≤ 1099511627776) :
    Calls Try.prog 12 #[.agg #[.int .i64 v1, .slice A1 l1.length c1, .int .i64 v2, .slice A2 l2.length c2, .slice A3 part.length c3, .slice A4 m.length c4]] w fun e w' => e = .returned (.bool true) ∧ Below w.heap.size w w' := by
  obtain ⟨fl, hfl⟩ : ∃ J, falses v1 l1 m = J := ⟨_, rfl⟩
  obtain ⟨ML, hML⟩ : ∃ J, wantM v1 l1 = J := ⟨_, rfl⟩
  have HMS : Aside0 (ML.length ≤ 65536 ∧ ∀ a ∈ ML, a.length ≤ 16) := ⟨by have h := wantM_len v1 l1; rw [hML] at h; exact h⟩
  obtain ⟨MT, hMT⟩ : ∃ q, q = ML.take 9 := ⟨_, rfl⟩
  obtain ⟨nT, hnT⟩ : ∃ q : Int, q = (MT.length : Int) := ⟨_, rfl⟩
  have HMT : Aside0 (MT = ML.take 9 ∧ nT = (MT.length : Int) ∧ MT.length ≤ 9 ∧ MT.length = min 9 ML.length) := ⟨hMT, hnT, by rw [hMT, List.length_take]; omega, by rw [hMT, List.length_take]⟩
  clear hMT hnT
  have HFN : Aside0 (fl.length ≤ 1048576) := ⟨by rw [← hfl]; exact falses_len v1 l1 m hb1.1⟩
  have HFL := Aside0.mk hfl
  have HML := Aside0.mk hML
  have HR1 := Aside0.mk hr1
  have HR3 := Aside0.mk hr3
  have HR4 := Aside0.mk hr4
  have HC := Aside0.mk (And.intro hc1 (And.intro hc3 hc4))
  have HB1 := Aside0.mk hb1
  have HB3 := Aside0.mk hb3
  have HB4 := Aside0.mk hb4
  clear hr1 hr3 hr4 hc1 hc3 hc4 hb1 hb3 hb4 hfl hML
  have HX : Aside0 (∀ (W : World) b, (fun _ : Nat => False) b → b < W.heap.size) := ⟨fun _ _ h => h.elim⟩
  have H0 : Aside0 (Sep w (fun _ => False) [] w) := ⟨Sep.start (Below.refl _ _) _⟩
  have hN := H0.out.new (HX.out _) (.cells #[.int .i64 v1, .slice A1 l1.length c1, .int .i64 v2, .slice A2 l2.length c2, .slice A3 part.length c3, .slice A4 m.length c4] 61 (0, 0))
  obtain ⟨Ba, hBa⟩ : ∃ q, q = w.heap.size := ⟨_, rfl⟩
  rw [← hBa] at hN
  have HBB := Aside0.mk hBa
  clear hBa
  obtain ⟨V0, hV0⟩ : ∃ V, V = w.alloc (.cells #[.int .i64 v1, .slice A1 l1.length c1, .int .i64 v2, .slice A2 l2.length c2, .slice A3 part.length c3, .slice A4 m.length c4] 61 (0, 0)) := ⟨_, rfl⟩
  rw [← hV0] at hN
  have HV0 := Aside0.mk hV0
  have H1 : Aside0 (Sep w (fun _ => False) [aB Ba v1 (.slice A1 l1.length c1) v2 (.slice A2 l2.length c2) (.slice A3 part.length c3) (.slice A4 m.length c4)] V0) := ⟨hN⟩
  clear H0
  clear hN hV0
  refine (callsIn_wide (n := 12)).1 ?_
  refine callsIn_of_wp_marks Try.func12 rfl trivial ?_ rfl
  refine wpIn_wide.2 ?_
  refine wp_noPanic ?_
  simp only [Try.ntmps12, List.size_toArray, List.length_cons, List.length_nil, Nat.reduceAdd, Nat.reduceSub, Array.replicate_succ, Array.replicate_zero, List.push_toArray, List.append_toArray, List.nil_append, List.cons_append]
  go_wp2_with (go_at_call 17; refine HoldU.out ?_)
  refine ⟨?_⟩
  rw [← HV0.out, ← HBB.out]
  refine (small_c _).mono ?_
  rintro e W2 ⟨As, cs, rfl, hC, hc, hb⟩
  have HS1 := Aside0.mk (And.intro hC hc)
  have H3 : Aside0 (Sep w (fun _ => False) [aB Ba v1 (.slice A1 l1.length c1) v2 (.slice A2 l2.length c2) (.slice A3 part.length c3) (.slice A4 m.length c4)] W2) := ⟨H1.out.keep hb⟩
  clear H1
  clear hC hc hb HV0 HBB
  go_wp2_with (go_at_call 16; refine HoldU.out ?_)
  refine ⟨?_⟩
  have hf2 : isFormula 2 [[1, 2], [-1]] = true := by decide
  refine (formed_n (l := [[1, 2], [-1]]) ⟨by decide, by decide⟩ 2 As cs _ HS1.out.1 HS1.out.2 rfl).mono ?_
  rintro e W4 ⟨rfl, hb⟩
  rw [hf2]
  have H5 : Aside0 (Sep w (fun _ => False) [aB Ba v1 (.slice A1 l1.length c1) v2 (.slice A2 l2.length c2) (.slice A3 part.length c3) (.slice A4 m.length c4)] W4) := ⟨H3.out.keep hb⟩
  clear H3
  clear hb HS1 hf2
  go_upto_region 3 with fail
  have H6 : Aside0 (Sep w (fun _ => False) [aB Ba v1 (.slice A1 l1.length c1) v2 (.slice A2 l2.length c2) (.slice A3 part.length c3) (.slice A4 m.length c4), .emp, .emp, .emp, .emp, .emp, .emp] W4) := ⟨H5.out.pad 6⟩
  clear H5
  go_cut [3, 4, 5] from 20 (fun s3 s4 s5 wx => ∃ (Bx : Nat) (Awx Arx : Option Addr) (cwx crx nwx nrx : Nat) (Tx Mx : List LRow) (Ap : Option Addr) (np cp : Nat) (Am : Option Addr) (nm cm : Nat), s3 = .pointer (some ⟨Bx, 0, none⟩) ∧ s4 = .slice Ap np cp ∧ s5 = .slice Am nm cm ∧ Aside0 (LF l1 Tx Mx nwx nrx) ∧ Aside0 ((part.length : Int) ≤ (cp : Int) ∧ (m.length : Int) ≤ (cm : Int)) ∧ Aside0 (Sep w (fun _ => False) [aB Ba v1 (.slice A1 l1.length c1) v2 (.slice A2 l2.length c2) (.slice A3 part.length c3) (.slice A4 m.length c4), headA (.slice Awx nwx cwx) ((Tx ++ Mx).map LRow.shown), headA (.slice Arx nrx crx) (Tx.map LRow.all), dataA (Tx ++ Mx), rI (.slice Ap np cp) (lentOf part), rB (.slice Am nm cm) (lentB m), xB Bx (.slice Awx l1.length cwx) (.slice Awx nwx cwx) (.slice Arx nrx crx)] wx))
  case first =>
    as_aux_lemma =>
    have hmx : Try.prog.follows .mixedOrders = true := by kernel_rfl
    have K0 : Aside0 (Sep w (fun _ => False) [aB Ba v1 (.slice A1 l1.length c1) v2 (.slice A2 l2.length c2) (.slice A3 part.length c3) (.slice A4 m.length c4), .emp, .emp, .emp, .emp, .emp, .emp] W4.drew) := ⟨H6.out.keep (below_drew (Below.refl _ _))⟩
    clear H6
    refine wp_region_H (S := fun W' => W'.cell? ⟨Ba, 1, none⟩ = some (.slice A1 l1.length c1) ∧ W'.cell? ⟨Ba, 4, none⟩ = some (.slice A3 part.length c3) ∧ W'.cell? ⟨Ba, 5, none⟩ = some (.slice A4 m.length c4)) hmx ?_
    generalize W4.drew = X0 at K0 ⊢
    have hS0 : X0.cell? ⟨Ba, 1, none⟩ = some (.slice A1 l1.length c1) ∧ X0.cell? ⟨Ba, 4, none⟩ = some (.slice A3 part.length c3) ∧ X0.cell? ⟨Ba, 5, none⟩ = some (.slice A4 m.length c4) := ⟨K0.out.cell 0 1 rfl, K0.out.cell 0 4 rfl, K0.out.cell 0 5 rfl⟩
    refine wpAnyH_takeA (i := 0) (v := .pointer (some ⟨Ba, 0, none⟩)) 23 rfl rfl (by kernel_rfl) (by kernel_rfl) (by kernel_rfl) (fun _ _ _ h => h) (.inl ⟨by rfl, fun W' hS => by obtain ⟨s0, s1, s2⟩ := hS; go_simp⟩) hS0 ?_
    intro A' hA; simp at hA; subst hA
    refine wpAnyH_takeA (i := 1) (v := .pointer (some ⟨Ba, 1, none⟩)) 24 rfl rfl (by kernel_rfl) (by kernel_rfl) (by kernel_rfl) (fun _ _ _ h => h) (.inl ⟨by rfl, fun W' hS => by obtain ⟨s0, s1, s2⟩ := hS; go_simp⟩) hS0 ?_
    intro A' hA; simp at hA; subst hA
    refine wpAnyH_takeA (i := 2) (v := .slice A1 l1.length c1) 25 rfl rfl (by kernel_rfl) (by kernel_rfl) (by kernel_rfl) (fun _ _ _ h => h) (.inl ⟨by rfl, fun W' hS => by obtain ⟨s0, s1, s2⟩ := hS; go_simp⟩) hS0 ?_
    intro A' hA; simp at hA; subst hA
    refine wpAnyH_takeA (i := 4) (v := .pointer (some ⟨Ba, 4, none⟩)) 27 rfl rfl (by kernel_rfl) (by kernel_rfl) (by kernel_rfl) (fun _ _ _ h => h) (.inl ⟨by rfl, fun W' hS => by obtain ⟨s0, s1, s2⟩ := hS; go_simp⟩) hS0 ?_
    intro A' hA; simp at hA; subst hA
    refine wpAnyH_takeA (i := 5) (v := .slice A3 part.length c3) 28 rfl rfl (by kernel_rfl) (by kernel_rfl) (by kernel_rfl) (fun _ _ _ h => h) (.inl ⟨by rfl, fun W' hS => by obtain ⟨s0, s1, s2⟩ := hS; go_simp⟩) hS0 ?_
    intro A' hA; simp at hA; subst hA
    refine wpAnyH_takeA (i := 7) (v := .pointer (some ⟨Ba, 5, none⟩)) 30 rfl rfl (by kernel_rfl) (by kernel_rfl) (by kernel_rfl) (fun _ _ _ h => h) (.inl ⟨by rfl, fun W' hS => by obtain ⟨s0, s1, s2⟩ := hS; go_simp⟩) hS0 ?_
    intro A' hA; simp at hA; subst hA
    refine wpAnyH_takeA (i := 8) (v := .slice A4 m.length c4) 31 rfl rfl (by kernel_rfl) (by kernel_rfl) (by kernel_rfl) (fun _ _ _ h => h) (.inl ⟨by rfl, fun W' hS => by obtain ⟨s0, s1, s2⟩ := hS; go_simp⟩) hS0 ?_
    intro A' hA; simp at hA; subst hA
    clear hS0
    refine wpAnyH_two (i := 3) (j := 10) (by kernel_rfl) rfl rfl (by rfl) (by rfl) (fun K' hK => ?_) (fun K' hK => ?_)
    · have HK := Aside0.mk hK
      clear hK
      go_simp
      refine (lent_n A1 c1 l1 _ (Kd.C_below HR1.out K0.out.hB) HC.out.1 HB1.out).mono ?_
      rintro e X7 ⟨Awx, Arx, cwx, crx, nwx, nrx, Tx, Mx, rfl, hF, hs⟩
      have HFx := Aside0.mk hF
      have hp := K0.out.fill3 hs 1 2 3 (HX.out _) (by decide) (by decide) (by decide)
      clear hF hs
      have K7 : Aside0 (Sep w (fun _ => False) [aB Ba v1 (.slice A1 l1.length c1) v2 (.slice A2 l2.length c2) (.slice A3 part.length c3) (.slice A4 m.length c4), headA (.slice Awx nwx cwx) ((Tx ++ Mx).map LRow.shown), headA (.slice Arx nrx crx) (Tx.map LRow.all), dataA (Tx ++ Mx), .emp, .emp, .emp] X7) := ⟨hp⟩
      clear K0
      refine HK.out _ _ ⟨K7.out.cell 0 1 rfl, K7.out.cell 0 4 rfl, K7.out.cell 0 5 rfl⟩ ?_
      clear HK
      refine wpAnyH_two (i := 6) (j := 10) (by kernel_rfl) rfl rfl (by rfl) (by rfl) (fun K' hK => ?_) (fun K' hK => ?_)
      · have HK := Aside0.mk hK
        clear hK
        go_simp
        refine (lent1_n A3 c3 part _ (Kd.C_below HR3.out K7.out.hB) HC.out.2.1 HB3.out).mono ?_
        rintro e X8 ⟨Ap, np, cp, rfl, hlp, hR, hb⟩
        have HLP := Aside0.mk hlp
        have hp := K7.out.fill 4 rfl hb (HX.out _) hR
        clear hlp hR hb
        have K8 : Aside0 (Sep w (fun _ => False) [aB Ba v1 (.slice A1 l1.length c1) v2 (.slice A2 l2.length c2) (.slice A3 part.length c3) (.slice A4 m.length c4), headA (.slice Awx nwx cwx) ((Tx ++ Mx).map LRow.shown), headA (.slice Arx nrx crx) (Tx.map LRow.all), dataA (Tx ++ Mx), rI (.slice Ap np cp) (lentOf part), .emp, .emp] X8) := ⟨hp⟩
        clear K7
        refine HK.out _ _ ⟨K8.out.cell 0 1 rfl, K8.out.cell 0 4 rfl, K8.out.cell 0 5 rfl⟩ ?_
        clear HK
        refine wpAnyH_two (i := 9) (j := 10) (by kernel_rfl) rfl rfl (by rfl) (by rfl) (fun K' hK => ?_) (fun K' hK => ?_)
        · have HK := Aside0.mk hK
          clear hK
          go_simp
          refine (lentB1_n A4 c4 m _ (Kd.C_below HR4.out K8.out.hB) HC.out.2.2 HB4.out).mono ?_
          rintro e X9 ⟨Am, nm, cm, rfl, hlm, hR, hb⟩
          have HLM := Aside0.mk hlm
          have hp := K8.out.fill 5 rfl hb (HX.out _) hR
          clear hlm hR hb
          have K9 : Aside0 (Sep w (fun _ => False) [aB Ba v1 (.slice A1 l1.length c1) v2 (.slice A2 l2.length c2) (.slice A3 part.length c3) (.slice A4 m.length c4), headA (.slice Awx nwx cwx) ((Tx ++ Mx).map LRow.shown), headA (.slice Arx nrx crx) (Tx.map LRow.all), dataA (Tx ++ Mx), rI (.slice Ap np cp) (lentOf part), rB (.slice Am nm cm) (lentB m), .emp] X9) := ⟨hp⟩
          clear K8
          refine HK.out _ _ ⟨K9.out.cell 0 1 rfl, K9.out.cell 0 4 rfl, K9.out.cell 0 5 rfl⟩ ?_
          clear HK
          refine wpAnyH_one (i := 10) (by kernel_rfl) rfl (by rfl) (fun K' hK => ?_)
          have HK := Aside0.mk hK
          clear hK
          go_simp
          have hp := K9.out.fillNew (HX.out _) 6 rfl (.cells #[.slice none 0 0, .slice none 0 0, .slice none 0 0] 33 (0, 0))
          generalize X9.alloc (.cells #[.slice none 0 0, .slice none 0 0, .slice none 0 0] 33) = X10 at hp ⊢
          generalize X9.heap.size = Bx at hp ⊢
          have K10 : Aside0 (Sep w (fun _ => False) [aB Ba v1 (.slice A1 l1.length c1) v2 (.slice A2 l2.length c2) (.slice A3 part.length c3) (.slice A4 m.length c4), headA (.slice Awx nwx cwx) ((Tx ++ Mx).map LRow.shown), headA (.slice Arx nrx crx) (Tx.map LRow.all), dataA (Tx ++ Mx), rI (.slice Ap np cp) (lentOf part), rB (.slice Am nm cm) (lentB m), xB Bx (.slice none 0 0) (.slice none 0 0) (.slice none 0 0)] X10) := ⟨hp⟩
          clear hp K9
          refine HK.out _ _ ⟨K10.out.cell 0 1 rfl, K10.out.cell 0 4 rfl, K10.out.cell 0 5 rfl⟩ ?_
          clear HK
          refine wpAnyH_one (i := 11) (by kernel_rfl) rfl (by rfl) (fun K' hK => ?_)
          have HK := Aside0.mk hK
          clear hK
          have k0 : X10.cell? ⟨Bx, 0, none⟩ = some (.slice none 0 0) := K10.out.cell 6 0 rfl
          have y0 : X10.frozen? ⟨Bx, 0, none⟩ = false := K10.out.frozen 6 0 rfl
          have k1 : X10.cell? ⟨Bx, 1, none⟩ = some (.slice none 0 0) := K10.out.cell 6 1 rfl
          have y1 : X10.frozen? ⟨Bx, 1, none⟩ = false := K10.out.frozen 6 1 rfl
          have k2 : X10.cell? ⟨Bx, 2, none⟩ = some (.slice none 0 0) := K10.out.cell 6 2 rfl
          have y2 : X10.frozen? ⟨Bx, 2, none⟩ = false := K10.out.frozen 6 2 rfl
          refine wp_store_run (t := 33) (.tmp 3) (.tmp 26) rfl rfl rfl rfl (storeRows k0 k1 k2 y0 y1 y2) ?_
          clear k0 k1 k2 y0 y1 y2
          have hp := (((K10.out.put (HX.out _) 6 0 rfl (.slice Awx l1.length cwx) rfl).put (HX.out _) 6 1 rfl (.slice Awx nwx cwx) rfl).put (HX.out _) 6 2 rfl (.slice Arx nrx crx) rfl)
          have K11 : Aside0 (Sep w (fun _ => False) [aB Ba v1 (.slice A1 l1.length c1) v2 (.slice A2 l2.length c2) (.slice A3 part.length c3) (.slice A4 m.length c4), headA (.slice Awx nwx cwx) ((Tx ++ Mx).map LRow.shown), headA (.slice Arx nrx crx) (Tx.map LRow.all), dataA (Tx ++ Mx), rI (.slice Ap np cp) (lentOf part), rB (.slice Am nm cm) (lentB m), xB Bx (.slice Awx l1.length cwx) (.slice Awx nwx cwx) (.slice Arx nrx crx)] (((X10.setCell ⟨Bx, 0, none⟩ (.slice Awx l1.length cwx)).setCell ⟨Bx, 1, none⟩ (.slice Awx nwx cwx)).setCell ⟨Bx, 2, none⟩ (.slice Arx nrx crx))) := ⟨hp⟩
          clear hp K10
          generalize (((X10.setCell ⟨Bx, 0, none⟩ (.slice Awx l1.length cwx)).setCell ⟨Bx, 1, none⟩ (.slice Awx nwx cwx)).setCell ⟨Bx, 2, none⟩ (.slice Arx nrx crx)) = X11 at K11 ⊢
          refine HK.out _ _ ⟨K11.out.cell 0 1 rfl, K11.out.cell 0 4 rfl, K11.out.cell 0 5 rfl⟩ ?_
          clear HK
          have hS0 : X11.cell? ⟨Ba, 1, none⟩ = some (.slice A1 l1.length c1) ∧ X11.cell? ⟨Ba, 4, none⟩ = some (.slice A3 part.length c3) ∧ X11.cell? ⟨Ba, 5, none⟩ = some (.slice A4 m.length c4) := ⟨K11.out.cell 0 1 rfl, K11.out.cell 0 4 rfl, K11.out.cell 0 5 rfl⟩
          refine wpAnyH_takeA (i := 12) (v := .slice Ap np cp) 4 rfl rfl (by kernel_rfl) (by kernel_rfl) (by kernel_rfl) (fun _ _ _ h => h) (.inl ⟨by rfl, fun W' hS => by obtain ⟨s0, s1, s2⟩ := hS; go_simp⟩) hS0 ?_
          intro A' hA; simp at hA; subst hA
          refine wpAnyH_takeA (i := 13) (v := .slice Am nm cm) 5 rfl rfl (by kernel_rfl) (by kernel_rfl) (by kernel_rfl) (fun _ _ _ h => h) (.inl ⟨by rfl, fun W' hS => by obtain ⟨s0, s1, s2⟩ := hS; go_simp⟩) hS0 ?_
          intro A' hA; simp at hA; subst hA
          clear hS0
          refine wpAnyH_done (by kernel_rfl) ?_ _
          go_wp2_with fail
          go_meet
          case rel => exact ⟨Bx, Awx, Arx, cwx, crx, nwx, nrx, Tx, Mx, Ap, np, cp, Am, nm, cm, rfl, rfl, rfl, HFx, ⟨HLP.out, HLM.out⟩, K11⟩
        · have HK := Aside0.mk hK
          clear hK
          go_simp
          have hp := K8.out.fillNew (HX.out _) 6 rfl (.cells #[.slice none 0 0, .slice none 0 0, .slice none 0 0] 33 (0, 0))
          generalize X8.alloc (.cells #[.slice none 0 0, .slice none 0 0, .slice none 0 0] 33) = X12 at hp ⊢
          generalize X8.heap.size = Bx at hp ⊢
          have K12 : Aside0 (Sep w (fun _ => False) [aB Ba v1 (.slice A1 l1.length c1) v2 (.slice A2 l2.length c2) (.slice A3 part.length c3) (.slice A4 m.length c4), headA (.slice Awx nwx cwx) ((Tx ++ Mx).map LRow.shown), headA (.slice Arx nrx crx) (Tx.map LRow.all), dataA (Tx ++ Mx), rI (.slice Ap np cp) (lentOf part), .emp, xB Bx (.slice none 0 0) (.slice none 0 0) (.slice none 0 0)] X12) := ⟨hp⟩
          clear hp K8
          refine HK.out _ _ ⟨K12.out.cell 0 1 rfl, K12.out.cell 0 4 rfl, K12.out.cell 0 5 rfl⟩ ?_
          clear HK
          refine wpAnyH_one (i := 9) (by kernel_rfl) rfl (by rfl) (fun K' hK => ?_)
          have HK := Aside0.mk hK
          clear hK
          go_simp
          refine (lentB1_n A4 c4 m _ (Kd.C_below HR4.out K12.out.hB) HC.out.2.2 HB4.out).mono ?_
          rintro e X13 ⟨Am, nm, cm, rfl, hlm, hR, hb⟩
          have HLM := Aside0.mk hlm
          have hp := K12.out.fill 5 rfl hb (HX.out _) hR
          clear hlm hR hb
          have K13 : Aside0 (Sep w (fun _ => False) [aB Ba v1 (.slice A1 l1.length c1) v2 (.slice A2 l2.length c2) (.slice A3 part.length c3) (.slice A4 m.length c4), headA (.slice Awx nwx cwx) ((Tx ++ Mx).map LRow.shown), headA (.slice Arx nrx crx) (Tx.map LRow.all), dataA (Tx ++ Mx), rI (.slice Ap np cp) (lentOf part), rB (.slice Am nm cm) (lentB m), xB Bx (.slice none 0 0) (.slice none 0 0) (.slice none 0 0)] X13) := ⟨hp⟩
          clear K12
          refine HK.out _ _ ⟨K13.out.cell 0 1 rfl, K13.out.cell 0 4 rfl, K13.out.cell 0 5 rfl⟩ ?_
          clear HK
          refine wpAnyH_one (i := 11) (by kernel_rfl) rfl (by rfl) (fun K' hK => ?_)
          have HK := Aside0.mk hK
          clear hK
          have k0 : X13.cell? ⟨Bx, 0, none⟩ = some (.slice none 0 0) := K13.out.cell 6 0 rfl
          have y0 : X13.frozen? ⟨Bx, 0, none⟩ = false := K13.out.frozen 6 0 rfl
          have k1 : X13.cell? ⟨Bx, 1, none⟩ = some (.slice none 0 0) := K13.out.cell 6 1 rfl
          have y1 : X13.frozen? ⟨Bx, 1, none⟩ = false := K13.out.frozen 6 1 rfl
          have k2 : X13.cell? ⟨Bx, 2, none⟩ = some (.slice none 0 0) := K13.out.cell 6 2 rfl
          have y2 : X13.frozen? ⟨Bx, 2, none⟩ = false := K13.out.frozen 6 2 rfl
          refine wp_store_run (t := 33) (.tmp 3) (.tmp 26) rfl rfl rfl rfl (storeRows k0 k1 k2 y0 y1 y2) ?_
          clear k0 k1 k2 y0 y1 y2
          have hp := (((K13.out.put (HX.out _) 6 0 rfl (.slice Awx l1.length cwx) rfl).put (HX.out _) 6 1 rfl (.slice Awx nwx cwx) rfl).put (HX.out _) 6 2 rfl (.slice Arx nrx crx) rfl)
          have K14 : Aside0 (Sep w (fun _ => False) [aB Ba v1 (.slice A1 l1.length c1) v2 (.slice A2 l2.length c2) (.slice A3 part.length c3) (.slice A4 m.length c4), headA (.slice Awx nwx cwx) ((Tx ++ Mx).map LRow.shown), headA (.slice Arx nrx crx) (Tx.map LRow.all), dataA (Tx ++ Mx), rI (.slice Ap np cp) (lentOf part), rB (.slice Am nm cm) (lentB m), xB Bx (.slice Awx l1.length cwx) (.slice Awx nwx cwx) (.slice Arx nrx crx)] (((X13.setCell ⟨Bx, 0, none⟩ (.slice Awx l1.length cwx)).setCell ⟨Bx, 1, none⟩ (.slice Awx nwx cwx)).setCell ⟨Bx, 2, none⟩ (.slice Arx nrx crx))) := ⟨hp⟩
          clear hp K13
          generalize (((X13.setCell ⟨Bx, 0, none⟩ (.slice Awx l1.length cwx)).setCell ⟨Bx, 1, none⟩ (.slice Awx nwx cwx)).setCell ⟨Bx, 2, none⟩ (.slice Arx nrx crx)) = X14 at K14 ⊢
          refine HK.out _ _ ⟨K14.out.cell 0 1 rfl, K14.out.cell 0 4 rfl, K14.out.cell 0 5 rfl⟩ ?_
          clear HK
          have hS0 : X14.cell? ⟨Ba, 1, none⟩ = some (.slice A1 l1.length c1) ∧ X14.cell? ⟨Ba, 4, none⟩ = some (.slice A3 part.length c3) ∧ X14.cell? ⟨Ba, 5, none⟩ = some (.slice A4 m.length c4) := ⟨K14.out.cell 0 1 rfl, K14.out.cell 0 4 rfl, K14.out.cell 0 5 rfl⟩
          refine wpAnyH_takeA (i := 12) (v := .slice Ap np cp) 4 rfl rfl (by kernel_rfl) (by kernel_rfl) (by kernel_rfl) (fun _ _ _ h => h) (.inl ⟨by rfl, fun W' hS => by obtain ⟨s0, s1, s2⟩ := hS; go_simp⟩) hS0 ?_
          intro A' hA; simp at hA; subst hA
          refine wpAnyH_takeA (i := 13) (v := .slice Am nm cm) 5 rfl rfl (by kernel_rfl) (by kernel_rfl) (by kernel_rfl) (fun _ _ _ h => h) (.inl ⟨by rfl, fun W' hS => by obtain ⟨s0, s1, s2⟩ := hS; go_simp⟩) hS0 ?_
          intro A' hA; simp at hA; subst hA
          clear hS0
          refine wpAnyH_done (by kernel_rfl) ?_ _
          go_wp2_with fail
          go_meet
          case rel => exact ⟨Bx, Awx, Arx, cwx, crx, nwx, nrx, Tx, Mx, Ap, np, cp, Am, nm, cm, rfl, rfl, rfl, HFx, ⟨HLP.out, HLM.out⟩, K14⟩
      · have HK := Aside0.mk hK
        clear hK
        go_simp
        have hp := K7.out.fillNew (HX.out _) 6 rfl (.cells #[.slice none 0 0, .slice none 0 0, .slice none 0 0] 33 (0, 0))
        generalize X7.alloc (.cells #[.slice none 0 0, .slice none 0 0, .slice none 0 0] 33) = X15 at hp ⊢
        generalize X7.heap.size = Bx at hp ⊢
        have K15 : Aside0 (Sep w (fun _ => False) [aB Ba v1 (.slice A1 l1.length c1) v2 (.slice A2 l2.length c2) (.slice A3 part.length c3) (.slice A4 m.length c4), headA (.slice Awx nwx cwx) ((Tx ++ Mx).map LRow.shown), headA (.slice Arx nrx crx) (Tx.map LRow.all), dataA (Tx ++ Mx), .emp, .emp, xB Bx (.slice none 0 0) (.slice none 0 0) (.slice none 0 0)] X15) := ⟨hp⟩
        clear hp K7
        refine HK.out _ _ ⟨K15.out.cell 0 1 rfl, K15.out.cell 0 4 rfl, K15.out.cell 0 5 rfl⟩ ?_
        clear HK
        refine wpAnyH_one (i := 6) (by kernel_rfl) rfl (by rfl) (fun K' hK => ?_)
        have HK := Aside0.mk hK
        clear hK
        go_simp
        refine (lent1_n A3 c3 part _ (Kd.C_below HR3.out K15.out.hB) HC.out.2.1 HB3.out).mono ?_
        rintro e X16 ⟨Ap, np, cp, rfl, hlp, hR, hb⟩
        have HLP := Aside0.mk hlp
        have hp := K15.out.fill 4 rfl hb (HX.out _) hR
        clear hlp hR hb
        have K16 : Aside0 (Sep w (fun _ => False) [aB Ba v1 (.slice A1 l1.length c1) v2 (.slice A2 l2.length c2) (.slice A3 part.length c3) (.slice A4 m.length c4), headA (.slice Awx nwx cwx) ((Tx ++ Mx).map LRow.shown), headA (.slice Arx nrx crx) (Tx.map LRow.all), dataA (Tx ++ Mx), rI (.slice Ap np cp) (lentOf part), .emp, xB Bx (.slice none 0 0) (.slice none 0 0) (.slice none 0 0)] X16) := ⟨hp⟩
        clear K15
        refine HK.out _ _ ⟨K16.out.cell 0 1 rfl, K16.out.cell 0 4 rfl, K16.out.cell 0 5 rfl⟩ ?_
        clear HK
        refine wpAnyH_one (i := 9) (by kernel_rfl) rfl (by rfl) (fun K' hK => ?_)
        have HK := Aside0.mk hK
        clear hK
        go_simp
        refine (lentB1_n A4 c4 m _ (Kd.C_below HR4.out K16.out.hB) HC.out.2.2 HB4.out).mono ?_
        rintro e X17 ⟨Am, nm, cm, rfl, hlm, hR, hb⟩
        have HLM := Aside0.mk hlm
        have hp := K16.out.fill 5 rfl hb (HX.out _) hR
        clear hlm hR hb
        have K17 : Aside0 (Sep w (fun _ => False) [aB Ba v1 (.slice A1 l1.length c1) v2 (.slice A2 l2.length c2) (.slice A3 part.length c3) (.slice A4 m.length c4), headA (.slice Awx nwx cwx) ((Tx ++ Mx).map LRow.shown), headA (.slice Arx nrx crx) (Tx.map LRow.all), dataA (Tx ++ Mx), rI (.slice Ap np cp) (lentOf part), rB (.slice Am nm cm) (lentB m), xB Bx (.slice none 0 0) (.slice none 0 0) (.slice none 0 0)] X17) := ⟨hp⟩
        clear K16
        refine HK.out _ _ ⟨K17.out.cell 0 1 rfl, K17.out.cell 0 4 rfl, K17.out.cell 0 5 rfl⟩ ?_
        clear HK
        refine wpAnyH_one (i := 11) (by kernel_rfl) rfl (by rfl) (fun K' hK => ?_)
        have HK := Aside0.mk hK
        clear hK
        have k0 : X17.cell? ⟨Bx, 0, none⟩ = some (.slice none 0 0) := K17.out.cell 6 0 rfl
        have y0 : X17.frozen? ⟨Bx, 0, none⟩ = false := K17.out.frozen 6 0 rfl
        have k1 : X17.cell? ⟨Bx, 1, none⟩ = some (.slice none 0 0) := K17.out.cell 6 1 rfl
        have y1 : X17.frozen? ⟨Bx, 1, none⟩ = false := K17.out.frozen 6 1 rfl
        have k2 : X17.cell? ⟨Bx, 2, none⟩ = some (.slice none 0 0) := K17.out.cell 6 2 rfl
        have y2 : X17.frozen? ⟨Bx, 2, none⟩ = false := K17.out.frozen 6 2 rfl
        refine wp_store_run (t := 33) (.tmp 3) (.tmp 26) rfl rfl rfl rfl (storeRows k0 k1 k2 y0 y1 y2) ?_
        clear k0 k1 k2 y0 y1 y2
        have hp := (((K17.out.put (HX.out _) 6 0 rfl (.slice Awx l1.length cwx) rfl).put (HX.out _) 6 1 rfl (.slice Awx nwx cwx) rfl).put (HX.out _) 6 2 rfl (.slice Arx nrx crx) rfl)
        have K18 : Aside0 (Sep w (fun _ => False) [aB Ba v1 (.slice A1 l1.length c1) v2 (.slice A2 l2.length c2) (.slice A3 part.length c3) (.slice A4 m.length c4), headA (.slice Awx nwx cwx) ((Tx ++ Mx).map LRow.shown), headA (.slice Arx nrx crx) (Tx.map LRow.all), dataA (Tx ++ Mx), rI (.slice Ap np cp) (lentOf part), rB (.slice Am nm cm) (lentB m), xB Bx (.slice Awx l1.length cwx) (.slice Awx nwx cwx) (.slice Arx nrx crx)] (((X17.setCell ⟨Bx, 0, none⟩ (.slice Awx l1.length cwx)).setCell ⟨Bx, 1, none⟩ (.slice Awx nwx cwx)).setCell ⟨Bx, 2, none⟩ (.slice Arx nrx crx))) := ⟨hp⟩
        clear hp K17
        generalize (((X17.setCell ⟨Bx, 0, none⟩ (.slice Awx l1.length cwx)).setCell ⟨Bx, 1, none⟩ (.slice Awx nwx cwx)).setCell ⟨Bx, 2, none⟩ (.slice Arx nrx crx)) = X18 at K18 ⊢
        refine HK.out _ _ ⟨K18.out.cell 0 1 rfl, K18.out.cell 0 4 rfl, K18.out.cell 0 5 rfl⟩ ?_
        clear HK
        have hS0 : X18.cell? ⟨Ba, 1, none⟩ = some (.slice A1 l1.length c1) ∧ X18.cell? ⟨Ba, 4, none⟩ = some (.slice A3 part.length c3) ∧ X18.cell? ⟨Ba, 5, none⟩ = some (.slice A4 m.length c4) := ⟨K18.out.cell 0 1 rfl, K18.out.cell 0 4 rfl, K18.out.cell 0 5 rfl⟩
        refine wpAnyH_takeA (i := 12) (v := .slice Ap np cp) 4 rfl rfl (by kernel_rfl) (by kernel_rfl) (by kernel_rfl) (fun _ _ _ h => h) (.inl ⟨by rfl, fun W' hS => by obtain ⟨s0, s1, s2⟩ := hS; go_simp⟩) hS0 ?_
        intro A' hA; simp at hA; subst hA
        refine wpAnyH_takeA (i := 13) (v := .slice Am nm cm) 5 rfl rfl (by kernel_rfl) (by kernel_rfl) (by kernel_rfl) (fun _ _ _ h => h) (.inl ⟨by rfl, fun W' hS => by obtain ⟨s0, s1, s2⟩ := hS; go_simp⟩) hS0 ?_
        intro A' hA; simp at hA; subst hA
        clear hS0
        refine wpAnyH_done (by kernel_rfl) ?_ _
        go_wp2_with fail
        go_meet
        case rel => exact ⟨Bx, Awx, Arx, cwx, crx, nwx, nrx, Tx, Mx, Ap, np, cp, Am, nm, cm, rfl, rfl, rfl, HFx, ⟨HLP.out, HLM.out⟩, K18⟩
    · have HK := Aside0.mk hK
      clear hK
      go_simp
      have hp := K0.out.fillNew (HX.out _) 6 rfl (.cells #[.slice none 0 0, .slice none 0 0, .slice none 0 0] 33 (0, 0))
      generalize X0.alloc (.cells #[.slice none 0 0, .slice none 0 0, .slice none 0 0] 33) = X19 at hp ⊢
      generalize X0.heap.size = Bx at hp ⊢
      have K19 : Aside0 (Sep w (fun _ => False) [aB Ba v1 (.slice A1 l1.length c1) v2 (.slice A2 l2.length c2) (.slice A3 part.length c3) (.slice A4 m.length c4), .emp, .emp, .emp, .emp, .emp, xB Bx (.slice none 0 0) (.slice none 0 0) (.slice none 0 0)] X19) := ⟨hp⟩
      clear hp K0
      refine HK.out _ _ ⟨K19.out.cell 0 1 rfl, K19.out.cell 0 4 rfl, K19.out.cell 0 5 rfl⟩ ?_
      clear HK
      refine wpAnyH_one (i := 3) (by kernel_rfl) rfl (by rfl) (fun K' hK => ?_)
      have HK := Aside0.mk hK
      clear hK
      go_simp
      refine (lent_n A1 c1 l1 _ (Kd.C_below HR1.out K19.out.hB) HC.out.1 HB1.out).mono ?_
      rintro e X20 ⟨Awx, Arx, cwx, crx, nwx, nrx, Tx, Mx, rfl, hF, hs⟩
      have HFx := Aside0.mk hF
      have hp := K19.out.fill3 hs 1 2 3 (HX.out _) (by decide) (by decide) (by decide)
      clear hF hs
      have K20 : Aside0 (Sep w (fun _ => False) [aB Ba v1 (.slice A1 l1.length c1) v2 (.slice A2 l2.length c2) (.slice A3 part.length c3) (.slice A4 m.length c4), headA (.slice Awx nwx cwx) ((Tx ++ Mx).map LRow.shown), headA (.slice Arx nrx crx) (Tx.map LRow.all), dataA (Tx ++ Mx), .emp, .emp, xB Bx (.slice none 0 0) (.slice none 0 0) (.slice none 0 0)] X20) := ⟨hp⟩
      clear K19
      refine HK.out _ _ ⟨K20.out.cell 0 1 rfl, K20.out.cell 0 4 rfl, K20.out.cell 0 5 rfl⟩ ?_
      clear HK
      refine wpAnyH_one (i := 6) (by kernel_rfl) rfl (by rfl) (fun K' hK => ?_)
      have HK := Aside0.mk hK
      clear hK
      go_simp
      refine (lent1_n A3 c3 part _ (Kd.C_below HR3.out K20.out.hB) HC.out.2.1 HB3.out).mono ?_
      rintro e X21 ⟨Ap, np, cp, rfl, hlp, hR, hb⟩
      have HLP := Aside0.mk hlp
      have hp := K20.out.fill 4 rfl hb (HX.out _) hR
      clear hlp hR hb
      have K21 : Aside0 (Sep w (fun _ => False) [aB Ba v1 (.slice A1 l1.length c1) v2 (.slice A2 l2.length c2) (.slice A3 part.length c3) (.slice A4 m.length c4), headA (.slice Awx nwx cwx) ((Tx ++ Mx).map LRow.shown), headA (.slice Arx nrx crx) (Tx.map LRow.all), dataA (Tx ++ Mx), rI (.slice Ap np cp) (lentOf part), .emp, xB Bx (.slice none 0 0) (.slice none 0 0) (.slice none 0 0)] X21) := ⟨hp⟩
      clear K20
      refine HK.out _ _ ⟨K21.out.cell 0 1 rfl, K21.out.cell 0 4 rfl, K21.out.cell 0 5 rfl⟩ ?_
      clear HK
      refine wpAnyH_one (i := 9) (by kernel_rfl) rfl (by rfl) (fun K' hK => ?_)
      have HK := Aside0.mk hK
      clear hK
      go_simp
      refine (lentB1_n A4 c4 m _ (Kd.C_below HR4.out K21.out.hB) HC.out.2.2 HB4.out).mono ?_
      rintro e X22 ⟨Am, nm, cm, rfl, hlm, hR, hb⟩
      have HLM := Aside0.mk hlm
      have hp := K21.out.fill 5 rfl hb (HX.out _) hR
      clear hlm hR hb
      have K22 : Aside0 (Sep w (fun _ => False) [aB Ba v1 (.slice A1 l1.length c1) v2 (.slice A2 l2.length c2) (.slice A3 part.length c3) (.slice A4 m.length c4), headA (.slice Awx nwx cwx) ((Tx ++ Mx).map LRow.shown), headA (.slice Arx nrx crx) (Tx.map LRow.all), dataA (Tx ++ Mx), rI (.slice Ap np cp) (lentOf part), rB (.slice Am nm cm) (lentB m), xB Bx (.slice none 0 0) (.slice none 0 0) (.slice none 0 0)] X22) := ⟨hp⟩
      clear K21
      refine HK.out _ _ ⟨K22.out.cell 0 1 rfl, K22.out.cell 0 4 rfl, K22.out.cell 0 5 rfl⟩ ?_
      clear HK
      refine wpAnyH_one (i := 11) (by kernel_rfl) rfl (by rfl) (fun K' hK => ?_)
      have HK := Aside0.mk hK
      clear hK
      have k0 : X22.cell? ⟨Bx, 0, none⟩ = some (.slice none 0 0) := K22.out.cell 6 0 rfl
      have y0 : X22.frozen? ⟨Bx, 0, none⟩ = false := K22.out.frozen 6 0 rfl
      have k1 : X22.cell? ⟨Bx, 1, none⟩ = some (.slice none 0 0) := K22.out.cell 6 1 rfl
      have y1 : X22.frozen? ⟨Bx, 1, none⟩ = false := K22.out.frozen 6 1 rfl
      have k2 : X22.cell? ⟨Bx, 2, none⟩ = some (.slice none 0 0) := K22.out.cell 6 2 rfl
      have y2 : X22.frozen? ⟨Bx, 2, none⟩ = false := K22.out.frozen 6 2 rfl
      refine wp_store_run (t := 33) (.tmp 3) (.tmp 26) rfl rfl rfl rfl (storeRows k0 k1 k2 y0 y1 y2) ?_
      clear k0 k1 k2 y0 y1 y2
      have hp := (((K22.out.put (HX.out _) 6 0 rfl (.slice Awx l1.length cwx) rfl).put (HX.out _) 6 1 rfl (.slice Awx nwx cwx) rfl).put (HX.out _) 6 2 rfl (.slice Arx nrx crx) rfl)
      have K23 : Aside0 (Sep w (fun _ => False) [aB Ba v1 (.slice A1 l1.length c1) v2 (.slice A2 l2.length c2) (.slice A3 part.length c3) (.slice A4 m.length c4), headA (.slice Awx nwx cwx) ((Tx ++ Mx).map LRow.shown), headA (.slice Arx nrx crx) (Tx.map LRow.all), dataA (Tx ++ Mx), rI (.slice Ap np cp) (lentOf part), rB (.slice Am nm cm) (lentB m), xB Bx (.slice Awx l1.length cwx) (.slice Awx nwx cwx) (.slice Arx nrx crx)] (((X22.setCell ⟨Bx, 0, none⟩ (.slice Awx l1.length cwx)).setCell ⟨Bx, 1, none⟩ (.slice Awx nwx cwx)).setCell ⟨Bx, 2, none⟩ (.slice Arx nrx crx))) := ⟨hp⟩
      clear hp K22
      generalize (((X22.setCell ⟨Bx, 0, none⟩ (.slice Awx l1.length cwx)).setCell ⟨Bx, 1, none⟩ (.slice Awx nwx cwx)).setCell ⟨Bx, 2, none⟩ (.slice Arx nrx crx)) = X23 at K23 ⊢
      refine HK.out _ _ ⟨K23.out.cell 0 1 rfl, K23.out.cell 0 4 rfl, K23.out.cell 0 5 rfl⟩ ?_
      clear HK
      have hS0 : X23.cell? ⟨Ba, 1, none⟩ = some (.slice A1 l1.length c1) ∧ X23.cell? ⟨Ba, 4, none⟩ = some (.slice A3 part.length c3) ∧ X23.cell? ⟨Ba, 5, none⟩ = some (.slice A4 m.length c4) := ⟨K23.out.cell 0 1 rfl, K23.out.cell 0 4 rfl, K23.out.cell 0 5 rfl⟩
      refine wpAnyH_takeA (i := 12) (v := .slice Ap np cp) 4 rfl rfl (by kernel_rfl) (by kernel_rfl) (by kernel_rfl) (fun _ _ _ h => h) (.inl ⟨by rfl, fun W' hS => by obtain ⟨s0, s1, s2⟩ := hS; go_simp⟩) hS0 ?_
      intro A' hA; simp at hA; subst hA
      refine wpAnyH_takeA (i := 13) (v := .slice Am nm cm) 5 rfl rfl (by kernel_rfl) (by kernel_rfl) (by kernel_rfl) (fun _ _ _ h => h) (.inl ⟨by rfl, fun W' hS => by obtain ⟨s0, s1, s2⟩ := hS; go_simp⟩) hS0 ?_
      intro A' hA; simp at hA; subst hA
      clear hS0
      refine wpAnyH_done (by kernel_rfl) ?_ _
      go_wp2_with fail
      go_meet
      case rel => exact ⟨Bx, Awx, Arx, cwx, crx, nwx, nrx, Tx, Mx, Ap, np, cp, Am, nm, cm, rfl, rfl, rfl, HFx, ⟨HLP.out, HLM.out⟩, K23⟩
  case rest =>
    clear H6
    obtain ⟨Bx, Awx, Arx, cwx, crx, nwx, nrx, Tx, Mx, Ap, np, cp, Am, nm, cm, rfl, rfl, rfl, HFx, HLL, Hr3⟩ := hcut
    generalize wc = Wr3 at Hr3 ⊢
    have q0 : Wr3.cell? ⟨Ba, 0, none⟩ = some (.int .i64 v1) := Hr3.out.cell 0 0 rfl
    have q1 : Wr3.cell? ⟨Bx, 0, none⟩ = some (.slice Awx l1.length cwx) := Hr3.out.cell 6 0 rfl
    go_upto_region 5 with fail
    clear q0 q1
    have hp := Hr3.out.new (HX.out _) (.cells #[.int .i64 v1, .slice Awx l1.length cwx] 24 (0, 0))
    generalize Wr3.alloc (.cells #[.int .i64 v1, .slice Awx l1.length cwx] 24) = W24 at hp ⊢
    generalize Wr3.heap.size = Bi at hp ⊢
    have H25 : Aside0 (Sep w (fun _ => False) [aB Ba v1 (.slice A1 l1.length c1) v2 (.slice A2 l2.length c2) (.slice A3 part.length c3) (.slice A4 m.length c4), headA (.slice Awx nwx cwx) ((Tx ++ Mx).map LRow.shown), headA (.slice Arx nrx crx) (Tx.map LRow.all), dataA (Tx ++ Mx), rI (.slice Ap np cp) (lentOf part), rB (.slice Am nm cm) (lentB m), xB Bx (.slice Awx l1.length cwx) (.slice Awx nwx cwx) (.slice Arx nrx crx), fB Bi v1 (.slice Awx l1.length cwx)] W24) := ⟨hp⟩
    clear Hr3
    clear hp
    have q2 : W24.cell? ⟨Bi, 0, none⟩ = some (.int .i64 v1) := H25.out.cell 7 0 rfl
    have q3 : W24.cell? ⟨Bi, 1, none⟩ = some (.slice Awx l1.length cwx) := H25.out.cell 7 1 rfl
    go_wp2_with (go_at_call 16; refine HoldU.out ?_)
    refine ⟨?_⟩
    clear q2 q3
    refine (formed_n HB1.out v1 Awx cwx _ (HFx.out.C H25.out 1 3 rfl rfl).1 (HFx.out.C H25.out 1 3 rfl rfl).2 rfl).mono ?_
    rintro e W26 ⟨rfl, hb⟩
    have H27 : Aside0 (Sep w (fun _ => False) [aB Ba v1 (.slice A1 l1.length c1) v2 (.slice A2 l2.length c2) (.slice A3 part.length c3) (.slice A4 m.length c4), headA (.slice Awx nwx cwx) ((Tx ++ Mx).map LRow.shown), headA (.slice Arx nrx crx) (Tx.map LRow.all), dataA (Tx ++ Mx), rI (.slice Ap np cp) (lentOf part), rB (.slice Am nm cm) (lentB m), xB Bx (.slice Awx l1.length cwx) (.slice Awx nwx cwx) (.slice Arx nrx crx), fB Bi v1 (.slice Awx l1.length cwx)] W26) := ⟨H25.out.keep hb⟩
    clear H25
    clear hb
    have q4 : W26.cell? ⟨Bi, 0, none⟩ = some (.int .i64 v1) := H27.out.cell 7 0 rfl
    have q5 : W26.cell? ⟨Bi, 1, none⟩ = some (.slice Awx l1.length cwx) := H27.out.cell 7 1 rfl
    go_wp2_with (go_at_call 18; refine HoldU.out ?_)
    refine ⟨?_⟩
    clear q4 q5
    refine (size_n HB1.out v1 Awx cwx _ (HFx.out.C H27.out 1 3 rfl rfl).1 (HFx.out.C H27.out 1 3 rfl rfl).2 rfl).mono ?_
    rintro e W28 ⟨⟨zi, rfl⟩, hb⟩
    have H29 : Aside0 (Sep w (fun _ => False) [aB Ba v1 (.slice A1 l1.length c1) v2 (.slice A2 l2.length c2) (.slice A3 part.length c3) (.slice A4 m.length c4), headA (.slice Awx nwx cwx) ((Tx ++ Mx).map LRow.shown), headA (.slice Arx nrx crx) (Tx.map LRow.all), dataA (Tx ++ Mx), rI (.slice Ap np cp) (lentOf part), rB (.slice Am nm cm) (lentB m), xB Bx (.slice Awx l1.length cwx) (.slice Awx nwx cwx) (.slice Arx nrx crx), fB Bi v1 (.slice Awx l1.length cwx)] W28) := ⟨H27.out.keep hb⟩
    clear H27
    clear hb
    go_upto_region 7 with fail
    go_cut [] from 20 (fun wx => Aside0 (Sep w (fun _ => False) [aB Ba v1 (.slice A1 l1.length c1) v2 (.slice A2 l2.length c2) (.slice A3 part.length c3) (.slice A4 m.length c4), headA (.slice Awx nwx cwx) ((Tx ++ Mx).map LRow.shown), headA (.slice Arx nrx crx) (Tx.map LRow.all), dataA (Tx ++ Mx), rI (.slice Ap np cp) (lentOf part), rB (.slice Am nm cm) (lentB m), xB Bx (.slice Awx l1.length cwx) (.slice Awx nwx cwx) (.slice Arx nrx crx), fB Bi v1 (.slice Awx l1.length cwx)] wx))
    case first =>
      have hl1 := HLL.out.1
      have hl2 := HLL.out.2
      as_aux_lemma =>
      have hmx : Try.prog.follows .mixedOrders = true := by kernel_rfl
      have K0 : Aside0 (Sep w (fun _ => False) [aB Ba v1 (.slice A1 l1.length c1) v2 (.slice A2 l2.length c2) (.slice A3 part.length c3) (.slice A4 m.length c4), headA (.slice Awx nwx cwx) ((Tx ++ Mx).map LRow.shown), headA (.slice Arx nrx crx) (Tx.map LRow.all), dataA (Tx ++ Mx), rI (.slice Ap np cp) (lentOf part), rB (.slice Am nm cm) (lentB m), xB Bx (.slice Awx l1.length cwx) (.slice Awx nwx cwx) (.slice Arx nrx crx), fB Bi v1 (.slice Awx l1.length cwx)] W28.drew) := ⟨H29.out.keep (below_drew (Below.refl _ _))⟩
      clear H29
      refine wp_region_H (S := fun W' => W'.cell? ⟨Bi, 0, none⟩ = some (.int .i64 v1) ∧ W'.cell? ⟨Bi, 1, none⟩ = some (.slice Awx l1.length cwx) ∧ W'.cell? ⟨Ba, 5, none⟩ = some (.slice A4 m.length c4)) hmx ?_
      generalize W28.drew = X0 at K0 ⊢
      have hS0 : X0.cell? ⟨Bi, 0, none⟩ = some (.int .i64 v1) ∧ X0.cell? ⟨Bi, 1, none⟩ = some (.slice Awx l1.length cwx) ∧ X0.cell? ⟨Ba, 5, none⟩ = some (.slice A4 m.length c4) := ⟨K0.out.cell 7 0 rfl, K0.out.cell 7 1 rfl, K0.out.cell 0 5 rfl⟩
      refine wpAnyH_takeA (i := 0) (v := .agg #[.int .i64 v1, .slice Awx l1.length cwx]) 43 rfl rfl (by kernel_rfl) (by kernel_rfl) (by kernel_rfl) (fun _ _ _ h => h) (.inl ⟨by rfl, fun W' hS => by obtain ⟨s0, s1, s2⟩ := hS; go_simp⟩) hS0 ?_
      intro A' hA; simp at hA; subst hA
      refine wpAnyH_takeA (i := 1) (v := .slice Am nm cm) 44 rfl rfl (by kernel_rfl) (by kernel_rfl) (by kernel_rfl) (fun _ _ _ h => h) (.inl ⟨by rfl, fun W' hS => by obtain ⟨s0, s1, s2⟩ := hS; go_simp⟩) hS0 ?_
      intro A' hA; simp at hA; subst hA
      refine wpAnyH_takeA (i := 2) (v := .pointer (some ⟨Ba, 5, none⟩)) 45 rfl rfl (by kernel_rfl) (by kernel_rfl) (by kernel_rfl) (fun _ _ _ h => h) (.inl ⟨by rfl, fun W' hS => by obtain ⟨s0, s1, s2⟩ := hS; go_simp⟩) hS0 ?_
      intro A' hA; simp at hA; subst hA
      refine wpAnyH_takeA (i := 3) (v := .slice A4 m.length c4) 46 rfl rfl (by kernel_rfl) (by kernel_rfl) (by kernel_rfl) (fun _ _ _ h => h) (.inl ⟨by rfl, fun W' hS => by obtain ⟨s0, s1, s2⟩ := hS; go_simp⟩) hS0 ?_
      intro A' hA; simp at hA; subst hA
      refine wpAnyH_takeA (i := 4) (v := .int .i64 m.length) 47 rfl rfl (by kernel_rfl) (by kernel_rfl) (by kernel_rfl) (fun _ _ _ h => h) (.inl ⟨by rfl, fun W' hS => by obtain ⟨s0, s1, s2⟩ := hS; go_simp⟩) hS0 ?_
      intro A' hA; simp at hA; subst hA
      refine wpAnyH_takeA (i := 5) (v := .slice Am m.length cm) 48 rfl rfl (by kernel_rfl) (by kernel_rfl) (by kernel_rfl) (fun _ _ _ h => h) (.inl ⟨by rfl, fun W' hS => by obtain ⟨s0, s1, s2⟩ := hS; go_simp⟩) hS0 ?_
      intro A' hA; simp at hA; subst hA
      clear hS0
      refine wpAnyH_one (i := 6) (by kernel_rfl) rfl (by rfl) (fun K' hK => ?_)
      have HK := Aside0.mk hK
      clear hK
      go_simp
      refine (sat_n HB1.out v1 Awx cwx _ (HFx.out.C K0.out 1 3 rfl rfl).1 (HFx.out.C K0.out 1 3 rfl rfl).2 rfl Am cm (model_C K0.out 5 rfl).1 (model_C K0.out 5 rfl).2).mono ?_
      rintro e X30 ⟨⟨zb, rfl⟩, hb⟩
      have hp := K0.out.keep hb
      clear hb
      have K30 : Aside0 (Sep w (fun _ => False) [aB Ba v1 (.slice A1 l1.length c1) v2 (.slice A2 l2.length c2) (.slice A3 part.length c3) (.slice A4 m.length c4), headA (.slice Awx nwx cwx) ((Tx ++ Mx).map LRow.shown), headA (.slice Arx nrx crx) (Tx.map LRow.all), dataA (Tx ++ Mx), rI (.slice Ap np cp) (lentOf part), rB (.slice Am nm cm) (lentB m), xB Bx (.slice Awx l1.length cwx) (.slice Awx nwx cwx) (.slice Arx nrx crx), fB Bi v1 (.slice Awx l1.length cwx)] X30) := ⟨hp⟩
      clear K0
      refine HK.out _ _ ⟨K30.out.cell 7 0 rfl, K30.out.cell 7 1 rfl, K30.out.cell 0 5 rfl⟩ ?_
      clear HK
      refine wpAnyH_done (by kernel_rfl) ?_ _
      go_wp2_with fail
      go_meet
      case rel => exact K30
    case rest =>
      clear H29
      have Hr7 := hcut
      generalize wc = Wr7 at Hr7 ⊢
      clear hcut
      have q6 : Wr7.cell? ⟨Bi, 0, none⟩ = some (.int .i64 v1) := Hr7.out.cell 7 0 rfl
      have q7 : Wr7.cell? ⟨Bi, 1, none⟩ = some (.slice Awx l1.length cwx) := Hr7.out.cell 7 1 rfl
      go_wp2_with (go_at_call 40; refine HoldU.out ?_)
      refine ⟨?_⟩
      clear q6 q7
      refine (count_n HB1.out v1 Awx cwx _ (HFx.out.C Hr7.out 1 3 rfl rfl).1 (HFx.out.C Hr7.out 1 3 rfl rfl).2 rfl).mono ?_
      rintro e W31 ⟨⟨zj, zk, rfl⟩, hb⟩
      have H32 : Aside0 (Sep w (fun _ => False) [aB Ba v1 (.slice A1 l1.length c1) v2 (.slice A2 l2.length c2) (.slice A3 part.length c3) (.slice A4 m.length c4), headA (.slice Awx nwx cwx) ((Tx ++ Mx).map LRow.shown), headA (.slice Arx nrx crx) (Tx.map LRow.all), dataA (Tx ++ Mx), rI (.slice Ap np cp) (lentOf part), rB (.slice Am nm cm) (lentB m), xB Bx (.slice Awx l1.length cwx) (.slice Awx nwx cwx) (.slice Arx nrx crx), fB Bi v1 (.slice Awx l1.length cwx)] W31) := ⟨Hr7.out.keep hb⟩
      clear Hr7
      clear hb
      go_upto_region 9 with fail
      go_cut [] from 20 (fun wx => Aside0 (Sep w (fun _ => False) [aB Ba v1 (.slice A1 l1.length c1) v2 (.slice A2 l2.length c2) (.slice A3 part.length c3) (.slice A4 m.length c4), headA (.slice Awx nwx cwx) ((Tx ++ Mx).map LRow.shown), headA (.slice Arx nrx crx) (Tx.map LRow.all), dataA (Tx ++ Mx), rI (.slice Ap np cp) (lentOf part), rB (.slice Am nm cm) (lentB m), xB Bx (.slice Awx l1.length cwx) (.slice Awx nwx cwx) (.slice Arx nrx crx), fB Bi v1 (.slice Awx l1.length cwx)] wx))
      case first =>
        have hl1 := HLL.out.1
        have hl2 := HLL.out.2
        as_aux_lemma =>
        have hmx : Try.prog.follows .mixedOrders = true := by kernel_rfl
        have K0 : Aside0 (Sep w (fun _ => False) [aB Ba v1 (.slice A1 l1.length c1) v2 (.slice A2 l2.length c2) (.slice A3 part.length c3) (.slice A4 m.length c4), headA (.slice Awx nwx cwx) ((Tx ++ Mx).map LRow.shown), headA (.slice Arx nrx crx) (Tx.map LRow.all), dataA (Tx ++ Mx), rI (.slice Ap np cp) (lentOf part), rB (.slice Am nm cm) (lentB m), xB Bx (.slice Awx l1.length cwx) (.slice Awx nwx cwx) (.slice Arx nrx crx), fB Bi v1 (.slice Awx l1.length cwx)] W31.drew) := ⟨H32.out.keep (below_drew (Below.refl _ _))⟩
        clear H32
        refine wp_region_H (S := fun W' => W'.cell? ⟨Bi, 0, none⟩ = some (.int .i64 v1) ∧ W'.cell? ⟨Bi, 1, none⟩ = some (.slice Awx l1.length cwx) ∧ W'.cell? ⟨Ba, 4, none⟩ = some (.slice A3 part.length c3)) hmx ?_
        generalize W31.drew = X0 at K0 ⊢
        have hS0 : X0.cell? ⟨Bi, 0, none⟩ = some (.int .i64 v1) ∧ X0.cell? ⟨Bi, 1, none⟩ = some (.slice Awx l1.length cwx) ∧ X0.cell? ⟨Ba, 4, none⟩ = some (.slice A3 part.length c3) := ⟨K0.out.cell 7 0 rfl, K0.out.cell 7 1 rfl, K0.out.cell 0 4 rfl⟩
        refine wpAnyH_takeA (i := 0) (v := .agg #[.int .i64 v1, .slice Awx l1.length cwx]) 52 rfl rfl (by kernel_rfl) (by kernel_rfl) (by kernel_rfl) (fun _ _ _ h => h) (.inl ⟨by rfl, fun W' hS => by obtain ⟨s0, s1, s2⟩ := hS; go_simp⟩) hS0 ?_
        intro A' hA; simp at hA; subst hA
        refine wpAnyH_takeA (i := 1) (v := .slice Ap np cp) 53 rfl rfl (by kernel_rfl) (by kernel_rfl) (by kernel_rfl) (fun _ _ _ h => h) (.inl ⟨by rfl, fun W' hS => by obtain ⟨s0, s1, s2⟩ := hS; go_simp⟩) hS0 ?_
        intro A' hA; simp at hA; subst hA
        refine wpAnyH_takeA (i := 2) (v := .pointer (some ⟨Ba, 4, none⟩)) 54 rfl rfl (by kernel_rfl) (by kernel_rfl) (by kernel_rfl) (fun _ _ _ h => h) (.inl ⟨by rfl, fun W' hS => by obtain ⟨s0, s1, s2⟩ := hS; go_simp⟩) hS0 ?_
        intro A' hA; simp at hA; subst hA
        refine wpAnyH_takeA (i := 3) (v := .slice A3 part.length c3) 55 rfl rfl (by kernel_rfl) (by kernel_rfl) (by kernel_rfl) (fun _ _ _ h => h) (.inl ⟨by rfl, fun W' hS => by obtain ⟨s0, s1, s2⟩ := hS; go_simp⟩) hS0 ?_
        intro A' hA; simp at hA; subst hA
        refine wpAnyH_takeA (i := 4) (v := .int .i64 part.length) 56 rfl rfl (by kernel_rfl) (by kernel_rfl) (by kernel_rfl) (fun _ _ _ h => h) (.inl ⟨by rfl, fun W' hS => by obtain ⟨s0, s1, s2⟩ := hS; go_simp⟩) hS0 ?_
        intro A' hA; simp at hA; subst hA
        refine wpAnyH_takeA (i := 5) (v := .slice Ap part.length cp) 57 rfl rfl (by kernel_rfl) (by kernel_rfl) (by kernel_rfl) (fun _ _ _ h => h) (.inl ⟨by rfl, fun W' hS => by obtain ⟨s0, s1, s2⟩ := hS; go_simp⟩) hS0 ?_
        intro A' hA; simp at hA; subst hA
        clear hS0
        refine wpAnyH_one (i := 6) (by kernel_rfl) rfl (by rfl) (fun K' hK => ?_)
        have HK := Aside0.mk hK
        clear hK
        go_simp
        refine (entails_n HB1.out v1 Awx cwx _ (HFx.out.C K0.out 1 3 rfl rfl).1 (HFx.out.C K0.out 1 3 rfl rfl).2 rfl Ap cp (part_C K0.out 4 rfl).1 (part_C K0.out 4 rfl).2 HB3.out).mono ?_
        rintro e X33 ⟨⟨zc, zd, rfl⟩, hb⟩
        have hp := K0.out.keep hb
        clear hb
        have K33 : Aside0 (Sep w (fun _ => False) [aB Ba v1 (.slice A1 l1.length c1) v2 (.slice A2 l2.length c2) (.slice A3 part.length c3) (.slice A4 m.length c4), headA (.slice Awx nwx cwx) ((Tx ++ Mx).map LRow.shown), headA (.slice Arx nrx crx) (Tx.map LRow.all), dataA (Tx ++ Mx), rI (.slice Ap np cp) (lentOf part), rB (.slice Am nm cm) (lentB m), xB Bx (.slice Awx l1.length cwx) (.slice Awx nwx cwx) (.slice Arx nrx crx), fB Bi v1 (.slice Awx l1.length cwx)] X33) := ⟨hp⟩
        clear K0
        refine HK.out _ _ ⟨K33.out.cell 7 0 rfl, K33.out.cell 7 1 rfl, K33.out.cell 0 4 rfl⟩ ?_
        clear HK
        refine wpAnyH_done (by kernel_rfl) ?_ _
        go_wp2_with fail
        go_meet
        case rel => exact K33
      case rest =>
        clear H32
        have Hr9 := hcut
        generalize wc = Wr9 at Hr9 ⊢
        clear hcut
        go_upto_region 10 with fail
        have H34 : Aside0 (Sep w (fun _ => False) [aB Ba v1 (.slice A1 l1.length c1) v2 (.slice A2 l2.length c2) (.slice A3 part.length c3) (.slice A4 m.length c4), headA (.slice Awx nwx cwx) ((Tx ++ Mx).map LRow.shown), headA (.slice Arx nrx crx) (Tx.map LRow.all), dataA (Tx ++ Mx), rI (.slice Ap np cp) (lentOf part), rB (.slice Am nm cm) (lentB m), xB Bx (.slice Awx l1.length cwx) (.slice Awx nwx cwx) (.slice Arx nrx crx), fB Bi v1 (.slice Awx l1.length cwx), .emp, .emp] Wr9) := ⟨Hr9.out.pad 2⟩
        clear Hr9
        go_cut [7, 8] from 20 (fun s7 s8 wx => ∃ (Ao : Option Addr) (co : Nat) (Aq : Option Addr) (cq : Nat), s7 = .slice Ao fl.length co ∧ s8 = .slice Aq fl.length cq ∧ Aside0 (Sep w (fun _ => False) [aB Ba v1 (.slice A1 l1.length c1) v2 (.slice A2 l2.length c2) (.slice A3 part.length c3) (.slice A4 m.length c4), headA (.slice Awx nwx cwx) ((Tx ++ Mx).map LRow.shown), headA (.slice Arx nrx crx) (Tx.map LRow.all), dataA (Tx ++ Mx), rI (.slice Ap np cp) (lentOf part), rB (.slice Am nm cm) (lentB m), xB Bx (.slice Awx l1.length cwx) (.slice Awx nwx cwx) (.slice Arx nrx crx), fB Bi v1 (.slice Awx l1.length cwx), rI (.slice Ao fl.length co) fl, rI (.slice Aq fl.length cq) fl] wx))
        case first =>
          have hl1 := HLL.out.1
          have hl2 := HLL.out.2
          as_aux_lemma =>
          have hmx : Try.prog.follows .mixedOrders = true := by kernel_rfl
          have K0 : Aside0 (Sep w (fun _ => False) [aB Ba v1 (.slice A1 l1.length c1) v2 (.slice A2 l2.length c2) (.slice A3 part.length c3) (.slice A4 m.length c4), headA (.slice Awx nwx cwx) ((Tx ++ Mx).map LRow.shown), headA (.slice Arx nrx crx) (Tx.map LRow.all), dataA (Tx ++ Mx), rI (.slice Ap np cp) (lentOf part), rB (.slice Am nm cm) (lentB m), xB Bx (.slice Awx l1.length cwx) (.slice Awx nwx cwx) (.slice Arx nrx crx), fB Bi v1 (.slice Awx l1.length cwx), .emp, .emp] Wr9.drew) := ⟨H34.out.keep (below_drew (Below.refl _ _))⟩
          clear H34
          refine wp_region_H (S := fun W' => W'.cell? ⟨Bi, 0, none⟩ = some (.int .i64 v1) ∧ W'.cell? ⟨Bi, 1, none⟩ = some (.slice Awx l1.length cwx) ∧ W'.cell? ⟨Ba, 5, none⟩ = some (.slice A4 m.length c4)) hmx ?_
          generalize Wr9.drew = X0 at K0 ⊢
          have hS0 : X0.cell? ⟨Bi, 0, none⟩ = some (.int .i64 v1) ∧ X0.cell? ⟨Bi, 1, none⟩ = some (.slice Awx l1.length cwx) ∧ X0.cell? ⟨Ba, 5, none⟩ = some (.slice A4 m.length c4) := ⟨K0.out.cell 7 0 rfl, K0.out.cell 7 1 rfl, K0.out.cell 0 5 rfl⟩
          refine wpAnyH_takeA (i := 0) (v := .agg #[.int .i64 v1, .slice Awx l1.length cwx]) 59 rfl rfl (by kernel_rfl) (by kernel_rfl) (by kernel_rfl) (fun _ _ _ h => h) (.inl ⟨by rfl, fun W' hS => by obtain ⟨s0, s1, s2⟩ := hS; go_simp⟩) hS0 ?_
          intro A' hA; simp at hA; subst hA
          refine wpAnyH_takeA (i := 1) (v := .slice Am nm cm) 60 rfl rfl (by kernel_rfl) (by kernel_rfl) (by kernel_rfl) (fun _ _ _ h => h) (.inl ⟨by rfl, fun W' hS => by obtain ⟨s0, s1, s2⟩ := hS; go_simp⟩) hS0 ?_
          intro A' hA; simp at hA; subst hA
          refine wpAnyH_takeA (i := 2) (v := .pointer (some ⟨Ba, 5, none⟩)) 61 rfl rfl (by kernel_rfl) (by kernel_rfl) (by kernel_rfl) (fun _ _ _ h => h) (.inl ⟨by rfl, fun W' hS => by obtain ⟨s0, s1, s2⟩ := hS; go_simp⟩) hS0 ?_
          intro A' hA; simp at hA; subst hA
          refine wpAnyH_takeA (i := 3) (v := .slice A4 m.length c4) 62 rfl rfl (by kernel_rfl) (by kernel_rfl) (by kernel_rfl) (fun _ _ _ h => h) (.inl ⟨by rfl, fun W' hS => by obtain ⟨s0, s1, s2⟩ := hS; go_simp⟩) hS0 ?_
          intro A' hA; simp at hA; subst hA
          refine wpAnyH_takeA (i := 4) (v := .int .i64 m.length) 63 rfl rfl (by kernel_rfl) (by kernel_rfl) (by kernel_rfl) (fun _ _ _ h => h) (.inl ⟨by rfl, fun W' hS => by obtain ⟨s0, s1, s2⟩ := hS; go_simp⟩) hS0 ?_
          intro A' hA; simp at hA; subst hA
          refine wpAnyH_takeA (i := 5) (v := .slice Am m.length cm) 64 rfl rfl (by kernel_rfl) (by kernel_rfl) (by kernel_rfl) (fun _ _ _ h => h) (.inl ⟨by rfl, fun W' hS => by obtain ⟨s0, s1, s2⟩ := hS; go_simp⟩) hS0 ?_
          intro A' hA; simp at hA; subst hA
          refine wpAnyH_takeA (i := 7) (v := .agg #[.int .i64 v1, .slice Awx l1.length cwx]) 66 rfl rfl (by kernel_rfl) (by kernel_rfl) (by kernel_rfl) (fun _ _ _ h => h) (.inl ⟨by rfl, fun W' hS => by obtain ⟨s0, s1, s2⟩ := hS; go_simp⟩) hS0 ?_
          intro A' hA; simp at hA; subst hA
          refine wpAnyH_takeA (i := 8) (v := .slice Am nm cm) 67 rfl rfl (by kernel_rfl) (by kernel_rfl) (by kernel_rfl) (fun _ _ _ h => h) (.inl ⟨by rfl, fun W' hS => by obtain ⟨s0, s1, s2⟩ := hS; go_simp⟩) hS0 ?_
          intro A' hA; simp at hA; subst hA
          refine wpAnyH_takeA (i := 9) (v := .pointer (some ⟨Ba, 5, none⟩)) 68 rfl rfl (by kernel_rfl) (by kernel_rfl) (by kernel_rfl) (fun _ _ _ h => h) (.inl ⟨by rfl, fun W' hS => by obtain ⟨s0, s1, s2⟩ := hS; go_simp⟩) hS0 ?_
          intro A' hA; simp at hA; subst hA
          refine wpAnyH_takeA (i := 10) (v := .slice A4 m.length c4) 69 rfl rfl (by kernel_rfl) (by kernel_rfl) (by kernel_rfl) (fun _ _ _ h => h) (.inl ⟨by rfl, fun W' hS => by obtain ⟨s0, s1, s2⟩ := hS; go_simp⟩) hS0 ?_
          intro A' hA; simp at hA; subst hA
          refine wpAnyH_takeA (i := 11) (v := .int .i64 m.length) 70 rfl rfl (by kernel_rfl) (by kernel_rfl) (by kernel_rfl) (fun _ _ _ h => h) (.inl ⟨by rfl, fun W' hS => by obtain ⟨s0, s1, s2⟩ := hS; go_simp⟩) hS0 ?_
          intro A' hA; simp at hA; subst hA
          refine wpAnyH_takeA (i := 12) (v := .slice Am m.length cm) 71 rfl rfl (by kernel_rfl) (by kernel_rfl) (by kernel_rfl) (fun _ _ _ h => h) (.inl ⟨by rfl, fun W' hS => by obtain ⟨s0, s1, s2⟩ := hS; go_simp⟩) hS0 ?_
          intro A' hA; simp at hA; subst hA
          clear hS0
          refine wpAnyH_one (i := 6) (by kernel_rfl) rfl (by rfl) (fun K' hK => ?_)
          have HK := Aside0.mk hK
          clear hK
          go_simp
          refine (false_n HB1.out v1 Awx cwx _ (HFx.out.C K0.out 1 3 rfl rfl).1 (HFx.out.C K0.out 1 3 rfl rfl).2 rfl HFL.out Am cm (model_C K0.out 5 rfl).1 (model_C K0.out 5 rfl).2).mono ?_
          rintro e X35 ⟨Ao, co, rfl, hR, hb⟩
          have hp := K0.out.fill 8 rfl hb (HX.out _) hR
          clear hR hb
          have K35 : Aside0 (Sep w (fun _ => False) [aB Ba v1 (.slice A1 l1.length c1) v2 (.slice A2 l2.length c2) (.slice A3 part.length c3) (.slice A4 m.length c4), headA (.slice Awx nwx cwx) ((Tx ++ Mx).map LRow.shown), headA (.slice Arx nrx crx) (Tx.map LRow.all), dataA (Tx ++ Mx), rI (.slice Ap np cp) (lentOf part), rB (.slice Am nm cm) (lentB m), xB Bx (.slice Awx l1.length cwx) (.slice Awx nwx cwx) (.slice Arx nrx crx), fB Bi v1 (.slice Awx l1.length cwx), rI (.slice Ao fl.length co) fl, .emp] X35) := ⟨hp⟩
          clear K0
          refine HK.out _ _ ⟨K35.out.cell 7 0 rfl, K35.out.cell 7 1 rfl, K35.out.cell 0 5 rfl⟩ ?_
          clear HK
          refine wpAnyH_one (i := 13) (by kernel_rfl) rfl (by rfl) (fun K' hK => ?_)
          have HK := Aside0.mk hK
          clear hK
          go_simp
          refine (false_n HB1.out v1 Awx cwx _ (HFx.out.C K35.out 1 3 rfl rfl).1 (HFx.out.C K35.out 1 3 rfl rfl).2 rfl HFL.out Am cm (model_C K35.out 5 rfl).1 (model_C K35.out 5 rfl).2).mono ?_
          rintro e X36 ⟨Aq, cq, rfl, hR, hb⟩
          have hp := K35.out.fill 9 rfl hb (HX.out _) hR
          clear hR hb
          have K36 : Aside0 (Sep w (fun _ => False) [aB Ba v1 (.slice A1 l1.length c1) v2 (.slice A2 l2.length c2) (.slice A3 part.length c3) (.slice A4 m.length c4), headA (.slice Awx nwx cwx) ((Tx ++ Mx).map LRow.shown), headA (.slice Arx nrx crx) (Tx.map LRow.all), dataA (Tx ++ Mx), rI (.slice Ap np cp) (lentOf part), rB (.slice Am nm cm) (lentB m), xB Bx (.slice Awx l1.length cwx) (.slice Awx nwx cwx) (.slice Arx nrx crx), fB Bi v1 (.slice Awx l1.length cwx), rI (.slice Ao fl.length co) fl, rI (.slice Aq fl.length cq) fl] X36) := ⟨hp⟩
          clear K35
          refine HK.out _ _ ⟨K36.out.cell 7 0 rfl, K36.out.cell 7 1 rfl, K36.out.cell 0 5 rfl⟩ ?_
          clear HK
          have hS0 : X36.cell? ⟨Bi, 0, none⟩ = some (.int .i64 v1) ∧ X36.cell? ⟨Bi, 1, none⟩ = some (.slice Awx l1.length cwx) ∧ X36.cell? ⟨Ba, 5, none⟩ = some (.slice A4 m.length c4) := ⟨K36.out.cell 7 0 rfl, K36.out.cell 7 1 rfl, K36.out.cell 0 5 rfl⟩
          refine wpAnyH_takeA (i := 14) (v := .slice Ao fl.length co) 7 rfl rfl (by kernel_rfl) (by kernel_rfl) (by kernel_rfl) (fun _ _ _ h => h) (.inl ⟨by rfl, fun W' hS => by obtain ⟨s0, s1, s2⟩ := hS; go_simp⟩) hS0 ?_
          intro A' hA; simp at hA; subst hA
          refine wpAnyH_takeA (i := 15) (v := .slice Aq fl.length cq) 8 rfl rfl (by kernel_rfl) (by kernel_rfl) (by kernel_rfl) (fun _ _ _ h => h) (.inl ⟨by rfl, fun W' hS => by obtain ⟨s0, s1, s2⟩ := hS; go_simp⟩) hS0 ?_
          intro A' hA; simp at hA; subst hA
          clear hS0
          refine wpAnyH_done (by kernel_rfl) ?_ _
          go_wp2_with fail
          go_meet
          case rel => exact ⟨Ao, co, Aq, cq, rfl, rfl, K36⟩
        case rest =>
          clear H34
          obtain ⟨Ao, co, Aq, cq, rfl, rfl, Hr10⟩ := hcut
          generalize wc = Wr10 at Hr10 ⊢
          go_upto_region 12 with fail
          have hp := Hr10.out.new (HX.out _) (.cells #[.slice none 0 0] 46 (0, 0))
          generalize Wr10.alloc (.cells #[.slice none 0 0] 46) = W37 at hp ⊢
          generalize Wr10.heap.size = Bm at hp ⊢
          have H38 : Aside0 (Sep w (fun _ => False) [aB Ba v1 (.slice A1 l1.length c1) v2 (.slice A2 l2.length c2) (.slice A3 part.length c3) (.slice A4 m.length c4), headA (.slice Awx nwx cwx) ((Tx ++ Mx).map LRow.shown), headA (.slice Arx nrx crx) (Tx.map LRow.all), dataA (Tx ++ Mx), rI (.slice Ap np cp) (lentOf part), rB (.slice Am nm cm) (lentB m), xB Bx (.slice Awx l1.length cwx) (.slice Awx nwx cwx) (.slice Arx nrx crx), fB Bi v1 (.slice Awx l1.length cwx), rI (.slice Ao fl.length co) fl, rI (.slice Aq fl.length cq) fl, mB Bm (.slice none 0 0)] W37) := ⟨hp⟩
          clear Hr10
          clear hp
          go_upto_region 13 with fail
          have hp := H38.out.new (HX.out _) (.cells #[.int .i64 0] 3 (0, 0))
          generalize W37.alloc (.cells #[.int .i64 0] 3) = W39 at hp ⊢
          generalize W37.heap.size = Bn at hp ⊢
          have H40 : Aside0 (Sep w (fun _ => False) [aB Ba v1 (.slice A1 l1.length c1) v2 (.slice A2 l2.length c2) (.slice A3 part.length c3) (.slice A4 m.length c4), headA (.slice Awx nwx cwx) ((Tx ++ Mx).map LRow.shown), headA (.slice Arx nrx crx) (Tx.map LRow.all), dataA (Tx ++ Mx), rI (.slice Ap np cp) (lentOf part), rB (.slice Am nm cm) (lentB m), xB Bx (.slice Awx l1.length cwx) (.slice Awx nwx cwx) (.slice Arx nrx crx), fB Bi v1 (.slice Awx l1.length cwx), rI (.slice Ao fl.length co) fl, rI (.slice Aq fl.length cq) fl, mB Bm (.slice none 0 0), nB Bn 0] W39) := ⟨hp⟩
          clear H38
          clear hp
          have H41 : Aside0 (Sep w (fun _ => False) [aB Ba v1 (.slice A1 l1.length c1) v2 (.slice A2 l2.length c2) (.slice A3 part.length c3) (.slice A4 m.length c4), headA (.slice Awx nwx cwx) ((Tx ++ Mx).map LRow.shown), headA (.slice Arx nrx crx) (Tx.map LRow.all), dataA (Tx ++ Mx), rI (.slice Ap np cp) (lentOf part), rB (.slice Am nm cm) (lentB m), xB Bx (.slice Awx l1.length cwx) (.slice Awx nwx cwx) (.slice Arx nrx crx), fB Bi v1 (.slice Awx l1.length cwx), rI (.slice Ao fl.length co) fl, rI (.slice Aq fl.length cq) fl, mB Bm (.slice none 0 0), nB Bn 0, .emp, .emp] W39) := ⟨H40.out.pad 2⟩
          clear H40
          go_cut [11, 12] from 20 (fun s11 s12 wx => ∃ (g1 : Nat) (lb1 : Array Value) (Rd1 : Nat → Prop) (vn1 g2 : Nat) (lb2 : Array Value) (Rd2 : Nat → Prop) (vn2 : Nat), s11 = .func (.func g1) #[] lb1 ∧ s12 = .func (.func g2) #[] lb2 ∧ Aside0 (vn1 ≤ 16 ∧ (∀ (args : Array Value) (W : World), (callFunc g1 args).run Try.prog W = .ok (.enter g1 args) W) ∧ vn2 ≤ 16 ∧ (∀ (args : Array Value) (W : World), (callFunc g2 args).run Try.prog W = .ok (.enter g2 args) W)) ∧ Aside0 (Sep w (fun _ => False) [aB Ba v1 (.slice A1 l1.length c1) v2 (.slice A2 l2.length c2) (.slice A3 part.length c3) (.slice A4 m.length c4), headA (.slice Awx nwx cwx) ((Tx ++ Mx).map LRow.shown), headA (.slice Arx nrx crx) (Tx.map LRow.all), dataA (Tx ++ Mx), rI (.slice Ap np cp) (lentOf part), rB (.slice Am nm cm) (lentB m), xB Bx (.slice Awx l1.length cwx) (.slice Awx nwx cwx) (.slice Arx nrx crx), fB Bi v1 (.slice Awx l1.length cwx), rI (.slice Ao fl.length co) fl, rI (.slice Aq fl.length cq) fl, mB Bm (.slice none 0 0), nB Bn 0, seqB g1 lb1 Rd1 vn1 ML, seqB g2 lb2 Rd2 vn2 ML] wx))
          case first =>
            as_aux_lemma =>
            have hmx : Try.prog.follows .mixedOrders = true := by kernel_rfl
            have K0 : Aside0 (Sep w (fun _ => False) [aB Ba v1 (.slice A1 l1.length c1) v2 (.slice A2 l2.length c2) (.slice A3 part.length c3) (.slice A4 m.length c4), headA (.slice Awx nwx cwx) ((Tx ++ Mx).map LRow.shown), headA (.slice Arx nrx crx) (Tx.map LRow.all), dataA (Tx ++ Mx), rI (.slice Ap np cp) (lentOf part), rB (.slice Am nm cm) (lentB m), xB Bx (.slice Awx l1.length cwx) (.slice Awx nwx cwx) (.slice Arx nrx crx), fB Bi v1 (.slice Awx l1.length cwx), rI (.slice Ao fl.length co) fl, rI (.slice Aq fl.length cq) fl, mB Bm (.slice none 0 0), nB Bn 0, .emp, .emp] W39.drew) := ⟨H41.out.keep (below_drew (Below.refl _ _))⟩
            clear H41
            refine wp_region_H (S := fun W' => W'.cell? ⟨Bi, 0, none⟩ = some (.int .i64 v1) ∧ W'.cell? ⟨Bi, 1, none⟩ = some (.slice Awx l1.length cwx)) hmx ?_
            generalize W39.drew = X0 at K0 ⊢
            have hS0 : X0.cell? ⟨Bi, 0, none⟩ = some (.int .i64 v1) ∧ X0.cell? ⟨Bi, 1, none⟩ = some (.slice Awx l1.length cwx) := ⟨K0.out.cell 7 0 rfl, K0.out.cell 7 1 rfl⟩
            refine wpAnyH_takeA (i := 0) (v := .agg #[.int .i64 v1, .slice Awx l1.length cwx]) 73 rfl rfl (by kernel_rfl) (by kernel_rfl) (by kernel_rfl) (fun _ _ _ h => h) (.inl ⟨by rfl, fun W' hS => by obtain ⟨s0, s1⟩ := hS; go_simp⟩) hS0 ?_
            intro A' hA; simp at hA; subst hA
            refine wpAnyH_takeA (i := 2) (v := .agg #[.int .i64 v1, .slice Awx l1.length cwx]) 75 rfl rfl (by kernel_rfl) (by kernel_rfl) (by kernel_rfl) (fun _ _ _ h => h) (.inl ⟨by rfl, fun W' hS => by obtain ⟨s0, s1⟩ := hS; go_simp⟩) hS0 ?_
            intro A' hA; simp at hA; subst hA
            clear hS0
            refine wpAnyH_one (i := 1) (by kernel_rfl) rfl (by rfl) (fun K' hK => ?_)
            have HK := Aside0.mk hK
            clear hK
            go_simp
            refine (models_n HB1.out v1 HML.out Awx cwx _ (HFx.out.C K0.out 1 3 rfl rfl).1 (HFx.out.C K0.out 1 3 rfl rfl).2 rfl).mono ?_
            rintro e X42 ⟨g1, lb1, Rd1, vn1, rfl, hv, hR, he, hb⟩
            have HG1 := Aside0.mk (And.intro hv he)
            have hp := K0.out.fill 12 rfl hb (HX.out _) hR
            clear hR hb hv he
            have K42 : Aside0 (Sep w (fun _ => False) [aB Ba v1 (.slice A1 l1.length c1) v2 (.slice A2 l2.length c2) (.slice A3 part.length c3) (.slice A4 m.length c4), headA (.slice Awx nwx cwx) ((Tx ++ Mx).map LRow.shown), headA (.slice Arx nrx crx) (Tx.map LRow.all), dataA (Tx ++ Mx), rI (.slice Ap np cp) (lentOf part), rB (.slice Am nm cm) (lentB m), xB Bx (.slice Awx l1.length cwx) (.slice Awx nwx cwx) (.slice Arx nrx crx), fB Bi v1 (.slice Awx l1.length cwx), rI (.slice Ao fl.length co) fl, rI (.slice Aq fl.length cq) fl, mB Bm (.slice none 0 0), nB Bn 0, seqB g1 lb1 Rd1 vn1 ML, .emp] X42) := ⟨hp⟩
            clear K0
            refine HK.out _ _ ⟨K42.out.cell 7 0 rfl, K42.out.cell 7 1 rfl⟩ ?_
            clear HK
            refine wpAnyH_one (i := 3) (by kernel_rfl) rfl (by rfl) (fun K' hK => ?_)
            have HK := Aside0.mk hK
            clear hK
            go_simp
            refine (models_n HB1.out v1 HML.out Awx cwx _ (HFx.out.C K42.out 1 3 rfl rfl).1 (HFx.out.C K42.out 1 3 rfl rfl).2 rfl).mono ?_
            rintro e X43 ⟨g2, lb2, Rd2, vn2, rfl, hv, hR, he, hb⟩
            have HG2 := Aside0.mk (And.intro hv he)
            have hp := K42.out.fill 13 rfl hb (HX.out _) hR
            clear hR hb hv he
            have K43 : Aside0 (Sep w (fun _ => False) [aB Ba v1 (.slice A1 l1.length c1) v2 (.slice A2 l2.length c2) (.slice A3 part.length c3) (.slice A4 m.length c4), headA (.slice Awx nwx cwx) ((Tx ++ Mx).map LRow.shown), headA (.slice Arx nrx crx) (Tx.map LRow.all), dataA (Tx ++ Mx), rI (.slice Ap np cp) (lentOf part), rB (.slice Am nm cm) (lentB m), xB Bx (.slice Awx l1.length cwx) (.slice Awx nwx cwx) (.slice Arx nrx crx), fB Bi v1 (.slice Awx l1.length cwx), rI (.slice Ao fl.length co) fl, rI (.slice Aq fl.length cq) fl, mB Bm (.slice none 0 0), nB Bn 0, seqB g1 lb1 Rd1 vn1 ML, seqB g2 lb2 Rd2 vn2 ML] X43) := ⟨hp⟩
            clear K42
            refine HK.out _ _ ⟨K43.out.cell 7 0 rfl, K43.out.cell 7 1 rfl⟩ ?_
            clear HK
            have hS0 : X43.cell? ⟨Bi, 0, none⟩ = some (.int .i64 v1) ∧ X43.cell? ⟨Bi, 1, none⟩ = some (.slice Awx l1.length cwx) := ⟨K43.out.cell 7 0 rfl, K43.out.cell 7 1 rfl⟩
            refine wpAnyH_takeA (i := 4) (v := .func (.func g1) #[] lb1) 11 rfl rfl (by kernel_rfl) (by kernel_rfl) (by kernel_rfl) (fun _ _ _ h => h) (.inl ⟨by rfl, fun W' hS => by obtain ⟨s0, s1⟩ := hS; go_simp⟩) hS0 ?_
            intro A' hA; simp at hA; subst hA
            refine wpAnyH_takeA (i := 5) (v := .func (.func g2) #[] lb2) 12 rfl rfl (by kernel_rfl) (by kernel_rfl) (by kernel_rfl) (fun _ _ _ h => h) (.inl ⟨by rfl, fun W' hS => by obtain ⟨s0, s1⟩ := hS; go_simp⟩) hS0 ?_
            intro A' hA; simp at hA; subst hA
            clear hS0
            refine wpAnyH_done (by kernel_rfl) ?_ _
            go_wp2_with fail
            go_meet
            case rel => exact ⟨g1, lb1, Rd1, vn1, g2, lb2, Rd2, vn2, rfl, rfl, ⟨HG1.out.1, HG1.out.2, HG2.out.1, HG2.out.2⟩, K43⟩
          case rest =>
            clear H41
            obtain ⟨g1, lb1, Rd1, vn1, g2, lb2, Rd2, vn2, rfl, rfl, HG, Hr13⟩ := hcut
            generalize wc = Wr13 at Hr13 ⊢
            have hn1 := nil_seqB g1 lb1
            have hn2 := nil_seqB g2 lb2
            go_upto_block 0 with fail
            have H44 : Aside0 (Sep w (fun _ => False) [aB Ba v1 (.slice A1 l1.length c1) v2 (.slice A2 l2.length c2) (.slice A3 part.length c3) (.slice A4 m.length c4), headA (.slice Awx nwx cwx) ((Tx ++ Mx).map LRow.shown), headA (.slice Arx nrx crx) (Tx.map LRow.all), dataA (Tx ++ Mx), rI (.slice Ap np cp) (lentOf part), rB (.slice Am nm cm) (lentB m), xB Bx (.slice Awx l1.length cwx) (.slice Awx nwx cwx) (.slice Arx nrx crx), fB Bi v1 (.slice Awx l1.length cwx), rI (.slice Ao fl.length co) fl, rI (.slice Aq fl.length cq) fl, mB Bm (.slice none 0 0), nB Bn 0, seqB g1 lb1 Rd1 vn1 ML, seqB g2 lb2 Rd2 vn2 ML, sB (.slice none 0 0) []] Wr13) := ⟨Hr13.out.push (Below.refl _ _) (HX.out _) (Kd.S_nil _ _ _ _ _)⟩
            clear Hr13
            have HSQ1 := Aside0.mk (H44.out.get 12 rfl).1
            have hw1 : Aside0 (w.heap.size ≤ Wr13.heap.size) := ⟨H44.out.hB.size⟩
            have HV1 : Aside0 (KInv w (fun V L i => [aB Ba v1 (.slice A1 l1.length c1) v2 (.slice A2 l2.length c2) (.slice A3 part.length c3) (.slice A4 m.length c4), headA (.slice Awx nwx cwx) ((Tx ++ Mx).map LRow.shown), headA (.slice Arx nrx crx) (Tx.map LRow.all), dataA (Tx ++ Mx), rI (.slice Ap np cp) (lentOf part), rB (.slice Am nm cm) (lentB m), xB Bx (.slice Awx l1.length cwx) (.slice Awx nwx cwx) (.slice Arx nrx crx), fB Bi v1 (.slice Awx l1.length cwx), rI (.slice Ao fl.length co) fl, rI (.slice Aq fl.length cq) fl, mB Bm V, nB Bn i, seqB g1 lb1 Rd1 vn1 ML, seqB g2 lb2 Rd2 vn2 ML, sB V L]) ([] : List (List Bool)) (fun n => (n : Int)) (fun n => n ≤ 8) (fun _ => False) [] Wr13) := ⟨⟨fun k h => h.elim, Nat.zero_le _, none, 0, 0, H44.out⟩⟩
            refine wp_joinD (F := fun D W => ∃ (Aa : Option Addr) (na ca : Nat), Sep w (fun _ => False) [aB Ba v1 (.slice A1 l1.length c1) v2 (.slice A2 l2.length c2) (.slice A3 part.length c3) (.slice A4 m.length c4), headA (.slice Awx nwx cwx) ((Tx ++ Mx).map LRow.shown), headA (.slice Arx nrx crx) (Tx.map LRow.all), dataA (Tx ++ Mx), rI (.slice Ap np cp) (lentOf part), rB (.slice Am nm cm) (lentB m), xB Bx (.slice Awx l1.length cwx) (.slice Awx nwx cwx) (.slice Arx nrx crx), fB Bi v1 (.slice Awx l1.length cwx), rI (.slice Ao fl.length co) fl, rI (.slice Aq fl.length cq) fl, mB Bm (.slice Aa na ca), nB Bn nT, seqB g1 lb1 Rd1 vn1 ML, seqB g2 lb2 Rd2 vn2 ML, sB (.slice Aa na ca) MT, .blk D (.deferred (some []))] W) ?rest1 (fun K' hK' => ?first1)
            case first1 =>
              as_aux_lemma =>
              clear H44
              have HK' := Aside0.mk hK'
              clear hK'
              refine (wpIn_wide (n := 12)).1 ?_
              gi_step
              refine wpIn_range_own (by decide) (gf := g1) (lb := lb1) rfl rfl trivial HG.out.2.1 HSQ1.out.now HandB.move HSQ1.out.1 (Below.refl _ _) (fun _ => rfl)
                (fun (M : Nat → Prop) (pre : List (Value × List Bool)) (W : World) => KInv w (fun V L i => [aB Ba v1 (.slice A1 l1.length c1) v2 (.slice A2 l2.length c2) (.slice A3 part.length c3) (.slice A4 m.length c4), headA (.slice Awx nwx cwx) ((Tx ++ Mx).map LRow.shown), headA (.slice Arx nrx crx) (Tx.map LRow.all), dataA (Tx ++ Mx), rI (.slice Ap np cp) (lentOf part), rB (.slice Am nm cm) (lentB m), xB Bx (.slice Awx l1.length cwx) (.slice Awx nwx cwx) (.slice Arx nrx crx), fB Bi v1 (.slice Awx l1.length cwx), rI (.slice Ao fl.length co) fl, rI (.slice Aq fl.length cq) fl, mB Bm V, nB Bn i, seqB g1 lb1 Rd1 vn1 ML, seqB g2 lb2 Rd2 vn2 ML, sB V L]) ([] : List (List Bool)) (fun n => (n : Int)) (fun n => n ≤ 8) M pre W)
                (fun c (M : Nat → Prop) (pre : List (Value × List Bool)) (W : World) => c = .exit 0 ∧ KInv w (fun V L i => [aB Ba v1 (.slice A1 l1.length c1) v2 (.slice A2 l2.length c2) (.slice A3 part.length c3) (.slice A4 m.length c4), headA (.slice Awx nwx cwx) ((Tx ++ Mx).map LRow.shown), headA (.slice Arx nrx crx) (Tx.map LRow.all), dataA (Tx ++ Mx), rI (.slice Ap np cp) (lentOf part), rB (.slice Am nm cm) (lentB m), xB Bx (.slice Awx l1.length cwx) (.slice Awx nwx cwx) (.slice Arx nrx crx), fB Bi v1 (.slice Awx l1.length cwx), rI (.slice Ao fl.length co) fl, rI (.slice Aq fl.length cq) fl, mB Bm V, nB Bn i, seqB g1 lb1 Rd1 vn1 ML, seqB g2 lb2 Rd2 vn2 ML, sB V L]) ([] : List (List Bool)) (fun n => (n : Int)) (fun n => n = 9) M pre W) KInv.own (fun c M M1 pre A B h hg hm => ⟨h.1, KInv.own M M1 pre A B h.2 hg hm⟩) HV1.out
                ?a11 ?assign1 ?body1 ?done1 ?stop1
              case a11 => exact fun p => { tmps := #[.agg #[.int .i64 v1, .slice A1 l1.length c1, .int .i64 v2, .slice A2 l2.length c2, .slice A3 part.length c3, .slice A4 m.length c4], .pointer (some ⟨Ba, 0, none⟩), .bool false, .pointer (some ⟨Bx, 0, none⟩), .slice Ap np cp, .slice Am nm cm, .pointer (some ⟨Bi, 0, none⟩), .slice Ao fl.length co, .slice Aq fl.length cq, .pointer (some ⟨Bm, 0, none⟩), .pointer (some ⟨Bn, 0, none⟩), .func (.func g1) #[] lb1, .func (.func g2) #[] lb2, p.1, undef, undef, undef, undef, undef, undef, u20, u21, u22, u23, u24, u25, u26, u27, u28, u29, u30, u31, u32, u33, u34, u35, u36, u37, u38, u39, u40, u41, u42, u43, u44, u45, u46, u47, u48, u49, u50, u51, u52, u53, u54, u55, u56, u57, u58, u59, u60, u61, u62, u63, u64, u65, u66, u67, u68, u69, u70, u71, u72, u73, u74, u75, u76, .func (.func g1) #[] lb1, .bool false, .bool false, .func (.func g2) #[] lb2, .bool false, .bool false, .func (.func g1) #[] lb1, p.1, u85, u86, u87, u88, u89, u90, u91, u92, u93, u94, u95, u96, u97, u98, u99, u100, u101, u102, u103, u104, u105, u106, u107, u108, u109, u110, u111, u112, u113, u114, u115, u116, u117, u118, u119, u120, u121, u122, u123, u124, u125, u126, u127, u128, u129, u130, u131, u132, u133, u134, u135, u136, u137, u138, u139, u140, u141, u142, u143, u144, u145, u146, u147, u148, u149, u150, u151, u152, u153, u154, u155, u156, u157, u158, u159, u160, u161, u162, u163, u164, u165, u166, u167, u168, u169, u170, u171, u172, u173, u174, u175, u176, u177, u178, u179, u180, u181], defers := [] }
              case assign1 =>
                intro l x W K hK
                gi_wp2
                first | exact hK | simpa using hK
              case body1 =>
                rintro li M M1 pre ⟨u, s⟩ A5 W5 hI hg hm hsub hMD hML hsz hHd hlen
                have hM5 := (KInv.own M M1 pre A5 W5 hI hg hm).1
                obtain ⟨hM1, hok, Aa, na, ca, hsep⟩ := hI
                have hS5 := hsep.handB hg (fun b hb => (hM1 b hb).1) hm hHd
                obtain ⟨As, cA, rfl⟩ := Kd.R_slice (hS5.get 15 rfl)
                obtain ⟨L, hL⟩ : ∃ q : List (List Bool), q = ([] : List (List Bool)) ++ pre.map (·.2) := ⟨_, rfl⟩
                obtain ⟨x, hx⟩ : ∃ q : Int, q = (fun n => (n : Int)) pre.length := ⟨_, rfl⟩
                have HS5 : Aside0 (Sep w M1 [aB Ba v1 (.slice A1 l1.length c1) v2 (.slice A2 l2.length c2) (.slice A3 part.length c3) (.slice A4 m.length c4), headA (.slice Awx nwx cwx) ((Tx ++ Mx).map LRow.shown), headA (.slice Arx nrx crx) (Tx.map LRow.all), dataA (Tx ++ Mx), rI (.slice Ap np cp) (lentOf part), rB (.slice Am nm cm) (lentB m), xB Bx (.slice Awx l1.length cwx) (.slice Awx nwx cwx) (.slice Arx nrx crx), fB Bi v1 (.slice Awx l1.length cwx), rI (.slice Ao fl.length co) fl, rI (.slice Aq fl.length cq) fl, mB Bm (.slice Aa na ca), nB Bn x, seqB g1 lb1 Rd1 vn1 ML, seqB g2 lb2 Rd2 vn2 ML, sB (.slice Aa na ca) L, rB (.slice As s.length cA) s] W5) := ⟨by rw [hL, hx]; exact hS5⟩
                have HLL5 : Aside0 (L.length ≤ 18) := ⟨by rw [hL, List.length_append, List.length_map]; have := hok; simp only [List.length_nil] at *; omega⟩
                have HLX := Aside0.mk (And.intro hL (And.intro hx hok))
                have HM5 := Aside0.mk hM5
                have HX5 : Aside0 (x = pre.length ∧ pre.length ≤ 8 ∧ wrap64 (x + 1) = ((pre.length + 1 : Nat) : Int)) := ⟨by have h := hok; have h2 : x = (pre.length : Int) := hx; exact ⟨h2, h, by rw [w64 (by omega) (by omega)]; omega⟩⟩
                clear hM5 hM1 hok hsep hS5 hL hx hg hm hsub hMD hML hsz hHd hlen
                have HP := Aside0.mk (HS5.out.pushes (P := Try.prog) (t := 46) (ty := 46) (.slice none 0 0) 24 14 rfl [(15, .slice As s.length cA, s)] (by rintro q r h; rcases q with _ | q; (· injection h with h; subst h; rfl); simp at h) (show [15].Nodup by decide) (show 14 ∉ [15] by decide) (fun b hb => (HM5.out b hb).2) Try.underlying46 infoKM rfl (show L.length + 1 ≤ maxLen from Nat.le_trans (m := 10000000) (by have := HLL5.out; omega) (by decide)) (show (L.length + 1) * 24 ≤ 140737488355328 by have := HLL5.out; omega))
                have q0 : W5.cell? ⟨Bm, 0, none⟩ = some (.slice Aa na ca) := HS5.out.cell 10 0 rfl
                gi_wp2_with (gi_at_builtin; refine HoldU.out ?_)
                refine ⟨?_⟩
                obtain ⟨v9, w9, hrun, hsep, hgr⟩ := HP.out
                obtain ⟨L9, hL9⟩ : ∃ q : List (List Bool), q = L ++ [s] := ⟨_, rfl⟩
                have HL9 := Aside0.mk hL9
                replace hsep : Sep w M1 [aB Ba v1 (.slice A1 l1.length c1) v2 (.slice A2 l2.length c2) (.slice A3 part.length c3) (.slice A4 m.length c4), headA (.slice Awx nwx cwx) ((Tx ++ Mx).map LRow.shown), headA (.slice Arx nrx crx) (Tx.map LRow.all), dataA (Tx ++ Mx), rI (.slice Ap np cp) (lentOf part), rB (.slice Am nm cm) (lentB m), xB Bx (.slice Awx l1.length cwx) (.slice Awx nwx cwx) (.slice Arx nrx crx), fB Bi v1 (.slice Awx l1.length cwx), rI (.slice Ao fl.length co) fl, rI (.slice Aq fl.length cq) fl, mB Bm (.slice Aa na ca), nB Bn x, seqB g1 lb1 Rd1 vn1 ML, seqB g2 lb2 Rd2 vn2 ML, sB v9 L9, .emp] w9 := by rw [hL9]; exact hsep
                obtain ⟨A9, c9, rfl⟩ := Kd.S_slice (hsep.get 14 rfl)
                obtain ⟨n9, hn9⟩ : ∃ q, q = L9.length := ⟨_, rfl⟩
                rw [← hn9] at hsep hrun
                clear hL9 hn9
                refine wpListIn_append_run rfl (.tmp 85) (.tmp 87) 46 rfl rfl rfl hrun ?_
                have q1 : w9.cell? ⟨Bm, 0, none⟩ = some (.slice Aa na ca) := hsep.cell 10 0 rfl
                have y1 : w9.frozen? ⟨Bm, 0, none⟩ = false := hsep.frozen 10 0 rfl
                have q2 : w9.cell? ⟨Bn, 0, none⟩ = some (.int .i64 x) := hsep.cell 11 0 rfl
                have y2 : w9.frozen? ⟨Bn, 0, none⟩ = false := hsep.frozen 11 0 rfl
                have hne : Bm ≠ Bn := hsep.ne 10 11 (by decide) rfl rfl blk_blk blk_blk
                have HQ9 := Aside0.mk hsep
                have HGR := Aside0.mk hgr
                clear hrun hsep hgr q0 HP
                by_cases hq : wrap64 (x + 1) = 9
                · have p1 : decide (wrap64 (x + 1) = 9) = true := decide_eq_true hq
                  have p2 : (wrap64 (x + 1) == 9) = true := by rw [hq]; rfl
                  have p3 : (wrap64 (x + 1) = 9) = True := eq_true hq
                  have HQQ := Aside0.mk hq
                  clear hq
                  gi_wp2
                  exact ⟨km_kept HS5.out 14 10 11 12 (by decide) (by decide) (by decide) rfl rfl rfl rfl HGR.out, rfl, km_round HQ9.out HM5.out HGR.out.size 10 11 15 rfl rfl rfl rfl rfl (by rw [HL9.out, HLX.out.1, List.map_append, List.append_assoc]; rfl) (by rw [HX5.out.2.2, List.length_append, List.length_singleton]) (by have h := HQQ.out; have h2 := HX5.out; have h3 := HMT.out; rw [List.length_append, List.length_singleton]; omega)⟩
                · have p1 : decide (wrap64 (x + 1) = 9) = false := decide_eq_false hq
                  have p2 : (wrap64 (x + 1) == 9) = false := beq_eq_false_iff_ne.2 hq
                  have p3 : (wrap64 (x + 1) = 9) = False := eq_false hq
                  have HQQ := Aside0.mk hq
                  clear hq
                  gi_wp2
                  exact ⟨km_kept HS5.out 14 10 11 12 (by decide) (by decide) (by decide) rfl rfl rfl rfl HGR.out, km_round HQ9.out HM5.out HGR.out.size 10 11 15 rfl rfl rfl rfl rfl (by rw [HL9.out, HLX.out.1, List.map_append, List.append_assoc]; rfl) (by rw [HX5.out.2.2, List.length_append, List.length_singleton]) (by have h := HQQ.out; have h2 := HX5.out; have h3 := HMT.out; rw [List.length_append, List.length_singleton]; omega)⟩
              case done1 =>
                rintro M xs W hMb hS hI hD
                obtain ⟨hM1, hok, Aa, na, ca, hsep⟩ := hI
                have hs := hsep.mark hMb hw1.out hD
                have hxl : xs.length = ML.length := by rw [← hS, List.length_map]
                have hok2 : xs.length ≤ 8 := hok
                have e1 : xs.map (·.2) = MT := by rw [HMT.out.1, hS, List.take_of_length_le (by omega)]
                have e2 : (xs.length : Int) = nT := by rw [HMT.out.2.1, ← e1, List.length_map]
                have e3 : [] ++ xs.map (·.2) = MT := e1
                rw [e3] at hs
                refine HK'.out _ W ⟨Aa, na, ca, ?_⟩
                rw [← e2]
                exact hs
              case stop1 =>
                rintro M c pre W hMb hSp ⟨rfl, hI⟩ hD
                obtain ⟨hM1, hok, Aa, na, ca, hsep⟩ := hI
                have hs := hsep.mark hMb hw1.out hD
                have hpt := List.prefix_iff_eq_take.1 hSp
                rw [List.length_map] at hpt
                have hok2 : pre.length = 9 := hok
                rw [hok2, ← HMT.out.1] at hpt
                have e2 : (pre.length : Int) = nT := by rw [HMT.out.2.1, ← hpt, List.length_map]
                have e3 : [] ++ pre.map (·.2) = MT := hpt
                rw [e3] at hs
                have hs2 := HK'.out _ W ⟨Aa, na, ca, by rw [← e2]; exact hs⟩
                gi_wp2
                exact hs2
            case rest1 =>
              rintro D1 V1 hF
              clear H44 HV1
              obtain ⟨Am1, nm1, cm1, hF⟩ := hF
              have Ht1 : Aside0 (Sep w (fun _ => False) [aB Ba v1 (.slice A1 l1.length c1) v2 (.slice A2 l2.length c2) (.slice A3 part.length c3) (.slice A4 m.length c4), headA (.slice Awx nwx cwx) ((Tx ++ Mx).map LRow.shown), headA (.slice Arx nrx crx) (Tx.map LRow.all), dataA (Tx ++ Mx), rI (.slice Ap np cp) (lentOf part), rB (.slice Am nm cm) (lentB m), xB Bx (.slice Awx l1.length cwx) (.slice Awx nwx cwx) (.slice Arx nrx crx), fB Bi v1 (.slice Awx l1.length cwx), rI (.slice Ao fl.length co) fl, rI (.slice Aq fl.length cq) fl, mB Bm (.slice Am1 nm1 cm1), nB Bn nT, seqB g1 lb1 Rd1 vn1 ML, seqB g2 lb2 Rd2 vn2 ML, sB (.slice Am1 nm1 cm1) MT, .blk D1 (.deferred (some []))] V1) := ⟨hF⟩
              clear hF
              go_upto_block 2 with fail
              have HSQ2 := Aside0.mk (Ht1.out.get 13 rfl).1
              have hw2 : Aside0 (w.heap.size ≤ V1.heap.size) := ⟨Ht1.out.hB.size⟩
              have HV2 : Aside0 (KInv w (fun V L i => [aB Ba v1 (.slice A1 l1.length c1) v2 (.slice A2 l2.length c2) (.slice A3 part.length c3) (.slice A4 m.length c4), headA (.slice Awx nwx cwx) ((Tx ++ Mx).map LRow.shown), headA (.slice Arx nrx crx) (Tx.map LRow.all), dataA (Tx ++ Mx), rI (.slice Ap np cp) (lentOf part), rB (.slice Am nm cm) (lentB m), xB Bx (.slice Awx l1.length cwx) (.slice Awx nwx cwx) (.slice Arx nrx crx), fB Bi v1 (.slice Awx l1.length cwx), rI (.slice Ao fl.length co) fl, rI (.slice Aq fl.length cq) fl, mB Bm V, nB Bn i, seqB g1 lb1 Rd1 vn1 ML, seqB g2 lb2 Rd2 vn2 ML, sB V L, .blk D1 (.deferred (some []))]) MT (fun n => nT - (n : Int)) (fun n => n = 0 ∨ n < MT.length) (fun _ => False) [] V1) := ⟨⟨fun k h => h.elim, Or.inl rfl, Am1, nm1, cm1, by have e1 : MT ++ ([] : List (Value × List Bool)).map (·.2) = MT := List.append_nil _; have e2 : nT - ((([] : List (Value × List Bool)).length : Nat) : Int) = nT := Int.sub_zero _; refine (?_ : Sep w (fun _ => False) ((fun V L i => [aB Ba v1 (.slice A1 l1.length c1) v2 (.slice A2 l2.length c2) (.slice A3 part.length c3) (.slice A4 m.length c4), headA (.slice Awx nwx cwx) ((Tx ++ Mx).map LRow.shown), headA (.slice Arx nrx crx) (Tx.map LRow.all), dataA (Tx ++ Mx), rI (.slice Ap np cp) (lentOf part), rB (.slice Am nm cm) (lentB m), xB Bx (.slice Awx l1.length cwx) (.slice Awx nwx cwx) (.slice Arx nrx crx), fB Bi v1 (.slice Awx l1.length cwx), rI (.slice Ao fl.length co) fl, rI (.slice Aq fl.length cq) fl, mB Bm V, nB Bn i, seqB g1 lb1 Rd1 vn1 ML, seqB g2 lb2 Rd2 vn2 ML, sB V L, .blk D1 (.deferred (some []))]) (.slice Am1 nm1 cm1) (MT ++ ([] : List (Value × List Bool)).map (·.2)) (nT - ((([] : List (Value × List Bool)).length : Nat) : Int))) V1); rw [e1, e2]; exact Ht1.out⟩⟩
              refine wp_joinD (F := fun D W => ∃ (Aa : Option Addr) (na ca : Nat) (i : Int), Sep w (fun _ => False) [aB Ba v1 (.slice A1 l1.length c1) v2 (.slice A2 l2.length c2) (.slice A3 part.length c3) (.slice A4 m.length c4), headA (.slice Awx nwx cwx) ((Tx ++ Mx).map LRow.shown), headA (.slice Arx nrx crx) (Tx.map LRow.all), dataA (Tx ++ Mx), rI (.slice Ap np cp) (lentOf part), rB (.slice Am nm cm) (lentB m), xB Bx (.slice Awx l1.length cwx) (.slice Awx nwx cwx) (.slice Arx nrx crx), fB Bi v1 (.slice Awx l1.length cwx), rI (.slice Ao fl.length co) fl, rI (.slice Aq fl.length cq) fl, mB Bm (.slice Aa na ca), nB Bn i, seqB g1 lb1 Rd1 vn1 ML, seqB g2 lb2 Rd2 vn2 ML, sB (.slice Aa na ca) (MT ++ MT), .blk D1 (.deferred (some [])), .blk D (.deferred (some []))] W) ?rest2 (fun K' hK' => ?first2)
              case first2 =>
                as_aux_lemma =>
                clear Ht1
                have HK' := Aside0.mk hK'
                clear hK'
                refine (wpIn_wide (n := 12)).1 ?_
                gi_step
                refine wpIn_range_own (by decide) (gf := g2) (lb := lb2) rfl rfl trivial HG.out.2.2.2 HSQ2.out.now HandB.move HSQ2.out.1 (Below.refl _ _) (fun _ => rfl)
                  (fun (M : Nat → Prop) (pre : List (Value × List Bool)) (W : World) => KInv w (fun V L i => [aB Ba v1 (.slice A1 l1.length c1) v2 (.slice A2 l2.length c2) (.slice A3 part.length c3) (.slice A4 m.length c4), headA (.slice Awx nwx cwx) ((Tx ++ Mx).map LRow.shown), headA (.slice Arx nrx crx) (Tx.map LRow.all), dataA (Tx ++ Mx), rI (.slice Ap np cp) (lentOf part), rB (.slice Am nm cm) (lentB m), xB Bx (.slice Awx l1.length cwx) (.slice Awx nwx cwx) (.slice Arx nrx crx), fB Bi v1 (.slice Awx l1.length cwx), rI (.slice Ao fl.length co) fl, rI (.slice Aq fl.length cq) fl, mB Bm V, nB Bn i, seqB g1 lb1 Rd1 vn1 ML, seqB g2 lb2 Rd2 vn2 ML, sB V L, .blk D1 (.deferred (some []))]) MT (fun n => nT - (n : Int)) (fun n => n = 0 ∨ n < MT.length) M pre W)
                  (fun c (M : Nat → Prop) (pre : List (Value × List Bool)) (W : World) => c = .exit 2 ∧ KInv w (fun V L i => [aB Ba v1 (.slice A1 l1.length c1) v2 (.slice A2 l2.length c2) (.slice A3 part.length c3) (.slice A4 m.length c4), headA (.slice Awx nwx cwx) ((Tx ++ Mx).map LRow.shown), headA (.slice Arx nrx crx) (Tx.map LRow.all), dataA (Tx ++ Mx), rI (.slice Ap np cp) (lentOf part), rB (.slice Am nm cm) (lentB m), xB Bx (.slice Awx l1.length cwx) (.slice Awx nwx cwx) (.slice Arx nrx crx), fB Bi v1 (.slice Awx l1.length cwx), rI (.slice Ao fl.length co) fl, rI (.slice Aq fl.length cq) fl, mB Bm V, nB Bn i, seqB g1 lb1 Rd1 vn1 ML, seqB g2 lb2 Rd2 vn2 ML, sB V L, .blk D1 (.deferred (some []))]) MT (fun n => nT - (n : Int)) (fun n => (n = 1 ∧ MT.length = 0) ∨ n = MT.length) M pre W) KInv.own (fun c M M1 pre A B h hg hm => ⟨h.1, KInv.own M M1 pre A B h.2 hg hm⟩) HV2.out
                  ?a12 ?assign2 ?body2 ?done2 ?stop2
                case a12 => exact fun p => { tmps := #[.agg #[.int .i64 v1, .slice A1 l1.length c1, .int .i64 v2, .slice A2 l2.length c2, .slice A3 part.length c3, .slice A4 m.length c4], .pointer (some ⟨Ba, 0, none⟩), .bool false, .pointer (some ⟨Bx, 0, none⟩), .slice Ap np cp, .slice Am nm cm, .pointer (some ⟨Bi, 0, none⟩), .slice Ao fl.length co, .slice Aq fl.length cq, .pointer (some ⟨Bm, 0, none⟩), .pointer (some ⟨Bn, 0, none⟩), .func (.func g1) #[] lb1, .func (.func g2) #[] lb2, undef, p.1, undef, undef, undef, undef, undef, u20, u21, u22, u23, u24, u25, u26, u27, u28, u29, u30, u31, u32, u33, u34, u35, u36, u37, u38, u39, u40, u41, u42, u43, u44, u45, u46, u47, u48, u49, u50, u51, u52, u53, u54, u55, u56, u57, u58, u59, u60, u61, u62, u63, u64, u65, u66, u67, u68, u69, u70, u71, u72, u73, u74, u75, u76, .func (.func g1) #[] lb1, .bool false, .bool false, .func (.func g2) #[] lb2, .bool false, .bool false, .func (.func g1) #[] lb1, u84, u85, u86, u87, u88, u89, u90, u91, u92, .func (.func g2) #[] lb2, p.1, u95, u96, u97, u98, u99, u100, u101, u102, u103, u104, u105, u106, u107, u108, u109, u110, u111, u112, u113, u114, u115, u116, u117, u118, u119, u120, u121, u122, u123, u124, u125, u126, u127, u128, u129, u130, u131, u132, u133, u134, u135, u136, u137, u138, u139, u140, u141, u142, u143, u144, u145, u146, u147, u148, u149, u150, u151, u152, u153, u154, u155, u156, u157, u158, u159, u160, u161, u162, u163, u164, u165, u166, u167, u168, u169, u170, u171, u172, u173, u174, u175, u176, u177, u178, u179, u180, u181], defers := [] }
                case assign2 =>
                  intro l x W K hK
                  gi_wp2
                  first | exact hK | simpa using hK
                case body2 =>
                  rintro li M M1 pre ⟨u, s⟩ A5 W5 hI hg hm hsub hMD hML hsz hHd hlen
                  have hM5 := (KInv.own M M1 pre A5 W5 hI hg hm).1
                  obtain ⟨hM1, hok, Aa, na, ca, hsep⟩ := hI
                  have hS5 := hsep.handB hg (fun b hb => (hM1 b hb).1) hm hHd
                  obtain ⟨As, cA, rfl⟩ := Kd.R_slice (hS5.get 16 rfl)
                  obtain ⟨L, hL⟩ : ∃ q : List (List Bool), q = MT ++ pre.map (·.2) := ⟨_, rfl⟩
                  obtain ⟨x, hx⟩ : ∃ q : Int, q = (fun n => nT - (n : Int)) pre.length := ⟨_, rfl⟩
                  have HS5 : Aside0 (Sep w M1 [aB Ba v1 (.slice A1 l1.length c1) v2 (.slice A2 l2.length c2) (.slice A3 part.length c3) (.slice A4 m.length c4), headA (.slice Awx nwx cwx) ((Tx ++ Mx).map LRow.shown), headA (.slice Arx nrx crx) (Tx.map LRow.all), dataA (Tx ++ Mx), rI (.slice Ap np cp) (lentOf part), rB (.slice Am nm cm) (lentB m), xB Bx (.slice Awx l1.length cwx) (.slice Awx nwx cwx) (.slice Arx nrx crx), fB Bi v1 (.slice Awx l1.length cwx), rI (.slice Ao fl.length co) fl, rI (.slice Aq fl.length cq) fl, mB Bm (.slice Aa na ca), nB Bn x, seqB g1 lb1 Rd1 vn1 ML, seqB g2 lb2 Rd2 vn2 ML, sB (.slice Aa na ca) L, .blk D1 (.deferred (some [])), rB (.slice As s.length cA) s] W5) := ⟨by rw [hL, hx]; exact hS5⟩
                  have HLL5 : Aside0 (L.length ≤ 18) := ⟨by rw [hL, List.length_append, List.length_map]; have := hok; have := HMT.out; omega⟩
                  have HLX := Aside0.mk (And.intro hL (And.intro hx hok))
                  have HM5 := Aside0.mk hM5
                  have HX5 : Aside0 (x = nT - pre.length ∧ (pre.length = 0 ∨ pre.length < MT.length) ∧ wrap64 (x - 1) = nT - ((pre.length + 1 : Nat) : Int)) := ⟨by have h := hok; have h2 : x = nT - (pre.length : Int) := hx; have h9 := HMT.out; exact ⟨h2, h, by rw [w64 (by omega) (by omega)]; omega⟩⟩
                  clear hM5 hM1 hok hsep hS5 hL hx hg hm hsub hMD hML hsz hHd hlen
                  have HP := Aside0.mk (HS5.out.pushes (P := Try.prog) (t := 46) (ty := 46) (.slice none 0 0) 24 14 rfl [(16, .slice As s.length cA, s)] (by rintro q r h; rcases q with _ | q; (· injection h with h; subst h; rfl); simp at h) (show [16].Nodup by decide) (show 14 ∉ [16] by decide) (fun b hb => (HM5.out b hb).2) Try.underlying46 infoKM rfl (show L.length + 1 ≤ maxLen from Nat.le_trans (m := 10000000) (by have := HLL5.out; omega) (by decide)) (show (L.length + 1) * 24 ≤ 140737488355328 by have := HLL5.out; omega))
                  have q0 : W5.cell? ⟨Bm, 0, none⟩ = some (.slice Aa na ca) := HS5.out.cell 10 0 rfl
                  gi_wp2_with (gi_at_builtin; refine HoldU.out ?_)
                  refine ⟨?_⟩
                  obtain ⟨v9, w9, hrun, hsep, hgr⟩ := HP.out
                  obtain ⟨L9, hL9⟩ : ∃ q : List (List Bool), q = L ++ [s] := ⟨_, rfl⟩
                  have HL9 := Aside0.mk hL9
                  replace hsep : Sep w M1 [aB Ba v1 (.slice A1 l1.length c1) v2 (.slice A2 l2.length c2) (.slice A3 part.length c3) (.slice A4 m.length c4), headA (.slice Awx nwx cwx) ((Tx ++ Mx).map LRow.shown), headA (.slice Arx nrx crx) (Tx.map LRow.all), dataA (Tx ++ Mx), rI (.slice Ap np cp) (lentOf part), rB (.slice Am nm cm) (lentB m), xB Bx (.slice Awx l1.length cwx) (.slice Awx nwx cwx) (.slice Arx nrx crx), fB Bi v1 (.slice Awx l1.length cwx), rI (.slice Ao fl.length co) fl, rI (.slice Aq fl.length cq) fl, mB Bm (.slice Aa na ca), nB Bn x, seqB g1 lb1 Rd1 vn1 ML, seqB g2 lb2 Rd2 vn2 ML, sB v9 L9, .blk D1 (.deferred (some [])), .emp] w9 := by rw [hL9]; exact hsep
                  obtain ⟨A9, c9, rfl⟩ := Kd.S_slice (hsep.get 14 rfl)
                  obtain ⟨n9, hn9⟩ : ∃ q, q = L9.length := ⟨_, rfl⟩
                  rw [← hn9] at hsep hrun
                  clear hL9 hn9
                  refine wpListIn_append_run rfl (.tmp 95) (.tmp 97) 46 rfl rfl rfl hrun ?_
                  have q1 : w9.cell? ⟨Bm, 0, none⟩ = some (.slice Aa na ca) := hsep.cell 10 0 rfl
                  have y1 : w9.frozen? ⟨Bm, 0, none⟩ = false := hsep.frozen 10 0 rfl
                  have q2 : w9.cell? ⟨Bn, 0, none⟩ = some (.int .i64 x) := hsep.cell 11 0 rfl
                  have y2 : w9.frozen? ⟨Bn, 0, none⟩ = false := hsep.frozen 11 0 rfl
                  have hne : Bm ≠ Bn := hsep.ne 10 11 (by decide) rfl rfl blk_blk blk_blk
                  have HQ9 := Aside0.mk hsep
                  have HGR := Aside0.mk hgr
                  clear hrun hsep hgr q0 HP
                  by_cases hq : wrap64 (x - 1) ≤ 0
                  · have p1 : decide (wrap64 (x - 1) ≤ 0) = true := decide_eq_true hq
                    have p3 : (wrap64 (x - 1) ≤ 0) = True := eq_true hq
                    have HQQ := Aside0.mk hq
                    clear hq
                    gi_wp2
                    first | exact ⟨km_kept HS5.out 14 10 11 13 (by decide) (by decide) (by decide) rfl rfl rfl rfl HGR.out, rfl, km_round HQ9.out HM5.out HGR.out.size 10 11 16 rfl rfl rfl rfl rfl (by rw [HL9.out, HLX.out.1, List.map_append, List.append_assoc]; rfl) (by rw [HX5.out.2.2, List.length_append, List.length_singleton]) (by have h := HQQ.out; have h2 := HX5.out; have h3 := HMT.out; rw [List.length_append, List.length_singleton]; omega)⟩ | (simp only [← List.map_append]; exact ⟨km_kept HS5.out 14 10 11 13 (by decide) (by decide) (by decide) rfl rfl rfl rfl HGR.out, rfl, km_round HQ9.out HM5.out HGR.out.size 10 11 16 rfl rfl rfl rfl rfl (by rw [HL9.out, HLX.out.1, List.map_append, List.append_assoc]; rfl) (by rw [HX5.out.2.2, List.length_append, List.length_singleton]) (by have h := HQQ.out; have h2 := HX5.out; have h3 := HMT.out; rw [List.length_append, List.length_singleton]; omega)⟩)
                  · have p1 : decide (wrap64 (x - 1) ≤ 0) = false := decide_eq_false hq
                    have p3 : (wrap64 (x - 1) ≤ 0) = False := eq_false hq
                    have HQQ := Aside0.mk hq
                    clear hq
                    gi_wp2
                    first | exact ⟨km_kept HS5.out 14 10 11 13 (by decide) (by decide) (by decide) rfl rfl rfl rfl HGR.out, km_round HQ9.out HM5.out HGR.out.size 10 11 16 rfl rfl rfl rfl rfl (by rw [HL9.out, HLX.out.1, List.map_append, List.append_assoc]; rfl) (by rw [HX5.out.2.2, List.length_append, List.length_singleton]) (by have h := HQQ.out; have h2 := HX5.out; have h3 := HMT.out; rw [List.length_append, List.length_singleton]; omega)⟩ | (simp only [← List.map_append]; exact ⟨km_kept HS5.out 14 10 11 13 (by decide) (by decide) (by decide) rfl rfl rfl rfl HGR.out, km_round HQ9.out HM5.out HGR.out.size 10 11 16 rfl rfl rfl rfl rfl (by rw [HL9.out, HLX.out.1, List.map_append, List.append_assoc]; rfl) (by rw [HX5.out.2.2, List.length_append, List.length_singleton]) (by have h := HQQ.out; have h2 := HX5.out; have h3 := HMT.out; rw [List.length_append, List.length_singleton]; omega)⟩)
                case done2 =>
                  rintro M xs W hMb hS hI hD
                  obtain ⟨hM1, hok, Aa, na, ca, hsep⟩ := hI
                  have hs := hsep.mark hMb hw2.out hD
                  have hxl : xs.length = ML.length := by rw [← hS, List.length_map]
                  have hok2 : xs.length = 0 ∨ xs.length < MT.length := hok
                  have h9 := HMT.out.2.2.2
                  have hM0 : ML = [] := List.length_eq_zero_iff.1 (by omega)
                  have hM1' : MT = [] := by rw [HMT.out.1, hM0]; rfl
                  have e1 : MT ++ xs.map (·.2) = MT ++ MT := by rw [hS, hM0, hM1']
                  rw [e1] at hs
                  exact HK'.out _ W ⟨Aa, na, ca, _, hs⟩
                case stop2 =>
                  rintro M c pre W hMb hSp ⟨rfl, hI⟩ hD
                  obtain ⟨hM1, hok, Aa, na, ca, hsep⟩ := hI
                  have hs := hsep.mark hMb hw2.out hD
                  have hpt := List.prefix_iff_eq_take.1 hSp
                  rw [List.length_map] at hpt
                  have hok2 : (pre.length = 1 ∧ MT.length = 0) ∨ pre.length = MT.length := hok
                  have h9 := HMT.out.2.2.2
                  have hle : pre.length ≤ ML.length := by have := hSp.length_le; rw [List.length_map] at this; exact this
                  have e1 : pre.map (·.2) = MT := by
                    rw [hpt, HMT.out.1]
                    rcases Nat.le_total 9 ML.length with h | h
                    · rw [show pre.length = 9 by omega]
                    · rw [List.take_of_length_le h, List.take_of_length_le (by omega)]
                  rw [e1] at hs
                  have hs2 := HK'.out _ W ⟨Aa, na, ca, _, hs⟩
                  gi_wp2
                  exact hs2
              case rest2 =>
                rintro D2 V2 hF
                clear Ht1 HV2
                obtain ⟨Am2, nm2, cm2, i2, hF⟩ := hF
                have Ht2 : Aside0 (Sep w (fun _ => False) [aB Ba v1 (.slice A1 l1.length c1) v2 (.slice A2 l2.length c2) (.slice A3 part.length c3) (.slice A4 m.length c4), headA (.slice Awx nwx cwx) ((Tx ++ Mx).map LRow.shown), headA (.slice Arx nrx crx) (Tx.map LRow.all), dataA (Tx ++ Mx), rI (.slice Ap np cp) (lentOf part), rB (.slice Am nm cm) (lentB m), xB Bx (.slice Awx l1.length cwx) (.slice Awx nwx cwx) (.slice Arx nrx crx), fB Bi v1 (.slice Awx l1.length cwx), rI (.slice Ao fl.length co) fl, rI (.slice Aq fl.length cq) fl, mB Bm (.slice Am2 nm2 cm2), nB Bn i2, seqB g1 lb1 Rd1 vn1 ML, seqB g2 lb2 Rd2 vn2 ML, sB (.slice Am2 nm2 cm2) (MT ++ MT), .blk D1 (.deferred (some [])), .blk D2 (.deferred (some []))] V2) := ⟨hF⟩
                clear hF
                have q8 : V2.cell? ⟨Bx, 0, none⟩ = some (.slice Awx l1.length cwx) := Ht2.out.cell 6 0 rfl
                have q9 : V2.cell? ⟨Bx, 1, none⟩ = some (.slice Awx nwx cwx) := Ht2.out.cell 6 1 rfl
                have q10 : V2.cell? ⟨Bx, 2, none⟩ = some (.slice Arx nrx crx) := Ht2.out.cell 6 2 rfl
                have q11 : V2.cell? ⟨Ba, 1, none⟩ = some (.slice A1 l1.length c1) := Ht2.out.cell 0 1 rfl
                go_wp2_with (go_at_call 26; refine HoldU.out ?_)
                refine ⟨?_⟩
                clear q8 q9 q10 q11
                refine (HFx.out.kept Ht2.out 1 2 3 rfl rfl rfl (Kd.C_below HR1.out Ht2.out.hB) HC.out.1 HB1.out).mono ?_
                rintro e W45 ⟨rfl, hb⟩
                have H46 : Aside0 (Sep w (fun _ => False) [aB Ba v1 (.slice A1 l1.length c1) v2 (.slice A2 l2.length c2) (.slice A3 part.length c3) (.slice A4 m.length c4), headA (.slice Awx nwx cwx) ((Tx ++ Mx).map LRow.shown), headA (.slice Arx nrx crx) (Tx.map LRow.all), dataA (Tx ++ Mx), rI (.slice Ap np cp) (lentOf part), rB (.slice Am nm cm) (lentB m), xB Bx (.slice Awx l1.length cwx) (.slice Awx nwx cwx) (.slice Arx nrx crx), fB Bi v1 (.slice Awx l1.length cwx), rI (.slice Ao fl.length co) fl, rI (.slice Aq fl.length cq) fl, mB Bm (.slice Am2 nm2 cm2), nB Bn i2, seqB g1 lb1 Rd1 vn1 ML, seqB g2 lb2 Rd2 vn2 ML, sB (.slice Am2 nm2 cm2) (MT ++ MT), .blk D1 (.deferred (some [])), .blk D2 (.deferred (some []))] W45) := ⟨Ht2.out.keep hb⟩
                clear Ht2
                clear hb
                have q12 : W45.cell? ⟨Ba, 4, none⟩ = some (.slice A3 part.length c3) := H46.out.cell 0 4 rfl
                go_wp2_with (go_at_call 48; refine HoldU.out ?_)
                refine ⟨?_⟩
                clear q12
                refine (kept1_n H46.out 4 rfl (Kd.C_below HR3.out H46.out.hB) HC.out.2.1 HB3.out).mono ?_
                rintro e W47 ⟨rfl, hb⟩
                have H48 : Aside0 (Sep w (fun _ => False) [aB Ba v1 (.slice A1 l1.length c1) v2 (.slice A2 l2.length c2) (.slice A3 part.length c3) (.slice A4 m.length c4), headA (.slice Awx nwx cwx) ((Tx ++ Mx).map LRow.shown), headA (.slice Arx nrx crx) (Tx.map LRow.all), dataA (Tx ++ Mx), rI (.slice Ap np cp) (lentOf part), rB (.slice Am nm cm) (lentB m), xB Bx (.slice Awx l1.length cwx) (.slice Awx nwx cwx) (.slice Arx nrx crx), fB Bi v1 (.slice Awx l1.length cwx), rI (.slice Ao fl.length co) fl, rI (.slice Aq fl.length cq) fl, mB Bm (.slice Am2 nm2 cm2), nB Bn i2, seqB g1 lb1 Rd1 vn1 ML, seqB g2 lb2 Rd2 vn2 ML, sB (.slice Am2 nm2 cm2) (MT ++ MT), .blk D1 (.deferred (some [])), .blk D2 (.deferred (some []))] W47) := ⟨H46.out.keep hb⟩
                clear H46
                clear hb
                have q13 : W47.cell? ⟨Ba, 5, none⟩ = some (.slice A4 m.length c4) := H48.out.cell 0 5 rfl
                go_wp2_with (go_at_call 49; refine HoldU.out ?_)
                refine ⟨?_⟩
                clear q13
                refine (keptB1_n H48.out 5 rfl (Kd.C_below HR4.out H48.out.hB) HC.out.2.2 HB4.out).mono ?_
                rintro e W49 ⟨rfl, hb⟩
                have H50 : Aside0 (Sep w (fun _ => False) [aB Ba v1 (.slice A1 l1.length c1) v2 (.slice A2 l2.length c2) (.slice A3 part.length c3) (.slice A4 m.length c4), headA (.slice Awx nwx cwx) ((Tx ++ Mx).map LRow.shown), headA (.slice Arx nrx crx) (Tx.map LRow.all), dataA (Tx ++ Mx), rI (.slice Ap np cp) (lentOf part), rB (.slice Am nm cm) (lentB m), xB Bx (.slice Awx l1.length cwx) (.slice Awx nwx cwx) (.slice Arx nrx crx), fB Bi v1 (.slice Awx l1.length cwx), rI (.slice Ao fl.length co) fl, rI (.slice Aq fl.length cq) fl, mB Bm (.slice Am2 nm2 cm2), nB Bn i2, seqB g1 lb1 Rd1 vn1 ML, seqB g2 lb2 Rd2 vn2 ML, sB (.slice Am2 nm2 cm2) (MT ++ MT), .blk D1 (.deferred (some [])), .blk D2 (.deferred (some []))] W49) := ⟨H48.out.keep hb⟩
                clear H48
                clear hb
                have q14 : W49.cell? ⟨Bx, 0, none⟩ = some (.slice Awx l1.length cwx) := H50.out.cell 6 0 rfl
                have q15 : W49.cell? ⟨Bx, 1, none⟩ = some (.slice Awx nwx cwx) := H50.out.cell 6 1 rfl
                have q16 : W49.cell? ⟨Bx, 2, none⟩ = some (.slice Arx nrx crx) := H50.out.cell 6 2 rfl
                go_wp2_with (go_at_call 28; refine HoldU.out ?_)
                refine ⟨?_⟩
                clear q14 q15 q16
                refine (overRows_calls H50.out (HX.out _) 1 2 3 (by decide) (by decide) (by decide) rfl rfl rfl (likeD_left Tx Mx) Awx l1.length cwx (HFx.out.big HB1.out).1 (HFx.out.big HB1.out).2.1 (HFx.out.big HB1.out).2.2).mono ?_
                rintro e W51 ⟨rfl, hs⟩
                have H52 : Aside0 (Sep w (fun _ => False) [aB Ba v1 (.slice A1 l1.length c1) v2 (.slice A2 l2.length c2) (.slice A3 part.length c3) (.slice A4 m.length c4), .emp, .emp, .emp, rI (.slice Ap np cp) (lentOf part), rB (.slice Am nm cm) (lentB m), xB Bx (.slice Awx l1.length cwx) (.slice Awx nwx cwx) (.slice Arx nrx crx), fB Bi v1 (.slice Awx l1.length cwx), rI (.slice Ao fl.length co) fl, rI (.slice Aq fl.length cq) fl, mB Bm (.slice Am2 nm2 cm2), nB Bn i2, seqB g1 lb1 Rd1 vn1 ML, seqB g2 lb2 Rd2 vn2 ML, sB (.slice Am2 nm2 cm2) (MT ++ MT), .blk D1 (.deferred (some [])), .blk D2 (.deferred (some []))] W51) := ⟨hs⟩
                clear H50
                clear hs
                go_wp2_with (go_at_call 50; refine HoldU.out ?_)
                refine ⟨?_⟩
                refine (overB1_n H52.out 5 rfl (HX.out _) (by rw [lentB_length]; have := HB4.out; omega)).mono ?_
                rintro e W53 ⟨rfl, hs⟩
                have H54 : Aside0 (Sep w (fun _ => False) [aB Ba v1 (.slice A1 l1.length c1) v2 (.slice A2 l2.length c2) (.slice A3 part.length c3) (.slice A4 m.length c4), .emp, .emp, .emp, rI (.slice Ap np cp) (lentOf part), .emp, xB Bx (.slice Awx l1.length cwx) (.slice Awx nwx cwx) (.slice Arx nrx crx), fB Bi v1 (.slice Awx l1.length cwx), rI (.slice Ao fl.length co) fl, rI (.slice Aq fl.length cq) fl, mB Bm (.slice Am2 nm2 cm2), nB Bn i2, seqB g1 lb1 Rd1 vn1 ML, seqB g2 lb2 Rd2 vn2 ML, sB (.slice Am2 nm2 cm2) (MT ++ MT), .blk D1 (.deferred (some [])), .blk D2 (.deferred (some []))] W53) := ⟨hs⟩
                clear H52
                clear hs
                have q17 : W53.cell? ⟨Ba, 0, none⟩ = some (.int .i64 v1) := H54.out.cell 0 0 rfl
                have q18 : W53.cell? ⟨Ba, 1, none⟩ = some (.slice A1 l1.length c1) := H54.out.cell 0 1 rfl
                have q19 : W53.cell? ⟨Ba, 5, none⟩ = some (.slice A4 m.length c4) := H54.out.cell 0 5 rfl
                go_wp2_with (go_at_call 34; refine HoldU.out ?_)
                refine ⟨?_⟩
                clear q17 q18 q19
                refine (refFalse_n HB1.out v1 A1 c1 _ (Kd.C_below HR1.out H54.out.hB) HC.out.1 rfl HFL.out A4 c4 (Kd.C_below HR4.out H54.out.hB) HC.out.2.2).mono ?_
                rintro e W55 ⟨Aw, cw, rfl, hR, hb⟩
                have H56 : Aside0 (Sep w (fun _ => False) [aB Ba v1 (.slice A1 l1.length c1) v2 (.slice A2 l2.length c2) (.slice A3 part.length c3) (.slice A4 m.length c4), .emp, .emp, .emp, rI (.slice Ap np cp) (lentOf part), .emp, xB Bx (.slice Awx l1.length cwx) (.slice Awx nwx cwx) (.slice Arx nrx crx), fB Bi v1 (.slice Awx l1.length cwx), rI (.slice Ao fl.length co) fl, rI (.slice Aq fl.length cq) fl, mB Bm (.slice Am2 nm2 cm2), nB Bn i2, seqB g1 lb1 Rd1 vn1 ML, seqB g2 lb2 Rd2 vn2 ML, sB (.slice Am2 nm2 cm2) (MT ++ MT), .blk D1 (.deferred (some [])), .blk D2 (.deferred (some [])), rI (.slice Aw fl.length cw) fl] W55) := ⟨H54.out.push hb (HX.out _) hR⟩
                clear H54
                clear hR hb
                go_wp2_with (go_at_call 33; refine HoldU.out ?_)
                refine ⟨?_⟩
                refine (sameInts_n Ao Aw co cw _ (Kd.R_reads' (H56.out.get 8 rfl)).2.2 (Kd.R_reads' (H56.out.get 8 rfl)).2.1 (Kd.R_reads' (H56.out.get 17 rfl)).2.2 (Kd.R_reads' (H56.out.get 17 rfl)).2.1 (Nat.le_trans HFN.out (by decide))).mono ?_
                rintro e W57 ⟨rfl, hb⟩
                have H58 : Aside0 (Sep w (fun _ => False) [aB Ba v1 (.slice A1 l1.length c1) v2 (.slice A2 l2.length c2) (.slice A3 part.length c3) (.slice A4 m.length c4), .emp, .emp, .emp, rI (.slice Ap np cp) (lentOf part), .emp, xB Bx (.slice Awx l1.length cwx) (.slice Awx nwx cwx) (.slice Arx nrx crx), fB Bi v1 (.slice Awx l1.length cwx), rI (.slice Ao fl.length co) fl, rI (.slice Aq fl.length cq) fl, mB Bm (.slice Am2 nm2 cm2), nB Bn i2, seqB g1 lb1 Rd1 vn1 ML, seqB g2 lb2 Rd2 vn2 ML, sB (.slice Am2 nm2 cm2) (MT ++ MT), .blk D1 (.deferred (some [])), .blk D2 (.deferred (some [])), rI (.slice Aw fl.length cw) fl] W57) := ⟨H56.out.keep hb⟩
                clear H56
                clear hb
                go_wp2_with (go_at_call 33; refine HoldU.out ?_)
                refine ⟨?_⟩
                refine (sameInts_n Aq Aw cq cw _ (Kd.R_reads' (H58.out.get 9 rfl)).2.2 (Kd.R_reads' (H58.out.get 9 rfl)).2.1 (Kd.R_reads' (H58.out.get 17 rfl)).2.2 (Kd.R_reads' (H58.out.get 17 rfl)).2.1 (Nat.le_trans HFN.out (by decide))).mono ?_
                rintro e W59 ⟨rfl, hb⟩
                have H60 : Aside0 (Sep w (fun _ => False) [aB Ba v1 (.slice A1 l1.length c1) v2 (.slice A2 l2.length c2) (.slice A3 part.length c3) (.slice A4 m.length c4), .emp, .emp, .emp, rI (.slice Ap np cp) (lentOf part), .emp, xB Bx (.slice Awx l1.length cwx) (.slice Awx nwx cwx) (.slice Arx nrx crx), fB Bi v1 (.slice Awx l1.length cwx), rI (.slice Ao fl.length co) fl, rI (.slice Aq fl.length cq) fl, mB Bm (.slice Am2 nm2 cm2), nB Bn i2, seqB g1 lb1 Rd1 vn1 ML, seqB g2 lb2 Rd2 vn2 ML, sB (.slice Am2 nm2 cm2) (MT ++ MT), .blk D1 (.deferred (some [])), .blk D2 (.deferred (some [])), rI (.slice Aw fl.length cw) fl] W59) := ⟨H58.out.keep hb⟩
                clear H58
                clear hb
                have q20 : W59.cell? ⟨Ba, 0, none⟩ = some (.int .i64 v1) := H60.out.cell 0 0 rfl
                have q21 : W59.cell? ⟨Ba, 1, none⟩ = some (.slice A1 l1.length c1) := H60.out.cell 0 1 rfl
                go_wp2_with (go_at_call 35; refine HoldU.out ?_)
                refine ⟨?_⟩
                clear q20 q21
                refine (refModels_n HB1.out v1 A1 c1 _ (Kd.C_below HR1.out H60.out.hB) HC.out.1 rfl HML.out).mono ?_
                rintro e W61 ⟨Al, cl, rfl, hR, hb⟩
                have H62 : Aside0 (Sep w (fun _ => False) [aB Ba v1 (.slice A1 l1.length c1) v2 (.slice A2 l2.length c2) (.slice A3 part.length c3) (.slice A4 m.length c4), .emp, .emp, .emp, rI (.slice Ap np cp) (lentOf part), .emp, xB Bx (.slice Awx l1.length cwx) (.slice Awx nwx cwx) (.slice Arx nrx crx), fB Bi v1 (.slice Awx l1.length cwx), rI (.slice Ao fl.length co) fl, rI (.slice Aq fl.length cq) fl, mB Bm (.slice Am2 nm2 cm2), nB Bn i2, seqB g1 lb1 Rd1 vn1 ML, seqB g2 lb2 Rd2 vn2 ML, sB (.slice Am2 nm2 cm2) (MT ++ MT), .blk D1 (.deferred (some [])), .blk D2 (.deferred (some [])), rI (.slice Aw fl.length cw) fl, sB (.slice Al ML.length cl) ML] W61) := ⟨H60.out.push hb (HX.out _) hR⟩
                clear H60
                clear hR hb
                have hnm : nm2 = (MT ++ MT).length := (Kd.S_reads' (H62.out.get 14 rfl)).1
                have HNM : Aside0 (nm2 = MT.length + MT.length) := ⟨by rw [hnm, List.length_append]⟩
                clear hnm
                have q22 : W61.cell? ⟨Bm, 0, none⟩ = some (.slice Am2 nm2 cm2) := H62.out.cell 10 0 rfl
                go_wp2_with fail
                clear q22
                go_loopw [17, 18] (fun v17 _ wr => ∃ (k : Nat) (x : Int), v17 = .int .i64 x ∧ Aside0 (x = k ∧ k ≤ nm2) ∧ Aside0 (Sep w (fun _ => False) [aB Ba v1 (.slice A1 l1.length c1) v2 (.slice A2 l2.length c2) (.slice A3 part.length c3) (.slice A4 m.length c4), .emp, .emp, .emp, rI (.slice Ap np cp) (lentOf part), .emp, xB Bx (.slice Awx l1.length cwx) (.slice Awx nwx cwx) (.slice Arx nrx crx), fB Bi v1 (.slice Awx l1.length cwx), rI (.slice Ao fl.length co) fl, rI (.slice Aq fl.length cq) fl, mB Bm (.slice Am2 nm2 cm2), nB Bn i2, seqB g1 lb1 Rd1 vn1 ML, seqB g2 lb2 Rd2 vn2 ML, sB (.slice Am2 nm2 cm2) (MT ++ MT), .blk D1 (.deferred (some [])), .blk D2 (.deferred (some [])), rI (.slice Aw fl.length cw) fl, sB (.slice Al ML.length cl) ML] wr)) (fun i _ _ => nm2 - (intOf i).toNat)
                case atStart => exact ⟨0, 0, rfl, ⟨rfl, Nat.zero_le _⟩, H62⟩
                case round =>
                  clear H62
                  obtain ⟨k, x, rfl, HK, HQ⟩ := hrel
                  obtain ⟨hxk, hk⟩ := HK.out
                  have fm : wr.cell? ⟨Bm, 0, none⟩ = some (.slice Am2 nm2 cm2) := HQ.out.cell 10 0 rfl
                  by_cases hlt : k < nm2
                  · have q3 : decide (x < (nm2 : Int)) = true := decide_eq_true (by omega)
                    have p2 : ((0 : Int) ≤ x) = True := eq_true (by omega)
                    have q2 : (x < (nm2 : Int)) = True := eq_true (by omega)
                    have HX2 : Aside0 (wrap64 (x + 1) = ((k + 1 : Nat) : Int) ∧ k + 1 ≤ nm2) := ⟨by have := HNM.out; have := HMT.out.2.2.1; rw [w64 (by omega) (by omega)]; omega, by omega⟩
                    have hm : (intOf (.int .i64 (wrap64 (x + 1)))).toNat = k + 1 := by rw [HX2.out.1]; simp [intOf]
                    have hm0 : (intOf (.int .i64 x)).toNat = k := by rw [hxk]; simp [intOf]
                    have HMSR : Aside0 (nm2 - (intOf (.int .i64 (wrap64 (x + 1)))).toNat < nm2 - (intOf (.int .i64 x)).toNat) := ⟨by rw [hm, hm0]; omega⟩
                    obtain ⟨hdv, hmd, hc0⟩ := mod_models HMT.out.2.1 HMT.out.2.2.1 HNM.out hxk hlt
                    obtain ⟨s, hs1, hs2, hsm⟩ := twice_at (k := k) HMT.out.1 (by have := HNM.out; omega) hc0
                    obtain ⟨y, hy⟩ : ∃ q : Int, q = ((k % MT.length : Nat) : Int) := ⟨_, rfl⟩
                    rw [← hy] at hmd
                    have hyl : k % MT.length < ML.length := (List.getElem?_eq_some_iff.1 hs2).1
                    have hd0 : (nT = 0) = False := eq_false (by have := HMT.out.2.1; omega)
                    have p4 : decide (y ≥ (ML.length : Int)) = false := decide_eq_false (by omega)
                    have p5 : ((0 : Int) ≤ y) = True := eq_true (by omega)
                    have p6 : (y < (ML.length : Int)) = True := eq_true (by omega)
                    obtain ⟨ad, Au, cu2, eA, he1, hcu, hCu⟩ := elem_model HQ.out 14 rfl hs1
                    subst eA
                    obtain ⟨al, Av, cv2, eB, he2, hcv, hCv⟩ := elem_model HQ.out 18 rfl hs2
                    subst eB
                    have ek : ad.add k = ad.add x.toNat := by rw [hxk]; rfl
                    have el : al.add (k % MT.length) = al.add y.toNat := by rw [hy]; rfl
                    rw [ek] at he1
                    rw [el] at he2
                    have HCU := Aside0.mk (And.intro hCu hcu)
                    have HCV := Aside0.mk (And.intro hCv hcv)
                    have HSL : Aside0 (s.length ≤ 16) := ⟨HMS.out.2 s hsm⟩
                    have hmx : Try.prog.follows .mixedOrders = true := by kernel_rfl
                    clear hm hm0 hxk hk hlt HK hc0 hs1 hs2 hsm hy hyl ek el hcu hCu hcv hCv
                    go_upto_region 38 with fail
                    have hS0 : wr.drew.cell? ⟨Bm, 0, none⟩ = some (.slice (some ad) nm2 cm2) ∧ wr.drew.cell? (ad.add x.toNat) = some (.slice Au s.length cu2) ∧ wr.drew.cell? (al.add y.toNat) = some (.slice Av s.length cv2) := ⟨fm, he1, he2⟩
                    clear fm he1 he2
                    refine wp_region_H (S := fun W' => W'.cell? ⟨Bm, 0, none⟩ = some (.slice (some ad) nm2 cm2) ∧ W'.cell? (ad.add x.toNat) = some (.slice Au s.length cu2) ∧ W'.cell? (al.add y.toNat) = some (.slice Av s.length cv2)) hmx ?_
                    refine wpAnyH_takeA (i := 0) (v := .int .i64 y) 157 rfl rfl (by kernel_rfl) (by kernel_rfl) (by kernel_rfl) (fun _ _ _ h => h) (.inl ⟨by rfl, fun W' hS => by obtain ⟨s1, s2, s3⟩ := hS; go_simp⟩) hS0 ?_
                    intro A' hA; simp at hA; subst hA
                    refine wpAnyH_takeA (i := 1) (v := .slice (some al) ML.length cl) 158 rfl rfl (by kernel_rfl) (by kernel_rfl) (by kernel_rfl) (fun _ _ _ h => h) (.inl ⟨by rfl, fun W' hS => by obtain ⟨s1, s2, s3⟩ := hS; go_simp⟩) hS0 ?_
                    intro A' hA; simp at hA; subst hA
                    refine wpAnyH_takeA (i := 2) (v := .int .i64 ML.length) 159 rfl rfl (by kernel_rfl) (by kernel_rfl) (by kernel_rfl) (fun _ _ _ h => h) (.inl ⟨by rfl, fun W' hS => by obtain ⟨s1, s2, s3⟩ := hS; go_simp⟩) hS0 ?_
                    intro A' hA; simp at hA; subst hA
                    refine wpAnyH_takeA (i := 3) (v := .bool false) 160 rfl rfl (by kernel_rfl) (by kernel_rfl) (by kernel_rfl) (fun _ _ _ h => h) (.inl ⟨by rfl, fun W' hS => by obtain ⟨s1, s2, s3⟩ := hS; go_simp⟩) hS0 ?_
                    intro A' hA; simp at hA; subst hA
                    refine wpAnyH_takeA (i := 4) (v := .bool false) 161 rfl rfl (by kernel_rfl) (by kernel_rfl) (by kernel_rfl) (fun _ _ _ h => h) (.inl ⟨by rfl, fun W' hS => by obtain ⟨s1, s2, s3⟩ := hS; go_simp⟩) hS0 ?_
                    intro A' hA; simp at hA; subst hA
                    refine wpAnyH_takeA (i := 5) (v := .slice (some ad) nm2 cm2) 162 rfl rfl (by kernel_rfl) (by kernel_rfl) (by kernel_rfl) (fun _ _ _ h => h) (.inl ⟨by rfl, fun W' hS => by obtain ⟨s1, s2, s3⟩ := hS; go_simp⟩) hS0 ?_
                    intro A' hA; simp at hA; subst hA
                    refine wpAnyH_takeA (i := 6) (v := .int .i64 x) 163 rfl rfl (by kernel_rfl) (by kernel_rfl) (by kernel_rfl) (fun _ _ _ h => h) (.inl ⟨by rfl, fun W' hS => by obtain ⟨s1, s2, s3⟩ := hS; go_simp⟩) hS0 ?_
                    intro A' hA; simp at hA; subst hA
                    refine wpAnyH_takeA (i := 7) (v := .pointer (some (ad.add x.toNat))) 164 rfl rfl (by kernel_rfl) (by kernel_rfl) (by kernel_rfl) (fun _ _ _ h => h) (.inl ⟨by rfl, fun W' hS => by obtain ⟨s1, s2, s3⟩ := hS; go_simp⟩) hS0 ?_
                    intro A' hA; simp at hA; subst hA
                    refine wpAnyH_takeA (i := 8) (v := .slice Au s.length cu2) 165 rfl rfl (by kernel_rfl) (by kernel_rfl) (by kernel_rfl) (fun _ _ _ h => h) (.inl ⟨by rfl, fun W' hS => by obtain ⟨s1, s2, s3⟩ := hS; go_simp⟩) hS0 ?_
                    intro A' hA; simp at hA; subst hA
                    refine wpAnyH_takeA (i := 9) (v := .slice (some al) ML.length cl) 166 rfl rfl (by kernel_rfl) (by kernel_rfl) (by kernel_rfl) (fun _ _ _ h => h) (.inl ⟨by rfl, fun W' hS => by obtain ⟨s1, s2, s3⟩ := hS; go_simp⟩) hS0 ?_
                    intro A' hA; simp at hA; subst hA
                    refine wpAnyH_takeA (i := 10) (v := .int .i64 y) 167 rfl rfl (by kernel_rfl) (by kernel_rfl) (by kernel_rfl) (fun _ _ _ h => h) (.inl ⟨by rfl, fun W' hS => by obtain ⟨s1, s2, s3⟩ := hS; go_simp⟩) hS0 ?_
                    intro A' hA; simp at hA; subst hA
                    refine wpAnyH_takeA (i := 11) (v := .pointer (some (al.add y.toNat))) 168 rfl rfl (by kernel_rfl) (by kernel_rfl) (by kernel_rfl) (fun _ _ _ h => h) (.inl ⟨by rfl, fun W' hS => by obtain ⟨s1, s2, s3⟩ := hS; go_simp⟩) hS0 ?_
                    intro A' hA; simp at hA; subst hA
                    refine wpAnyH_takeA (i := 12) (v := .slice Av s.length cv2) 169 rfl rfl (by kernel_rfl) (by kernel_rfl) (by kernel_rfl) (fun _ _ _ h => h) (.inl ⟨by rfl, fun W' hS => by obtain ⟨s1, s2, s3⟩ := hS; go_simp⟩) hS0 ?_
                    intro A' hA; simp at hA; subst hA
                    refine wpAnyH_one (i := 13) (by kernel_rfl) rfl (by rfl) (fun K' hK => ?_)
                    have HK := Aside0.mk hK
                    clear hK
                    go_simp
                    refine (sameBools_n Au Av cu2 cv2 _ (Kd.C_below HCU.out.1 (below_drew (Below.refl _ _))) HCU.out.2 (Kd.C_below HCV.out.1 (below_drew (Below.refl _ _))) HCV.out.2 (by have := HSL.out; omega)).mono ?_
                    rintro e X ⟨rfl, hb⟩
                    have HQ2 : Aside0 (Sep w (fun _ => False) [aB Ba v1 (.slice A1 l1.length c1) v2 (.slice A2 l2.length c2) (.slice A3 part.length c3) (.slice A4 m.length c4), .emp, .emp, .emp, rI (.slice Ap np cp) (lentOf part), .emp, xB Bx (.slice Awx l1.length cwx) (.slice Awx nwx cwx) (.slice Arx nrx crx), fB Bi v1 (.slice Awx l1.length cwx), rI (.slice Ao fl.length co) fl, rI (.slice Aq fl.length cq) fl, mB Bm (.slice (some ad) nm2 cm2), nB Bn i2, seqB g1 lb1 Rd1 vn1 ML, seqB g2 lb2 Rd2 vn2 ML, sB (.slice (some ad) nm2 cm2) (MT ++ MT), .blk D1 (.deferred (some [])), .blk D2 (.deferred (some [])), rI (.slice Aw fl.length cw) fl, sB (.slice (some al) ML.length cl) ML] X) := ⟨(HQ.out.keep (below_drew (Below.refl _ _))).keep hb⟩
                    have hS1 : X.cell? ⟨Bm, 0, none⟩ = some (.slice (some ad) nm2 cm2) ∧ X.cell? (ad.add x.toNat) = some (.slice Au s.length cu2) ∧ X.cell? (al.add y.toNat) = some (.slice Av s.length cv2) := ⟨pw_cell_below hb hS0.1, pw_cell_below hb hS0.2.1, pw_cell_below hb hS0.2.2⟩
                    refine HK.out _ _ hS1 ?_
                    clear HK hS0 hb HQ
                    have hS0 := hS1
                    clear hS1
                    refine wpAnyH_takeA (i := 14) (v := .bool false) 171 rfl rfl (by kernel_rfl) (by kernel_rfl) (by kernel_rfl) (fun _ _ _ h => h) (.inl ⟨by rfl, fun W' hS => by obtain ⟨s1, s2, s3⟩ := hS; go_simp⟩) hS0 ?_
                    intro A' hA; simp at hA; subst hA
                    refine wpAnyH_takeA (i := 15) (v := .bool false) 172 rfl rfl (by kernel_rfl) (by kernel_rfl) (by kernel_rfl) (fun _ _ _ h => h) (.inl ⟨by rfl, fun W' hS => by obtain ⟨s1, s2, s3⟩ := hS; go_simp⟩) hS0 ?_
                    intro A' hA; simp at hA; subst hA
                    clear hS0
                    refine wpAnyH_done (by kernel_rfl) ?_ _
                    go_wp2
                    go_roundw
                    case measure => exact HMSR.out
                    case rel => exact ⟨k + 1, _, rfl, HX2, HQ2⟩
                  · have q3 : decide (x < (nm2 : Int)) = false := decide_eq_false (by omega)
                    clear hk hlt hxk HK
                    have HMD := HQ.out.made (Kd.slice 3 (Kd.int .i64)) rfl 43 [(8, .slice Ao fl.length co, fl), (9, .slice Aq fl.length cq, fl)] (fun q r hq => by
                      rcases q with _ | _ | q
                      · injection hq with hq; subst hq; exact ⟨_, rfl, fun ok h => ⟨_, rfl, h⟩⟩
                      · injection hq with hq; subst hq; exact ⟨_, rfl, fun ok h => ⟨_, rfl, h⟩⟩
                      · simp at hq) (show [8, 9].Nodup by decide) (HX.out _) (show 2 ≤ maxLen by decide)
                    obtain ⟨ok4, hP4, hK4⟩ := Sep.use HMD 19 rfl (by simp)
                    have HP4 := Aside0.mk hP4
                    have HK4 := Aside0.mk hK4
                    clear hP4 hK4 HMD
                    have HAI : Aside0 (Calls Try.prog 51 #[.slice (some ⟨wr.heap.size, 0, none⟩) 2 2] (wr.alloc (.cells #[.slice Ao fl.length co, .slice Aq fl.length cq] 43)) fun e w' => e = .returned (.bool true) ∧ Grow (fun b => ok4 b ∧ b < (wr.alloc (.cells #[.slice Ao fl.length co, .slice Aq fl.length cq] 43)).heap.size) (wr.alloc (.cells #[.slice Ao fl.length co, .slice Aq fl.length cq] 43)) w') := ⟨apartInts_S HP4.out (show 2 ≤ _ by decide) (fun x hx => by have h1 := HFN.out; simp only [List.map_cons, List.map_nil, List.mem_cons, List.not_mem_nil, or_false] at hx; rcases hx with rfl | rfl <;> omega)⟩
                    go_wp2_with (go_at_call 51; refine HoldU.out ?_)
                    refine ⟨?_⟩
                    clear fm
                    refine (HAI.out).mono ?_
                    rintro e X ⟨rfl, hg⟩
                    have H90 : Aside0 (Sep w (fun _ => False) [aB Ba v1 (.slice A1 l1.length c1) v2 (.slice A2 l2.length c2) (.slice A3 part.length c3) (.slice A4 m.length c4), .emp, .emp, .emp, rI (.slice Ap np cp) (lentOf part), .emp, xB Bx (.slice Awx l1.length cwx) (.slice Awx nwx cwx) (.slice Arx nrx crx), fB Bi v1 (.slice Awx l1.length cwx), .emp, .emp, mB Bm (.slice Am2 nm2 cm2), nB Bn i2, seqB g1 lb1 Rd1 vn1 ML, seqB g2 lb2 Rd2 vn2 ML, sB (.slice Am2 nm2 cm2) (MT ++ MT), .blk D1 (.deferred (some [])), .blk D2 (.deferred (some [])), rI (.slice Aw fl.length cw) fl, sB (.slice Al ML.length cl) ML, .emp] X) := ⟨HK4.out X .emp hg trivial⟩
                    clear hg HK4 HP4 HAI HQ
                    have q23 : X.cell? ⟨Bm, 0, none⟩ = some (.slice Am2 nm2 cm2) := H90.out.cell 10 0 rfl
                    obtain ⟨ok5, hP5, hK5⟩ := Sep.use H90.out 14 rfl (HX.out _)
                    have HK5 := Aside0.mk hK5
                    have HAB : Aside0 (Calls Try.prog 52 #[.slice Am2 nm2 cm2] X fun e w' => e = .returned (.bool true) ∧ Grow (fun b => ok5 b ∧ b < X.heap.size) X w') := ⟨apartBools_S hP5 (by have := HMT.out.2.2.1; rw [List.length_append]; omega) (fun a ha => by
                      have ha2 : a ∈ MT := (List.mem_append.1 ha).elim id id
                      rw [HMT.out.1] at ha2
                      have := HMS.out.2 a (List.mem_of_mem_take ha2)
                      omega)⟩
                    clear hP5 hK5
                    go_wp2_with (go_at_call 52; refine HoldU.out ?_)
                    refine ⟨?_⟩
                    clear q23
                    refine (HAB.out).mono ?_
                    rintro e Y ⟨rfl, hg⟩
                    have H91 : Aside0 (Sep w (fun _ => False) [aB Ba v1 (.slice A1 l1.length c1) v2 (.slice A2 l2.length c2) (.slice A3 part.length c3) (.slice A4 m.length c4), .emp, .emp, .emp, rI (.slice Ap np cp) (lentOf part), .emp, xB Bx (.slice Awx l1.length cwx) (.slice Awx nwx cwx) (.slice Arx nrx crx), fB Bi v1 (.slice Awx l1.length cwx), .emp, .emp, mB Bm (.slice Am2 nm2 cm2), nB Bn i2, seqB g1 lb1 Rd1 vn1 ML, seqB g2 lb2 Rd2 vn2 ML, .emp, .blk D1 (.deferred (some [])), .blk D2 (.deferred (some [])), rI (.slice Aw fl.length cw) fl, sB (.slice Al ML.length cl) ML, .emp] Y) := ⟨HK5.out Y .emp hg trivial⟩
                    clear hg HK5 HAB H90
                    go_wp2_with fail
                    simp only [noPanic]
                    refine ⟨by simp, .inl ⟨_, _, rfl, run_takeDeferred (H91.out.obj 16 rfl), ?_⟩⟩
                    have E1 := H91.out.putObj (HX.out _) 16 (o' := .deferred none) rfl
                    refine ⟨by simp, .inl ⟨_, _, rfl, run_takeDeferred (E1.obj 15 rfl), ?_⟩⟩
                    have E2 := E1.putObj (HX.out _) 15 (o' := .deferred none) rfl
                    exact ⟨.bool true, by simp [results, Try.results12, go_sem], rfl, E2.hB⟩
end Go.Proofs.YtggnnnddnppcpaaHand
