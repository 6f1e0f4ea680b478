/- The law CnfKeepsJoin answers true, of formulas of some size. (Laid by gen_kj.py.) -/
import Derived.Test.YtggnnnddnppcpaaClCnfKeepsJoino
/-! text YtggnnnddnppcpaaKj -/
namespace Go.Proofs.YtggnnnddnppcpaaHand
open Go.RowKit Go.Proofs.YtggnnnddnppcpaaW.PrintWords Go.Proofs.YtggnnnddnppcpaaW.PrintLast Go.Proofs.YtggnnnddnppcpaaMath Go.Proofs.YtggnnnddnppcpaaOwn Go.Proofs.Ytggnnnddnppcpaa.PCnfKeepsJoin
set_option linter.unusedVariables false
set_option linter.unusedSimpArgs false

set_option maxHeartbeats 16000000 in
set_option maxRecDepth 100000 in
theorem kj_calls (v1 v2 : Int) (A1 A2 : Option Addr) (c1 c2 : Nat) (l1 l2 : List (List Int)) (w : World) (hr1 : Kd.C kC w A1 l1.length l1) (hc1 : l1.length ≤ c1) (hr2 : Kd.C kC w A2 l2.length l2) (hc2 : l2.length ≤ c2)
    (hb1 : l1.length ≤ 1048576 ∧ ∀ x ∈ l1, x.length ≤ 1099511627776) (hb2 : l2.length ≤ 1048576 ∧ ∀ x ∈ l2, x.length ≤ 1099511627776) :
    Calls Try.prog 5 #[.agg #[.int .i64 v1, .slice A1 l1.length c1], .agg #[.int .i64 v2, .slice A2 l2.length c2]] w fun e w' => e = .returned (.bool true) ∧ Below w.heap.size w w' := by
  obtain ⟨⟨j1v, j1l, j1e⟩, hJ1⟩ : ∃ J, joinOf v1 l1 v2 l2 = J := ⟨_, rfl⟩
  obtain ⟨⟨j2v, j2l, j2e⟩, hJ2⟩ : ∃ J, joinOf v1 l1 v1 l1 = J := ⟨_, rfl⟩
  obtain ⟨⟨j3v, j3l, j3e⟩, hJ3⟩ : ∃ J, joinOf v1 (l1.map (List.map negw)) v2 l2 = J := ⟨_, rfl⟩
  have HM1 : Aside0 (Sm j1l) := ⟨by have h := joinOf_sm (v1 := v1) (v2 := v2) hb1 hb2; rw [hJ1] at h; exact h⟩
  have HM2 : Aside0 (Sm j2l) := ⟨by have h := joinOf_sm (v1 := v1) (v2 := v1) hb1 hb1; rw [hJ2] at h; exact h⟩
  have HM3 : Aside0 (Sm j3l) := ⟨by have h := joinOf_sm (v1 := v1) (v2 := v2) (neg_sm hb1) hb2; rw [hJ3] at h; exact h⟩
  have HJ1 := Aside0.mk hJ1
  have HJ2 := Aside0.mk hJ2
  have HJ3 := Aside0.mk hJ3
  have HR1 := Aside0.mk hr1
  have HR2 := Aside0.mk hr2
  have HC := Aside0.mk (And.intro hc1 hc2)
  have HB1 := Aside0.mk hb1
  have HB2 := Aside0.mk hb2
  clear hr1 hr2 hc1 hc2 hb1 hb2 hJ1 hJ2 hJ3
  have HX : Aside0 (∀ (W : World) b, (fun _ : Nat => False) b → b < W.heap.size) := ⟨fun _ _ h => h.elim⟩
  have H0 : Aside0 (Sep w (fun _ => False) [] w) := ⟨Sep.start (Below.refl _ _) _⟩
  have hN := (H0.out.new (HX.out _) (.cells #[.int .i64 v1, .slice A1 l1.length c1] 24 (0, 0))).new (HX.out _) (.cells #[.int .i64 v2, .slice A2 l2.length c2] 24 (0, 0))
  rw [World.size_alloc] at hN
  obtain ⟨Bg, hBg⟩ : ∃ q, q = w.heap.size + 1 := ⟨_, rfl⟩
  obtain ⟨Bf, hBf⟩ : ∃ q, q = w.heap.size := ⟨_, rfl⟩
  rw [← hBg, ← hBf] at hN
  have HBB := Aside0.mk (And.intro hBf hBg)
  clear hBf hBg
  obtain ⟨V0, hV0⟩ : ∃ V, V = (w.alloc (.cells #[.int .i64 v1, .slice A1 l1.length c1] 24 (0, 0))).alloc (.cells #[.int .i64 v2, .slice A2 l2.length c2] 24 (0, 0)) := ⟨_, rfl⟩
  rw [← hV0] at hN
  have HV0 := Aside0.mk hV0
  have H1 : Aside0 (Sep w (fun _ => False) [fB Bf v1 (.slice A1 l1.length c1), fB Bg v2 (.slice A2 l2.length c2)] V0) := ⟨hN⟩
  clear H0
  clear hN hV0
  go_enter Try.func5, Try.ntmps5
  go_wp2_with (go_at_call 17; refine HoldU.out ?_)
  refine ⟨?_⟩
  rw [← HV0.out, ← HBB.out.2, ← HBB.out.1]
  refine (small_c _).mono ?_
  rintro e W2 ⟨As, cs, rfl, hC, hc, hb⟩
  have HS1 := Aside0.mk (And.intro hC hc)
  have H3 : Aside0 (Sep w (fun _ => False) [fB Bf v1 (.slice A1 l1.length c1), fB Bg v2 (.slice A2 l2.length c2)] W2) := ⟨H1.out.keep hb⟩
  clear H1
  clear hC hc hb HV0 HBB
  go_wp2_with (go_at_call 17; refine HoldU.out ?_)
  refine ⟨?_⟩
  refine (small_c _).mono ?_
  rintro e W4 ⟨At, ct, rfl, hC, hc, hb⟩
  have HS2 := Aside0.mk (And.intro hC hc)
  have HS3 := Aside0.mk (Kd.C_below HS1.out.1 hb)
  have H5 : Aside0 (Sep w (fun _ => False) [fB Bf v1 (.slice A1 l1.length c1), fB Bg v2 (.slice A2 l2.length c2)] W4) := ⟨H3.out.keep hb⟩
  clear H3
  clear hC hb hc
  go_wp2_with (go_at_call 21; refine HoldU.out ?_)
  refine ⟨?_⟩
  refine (joins_n (v1 := 2) (v2 := 2) (l1 := [[1, 2], [-1]]) (l2 := [[1, 2], [-1]]) (jv := 2) (jl := [[1, 2], [-1], [1, 2], [-1]]) (je := 0) (by decide) rfl rfl As At cs ct _ HS3.out HS1.out.2 HS2.out.1 HS2.out.2 ⟨by decide, by decide⟩ ⟨by decide, by decide⟩).mono ?_
  rintro e W6 ⟨Au, cu, rfl, _, hb⟩
  have H7 : Aside0 (Sep w (fun _ => False) [fB Bf v1 (.slice A1 l1.length c1), fB Bg v2 (.slice A2 l2.length c2)] W6) := ⟨H5.out.keep hb⟩
  clear H5
  clear hb HS1 HS2 HS3
  go_upto_region 4 with fail
  have hp := H7.out.new (HX.out _) (.cells #[.int .i64 2, .slice Au 4 cu] 24 (0, 0))
  generalize W6.alloc (.cells #[.int .i64 2, .slice Au 4 cu] 24) = W8 at hp ⊢
  generalize W6.heap.size = B5 at hp ⊢
  have H9 : Aside0 (Sep w (fun _ => False) [fB Bf v1 (.slice A1 l1.length c1), fB Bg v2 (.slice A2 l2.length c2), fB B5 2 (.slice Au 4 cu)] W8) := ⟨hp⟩
  clear H7
  clear hp
  have H10 : Aside0 (Sep w (fun _ => False) [fB Bf v1 (.slice A1 l1.length c1), fB Bg v2 (.slice A2 l2.length c2), fB B5 2 (.slice Au 4 cu), .emp, .emp, .emp, .emp, .emp, .emp, .emp, .emp] W8) := ⟨H9.out.pad 8⟩
  clear H9
  go_cut [7, 8] from 27 (fun s7 s8 wx => ∃ (Bx By : Nat) (Awx Arx : Option Addr) (cwx crx nwx nrx : Nat) (Tx Mx : List LRow) (Awy Ary : Option Addr) (cwy cry nwy nry : Nat) (Ty My : List LRow), s7 = .pointer (some ⟨Bx, 0, none⟩) ∧ s8 = .pointer (some ⟨By, 0, none⟩) ∧ Aside0 (LF l1 Tx Mx nwx nrx) ∧ Aside0 (LF l2 Ty My nwy nry) ∧ Aside0 (Sep w (fun _ => False) [fB Bf v1 (.slice A1 l1.length c1), fB Bg v2 (.slice A2 l2.length c2), fB B5 2 (.slice Au 4 cu), headA (.slice Awx nwx cwx) ((Tx ++ Mx).map LRow.shown), headA (.slice Arx nrx crx) (Tx.map LRow.all), dataA (Tx ++ Mx), headA (.slice Awy nwy cwy) ((Ty ++ My).map LRow.shown), headA (.slice Ary nry cry) (Ty.map LRow.all), dataA (Ty ++ My), xB Bx (.slice Awx l1.length cwx) (.slice Awx nwx cwx) (.slice Arx nrx crx), xB By (.slice Awy l2.length cwy) (.slice Awy nwy cwy) (.slice Ary nry cry)] wx))
  case first =>
    as_aux_lemma =>
    have hmx : Try.prog.follows .mixedOrders = true := by kernel_rfl
    have K0 : Aside0 (Sep w (fun _ => False) [fB Bf v1 (.slice A1 l1.length c1), fB Bg v2 (.slice A2 l2.length c2), fB B5 2 (.slice Au 4 cu), .emp, .emp, .emp, .emp, .emp, .emp, .emp, .emp] W8.drew) := ⟨H10.out.keep (below_drew (Below.refl _ _))⟩
    clear H10
    refine wp_region_H (S := fun W' => W'.cell? ⟨Bf, 1, none⟩ = some (.slice A1 l1.length c1) ∧ W'.cell? ⟨Bg, 1, none⟩ = some (.slice A2 l2.length c2)) hmx ?_
    generalize W8.drew = X0 at K0 ⊢
    have hS0 : X0.cell? ⟨Bf, 1, none⟩ = some (.slice A1 l1.length c1) ∧ X0.cell? ⟨Bg, 1, none⟩ = some (.slice A2 l2.length c2) := ⟨K0.out.cell 0 1 rfl, K0.out.cell 1 1 rfl⟩
    refine wpAnyH_takeA (i := 0) (v := .pointer (some ⟨Bf, 1, none⟩)) 35 rfl rfl (by kernel_rfl) (by kernel_rfl) (by kernel_rfl) (fun _ _ _ h => h) (.inl ⟨by rfl, fun W' hS => by obtain ⟨s0, s1⟩ := hS; go_simp⟩) hS0 ?_
    intro A' hA; simp at hA; subst hA
    refine wpAnyH_takeA (i := 1) (v := .slice A1 l1.length c1) 36 rfl rfl (by kernel_rfl) (by kernel_rfl) (by kernel_rfl) (fun _ _ _ h => h) (.inl ⟨by rfl, fun W' hS => by obtain ⟨s0, s1⟩ := hS; go_simp⟩) hS0 ?_
    intro A' hA; simp at hA; subst hA
    refine wpAnyH_takeA (i := 3) (v := .pointer (some ⟨Bg, 1, none⟩)) 38 rfl rfl (by kernel_rfl) (by kernel_rfl) (by kernel_rfl) (fun _ _ _ h => h) (.inl ⟨by rfl, fun W' hS => by obtain ⟨s0, s1⟩ := hS; go_simp⟩) hS0 ?_
    intro A' hA; simp at hA; subst hA
    refine wpAnyH_takeA (i := 4) (v := .slice A2 l2.length c2) 39 rfl rfl (by kernel_rfl) (by kernel_rfl) (by kernel_rfl) (fun _ _ _ h => h) (.inl ⟨by rfl, fun W' hS => by obtain ⟨s0, s1⟩ := hS; go_simp⟩) hS0 ?_
    intro A' hA; simp at hA; subst hA
    clear hS0
    refine wpAnyH_three (i := 2) (j := 6) (k := 7) (by kernel_rfl) rfl rfl rfl (by rfl) (by rfl) (by rfl) (fun K' hK => ?_) (fun K' hK => ?_) (fun K' hK => ?_)
    · have HK := Aside0.mk hK
      clear hK
      go_simp
      refine (lent_n A1 c1 l1 _ (Kd.C_below HR1.out K0.out.hB) HC.out.1 HB1.out).mono ?_
      rintro e X11 ⟨Awx, Arx, cwx, crx, nwx, nrx, Tx, Mx, rfl, hF, hs⟩
      have HFx := Aside0.mk hF
      have hp := K0.out.fill3 hs 3 4 5 (HX.out _) (by decide) (by decide) (by decide)
      clear hF hs
      have K11 : Aside0 (Sep w (fun _ => False) [fB Bf v1 (.slice A1 l1.length c1), fB Bg v2 (.slice A2 l2.length c2), fB B5 2 (.slice Au 4 cu), headA (.slice Awx nwx cwx) ((Tx ++ Mx).map LRow.shown), headA (.slice Arx nrx crx) (Tx.map LRow.all), dataA (Tx ++ Mx), .emp, .emp, .emp, .emp, .emp] X11) := ⟨hp⟩
      clear K0
      refine HK.out _ _ ⟨K11.out.cell 0 1 rfl, K11.out.cell 1 1 rfl⟩ ?_
      clear HK
      refine wpAnyH_three (i := 5) (j := 6) (k := 7) (by kernel_rfl) rfl rfl rfl (by rfl) (by rfl) (by rfl) (fun K' hK => ?_) (fun K' hK => ?_) (fun K' hK => ?_)
      · have HK := Aside0.mk hK
        clear hK
        go_simp
        refine (lent_n A2 c2 l2 _ (Kd.C_below HR2.out K11.out.hB) HC.out.2 HB2.out).mono ?_
        rintro e X12 ⟨Awy, Ary, cwy, cry, nwy, nry, Ty, My, rfl, hF, hs⟩
        have HFy := Aside0.mk hF
        have hp := K11.out.fill3 hs 6 7 8 (HX.out _) (by decide) (by decide) (by decide)
        clear hF hs
        have K12 : Aside0 (Sep w (fun _ => False) [fB Bf v1 (.slice A1 l1.length c1), fB Bg v2 (.slice A2 l2.length c2), fB B5 2 (.slice Au 4 cu), headA (.slice Awx nwx cwx) ((Tx ++ Mx).map LRow.shown), headA (.slice Arx nrx crx) (Tx.map LRow.all), dataA (Tx ++ Mx), headA (.slice Awy nwy cwy) ((Ty ++ My).map LRow.shown), headA (.slice Ary nry cry) (Ty.map LRow.all), dataA (Ty ++ My), .emp, .emp] X12) := ⟨hp⟩
        clear K11
        refine HK.out _ _ ⟨K12.out.cell 0 1 rfl, K12.out.cell 1 1 rfl⟩ ?_
        clear HK
        refine wpAnyH_two (i := 6) (j := 7) (by kernel_rfl) rfl rfl (by rfl) (by rfl) (fun K' hK => ?_) (fun K' hK => ?_)
        · have HK := Aside0.mk hK
          clear hK
          go_simp
          have hp := K12.out.fillNew (HX.out _) 9 rfl (.cells #[.slice none 0 0, .slice none 0 0, .slice none 0 0] 33 (0, 0))
          generalize X12.alloc (.cells #[.slice none 0 0, .slice none 0 0, .slice none 0 0] 33) = X13 at hp ⊢
          generalize X12.heap.size = Bx at hp ⊢
          have K13 : Aside0 (Sep w (fun _ => False) [fB Bf v1 (.slice A1 l1.length c1), fB Bg v2 (.slice A2 l2.length c2), fB B5 2 (.slice Au 4 cu), headA (.slice Awx nwx cwx) ((Tx ++ Mx).map LRow.shown), headA (.slice Arx nrx crx) (Tx.map LRow.all), dataA (Tx ++ Mx), headA (.slice Awy nwy cwy) ((Ty ++ My).map LRow.shown), headA (.slice Ary nry cry) (Ty.map LRow.all), dataA (Ty ++ My), xB Bx (.slice none 0 0) (.slice none 0 0) (.slice none 0 0), .emp] X13) := ⟨hp⟩
          clear hp K12
          refine HK.out _ _ ⟨K13.out.cell 0 1 rfl, K13.out.cell 1 1 rfl⟩ ?_
          clear HK
          refine wpAnyH_one (i := 7) (by kernel_rfl) rfl (by rfl) (fun K' hK => ?_)
          have HK := Aside0.mk hK
          clear hK
          go_simp
          have hp := K13.out.fillNew (HX.out _) 10 rfl (.cells #[.slice none 0 0, .slice none 0 0, .slice none 0 0] 33 (0, 0))
          generalize X13.alloc (.cells #[.slice none 0 0, .slice none 0 0, .slice none 0 0] 33) = X14 at hp ⊢
          generalize X13.heap.size = By at hp ⊢
          have K14 : Aside0 (Sep w (fun _ => False) [fB Bf v1 (.slice A1 l1.length c1), fB Bg v2 (.slice A2 l2.length c2), fB B5 2 (.slice Au 4 cu), headA (.slice Awx nwx cwx) ((Tx ++ Mx).map LRow.shown), headA (.slice Arx nrx crx) (Tx.map LRow.all), dataA (Tx ++ Mx), headA (.slice Awy nwy cwy) ((Ty ++ My).map LRow.shown), headA (.slice Ary nry cry) (Ty.map LRow.all), dataA (Ty ++ My), xB Bx (.slice none 0 0) (.slice none 0 0) (.slice none 0 0), xB By (.slice none 0 0) (.slice none 0 0) (.slice none 0 0)] X14) := ⟨hp⟩
          clear hp K13
          refine HK.out _ _ ⟨K14.out.cell 0 1 rfl, K14.out.cell 1 1 rfl⟩ ?_
          clear HK
          refine wpAnyH_one (i := 8) (by kernel_rfl) rfl (by rfl) (fun K' hK => ?_)
          have HK := Aside0.mk hK
          clear hK
          have k0 : X14.cell? ⟨Bx, 0, none⟩ = some (.slice none 0 0) := K14.out.cell 9 0 rfl
          have y0 : X14.frozen? ⟨Bx, 0, none⟩ = false := K14.out.frozen 9 0 rfl
          have k1 : X14.cell? ⟨Bx, 1, none⟩ = some (.slice none 0 0) := K14.out.cell 9 1 rfl
          have y1 : X14.frozen? ⟨Bx, 1, none⟩ = false := K14.out.frozen 9 1 rfl
          have k2 : X14.cell? ⟨Bx, 2, none⟩ = some (.slice none 0 0) := K14.out.cell 9 2 rfl
          have y2 : X14.frozen? ⟨Bx, 2, none⟩ = false := K14.out.frozen 9 2 rfl
          refine wp_store_run (t := 33) (.tmp 7) (.tmp 37) rfl rfl rfl rfl (storeRows k0 k1 k2 y0 y1 y2) ?_
          clear k0 k1 k2 y0 y1 y2
          have hp := (((K14.out.put (HX.out _) 9 0 rfl (.slice Awx l1.length cwx) rfl).put (HX.out _) 9 1 rfl (.slice Awx nwx cwx) rfl).put (HX.out _) 9 2 rfl (.slice Arx nrx crx) rfl)
          have K15 : Aside0 (Sep w (fun _ => False) [fB Bf v1 (.slice A1 l1.length c1), fB Bg v2 (.slice A2 l2.length c2), fB B5 2 (.slice Au 4 cu), headA (.slice Awx nwx cwx) ((Tx ++ Mx).map LRow.shown), headA (.slice Arx nrx crx) (Tx.map LRow.all), dataA (Tx ++ Mx), headA (.slice Awy nwy cwy) ((Ty ++ My).map LRow.shown), headA (.slice Ary nry cry) (Ty.map LRow.all), dataA (Ty ++ My), xB Bx (.slice Awx l1.length cwx) (.slice Awx nwx cwx) (.slice Arx nrx crx), xB By (.slice none 0 0) (.slice none 0 0) (.slice none 0 0)] (((X14.setCell ⟨Bx, 0, none⟩ (.slice Awx l1.length cwx)).setCell ⟨Bx, 1, none⟩ (.slice Awx nwx cwx)).setCell ⟨Bx, 2, none⟩ (.slice Arx nrx crx))) := ⟨hp⟩
          clear hp K14
          generalize (((X14.setCell ⟨Bx, 0, none⟩ (.slice Awx l1.length cwx)).setCell ⟨Bx, 1, none⟩ (.slice Awx nwx cwx)).setCell ⟨Bx, 2, none⟩ (.slice Arx nrx crx)) = X15 at K15 ⊢
          refine HK.out _ _ ⟨K15.out.cell 0 1 rfl, K15.out.cell 1 1 rfl⟩ ?_
          clear HK
          refine wpAnyH_one (i := 9) (by kernel_rfl) rfl (by rfl) (fun K' hK => ?_)
          have HK := Aside0.mk hK
          clear hK
          have k0 : X15.cell? ⟨By, 0, none⟩ = some (.slice none 0 0) := K15.out.cell 10 0 rfl
          have y0 : X15.frozen? ⟨By, 0, none⟩ = false := K15.out.frozen 10 0 rfl
          have k1 : X15.cell? ⟨By, 1, none⟩ = some (.slice none 0 0) := K15.out.cell 10 1 rfl
          have y1 : X15.frozen? ⟨By, 1, none⟩ = false := K15.out.frozen 10 1 rfl
          have k2 : X15.cell? ⟨By, 2, none⟩ = some (.slice none 0 0) := K15.out.cell 10 2 rfl
          have y2 : X15.frozen? ⟨By, 2, none⟩ = false := K15.out.frozen 10 2 rfl
          refine wp_store_run (t := 33) (.tmp 8) (.tmp 40) rfl rfl rfl rfl (storeRows k0 k1 k2 y0 y1 y2) ?_
          clear k0 k1 k2 y0 y1 y2
          have hp := (((K15.out.put (HX.out _) 10 0 rfl (.slice Awy l2.length cwy) rfl).put (HX.out _) 10 1 rfl (.slice Awy nwy cwy) rfl).put (HX.out _) 10 2 rfl (.slice Ary nry cry) rfl)
          have K16 : Aside0 (Sep w (fun _ => False) [fB Bf v1 (.slice A1 l1.length c1), fB Bg v2 (.slice A2 l2.length c2), fB B5 2 (.slice Au 4 cu), headA (.slice Awx nwx cwx) ((Tx ++ Mx).map LRow.shown), headA (.slice Arx nrx crx) (Tx.map LRow.all), dataA (Tx ++ Mx), headA (.slice Awy nwy cwy) ((Ty ++ My).map LRow.shown), headA (.slice Ary nry cry) (Ty.map LRow.all), dataA (Ty ++ My), xB Bx (.slice Awx l1.length cwx) (.slice Awx nwx cwx) (.slice Arx nrx crx), xB By (.slice Awy l2.length cwy) (.slice Awy nwy cwy) (.slice Ary nry cry)] (((X15.setCell ⟨By, 0, none⟩ (.slice Awy l2.length cwy)).setCell ⟨By, 1, none⟩ (.slice Awy nwy cwy)).setCell ⟨By, 2, none⟩ (.slice Ary nry cry))) := ⟨hp⟩
          clear hp K15
          generalize (((X15.setCell ⟨By, 0, none⟩ (.slice Awy l2.length cwy)).setCell ⟨By, 1, none⟩ (.slice Awy nwy cwy)).setCell ⟨By, 2, none⟩ (.slice Ary nry cry)) = X16 at K16 ⊢
          refine HK.out _ _ ⟨K16.out.cell 0 1 rfl, K16.out.cell 1 1 rfl⟩ ?_
          clear HK
          refine wpAnyH_done (by kernel_rfl) ?_ _
          go_wp2_with fail
          go_meet
          case rel => exact ⟨Bx, By, Awx, Arx, cwx, crx, nwx, nrx, Tx, Mx, Awy, Ary, cwy, cry, nwy, nry, Ty, My, rfl, rfl, HFx, HFy, K16⟩
        · have HK := Aside0.mk hK
          clear hK
          go_simp
          have hp := K12.out.fillNew (HX.out _) 10 rfl (.cells #[.slice none 0 0, .slice none 0 0, .slice none 0 0] 33 (0, 0))
          generalize X12.alloc (.cells #[.slice none 0 0, .slice none 0 0, .slice none 0 0] 33) = X17 at hp ⊢
          generalize X12.heap.size = By at hp ⊢
          have K17 : Aside0 (Sep w (fun _ => False) [fB Bf v1 (.slice A1 l1.length c1), fB Bg v2 (.slice A2 l2.length c2), fB B5 2 (.slice Au 4 cu), headA (.slice Awx nwx cwx) ((Tx ++ Mx).map LRow.shown), headA (.slice Arx nrx crx) (Tx.map LRow.all), dataA (Tx ++ Mx), headA (.slice Awy nwy cwy) ((Ty ++ My).map LRow.shown), headA (.slice Ary nry cry) (Ty.map LRow.all), dataA (Ty ++ My), .emp, xB By (.slice none 0 0) (.slice none 0 0) (.slice none 0 0)] X17) := ⟨hp⟩
          clear hp K12
          refine HK.out _ _ ⟨K17.out.cell 0 1 rfl, K17.out.cell 1 1 rfl⟩ ?_
          clear HK
          refine wpAnyH_one (i := 6) (by kernel_rfl) rfl (by rfl) (fun K' hK => ?_)
          have HK := Aside0.mk hK
          clear hK
          go_simp
          have hp := K17.out.fillNew (HX.out _) 9 rfl (.cells #[.slice none 0 0, .slice none 0 0, .slice none 0 0] 33 (0, 0))
          generalize X17.alloc (.cells #[.slice none 0 0, .slice none 0 0, .slice none 0 0] 33) = X18 at hp ⊢
          generalize X17.heap.size = Bx at hp ⊢
          have K18 : Aside0 (Sep w (fun _ => False) [fB Bf v1 (.slice A1 l1.length c1), fB Bg v2 (.slice A2 l2.length c2), fB B5 2 (.slice Au 4 cu), headA (.slice Awx nwx cwx) ((Tx ++ Mx).map LRow.shown), headA (.slice Arx nrx crx) (Tx.map LRow.all), dataA (Tx ++ Mx), headA (.slice Awy nwy cwy) ((Ty ++ My).map LRow.shown), headA (.slice Ary nry cry) (Ty.map LRow.all), dataA (Ty ++ My), xB Bx (.slice none 0 0) (.slice none 0 0) (.slice none 0 0), xB By (.slice none 0 0) (.slice none 0 0) (.slice none 0 0)] X18) := ⟨hp⟩
          clear hp K17
          refine HK.out _ _ ⟨K18.out.cell 0 1 rfl, K18.out.cell 1 1 rfl⟩ ?_
          clear HK
          refine wpAnyH_one (i := 8) (by kernel_rfl) rfl (by rfl) (fun K' hK => ?_)
          have HK := Aside0.mk hK
          clear hK
          have k0 : X18.cell? ⟨Bx, 0, none⟩ = some (.slice none 0 0) := K18.out.cell 9 0 rfl
          have y0 : X18.frozen? ⟨Bx, 0, none⟩ = false := K18.out.frozen 9 0 rfl
          have k1 : X18.cell? ⟨Bx, 1, none⟩ = some (.slice none 0 0) := K18.out.cell 9 1 rfl
          have y1 : X18.frozen? ⟨Bx, 1, none⟩ = false := K18.out.frozen 9 1 rfl
          have k2 : X18.cell? ⟨Bx, 2, none⟩ = some (.slice none 0 0) := K18.out.cell 9 2 rfl
          have y2 : X18.frozen? ⟨Bx, 2, none⟩ = false := K18.out.frozen 9 2 rfl
          refine wp_store_run (t := 33) (.tmp 7) (.tmp 37) rfl rfl rfl rfl (storeRows k0 k1 k2 y0 y1 y2) ?_
          clear k0 k1 k2 y0 y1 y2
          have hp := (((K18.out.put (HX.out _) 9 0 rfl (.slice Awx l1.length cwx) rfl).put (HX.out _) 9 1 rfl (.slice Awx nwx cwx) rfl).put (HX.out _) 9 2 rfl (.slice Arx nrx crx) rfl)
          have K19 : Aside0 (Sep w (fun _ => False) [fB Bf v1 (.slice A1 l1.length c1), fB Bg v2 (.slice A2 l2.length c2), fB B5 2 (.slice Au 4 cu), headA (.slice Awx nwx cwx) ((Tx ++ Mx).map LRow.shown), headA (.slice Arx nrx crx) (Tx.map LRow.all), dataA (Tx ++ Mx), headA (.slice Awy nwy cwy) ((Ty ++ My).map LRow.shown), headA (.slice Ary nry cry) (Ty.map LRow.all), dataA (Ty ++ My), xB Bx (.slice Awx l1.length cwx) (.slice Awx nwx cwx) (.slice Arx nrx crx), xB By (.slice none 0 0) (.slice none 0 0) (.slice none 0 0)] (((X18.setCell ⟨Bx, 0, none⟩ (.slice Awx l1.length cwx)).setCell ⟨Bx, 1, none⟩ (.slice Awx nwx cwx)).setCell ⟨Bx, 2, none⟩ (.slice Arx nrx crx))) := ⟨hp⟩
          clear hp K18
          generalize (((X18.setCell ⟨Bx, 0, none⟩ (.slice Awx l1.length cwx)).setCell ⟨Bx, 1, none⟩ (.slice Awx nwx cwx)).setCell ⟨Bx, 2, none⟩ (.slice Arx nrx crx)) = X19 at K19 ⊢
          refine HK.out _ _ ⟨K19.out.cell 0 1 rfl, K19.out.cell 1 1 rfl⟩ ?_
          clear HK
          refine wpAnyH_one (i := 9) (by kernel_rfl) rfl (by rfl) (fun K' hK => ?_)
          have HK := Aside0.mk hK
          clear hK
          have k0 : X19.cell? ⟨By, 0, none⟩ = some (.slice none 0 0) := K19.out.cell 10 0 rfl
          have y0 : X19.frozen? ⟨By, 0, none⟩ = false := K19.out.frozen 10 0 rfl
          have k1 : X19.cell? ⟨By, 1, none⟩ = some (.slice none 0 0) := K19.out.cell 10 1 rfl
          have y1 : X19.frozen? ⟨By, 1, none⟩ = false := K19.out.frozen 10 1 rfl
          have k2 : X19.cell? ⟨By, 2, none⟩ = some (.slice none 0 0) := K19.out.cell 10 2 rfl
          have y2 : X19.frozen? ⟨By, 2, none⟩ = false := K19.out.frozen 10 2 rfl
          refine wp_store_run (t := 33) (.tmp 8) (.tmp 40) rfl rfl rfl rfl (storeRows k0 k1 k2 y0 y1 y2) ?_
          clear k0 k1 k2 y0 y1 y2
          have hp := (((K19.out.put (HX.out _) 10 0 rfl (.slice Awy l2.length cwy) rfl).put (HX.out _) 10 1 rfl (.slice Awy nwy cwy) rfl).put (HX.out _) 10 2 rfl (.slice Ary nry cry) rfl)
          have K20 : Aside0 (Sep w (fun _ => False) [fB Bf v1 (.slice A1 l1.length c1), fB Bg v2 (.slice A2 l2.length c2), fB B5 2 (.slice Au 4 cu), headA (.slice Awx nwx cwx) ((Tx ++ Mx).map LRow.shown), headA (.slice Arx nrx crx) (Tx.map LRow.all), dataA (Tx ++ Mx), headA (.slice Awy nwy cwy) ((Ty ++ My).map LRow.shown), headA (.slice Ary nry cry) (Ty.map LRow.all), dataA (Ty ++ My), xB Bx (.slice Awx l1.length cwx) (.slice Awx nwx cwx) (.slice Arx nrx crx), xB By (.slice Awy l2.length cwy) (.slice Awy nwy cwy) (.slice Ary nry cry)] (((X19.setCell ⟨By, 0, none⟩ (.slice Awy l2.length cwy)).setCell ⟨By, 1, none⟩ (.slice Awy nwy cwy)).setCell ⟨By, 2, none⟩ (.slice Ary nry cry))) := ⟨hp⟩
          clear hp K19
          generalize (((X19.setCell ⟨By, 0, none⟩ (.slice Awy l2.length cwy)).setCell ⟨By, 1, none⟩ (.slice Awy nwy cwy)).setCell ⟨By, 2, none⟩ (.slice Ary nry cry)) = X20 at K20 ⊢
          refine HK.out _ _ ⟨K20.out.cell 0 1 rfl, K20.out.cell 1 1 rfl⟩ ?_
          clear HK
          refine wpAnyH_done (by kernel_rfl) ?_ _
          go_wp2_with fail
          go_meet
          case rel => exact ⟨Bx, By, Awx, Arx, cwx, crx, nwx, nrx, Tx, Mx, Awy, Ary, cwy, cry, nwy, nry, Ty, My, rfl, rfl, HFx, HFy, K20⟩
      · have HK := Aside0.mk hK
        clear hK
        go_simp
        have hp := K11.out.fillNew (HX.out _) 9 rfl (.cells #[.slice none 0 0, .slice none 0 0, .slice none 0 0] 33 (0, 0))
        generalize X11.alloc (.cells #[.slice none 0 0, .slice none 0 0, .slice none 0 0] 33) = X21 at hp ⊢
        generalize X11.heap.size = Bx at hp ⊢
        have K21 : Aside0 (Sep w (fun _ => False) [fB Bf v1 (.slice A1 l1.length c1), fB Bg v2 (.slice A2 l2.length c2), fB B5 2 (.slice Au 4 cu), headA (.slice Awx nwx cwx) ((Tx ++ Mx).map LRow.shown), headA (.slice Arx nrx crx) (Tx.map LRow.all), dataA (Tx ++ Mx), .emp, .emp, .emp, xB Bx (.slice none 0 0) (.slice none 0 0) (.slice none 0 0), .emp] X21) := ⟨hp⟩
        clear hp K11
        refine HK.out _ _ ⟨K21.out.cell 0 1 rfl, K21.out.cell 1 1 rfl⟩ ?_
        clear HK
        refine wpAnyH_two (i := 5) (j := 7) (by kernel_rfl) rfl rfl (by rfl) (by rfl) (fun K' hK => ?_) (fun K' hK => ?_)
        · have HK := Aside0.mk hK
          clear hK
          go_simp
          refine (lent_n A2 c2 l2 _ (Kd.C_below HR2.out K21.out.hB) HC.out.2 HB2.out).mono ?_
          rintro e X22 ⟨Awy, Ary, cwy, cry, nwy, nry, Ty, My, rfl, hF, hs⟩
          have HFy := Aside0.mk hF
          have hp := K21.out.fill3 hs 6 7 8 (HX.out _) (by decide) (by decide) (by decide)
          clear hF hs
          have K22 : Aside0 (Sep w (fun _ => False) [fB Bf v1 (.slice A1 l1.length c1), fB Bg v2 (.slice A2 l2.length c2), fB B5 2 (.slice Au 4 cu), headA (.slice Awx nwx cwx) ((Tx ++ Mx).map LRow.shown), headA (.slice Arx nrx crx) (Tx.map LRow.all), dataA (Tx ++ Mx), headA (.slice Awy nwy cwy) ((Ty ++ My).map LRow.shown), headA (.slice Ary nry cry) (Ty.map LRow.all), dataA (Ty ++ My), xB Bx (.slice none 0 0) (.slice none 0 0) (.slice none 0 0), .emp] X22) := ⟨hp⟩
          clear K21
          refine HK.out _ _ ⟨K22.out.cell 0 1 rfl, K22.out.cell 1 1 rfl⟩ ?_
          clear HK
          refine wpAnyH_one (i := 7) (by kernel_rfl) rfl (by rfl) (fun K' hK => ?_)
          have HK := Aside0.mk hK
          clear hK
          go_simp
          have hp := K22.out.fillNew (HX.out _) 10 rfl (.cells #[.slice none 0 0, .slice none 0 0, .slice none 0 0] 33 (0, 0))
          generalize X22.alloc (.cells #[.slice none 0 0, .slice none 0 0, .slice none 0 0] 33) = X23 at hp ⊢
          generalize X22.heap.size = By at hp ⊢
          have K23 : Aside0 (Sep w (fun _ => False) [fB Bf v1 (.slice A1 l1.length c1), fB Bg v2 (.slice A2 l2.length c2), fB B5 2 (.slice Au 4 cu), headA (.slice Awx nwx cwx) ((Tx ++ Mx).map LRow.shown), headA (.slice Arx nrx crx) (Tx.map LRow.all), dataA (Tx ++ Mx), headA (.slice Awy nwy cwy) ((Ty ++ My).map LRow.shown), headA (.slice Ary nry cry) (Ty.map LRow.all), dataA (Ty ++ My), xB Bx (.slice none 0 0) (.slice none 0 0) (.slice none 0 0), xB By (.slice none 0 0) (.slice none 0 0) (.slice none 0 0)] X23) := ⟨hp⟩
          clear hp K22
          refine HK.out _ _ ⟨K23.out.cell 0 1 rfl, K23.out.cell 1 1 rfl⟩ ?_
          clear HK
          refine wpAnyH_one (i := 8) (by kernel_rfl) rfl (by rfl) (fun K' hK => ?_)
          have HK := Aside0.mk hK
          clear hK
          have k0 : X23.cell? ⟨Bx, 0, none⟩ = some (.slice none 0 0) := K23.out.cell 9 0 rfl
          have y0 : X23.frozen? ⟨Bx, 0, none⟩ = false := K23.out.frozen 9 0 rfl
          have k1 : X23.cell? ⟨Bx, 1, none⟩ = some (.slice none 0 0) := K23.out.cell 9 1 rfl
          have y1 : X23.frozen? ⟨Bx, 1, none⟩ = false := K23.out.frozen 9 1 rfl
          have k2 : X23.cell? ⟨Bx, 2, none⟩ = some (.slice none 0 0) := K23.out.cell 9 2 rfl
          have y2 : X23.frozen? ⟨Bx, 2, none⟩ = false := K23.out.frozen 9 2 rfl
          refine wp_store_run (t := 33) (.tmp 7) (.tmp 37) rfl rfl rfl rfl (storeRows k0 k1 k2 y0 y1 y2) ?_
          clear k0 k1 k2 y0 y1 y2
          have hp := (((K23.out.put (HX.out _) 9 0 rfl (.slice Awx l1.length cwx) rfl).put (HX.out _) 9 1 rfl (.slice Awx nwx cwx) rfl).put (HX.out _) 9 2 rfl (.slice Arx nrx crx) rfl)
          have K24 : Aside0 (Sep w (fun _ => False) [fB Bf v1 (.slice A1 l1.length c1), fB Bg v2 (.slice A2 l2.length c2), fB B5 2 (.slice Au 4 cu), headA (.slice Awx nwx cwx) ((Tx ++ Mx).map LRow.shown), headA (.slice Arx nrx crx) (Tx.map LRow.all), dataA (Tx ++ Mx), headA (.slice Awy nwy cwy) ((Ty ++ My).map LRow.shown), headA (.slice Ary nry cry) (Ty.map LRow.all), dataA (Ty ++ My), xB Bx (.slice Awx l1.length cwx) (.slice Awx nwx cwx) (.slice Arx nrx crx), xB By (.slice none 0 0) (.slice none 0 0) (.slice none 0 0)] (((X23.setCell ⟨Bx, 0, none⟩ (.slice Awx l1.length cwx)).setCell ⟨Bx, 1, none⟩ (.slice Awx nwx cwx)).setCell ⟨Bx, 2, none⟩ (.slice Arx nrx crx))) := ⟨hp⟩
          clear hp K23
          generalize (((X23.setCell ⟨Bx, 0, none⟩ (.slice Awx l1.length cwx)).setCell ⟨Bx, 1, none⟩ (.slice Awx nwx cwx)).setCell ⟨Bx, 2, none⟩ (.slice Arx nrx crx)) = X24 at K24 ⊢
          refine HK.out _ _ ⟨K24.out.cell 0 1 rfl, K24.out.cell 1 1 rfl⟩ ?_
          clear HK
          refine wpAnyH_one (i := 9) (by kernel_rfl) rfl (by rfl) (fun K' hK => ?_)
          have HK := Aside0.mk hK
          clear hK
          have k0 : X24.cell? ⟨By, 0, none⟩ = some (.slice none 0 0) := K24.out.cell 10 0 rfl
          have y0 : X24.frozen? ⟨By, 0, none⟩ = false := K24.out.frozen 10 0 rfl
          have k1 : X24.cell? ⟨By, 1, none⟩ = some (.slice none 0 0) := K24.out.cell 10 1 rfl
          have y1 : X24.frozen? ⟨By, 1, none⟩ = false := K24.out.frozen 10 1 rfl
          have k2 : X24.cell? ⟨By, 2, none⟩ = some (.slice none 0 0) := K24.out.cell 10 2 rfl
          have y2 : X24.frozen? ⟨By, 2, none⟩ = false := K24.out.frozen 10 2 rfl
          refine wp_store_run (t := 33) (.tmp 8) (.tmp 40) rfl rfl rfl rfl (storeRows k0 k1 k2 y0 y1 y2) ?_
          clear k0 k1 k2 y0 y1 y2
          have hp := (((K24.out.put (HX.out _) 10 0 rfl (.slice Awy l2.length cwy) rfl).put (HX.out _) 10 1 rfl (.slice Awy nwy cwy) rfl).put (HX.out _) 10 2 rfl (.slice Ary nry cry) rfl)
          have K25 : Aside0 (Sep w (fun _ => False) [fB Bf v1 (.slice A1 l1.length c1), fB Bg v2 (.slice A2 l2.length c2), fB B5 2 (.slice Au 4 cu), headA (.slice Awx nwx cwx) ((Tx ++ Mx).map LRow.shown), headA (.slice Arx nrx crx) (Tx.map LRow.all), dataA (Tx ++ Mx), headA (.slice Awy nwy cwy) ((Ty ++ My).map LRow.shown), headA (.slice Ary nry cry) (Ty.map LRow.all), dataA (Ty ++ My), xB Bx (.slice Awx l1.length cwx) (.slice Awx nwx cwx) (.slice Arx nrx crx), xB By (.slice Awy l2.length cwy) (.slice Awy nwy cwy) (.slice Ary nry cry)] (((X24.setCell ⟨By, 0, none⟩ (.slice Awy l2.length cwy)).setCell ⟨By, 1, none⟩ (.slice Awy nwy cwy)).setCell ⟨By, 2, none⟩ (.slice Ary nry cry))) := ⟨hp⟩
          clear hp K24
          generalize (((X24.setCell ⟨By, 0, none⟩ (.slice Awy l2.length cwy)).setCell ⟨By, 1, none⟩ (.slice Awy nwy cwy)).setCell ⟨By, 2, none⟩ (.slice Ary nry cry)) = X25 at K25 ⊢
          refine HK.out _ _ ⟨K25.out.cell 0 1 rfl, K25.out.cell 1 1 rfl⟩ ?_
          clear HK
          refine wpAnyH_done (by kernel_rfl) ?_ _
          go_wp2_with fail
          go_meet
          case rel => exact ⟨Bx, By, Awx, Arx, cwx, crx, nwx, nrx, Tx, Mx, Awy, Ary, cwy, cry, nwy, nry, Ty, My, rfl, rfl, HFx, HFy, K25⟩
        · have HK := Aside0.mk hK
          clear hK
          go_simp
          have hp := K21.out.fillNew (HX.out _) 10 rfl (.cells #[.slice none 0 0, .slice none 0 0, .slice none 0 0] 33 (0, 0))
          generalize X21.alloc (.cells #[.slice none 0 0, .slice none 0 0, .slice none 0 0] 33) = X26 at hp ⊢
          generalize X21.heap.size = By at hp ⊢
          have K26 : Aside0 (Sep w (fun _ => False) [fB Bf v1 (.slice A1 l1.length c1), fB Bg v2 (.slice A2 l2.length c2), fB B5 2 (.slice Au 4 cu), headA (.slice Awx nwx cwx) ((Tx ++ Mx).map LRow.shown), headA (.slice Arx nrx crx) (Tx.map LRow.all), dataA (Tx ++ Mx), .emp, .emp, .emp, xB Bx (.slice none 0 0) (.slice none 0 0) (.slice none 0 0), xB By (.slice none 0 0) (.slice none 0 0) (.slice none 0 0)] X26) := ⟨hp⟩
          clear hp K21
          refine HK.out _ _ ⟨K26.out.cell 0 1 rfl, K26.out.cell 1 1 rfl⟩ ?_
          clear HK
          refine wpAnyH_one (i := 5) (by kernel_rfl) rfl (by rfl) (fun K' hK => ?_)
          have HK := Aside0.mk hK
          clear hK
          go_simp
          refine (lent_n A2 c2 l2 _ (Kd.C_below HR2.out K26.out.hB) HC.out.2 HB2.out).mono ?_
          rintro e X27 ⟨Awy, Ary, cwy, cry, nwy, nry, Ty, My, rfl, hF, hs⟩
          have HFy := Aside0.mk hF
          have hp := K26.out.fill3 hs 6 7 8 (HX.out _) (by decide) (by decide) (by decide)
          clear hF hs
          have K27 : Aside0 (Sep w (fun _ => False) [fB Bf v1 (.slice A1 l1.length c1), fB Bg v2 (.slice A2 l2.length c2), fB B5 2 (.slice Au 4 cu), headA (.slice Awx nwx cwx) ((Tx ++ Mx).map LRow.shown), headA (.slice Arx nrx crx) (Tx.map LRow.all), dataA (Tx ++ Mx), headA (.slice Awy nwy cwy) ((Ty ++ My).map LRow.shown), headA (.slice Ary nry cry) (Ty.map LRow.all), dataA (Ty ++ My), xB Bx (.slice none 0 0) (.slice none 0 0) (.slice none 0 0), xB By (.slice none 0 0) (.slice none 0 0) (.slice none 0 0)] X27) := ⟨hp⟩
          clear K26
          refine HK.out _ _ ⟨K27.out.cell 0 1 rfl, K27.out.cell 1 1 rfl⟩ ?_
          clear HK
          refine wpAnyH_one (i := 8) (by kernel_rfl) rfl (by rfl) (fun K' hK => ?_)
          have HK := Aside0.mk hK
          clear hK
          have k0 : X27.cell? ⟨Bx, 0, none⟩ = some (.slice none 0 0) := K27.out.cell 9 0 rfl
          have y0 : X27.frozen? ⟨Bx, 0, none⟩ = false := K27.out.frozen 9 0 rfl
          have k1 : X27.cell? ⟨Bx, 1, none⟩ = some (.slice none 0 0) := K27.out.cell 9 1 rfl
          have y1 : X27.frozen? ⟨Bx, 1, none⟩ = false := K27.out.frozen 9 1 rfl
          have k2 : X27.cell? ⟨Bx, 2, none⟩ = some (.slice none 0 0) := K27.out.cell 9 2 rfl
          have y2 : X27.frozen? ⟨Bx, 2, none⟩ = false := K27.out.frozen 9 2 rfl
          refine wp_store_run (t := 33) (.tmp 7) (.tmp 37) rfl rfl rfl rfl (storeRows k0 k1 k2 y0 y1 y2) ?_
          clear k0 k1 k2 y0 y1 y2
          have hp := (((K27.out.put (HX.out _) 9 0 rfl (.slice Awx l1.length cwx) rfl).put (HX.out _) 9 1 rfl (.slice Awx nwx cwx) rfl).put (HX.out _) 9 2 rfl (.slice Arx nrx crx) rfl)
          have K28 : Aside0 (Sep w (fun _ => False) [fB Bf v1 (.slice A1 l1.length c1), fB Bg v2 (.slice A2 l2.length c2), fB B5 2 (.slice Au 4 cu), headA (.slice Awx nwx cwx) ((Tx ++ Mx).map LRow.shown), headA (.slice Arx nrx crx) (Tx.map LRow.all), dataA (Tx ++ Mx), headA (.slice Awy nwy cwy) ((Ty ++ My).map LRow.shown), headA (.slice Ary nry cry) (Ty.map LRow.all), dataA (Ty ++ My), xB Bx (.slice Awx l1.length cwx) (.slice Awx nwx cwx) (.slice Arx nrx crx), xB By (.slice none 0 0) (.slice none 0 0) (.slice none 0 0)] (((X27.setCell ⟨Bx, 0, none⟩ (.slice Awx l1.length cwx)).setCell ⟨Bx, 1, none⟩ (.slice Awx nwx cwx)).setCell ⟨Bx, 2, none⟩ (.slice Arx nrx crx))) := ⟨hp⟩
          clear hp K27
          generalize (((X27.setCell ⟨Bx, 0, none⟩ (.slice Awx l1.length cwx)).setCell ⟨Bx, 1, none⟩ (.slice Awx nwx cwx)).setCell ⟨Bx, 2, none⟩ (.slice Arx nrx crx)) = X28 at K28 ⊢
          refine HK.out _ _ ⟨K28.out.cell 0 1 rfl, K28.out.cell 1 1 rfl⟩ ?_
          clear HK
          refine wpAnyH_one (i := 9) (by kernel_rfl) rfl (by rfl) (fun K' hK => ?_)
          have HK := Aside0.mk hK
          clear hK
          have k0 : X28.cell? ⟨By, 0, none⟩ = some (.slice none 0 0) := K28.out.cell 10 0 rfl
          have y0 : X28.frozen? ⟨By, 0, none⟩ = false := K28.out.frozen 10 0 rfl
          have k1 : X28.cell? ⟨By, 1, none⟩ = some (.slice none 0 0) := K28.out.cell 10 1 rfl
          have y1 : X28.frozen? ⟨By, 1, none⟩ = false := K28.out.frozen 10 1 rfl
          have k2 : X28.cell? ⟨By, 2, none⟩ = some (.slice none 0 0) := K28.out.cell 10 2 rfl
          have y2 : X28.frozen? ⟨By, 2, none⟩ = false := K28.out.frozen 10 2 rfl
          refine wp_store_run (t := 33) (.tmp 8) (.tmp 40) rfl rfl rfl rfl (storeRows k0 k1 k2 y0 y1 y2) ?_
          clear k0 k1 k2 y0 y1 y2
          have hp := (((K28.out.put (HX.out _) 10 0 rfl (.slice Awy l2.length cwy) rfl).put (HX.out _) 10 1 rfl (.slice Awy nwy cwy) rfl).put (HX.out _) 10 2 rfl (.slice Ary nry cry) rfl)
          have K29 : Aside0 (Sep w (fun _ => False) [fB Bf v1 (.slice A1 l1.length c1), fB Bg v2 (.slice A2 l2.length c2), fB B5 2 (.slice Au 4 cu), headA (.slice Awx nwx cwx) ((Tx ++ Mx).map LRow.shown), headA (.slice Arx nrx crx) (Tx.map LRow.all), dataA (Tx ++ Mx), headA (.slice Awy nwy cwy) ((Ty ++ My).map LRow.shown), headA (.slice Ary nry cry) (Ty.map LRow.all), dataA (Ty ++ My), xB Bx (.slice Awx l1.length cwx) (.slice Awx nwx cwx) (.slice Arx nrx crx), xB By (.slice Awy l2.length cwy) (.slice Awy nwy cwy) (.slice Ary nry cry)] (((X28.setCell ⟨By, 0, none⟩ (.slice Awy l2.length cwy)).setCell ⟨By, 1, none⟩ (.slice Awy nwy cwy)).setCell ⟨By, 2, none⟩ (.slice Ary nry cry))) := ⟨hp⟩
          clear hp K28
          generalize (((X28.setCell ⟨By, 0, none⟩ (.slice Awy l2.length cwy)).setCell ⟨By, 1, none⟩ (.slice Awy nwy cwy)).setCell ⟨By, 2, none⟩ (.slice Ary nry cry)) = X29 at K29 ⊢
          refine HK.out _ _ ⟨K29.out.cell 0 1 rfl, K29.out.cell 1 1 rfl⟩ ?_
          clear HK
          refine wpAnyH_done (by kernel_rfl) ?_ _
          go_wp2_with fail
          go_meet
          case rel => exact ⟨Bx, By, Awx, Arx, cwx, crx, nwx, nrx, Tx, Mx, Awy, Ary, cwy, cry, nwy, nry, Ty, My, rfl, rfl, HFx, HFy, K29⟩
      · have HK := Aside0.mk hK
        clear hK
        go_simp
        have hp := K11.out.fillNew (HX.out _) 10 rfl (.cells #[.slice none 0 0, .slice none 0 0, .slice none 0 0] 33 (0, 0))
        generalize X11.alloc (.cells #[.slice none 0 0, .slice none 0 0, .slice none 0 0] 33) = X30 at hp ⊢
        generalize X11.heap.size = By at hp ⊢
        have K30 : Aside0 (Sep w (fun _ => False) [fB Bf v1 (.slice A1 l1.length c1), fB Bg v2 (.slice A2 l2.length c2), fB B5 2 (.slice Au 4 cu), headA (.slice Awx nwx cwx) ((Tx ++ Mx).map LRow.shown), headA (.slice Arx nrx crx) (Tx.map LRow.all), dataA (Tx ++ Mx), .emp, .emp, .emp, .emp, xB By (.slice none 0 0) (.slice none 0 0) (.slice none 0 0)] X30) := ⟨hp⟩
        clear hp K11
        refine HK.out _ _ ⟨K30.out.cell 0 1 rfl, K30.out.cell 1 1 rfl⟩ ?_
        clear HK
        refine wpAnyH_two (i := 5) (j := 6) (by kernel_rfl) rfl rfl (by rfl) (by rfl) (fun K' hK => ?_) (fun K' hK => ?_)
        · have HK := Aside0.mk hK
          clear hK
          go_simp
          refine (lent_n A2 c2 l2 _ (Kd.C_below HR2.out K30.out.hB) HC.out.2 HB2.out).mono ?_
          rintro e X31 ⟨Awy, Ary, cwy, cry, nwy, nry, Ty, My, rfl, hF, hs⟩
          have HFy := Aside0.mk hF
          have hp := K30.out.fill3 hs 6 7 8 (HX.out _) (by decide) (by decide) (by decide)
          clear hF hs
          have K31 : Aside0 (Sep w (fun _ => False) [fB Bf v1 (.slice A1 l1.length c1), fB Bg v2 (.slice A2 l2.length c2), fB B5 2 (.slice Au 4 cu), headA (.slice Awx nwx cwx) ((Tx ++ Mx).map LRow.shown), headA (.slice Arx nrx crx) (Tx.map LRow.all), dataA (Tx ++ Mx), headA (.slice Awy nwy cwy) ((Ty ++ My).map LRow.shown), headA (.slice Ary nry cry) (Ty.map LRow.all), dataA (Ty ++ My), .emp, xB By (.slice none 0 0) (.slice none 0 0) (.slice none 0 0)] X31) := ⟨hp⟩
          clear K30
          refine HK.out _ _ ⟨K31.out.cell 0 1 rfl, K31.out.cell 1 1 rfl⟩ ?_
          clear HK
          refine wpAnyH_one (i := 6) (by kernel_rfl) rfl (by rfl) (fun K' hK => ?_)
          have HK := Aside0.mk hK
          clear hK
          go_simp
          have hp := K31.out.fillNew (HX.out _) 9 rfl (.cells #[.slice none 0 0, .slice none 0 0, .slice none 0 0] 33 (0, 0))
          generalize X31.alloc (.cells #[.slice none 0 0, .slice none 0 0, .slice none 0 0] 33) = X32 at hp ⊢
          generalize X31.heap.size = Bx at hp ⊢
          have K32 : Aside0 (Sep w (fun _ => False) [fB Bf v1 (.slice A1 l1.length c1), fB Bg v2 (.slice A2 l2.length c2), fB B5 2 (.slice Au 4 cu), headA (.slice Awx nwx cwx) ((Tx ++ Mx).map LRow.shown), headA (.slice Arx nrx crx) (Tx.map LRow.all), dataA (Tx ++ Mx), headA (.slice Awy nwy cwy) ((Ty ++ My).map LRow.shown), headA (.slice Ary nry cry) (Ty.map LRow.all), dataA (Ty ++ My), xB Bx (.slice none 0 0) (.slice none 0 0) (.slice none 0 0), xB By (.slice none 0 0) (.slice none 0 0) (.slice none 0 0)] X32) := ⟨hp⟩
          clear hp K31
          refine HK.out _ _ ⟨K32.out.cell 0 1 rfl, K32.out.cell 1 1 rfl⟩ ?_
          clear HK
          refine wpAnyH_one (i := 8) (by kernel_rfl) rfl (by rfl) (fun K' hK => ?_)
          have HK := Aside0.mk hK
          clear hK
          have k0 : X32.cell? ⟨Bx, 0, none⟩ = some (.slice none 0 0) := K32.out.cell 9 0 rfl
          have y0 : X32.frozen? ⟨Bx, 0, none⟩ = false := K32.out.frozen 9 0 rfl
          have k1 : X32.cell? ⟨Bx, 1, none⟩ = some (.slice none 0 0) := K32.out.cell 9 1 rfl
          have y1 : X32.frozen? ⟨Bx, 1, none⟩ = false := K32.out.frozen 9 1 rfl
          have k2 : X32.cell? ⟨Bx, 2, none⟩ = some (.slice none 0 0) := K32.out.cell 9 2 rfl
          have y2 : X32.frozen? ⟨Bx, 2, none⟩ = false := K32.out.frozen 9 2 rfl
          refine wp_store_run (t := 33) (.tmp 7) (.tmp 37) rfl rfl rfl rfl (storeRows k0 k1 k2 y0 y1 y2) ?_
          clear k0 k1 k2 y0 y1 y2
          have hp := (((K32.out.put (HX.out _) 9 0 rfl (.slice Awx l1.length cwx) rfl).put (HX.out _) 9 1 rfl (.slice Awx nwx cwx) rfl).put (HX.out _) 9 2 rfl (.slice Arx nrx crx) rfl)
          have K33 : Aside0 (Sep w (fun _ => False) [fB Bf v1 (.slice A1 l1.length c1), fB Bg v2 (.slice A2 l2.length c2), fB B5 2 (.slice Au 4 cu), headA (.slice Awx nwx cwx) ((Tx ++ Mx).map LRow.shown), headA (.slice Arx nrx crx) (Tx.map LRow.all), dataA (Tx ++ Mx), headA (.slice Awy nwy cwy) ((Ty ++ My).map LRow.shown), headA (.slice Ary nry cry) (Ty.map LRow.all), dataA (Ty ++ My), xB Bx (.slice Awx l1.length cwx) (.slice Awx nwx cwx) (.slice Arx nrx crx), xB By (.slice none 0 0) (.slice none 0 0) (.slice none 0 0)] (((X32.setCell ⟨Bx, 0, none⟩ (.slice Awx l1.length cwx)).setCell ⟨Bx, 1, none⟩ (.slice Awx nwx cwx)).setCell ⟨Bx, 2, none⟩ (.slice Arx nrx crx))) := ⟨hp⟩
          clear hp K32
          generalize (((X32.setCell ⟨Bx, 0, none⟩ (.slice Awx l1.length cwx)).setCell ⟨Bx, 1, none⟩ (.slice Awx nwx cwx)).setCell ⟨Bx, 2, none⟩ (.slice Arx nrx crx)) = X33 at K33 ⊢
          refine HK.out _ _ ⟨K33.out.cell 0 1 rfl, K33.out.cell 1 1 rfl⟩ ?_
          clear HK
          refine wpAnyH_one (i := 9) (by kernel_rfl) rfl (by rfl) (fun K' hK => ?_)
          have HK := Aside0.mk hK
          clear hK
          have k0 : X33.cell? ⟨By, 0, none⟩ = some (.slice none 0 0) := K33.out.cell 10 0 rfl
          have y0 : X33.frozen? ⟨By, 0, none⟩ = false := K33.out.frozen 10 0 rfl
          have k1 : X33.cell? ⟨By, 1, none⟩ = some (.slice none 0 0) := K33.out.cell 10 1 rfl
          have y1 : X33.frozen? ⟨By, 1, none⟩ = false := K33.out.frozen 10 1 rfl
          have k2 : X33.cell? ⟨By, 2, none⟩ = some (.slice none 0 0) := K33.out.cell 10 2 rfl
          have y2 : X33.frozen? ⟨By, 2, none⟩ = false := K33.out.frozen 10 2 rfl
          refine wp_store_run (t := 33) (.tmp 8) (.tmp 40) rfl rfl rfl rfl (storeRows k0 k1 k2 y0 y1 y2) ?_
          clear k0 k1 k2 y0 y1 y2
          have hp := (((K33.out.put (HX.out _) 10 0 rfl (.slice Awy l2.length cwy) rfl).put (HX.out _) 10 1 rfl (.slice Awy nwy cwy) rfl).put (HX.out _) 10 2 rfl (.slice Ary nry cry) rfl)
          have K34 : Aside0 (Sep w (fun _ => False) [fB Bf v1 (.slice A1 l1.length c1), fB Bg v2 (.slice A2 l2.length c2), fB B5 2 (.slice Au 4 cu), headA (.slice Awx nwx cwx) ((Tx ++ Mx).map LRow.shown), headA (.slice Arx nrx crx) (Tx.map LRow.all), dataA (Tx ++ Mx), headA (.slice Awy nwy cwy) ((Ty ++ My).map LRow.shown), headA (.slice Ary nry cry) (Ty.map LRow.all), dataA (Ty ++ My), xB Bx (.slice Awx l1.length cwx) (.slice Awx nwx cwx) (.slice Arx nrx crx), xB By (.slice Awy l2.length cwy) (.slice Awy nwy cwy) (.slice Ary nry cry)] (((X33.setCell ⟨By, 0, none⟩ (.slice Awy l2.length cwy)).setCell ⟨By, 1, none⟩ (.slice Awy nwy cwy)).setCell ⟨By, 2, none⟩ (.slice Ary nry cry))) := ⟨hp⟩
          clear hp K33
          generalize (((X33.setCell ⟨By, 0, none⟩ (.slice Awy l2.length cwy)).setCell ⟨By, 1, none⟩ (.slice Awy nwy cwy)).setCell ⟨By, 2, none⟩ (.slice Ary nry cry)) = X34 at K34 ⊢
          refine HK.out _ _ ⟨K34.out.cell 0 1 rfl, K34.out.cell 1 1 rfl⟩ ?_
          clear HK
          refine wpAnyH_done (by kernel_rfl) ?_ _
          go_wp2_with fail
          go_meet
          case rel => exact ⟨Bx, By, Awx, Arx, cwx, crx, nwx, nrx, Tx, Mx, Awy, Ary, cwy, cry, nwy, nry, Ty, My, rfl, rfl, HFx, HFy, K34⟩
        · have HK := Aside0.mk hK
          clear hK
          go_simp
          have hp := K30.out.fillNew (HX.out _) 9 rfl (.cells #[.slice none 0 0, .slice none 0 0, .slice none 0 0] 33 (0, 0))
          generalize X30.alloc (.cells #[.slice none 0 0, .slice none 0 0, .slice none 0 0] 33) = X35 at hp ⊢
          generalize X30.heap.size = Bx at hp ⊢
          have K35 : Aside0 (Sep w (fun _ => False) [fB Bf v1 (.slice A1 l1.length c1), fB Bg v2 (.slice A2 l2.length c2), fB B5 2 (.slice Au 4 cu), headA (.slice Awx nwx cwx) ((Tx ++ Mx).map LRow.shown), headA (.slice Arx nrx crx) (Tx.map LRow.all), dataA (Tx ++ Mx), .emp, .emp, .emp, xB Bx (.slice none 0 0) (.slice none 0 0) (.slice none 0 0), xB By (.slice none 0 0) (.slice none 0 0) (.slice none 0 0)] X35) := ⟨hp⟩
          clear hp K30
          refine HK.out _ _ ⟨K35.out.cell 0 1 rfl, K35.out.cell 1 1 rfl⟩ ?_
          clear HK
          refine wpAnyH_one (i := 5) (by kernel_rfl) rfl (by rfl) (fun K' hK => ?_)
          have HK := Aside0.mk hK
          clear hK
          go_simp
          refine (lent_n A2 c2 l2 _ (Kd.C_below HR2.out K35.out.hB) HC.out.2 HB2.out).mono ?_
          rintro e X36 ⟨Awy, Ary, cwy, cry, nwy, nry, Ty, My, rfl, hF, hs⟩
          have HFy := Aside0.mk hF
          have hp := K35.out.fill3 hs 6 7 8 (HX.out _) (by decide) (by decide) (by decide)
          clear hF hs
          have K36 : Aside0 (Sep w (fun _ => False) [fB Bf v1 (.slice A1 l1.length c1), fB Bg v2 (.slice A2 l2.length c2), fB B5 2 (.slice Au 4 cu), headA (.slice Awx nwx cwx) ((Tx ++ Mx).map LRow.shown), headA (.slice Arx nrx crx) (Tx.map LRow.all), dataA (Tx ++ Mx), headA (.slice Awy nwy cwy) ((Ty ++ My).map LRow.shown), headA (.slice Ary nry cry) (Ty.map LRow.all), dataA (Ty ++ My), xB Bx (.slice none 0 0) (.slice none 0 0) (.slice none 0 0), xB By (.slice none 0 0) (.slice none 0 0) (.slice none 0 0)] X36) := ⟨hp⟩
          clear K35
          refine HK.out _ _ ⟨K36.out.cell 0 1 rfl, K36.out.cell 1 1 rfl⟩ ?_
          clear HK
          refine wpAnyH_one (i := 8) (by kernel_rfl) rfl (by rfl) (fun K' hK => ?_)
          have HK := Aside0.mk hK
          clear hK
          have k0 : X36.cell? ⟨Bx, 0, none⟩ = some (.slice none 0 0) := K36.out.cell 9 0 rfl
          have y0 : X36.frozen? ⟨Bx, 0, none⟩ = false := K36.out.frozen 9 0 rfl
          have k1 : X36.cell? ⟨Bx, 1, none⟩ = some (.slice none 0 0) := K36.out.cell 9 1 rfl
          have y1 : X36.frozen? ⟨Bx, 1, none⟩ = false := K36.out.frozen 9 1 rfl
          have k2 : X36.cell? ⟨Bx, 2, none⟩ = some (.slice none 0 0) := K36.out.cell 9 2 rfl
          have y2 : X36.frozen? ⟨Bx, 2, none⟩ = false := K36.out.frozen 9 2 rfl
          refine wp_store_run (t := 33) (.tmp 7) (.tmp 37) rfl rfl rfl rfl (storeRows k0 k1 k2 y0 y1 y2) ?_
          clear k0 k1 k2 y0 y1 y2
          have hp := (((K36.out.put (HX.out _) 9 0 rfl (.slice Awx l1.length cwx) rfl).put (HX.out _) 9 1 rfl (.slice Awx nwx cwx) rfl).put (HX.out _) 9 2 rfl (.slice Arx nrx crx) rfl)
          have K37 : Aside0 (Sep w (fun _ => False) [fB Bf v1 (.slice A1 l1.length c1), fB Bg v2 (.slice A2 l2.length c2), fB B5 2 (.slice Au 4 cu), headA (.slice Awx nwx cwx) ((Tx ++ Mx).map LRow.shown), headA (.slice Arx nrx crx) (Tx.map LRow.all), dataA (Tx ++ Mx), headA (.slice Awy nwy cwy) ((Ty ++ My).map LRow.shown), headA (.slice Ary nry cry) (Ty.map LRow.all), dataA (Ty ++ My), xB Bx (.slice Awx l1.length cwx) (.slice Awx nwx cwx) (.slice Arx nrx crx), xB By (.slice none 0 0) (.slice none 0 0) (.slice none 0 0)] (((X36.setCell ⟨Bx, 0, none⟩ (.slice Awx l1.length cwx)).setCell ⟨Bx, 1, none⟩ (.slice Awx nwx cwx)).setCell ⟨Bx, 2, none⟩ (.slice Arx nrx crx))) := ⟨hp⟩
          clear hp K36
          generalize (((X36.setCell ⟨Bx, 0, none⟩ (.slice Awx l1.length cwx)).setCell ⟨Bx, 1, none⟩ (.slice Awx nwx cwx)).setCell ⟨Bx, 2, none⟩ (.slice Arx nrx crx)) = X37 at K37 ⊢
          refine HK.out _ _ ⟨K37.out.cell 0 1 rfl, K37.out.cell 1 1 rfl⟩ ?_
          clear HK
          refine wpAnyH_one (i := 9) (by kernel_rfl) rfl (by rfl) (fun K' hK => ?_)
          have HK := Aside0.mk hK
          clear hK
          have k0 : X37.cell? ⟨By, 0, none⟩ = some (.slice none 0 0) := K37.out.cell 10 0 rfl
          have y0 : X37.frozen? ⟨By, 0, none⟩ = false := K37.out.frozen 10 0 rfl
          have k1 : X37.cell? ⟨By, 1, none⟩ = some (.slice none 0 0) := K37.out.cell 10 1 rfl
          have y1 : X37.frozen? ⟨By, 1, none⟩ = false := K37.out.frozen 10 1 rfl
          have k2 : X37.cell? ⟨By, 2, none⟩ = some (.slice none 0 0) := K37.out.cell 10 2 rfl
          have y2 : X37.frozen? ⟨By, 2, none⟩ = false := K37.out.frozen 10 2 rfl
          refine wp_store_run (t := 33) (.tmp 8) (.tmp 40) rfl rfl rfl rfl (storeRows k0 k1 k2 y0 y1 y2) ?_
          clear k0 k1 k2 y0 y1 y2
          have hp := (((K37.out.put (HX.out _) 10 0 rfl (.slice Awy l2.length cwy) rfl).put (HX.out _) 10 1 rfl (.slice Awy nwy cwy) rfl).put (HX.out _) 10 2 rfl (.slice Ary nry cry) rfl)
          have K38 : Aside0 (Sep w (fun _ => False) [fB Bf v1 (.slice A1 l1.length c1), fB Bg v2 (.slice A2 l2.length c2), fB B5 2 (.slice Au 4 cu), headA (.slice Awx nwx cwx) ((Tx ++ Mx).map LRow.shown), headA (.slice Arx nrx crx) (Tx.map LRow.all), dataA (Tx ++ Mx), headA (.slice Awy nwy cwy) ((Ty ++ My).map LRow.shown), headA (.slice Ary nry cry) (Ty.map LRow.all), dataA (Ty ++ My), xB Bx (.slice Awx l1.length cwx) (.slice Awx nwx cwx) (.slice Arx nrx crx), xB By (.slice Awy l2.length cwy) (.slice Awy nwy cwy) (.slice Ary nry cry)] (((X37.setCell ⟨By, 0, none⟩ (.slice Awy l2.length cwy)).setCell ⟨By, 1, none⟩ (.slice Awy nwy cwy)).setCell ⟨By, 2, none⟩ (.slice Ary nry cry))) := ⟨hp⟩
          clear hp K37
          generalize (((X37.setCell ⟨By, 0, none⟩ (.slice Awy l2.length cwy)).setCell ⟨By, 1, none⟩ (.slice Awy nwy cwy)).setCell ⟨By, 2, none⟩ (.slice Ary nry cry)) = X38 at K38 ⊢
          refine HK.out _ _ ⟨K38.out.cell 0 1 rfl, K38.out.cell 1 1 rfl⟩ ?_
          clear HK
          refine wpAnyH_done (by kernel_rfl) ?_ _
          go_wp2_with fail
          go_meet
          case rel => exact ⟨Bx, By, Awx, Arx, cwx, crx, nwx, nrx, Tx, Mx, Awy, Ary, cwy, cry, nwy, nry, Ty, My, rfl, rfl, HFx, HFy, K38⟩
    · have HK := Aside0.mk hK
      clear hK
      go_simp
      have hp := K0.out.fillNew (HX.out _) 9 rfl (.cells #[.slice none 0 0, .slice none 0 0, .slice none 0 0] 33 (0, 0))
      generalize X0.alloc (.cells #[.slice none 0 0, .slice none 0 0, .slice none 0 0] 33) = X39 at hp ⊢
      generalize X0.heap.size = Bx at hp ⊢
      have K39 : Aside0 (Sep w (fun _ => False) [fB Bf v1 (.slice A1 l1.length c1), fB Bg v2 (.slice A2 l2.length c2), fB B5 2 (.slice Au 4 cu), .emp, .emp, .emp, .emp, .emp, .emp, xB Bx (.slice none 0 0) (.slice none 0 0) (.slice none 0 0), .emp] X39) := ⟨hp⟩
      clear hp K0
      refine HK.out _ _ ⟨K39.out.cell 0 1 rfl, K39.out.cell 1 1 rfl⟩ ?_
      clear HK
      refine wpAnyH_two (i := 2) (j := 7) (by kernel_rfl) rfl rfl (by rfl) (by rfl) (fun K' hK => ?_) (fun K' hK => ?_)
      · have HK := Aside0.mk hK
        clear hK
        go_simp
        refine (lent_n A1 c1 l1 _ (Kd.C_below HR1.out K39.out.hB) HC.out.1 HB1.out).mono ?_
        rintro e X40 ⟨Awx, Arx, cwx, crx, nwx, nrx, Tx, Mx, rfl, hF, hs⟩
        have HFx := Aside0.mk hF
        have hp := K39.out.fill3 hs 3 4 5 (HX.out _) (by decide) (by decide) (by decide)
        clear hF hs
        have K40 : Aside0 (Sep w (fun _ => False) [fB Bf v1 (.slice A1 l1.length c1), fB Bg v2 (.slice A2 l2.length c2), fB B5 2 (.slice Au 4 cu), headA (.slice Awx nwx cwx) ((Tx ++ Mx).map LRow.shown), headA (.slice Arx nrx crx) (Tx.map LRow.all), dataA (Tx ++ Mx), .emp, .emp, .emp, xB Bx (.slice none 0 0) (.slice none 0 0) (.slice none 0 0), .emp] X40) := ⟨hp⟩
        clear K39
        refine HK.out _ _ ⟨K40.out.cell 0 1 rfl, K40.out.cell 1 1 rfl⟩ ?_
        clear HK
        refine wpAnyH_two (i := 5) (j := 7) (by kernel_rfl) rfl rfl (by rfl) (by rfl) (fun K' hK => ?_) (fun K' hK => ?_)
        · have HK := Aside0.mk hK
          clear hK
          go_simp
          refine (lent_n A2 c2 l2 _ (Kd.C_below HR2.out K40.out.hB) HC.out.2 HB2.out).mono ?_
          rintro e X41 ⟨Awy, Ary, cwy, cry, nwy, nry, Ty, My, rfl, hF, hs⟩
          have HFy := Aside0.mk hF
          have hp := K40.out.fill3 hs 6 7 8 (HX.out _) (by decide) (by decide) (by decide)
          clear hF hs
          have K41 : Aside0 (Sep w (fun _ => False) [fB Bf v1 (.slice A1 l1.length c1), fB Bg v2 (.slice A2 l2.length c2), fB B5 2 (.slice Au 4 cu), headA (.slice Awx nwx cwx) ((Tx ++ Mx).map LRow.shown), headA (.slice Arx nrx crx) (Tx.map LRow.all), dataA (Tx ++ Mx), headA (.slice Awy nwy cwy) ((Ty ++ My).map LRow.shown), headA (.slice Ary nry cry) (Ty.map LRow.all), dataA (Ty ++ My), xB Bx (.slice none 0 0) (.slice none 0 0) (.slice none 0 0), .emp] X41) := ⟨hp⟩
          clear K40
          refine HK.out _ _ ⟨K41.out.cell 0 1 rfl, K41.out.cell 1 1 rfl⟩ ?_
          clear HK
          refine wpAnyH_one (i := 7) (by kernel_rfl) rfl (by rfl) (fun K' hK => ?_)
          have HK := Aside0.mk hK
          clear hK
          go_simp
          have hp := K41.out.fillNew (HX.out _) 10 rfl (.cells #[.slice none 0 0, .slice none 0 0, .slice none 0 0] 33 (0, 0))
          generalize X41.alloc (.cells #[.slice none 0 0, .slice none 0 0, .slice none 0 0] 33) = X42 at hp ⊢
          generalize X41.heap.size = By at hp ⊢
          have K42 : Aside0 (Sep w (fun _ => False) [fB Bf v1 (.slice A1 l1.length c1), fB Bg v2 (.slice A2 l2.length c2), fB B5 2 (.slice Au 4 cu), headA (.slice Awx nwx cwx) ((Tx ++ Mx).map LRow.shown), headA (.slice Arx nrx crx) (Tx.map LRow.all), dataA (Tx ++ Mx), headA (.slice Awy nwy cwy) ((Ty ++ My).map LRow.shown), headA (.slice Ary nry cry) (Ty.map LRow.all), dataA (Ty ++ My), xB Bx (.slice none 0 0) (.slice none 0 0) (.slice none 0 0), xB By (.slice none 0 0) (.slice none 0 0) (.slice none 0 0)] X42) := ⟨hp⟩
          clear hp K41
          refine HK.out _ _ ⟨K42.out.cell 0 1 rfl, K42.out.cell 1 1 rfl⟩ ?_
          clear HK
          refine wpAnyH_one (i := 8) (by kernel_rfl) rfl (by rfl) (fun K' hK => ?_)
          have HK := Aside0.mk hK
          clear hK
          have k0 : X42.cell? ⟨Bx, 0, none⟩ = some (.slice none 0 0) := K42.out.cell 9 0 rfl
          have y0 : X42.frozen? ⟨Bx, 0, none⟩ = false := K42.out.frozen 9 0 rfl
          have k1 : X42.cell? ⟨Bx, 1, none⟩ = some (.slice none 0 0) := K42.out.cell 9 1 rfl
          have y1 : X42.frozen? ⟨Bx, 1, none⟩ = false := K42.out.frozen 9 1 rfl
          have k2 : X42.cell? ⟨Bx, 2, none⟩ = some (.slice none 0 0) := K42.out.cell 9 2 rfl
          have y2 : X42.frozen? ⟨Bx, 2, none⟩ = false := K42.out.frozen 9 2 rfl
          refine wp_store_run (t := 33) (.tmp 7) (.tmp 37) rfl rfl rfl rfl (storeRows k0 k1 k2 y0 y1 y2) ?_
          clear k0 k1 k2 y0 y1 y2
          have hp := (((K42.out.put (HX.out _) 9 0 rfl (.slice Awx l1.length cwx) rfl).put (HX.out _) 9 1 rfl (.slice Awx nwx cwx) rfl).put (HX.out _) 9 2 rfl (.slice Arx nrx crx) rfl)
          have K43 : Aside0 (Sep w (fun _ => False) [fB Bf v1 (.slice A1 l1.length c1), fB Bg v2 (.slice A2 l2.length c2), fB B5 2 (.slice Au 4 cu), headA (.slice Awx nwx cwx) ((Tx ++ Mx).map LRow.shown), headA (.slice Arx nrx crx) (Tx.map LRow.all), dataA (Tx ++ Mx), headA (.slice Awy nwy cwy) ((Ty ++ My).map LRow.shown), headA (.slice Ary nry cry) (Ty.map LRow.all), dataA (Ty ++ My), xB Bx (.slice Awx l1.length cwx) (.slice Awx nwx cwx) (.slice Arx nrx crx), xB By (.slice none 0 0) (.slice none 0 0) (.slice none 0 0)] (((X42.setCell ⟨Bx, 0, none⟩ (.slice Awx l1.length cwx)).setCell ⟨Bx, 1, none⟩ (.slice Awx nwx cwx)).setCell ⟨Bx, 2, none⟩ (.slice Arx nrx crx))) := ⟨hp⟩
          clear hp K42
          generalize (((X42.setCell ⟨Bx, 0, none⟩ (.slice Awx l1.length cwx)).setCell ⟨Bx, 1, none⟩ (.slice Awx nwx cwx)).setCell ⟨Bx, 2, none⟩ (.slice Arx nrx crx)) = X43 at K43 ⊢
          refine HK.out _ _ ⟨K43.out.cell 0 1 rfl, K43.out.cell 1 1 rfl⟩ ?_
          clear HK
          refine wpAnyH_one (i := 9) (by kernel_rfl) rfl (by rfl) (fun K' hK => ?_)
          have HK := Aside0.mk hK
          clear hK
          have k0 : X43.cell? ⟨By, 0, none⟩ = some (.slice none 0 0) := K43.out.cell 10 0 rfl
          have y0 : X43.frozen? ⟨By, 0, none⟩ = false := K43.out.frozen 10 0 rfl
          have k1 : X43.cell? ⟨By, 1, none⟩ = some (.slice none 0 0) := K43.out.cell 10 1 rfl
          have y1 : X43.frozen? ⟨By, 1, none⟩ = false := K43.out.frozen 10 1 rfl
          have k2 : X43.cell? ⟨By, 2, none⟩ = some (.slice none 0 0) := K43.out.cell 10 2 rfl
          have y2 : X43.frozen? ⟨By, 2, none⟩ = false := K43.out.frozen 10 2 rfl
          refine wp_store_run (t := 33) (.tmp 8) (.tmp 40) rfl rfl rfl rfl (storeRows k0 k1 k2 y0 y1 y2) ?_
          clear k0 k1 k2 y0 y1 y2
          have hp := (((K43.out.put (HX.out _) 10 0 rfl (.slice Awy l2.length cwy) rfl).put (HX.out _) 10 1 rfl (.slice Awy nwy cwy) rfl).put (HX.out _) 10 2 rfl (.slice Ary nry cry) rfl)
          have K44 : Aside0 (Sep w (fun _ => False) [fB Bf v1 (.slice A1 l1.length c1), fB Bg v2 (.slice A2 l2.length c2), fB B5 2 (.slice Au 4 cu), headA (.slice Awx nwx cwx) ((Tx ++ Mx).map LRow.shown), headA (.slice Arx nrx crx) (Tx.map LRow.all), dataA (Tx ++ Mx), headA (.slice Awy nwy cwy) ((Ty ++ My).map LRow.shown), headA (.slice Ary nry cry) (Ty.map LRow.all), dataA (Ty ++ My), xB Bx (.slice Awx l1.length cwx) (.slice Awx nwx cwx) (.slice Arx nrx crx), xB By (.slice Awy l2.length cwy) (.slice Awy nwy cwy) (.slice Ary nry cry)] (((X43.setCell ⟨By, 0, none⟩ (.slice Awy l2.length cwy)).setCell ⟨By, 1, none⟩ (.slice Awy nwy cwy)).setCell ⟨By, 2, none⟩ (.slice Ary nry cry))) := ⟨hp⟩
          clear hp K43
          generalize (((X43.setCell ⟨By, 0, none⟩ (.slice Awy l2.length cwy)).setCell ⟨By, 1, none⟩ (.slice Awy nwy cwy)).setCell ⟨By, 2, none⟩ (.slice Ary nry cry)) = X44 at K44 ⊢
          refine HK.out _ _ ⟨K44.out.cell 0 1 rfl, K44.out.cell 1 1 rfl⟩ ?_
          clear HK
          refine wpAnyH_done (by kernel_rfl) ?_ _
          go_wp2_with fail
          go_meet
          case rel => exact ⟨Bx, By, Awx, Arx, cwx, crx, nwx, nrx, Tx, Mx, Awy, Ary, cwy, cry, nwy, nry, Ty, My, rfl, rfl, HFx, HFy, K44⟩
        · have HK := Aside0.mk hK
          clear hK
          go_simp
          have hp := K40.out.fillNew (HX.out _) 10 rfl (.cells #[.slice none 0 0, .slice none 0 0, .slice none 0 0] 33 (0, 0))
          generalize X40.alloc (.cells #[.slice none 0 0, .slice none 0 0, .slice none 0 0] 33) = X45 at hp ⊢
          generalize X40.heap.size = By at hp ⊢
          have K45 : Aside0 (Sep w (fun _ => False) [fB Bf v1 (.slice A1 l1.length c1), fB Bg v2 (.slice A2 l2.length c2), fB B5 2 (.slice Au 4 cu), headA (.slice Awx nwx cwx) ((Tx ++ Mx).map LRow.shown), headA (.slice Arx nrx crx) (Tx.map LRow.all), dataA (Tx ++ Mx), .emp, .emp, .emp, xB Bx (.slice none 0 0) (.slice none 0 0) (.slice none 0 0), xB By (.slice none 0 0) (.slice none 0 0) (.slice none 0 0)] X45) := ⟨hp⟩
          clear hp K40
          refine HK.out _ _ ⟨K45.out.cell 0 1 rfl, K45.out.cell 1 1 rfl⟩ ?_
          clear HK
          refine wpAnyH_one (i := 5) (by kernel_rfl) rfl (by rfl) (fun K' hK => ?_)
          have HK := Aside0.mk hK
          clear hK
          go_simp
          refine (lent_n A2 c2 l2 _ (Kd.C_below HR2.out K45.out.hB) HC.out.2 HB2.out).mono ?_
          rintro e X46 ⟨Awy, Ary, cwy, cry, nwy, nry, Ty, My, rfl, hF, hs⟩
          have HFy := Aside0.mk hF
          have hp := K45.out.fill3 hs 6 7 8 (HX.out _) (by decide) (by decide) (by decide)
          clear hF hs
          have K46 : Aside0 (Sep w (fun _ => False) [fB Bf v1 (.slice A1 l1.length c1), fB Bg v2 (.slice A2 l2.length c2), fB B5 2 (.slice Au 4 cu), headA (.slice Awx nwx cwx) ((Tx ++ Mx).map LRow.shown), headA (.slice Arx nrx crx) (Tx.map LRow.all), dataA (Tx ++ Mx), headA (.slice Awy nwy cwy) ((Ty ++ My).map LRow.shown), headA (.slice Ary nry cry) (Ty.map LRow.all), dataA (Ty ++ My), xB Bx (.slice none 0 0) (.slice none 0 0) (.slice none 0 0), xB By (.slice none 0 0) (.slice none 0 0) (.slice none 0 0)] X46) := ⟨hp⟩
          clear K45
          refine HK.out _ _ ⟨K46.out.cell 0 1 rfl, K46.out.cell 1 1 rfl⟩ ?_
          clear HK
          refine wpAnyH_one (i := 8) (by kernel_rfl) rfl (by rfl) (fun K' hK => ?_)
          have HK := Aside0.mk hK
          clear hK
          have k0 : X46.cell? ⟨Bx, 0, none⟩ = some (.slice none 0 0) := K46.out.cell 9 0 rfl
          have y0 : X46.frozen? ⟨Bx, 0, none⟩ = false := K46.out.frozen 9 0 rfl
          have k1 : X46.cell? ⟨Bx, 1, none⟩ = some (.slice none 0 0) := K46.out.cell 9 1 rfl
          have y1 : X46.frozen? ⟨Bx, 1, none⟩ = false := K46.out.frozen 9 1 rfl
          have k2 : X46.cell? ⟨Bx, 2, none⟩ = some (.slice none 0 0) := K46.out.cell 9 2 rfl
          have y2 : X46.frozen? ⟨Bx, 2, none⟩ = false := K46.out.frozen 9 2 rfl
          refine wp_store_run (t := 33) (.tmp 7) (.tmp 37) rfl rfl rfl rfl (storeRows k0 k1 k2 y0 y1 y2) ?_
          clear k0 k1 k2 y0 y1 y2
          have hp := (((K46.out.put (HX.out _) 9 0 rfl (.slice Awx l1.length cwx) rfl).put (HX.out _) 9 1 rfl (.slice Awx nwx cwx) rfl).put (HX.out _) 9 2 rfl (.slice Arx nrx crx) rfl)
          have K47 : Aside0 (Sep w (fun _ => False) [fB Bf v1 (.slice A1 l1.length c1), fB Bg v2 (.slice A2 l2.length c2), fB B5 2 (.slice Au 4 cu), headA (.slice Awx nwx cwx) ((Tx ++ Mx).map LRow.shown), headA (.slice Arx nrx crx) (Tx.map LRow.all), dataA (Tx ++ Mx), headA (.slice Awy nwy cwy) ((Ty ++ My).map LRow.shown), headA (.slice Ary nry cry) (Ty.map LRow.all), dataA (Ty ++ My), xB Bx (.slice Awx l1.length cwx) (.slice Awx nwx cwx) (.slice Arx nrx crx), xB By (.slice none 0 0) (.slice none 0 0) (.slice none 0 0)] (((X46.setCell ⟨Bx, 0, none⟩ (.slice Awx l1.length cwx)).setCell ⟨Bx, 1, none⟩ (.slice Awx nwx cwx)).setCell ⟨Bx, 2, none⟩ (.slice Arx nrx crx))) := ⟨hp⟩
          clear hp K46
          generalize (((X46.setCell ⟨Bx, 0, none⟩ (.slice Awx l1.length cwx)).setCell ⟨Bx, 1, none⟩ (.slice Awx nwx cwx)).setCell ⟨Bx, 2, none⟩ (.slice Arx nrx crx)) = X47 at K47 ⊢
          refine HK.out _ _ ⟨K47.out.cell 0 1 rfl, K47.out.cell 1 1 rfl⟩ ?_
          clear HK
          refine wpAnyH_one (i := 9) (by kernel_rfl) rfl (by rfl) (fun K' hK => ?_)
          have HK := Aside0.mk hK
          clear hK
          have k0 : X47.cell? ⟨By, 0, none⟩ = some (.slice none 0 0) := K47.out.cell 10 0 rfl
          have y0 : X47.frozen? ⟨By, 0, none⟩ = false := K47.out.frozen 10 0 rfl
          have k1 : X47.cell? ⟨By, 1, none⟩ = some (.slice none 0 0) := K47.out.cell 10 1 rfl
          have y1 : X47.frozen? ⟨By, 1, none⟩ = false := K47.out.frozen 10 1 rfl
          have k2 : X47.cell? ⟨By, 2, none⟩ = some (.slice none 0 0) := K47.out.cell 10 2 rfl
          have y2 : X47.frozen? ⟨By, 2, none⟩ = false := K47.out.frozen 10 2 rfl
          refine wp_store_run (t := 33) (.tmp 8) (.tmp 40) rfl rfl rfl rfl (storeRows k0 k1 k2 y0 y1 y2) ?_
          clear k0 k1 k2 y0 y1 y2
          have hp := (((K47.out.put (HX.out _) 10 0 rfl (.slice Awy l2.length cwy) rfl).put (HX.out _) 10 1 rfl (.slice Awy nwy cwy) rfl).put (HX.out _) 10 2 rfl (.slice Ary nry cry) rfl)
          have K48 : Aside0 (Sep w (fun _ => False) [fB Bf v1 (.slice A1 l1.length c1), fB Bg v2 (.slice A2 l2.length c2), fB B5 2 (.slice Au 4 cu), headA (.slice Awx nwx cwx) ((Tx ++ Mx).map LRow.shown), headA (.slice Arx nrx crx) (Tx.map LRow.all), dataA (Tx ++ Mx), headA (.slice Awy nwy cwy) ((Ty ++ My).map LRow.shown), headA (.slice Ary nry cry) (Ty.map LRow.all), dataA (Ty ++ My), xB Bx (.slice Awx l1.length cwx) (.slice Awx nwx cwx) (.slice Arx nrx crx), xB By (.slice Awy l2.length cwy) (.slice Awy nwy cwy) (.slice Ary nry cry)] (((X47.setCell ⟨By, 0, none⟩ (.slice Awy l2.length cwy)).setCell ⟨By, 1, none⟩ (.slice Awy nwy cwy)).setCell ⟨By, 2, none⟩ (.slice Ary nry cry))) := ⟨hp⟩
          clear hp K47
          generalize (((X47.setCell ⟨By, 0, none⟩ (.slice Awy l2.length cwy)).setCell ⟨By, 1, none⟩ (.slice Awy nwy cwy)).setCell ⟨By, 2, none⟩ (.slice Ary nry cry)) = X48 at K48 ⊢
          refine HK.out _ _ ⟨K48.out.cell 0 1 rfl, K48.out.cell 1 1 rfl⟩ ?_
          clear HK
          refine wpAnyH_done (by kernel_rfl) ?_ _
          go_wp2_with fail
          go_meet
          case rel => exact ⟨Bx, By, Awx, Arx, cwx, crx, nwx, nrx, Tx, Mx, Awy, Ary, cwy, cry, nwy, nry, Ty, My, rfl, rfl, HFx, HFy, K48⟩
      · have HK := Aside0.mk hK
        clear hK
        go_simp
        have hp := K39.out.fillNew (HX.out _) 10 rfl (.cells #[.slice none 0 0, .slice none 0 0, .slice none 0 0] 33 (0, 0))
        generalize X39.alloc (.cells #[.slice none 0 0, .slice none 0 0, .slice none 0 0] 33) = X49 at hp ⊢
        generalize X39.heap.size = By at hp ⊢
        have K49 : Aside0 (Sep w (fun _ => False) [fB Bf v1 (.slice A1 l1.length c1), fB Bg v2 (.slice A2 l2.length c2), fB B5 2 (.slice Au 4 cu), .emp, .emp, .emp, .emp, .emp, .emp, xB Bx (.slice none 0 0) (.slice none 0 0) (.slice none 0 0), xB By (.slice none 0 0) (.slice none 0 0) (.slice none 0 0)] X49) := ⟨hp⟩
        clear hp K39
        refine HK.out _ _ ⟨K49.out.cell 0 1 rfl, K49.out.cell 1 1 rfl⟩ ?_
        clear HK
        refine wpAnyH_one (i := 2) (by kernel_rfl) rfl (by rfl) (fun K' hK => ?_)
        have HK := Aside0.mk hK
        clear hK
        go_simp
        refine (lent_n A1 c1 l1 _ (Kd.C_below HR1.out K49.out.hB) HC.out.1 HB1.out).mono ?_
        rintro e X50 ⟨Awx, Arx, cwx, crx, nwx, nrx, Tx, Mx, rfl, hF, hs⟩
        have HFx := Aside0.mk hF
        have hp := K49.out.fill3 hs 3 4 5 (HX.out _) (by decide) (by decide) (by decide)
        clear hF hs
        have K50 : Aside0 (Sep w (fun _ => False) [fB Bf v1 (.slice A1 l1.length c1), fB Bg v2 (.slice A2 l2.length c2), fB B5 2 (.slice Au 4 cu), headA (.slice Awx nwx cwx) ((Tx ++ Mx).map LRow.shown), headA (.slice Arx nrx crx) (Tx.map LRow.all), dataA (Tx ++ Mx), .emp, .emp, .emp, xB Bx (.slice none 0 0) (.slice none 0 0) (.slice none 0 0), xB By (.slice none 0 0) (.slice none 0 0) (.slice none 0 0)] X50) := ⟨hp⟩
        clear K49
        refine HK.out _ _ ⟨K50.out.cell 0 1 rfl, K50.out.cell 1 1 rfl⟩ ?_
        clear HK
        refine wpAnyH_one (i := 5) (by kernel_rfl) rfl (by rfl) (fun K' hK => ?_)
        have HK := Aside0.mk hK
        clear hK
        go_simp
        refine (lent_n A2 c2 l2 _ (Kd.C_below HR2.out K50.out.hB) HC.out.2 HB2.out).mono ?_
        rintro e X51 ⟨Awy, Ary, cwy, cry, nwy, nry, Ty, My, rfl, hF, hs⟩
        have HFy := Aside0.mk hF
        have hp := K50.out.fill3 hs 6 7 8 (HX.out _) (by decide) (by decide) (by decide)
        clear hF hs
        have K51 : Aside0 (Sep w (fun _ => False) [fB Bf v1 (.slice A1 l1.length c1), fB Bg v2 (.slice A2 l2.length c2), fB B5 2 (.slice Au 4 cu), headA (.slice Awx nwx cwx) ((Tx ++ Mx).map LRow.shown), headA (.slice Arx nrx crx) (Tx.map LRow.all), dataA (Tx ++ Mx), headA (.slice Awy nwy cwy) ((Ty ++ My).map LRow.shown), headA (.slice Ary nry cry) (Ty.map LRow.all), dataA (Ty ++ My), xB Bx (.slice none 0 0) (.slice none 0 0) (.slice none 0 0), xB By (.slice none 0 0) (.slice none 0 0) (.slice none 0 0)] X51) := ⟨hp⟩
        clear K50
        refine HK.out _ _ ⟨K51.out.cell 0 1 rfl, K51.out.cell 1 1 rfl⟩ ?_
        clear HK
        refine wpAnyH_one (i := 8) (by kernel_rfl) rfl (by rfl) (fun K' hK => ?_)
        have HK := Aside0.mk hK
        clear hK
        have k0 : X51.cell? ⟨Bx, 0, none⟩ = some (.slice none 0 0) := K51.out.cell 9 0 rfl
        have y0 : X51.frozen? ⟨Bx, 0, none⟩ = false := K51.out.frozen 9 0 rfl
        have k1 : X51.cell? ⟨Bx, 1, none⟩ = some (.slice none 0 0) := K51.out.cell 9 1 rfl
        have y1 : X51.frozen? ⟨Bx, 1, none⟩ = false := K51.out.frozen 9 1 rfl
        have k2 : X51.cell? ⟨Bx, 2, none⟩ = some (.slice none 0 0) := K51.out.cell 9 2 rfl
        have y2 : X51.frozen? ⟨Bx, 2, none⟩ = false := K51.out.frozen 9 2 rfl
        refine wp_store_run (t := 33) (.tmp 7) (.tmp 37) rfl rfl rfl rfl (storeRows k0 k1 k2 y0 y1 y2) ?_
        clear k0 k1 k2 y0 y1 y2
        have hp := (((K51.out.put (HX.out _) 9 0 rfl (.slice Awx l1.length cwx) rfl).put (HX.out _) 9 1 rfl (.slice Awx nwx cwx) rfl).put (HX.out _) 9 2 rfl (.slice Arx nrx crx) rfl)
        have K52 : Aside0 (Sep w (fun _ => False) [fB Bf v1 (.slice A1 l1.length c1), fB Bg v2 (.slice A2 l2.length c2), fB B5 2 (.slice Au 4 cu), headA (.slice Awx nwx cwx) ((Tx ++ Mx).map LRow.shown), headA (.slice Arx nrx crx) (Tx.map LRow.all), dataA (Tx ++ Mx), headA (.slice Awy nwy cwy) ((Ty ++ My).map LRow.shown), headA (.slice Ary nry cry) (Ty.map LRow.all), dataA (Ty ++ My), xB Bx (.slice Awx l1.length cwx) (.slice Awx nwx cwx) (.slice Arx nrx crx), xB By (.slice none 0 0) (.slice none 0 0) (.slice none 0 0)] (((X51.setCell ⟨Bx, 0, none⟩ (.slice Awx l1.length cwx)).setCell ⟨Bx, 1, none⟩ (.slice Awx nwx cwx)).setCell ⟨Bx, 2, none⟩ (.slice Arx nrx crx))) := ⟨hp⟩
        clear hp K51
        generalize (((X51.setCell ⟨Bx, 0, none⟩ (.slice Awx l1.length cwx)).setCell ⟨Bx, 1, none⟩ (.slice Awx nwx cwx)).setCell ⟨Bx, 2, none⟩ (.slice Arx nrx crx)) = X52 at K52 ⊢
        refine HK.out _ _ ⟨K52.out.cell 0 1 rfl, K52.out.cell 1 1 rfl⟩ ?_
        clear HK
        refine wpAnyH_one (i := 9) (by kernel_rfl) rfl (by rfl) (fun K' hK => ?_)
        have HK := Aside0.mk hK
        clear hK
        have k0 : X52.cell? ⟨By, 0, none⟩ = some (.slice none 0 0) := K52.out.cell 10 0 rfl
        have y0 : X52.frozen? ⟨By, 0, none⟩ = false := K52.out.frozen 10 0 rfl
        have k1 : X52.cell? ⟨By, 1, none⟩ = some (.slice none 0 0) := K52.out.cell 10 1 rfl
        have y1 : X52.frozen? ⟨By, 1, none⟩ = false := K52.out.frozen 10 1 rfl
        have k2 : X52.cell? ⟨By, 2, none⟩ = some (.slice none 0 0) := K52.out.cell 10 2 rfl
        have y2 : X52.frozen? ⟨By, 2, none⟩ = false := K52.out.frozen 10 2 rfl
        refine wp_store_run (t := 33) (.tmp 8) (.tmp 40) rfl rfl rfl rfl (storeRows k0 k1 k2 y0 y1 y2) ?_
        clear k0 k1 k2 y0 y1 y2
        have hp := (((K52.out.put (HX.out _) 10 0 rfl (.slice Awy l2.length cwy) rfl).put (HX.out _) 10 1 rfl (.slice Awy nwy cwy) rfl).put (HX.out _) 10 2 rfl (.slice Ary nry cry) rfl)
        have K53 : Aside0 (Sep w (fun _ => False) [fB Bf v1 (.slice A1 l1.length c1), fB Bg v2 (.slice A2 l2.length c2), fB B5 2 (.slice Au 4 cu), headA (.slice Awx nwx cwx) ((Tx ++ Mx).map LRow.shown), headA (.slice Arx nrx crx) (Tx.map LRow.all), dataA (Tx ++ Mx), headA (.slice Awy nwy cwy) ((Ty ++ My).map LRow.shown), headA (.slice Ary nry cry) (Ty.map LRow.all), dataA (Ty ++ My), xB Bx (.slice Awx l1.length cwx) (.slice Awx nwx cwx) (.slice Arx nrx crx), xB By (.slice Awy l2.length cwy) (.slice Awy nwy cwy) (.slice Ary nry cry)] (((X52.setCell ⟨By, 0, none⟩ (.slice Awy l2.length cwy)).setCell ⟨By, 1, none⟩ (.slice Awy nwy cwy)).setCell ⟨By, 2, none⟩ (.slice Ary nry cry))) := ⟨hp⟩
        clear hp K52
        generalize (((X52.setCell ⟨By, 0, none⟩ (.slice Awy l2.length cwy)).setCell ⟨By, 1, none⟩ (.slice Awy nwy cwy)).setCell ⟨By, 2, none⟩ (.slice Ary nry cry)) = X53 at K53 ⊢
        refine HK.out _ _ ⟨K53.out.cell 0 1 rfl, K53.out.cell 1 1 rfl⟩ ?_
        clear HK
        refine wpAnyH_done (by kernel_rfl) ?_ _
        go_wp2_with fail
        go_meet
        case rel => exact ⟨Bx, By, Awx, Arx, cwx, crx, nwx, nrx, Tx, Mx, Awy, Ary, cwy, cry, nwy, nry, Ty, My, rfl, rfl, HFx, HFy, K53⟩
    · have HK := Aside0.mk hK
      clear hK
      go_simp
      have hp := K0.out.fillNew (HX.out _) 10 rfl (.cells #[.slice none 0 0, .slice none 0 0, .slice none 0 0] 33 (0, 0))
      generalize X0.alloc (.cells #[.slice none 0 0, .slice none 0 0, .slice none 0 0] 33) = X54 at hp ⊢
      generalize X0.heap.size = By at hp ⊢
      have K54 : Aside0 (Sep w (fun _ => False) [fB Bf v1 (.slice A1 l1.length c1), fB Bg v2 (.slice A2 l2.length c2), fB B5 2 (.slice Au 4 cu), .emp, .emp, .emp, .emp, .emp, .emp, .emp, xB By (.slice none 0 0) (.slice none 0 0) (.slice none 0 0)] X54) := ⟨hp⟩
      clear hp K0
      refine HK.out _ _ ⟨K54.out.cell 0 1 rfl, K54.out.cell 1 1 rfl⟩ ?_
      clear HK
      refine wpAnyH_two (i := 2) (j := 6) (by kernel_rfl) rfl rfl (by rfl) (by rfl) (fun K' hK => ?_) (fun K' hK => ?_)
      · have HK := Aside0.mk hK
        clear hK
        go_simp
        refine (lent_n A1 c1 l1 _ (Kd.C_below HR1.out K54.out.hB) HC.out.1 HB1.out).mono ?_
        rintro e X55 ⟨Awx, Arx, cwx, crx, nwx, nrx, Tx, Mx, rfl, hF, hs⟩
        have HFx := Aside0.mk hF
        have hp := K54.out.fill3 hs 3 4 5 (HX.out _) (by decide) (by decide) (by decide)
        clear hF hs
        have K55 : Aside0 (Sep w (fun _ => False) [fB Bf v1 (.slice A1 l1.length c1), fB Bg v2 (.slice A2 l2.length c2), fB B5 2 (.slice Au 4 cu), headA (.slice Awx nwx cwx) ((Tx ++ Mx).map LRow.shown), headA (.slice Arx nrx crx) (Tx.map LRow.all), dataA (Tx ++ Mx), .emp, .emp, .emp, .emp, xB By (.slice none 0 0) (.slice none 0 0) (.slice none 0 0)] X55) := ⟨hp⟩
        clear K54
        refine HK.out _ _ ⟨K55.out.cell 0 1 rfl, K55.out.cell 1 1 rfl⟩ ?_
        clear HK
        refine wpAnyH_two (i := 5) (j := 6) (by kernel_rfl) rfl rfl (by rfl) (by rfl) (fun K' hK => ?_) (fun K' hK => ?_)
        · have HK := Aside0.mk hK
          clear hK
          go_simp
          refine (lent_n A2 c2 l2 _ (Kd.C_below HR2.out K55.out.hB) HC.out.2 HB2.out).mono ?_
          rintro e X56 ⟨Awy, Ary, cwy, cry, nwy, nry, Ty, My, rfl, hF, hs⟩
          have HFy := Aside0.mk hF
          have hp := K55.out.fill3 hs 6 7 8 (HX.out _) (by decide) (by decide) (by decide)
          clear hF hs
          have K56 : Aside0 (Sep w (fun _ => False) [fB Bf v1 (.slice A1 l1.length c1), fB Bg v2 (.slice A2 l2.length c2), fB B5 2 (.slice Au 4 cu), headA (.slice Awx nwx cwx) ((Tx ++ Mx).map LRow.shown), headA (.slice Arx nrx crx) (Tx.map LRow.all), dataA (Tx ++ Mx), headA (.slice Awy nwy cwy) ((Ty ++ My).map LRow.shown), headA (.slice Ary nry cry) (Ty.map LRow.all), dataA (Ty ++ My), .emp, xB By (.slice none 0 0) (.slice none 0 0) (.slice none 0 0)] X56) := ⟨hp⟩
          clear K55
          refine HK.out _ _ ⟨K56.out.cell 0 1 rfl, K56.out.cell 1 1 rfl⟩ ?_
          clear HK
          refine wpAnyH_one (i := 6) (by kernel_rfl) rfl (by rfl) (fun K' hK => ?_)
          have HK := Aside0.mk hK
          clear hK
          go_simp
          have hp := K56.out.fillNew (HX.out _) 9 rfl (.cells #[.slice none 0 0, .slice none 0 0, .slice none 0 0] 33 (0, 0))
          generalize X56.alloc (.cells #[.slice none 0 0, .slice none 0 0, .slice none 0 0] 33) = X57 at hp ⊢
          generalize X56.heap.size = Bx at hp ⊢
          have K57 : Aside0 (Sep w (fun _ => False) [fB Bf v1 (.slice A1 l1.length c1), fB Bg v2 (.slice A2 l2.length c2), fB B5 2 (.slice Au 4 cu), headA (.slice Awx nwx cwx) ((Tx ++ Mx).map LRow.shown), headA (.slice Arx nrx crx) (Tx.map LRow.all), dataA (Tx ++ Mx), headA (.slice Awy nwy cwy) ((Ty ++ My).map LRow.shown), headA (.slice Ary nry cry) (Ty.map LRow.all), dataA (Ty ++ My), xB Bx (.slice none 0 0) (.slice none 0 0) (.slice none 0 0), xB By (.slice none 0 0) (.slice none 0 0) (.slice none 0 0)] X57) := ⟨hp⟩
          clear hp K56
          refine HK.out _ _ ⟨K57.out.cell 0 1 rfl, K57.out.cell 1 1 rfl⟩ ?_
          clear HK
          refine wpAnyH_one (i := 8) (by kernel_rfl) rfl (by rfl) (fun K' hK => ?_)
          have HK := Aside0.mk hK
          clear hK
          have k0 : X57.cell? ⟨Bx, 0, none⟩ = some (.slice none 0 0) := K57.out.cell 9 0 rfl
          have y0 : X57.frozen? ⟨Bx, 0, none⟩ = false := K57.out.frozen 9 0 rfl
          have k1 : X57.cell? ⟨Bx, 1, none⟩ = some (.slice none 0 0) := K57.out.cell 9 1 rfl
          have y1 : X57.frozen? ⟨Bx, 1, none⟩ = false := K57.out.frozen 9 1 rfl
          have k2 : X57.cell? ⟨Bx, 2, none⟩ = some (.slice none 0 0) := K57.out.cell 9 2 rfl
          have y2 : X57.frozen? ⟨Bx, 2, none⟩ = false := K57.out.frozen 9 2 rfl
          refine wp_store_run (t := 33) (.tmp 7) (.tmp 37) rfl rfl rfl rfl (storeRows k0 k1 k2 y0 y1 y2) ?_
          clear k0 k1 k2 y0 y1 y2
          have hp := (((K57.out.put (HX.out _) 9 0 rfl (.slice Awx l1.length cwx) rfl).put (HX.out _) 9 1 rfl (.slice Awx nwx cwx) rfl).put (HX.out _) 9 2 rfl (.slice Arx nrx crx) rfl)
          have K58 : Aside0 (Sep w (fun _ => False) [fB Bf v1 (.slice A1 l1.length c1), fB Bg v2 (.slice A2 l2.length c2), fB B5 2 (.slice Au 4 cu), headA (.slice Awx nwx cwx) ((Tx ++ Mx).map LRow.shown), headA (.slice Arx nrx crx) (Tx.map LRow.all), dataA (Tx ++ Mx), headA (.slice Awy nwy cwy) ((Ty ++ My).map LRow.shown), headA (.slice Ary nry cry) (Ty.map LRow.all), dataA (Ty ++ My), xB Bx (.slice Awx l1.length cwx) (.slice Awx nwx cwx) (.slice Arx nrx crx), xB By (.slice none 0 0) (.slice none 0 0) (.slice none 0 0)] (((X57.setCell ⟨Bx, 0, none⟩ (.slice Awx l1.length cwx)).setCell ⟨Bx, 1, none⟩ (.slice Awx nwx cwx)).setCell ⟨Bx, 2, none⟩ (.slice Arx nrx crx))) := ⟨hp⟩
          clear hp K57
          generalize (((X57.setCell ⟨Bx, 0, none⟩ (.slice Awx l1.length cwx)).setCell ⟨Bx, 1, none⟩ (.slice Awx nwx cwx)).setCell ⟨Bx, 2, none⟩ (.slice Arx nrx crx)) = X58 at K58 ⊢
          refine HK.out _ _ ⟨K58.out.cell 0 1 rfl, K58.out.cell 1 1 rfl⟩ ?_
          clear HK
          refine wpAnyH_one (i := 9) (by kernel_rfl) rfl (by rfl) (fun K' hK => ?_)
          have HK := Aside0.mk hK
          clear hK
          have k0 : X58.cell? ⟨By, 0, none⟩ = some (.slice none 0 0) := K58.out.cell 10 0 rfl
          have y0 : X58.frozen? ⟨By, 0, none⟩ = false := K58.out.frozen 10 0 rfl
          have k1 : X58.cell? ⟨By, 1, none⟩ = some (.slice none 0 0) := K58.out.cell 10 1 rfl
          have y1 : X58.frozen? ⟨By, 1, none⟩ = false := K58.out.frozen 10 1 rfl
          have k2 : X58.cell? ⟨By, 2, none⟩ = some (.slice none 0 0) := K58.out.cell 10 2 rfl
          have y2 : X58.frozen? ⟨By, 2, none⟩ = false := K58.out.frozen 10 2 rfl
          refine wp_store_run (t := 33) (.tmp 8) (.tmp 40) rfl rfl rfl rfl (storeRows k0 k1 k2 y0 y1 y2) ?_
          clear k0 k1 k2 y0 y1 y2
          have hp := (((K58.out.put (HX.out _) 10 0 rfl (.slice Awy l2.length cwy) rfl).put (HX.out _) 10 1 rfl (.slice Awy nwy cwy) rfl).put (HX.out _) 10 2 rfl (.slice Ary nry cry) rfl)
          have K59 : Aside0 (Sep w (fun _ => False) [fB Bf v1 (.slice A1 l1.length c1), fB Bg v2 (.slice A2 l2.length c2), fB B5 2 (.slice Au 4 cu), headA (.slice Awx nwx cwx) ((Tx ++ Mx).map LRow.shown), headA (.slice Arx nrx crx) (Tx.map LRow.all), dataA (Tx ++ Mx), headA (.slice Awy nwy cwy) ((Ty ++ My).map LRow.shown), headA (.slice Ary nry cry) (Ty.map LRow.all), dataA (Ty ++ My), xB Bx (.slice Awx l1.length cwx) (.slice Awx nwx cwx) (.slice Arx nrx crx), xB By (.slice Awy l2.length cwy) (.slice Awy nwy cwy) (.slice Ary nry cry)] (((X58.setCell ⟨By, 0, none⟩ (.slice Awy l2.length cwy)).setCell ⟨By, 1, none⟩ (.slice Awy nwy cwy)).setCell ⟨By, 2, none⟩ (.slice Ary nry cry))) := ⟨hp⟩
          clear hp K58
          generalize (((X58.setCell ⟨By, 0, none⟩ (.slice Awy l2.length cwy)).setCell ⟨By, 1, none⟩ (.slice Awy nwy cwy)).setCell ⟨By, 2, none⟩ (.slice Ary nry cry)) = X59 at K59 ⊢
          refine HK.out _ _ ⟨K59.out.cell 0 1 rfl, K59.out.cell 1 1 rfl⟩ ?_
          clear HK
          refine wpAnyH_done (by kernel_rfl) ?_ _
          go_wp2_with fail
          go_meet
          case rel => exact ⟨Bx, By, Awx, Arx, cwx, crx, nwx, nrx, Tx, Mx, Awy, Ary, cwy, cry, nwy, nry, Ty, My, rfl, rfl, HFx, HFy, K59⟩
        · have HK := Aside0.mk hK
          clear hK
          go_simp
          have hp := K55.out.fillNew (HX.out _) 9 rfl (.cells #[.slice none 0 0, .slice none 0 0, .slice none 0 0] 33 (0, 0))
          generalize X55.alloc (.cells #[.slice none 0 0, .slice none 0 0, .slice none 0 0] 33) = X60 at hp ⊢
          generalize X55.heap.size = Bx at hp ⊢
          have K60 : Aside0 (Sep w (fun _ => False) [fB Bf v1 (.slice A1 l1.length c1), fB Bg v2 (.slice A2 l2.length c2), fB B5 2 (.slice Au 4 cu), headA (.slice Awx nwx cwx) ((Tx ++ Mx).map LRow.shown), headA (.slice Arx nrx crx) (Tx.map LRow.all), dataA (Tx ++ Mx), .emp, .emp, .emp, xB Bx (.slice none 0 0) (.slice none 0 0) (.slice none 0 0), xB By (.slice none 0 0) (.slice none 0 0) (.slice none 0 0)] X60) := ⟨hp⟩
          clear hp K55
          refine HK.out _ _ ⟨K60.out.cell 0 1 rfl, K60.out.cell 1 1 rfl⟩ ?_
          clear HK
          refine wpAnyH_one (i := 5) (by kernel_rfl) rfl (by rfl) (fun K' hK => ?_)
          have HK := Aside0.mk hK
          clear hK
          go_simp
          refine (lent_n A2 c2 l2 _ (Kd.C_below HR2.out K60.out.hB) HC.out.2 HB2.out).mono ?_
          rintro e X61 ⟨Awy, Ary, cwy, cry, nwy, nry, Ty, My, rfl, hF, hs⟩
          have HFy := Aside0.mk hF
          have hp := K60.out.fill3 hs 6 7 8 (HX.out _) (by decide) (by decide) (by decide)
          clear hF hs
          have K61 : Aside0 (Sep w (fun _ => False) [fB Bf v1 (.slice A1 l1.length c1), fB Bg v2 (.slice A2 l2.length c2), fB B5 2 (.slice Au 4 cu), headA (.slice Awx nwx cwx) ((Tx ++ Mx).map LRow.shown), headA (.slice Arx nrx crx) (Tx.map LRow.all), dataA (Tx ++ Mx), headA (.slice Awy nwy cwy) ((Ty ++ My).map LRow.shown), headA (.slice Ary nry cry) (Ty.map LRow.all), dataA (Ty ++ My), xB Bx (.slice none 0 0) (.slice none 0 0) (.slice none 0 0), xB By (.slice none 0 0) (.slice none 0 0) (.slice none 0 0)] X61) := ⟨hp⟩
          clear K60
          refine HK.out _ _ ⟨K61.out.cell 0 1 rfl, K61.out.cell 1 1 rfl⟩ ?_
          clear HK
          refine wpAnyH_one (i := 8) (by kernel_rfl) rfl (by rfl) (fun K' hK => ?_)
          have HK := Aside0.mk hK
          clear hK
          have k0 : X61.cell? ⟨Bx, 0, none⟩ = some (.slice none 0 0) := K61.out.cell 9 0 rfl
          have y0 : X61.frozen? ⟨Bx, 0, none⟩ = false := K61.out.frozen 9 0 rfl
          have k1 : X61.cell? ⟨Bx, 1, none⟩ = some (.slice none 0 0) := K61.out.cell 9 1 rfl
          have y1 : X61.frozen? ⟨Bx, 1, none⟩ = false := K61.out.frozen 9 1 rfl
          have k2 : X61.cell? ⟨Bx, 2, none⟩ = some (.slice none 0 0) := K61.out.cell 9 2 rfl
          have y2 : X61.frozen? ⟨Bx, 2, none⟩ = false := K61.out.frozen 9 2 rfl
          refine wp_store_run (t := 33) (.tmp 7) (.tmp 37) rfl rfl rfl rfl (storeRows k0 k1 k2 y0 y1 y2) ?_
          clear k0 k1 k2 y0 y1 y2
          have hp := (((K61.out.put (HX.out _) 9 0 rfl (.slice Awx l1.length cwx) rfl).put (HX.out _) 9 1 rfl (.slice Awx nwx cwx) rfl).put (HX.out _) 9 2 rfl (.slice Arx nrx crx) rfl)
          have K62 : Aside0 (Sep w (fun _ => False) [fB Bf v1 (.slice A1 l1.length c1), fB Bg v2 (.slice A2 l2.length c2), fB B5 2 (.slice Au 4 cu), headA (.slice Awx nwx cwx) ((Tx ++ Mx).map LRow.shown), headA (.slice Arx nrx crx) (Tx.map LRow.all), dataA (Tx ++ Mx), headA (.slice Awy nwy cwy) ((Ty ++ My).map LRow.shown), headA (.slice Ary nry cry) (Ty.map LRow.all), dataA (Ty ++ My), xB Bx (.slice Awx l1.length cwx) (.slice Awx nwx cwx) (.slice Arx nrx crx), xB By (.slice none 0 0) (.slice none 0 0) (.slice none 0 0)] (((X61.setCell ⟨Bx, 0, none⟩ (.slice Awx l1.length cwx)).setCell ⟨Bx, 1, none⟩ (.slice Awx nwx cwx)).setCell ⟨Bx, 2, none⟩ (.slice Arx nrx crx))) := ⟨hp⟩
          clear hp K61
          generalize (((X61.setCell ⟨Bx, 0, none⟩ (.slice Awx l1.length cwx)).setCell ⟨Bx, 1, none⟩ (.slice Awx nwx cwx)).setCell ⟨Bx, 2, none⟩ (.slice Arx nrx crx)) = X62 at K62 ⊢
          refine HK.out _ _ ⟨K62.out.cell 0 1 rfl, K62.out.cell 1 1 rfl⟩ ?_
          clear HK
          refine wpAnyH_one (i := 9) (by kernel_rfl) rfl (by rfl) (fun K' hK => ?_)
          have HK := Aside0.mk hK
          clear hK
          have k0 : X62.cell? ⟨By, 0, none⟩ = some (.slice none 0 0) := K62.out.cell 10 0 rfl
          have y0 : X62.frozen? ⟨By, 0, none⟩ = false := K62.out.frozen 10 0 rfl
          have k1 : X62.cell? ⟨By, 1, none⟩ = some (.slice none 0 0) := K62.out.cell 10 1 rfl
          have y1 : X62.frozen? ⟨By, 1, none⟩ = false := K62.out.frozen 10 1 rfl
          have k2 : X62.cell? ⟨By, 2, none⟩ = some (.slice none 0 0) := K62.out.cell 10 2 rfl
          have y2 : X62.frozen? ⟨By, 2, none⟩ = false := K62.out.frozen 10 2 rfl
          refine wp_store_run (t := 33) (.tmp 8) (.tmp 40) rfl rfl rfl rfl (storeRows k0 k1 k2 y0 y1 y2) ?_
          clear k0 k1 k2 y0 y1 y2
          have hp := (((K62.out.put (HX.out _) 10 0 rfl (.slice Awy l2.length cwy) rfl).put (HX.out _) 10 1 rfl (.slice Awy nwy cwy) rfl).put (HX.out _) 10 2 rfl (.slice Ary nry cry) rfl)
          have K63 : Aside0 (Sep w (fun _ => False) [fB Bf v1 (.slice A1 l1.length c1), fB Bg v2 (.slice A2 l2.length c2), fB B5 2 (.slice Au 4 cu), headA (.slice Awx nwx cwx) ((Tx ++ Mx).map LRow.shown), headA (.slice Arx nrx crx) (Tx.map LRow.all), dataA (Tx ++ Mx), headA (.slice Awy nwy cwy) ((Ty ++ My).map LRow.shown), headA (.slice Ary nry cry) (Ty.map LRow.all), dataA (Ty ++ My), xB Bx (.slice Awx l1.length cwx) (.slice Awx nwx cwx) (.slice Arx nrx crx), xB By (.slice Awy l2.length cwy) (.slice Awy nwy cwy) (.slice Ary nry cry)] (((X62.setCell ⟨By, 0, none⟩ (.slice Awy l2.length cwy)).setCell ⟨By, 1, none⟩ (.slice Awy nwy cwy)).setCell ⟨By, 2, none⟩ (.slice Ary nry cry))) := ⟨hp⟩
          clear hp K62
          generalize (((X62.setCell ⟨By, 0, none⟩ (.slice Awy l2.length cwy)).setCell ⟨By, 1, none⟩ (.slice Awy nwy cwy)).setCell ⟨By, 2, none⟩ (.slice Ary nry cry)) = X63 at K63 ⊢
          refine HK.out _ _ ⟨K63.out.cell 0 1 rfl, K63.out.cell 1 1 rfl⟩ ?_
          clear HK
          refine wpAnyH_done (by kernel_rfl) ?_ _
          go_wp2_with fail
          go_meet
          case rel => exact ⟨Bx, By, Awx, Arx, cwx, crx, nwx, nrx, Tx, Mx, Awy, Ary, cwy, cry, nwy, nry, Ty, My, rfl, rfl, HFx, HFy, K63⟩
      · have HK := Aside0.mk hK
        clear hK
        go_simp
        have hp := K54.out.fillNew (HX.out _) 9 rfl (.cells #[.slice none 0 0, .slice none 0 0, .slice none 0 0] 33 (0, 0))
        generalize X54.alloc (.cells #[.slice none 0 0, .slice none 0 0, .slice none 0 0] 33) = X64 at hp ⊢
        generalize X54.heap.size = Bx at hp ⊢
        have K64 : Aside0 (Sep w (fun _ => False) [fB Bf v1 (.slice A1 l1.length c1), fB Bg v2 (.slice A2 l2.length c2), fB B5 2 (.slice Au 4 cu), .emp, .emp, .emp, .emp, .emp, .emp, xB Bx (.slice none 0 0) (.slice none 0 0) (.slice none 0 0), xB By (.slice none 0 0) (.slice none 0 0) (.slice none 0 0)] X64) := ⟨hp⟩
        clear hp K54
        refine HK.out _ _ ⟨K64.out.cell 0 1 rfl, K64.out.cell 1 1 rfl⟩ ?_
        clear HK
        refine wpAnyH_one (i := 2) (by kernel_rfl) rfl (by rfl) (fun K' hK => ?_)
        have HK := Aside0.mk hK
        clear hK
        go_simp
        refine (lent_n A1 c1 l1 _ (Kd.C_below HR1.out K64.out.hB) HC.out.1 HB1.out).mono ?_
        rintro e X65 ⟨Awx, Arx, cwx, crx, nwx, nrx, Tx, Mx, rfl, hF, hs⟩
        have HFx := Aside0.mk hF
        have hp := K64.out.fill3 hs 3 4 5 (HX.out _) (by decide) (by decide) (by decide)
        clear hF hs
        have K65 : Aside0 (Sep w (fun _ => False) [fB Bf v1 (.slice A1 l1.length c1), fB Bg v2 (.slice A2 l2.length c2), fB B5 2 (.slice Au 4 cu), headA (.slice Awx nwx cwx) ((Tx ++ Mx).map LRow.shown), headA (.slice Arx nrx crx) (Tx.map LRow.all), dataA (Tx ++ Mx), .emp, .emp, .emp, xB Bx (.slice none 0 0) (.slice none 0 0) (.slice none 0 0), xB By (.slice none 0 0) (.slice none 0 0) (.slice none 0 0)] X65) := ⟨hp⟩
        clear K64
        refine HK.out _ _ ⟨K65.out.cell 0 1 rfl, K65.out.cell 1 1 rfl⟩ ?_
        clear HK
        refine wpAnyH_one (i := 5) (by kernel_rfl) rfl (by rfl) (fun K' hK => ?_)
        have HK := Aside0.mk hK
        clear hK
        go_simp
        refine (lent_n A2 c2 l2 _ (Kd.C_below HR2.out K65.out.hB) HC.out.2 HB2.out).mono ?_
        rintro e X66 ⟨Awy, Ary, cwy, cry, nwy, nry, Ty, My, rfl, hF, hs⟩
        have HFy := Aside0.mk hF
        have hp := K65.out.fill3 hs 6 7 8 (HX.out _) (by decide) (by decide) (by decide)
        clear hF hs
        have K66 : Aside0 (Sep w (fun _ => False) [fB Bf v1 (.slice A1 l1.length c1), fB Bg v2 (.slice A2 l2.length c2), fB B5 2 (.slice Au 4 cu), headA (.slice Awx nwx cwx) ((Tx ++ Mx).map LRow.shown), headA (.slice Arx nrx crx) (Tx.map LRow.all), dataA (Tx ++ Mx), headA (.slice Awy nwy cwy) ((Ty ++ My).map LRow.shown), headA (.slice Ary nry cry) (Ty.map LRow.all), dataA (Ty ++ My), xB Bx (.slice none 0 0) (.slice none 0 0) (.slice none 0 0), xB By (.slice none 0 0) (.slice none 0 0) (.slice none 0 0)] X66) := ⟨hp⟩
        clear K65
        refine HK.out _ _ ⟨K66.out.cell 0 1 rfl, K66.out.cell 1 1 rfl⟩ ?_
        clear HK
        refine wpAnyH_one (i := 8) (by kernel_rfl) rfl (by rfl) (fun K' hK => ?_)
        have HK := Aside0.mk hK
        clear hK
        have k0 : X66.cell? ⟨Bx, 0, none⟩ = some (.slice none 0 0) := K66.out.cell 9 0 rfl
        have y0 : X66.frozen? ⟨Bx, 0, none⟩ = false := K66.out.frozen 9 0 rfl
        have k1 : X66.cell? ⟨Bx, 1, none⟩ = some (.slice none 0 0) := K66.out.cell 9 1 rfl
        have y1 : X66.frozen? ⟨Bx, 1, none⟩ = false := K66.out.frozen 9 1 rfl
        have k2 : X66.cell? ⟨Bx, 2, none⟩ = some (.slice none 0 0) := K66.out.cell 9 2 rfl
        have y2 : X66.frozen? ⟨Bx, 2, none⟩ = false := K66.out.frozen 9 2 rfl
        refine wp_store_run (t := 33) (.tmp 7) (.tmp 37) rfl rfl rfl rfl (storeRows k0 k1 k2 y0 y1 y2) ?_
        clear k0 k1 k2 y0 y1 y2
        have hp := (((K66.out.put (HX.out _) 9 0 rfl (.slice Awx l1.length cwx) rfl).put (HX.out _) 9 1 rfl (.slice Awx nwx cwx) rfl).put (HX.out _) 9 2 rfl (.slice Arx nrx crx) rfl)
        have K67 : Aside0 (Sep w (fun _ => False) [fB Bf v1 (.slice A1 l1.length c1), fB Bg v2 (.slice A2 l2.length c2), fB B5 2 (.slice Au 4 cu), headA (.slice Awx nwx cwx) ((Tx ++ Mx).map LRow.shown), headA (.slice Arx nrx crx) (Tx.map LRow.all), dataA (Tx ++ Mx), headA (.slice Awy nwy cwy) ((Ty ++ My).map LRow.shown), headA (.slice Ary nry cry) (Ty.map LRow.all), dataA (Ty ++ My), xB Bx (.slice Awx l1.length cwx) (.slice Awx nwx cwx) (.slice Arx nrx crx), xB By (.slice none 0 0) (.slice none 0 0) (.slice none 0 0)] (((X66.setCell ⟨Bx, 0, none⟩ (.slice Awx l1.length cwx)).setCell ⟨Bx, 1, none⟩ (.slice Awx nwx cwx)).setCell ⟨Bx, 2, none⟩ (.slice Arx nrx crx))) := ⟨hp⟩
        clear hp K66
        generalize (((X66.setCell ⟨Bx, 0, none⟩ (.slice Awx l1.length cwx)).setCell ⟨Bx, 1, none⟩ (.slice Awx nwx cwx)).setCell ⟨Bx, 2, none⟩ (.slice Arx nrx crx)) = X67 at K67 ⊢
        refine HK.out _ _ ⟨K67.out.cell 0 1 rfl, K67.out.cell 1 1 rfl⟩ ?_
        clear HK
        refine wpAnyH_one (i := 9) (by kernel_rfl) rfl (by rfl) (fun K' hK => ?_)
        have HK := Aside0.mk hK
        clear hK
        have k0 : X67.cell? ⟨By, 0, none⟩ = some (.slice none 0 0) := K67.out.cell 10 0 rfl
        have y0 : X67.frozen? ⟨By, 0, none⟩ = false := K67.out.frozen 10 0 rfl
        have k1 : X67.cell? ⟨By, 1, none⟩ = some (.slice none 0 0) := K67.out.cell 10 1 rfl
        have y1 : X67.frozen? ⟨By, 1, none⟩ = false := K67.out.frozen 10 1 rfl
        have k2 : X67.cell? ⟨By, 2, none⟩ = some (.slice none 0 0) := K67.out.cell 10 2 rfl
        have y2 : X67.frozen? ⟨By, 2, none⟩ = false := K67.out.frozen 10 2 rfl
        refine wp_store_run (t := 33) (.tmp 8) (.tmp 40) rfl rfl rfl rfl (storeRows k0 k1 k2 y0 y1 y2) ?_
        clear k0 k1 k2 y0 y1 y2
        have hp := (((K67.out.put (HX.out _) 10 0 rfl (.slice Awy l2.length cwy) rfl).put (HX.out _) 10 1 rfl (.slice Awy nwy cwy) rfl).put (HX.out _) 10 2 rfl (.slice Ary nry cry) rfl)
        have K68 : Aside0 (Sep w (fun _ => False) [fB Bf v1 (.slice A1 l1.length c1), fB Bg v2 (.slice A2 l2.length c2), fB B5 2 (.slice Au 4 cu), headA (.slice Awx nwx cwx) ((Tx ++ Mx).map LRow.shown), headA (.slice Arx nrx crx) (Tx.map LRow.all), dataA (Tx ++ Mx), headA (.slice Awy nwy cwy) ((Ty ++ My).map LRow.shown), headA (.slice Ary nry cry) (Ty.map LRow.all), dataA (Ty ++ My), xB Bx (.slice Awx l1.length cwx) (.slice Awx nwx cwx) (.slice Arx nrx crx), xB By (.slice Awy l2.length cwy) (.slice Awy nwy cwy) (.slice Ary nry cry)] (((X67.setCell ⟨By, 0, none⟩ (.slice Awy l2.length cwy)).setCell ⟨By, 1, none⟩ (.slice Awy nwy cwy)).setCell ⟨By, 2, none⟩ (.slice Ary nry cry))) := ⟨hp⟩
        clear hp K67
        generalize (((X67.setCell ⟨By, 0, none⟩ (.slice Awy l2.length cwy)).setCell ⟨By, 1, none⟩ (.slice Awy nwy cwy)).setCell ⟨By, 2, none⟩ (.slice Ary nry cry)) = X68 at K68 ⊢
        refine HK.out _ _ ⟨K68.out.cell 0 1 rfl, K68.out.cell 1 1 rfl⟩ ?_
        clear HK
        refine wpAnyH_done (by kernel_rfl) ?_ _
        go_wp2_with fail
        go_meet
        case rel => exact ⟨Bx, By, Awx, Arx, cwx, crx, nwx, nrx, Tx, Mx, Awy, Ary, cwy, cry, nwy, nry, Ty, My, rfl, rfl, HFx, HFy, K68⟩
  case rest =>
    clear H10
    obtain ⟨Bx, By, Awx, Arx, cwx, crx, nwx, nrx, Tx, Mx, Awy, Ary, cwy, cry, nwy, nry, Ty, My, rfl, rfl, HFx, HFy, H4⟩ := hcut
    have V4 : True := trivial
    generalize wc = W4 at H4 ⊢
    go_upto_region 5 with fail
    have H69 : Aside0 (Sep w (fun _ => False) [fB Bf v1 (.slice A1 l1.length c1), fB Bg v2 (.slice A2 l2.length c2), fB B5 2 (.slice Au 4 cu), headA (.slice Awx nwx cwx) ((Tx ++ Mx).map LRow.shown), headA (.slice Arx nrx crx) (Tx.map LRow.all), dataA (Tx ++ Mx), headA (.slice Awy nwy cwy) ((Ty ++ My).map LRow.shown), headA (.slice Ary nry cry) (Ty.map LRow.all), dataA (Ty ++ My), xB Bx (.slice Awx l1.length cwx) (.slice Awx nwx cwx) (.slice Arx nrx crx), xB By (.slice Awy l2.length cwy) (.slice Awy nwy cwy) (.slice Ary nry cry), .emp, .emp] W4) := ⟨H4.out.pad 2⟩
    clear H4
    go_cut [9, 10] from 27 (fun s9 s10 wx => ∃ (Bi Bj : Nat), s9 = .pointer (some ⟨Bi, 0, none⟩) ∧ s10 = .pointer (some ⟨Bj, 0, none⟩) ∧ Aside0 (Sep w (fun _ => False) [fB Bf v1 (.slice A1 l1.length c1), fB Bg v2 (.slice A2 l2.length c2), fB B5 2 (.slice Au 4 cu), headA (.slice Awx nwx cwx) ((Tx ++ Mx).map LRow.shown), headA (.slice Arx nrx crx) (Tx.map LRow.all), dataA (Tx ++ Mx), headA (.slice Awy nwy cwy) ((Ty ++ My).map LRow.shown), headA (.slice Ary nry cry) (Ty.map LRow.all), dataA (Ty ++ My), xB Bx (.slice Awx l1.length cwx) (.slice Awx nwx cwx) (.slice Arx nrx crx), xB By (.slice Awy l2.length cwy) (.slice Awy nwy cwy) (.slice Ary nry cry), fB Bi v1 (.slice Awx l1.length cwx), fB Bj v2 (.slice Awy l2.length cwy)] wx))
    case first =>
      as_aux_lemma =>
      have hmx : Try.prog.follows .mixedOrders = true := by kernel_rfl
      have K0 : Aside0 (Sep w (fun _ => False) [fB Bf v1 (.slice A1 l1.length c1), fB Bg v2 (.slice A2 l2.length c2), fB B5 2 (.slice Au 4 cu), headA (.slice Awx nwx cwx) ((Tx ++ Mx).map LRow.shown), headA (.slice Arx nrx crx) (Tx.map LRow.all), dataA (Tx ++ Mx), headA (.slice Awy nwy cwy) ((Ty ++ My).map LRow.shown), headA (.slice Ary nry cry) (Ty.map LRow.all), dataA (Ty ++ My), xB Bx (.slice Awx l1.length cwx) (.slice Awx nwx cwx) (.slice Arx nrx crx), xB By (.slice Awy l2.length cwy) (.slice Awy nwy cwy) (.slice Ary nry cry), .emp, .emp] W4.drew) := ⟨H69.out.keep (below_drew (Below.refl _ _))⟩
      clear H69
      refine wp_region_H (S := fun W' => W'.cell? ⟨Bf, 0, none⟩ = some (.int .i64 v1) ∧ W'.cell? ⟨Bx, 0, none⟩ = some (.slice Awx l1.length cwx) ∧ W'.cell? ⟨Bg, 0, none⟩ = some (.int .i64 v2) ∧ W'.cell? ⟨By, 0, none⟩ = some (.slice Awy l2.length cwy)) hmx ?_
      generalize W4.drew = X0 at K0 ⊢
      have hS0 : X0.cell? ⟨Bf, 0, none⟩ = some (.int .i64 v1) ∧ X0.cell? ⟨Bx, 0, none⟩ = some (.slice Awx l1.length cwx) ∧ X0.cell? ⟨Bg, 0, none⟩ = some (.int .i64 v2) ∧ X0.cell? ⟨By, 0, none⟩ = some (.slice Awy l2.length cwy) := ⟨K0.out.cell 0 0 rfl, K0.out.cell 9 0 rfl, K0.out.cell 1 0 rfl, K0.out.cell 10 0 rfl⟩
      refine wpAnyH_takeA (i := 0) (v := .pointer (some ⟨Bf, 0, none⟩)) 41 rfl rfl (by kernel_rfl) (by kernel_rfl) (by kernel_rfl) (fun _ _ _ h => h) (.inl ⟨by rfl, fun W' hS => by obtain ⟨s0, s1, s2, s3⟩ := hS; go_simp⟩) hS0 ?_
      intro A' hA; simp at hA; subst hA
      refine wpAnyH_takeA (i := 1) (v := .int .i64 v1) 42 rfl rfl (by kernel_rfl) (by kernel_rfl) (by kernel_rfl) (fun _ _ _ h => h) (.inl ⟨by rfl, fun W' hS => by obtain ⟨s0, s1, s2, s3⟩ := hS; go_simp⟩) hS0 ?_
      intro A' hA; simp at hA; subst hA
      refine wpAnyH_takeA (i := 2) (v := .pointer (some ⟨Bx, 0, none⟩)) 43 rfl rfl (by kernel_rfl) (by kernel_rfl) (by kernel_rfl) (fun _ _ _ h => h) (.inl ⟨by rfl, fun W' hS => by obtain ⟨s0, s1, s2, s3⟩ := hS; go_simp⟩) hS0 ?_
      intro A' hA; simp at hA; subst hA
      refine wpAnyH_takeA (i := 3) (v := .slice Awx l1.length cwx) 44 rfl rfl (by kernel_rfl) (by kernel_rfl) (by kernel_rfl) (fun _ _ _ h => h) (.inl ⟨by rfl, fun W' hS => by obtain ⟨s0, s1, s2, s3⟩ := hS; go_simp⟩) hS0 ?_
      intro A' hA; simp at hA; subst hA
      refine wpAnyH_takeA (i := 4) (v := .agg #[.int .i64 v1, .slice Awx l1.length cwx]) 45 rfl rfl (by kernel_rfl) (by kernel_rfl) (by kernel_rfl) (fun _ _ _ h => h) (.inl ⟨by rfl, fun W' hS => by obtain ⟨s0, s1, s2, s3⟩ := hS; go_simp⟩) hS0 ?_
      intro A' hA; simp at hA; subst hA
      refine wpAnyH_takeA (i := 5) (v := .pointer (some ⟨Bg, 0, none⟩)) 46 rfl rfl (by kernel_rfl) (by kernel_rfl) (by kernel_rfl) (fun _ _ _ h => h) (.inl ⟨by rfl, fun W' hS => by obtain ⟨s0, s1, s2, s3⟩ := hS; go_simp⟩) hS0 ?_
      intro A' hA; simp at hA; subst hA
      refine wpAnyH_takeA (i := 6) (v := .int .i64 v2) 47 rfl rfl (by kernel_rfl) (by kernel_rfl) (by kernel_rfl) (fun _ _ _ h => h) (.inl ⟨by rfl, fun W' hS => by obtain ⟨s0, s1, s2, s3⟩ := hS; go_simp⟩) hS0 ?_
      intro A' hA; simp at hA; subst hA
      refine wpAnyH_takeA (i := 7) (v := .pointer (some ⟨By, 0, none⟩)) 48 rfl rfl (by kernel_rfl) (by kernel_rfl) (by kernel_rfl) (fun _ _ _ h => h) (.inl ⟨by rfl, fun W' hS => by obtain ⟨s0, s1, s2, s3⟩ := hS; go_simp⟩) hS0 ?_
      intro A' hA; simp at hA; subst hA
      refine wpAnyH_takeA (i := 8) (v := .slice Awy l2.length cwy) 49 rfl rfl (by kernel_rfl) (by kernel_rfl) (by kernel_rfl) (fun _ _ _ h => h) (.inl ⟨by rfl, fun W' hS => by obtain ⟨s0, s1, s2, s3⟩ := hS; go_simp⟩) hS0 ?_
      intro A' hA; simp at hA; subst hA
      refine wpAnyH_takeA (i := 9) (v := .agg #[.int .i64 v2, .slice Awy l2.length cwy]) 50 rfl rfl (by kernel_rfl) (by kernel_rfl) (by kernel_rfl) (fun _ _ _ h => h) (.inl ⟨by rfl, fun W' hS => by obtain ⟨s0, s1, s2, s3⟩ := hS; go_simp⟩) hS0 ?_
      intro A' hA; simp at hA; subst hA
      clear hS0
      refine wpAnyH_two (i := 10) (j := 11) (by kernel_rfl) rfl rfl (by rfl) (by rfl) (fun K' hK => ?_) (fun K' hK => ?_)
      · have HK := Aside0.mk hK
        clear hK
        go_simp
        have hp := K0.out.fillNew (HX.out _) 11 rfl (.cells #[.int .i64 0, .slice none 0 0] 24 (0, 0))
        generalize X0.alloc (.cells #[.int .i64 0, .slice none 0 0] 24) = X70 at hp ⊢
        generalize X0.heap.size = Bi at hp ⊢
        have K70 : Aside0 (Sep w (fun _ => False) [fB Bf v1 (.slice A1 l1.length c1), fB Bg v2 (.slice A2 l2.length c2), fB B5 2 (.slice Au 4 cu), headA (.slice Awx nwx cwx) ((Tx ++ Mx).map LRow.shown), headA (.slice Arx nrx crx) (Tx.map LRow.all), dataA (Tx ++ Mx), headA (.slice Awy nwy cwy) ((Ty ++ My).map LRow.shown), headA (.slice Ary nry cry) (Ty.map LRow.all), dataA (Ty ++ My), xB Bx (.slice Awx l1.length cwx) (.slice Awx nwx cwx) (.slice Arx nrx crx), xB By (.slice Awy l2.length cwy) (.slice Awy nwy cwy) (.slice Ary nry cry), fB Bi 0 (.slice none 0 0), .emp] X70) := ⟨hp⟩
        clear hp K0
        refine HK.out _ _ ⟨K70.out.cell 0 0 rfl, K70.out.cell 9 0 rfl, K70.out.cell 1 0 rfl, K70.out.cell 10 0 rfl⟩ ?_
        clear HK
        refine wpAnyH_one (i := 11) (by kernel_rfl) rfl (by rfl) (fun K' hK => ?_)
        have HK := Aside0.mk hK
        clear hK
        go_simp
        have hp := K70.out.fillNew (HX.out _) 12 rfl (.cells #[.int .i64 0, .slice none 0 0] 24 (0, 0))
        generalize X70.alloc (.cells #[.int .i64 0, .slice none 0 0] 24) = X71 at hp ⊢
        generalize X70.heap.size = Bj at hp ⊢
        have K71 : Aside0 (Sep w (fun _ => False) [fB Bf v1 (.slice A1 l1.length c1), fB Bg v2 (.slice A2 l2.length c2), fB B5 2 (.slice Au 4 cu), headA (.slice Awx nwx cwx) ((Tx ++ Mx).map LRow.shown), headA (.slice Arx nrx crx) (Tx.map LRow.all), dataA (Tx ++ Mx), headA (.slice Awy nwy cwy) ((Ty ++ My).map LRow.shown), headA (.slice Ary nry cry) (Ty.map LRow.all), dataA (Ty ++ My), xB Bx (.slice Awx l1.length cwx) (.slice Awx nwx cwx) (.slice Arx nrx crx), xB By (.slice Awy l2.length cwy) (.slice Awy nwy cwy) (.slice Ary nry cry), fB Bi 0 (.slice none 0 0), fB Bj 0 (.slice none 0 0)] X71) := ⟨hp⟩
        clear hp K70
        refine HK.out _ _ ⟨K71.out.cell 0 0 rfl, K71.out.cell 9 0 rfl, K71.out.cell 1 0 rfl, K71.out.cell 10 0 rfl⟩ ?_
        clear HK
        refine wpAnyH_one (i := 12) (by kernel_rfl) rfl (by rfl) (fun K' hK => ?_)
        have HK := Aside0.mk hK
        clear hK
        have k0 : X71.cell? ⟨Bi, 0, none⟩ = some (.int .i64 0) := K71.out.cell 11 0 rfl
        have y0 : X71.frozen? ⟨Bi, 0, none⟩ = false := K71.out.frozen 11 0 rfl
        have k1 : X71.cell? ⟨Bi, 1, none⟩ = some (.slice none 0 0) := K71.out.cell 11 1 rfl
        have y1 : X71.frozen? ⟨Bi, 1, none⟩ = false := K71.out.frozen 11 1 rfl
        refine wp_store_run (t := 24) (.tmp 9) (.tmp 45) rfl rfl rfl rfl (storeFormula k0 k1 y0 y1) ?_
        clear k0 k1 y0 y1
        have hp := ((K71.out.put (HX.out _) 11 0 rfl (.int .i64 v1) rfl).put (HX.out _) 11 1 rfl (.slice Awx l1.length cwx) rfl)
        have K72 : Aside0 (Sep w (fun _ => False) [fB Bf v1 (.slice A1 l1.length c1), fB Bg v2 (.slice A2 l2.length c2), fB B5 2 (.slice Au 4 cu), headA (.slice Awx nwx cwx) ((Tx ++ Mx).map LRow.shown), headA (.slice Arx nrx crx) (Tx.map LRow.all), dataA (Tx ++ Mx), headA (.slice Awy nwy cwy) ((Ty ++ My).map LRow.shown), headA (.slice Ary nry cry) (Ty.map LRow.all), dataA (Ty ++ My), xB Bx (.slice Awx l1.length cwx) (.slice Awx nwx cwx) (.slice Arx nrx crx), xB By (.slice Awy l2.length cwy) (.slice Awy nwy cwy) (.slice Ary nry cry), fB Bi v1 (.slice Awx l1.length cwx), fB Bj 0 (.slice none 0 0)] ((X71.setCell ⟨Bi, 0, none⟩ (.int .i64 v1)).setCell ⟨Bi, 1, none⟩ (.slice Awx l1.length cwx))) := ⟨hp⟩
        clear hp K71
        generalize ((X71.setCell ⟨Bi, 0, none⟩ (.int .i64 v1)).setCell ⟨Bi, 1, none⟩ (.slice Awx l1.length cwx)) = X72 at K72 ⊢
        refine HK.out _ _ ⟨K72.out.cell 0 0 rfl, K72.out.cell 9 0 rfl, K72.out.cell 1 0 rfl, K72.out.cell 10 0 rfl⟩ ?_
        clear HK
        refine wpAnyH_one (i := 13) (by kernel_rfl) rfl (by rfl) (fun K' hK => ?_)
        have HK := Aside0.mk hK
        clear hK
        have k0 : X72.cell? ⟨Bj, 0, none⟩ = some (.int .i64 0) := K72.out.cell 12 0 rfl
        have y0 : X72.frozen? ⟨Bj, 0, none⟩ = false := K72.out.frozen 12 0 rfl
        have k1 : X72.cell? ⟨Bj, 1, none⟩ = some (.slice none 0 0) := K72.out.cell 12 1 rfl
        have y1 : X72.frozen? ⟨Bj, 1, none⟩ = false := K72.out.frozen 12 1 rfl
        refine wp_store_run (t := 24) (.tmp 10) (.tmp 50) rfl rfl rfl rfl (storeFormula k0 k1 y0 y1) ?_
        clear k0 k1 y0 y1
        have hp := ((K72.out.put (HX.out _) 12 0 rfl (.int .i64 v2) rfl).put (HX.out _) 12 1 rfl (.slice Awy l2.length cwy) rfl)
        have K73 : Aside0 (Sep w (fun _ => False) [fB Bf v1 (.slice A1 l1.length c1), fB Bg v2 (.slice A2 l2.length c2), fB B5 2 (.slice Au 4 cu), headA (.slice Awx nwx cwx) ((Tx ++ Mx).map LRow.shown), headA (.slice Arx nrx crx) (Tx.map LRow.all), dataA (Tx ++ Mx), headA (.slice Awy nwy cwy) ((Ty ++ My).map LRow.shown), headA (.slice Ary nry cry) (Ty.map LRow.all), dataA (Ty ++ My), xB Bx (.slice Awx l1.length cwx) (.slice Awx nwx cwx) (.slice Arx nrx crx), xB By (.slice Awy l2.length cwy) (.slice Awy nwy cwy) (.slice Ary nry cry), fB Bi v1 (.slice Awx l1.length cwx), fB Bj v2 (.slice Awy l2.length cwy)] ((X72.setCell ⟨Bj, 0, none⟩ (.int .i64 v2)).setCell ⟨Bj, 1, none⟩ (.slice Awy l2.length cwy))) := ⟨hp⟩
        clear hp K72
        generalize ((X72.setCell ⟨Bj, 0, none⟩ (.int .i64 v2)).setCell ⟨Bj, 1, none⟩ (.slice Awy l2.length cwy)) = X73 at K73 ⊢
        refine HK.out _ _ ⟨K73.out.cell 0 0 rfl, K73.out.cell 9 0 rfl, K73.out.cell 1 0 rfl, K73.out.cell 10 0 rfl⟩ ?_
        clear HK
        refine wpAnyH_done (by kernel_rfl) ?_ _
        go_wp2_with fail
        go_meet
        case rel => exact ⟨Bi, Bj, rfl, rfl, K73⟩
      · have HK := Aside0.mk hK
        clear hK
        go_simp
        have hp := K0.out.fillNew (HX.out _) 12 rfl (.cells #[.int .i64 0, .slice none 0 0] 24 (0, 0))
        generalize X0.alloc (.cells #[.int .i64 0, .slice none 0 0] 24) = X74 at hp ⊢
        generalize X0.heap.size = Bj at hp ⊢
        have K74 : Aside0 (Sep w (fun _ => False) [fB Bf v1 (.slice A1 l1.length c1), fB Bg v2 (.slice A2 l2.length c2), fB B5 2 (.slice Au 4 cu), headA (.slice Awx nwx cwx) ((Tx ++ Mx).map LRow.shown), headA (.slice Arx nrx crx) (Tx.map LRow.all), dataA (Tx ++ Mx), headA (.slice Awy nwy cwy) ((Ty ++ My).map LRow.shown), headA (.slice Ary nry cry) (Ty.map LRow.all), dataA (Ty ++ My), xB Bx (.slice Awx l1.length cwx) (.slice Awx nwx cwx) (.slice Arx nrx crx), xB By (.slice Awy l2.length cwy) (.slice Awy nwy cwy) (.slice Ary nry cry), .emp, fB Bj 0 (.slice none 0 0)] X74) := ⟨hp⟩
        clear hp K0
        refine HK.out _ _ ⟨K74.out.cell 0 0 rfl, K74.out.cell 9 0 rfl, K74.out.cell 1 0 rfl, K74.out.cell 10 0 rfl⟩ ?_
        clear HK
        refine wpAnyH_one (i := 10) (by kernel_rfl) rfl (by rfl) (fun K' hK => ?_)
        have HK := Aside0.mk hK
        clear hK
        go_simp
        have hp := K74.out.fillNew (HX.out _) 11 rfl (.cells #[.int .i64 0, .slice none 0 0] 24 (0, 0))
        generalize X74.alloc (.cells #[.int .i64 0, .slice none 0 0] 24) = X75 at hp ⊢
        generalize X74.heap.size = Bi at hp ⊢
        have K75 : Aside0 (Sep w (fun _ => False) [fB Bf v1 (.slice A1 l1.length c1), fB Bg v2 (.slice A2 l2.length c2), fB B5 2 (.slice Au 4 cu), headA (.slice Awx nwx cwx) ((Tx ++ Mx).map LRow.shown), headA (.slice Arx nrx crx) (Tx.map LRow.all), dataA (Tx ++ Mx), headA (.slice Awy nwy cwy) ((Ty ++ My).map LRow.shown), headA (.slice Ary nry cry) (Ty.map LRow.all), dataA (Ty ++ My), xB Bx (.slice Awx l1.length cwx) (.slice Awx nwx cwx) (.slice Arx nrx crx), xB By (.slice Awy l2.length cwy) (.slice Awy nwy cwy) (.slice Ary nry cry), fB Bi 0 (.slice none 0 0), fB Bj 0 (.slice none 0 0)] X75) := ⟨hp⟩
        clear hp K74
        refine HK.out _ _ ⟨K75.out.cell 0 0 rfl, K75.out.cell 9 0 rfl, K75.out.cell 1 0 rfl, K75.out.cell 10 0 rfl⟩ ?_
        clear HK
        refine wpAnyH_one (i := 12) (by kernel_rfl) rfl (by rfl) (fun K' hK => ?_)
        have HK := Aside0.mk hK
        clear hK
        have k0 : X75.cell? ⟨Bi, 0, none⟩ = some (.int .i64 0) := K75.out.cell 11 0 rfl
        have y0 : X75.frozen? ⟨Bi, 0, none⟩ = false := K75.out.frozen 11 0 rfl
        have k1 : X75.cell? ⟨Bi, 1, none⟩ = some (.slice none 0 0) := K75.out.cell 11 1 rfl
        have y1 : X75.frozen? ⟨Bi, 1, none⟩ = false := K75.out.frozen 11 1 rfl
        refine wp_store_run (t := 24) (.tmp 9) (.tmp 45) rfl rfl rfl rfl (storeFormula k0 k1 y0 y1) ?_
        clear k0 k1 y0 y1
        have hp := ((K75.out.put (HX.out _) 11 0 rfl (.int .i64 v1) rfl).put (HX.out _) 11 1 rfl (.slice Awx l1.length cwx) rfl)
        have K76 : Aside0 (Sep w (fun _ => False) [fB Bf v1 (.slice A1 l1.length c1), fB Bg v2 (.slice A2 l2.length c2), fB B5 2 (.slice Au 4 cu), headA (.slice Awx nwx cwx) ((Tx ++ Mx).map LRow.shown), headA (.slice Arx nrx crx) (Tx.map LRow.all), dataA (Tx ++ Mx), headA (.slice Awy nwy cwy) ((Ty ++ My).map LRow.shown), headA (.slice Ary nry cry) (Ty.map LRow.all), dataA (Ty ++ My), xB Bx (.slice Awx l1.length cwx) (.slice Awx nwx cwx) (.slice Arx nrx crx), xB By (.slice Awy l2.length cwy) (.slice Awy nwy cwy) (.slice Ary nry cry), fB Bi v1 (.slice Awx l1.length cwx), fB Bj 0 (.slice none 0 0)] ((X75.setCell ⟨Bi, 0, none⟩ (.int .i64 v1)).setCell ⟨Bi, 1, none⟩ (.slice Awx l1.length cwx))) := ⟨hp⟩
        clear hp K75
        generalize ((X75.setCell ⟨Bi, 0, none⟩ (.int .i64 v1)).setCell ⟨Bi, 1, none⟩ (.slice Awx l1.length cwx)) = X76 at K76 ⊢
        refine HK.out _ _ ⟨K76.out.cell 0 0 rfl, K76.out.cell 9 0 rfl, K76.out.cell 1 0 rfl, K76.out.cell 10 0 rfl⟩ ?_
        clear HK
        refine wpAnyH_one (i := 13) (by kernel_rfl) rfl (by rfl) (fun K' hK => ?_)
        have HK := Aside0.mk hK
        clear hK
        have k0 : X76.cell? ⟨Bj, 0, none⟩ = some (.int .i64 0) := K76.out.cell 12 0 rfl
        have y0 : X76.frozen? ⟨Bj, 0, none⟩ = false := K76.out.frozen 12 0 rfl
        have k1 : X76.cell? ⟨Bj, 1, none⟩ = some (.slice none 0 0) := K76.out.cell 12 1 rfl
        have y1 : X76.frozen? ⟨Bj, 1, none⟩ = false := K76.out.frozen 12 1 rfl
        refine wp_store_run (t := 24) (.tmp 10) (.tmp 50) rfl rfl rfl rfl (storeFormula k0 k1 y0 y1) ?_
        clear k0 k1 y0 y1
        have hp := ((K76.out.put (HX.out _) 12 0 rfl (.int .i64 v2) rfl).put (HX.out _) 12 1 rfl (.slice Awy l2.length cwy) rfl)
        have K77 : Aside0 (Sep w (fun _ => False) [fB Bf v1 (.slice A1 l1.length c1), fB Bg v2 (.slice A2 l2.length c2), fB B5 2 (.slice Au 4 cu), headA (.slice Awx nwx cwx) ((Tx ++ Mx).map LRow.shown), headA (.slice Arx nrx crx) (Tx.map LRow.all), dataA (Tx ++ Mx), headA (.slice Awy nwy cwy) ((Ty ++ My).map LRow.shown), headA (.slice Ary nry cry) (Ty.map LRow.all), dataA (Ty ++ My), xB Bx (.slice Awx l1.length cwx) (.slice Awx nwx cwx) (.slice Arx nrx crx), xB By (.slice Awy l2.length cwy) (.slice Awy nwy cwy) (.slice Ary nry cry), fB Bi v1 (.slice Awx l1.length cwx), fB Bj v2 (.slice Awy l2.length cwy)] ((X76.setCell ⟨Bj, 0, none⟩ (.int .i64 v2)).setCell ⟨Bj, 1, none⟩ (.slice Awy l2.length cwy))) := ⟨hp⟩
        clear hp K76
        generalize ((X76.setCell ⟨Bj, 0, none⟩ (.int .i64 v2)).setCell ⟨Bj, 1, none⟩ (.slice Awy l2.length cwy)) = X77 at K77 ⊢
        refine HK.out _ _ ⟨K77.out.cell 0 0 rfl, K77.out.cell 9 0 rfl, K77.out.cell 1 0 rfl, K77.out.cell 10 0 rfl⟩ ?_
        clear HK
        refine wpAnyH_done (by kernel_rfl) ?_ _
        go_wp2_with fail
        go_meet
        case rel => exact ⟨Bi, Bj, rfl, rfl, K77⟩
    case rest =>
      clear H69
      obtain ⟨Bi, Bj, rfl, rfl, H5⟩ := hcut
      generalize wc = W5 at H5 ⊢
      have q0 : W5.cell? ⟨Bf, 0, none⟩ = some (.int .i64 v1) := H5.out.cell 0 0 rfl
      have q1 : W5.cell? ⟨Bf, 1, none⟩ = some (.slice A1 l1.length c1) := H5.out.cell 0 1 rfl
      have q2 : W5.cell? ⟨Bg, 0, none⟩ = some (.int .i64 v2) := H5.out.cell 1 0 rfl
      have q3 : W5.cell? ⟨Bg, 1, none⟩ = some (.slice A2 l2.length c2) := H5.out.cell 1 1 rfl
      go_wp2_with (go_at_call 22; refine HoldU.out ?_)
      refine ⟨?_⟩
      clear q0 q1 q2 q3
      refine (refJoin_n HJ1.out rfl rfl A1 A2 c1 c2 _ (Kd.C_below HR1.out H5.out.hB) HC.out.1 (Kd.C_below HR2.out H5.out.hB) HC.out.2 HB1.out HB2.out).mono ?_
      rintro e W78 ⟨Aw, cw, rfl, hS, hb⟩
      have H79 : Aside0 (Sep w (fun _ => False) [fB Bf v1 (.slice A1 l1.length c1), fB Bg v2 (.slice A2 l2.length c2), fB B5 2 (.slice Au 4 cu), headA (.slice Awx nwx cwx) ((Tx ++ Mx).map LRow.shown), headA (.slice Arx nrx crx) (Tx.map LRow.all), dataA (Tx ++ Mx), headA (.slice Awy nwy cwy) ((Ty ++ My).map LRow.shown), headA (.slice Ary nry cry) (Ty.map LRow.all), dataA (Ty ++ My), xB Bx (.slice Awx l1.length cwx) (.slice Awx nwx cwx) (.slice Arx nrx crx), xB By (.slice Awy l2.length cwy) (.slice Awy nwy cwy) (.slice Ary nry cry), fB Bi v1 (.slice Awx l1.length cwx), fB Bj v2 (.slice Awy l2.length cwy), sC (.slice Aw j1l.length cw) j1l] W78) := ⟨H5.out.push hb (HX.out _) hS⟩
      clear H5
      clear hS hb
      go_upto_region 7 with fail
      have hp := H79.out.new (HX.out _) (.cells #[.int .i64 j1v, .slice Aw j1l.length cw] 24 (0, 0))
      generalize W78.alloc (.cells #[.int .i64 j1v, .slice Aw j1l.length cw] 24) = W80 at hp ⊢
      generalize W78.heap.size = Bw at hp ⊢
      have H81 : Aside0 (Sep w (fun _ => False) [fB Bf v1 (.slice A1 l1.length c1), fB Bg v2 (.slice A2 l2.length c2), fB B5 2 (.slice Au 4 cu), headA (.slice Awx nwx cwx) ((Tx ++ Mx).map LRow.shown), headA (.slice Arx nrx crx) (Tx.map LRow.all), dataA (Tx ++ Mx), headA (.slice Awy nwy cwy) ((Ty ++ My).map LRow.shown), headA (.slice Ary nry cry) (Ty.map LRow.all), dataA (Ty ++ My), xB Bx (.slice Awx l1.length cwx) (.slice Awx nwx cwx) (.slice Arx nrx crx), xB By (.slice Awy l2.length cwy) (.slice Awy nwy cwy) (.slice Ary nry cry), fB Bi v1 (.slice Awx l1.length cwx), fB Bj v2 (.slice Awy l2.length cwy), sC (.slice Aw j1l.length cw) j1l, fB Bw j1v (.slice Aw j1l.length cw)] W80) := ⟨hp⟩
      clear H79
      clear hp
      have q4 : W80.cell? ⟨Bf, 0, none⟩ = some (.int .i64 v1) := H81.out.cell 0 0 rfl
      have q5 : W80.cell? ⟨Bf, 1, none⟩ = some (.slice A1 l1.length c1) := H81.out.cell 0 1 rfl
      go_wp2_with (go_at_call 22; refine HoldU.out ?_)
      refine ⟨?_⟩
      clear q4 q5
      refine (refJoin_n HJ2.out rfl rfl A1 A1 c1 c1 _ (Kd.C_below HR1.out H81.out.hB) HC.out.1 (Kd.C_below HR1.out H81.out.hB) HC.out.1 HB1.out HB1.out).mono ?_
      rintro e W82 ⟨Ad, cd, rfl, hS, hb⟩
      have H83 : Aside0 (Sep w (fun _ => False) [fB Bf v1 (.slice A1 l1.length c1), fB Bg v2 (.slice A2 l2.length c2), fB B5 2 (.slice Au 4 cu), headA (.slice Awx nwx cwx) ((Tx ++ Mx).map LRow.shown), headA (.slice Arx nrx crx) (Tx.map LRow.all), dataA (Tx ++ Mx), headA (.slice Awy nwy cwy) ((Ty ++ My).map LRow.shown), headA (.slice Ary nry cry) (Ty.map LRow.all), dataA (Ty ++ My), xB Bx (.slice Awx l1.length cwx) (.slice Awx nwx cwx) (.slice Arx nrx crx), xB By (.slice Awy l2.length cwy) (.slice Awy nwy cwy) (.slice Ary nry cry), fB Bi v1 (.slice Awx l1.length cwx), fB Bj v2 (.slice Awy l2.length cwy), sC (.slice Aw j1l.length cw) j1l, fB Bw j1v (.slice Aw j1l.length cw), sC (.slice Ad j2l.length cd) j2l] W82) := ⟨H81.out.push hb (HX.out _) hS⟩
      clear H81
      clear hS hb
      go_upto_region 8 with fail
      have hp := H83.out.new (HX.out _) (.cells #[.int .i64 j2v, .slice Ad j2l.length cd] 24 (0, 0))
      generalize W82.alloc (.cells #[.int .i64 j2v, .slice Ad j2l.length cd] 24) = W84 at hp ⊢
      generalize W82.heap.size = Bd at hp ⊢
      have H85 : Aside0 (Sep w (fun _ => False) [fB Bf v1 (.slice A1 l1.length c1), fB Bg v2 (.slice A2 l2.length c2), fB B5 2 (.slice Au 4 cu), headA (.slice Awx nwx cwx) ((Tx ++ Mx).map LRow.shown), headA (.slice Arx nrx crx) (Tx.map LRow.all), dataA (Tx ++ Mx), headA (.slice Awy nwy cwy) ((Ty ++ My).map LRow.shown), headA (.slice Ary nry cry) (Ty.map LRow.all), dataA (Ty ++ My), xB Bx (.slice Awx l1.length cwx) (.slice Awx nwx cwx) (.slice Arx nrx crx), xB By (.slice Awy l2.length cwy) (.slice Awy nwy cwy) (.slice Ary nry cry), fB Bi v1 (.slice Awx l1.length cwx), fB Bj v2 (.slice Awy l2.length cwy), sC (.slice Aw j1l.length cw) j1l, fB Bw j1v (.slice Aw j1l.length cw), sC (.slice Ad j2l.length cd) j2l, fB Bd j2v (.slice Ad j2l.length cd)] W84) := ⟨hp⟩
      clear H83
      clear hp
      have H86 : Aside0 (Sep w (fun _ => False) [fB Bf v1 (.slice A1 l1.length c1), fB Bg v2 (.slice A2 l2.length c2), fB B5 2 (.slice Au 4 cu), headA (.slice Awx nwx cwx) ((Tx ++ Mx).map LRow.shown), headA (.slice Arx nrx crx) (Tx.map LRow.all), dataA (Tx ++ Mx), headA (.slice Awy nwy cwy) ((Ty ++ My).map LRow.shown), headA (.slice Ary nry cry) (Ty.map LRow.all), dataA (Ty ++ My), xB Bx (.slice Awx l1.length cwx) (.slice Awx nwx cwx) (.slice Arx nrx crx), xB By (.slice Awy l2.length cwy) (.slice Awy nwy cwy) (.slice Ary nry cry), fB Bi v1 (.slice Awx l1.length cwx), fB Bj v2 (.slice Awy l2.length cwy), sC (.slice Aw j1l.length cw) j1l, fB Bw j1v (.slice Aw j1l.length cw), sC (.slice Ad j2l.length cd) j2l, fB Bd j2v (.slice Ad j2l.length cd), .emp, .emp, .emp] W84) := ⟨H85.out.pad 3⟩
      clear H85
      go_cut [15] from 27 (fun s15 wx => ∃ (Bo : Nat) (Ao : Option Addr) (co : Nat) (At : Option Addr), s15 = .pointer (some ⟨Bo, 0, none⟩) ∧ Aside0 (Sep w (fun _ => False) [fB Bf v1 (.slice A1 l1.length c1), fB Bg v2 (.slice A2 l2.length c2), fB B5 2 (.slice Au 4 cu), headA (.slice Awx nwx cwx) ((Tx ++ Mx).map LRow.shown), headA (.slice Arx nrx crx) (Tx.map LRow.all), dataA (Tx ++ Mx), headA (.slice Awy nwy cwy) ((Ty ++ My).map LRow.shown), headA (.slice Ary nry cry) (Ty.map LRow.all), dataA (Ty ++ My), xB Bx (.slice Awx l1.length cwx) (.slice Awx nwx cwx) (.slice Arx nrx crx), xB By (.slice Awy l2.length cwy) (.slice Awy nwy cwy) (.slice Ary nry cry), fB Bi v1 (.slice Awx l1.length cwx), fB Bj v2 (.slice Awy l2.length cwy), sC (.slice Aw j1l.length cw) j1l, fB Bw j1v (.slice Aw j1l.length cw), sC (.slice Ad j2l.length cd) j2l, fB Bd j2v (.slice Ad j2l.length cd), Asr.foot (fun W => Kd.C (Kd.slice 3 (Kd.int .i64)) W At l1.length (l1.map (List.map negw))), sC (.slice Ao j3l.length co) j3l, fB Bo j3v (.slice Ao j3l.length co)] wx))
      case first =>
        as_aux_lemma =>
        have hmx : Try.prog.follows .mixedOrders = true := by kernel_rfl
        have K0 : Aside0 (Sep w (fun _ => False) [fB Bf v1 (.slice A1 l1.length c1), fB Bg v2 (.slice A2 l2.length c2), fB B5 2 (.slice Au 4 cu), headA (.slice Awx nwx cwx) ((Tx ++ Mx).map LRow.shown), headA (.slice Arx nrx crx) (Tx.map LRow.all), dataA (Tx ++ Mx), headA (.slice Awy nwy cwy) ((Ty ++ My).map LRow.shown), headA (.slice Ary nry cry) (Ty.map LRow.all), dataA (Ty ++ My), xB Bx (.slice Awx l1.length cwx) (.slice Awx nwx cwx) (.slice Arx nrx crx), xB By (.slice Awy l2.length cwy) (.slice Awy nwy cwy) (.slice Ary nry cry), fB Bi v1 (.slice Awx l1.length cwx), fB Bj v2 (.slice Awy l2.length cwy), sC (.slice Aw j1l.length cw) j1l, fB Bw j1v (.slice Aw j1l.length cw), sC (.slice Ad j2l.length cd) j2l, fB Bd j2v (.slice Ad j2l.length cd), .emp, .emp, .emp] W84.drew) := ⟨H86.out.keep (below_drew (Below.refl _ _))⟩
        clear H86
        refine wp_region_H (S := fun W' => W'.cell? ⟨Bf, 0, none⟩ = some (.int .i64 v1) ∧ W'.cell? ⟨Bf, 1, none⟩ = some (.slice A1 l1.length c1) ∧ W'.cell? ⟨Bg, 0, none⟩ = some (.int .i64 v2) ∧ W'.cell? ⟨Bg, 1, none⟩ = some (.slice A2 l2.length c2)) hmx ?_
        generalize W84.drew = X0 at K0 ⊢
        have hS0 : X0.cell? ⟨Bf, 0, none⟩ = some (.int .i64 v1) ∧ X0.cell? ⟨Bf, 1, none⟩ = some (.slice A1 l1.length c1) ∧ X0.cell? ⟨Bg, 0, none⟩ = some (.int .i64 v2) ∧ X0.cell? ⟨Bg, 1, none⟩ = some (.slice A2 l2.length c2) := ⟨K0.out.cell 0 0 rfl, K0.out.cell 0 1 rfl, K0.out.cell 1 0 rfl, K0.out.cell 1 1 rfl⟩
        refine wpAnyH_takeA (i := 0) (v := .agg #[.int .i64 v1, .slice A1 l1.length c1]) 64 rfl rfl (by kernel_rfl) (by kernel_rfl) (by kernel_rfl) (fun _ _ _ h => h) (.inl ⟨by rfl, fun W' hS => by obtain ⟨s0, s1, s2, s3⟩ := hS; go_simp⟩) hS0 ?_
        intro A' hA; simp at hA; subst hA
        refine wpAnyH_takeA (i := 2) (v := .agg #[.int .i64 v2, .slice A2 l2.length c2]) 66 rfl rfl (by kernel_rfl) (by kernel_rfl) (by kernel_rfl) (fun _ _ _ h => h) (.inl ⟨by rfl, fun W' hS => by obtain ⟨s0, s1, s2, s3⟩ := hS; go_simp⟩) hS0 ?_
        intro A' hA; simp at hA; subst hA
        clear hS0
        refine wpAnyH_two (i := 1) (j := 7) (by kernel_rfl) rfl rfl (by rfl) (by rfl) (fun K' hK => ?_) (fun K' hK => ?_)
        · have HK := Aside0.mk hK
          clear hK
          go_simp
          refine (turned_calls v1 A1 c1 l1 _ (Kd.C_below HR1.out K0.out.hB) HC.out.1 (Nat.le_trans HB1.out.1 (by decide)) HB1.out.2).mono ?_
          rintro e X87 ⟨At, ct, rfl, hC, hc, hb⟩
          have hp := K0.out.fill 17 rfl hb (HX.out _) hC
          have HCT := Aside0.mk hc
          clear hC hb hc
          have K87 : Aside0 (Sep w (fun _ => False) [fB Bf v1 (.slice A1 l1.length c1), fB Bg v2 (.slice A2 l2.length c2), fB B5 2 (.slice Au 4 cu), headA (.slice Awx nwx cwx) ((Tx ++ Mx).map LRow.shown), headA (.slice Arx nrx crx) (Tx.map LRow.all), dataA (Tx ++ Mx), headA (.slice Awy nwy cwy) ((Ty ++ My).map LRow.shown), headA (.slice Ary nry cry) (Ty.map LRow.all), dataA (Ty ++ My), xB Bx (.slice Awx l1.length cwx) (.slice Awx nwx cwx) (.slice Arx nrx crx), xB By (.slice Awy l2.length cwy) (.slice Awy nwy cwy) (.slice Ary nry cry), fB Bi v1 (.slice Awx l1.length cwx), fB Bj v2 (.slice Awy l2.length cwy), sC (.slice Aw j1l.length cw) j1l, fB Bw j1v (.slice Aw j1l.length cw), sC (.slice Ad j2l.length cd) j2l, fB Bd j2v (.slice Ad j2l.length cd), Asr.foot (fun W => Kd.C (Kd.slice 3 (Kd.int .i64)) W At l1.length (l1.map (List.map negw))), .emp, .emp] X87) := ⟨hp⟩
          clear K0
          refine HK.out _ _ ⟨K87.out.cell 0 0 rfl, K87.out.cell 0 1 rfl, K87.out.cell 1 0 rfl, K87.out.cell 1 1 rfl⟩ ?_
          clear HK
          refine wpAnyH_two (i := 3) (j := 7) (by kernel_rfl) rfl rfl (by rfl) (by rfl) (fun K' hK => ?_) (fun K' hK => ?_)
          · have HK := Aside0.mk hK
            clear hK
            go_simp
            refine (refJoin_n HJ3.out (List.length_map _).symm rfl At A2 ct c2 _ (foot_now (K87.out.get 17 rfl)) HCT.out (Kd.C_below HR2.out K87.out.hB) HC.out.2 (neg_sm HB1.out) HB2.out).mono ?_
            rintro e X88 ⟨Ao, co, rfl, hS, hb⟩
            have hp := K87.out.fill 18 rfl hb (HX.out _) hS
            clear hS hb
            have K88 : Aside0 (Sep w (fun _ => False) [fB Bf v1 (.slice A1 l1.length c1), fB Bg v2 (.slice A2 l2.length c2), fB B5 2 (.slice Au 4 cu), headA (.slice Awx nwx cwx) ((Tx ++ Mx).map LRow.shown), headA (.slice Arx nrx crx) (Tx.map LRow.all), dataA (Tx ++ Mx), headA (.slice Awy nwy cwy) ((Ty ++ My).map LRow.shown), headA (.slice Ary nry cry) (Ty.map LRow.all), dataA (Ty ++ My), xB Bx (.slice Awx l1.length cwx) (.slice Awx nwx cwx) (.slice Arx nrx crx), xB By (.slice Awy l2.length cwy) (.slice Awy nwy cwy) (.slice Ary nry cry), fB Bi v1 (.slice Awx l1.length cwx), fB Bj v2 (.slice Awy l2.length cwy), sC (.slice Aw j1l.length cw) j1l, fB Bw j1v (.slice Aw j1l.length cw), sC (.slice Ad j2l.length cd) j2l, fB Bd j2v (.slice Ad j2l.length cd), Asr.foot (fun W => Kd.C (Kd.slice 3 (Kd.int .i64)) W At l1.length (l1.map (List.map negw))), sC (.slice Ao j3l.length co) j3l, .emp] X88) := ⟨hp⟩
            clear K87
            refine HK.out _ _ ⟨K88.out.cell 0 0 rfl, K88.out.cell 0 1 rfl, K88.out.cell 1 0 rfl, K88.out.cell 1 1 rfl⟩ ?_
            clear HK
            have hS0 : X88.cell? ⟨Bf, 0, none⟩ = some (.int .i64 v1) ∧ X88.cell? ⟨Bf, 1, none⟩ = some (.slice A1 l1.length c1) ∧ X88.cell? ⟨Bg, 0, none⟩ = some (.int .i64 v2) ∧ X88.cell? ⟨Bg, 1, none⟩ = some (.slice A2 l2.length c2) := ⟨K88.out.cell 0 0 rfl, K88.out.cell 0 1 rfl, K88.out.cell 1 0 rfl, K88.out.cell 1 1 rfl⟩
            refine wpAnyH_takeA (i := 4) (v := .tuple #[.agg #[.int .i64 j3v, .slice Ao j3l.length co], .int .i64 j3e]) 63 rfl rfl (by kernel_rfl) (by kernel_rfl) (by kernel_rfl) (fun _ _ _ h => h) (.inl ⟨by rfl, fun W' hS => by obtain ⟨s0, s1, s2, s3⟩ := hS; go_simp⟩) hS0 ?_
            intro A' hA; simp at hA; subst hA
            refine wpAnyH_takeA (i := 5) (v := .agg #[.int .i64 j3v, .slice Ao j3l.length co]) 68 rfl rfl (by kernel_rfl) (by kernel_rfl) (by kernel_rfl) (fun _ _ _ h => h) (.inl ⟨by rfl, fun W' hS => by obtain ⟨s0, s1, s2, s3⟩ := hS; go_simp⟩) hS0 ?_
            intro A' hA; simp at hA; subst hA
            refine wpAnyH_takeA (i := 6) (v := .int .i64 j3e) 69 rfl rfl (by kernel_rfl) (by kernel_rfl) (by kernel_rfl) (fun _ _ _ h => h) (.inl ⟨by rfl, fun W' hS => by obtain ⟨s0, s1, s2, s3⟩ := hS; go_simp⟩) hS0 ?_
            intro A' hA; simp at hA; subst hA
            clear hS0
            refine wpAnyH_one (i := 7) (by kernel_rfl) rfl (by rfl) (fun K' hK => ?_)
            have HK := Aside0.mk hK
            clear hK
            go_simp
            have hp := K88.out.fillNew (HX.out _) 19 rfl (.cells #[.int .i64 0, .slice none 0 0] 24 (0, 0))
            generalize X88.alloc (.cells #[.int .i64 0, .slice none 0 0] 24) = X89 at hp ⊢
            generalize X88.heap.size = Bo at hp ⊢
            have K89 : Aside0 (Sep w (fun _ => False) [fB Bf v1 (.slice A1 l1.length c1), fB Bg v2 (.slice A2 l2.length c2), fB B5 2 (.slice Au 4 cu), headA (.slice Awx nwx cwx) ((Tx ++ Mx).map LRow.shown), headA (.slice Arx nrx crx) (Tx.map LRow.all), dataA (Tx ++ Mx), headA (.slice Awy nwy cwy) ((Ty ++ My).map LRow.shown), headA (.slice Ary nry cry) (Ty.map LRow.all), dataA (Ty ++ My), xB Bx (.slice Awx l1.length cwx) (.slice Awx nwx cwx) (.slice Arx nrx crx), xB By (.slice Awy l2.length cwy) (.slice Awy nwy cwy) (.slice Ary nry cry), fB Bi v1 (.slice Awx l1.length cwx), fB Bj v2 (.slice Awy l2.length cwy), sC (.slice Aw j1l.length cw) j1l, fB Bw j1v (.slice Aw j1l.length cw), sC (.slice Ad j2l.length cd) j2l, fB Bd j2v (.slice Ad j2l.length cd), Asr.foot (fun W => Kd.C (Kd.slice 3 (Kd.int .i64)) W At l1.length (l1.map (List.map negw))), sC (.slice Ao j3l.length co) j3l, fB Bo 0 (.slice none 0 0)] X89) := ⟨hp⟩
            clear hp K88
            refine HK.out _ _ ⟨K89.out.cell 0 0 rfl, K89.out.cell 0 1 rfl, K89.out.cell 1 0 rfl, K89.out.cell 1 1 rfl⟩ ?_
            clear HK
            refine wpAnyH_one (i := 8) (by kernel_rfl) rfl (by rfl) (fun K' hK => ?_)
            have HK := Aside0.mk hK
            clear hK
            have k0 : X89.cell? ⟨Bo, 0, none⟩ = some (.int .i64 0) := K89.out.cell 19 0 rfl
            have y0 : X89.frozen? ⟨Bo, 0, none⟩ = false := K89.out.frozen 19 0 rfl
            have k1 : X89.cell? ⟨Bo, 1, none⟩ = some (.slice none 0 0) := K89.out.cell 19 1 rfl
            have y1 : X89.frozen? ⟨Bo, 1, none⟩ = false := K89.out.frozen 19 1 rfl
            refine wp_store_run (t := 24) (.tmp 15) (.tmp 68) rfl rfl rfl rfl (storeFormula k0 k1 y0 y1) ?_
            clear k0 k1 y0 y1
            have hp := ((K89.out.put (HX.out _) 19 0 rfl (.int .i64 j3v) rfl).put (HX.out _) 19 1 rfl (.slice Ao j3l.length co) rfl)
            have K90 : Aside0 (Sep w (fun _ => False) [fB Bf v1 (.slice A1 l1.length c1), fB Bg v2 (.slice A2 l2.length c2), fB B5 2 (.slice Au 4 cu), headA (.slice Awx nwx cwx) ((Tx ++ Mx).map LRow.shown), headA (.slice Arx nrx crx) (Tx.map LRow.all), dataA (Tx ++ Mx), headA (.slice Awy nwy cwy) ((Ty ++ My).map LRow.shown), headA (.slice Ary nry cry) (Ty.map LRow.all), dataA (Ty ++ My), xB Bx (.slice Awx l1.length cwx) (.slice Awx nwx cwx) (.slice Arx nrx crx), xB By (.slice Awy l2.length cwy) (.slice Awy nwy cwy) (.slice Ary nry cry), fB Bi v1 (.slice Awx l1.length cwx), fB Bj v2 (.slice Awy l2.length cwy), sC (.slice Aw j1l.length cw) j1l, fB Bw j1v (.slice Aw j1l.length cw), sC (.slice Ad j2l.length cd) j2l, fB Bd j2v (.slice Ad j2l.length cd), Asr.foot (fun W => Kd.C (Kd.slice 3 (Kd.int .i64)) W At l1.length (l1.map (List.map negw))), sC (.slice Ao j3l.length co) j3l, fB Bo j3v (.slice Ao j3l.length co)] ((X89.setCell ⟨Bo, 0, none⟩ (.int .i64 j3v)).setCell ⟨Bo, 1, none⟩ (.slice Ao j3l.length co))) := ⟨hp⟩
            clear hp K89
            generalize ((X89.setCell ⟨Bo, 0, none⟩ (.int .i64 j3v)).setCell ⟨Bo, 1, none⟩ (.slice Ao j3l.length co)) = X90 at K90 ⊢
            refine HK.out _ _ ⟨K90.out.cell 0 0 rfl, K90.out.cell 0 1 rfl, K90.out.cell 1 0 rfl, K90.out.cell 1 1 rfl⟩ ?_
            clear HK
            have hS0 : X90.cell? ⟨Bf, 0, none⟩ = some (.int .i64 v1) ∧ X90.cell? ⟨Bf, 1, none⟩ = some (.slice A1 l1.length c1) ∧ X90.cell? ⟨Bg, 0, none⟩ = some (.int .i64 v2) ∧ X90.cell? ⟨Bg, 1, none⟩ = some (.slice A2 l2.length c2) := ⟨K90.out.cell 0 0 rfl, K90.out.cell 0 1 rfl, K90.out.cell 1 0 rfl, K90.out.cell 1 1 rfl⟩
            refine wpAnyH_takeA (i := 9) (v := .int .i64 j3e) 16 rfl rfl (by kernel_rfl) (by kernel_rfl) (by kernel_rfl) (fun _ _ _ h => h) (.inl ⟨by rfl, fun W' hS => by obtain ⟨s0, s1, s2, s3⟩ := hS; go_simp⟩) hS0 ?_
            intro A' hA; simp at hA; subst hA
            clear hS0
            refine wpAnyH_done (by kernel_rfl) ?_ _
            go_wp2_with fail
            go_meet
            case rel => exact ⟨Bo, Ao, co, At, rfl, K90⟩
          · have HK := Aside0.mk hK
            clear hK
            go_simp
            have hp := K87.out.fillNew (HX.out _) 19 rfl (.cells #[.int .i64 0, .slice none 0 0] 24 (0, 0))
            generalize X87.alloc (.cells #[.int .i64 0, .slice none 0 0] 24) = X91 at hp ⊢
            generalize X87.heap.size = Bo at hp ⊢
            have K91 : Aside0 (Sep w (fun _ => False) [fB Bf v1 (.slice A1 l1.length c1), fB Bg v2 (.slice A2 l2.length c2), fB B5 2 (.slice Au 4 cu), headA (.slice Awx nwx cwx) ((Tx ++ Mx).map LRow.shown), headA (.slice Arx nrx crx) (Tx.map LRow.all), dataA (Tx ++ Mx), headA (.slice Awy nwy cwy) ((Ty ++ My).map LRow.shown), headA (.slice Ary nry cry) (Ty.map LRow.all), dataA (Ty ++ My), xB Bx (.slice Awx l1.length cwx) (.slice Awx nwx cwx) (.slice Arx nrx crx), xB By (.slice Awy l2.length cwy) (.slice Awy nwy cwy) (.slice Ary nry cry), fB Bi v1 (.slice Awx l1.length cwx), fB Bj v2 (.slice Awy l2.length cwy), sC (.slice Aw j1l.length cw) j1l, fB Bw j1v (.slice Aw j1l.length cw), sC (.slice Ad j2l.length cd) j2l, fB Bd j2v (.slice Ad j2l.length cd), Asr.foot (fun W => Kd.C (Kd.slice 3 (Kd.int .i64)) W At l1.length (l1.map (List.map negw))), .emp, fB Bo 0 (.slice none 0 0)] X91) := ⟨hp⟩
            clear hp K87
            refine HK.out _ _ ⟨K91.out.cell 0 0 rfl, K91.out.cell 0 1 rfl, K91.out.cell 1 0 rfl, K91.out.cell 1 1 rfl⟩ ?_
            clear HK
            refine wpAnyH_one (i := 3) (by kernel_rfl) rfl (by rfl) (fun K' hK => ?_)
            have HK := Aside0.mk hK
            clear hK
            go_simp
            refine (refJoin_n HJ3.out (List.length_map _).symm rfl At A2 ct c2 _ (foot_now (K91.out.get 17 rfl)) HCT.out (Kd.C_below HR2.out K91.out.hB) HC.out.2 (neg_sm HB1.out) HB2.out).mono ?_
            rintro e X92 ⟨Ao, co, rfl, hS, hb⟩
            have hp := K91.out.fill 18 rfl hb (HX.out _) hS
            clear hS hb
            have K92 : Aside0 (Sep w (fun _ => False) [fB Bf v1 (.slice A1 l1.length c1), fB Bg v2 (.slice A2 l2.length c2), fB B5 2 (.slice Au 4 cu), headA (.slice Awx nwx cwx) ((Tx ++ Mx).map LRow.shown), headA (.slice Arx nrx crx) (Tx.map LRow.all), dataA (Tx ++ Mx), headA (.slice Awy nwy cwy) ((Ty ++ My).map LRow.shown), headA (.slice Ary nry cry) (Ty.map LRow.all), dataA (Ty ++ My), xB Bx (.slice Awx l1.length cwx) (.slice Awx nwx cwx) (.slice Arx nrx crx), xB By (.slice Awy l2.length cwy) (.slice Awy nwy cwy) (.slice Ary nry cry), fB Bi v1 (.slice Awx l1.length cwx), fB Bj v2 (.slice Awy l2.length cwy), sC (.slice Aw j1l.length cw) j1l, fB Bw j1v (.slice Aw j1l.length cw), sC (.slice Ad j2l.length cd) j2l, fB Bd j2v (.slice Ad j2l.length cd), Asr.foot (fun W => Kd.C (Kd.slice 3 (Kd.int .i64)) W At l1.length (l1.map (List.map negw))), sC (.slice Ao j3l.length co) j3l, fB Bo 0 (.slice none 0 0)] X92) := ⟨hp⟩
            clear K91
            refine HK.out _ _ ⟨K92.out.cell 0 0 rfl, K92.out.cell 0 1 rfl, K92.out.cell 1 0 rfl, K92.out.cell 1 1 rfl⟩ ?_
            clear HK
            have hS0 : X92.cell? ⟨Bf, 0, none⟩ = some (.int .i64 v1) ∧ X92.cell? ⟨Bf, 1, none⟩ = some (.slice A1 l1.length c1) ∧ X92.cell? ⟨Bg, 0, none⟩ = some (.int .i64 v2) ∧ X92.cell? ⟨Bg, 1, none⟩ = some (.slice A2 l2.length c2) := ⟨K92.out.cell 0 0 rfl, K92.out.cell 0 1 rfl, K92.out.cell 1 0 rfl, K92.out.cell 1 1 rfl⟩
            refine wpAnyH_takeA (i := 4) (v := .tuple #[.agg #[.int .i64 j3v, .slice Ao j3l.length co], .int .i64 j3e]) 63 rfl rfl (by kernel_rfl) (by kernel_rfl) (by kernel_rfl) (fun _ _ _ h => h) (.inl ⟨by rfl, fun W' hS => by obtain ⟨s0, s1, s2, s3⟩ := hS; go_simp⟩) hS0 ?_
            intro A' hA; simp at hA; subst hA
            refine wpAnyH_takeA (i := 5) (v := .agg #[.int .i64 j3v, .slice Ao j3l.length co]) 68 rfl rfl (by kernel_rfl) (by kernel_rfl) (by kernel_rfl) (fun _ _ _ h => h) (.inl ⟨by rfl, fun W' hS => by obtain ⟨s0, s1, s2, s3⟩ := hS; go_simp⟩) hS0 ?_
            intro A' hA; simp at hA; subst hA
            refine wpAnyH_takeA (i := 6) (v := .int .i64 j3e) 69 rfl rfl (by kernel_rfl) (by kernel_rfl) (by kernel_rfl) (fun _ _ _ h => h) (.inl ⟨by rfl, fun W' hS => by obtain ⟨s0, s1, s2, s3⟩ := hS; go_simp⟩) hS0 ?_
            intro A' hA; simp at hA; subst hA
            clear hS0
            refine wpAnyH_one (i := 8) (by kernel_rfl) rfl (by rfl) (fun K' hK => ?_)
            have HK := Aside0.mk hK
            clear hK
            have k0 : X92.cell? ⟨Bo, 0, none⟩ = some (.int .i64 0) := K92.out.cell 19 0 rfl
            have y0 : X92.frozen? ⟨Bo, 0, none⟩ = false := K92.out.frozen 19 0 rfl
            have k1 : X92.cell? ⟨Bo, 1, none⟩ = some (.slice none 0 0) := K92.out.cell 19 1 rfl
            have y1 : X92.frozen? ⟨Bo, 1, none⟩ = false := K92.out.frozen 19 1 rfl
            refine wp_store_run (t := 24) (.tmp 15) (.tmp 68) rfl rfl rfl rfl (storeFormula k0 k1 y0 y1) ?_
            clear k0 k1 y0 y1
            have hp := ((K92.out.put (HX.out _) 19 0 rfl (.int .i64 j3v) rfl).put (HX.out _) 19 1 rfl (.slice Ao j3l.length co) rfl)
            have K93 : Aside0 (Sep w (fun _ => False) [fB Bf v1 (.slice A1 l1.length c1), fB Bg v2 (.slice A2 l2.length c2), fB B5 2 (.slice Au 4 cu), headA (.slice Awx nwx cwx) ((Tx ++ Mx).map LRow.shown), headA (.slice Arx nrx crx) (Tx.map LRow.all), dataA (Tx ++ Mx), headA (.slice Awy nwy cwy) ((Ty ++ My).map LRow.shown), headA (.slice Ary nry cry) (Ty.map LRow.all), dataA (Ty ++ My), xB Bx (.slice Awx l1.length cwx) (.slice Awx nwx cwx) (.slice Arx nrx crx), xB By (.slice Awy l2.length cwy) (.slice Awy nwy cwy) (.slice Ary nry cry), fB Bi v1 (.slice Awx l1.length cwx), fB Bj v2 (.slice Awy l2.length cwy), sC (.slice Aw j1l.length cw) j1l, fB Bw j1v (.slice Aw j1l.length cw), sC (.slice Ad j2l.length cd) j2l, fB Bd j2v (.slice Ad j2l.length cd), Asr.foot (fun W => Kd.C (Kd.slice 3 (Kd.int .i64)) W At l1.length (l1.map (List.map negw))), sC (.slice Ao j3l.length co) j3l, fB Bo j3v (.slice Ao j3l.length co)] ((X92.setCell ⟨Bo, 0, none⟩ (.int .i64 j3v)).setCell ⟨Bo, 1, none⟩ (.slice Ao j3l.length co))) := ⟨hp⟩
            clear hp K92
            generalize ((X92.setCell ⟨Bo, 0, none⟩ (.int .i64 j3v)).setCell ⟨Bo, 1, none⟩ (.slice Ao j3l.length co)) = X93 at K93 ⊢
            refine HK.out _ _ ⟨K93.out.cell 0 0 rfl, K93.out.cell 0 1 rfl, K93.out.cell 1 0 rfl, K93.out.cell 1 1 rfl⟩ ?_
            clear HK
            have hS0 : X93.cell? ⟨Bf, 0, none⟩ = some (.int .i64 v1) ∧ X93.cell? ⟨Bf, 1, none⟩ = some (.slice A1 l1.length c1) ∧ X93.cell? ⟨Bg, 0, none⟩ = some (.int .i64 v2) ∧ X93.cell? ⟨Bg, 1, none⟩ = some (.slice A2 l2.length c2) := ⟨K93.out.cell 0 0 rfl, K93.out.cell 0 1 rfl, K93.out.cell 1 0 rfl, K93.out.cell 1 1 rfl⟩
            refine wpAnyH_takeA (i := 9) (v := .int .i64 j3e) 16 rfl rfl (by kernel_rfl) (by kernel_rfl) (by kernel_rfl) (fun _ _ _ h => h) (.inl ⟨by rfl, fun W' hS => by obtain ⟨s0, s1, s2, s3⟩ := hS; go_simp⟩) hS0 ?_
            intro A' hA; simp at hA; subst hA
            clear hS0
            refine wpAnyH_done (by kernel_rfl) ?_ _
            go_wp2_with fail
            go_meet
            case rel => exact ⟨Bo, Ao, co, At, rfl, K93⟩
        · have HK := Aside0.mk hK
          clear hK
          go_simp
          have hp := K0.out.fillNew (HX.out _) 19 rfl (.cells #[.int .i64 0, .slice none 0 0] 24 (0, 0))
          generalize X0.alloc (.cells #[.int .i64 0, .slice none 0 0] 24) = X94 at hp ⊢
          generalize X0.heap.size = Bo at hp ⊢
          have K94 : Aside0 (Sep w (fun _ => False) [fB Bf v1 (.slice A1 l1.length c1), fB Bg v2 (.slice A2 l2.length c2), fB B5 2 (.slice Au 4 cu), headA (.slice Awx nwx cwx) ((Tx ++ Mx).map LRow.shown), headA (.slice Arx nrx crx) (Tx.map LRow.all), dataA (Tx ++ Mx), headA (.slice Awy nwy cwy) ((Ty ++ My).map LRow.shown), headA (.slice Ary nry cry) (Ty.map LRow.all), dataA (Ty ++ My), xB Bx (.slice Awx l1.length cwx) (.slice Awx nwx cwx) (.slice Arx nrx crx), xB By (.slice Awy l2.length cwy) (.slice Awy nwy cwy) (.slice Ary nry cry), fB Bi v1 (.slice Awx l1.length cwx), fB Bj v2 (.slice Awy l2.length cwy), sC (.slice Aw j1l.length cw) j1l, fB Bw j1v (.slice Aw j1l.length cw), sC (.slice Ad j2l.length cd) j2l, fB Bd j2v (.slice Ad j2l.length cd), .emp, .emp, fB Bo 0 (.slice none 0 0)] X94) := ⟨hp⟩
          clear hp K0
          refine HK.out _ _ ⟨K94.out.cell 0 0 rfl, K94.out.cell 0 1 rfl, K94.out.cell 1 0 rfl, K94.out.cell 1 1 rfl⟩ ?_
          clear HK
          refine wpAnyH_one (i := 1) (by kernel_rfl) rfl (by rfl) (fun K' hK => ?_)
          have HK := Aside0.mk hK
          clear hK
          go_simp
          refine (turned_calls v1 A1 c1 l1 _ (Kd.C_below HR1.out K94.out.hB) HC.out.1 (Nat.le_trans HB1.out.1 (by decide)) HB1.out.2).mono ?_
          rintro e X95 ⟨At, ct, rfl, hC, hc, hb⟩
          have hp := K94.out.fill 17 rfl hb (HX.out _) hC
          have HCT := Aside0.mk hc
          clear hC hb hc
          have K95 : Aside0 (Sep w (fun _ => False) [fB Bf v1 (.slice A1 l1.length c1), fB Bg v2 (.slice A2 l2.length c2), fB B5 2 (.slice Au 4 cu), headA (.slice Awx nwx cwx) ((Tx ++ Mx).map LRow.shown), headA (.slice Arx nrx crx) (Tx.map LRow.all), dataA (Tx ++ Mx), headA (.slice Awy nwy cwy) ((Ty ++ My).map LRow.shown), headA (.slice Ary nry cry) (Ty.map LRow.all), dataA (Ty ++ My), xB Bx (.slice Awx l1.length cwx) (.slice Awx nwx cwx) (.slice Arx nrx crx), xB By (.slice Awy l2.length cwy) (.slice Awy nwy cwy) (.slice Ary nry cry), fB Bi v1 (.slice Awx l1.length cwx), fB Bj v2 (.slice Awy l2.length cwy), sC (.slice Aw j1l.length cw) j1l, fB Bw j1v (.slice Aw j1l.length cw), sC (.slice Ad j2l.length cd) j2l, fB Bd j2v (.slice Ad j2l.length cd), Asr.foot (fun W => Kd.C (Kd.slice 3 (Kd.int .i64)) W At l1.length (l1.map (List.map negw))), .emp, fB Bo 0 (.slice none 0 0)] X95) := ⟨hp⟩
          clear K94
          refine HK.out _ _ ⟨K95.out.cell 0 0 rfl, K95.out.cell 0 1 rfl, K95.out.cell 1 0 rfl, K95.out.cell 1 1 rfl⟩ ?_
          clear HK
          refine wpAnyH_one (i := 3) (by kernel_rfl) rfl (by rfl) (fun K' hK => ?_)
          have HK := Aside0.mk hK
          clear hK
          go_simp
          refine (refJoin_n HJ3.out (List.length_map _).symm rfl At A2 ct c2 _ (foot_now (K95.out.get 17 rfl)) HCT.out (Kd.C_below HR2.out K95.out.hB) HC.out.2 (neg_sm HB1.out) HB2.out).mono ?_
          rintro e X96 ⟨Ao, co, rfl, hS, hb⟩
          have hp := K95.out.fill 18 rfl hb (HX.out _) hS
          clear hS hb
          have K96 : Aside0 (Sep w (fun _ => False) [fB Bf v1 (.slice A1 l1.length c1), fB Bg v2 (.slice A2 l2.length c2), fB B5 2 (.slice Au 4 cu), headA (.slice Awx nwx cwx) ((Tx ++ Mx).map LRow.shown), headA (.slice Arx nrx crx) (Tx.map LRow.all), dataA (Tx ++ Mx), headA (.slice Awy nwy cwy) ((Ty ++ My).map LRow.shown), headA (.slice Ary nry cry) (Ty.map LRow.all), dataA (Ty ++ My), xB Bx (.slice Awx l1.length cwx) (.slice Awx nwx cwx) (.slice Arx nrx crx), xB By (.slice Awy l2.length cwy) (.slice Awy nwy cwy) (.slice Ary nry cry), fB Bi v1 (.slice Awx l1.length cwx), fB Bj v2 (.slice Awy l2.length cwy), sC (.slice Aw j1l.length cw) j1l, fB Bw j1v (.slice Aw j1l.length cw), sC (.slice Ad j2l.length cd) j2l, fB Bd j2v (.slice Ad j2l.length cd), Asr.foot (fun W => Kd.C (Kd.slice 3 (Kd.int .i64)) W At l1.length (l1.map (List.map negw))), sC (.slice Ao j3l.length co) j3l, fB Bo 0 (.slice none 0 0)] X96) := ⟨hp⟩
          clear K95
          refine HK.out _ _ ⟨K96.out.cell 0 0 rfl, K96.out.cell 0 1 rfl, K96.out.cell 1 0 rfl, K96.out.cell 1 1 rfl⟩ ?_
          clear HK
          have hS0 : X96.cell? ⟨Bf, 0, none⟩ = some (.int .i64 v1) ∧ X96.cell? ⟨Bf, 1, none⟩ = some (.slice A1 l1.length c1) ∧ X96.cell? ⟨Bg, 0, none⟩ = some (.int .i64 v2) ∧ X96.cell? ⟨Bg, 1, none⟩ = some (.slice A2 l2.length c2) := ⟨K96.out.cell 0 0 rfl, K96.out.cell 0 1 rfl, K96.out.cell 1 0 rfl, K96.out.cell 1 1 rfl⟩
          refine wpAnyH_takeA (i := 4) (v := .tuple #[.agg #[.int .i64 j3v, .slice Ao j3l.length co], .int .i64 j3e]) 63 rfl rfl (by kernel_rfl) (by kernel_rfl) (by kernel_rfl) (fun _ _ _ h => h) (.inl ⟨by rfl, fun W' hS => by obtain ⟨s0, s1, s2, s3⟩ := hS; go_simp⟩) hS0 ?_
          intro A' hA; simp at hA; subst hA
          refine wpAnyH_takeA (i := 5) (v := .agg #[.int .i64 j3v, .slice Ao j3l.length co]) 68 rfl rfl (by kernel_rfl) (by kernel_rfl) (by kernel_rfl) (fun _ _ _ h => h) (.inl ⟨by rfl, fun W' hS => by obtain ⟨s0, s1, s2, s3⟩ := hS; go_simp⟩) hS0 ?_
          intro A' hA; simp at hA; subst hA
          refine wpAnyH_takeA (i := 6) (v := .int .i64 j3e) 69 rfl rfl (by kernel_rfl) (by kernel_rfl) (by kernel_rfl) (fun _ _ _ h => h) (.inl ⟨by rfl, fun W' hS => by obtain ⟨s0, s1, s2, s3⟩ := hS; go_simp⟩) hS0 ?_
          intro A' hA; simp at hA; subst hA
          clear hS0
          refine wpAnyH_one (i := 8) (by kernel_rfl) rfl (by rfl) (fun K' hK => ?_)
          have HK := Aside0.mk hK
          clear hK
          have k0 : X96.cell? ⟨Bo, 0, none⟩ = some (.int .i64 0) := K96.out.cell 19 0 rfl
          have y0 : X96.frozen? ⟨Bo, 0, none⟩ = false := K96.out.frozen 19 0 rfl
          have k1 : X96.cell? ⟨Bo, 1, none⟩ = some (.slice none 0 0) := K96.out.cell 19 1 rfl
          have y1 : X96.frozen? ⟨Bo, 1, none⟩ = false := K96.out.frozen 19 1 rfl
          refine wp_store_run (t := 24) (.tmp 15) (.tmp 68) rfl rfl rfl rfl (storeFormula k0 k1 y0 y1) ?_
          clear k0 k1 y0 y1
          have hp := ((K96.out.put (HX.out _) 19 0 rfl (.int .i64 j3v) rfl).put (HX.out _) 19 1 rfl (.slice Ao j3l.length co) rfl)
          have K97 : Aside0 (Sep w (fun _ => False) [fB Bf v1 (.slice A1 l1.length c1), fB Bg v2 (.slice A2 l2.length c2), fB B5 2 (.slice Au 4 cu), headA (.slice Awx nwx cwx) ((Tx ++ Mx).map LRow.shown), headA (.slice Arx nrx crx) (Tx.map LRow.all), dataA (Tx ++ Mx), headA (.slice Awy nwy cwy) ((Ty ++ My).map LRow.shown), headA (.slice Ary nry cry) (Ty.map LRow.all), dataA (Ty ++ My), xB Bx (.slice Awx l1.length cwx) (.slice Awx nwx cwx) (.slice Arx nrx crx), xB By (.slice Awy l2.length cwy) (.slice Awy nwy cwy) (.slice Ary nry cry), fB Bi v1 (.slice Awx l1.length cwx), fB Bj v2 (.slice Awy l2.length cwy), sC (.slice Aw j1l.length cw) j1l, fB Bw j1v (.slice Aw j1l.length cw), sC (.slice Ad j2l.length cd) j2l, fB Bd j2v (.slice Ad j2l.length cd), Asr.foot (fun W => Kd.C (Kd.slice 3 (Kd.int .i64)) W At l1.length (l1.map (List.map negw))), sC (.slice Ao j3l.length co) j3l, fB Bo j3v (.slice Ao j3l.length co)] ((X96.setCell ⟨Bo, 0, none⟩ (.int .i64 j3v)).setCell ⟨Bo, 1, none⟩ (.slice Ao j3l.length co))) := ⟨hp⟩
          clear hp K96
          generalize ((X96.setCell ⟨Bo, 0, none⟩ (.int .i64 j3v)).setCell ⟨Bo, 1, none⟩ (.slice Ao j3l.length co)) = X97 at K97 ⊢
          refine HK.out _ _ ⟨K97.out.cell 0 0 rfl, K97.out.cell 0 1 rfl, K97.out.cell 1 0 rfl, K97.out.cell 1 1 rfl⟩ ?_
          clear HK
          have hS0 : X97.cell? ⟨Bf, 0, none⟩ = some (.int .i64 v1) ∧ X97.cell? ⟨Bf, 1, none⟩ = some (.slice A1 l1.length c1) ∧ X97.cell? ⟨Bg, 0, none⟩ = some (.int .i64 v2) ∧ X97.cell? ⟨Bg, 1, none⟩ = some (.slice A2 l2.length c2) := ⟨K97.out.cell 0 0 rfl, K97.out.cell 0 1 rfl, K97.out.cell 1 0 rfl, K97.out.cell 1 1 rfl⟩
          refine wpAnyH_takeA (i := 9) (v := .int .i64 j3e) 16 rfl rfl (by kernel_rfl) (by kernel_rfl) (by kernel_rfl) (fun _ _ _ h => h) (.inl ⟨by rfl, fun W' hS => by obtain ⟨s0, s1, s2, s3⟩ := hS; go_simp⟩) hS0 ?_
          intro A' hA; simp at hA; subst hA
          clear hS0
          refine wpAnyH_done (by kernel_rfl) ?_ _
          go_wp2_with fail
          go_meet
          case rel => exact ⟨Bo, Ao, co, At, rfl, K97⟩
      case rest =>
        clear H86
        obtain ⟨Bo, Ao, co, At, rfl, H8⟩ := hcut
        generalize wc = W8 at H8 ⊢
        have q6 : W8.cell? ⟨Bi, 0, none⟩ = some (.int .i64 v1) := H8.out.cell 11 0 rfl
        have q7 : W8.cell? ⟨Bi, 1, none⟩ = some (.slice Awx l1.length cwx) := H8.out.cell 11 1 rfl
        have q8 : W8.cell? ⟨Bj, 0, none⟩ = some (.int .i64 v2) := H8.out.cell 12 0 rfl
        have q9 : W8.cell? ⟨Bj, 1, none⟩ = some (.slice Awy l2.length cwy) := H8.out.cell 12 1 rfl
        go_wp2_with (go_at_call 21; refine HoldU.out ?_)
        refine ⟨?_⟩
        clear q6 q7 q8 q9
        refine (joins_n HJ1.out rfl rfl Awx Awy cwx cwy _ (HFx.out.C H8.out 3 5 rfl rfl).1 (HFx.out.C H8.out 3 5 rfl rfl).2 (HFy.out.C H8.out 6 8 rfl rfl).1 (HFy.out.C H8.out 6 8 rfl rfl).2 HB1.out HB2.out).mono ?_
        rintro e W98 ⟨Aa, ca, rfl, hS, hb⟩
        have H99 : Aside0 (Sep w (fun _ => False) [fB Bf v1 (.slice A1 l1.length c1), fB Bg v2 (.slice A2 l2.length c2), fB B5 2 (.slice Au 4 cu), headA (.slice Awx nwx cwx) ((Tx ++ Mx).map LRow.shown), headA (.slice Arx nrx crx) (Tx.map LRow.all), dataA (Tx ++ Mx), headA (.slice Awy nwy cwy) ((Ty ++ My).map LRow.shown), headA (.slice Ary nry cry) (Ty.map LRow.all), dataA (Ty ++ My), xB Bx (.slice Awx l1.length cwx) (.slice Awx nwx cwx) (.slice Arx nrx crx), xB By (.slice Awy l2.length cwy) (.slice Awy nwy cwy) (.slice Ary nry cry), fB Bi v1 (.slice Awx l1.length cwx), fB Bj v2 (.slice Awy l2.length cwy), sC (.slice Aw j1l.length cw) j1l, fB Bw j1v (.slice Aw j1l.length cw), sC (.slice Ad j2l.length cd) j2l, fB Bd j2v (.slice Ad j2l.length cd), Asr.foot (fun W => Kd.C (Kd.slice 3 (Kd.int .i64)) W At l1.length (l1.map (List.map negw))), sC (.slice Ao j3l.length co) j3l, fB Bo j3v (.slice Ao j3l.length co), sC (.slice Aa j1l.length ca) j1l] W98) := ⟨H8.out.push hb (HX.out _) hS⟩
        clear H8
        clear hS hb
        go_upto_region 10 with fail
        have hp := H99.out.new (HX.out _) (.cells #[.int .i64 j1v, .slice Aa j1l.length ca] 24 (0, 0))
        generalize W98.alloc (.cells #[.int .i64 j1v, .slice Aa j1l.length ca] 24) = W100 at hp ⊢
        generalize W98.heap.size = Ba at hp ⊢
        have H101 : Aside0 (Sep w (fun _ => False) [fB Bf v1 (.slice A1 l1.length c1), fB Bg v2 (.slice A2 l2.length c2), fB B5 2 (.slice Au 4 cu), headA (.slice Awx nwx cwx) ((Tx ++ Mx).map LRow.shown), headA (.slice Arx nrx crx) (Tx.map LRow.all), dataA (Tx ++ Mx), headA (.slice Awy nwy cwy) ((Ty ++ My).map LRow.shown), headA (.slice Ary nry cry) (Ty.map LRow.all), dataA (Ty ++ My), xB Bx (.slice Awx l1.length cwx) (.slice Awx nwx cwx) (.slice Arx nrx crx), xB By (.slice Awy l2.length cwy) (.slice Awy nwy cwy) (.slice Ary nry cry), fB Bi v1 (.slice Awx l1.length cwx), fB Bj v2 (.slice Awy l2.length cwy), sC (.slice Aw j1l.length cw) j1l, fB Bw j1v (.slice Aw j1l.length cw), sC (.slice Ad j2l.length cd) j2l, fB Bd j2v (.slice Ad j2l.length cd), Asr.foot (fun W => Kd.C (Kd.slice 3 (Kd.int .i64)) W At l1.length (l1.map (List.map negw))), sC (.slice Ao j3l.length co) j3l, fB Bo j3v (.slice Ao j3l.length co), sC (.slice Aa j1l.length ca) j1l, fB Ba j1v (.slice Aa j1l.length ca)] W100) := ⟨hp⟩
        clear H99
        clear hp
        have q10 : W100.cell? ⟨Bi, 0, none⟩ = some (.int .i64 v1) := H101.out.cell 11 0 rfl
        have q11 : W100.cell? ⟨Bi, 1, none⟩ = some (.slice Awx l1.length cwx) := H101.out.cell 11 1 rfl
        have q12 : W100.cell? ⟨Bj, 0, none⟩ = some (.int .i64 v2) := H101.out.cell 12 0 rfl
        have q13 : W100.cell? ⟨Bj, 1, none⟩ = some (.slice Awy l2.length cwy) := H101.out.cell 12 1 rfl
        go_wp2_with (go_at_call 21; refine HoldU.out ?_)
        refine ⟨?_⟩
        clear q10 q11 q12 q13
        refine (joins_n HJ1.out rfl rfl Awx Awy cwx cwy _ (HFx.out.C H101.out 3 5 rfl rfl).1 (HFx.out.C H101.out 3 5 rfl rfl).2 (HFy.out.C H101.out 6 8 rfl rfl).1 (HFy.out.C H101.out 6 8 rfl rfl).2 HB1.out HB2.out).mono ?_
        rintro e W102 ⟨Ab, cb, rfl, hS, hb⟩
        have H103 : Aside0 (Sep w (fun _ => False) [fB Bf v1 (.slice A1 l1.length c1), fB Bg v2 (.slice A2 l2.length c2), fB B5 2 (.slice Au 4 cu), headA (.slice Awx nwx cwx) ((Tx ++ Mx).map LRow.shown), headA (.slice Arx nrx crx) (Tx.map LRow.all), dataA (Tx ++ Mx), headA (.slice Awy nwy cwy) ((Ty ++ My).map LRow.shown), headA (.slice Ary nry cry) (Ty.map LRow.all), dataA (Ty ++ My), xB Bx (.slice Awx l1.length cwx) (.slice Awx nwx cwx) (.slice Arx nrx crx), xB By (.slice Awy l2.length cwy) (.slice Awy nwy cwy) (.slice Ary nry cry), fB Bi v1 (.slice Awx l1.length cwx), fB Bj v2 (.slice Awy l2.length cwy), sC (.slice Aw j1l.length cw) j1l, fB Bw j1v (.slice Aw j1l.length cw), sC (.slice Ad j2l.length cd) j2l, fB Bd j2v (.slice Ad j2l.length cd), Asr.foot (fun W => Kd.C (Kd.slice 3 (Kd.int .i64)) W At l1.length (l1.map (List.map negw))), sC (.slice Ao j3l.length co) j3l, fB Bo j3v (.slice Ao j3l.length co), sC (.slice Aa j1l.length ca) j1l, fB Ba j1v (.slice Aa j1l.length ca), sC (.slice Ab j1l.length cb) j1l] W102) := ⟨H101.out.push hb (HX.out _) hS⟩
        clear H101
        clear hS hb
        go_upto_region 11 with fail
        have hp := H103.out.new (HX.out _) (.cells #[.int .i64 j1v, .slice Ab j1l.length cb] 24 (0, 0))
        generalize W102.alloc (.cells #[.int .i64 j1v, .slice Ab j1l.length cb] 24) = W104 at hp ⊢
        generalize W102.heap.size = Bb at hp ⊢
        have H105 : Aside0 (Sep w (fun _ => False) [fB Bf v1 (.slice A1 l1.length c1), fB Bg v2 (.slice A2 l2.length c2), fB B5 2 (.slice Au 4 cu), headA (.slice Awx nwx cwx) ((Tx ++ Mx).map LRow.shown), headA (.slice Arx nrx crx) (Tx.map LRow.all), dataA (Tx ++ Mx), headA (.slice Awy nwy cwy) ((Ty ++ My).map LRow.shown), headA (.slice Ary nry cry) (Ty.map LRow.all), dataA (Ty ++ My), xB Bx (.slice Awx l1.length cwx) (.slice Awx nwx cwx) (.slice Arx nrx crx), xB By (.slice Awy l2.length cwy) (.slice Awy nwy cwy) (.slice Ary nry cry), fB Bi v1 (.slice Awx l1.length cwx), fB Bj v2 (.slice Awy l2.length cwy), sC (.slice Aw j1l.length cw) j1l, fB Bw j1v (.slice Aw j1l.length cw), sC (.slice Ad j2l.length cd) j2l, fB Bd j2v (.slice Ad j2l.length cd), Asr.foot (fun W => Kd.C (Kd.slice 3 (Kd.int .i64)) W At l1.length (l1.map (List.map negw))), sC (.slice Ao j3l.length co) j3l, fB Bo j3v (.slice Ao j3l.length co), sC (.slice Aa j1l.length ca) j1l, fB Ba j1v (.slice Aa j1l.length ca), sC (.slice Ab j1l.length cb) j1l, fB Bb j1v (.slice Ab j1l.length cb)] W104) := ⟨hp⟩
        clear H103
        clear hp
        have q14 : W104.cell? ⟨Bi, 0, none⟩ = some (.int .i64 v1) := H105.out.cell 11 0 rfl
        have q15 : W104.cell? ⟨Bi, 1, none⟩ = some (.slice Awx l1.length cwx) := H105.out.cell 11 1 rfl
        go_wp2_with (go_at_call 21; refine HoldU.out ?_)
        refine ⟨?_⟩
        clear q14 q15
        refine (joins_n HJ2.out rfl rfl Awx Awx cwx cwx _ (HFx.out.C H105.out 3 5 rfl rfl).1 (HFx.out.C H105.out 3 5 rfl rfl).2 (HFx.out.C H105.out 3 5 rfl rfl).1 (HFx.out.C H105.out 3 5 rfl rfl).2 HB1.out HB1.out).mono ?_
        rintro e W106 ⟨At2, ct2, rfl, hS, hb⟩
        have H107 : Aside0 (Sep w (fun _ => False) [fB Bf v1 (.slice A1 l1.length c1), fB Bg v2 (.slice A2 l2.length c2), fB B5 2 (.slice Au 4 cu), headA (.slice Awx nwx cwx) ((Tx ++ Mx).map LRow.shown), headA (.slice Arx nrx crx) (Tx.map LRow.all), dataA (Tx ++ Mx), headA (.slice Awy nwy cwy) ((Ty ++ My).map LRow.shown), headA (.slice Ary nry cry) (Ty.map LRow.all), dataA (Ty ++ My), xB Bx (.slice Awx l1.length cwx) (.slice Awx nwx cwx) (.slice Arx nrx crx), xB By (.slice Awy l2.length cwy) (.slice Awy nwy cwy) (.slice Ary nry cry), fB Bi v1 (.slice Awx l1.length cwx), fB Bj v2 (.slice Awy l2.length cwy), sC (.slice Aw j1l.length cw) j1l, fB Bw j1v (.slice Aw j1l.length cw), sC (.slice Ad j2l.length cd) j2l, fB Bd j2v (.slice Ad j2l.length cd), Asr.foot (fun W => Kd.C (Kd.slice 3 (Kd.int .i64)) W At l1.length (l1.map (List.map negw))), sC (.slice Ao j3l.length co) j3l, fB Bo j3v (.slice Ao j3l.length co), sC (.slice Aa j1l.length ca) j1l, fB Ba j1v (.slice Aa j1l.length ca), sC (.slice Ab j1l.length cb) j1l, fB Bb j1v (.slice Ab j1l.length cb), sC (.slice At2 j2l.length ct2) j2l] W106) := ⟨H105.out.push hb (HX.out _) hS⟩
        clear H105
        clear hS hb
        go_upto_region 12 with fail
        have hp := H107.out.new (HX.out _) (.cells #[.int .i64 j2v, .slice At2 j2l.length ct2] 24 (0, 0))
        generalize W106.alloc (.cells #[.int .i64 j2v, .slice At2 j2l.length ct2] 24) = W108 at hp ⊢
        generalize W106.heap.size = Bt at hp ⊢
        have H109 : Aside0 (Sep w (fun _ => False) [fB Bf v1 (.slice A1 l1.length c1), fB Bg v2 (.slice A2 l2.length c2), fB B5 2 (.slice Au 4 cu), headA (.slice Awx nwx cwx) ((Tx ++ Mx).map LRow.shown), headA (.slice Arx nrx crx) (Tx.map LRow.all), dataA (Tx ++ Mx), headA (.slice Awy nwy cwy) ((Ty ++ My).map LRow.shown), headA (.slice Ary nry cry) (Ty.map LRow.all), dataA (Ty ++ My), xB Bx (.slice Awx l1.length cwx) (.slice Awx nwx cwx) (.slice Arx nrx crx), xB By (.slice Awy l2.length cwy) (.slice Awy nwy cwy) (.slice Ary nry cry), fB Bi v1 (.slice Awx l1.length cwx), fB Bj v2 (.slice Awy l2.length cwy), sC (.slice Aw j1l.length cw) j1l, fB Bw j1v (.slice Aw j1l.length cw), sC (.slice Ad j2l.length cd) j2l, fB Bd j2v (.slice Ad j2l.length cd), Asr.foot (fun W => Kd.C (Kd.slice 3 (Kd.int .i64)) W At l1.length (l1.map (List.map negw))), sC (.slice Ao j3l.length co) j3l, fB Bo j3v (.slice Ao j3l.length co), sC (.slice Aa j1l.length ca) j1l, fB Ba j1v (.slice Aa j1l.length ca), sC (.slice Ab j1l.length cb) j1l, fB Bb j1v (.slice Ab j1l.length cb), sC (.slice At2 j2l.length ct2) j2l, fB Bt j2v (.slice At2 j2l.length ct2)] W108) := ⟨hp⟩
        clear H107
        clear hp
        have q16 : W108.cell? ⟨Bx, 0, none⟩ = some (.slice Awx l1.length cwx) := H109.out.cell 9 0 rfl
        have q17 : W108.cell? ⟨Bx, 1, none⟩ = some (.slice Awx nwx cwx) := H109.out.cell 9 1 rfl
        have q18 : W108.cell? ⟨Bx, 2, none⟩ = some (.slice Arx nrx crx) := H109.out.cell 9 2 rfl
        have q19 : W108.cell? ⟨Bf, 1, none⟩ = some (.slice A1 l1.length c1) := H109.out.cell 0 1 rfl
        go_wp2_with (go_at_call 26; refine HoldU.out ?_)
        refine ⟨?_⟩
        clear q16 q17 q18 q19
        refine (HFx.out.kept H109.out 3 4 5 rfl rfl rfl (Kd.C_below HR1.out H109.out.hB) HC.out.1 HB1.out).mono ?_
        rintro e W110 ⟨rfl, hb⟩
        have H111 : Aside0 (Sep w (fun _ => False) [fB Bf v1 (.slice A1 l1.length c1), fB Bg v2 (.slice A2 l2.length c2), fB B5 2 (.slice Au 4 cu), headA (.slice Awx nwx cwx) ((Tx ++ Mx).map LRow.shown), headA (.slice Arx nrx crx) (Tx.map LRow.all), dataA (Tx ++ Mx), headA (.slice Awy nwy cwy) ((Ty ++ My).map LRow.shown), headA (.slice Ary nry cry) (Ty.map LRow.all), dataA (Ty ++ My), xB Bx (.slice Awx l1.length cwx) (.slice Awx nwx cwx) (.slice Arx nrx crx), xB By (.slice Awy l2.length cwy) (.slice Awy nwy cwy) (.slice Ary nry cry), fB Bi v1 (.slice Awx l1.length cwx), fB Bj v2 (.slice Awy l2.length cwy), sC (.slice Aw j1l.length cw) j1l, fB Bw j1v (.slice Aw j1l.length cw), sC (.slice Ad j2l.length cd) j2l, fB Bd j2v (.slice Ad j2l.length cd), Asr.foot (fun W => Kd.C (Kd.slice 3 (Kd.int .i64)) W At l1.length (l1.map (List.map negw))), sC (.slice Ao j3l.length co) j3l, fB Bo j3v (.slice Ao j3l.length co), sC (.slice Aa j1l.length ca) j1l, fB Ba j1v (.slice Aa j1l.length ca), sC (.slice Ab j1l.length cb) j1l, fB Bb j1v (.slice Ab j1l.length cb), sC (.slice At2 j2l.length ct2) j2l, fB Bt j2v (.slice At2 j2l.length ct2)] W110) := ⟨H109.out.keep hb⟩
        clear H109
        clear hb
        have q20 : W110.cell? ⟨By, 0, none⟩ = some (.slice Awy l2.length cwy) := H111.out.cell 10 0 rfl
        have q21 : W110.cell? ⟨By, 1, none⟩ = some (.slice Awy nwy cwy) := H111.out.cell 10 1 rfl
        have q22 : W110.cell? ⟨By, 2, none⟩ = some (.slice Ary nry cry) := H111.out.cell 10 2 rfl
        have q23 : W110.cell? ⟨Bg, 1, none⟩ = some (.slice A2 l2.length c2) := H111.out.cell 1 1 rfl
        go_wp2_with (go_at_call 26; refine HoldU.out ?_)
        refine ⟨?_⟩
        clear q20 q21 q22 q23
        refine (HFy.out.kept H111.out 6 7 8 rfl rfl rfl (Kd.C_below HR2.out H111.out.hB) HC.out.2 HB2.out).mono ?_
        rintro e W112 ⟨rfl, hb⟩
        have H113 : Aside0 (Sep w (fun _ => False) [fB Bf v1 (.slice A1 l1.length c1), fB Bg v2 (.slice A2 l2.length c2), fB B5 2 (.slice Au 4 cu), headA (.slice Awx nwx cwx) ((Tx ++ Mx).map LRow.shown), headA (.slice Arx nrx crx) (Tx.map LRow.all), dataA (Tx ++ Mx), headA (.slice Awy nwy cwy) ((Ty ++ My).map LRow.shown), headA (.slice Ary nry cry) (Ty.map LRow.all), dataA (Ty ++ My), xB Bx (.slice Awx l1.length cwx) (.slice Awx nwx cwx) (.slice Arx nrx crx), xB By (.slice Awy l2.length cwy) (.slice Awy nwy cwy) (.slice Ary nry cry), fB Bi v1 (.slice Awx l1.length cwx), fB Bj v2 (.slice Awy l2.length cwy), sC (.slice Aw j1l.length cw) j1l, fB Bw j1v (.slice Aw j1l.length cw), sC (.slice Ad j2l.length cd) j2l, fB Bd j2v (.slice Ad j2l.length cd), Asr.foot (fun W => Kd.C (Kd.slice 3 (Kd.int .i64)) W At l1.length (l1.map (List.map negw))), sC (.slice Ao j3l.length co) j3l, fB Bo j3v (.slice Ao j3l.length co), sC (.slice Aa j1l.length ca) j1l, fB Ba j1v (.slice Aa j1l.length ca), sC (.slice Ab j1l.length cb) j1l, fB Bb j1v (.slice Ab j1l.length cb), sC (.slice At2 j2l.length ct2) j2l, fB Bt j2v (.slice At2 j2l.length ct2)] W112) := ⟨H111.out.keep hb⟩
        clear H111
        clear hb
        have q24 : W112.cell? ⟨Bi, 0, none⟩ = some (.int .i64 v1) := H113.out.cell 11 0 rfl
        have q25 : W112.cell? ⟨Bi, 1, none⟩ = some (.slice Awx l1.length cwx) := H113.out.cell 11 1 rfl
        have q26 : W112.cell? ⟨Bj, 0, none⟩ = some (.int .i64 v2) := H113.out.cell 12 0 rfl
        have q27 : W112.cell? ⟨Bj, 1, none⟩ = some (.slice Awy l2.length cwy) := H113.out.cell 12 1 rfl
        go_wp2_with (go_at_call 21; refine HoldU.out ?_)
        refine ⟨?_⟩
        clear q24 q25 q26 q27
        refine (joins_n HJ1.out rfl rfl Awx Awy cwx cwy _ (HFx.out.C H113.out 3 5 rfl rfl).1 (HFx.out.C H113.out 3 5 rfl rfl).2 (HFy.out.C H113.out 6 8 rfl rfl).1 (HFy.out.C H113.out 6 8 rfl rfl).2 HB1.out HB2.out).mono ?_
        rintro e W114 ⟨Au2, cu2, rfl, hS, hb⟩
        have H115 : Aside0 (Sep w (fun _ => False) [fB Bf v1 (.slice A1 l1.length c1), fB Bg v2 (.slice A2 l2.length c2), fB B5 2 (.slice Au 4 cu), headA (.slice Awx nwx cwx) ((Tx ++ Mx).map LRow.shown), headA (.slice Arx nrx crx) (Tx.map LRow.all), dataA (Tx ++ Mx), headA (.slice Awy nwy cwy) ((Ty ++ My).map LRow.shown), headA (.slice Ary nry cry) (Ty.map LRow.all), dataA (Ty ++ My), xB Bx (.slice Awx l1.length cwx) (.slice Awx nwx cwx) (.slice Arx nrx crx), xB By (.slice Awy l2.length cwy) (.slice Awy nwy cwy) (.slice Ary nry cry), fB Bi v1 (.slice Awx l1.length cwx), fB Bj v2 (.slice Awy l2.length cwy), sC (.slice Aw j1l.length cw) j1l, fB Bw j1v (.slice Aw j1l.length cw), sC (.slice Ad j2l.length cd) j2l, fB Bd j2v (.slice Ad j2l.length cd), Asr.foot (fun W => Kd.C (Kd.slice 3 (Kd.int .i64)) W At l1.length (l1.map (List.map negw))), sC (.slice Ao j3l.length co) j3l, fB Bo j3v (.slice Ao j3l.length co), sC (.slice Aa j1l.length ca) j1l, fB Ba j1v (.slice Aa j1l.length ca), sC (.slice Ab j1l.length cb) j1l, fB Bb j1v (.slice Ab j1l.length cb), sC (.slice At2 j2l.length ct2) j2l, fB Bt j2v (.slice At2 j2l.length ct2), sC (.slice Au2 j1l.length cu2) j1l] W114) := ⟨H113.out.push hb (HX.out _) hS⟩
        clear H113
        clear hS hb
        go_upto_region 15 with fail
        have hp := H115.out.new (HX.out _) (.cells #[.int .i64 j1v, .slice Au2 j1l.length cu2] 24 (0, 0))
        generalize W114.alloc (.cells #[.int .i64 j1v, .slice Au2 j1l.length cu2] 24) = W116 at hp ⊢
        generalize W114.heap.size = Bu at hp ⊢
        have H117 : Aside0 (Sep w (fun _ => False) [fB Bf v1 (.slice A1 l1.length c1), fB Bg v2 (.slice A2 l2.length c2), fB B5 2 (.slice Au 4 cu), headA (.slice Awx nwx cwx) ((Tx ++ Mx).map LRow.shown), headA (.slice Arx nrx crx) (Tx.map LRow.all), dataA (Tx ++ Mx), headA (.slice Awy nwy cwy) ((Ty ++ My).map LRow.shown), headA (.slice Ary nry cry) (Ty.map LRow.all), dataA (Ty ++ My), xB Bx (.slice Awx l1.length cwx) (.slice Awx nwx cwx) (.slice Arx nrx crx), xB By (.slice Awy l2.length cwy) (.slice Awy nwy cwy) (.slice Ary nry cry), fB Bi v1 (.slice Awx l1.length cwx), fB Bj v2 (.slice Awy l2.length cwy), sC (.slice Aw j1l.length cw) j1l, fB Bw j1v (.slice Aw j1l.length cw), sC (.slice Ad j2l.length cd) j2l, fB Bd j2v (.slice Ad j2l.length cd), Asr.foot (fun W => Kd.C (Kd.slice 3 (Kd.int .i64)) W At l1.length (l1.map (List.map negw))), sC (.slice Ao j3l.length co) j3l, fB Bo j3v (.slice Ao j3l.length co), sC (.slice Aa j1l.length ca) j1l, fB Ba j1v (.slice Aa j1l.length ca), sC (.slice Ab j1l.length cb) j1l, fB Bb j1v (.slice Ab j1l.length cb), sC (.slice At2 j2l.length ct2) j2l, fB Bt j2v (.slice At2 j2l.length ct2), sC (.slice Au2 j1l.length cu2) j1l, fB Bu j1v (.slice Au2 j1l.length cu2)] W116) := ⟨hp⟩
        clear H115
        clear hp
        have q28 : W116.cell? ⟨Bx, 0, none⟩ = some (.slice Awx l1.length cwx) := H117.out.cell 9 0 rfl
        go_wp2_with (go_at_call 27; refine HoldU.out ?_)
        refine ⟨?_⟩
        clear q28
        have HKK := Aside0.mk (data_k H117.out 5 rfl)
        refine (turn_calls H117.out (HX.out _) 3 5 (by decide) rfl rfl l1.length HFx.out.le ⟨Nat.le_trans HB1.out.1 (by decide), HFx.out.ks H117.out 5 rfl HB1.out⟩).mono ?_
        rintro e W118 ⟨rfl, hs⟩
        have H119 : Aside0 (Sep w (fun _ => False) [fB Bf v1 (.slice A1 l1.length c1), fB Bg v2 (.slice A2 l2.length c2), fB B5 2 (.slice Au 4 cu), headA (.slice Awx nwx cwx) ((Tx ++ Mx).map LRow.shown), headA (.slice Arx nrx crx) (Tx.map LRow.all), dataA (turnAt l1.length 0 (Tx ++ Mx)), headA (.slice Awy nwy cwy) ((Ty ++ My).map LRow.shown), headA (.slice Ary nry cry) (Ty.map LRow.all), dataA (Ty ++ My), xB Bx (.slice Awx l1.length cwx) (.slice Awx nwx cwx) (.slice Arx nrx crx), xB By (.slice Awy l2.length cwy) (.slice Awy nwy cwy) (.slice Ary nry cry), fB Bi v1 (.slice Awx l1.length cwx), fB Bj v2 (.slice Awy l2.length cwy), sC (.slice Aw j1l.length cw) j1l, fB Bw j1v (.slice Aw j1l.length cw), sC (.slice Ad j2l.length cd) j2l, fB Bd j2v (.slice Ad j2l.length cd), Asr.foot (fun W => Kd.C (Kd.slice 3 (Kd.int .i64)) W At l1.length (l1.map (List.map negw))), sC (.slice Ao j3l.length co) j3l, fB Bo j3v (.slice Ao j3l.length co), sC (.slice Aa j1l.length ca) j1l, fB Ba j1v (.slice Aa j1l.length ca), sC (.slice Ab j1l.length cb) j1l, fB Bb j1v (.slice Ab j1l.length cb), sC (.slice At2 j2l.length ct2) j2l, fB Bt j2v (.slice At2 j2l.length ct2), sC (.slice Au2 j1l.length cu2) j1l, fB Bu j1v (.slice Au2 j1l.length cu2)] W118) := ⟨hs⟩
        clear H117
        clear hs
        have q29 : W118.cell? ⟨Bi, 0, none⟩ = some (.int .i64 v1) := H119.out.cell 11 0 rfl
        have q30 : W118.cell? ⟨Bi, 1, none⟩ = some (.slice Awx l1.length cwx) := H119.out.cell 11 1 rfl
        have q31 : W118.cell? ⟨Bj, 0, none⟩ = some (.int .i64 v2) := H119.out.cell 12 0 rfl
        have q32 : W118.cell? ⟨Bj, 1, none⟩ = some (.slice Awy l2.length cwy) := H119.out.cell 12 1 rfl
        go_wp2_with (go_at_call 21; refine HoldU.out ?_)
        refine ⟨?_⟩
        clear q29 q30 q31 q32
        refine (joins_n HJ3.out (List.length_map _).symm rfl Awx Awy cwx cwy _ (HFx.out.CT H119.out 3 5 rfl rfl HKK.out).1 (HFx.out.CT H119.out 3 5 rfl rfl HKK.out).2 (HFy.out.C H119.out 6 8 rfl rfl).1 (HFy.out.C H119.out 6 8 rfl rfl).2 (neg_sm HB1.out) HB2.out).mono ?_
        rintro e W120 ⟨Av, cv, rfl, hS, hb⟩
        have H121 : Aside0 (Sep w (fun _ => False) [fB Bf v1 (.slice A1 l1.length c1), fB Bg v2 (.slice A2 l2.length c2), fB B5 2 (.slice Au 4 cu), headA (.slice Awx nwx cwx) ((Tx ++ Mx).map LRow.shown), headA (.slice Arx nrx crx) (Tx.map LRow.all), dataA (turnAt l1.length 0 (Tx ++ Mx)), headA (.slice Awy nwy cwy) ((Ty ++ My).map LRow.shown), headA (.slice Ary nry cry) (Ty.map LRow.all), dataA (Ty ++ My), xB Bx (.slice Awx l1.length cwx) (.slice Awx nwx cwx) (.slice Arx nrx crx), xB By (.slice Awy l2.length cwy) (.slice Awy nwy cwy) (.slice Ary nry cry), fB Bi v1 (.slice Awx l1.length cwx), fB Bj v2 (.slice Awy l2.length cwy), sC (.slice Aw j1l.length cw) j1l, fB Bw j1v (.slice Aw j1l.length cw), sC (.slice Ad j2l.length cd) j2l, fB Bd j2v (.slice Ad j2l.length cd), Asr.foot (fun W => Kd.C (Kd.slice 3 (Kd.int .i64)) W At l1.length (l1.map (List.map negw))), sC (.slice Ao j3l.length co) j3l, fB Bo j3v (.slice Ao j3l.length co), sC (.slice Aa j1l.length ca) j1l, fB Ba j1v (.slice Aa j1l.length ca), sC (.slice Ab j1l.length cb) j1l, fB Bb j1v (.slice Ab j1l.length cb), sC (.slice At2 j2l.length ct2) j2l, fB Bt j2v (.slice At2 j2l.length ct2), sC (.slice Au2 j1l.length cu2) j1l, fB Bu j1v (.slice Au2 j1l.length cu2), sC (.slice Av j3l.length cv) j3l] W120) := ⟨H119.out.push hb (HX.out _) hS⟩
        clear H119
        clear hS hb
        go_upto_region 17 with fail
        have hp := H121.out.new (HX.out _) (.cells #[.int .i64 j3v, .slice Av j3l.length cv] 24 (0, 0))
        generalize W120.alloc (.cells #[.int .i64 j3v, .slice Av j3l.length cv] 24) = W122 at hp ⊢
        generalize W120.heap.size = Bv at hp ⊢
        have H123 : Aside0 (Sep w (fun _ => False) [fB Bf v1 (.slice A1 l1.length c1), fB Bg v2 (.slice A2 l2.length c2), fB B5 2 (.slice Au 4 cu), headA (.slice Awx nwx cwx) ((Tx ++ Mx).map LRow.shown), headA (.slice Arx nrx crx) (Tx.map LRow.all), dataA (turnAt l1.length 0 (Tx ++ Mx)), headA (.slice Awy nwy cwy) ((Ty ++ My).map LRow.shown), headA (.slice Ary nry cry) (Ty.map LRow.all), dataA (Ty ++ My), xB Bx (.slice Awx l1.length cwx) (.slice Awx nwx cwx) (.slice Arx nrx crx), xB By (.slice Awy l2.length cwy) (.slice Awy nwy cwy) (.slice Ary nry cry), fB Bi v1 (.slice Awx l1.length cwx), fB Bj v2 (.slice Awy l2.length cwy), sC (.slice Aw j1l.length cw) j1l, fB Bw j1v (.slice Aw j1l.length cw), sC (.slice Ad j2l.length cd) j2l, fB Bd j2v (.slice Ad j2l.length cd), Asr.foot (fun W => Kd.C (Kd.slice 3 (Kd.int .i64)) W At l1.length (l1.map (List.map negw))), sC (.slice Ao j3l.length co) j3l, fB Bo j3v (.slice Ao j3l.length co), sC (.slice Aa j1l.length ca) j1l, fB Ba j1v (.slice Aa j1l.length ca), sC (.slice Ab j1l.length cb) j1l, fB Bb j1v (.slice Ab j1l.length cb), sC (.slice At2 j2l.length ct2) j2l, fB Bt j2v (.slice At2 j2l.length ct2), sC (.slice Au2 j1l.length cu2) j1l, fB Bu j1v (.slice Au2 j1l.length cu2), sC (.slice Av j3l.length cv) j3l, fB Bv j3v (.slice Av j3l.length cv)] W122) := ⟨hp⟩
        clear H121
        clear hp
        have q33 : W122.cell? ⟨Bx, 0, none⟩ = some (.slice Awx l1.length cwx) := H123.out.cell 9 0 rfl
        have q34 : W122.cell? ⟨Bx, 1, none⟩ = some (.slice Awx nwx cwx) := H123.out.cell 9 1 rfl
        have q35 : W122.cell? ⟨Bx, 2, none⟩ = some (.slice Arx nrx crx) := H123.out.cell 9 2 rfl
        go_wp2_with (go_at_call 28; refine HoldU.out ?_)
        refine ⟨?_⟩
        clear q33 q34 q35
        refine (overRows_calls H123.out (HX.out _) 3 4 5 (by decide) (by decide) (by decide) rfl rfl rfl (likeD_turn Tx Mx _) Awx l1.length cwx (HFx.out.big HB1.out).1 (HFx.out.big HB1.out).2.1 (HFx.out.big HB1.out).2.2).mono ?_
        rintro e W124 ⟨rfl, hs⟩
        have H125 : Aside0 (Sep w (fun _ => False) [fB Bf v1 (.slice A1 l1.length c1), fB Bg v2 (.slice A2 l2.length c2), fB B5 2 (.slice Au 4 cu), .emp, .emp, .emp, headA (.slice Awy nwy cwy) ((Ty ++ My).map LRow.shown), headA (.slice Ary nry cry) (Ty.map LRow.all), dataA (Ty ++ My), xB Bx (.slice Awx l1.length cwx) (.slice Awx nwx cwx) (.slice Arx nrx crx), xB By (.slice Awy l2.length cwy) (.slice Awy nwy cwy) (.slice Ary nry cry), fB Bi v1 (.slice Awx l1.length cwx), fB Bj v2 (.slice Awy l2.length cwy), sC (.slice Aw j1l.length cw) j1l, fB Bw j1v (.slice Aw j1l.length cw), sC (.slice Ad j2l.length cd) j2l, fB Bd j2v (.slice Ad j2l.length cd), Asr.foot (fun W => Kd.C (Kd.slice 3 (Kd.int .i64)) W At l1.length (l1.map (List.map negw))), sC (.slice Ao j3l.length co) j3l, fB Bo j3v (.slice Ao j3l.length co), sC (.slice Aa j1l.length ca) j1l, fB Ba j1v (.slice Aa j1l.length ca), sC (.slice Ab j1l.length cb) j1l, fB Bb j1v (.slice Ab j1l.length cb), sC (.slice At2 j2l.length ct2) j2l, fB Bt j2v (.slice At2 j2l.length ct2), sC (.slice Au2 j1l.length cu2) j1l, fB Bu j1v (.slice Au2 j1l.length cu2), sC (.slice Av j3l.length cv) j3l, fB Bv j3v (.slice Av j3l.length cv)] W124) := ⟨hs⟩
        clear H123
        clear hs
        have q36 : W124.cell? ⟨By, 0, none⟩ = some (.slice Awy l2.length cwy) := H125.out.cell 10 0 rfl
        have q37 : W124.cell? ⟨By, 1, none⟩ = some (.slice Awy nwy cwy) := H125.out.cell 10 1 rfl
        have q38 : W124.cell? ⟨By, 2, none⟩ = some (.slice Ary nry cry) := H125.out.cell 10 2 rfl
        go_wp2_with (go_at_call 28; refine HoldU.out ?_)
        refine ⟨?_⟩
        clear q36 q37 q38
        refine (overRows_calls H125.out (HX.out _) 6 7 8 (by decide) (by decide) (by decide) rfl rfl rfl (likeD_left Ty My) Awy l2.length cwy (HFy.out.big HB2.out).1 (HFy.out.big HB2.out).2.1 (HFy.out.big HB2.out).2.2).mono ?_
        rintro e W126 ⟨rfl, hs⟩
        have H127 : Aside0 (Sep w (fun _ => False) [fB Bf v1 (.slice A1 l1.length c1), fB Bg v2 (.slice A2 l2.length c2), fB B5 2 (.slice Au 4 cu), .emp, .emp, .emp, .emp, .emp, .emp, xB Bx (.slice Awx l1.length cwx) (.slice Awx nwx cwx) (.slice Arx nrx crx), xB By (.slice Awy l2.length cwy) (.slice Awy nwy cwy) (.slice Ary nry cry), fB Bi v1 (.slice Awx l1.length cwx), fB Bj v2 (.slice Awy l2.length cwy), sC (.slice Aw j1l.length cw) j1l, fB Bw j1v (.slice Aw j1l.length cw), sC (.slice Ad j2l.length cd) j2l, fB Bd j2v (.slice Ad j2l.length cd), Asr.foot (fun W => Kd.C (Kd.slice 3 (Kd.int .i64)) W At l1.length (l1.map (List.map negw))), sC (.slice Ao j3l.length co) j3l, fB Bo j3v (.slice Ao j3l.length co), sC (.slice Aa j1l.length ca) j1l, fB Ba j1v (.slice Aa j1l.length ca), sC (.slice Ab j1l.length cb) j1l, fB Bb j1v (.slice Ab j1l.length cb), sC (.slice At2 j2l.length ct2) j2l, fB Bt j2v (.slice At2 j2l.length ct2), sC (.slice Au2 j1l.length cu2) j1l, fB Bu j1v (.slice Au2 j1l.length cu2), sC (.slice Av j3l.length cv) j3l, fB Bv j3v (.slice Av j3l.length cv)] W126) := ⟨hs⟩
        clear H125
        clear hs
        have q39 : W126.cell? ⟨Ba, 0, none⟩ = some (.int .i64 j1v) := H127.out.cell 21 0 rfl
        have q40 : W126.cell? ⟨Ba, 1, none⟩ = some (.slice Aa j1l.length ca) := H127.out.cell 21 1 rfl
        have q41 : W126.cell? ⟨Bw, 0, none⟩ = some (.int .i64 j1v) := H127.out.cell 14 0 rfl
        have q42 : W126.cell? ⟨Bw, 1, none⟩ = some (.slice Aw j1l.length cw) := H127.out.cell 14 1 rfl
        go_wp2_with (go_at_call 23; refine HoldU.out ?_)
        refine ⟨?_⟩
        refine (same_n j1v Aa Aw ca cw _ (Kd.S_reads' (H127.out.get 20 rfl)).2.2 (Kd.S_reads' (H127.out.get 20 rfl)).2.1 (Kd.S_reads' (H127.out.get 13 rfl)).2.2 (Kd.S_reads' (H127.out.get 13 rfl)).2.1 HM1.out).mono ?_
        rintro e W128 ⟨rfl, hb⟩
        have H129 : Aside0 (Sep w (fun _ => False) [fB Bf v1 (.slice A1 l1.length c1), fB Bg v2 (.slice A2 l2.length c2), fB B5 2 (.slice Au 4 cu), .emp, .emp, .emp, .emp, .emp, .emp, xB Bx (.slice Awx l1.length cwx) (.slice Awx nwx cwx) (.slice Arx nrx crx), xB By (.slice Awy l2.length cwy) (.slice Awy nwy cwy) (.slice Ary nry cry), fB Bi v1 (.slice Awx l1.length cwx), fB Bj v2 (.slice Awy l2.length cwy), sC (.slice Aw j1l.length cw) j1l, fB Bw j1v (.slice Aw j1l.length cw), sC (.slice Ad j2l.length cd) j2l, fB Bd j2v (.slice Ad j2l.length cd), Asr.foot (fun W => Kd.C (Kd.slice 3 (Kd.int .i64)) W At l1.length (l1.map (List.map negw))), sC (.slice Ao j3l.length co) j3l, fB Bo j3v (.slice Ao j3l.length co), sC (.slice Aa j1l.length ca) j1l, fB Ba j1v (.slice Aa j1l.length ca), sC (.slice Ab j1l.length cb) j1l, fB Bb j1v (.slice Ab j1l.length cb), sC (.slice At2 j2l.length ct2) j2l, fB Bt j2v (.slice At2 j2l.length ct2), sC (.slice Au2 j1l.length cu2) j1l, fB Bu j1v (.slice Au2 j1l.length cu2), sC (.slice Av j3l.length cv) j3l, fB Bv j3v (.slice Av j3l.length cv)] W128) := ⟨H127.out.keep hb⟩
        clear H127
        clear hb
        clear q39 q40 q41 q42
        have q43 : W128.cell? ⟨Bb, 0, none⟩ = some (.int .i64 j1v) := H129.out.cell 23 0 rfl
        have q44 : W128.cell? ⟨Bb, 1, none⟩ = some (.slice Ab j1l.length cb) := H129.out.cell 23 1 rfl
        have q45 : W128.cell? ⟨Bw, 0, none⟩ = some (.int .i64 j1v) := H129.out.cell 14 0 rfl
        have q46 : W128.cell? ⟨Bw, 1, none⟩ = some (.slice Aw j1l.length cw) := H129.out.cell 14 1 rfl
        go_wp2_with (go_at_call 23; refine HoldU.out ?_)
        refine ⟨?_⟩
        refine (same_n j1v Ab Aw cb cw _ (Kd.S_reads' (H129.out.get 22 rfl)).2.2 (Kd.S_reads' (H129.out.get 22 rfl)).2.1 (Kd.S_reads' (H129.out.get 13 rfl)).2.2 (Kd.S_reads' (H129.out.get 13 rfl)).2.1 HM1.out).mono ?_
        rintro e W130 ⟨rfl, hb⟩
        have H131 : Aside0 (Sep w (fun _ => False) [fB Bf v1 (.slice A1 l1.length c1), fB Bg v2 (.slice A2 l2.length c2), fB B5 2 (.slice Au 4 cu), .emp, .emp, .emp, .emp, .emp, .emp, xB Bx (.slice Awx l1.length cwx) (.slice Awx nwx cwx) (.slice Arx nrx crx), xB By (.slice Awy l2.length cwy) (.slice Awy nwy cwy) (.slice Ary nry cry), fB Bi v1 (.slice Awx l1.length cwx), fB Bj v2 (.slice Awy l2.length cwy), sC (.slice Aw j1l.length cw) j1l, fB Bw j1v (.slice Aw j1l.length cw), sC (.slice Ad j2l.length cd) j2l, fB Bd j2v (.slice Ad j2l.length cd), Asr.foot (fun W => Kd.C (Kd.slice 3 (Kd.int .i64)) W At l1.length (l1.map (List.map negw))), sC (.slice Ao j3l.length co) j3l, fB Bo j3v (.slice Ao j3l.length co), sC (.slice Aa j1l.length ca) j1l, fB Ba j1v (.slice Aa j1l.length ca), sC (.slice Ab j1l.length cb) j1l, fB Bb j1v (.slice Ab j1l.length cb), sC (.slice At2 j2l.length ct2) j2l, fB Bt j2v (.slice At2 j2l.length ct2), sC (.slice Au2 j1l.length cu2) j1l, fB Bu j1v (.slice Au2 j1l.length cu2), sC (.slice Av j3l.length cv) j3l, fB Bv j3v (.slice Av j3l.length cv)] W130) := ⟨H129.out.keep hb⟩
        clear H129
        clear hb
        clear q43 q44 q45 q46
        have q47 : W130.cell? ⟨Bt, 0, none⟩ = some (.int .i64 j2v) := H131.out.cell 25 0 rfl
        have q48 : W130.cell? ⟨Bt, 1, none⟩ = some (.slice At2 j2l.length ct2) := H131.out.cell 25 1 rfl
        have q49 : W130.cell? ⟨Bd, 0, none⟩ = some (.int .i64 j2v) := H131.out.cell 16 0 rfl
        have q50 : W130.cell? ⟨Bd, 1, none⟩ = some (.slice Ad j2l.length cd) := H131.out.cell 16 1 rfl
        go_wp2_with (go_at_call 23; refine HoldU.out ?_)
        refine ⟨?_⟩
        refine (same_n j2v At2 Ad ct2 cd _ (Kd.S_reads' (H131.out.get 24 rfl)).2.2 (Kd.S_reads' (H131.out.get 24 rfl)).2.1 (Kd.S_reads' (H131.out.get 15 rfl)).2.2 (Kd.S_reads' (H131.out.get 15 rfl)).2.1 HM2.out).mono ?_
        rintro e W132 ⟨rfl, hb⟩
        have H133 : Aside0 (Sep w (fun _ => False) [fB Bf v1 (.slice A1 l1.length c1), fB Bg v2 (.slice A2 l2.length c2), fB B5 2 (.slice Au 4 cu), .emp, .emp, .emp, .emp, .emp, .emp, xB Bx (.slice Awx l1.length cwx) (.slice Awx nwx cwx) (.slice Arx nrx crx), xB By (.slice Awy l2.length cwy) (.slice Awy nwy cwy) (.slice Ary nry cry), fB Bi v1 (.slice Awx l1.length cwx), fB Bj v2 (.slice Awy l2.length cwy), sC (.slice Aw j1l.length cw) j1l, fB Bw j1v (.slice Aw j1l.length cw), sC (.slice Ad j2l.length cd) j2l, fB Bd j2v (.slice Ad j2l.length cd), Asr.foot (fun W => Kd.C (Kd.slice 3 (Kd.int .i64)) W At l1.length (l1.map (List.map negw))), sC (.slice Ao j3l.length co) j3l, fB Bo j3v (.slice Ao j3l.length co), sC (.slice Aa j1l.length ca) j1l, fB Ba j1v (.slice Aa j1l.length ca), sC (.slice Ab j1l.length cb) j1l, fB Bb j1v (.slice Ab j1l.length cb), sC (.slice At2 j2l.length ct2) j2l, fB Bt j2v (.slice At2 j2l.length ct2), sC (.slice Au2 j1l.length cu2) j1l, fB Bu j1v (.slice Au2 j1l.length cu2), sC (.slice Av j3l.length cv) j3l, fB Bv j3v (.slice Av j3l.length cv)] W132) := ⟨H131.out.keep hb⟩
        clear H131
        clear hb
        clear q47 q48 q49 q50
        have q51 : W132.cell? ⟨Bu, 0, none⟩ = some (.int .i64 j1v) := H133.out.cell 27 0 rfl
        have q52 : W132.cell? ⟨Bu, 1, none⟩ = some (.slice Au2 j1l.length cu2) := H133.out.cell 27 1 rfl
        have q53 : W132.cell? ⟨Bw, 0, none⟩ = some (.int .i64 j1v) := H133.out.cell 14 0 rfl
        have q54 : W132.cell? ⟨Bw, 1, none⟩ = some (.slice Aw j1l.length cw) := H133.out.cell 14 1 rfl
        go_wp2_with (go_at_call 23; refine HoldU.out ?_)
        refine ⟨?_⟩
        refine (same_n j1v Au2 Aw cu2 cw _ (Kd.S_reads' (H133.out.get 26 rfl)).2.2 (Kd.S_reads' (H133.out.get 26 rfl)).2.1 (Kd.S_reads' (H133.out.get 13 rfl)).2.2 (Kd.S_reads' (H133.out.get 13 rfl)).2.1 HM1.out).mono ?_
        rintro e W134 ⟨rfl, hb⟩
        have H135 : Aside0 (Sep w (fun _ => False) [fB Bf v1 (.slice A1 l1.length c1), fB Bg v2 (.slice A2 l2.length c2), fB B5 2 (.slice Au 4 cu), .emp, .emp, .emp, .emp, .emp, .emp, xB Bx (.slice Awx l1.length cwx) (.slice Awx nwx cwx) (.slice Arx nrx crx), xB By (.slice Awy l2.length cwy) (.slice Awy nwy cwy) (.slice Ary nry cry), fB Bi v1 (.slice Awx l1.length cwx), fB Bj v2 (.slice Awy l2.length cwy), sC (.slice Aw j1l.length cw) j1l, fB Bw j1v (.slice Aw j1l.length cw), sC (.slice Ad j2l.length cd) j2l, fB Bd j2v (.slice Ad j2l.length cd), Asr.foot (fun W => Kd.C (Kd.slice 3 (Kd.int .i64)) W At l1.length (l1.map (List.map negw))), sC (.slice Ao j3l.length co) j3l, fB Bo j3v (.slice Ao j3l.length co), sC (.slice Aa j1l.length ca) j1l, fB Ba j1v (.slice Aa j1l.length ca), sC (.slice Ab j1l.length cb) j1l, fB Bb j1v (.slice Ab j1l.length cb), sC (.slice At2 j2l.length ct2) j2l, fB Bt j2v (.slice At2 j2l.length ct2), sC (.slice Au2 j1l.length cu2) j1l, fB Bu j1v (.slice Au2 j1l.length cu2), sC (.slice Av j3l.length cv) j3l, fB Bv j3v (.slice Av j3l.length cv)] W134) := ⟨H133.out.keep hb⟩
        clear H133
        clear hb
        clear q51 q52 q53 q54
        have q55 : W134.cell? ⟨Bv, 0, none⟩ = some (.int .i64 j3v) := H135.out.cell 29 0 rfl
        have q56 : W134.cell? ⟨Bv, 1, none⟩ = some (.slice Av j3l.length cv) := H135.out.cell 29 1 rfl
        have q57 : W134.cell? ⟨Bo, 0, none⟩ = some (.int .i64 j3v) := H135.out.cell 19 0 rfl
        have q58 : W134.cell? ⟨Bo, 1, none⟩ = some (.slice Ao j3l.length co) := H135.out.cell 19 1 rfl
        go_wp2_with (go_at_call 23; refine HoldU.out ?_)
        refine ⟨?_⟩
        refine (same_n j3v Av Ao cv co _ (Kd.S_reads' (H135.out.get 28 rfl)).2.2 (Kd.S_reads' (H135.out.get 28 rfl)).2.1 (Kd.S_reads' (H135.out.get 18 rfl)).2.2 (Kd.S_reads' (H135.out.get 18 rfl)).2.1 HM3.out).mono ?_
        rintro e W136 ⟨rfl, hb⟩
        have H137 : Aside0 (Sep w (fun _ => False) [fB Bf v1 (.slice A1 l1.length c1), fB Bg v2 (.slice A2 l2.length c2), fB B5 2 (.slice Au 4 cu), .emp, .emp, .emp, .emp, .emp, .emp, xB Bx (.slice Awx l1.length cwx) (.slice Awx nwx cwx) (.slice Arx nrx crx), xB By (.slice Awy l2.length cwy) (.slice Awy nwy cwy) (.slice Ary nry cry), fB Bi v1 (.slice Awx l1.length cwx), fB Bj v2 (.slice Awy l2.length cwy), sC (.slice Aw j1l.length cw) j1l, fB Bw j1v (.slice Aw j1l.length cw), sC (.slice Ad j2l.length cd) j2l, fB Bd j2v (.slice Ad j2l.length cd), Asr.foot (fun W => Kd.C (Kd.slice 3 (Kd.int .i64)) W At l1.length (l1.map (List.map negw))), sC (.slice Ao j3l.length co) j3l, fB Bo j3v (.slice Ao j3l.length co), sC (.slice Aa j1l.length ca) j1l, fB Ba j1v (.slice Aa j1l.length ca), sC (.slice Ab j1l.length cb) j1l, fB Bb j1v (.slice Ab j1l.length cb), sC (.slice At2 j2l.length ct2) j2l, fB Bt j2v (.slice At2 j2l.length ct2), sC (.slice Au2 j1l.length cu2) j1l, fB Bu j1v (.slice Au2 j1l.length cu2), sC (.slice Av j3l.length cv) j3l, fB Bv j3v (.slice Av j3l.length cv)] W136) := ⟨H135.out.keep hb⟩
        clear H135
        clear hb
        clear q55 q56 q57 q58
        have q59 : W136.cell? ⟨Ba, 0, none⟩ = some (.int .i64 j1v) := H137.out.cell 21 0 rfl
        have q60 : W136.cell? ⟨Ba, 1, none⟩ = some (.slice Aa j1l.length ca) := H137.out.cell 21 1 rfl
        have q61 : W136.cell? ⟨Bb, 0, none⟩ = some (.int .i64 j1v) := H137.out.cell 23 0 rfl
        have q62 : W136.cell? ⟨Bb, 1, none⟩ = some (.slice Ab j1l.length cb) := H137.out.cell 23 1 rfl
        have q63 : W136.cell? ⟨Bt, 0, none⟩ = some (.int .i64 j2v) := H137.out.cell 25 0 rfl
        have q64 : W136.cell? ⟨Bt, 1, none⟩ = some (.slice At2 j2l.length ct2) := H137.out.cell 25 1 rfl
        have q65 : W136.cell? ⟨Bu, 0, none⟩ = some (.int .i64 j1v) := H137.out.cell 27 0 rfl
        have q66 : W136.cell? ⟨Bu, 1, none⟩ = some (.slice Au2 j1l.length cu2) := H137.out.cell 27 1 rfl
        have q67 : W136.cell? ⟨Bv, 0, none⟩ = some (.int .i64 j3v) := H137.out.cell 29 0 rfl
        have q68 : W136.cell? ⟨Bv, 1, none⟩ = some (.slice Av j3l.length cv) := H137.out.cell 29 1 rfl
        obtain ⟨okj, hok, hdis, hrng⟩ := H137.out.fam
        have HD5 := Aside0.mk hdis
        have HG5 := Aside0.mk hrng
        have hal := below_alloc (Below.refl W136.heap.size W136) (.cells #[.int .i64 j1v, .slice Aa j1l.length ca, .int .i64 j1v, .slice Ab j1l.length cb, .int .i64 j2v, .slice At2 j2l.length ct2, .int .i64 j1v, .slice Au2 j1l.length cu2, .int .i64 j3v, .slice Av j3l.length cv] 24 (0, 0))
        have HAP : Aside0 (Calls Try.prog 29 #[.slice (some ⟨W136.heap.size, 0, none⟩) 5 5] (W136.alloc (.cells #[.int .i64 j1v, .slice Aa j1l.length ca, .int .i64 j1v, .slice Ab j1l.length cb, .int .i64 j2v, .slice At2 j2l.length ct2, .int .i64 j1v, .slice Au2 j1l.length cu2, .int .i64 j3v, .slice Av j3l.length cv] 24)) fun e w' => e = .returned (.bool true) ∧ Grow (fun b => ∃ j, okj ([20, 22, 24, 26, 28].getD j 0) b ∧ j < 5) (W136.alloc (.cells #[.int .i64 j1v, .slice Aa j1l.length ca, .int .i64 j1v, .slice Ab j1l.length cb, .int .i64 j2v, .slice At2 j2l.length ct2, .int .i64 j1v, .slice Au2 j1l.length cu2, .int .i64 j3v, .slice Av j3l.length cv] 24)) w') := ⟨by
          have hmem : ∀ x ∈ ([(.slice Aa j1l.length ca, j1v, j1l), (.slice Ab j1l.length cb, j1v, j1l), (.slice At2 j2l.length ct2, j2v, j2l), (.slice Au2 j1l.length cu2, j1v, j1l), (.slice Av j3l.length cv, j3v, j3l)] : List (Value × Int × List (List Int))).map fun r => r.2.2, Sm x := fun x hx => by
            simp only [List.map_cons, List.map_nil, List.mem_cons, List.not_mem_nil, or_false] at hx
            rcases hx with rfl | rfl | rfl | rfl | rfl
            · exact HM1.out
            · exact HM1.out
            · exact HM2.out
            · exact HM1.out
            · exact HM3.out
          refine apartFormulas_calls W136.heap.size 5 [(.slice Aa j1l.length ca, j1v, j1l), (.slice Ab j1l.length cb, j1v, j1l), (.slice At2 j2l.length ct2, j2v, j2l), (.slice Au2 j1l.length cu2, j1v, j1l), (.slice Av j3l.length cv, j3v, j3l)] (fun j b => okj ([20, 22, 24, 26, 28].getD j 0) b ∧ j < 5) _ (fun q r hq => ?_) (fun i j b h1 h2 => ?_) (fun j b h => ?_) (Nat.le_refl _) (show 5 ≤ 1099511627776 by decide) (fun r hr => Nat.le_trans (hmem _ (List.mem_map_of_mem hr)).n (by decide)) (fun x hx => ?_) ?_
          · have hcell : ∀ i, (W136.alloc (.cells #[.int .i64 j1v, .slice Aa j1l.length ca, .int .i64 j1v, .slice Ab j1l.length cb, .int .i64 j2v, .slice At2 j2l.length ct2, .int .i64 j1v, .slice Au2 j1l.length cu2, .int .i64 j3v, .slice Av j3l.length cv] 24)).cell? ⟨W136.heap.size, i, none⟩ = (#[.int .i64 j1v, .slice Aa j1l.length ca, .int .i64 j1v, .slice Ab j1l.length cb, .int .i64 j2v, .slice At2 j2l.length ct2, .int .i64 j1v, .slice Au2 j1l.length cu2, .int .i64 j3v, .slice Av j3l.length cv] : Array Value)[i]? := fun i => blk_cell (World.alloc_heap_new W136 _) i
            rw [hcell]
            rcases q with _ | _ | _ | _ | _ | q
            · injection hq with hq; subst hq; exact ⟨rfl, Kd.S_step (Kd.S_mono (hok 20 _ rfl) fun b hb => ⟨hb, by decide⟩) fun b hb hlt => hal.block b hlt⟩
            · injection hq with hq; subst hq; exact ⟨rfl, Kd.S_step (Kd.S_mono (hok 22 _ rfl) fun b hb => ⟨hb, by decide⟩) fun b hb hlt => hal.block b hlt⟩
            · injection hq with hq; subst hq; exact ⟨rfl, Kd.S_step (Kd.S_mono (hok 24 _ rfl) fun b hb => ⟨hb, by decide⟩) fun b hb hlt => hal.block b hlt⟩
            · injection hq with hq; subst hq; exact ⟨rfl, Kd.S_step (Kd.S_mono (hok 26 _ rfl) fun b hb => ⟨hb, by decide⟩) fun b hb hlt => hal.block b hlt⟩
            · injection hq with hq; subst hq; exact ⟨rfl, Kd.S_step (Kd.S_mono (hok 28 _ rfl) fun b hb => ⟨hb, by decide⟩) fun b hb hlt => hal.block b hlt⟩
            · simp at hq
          · have h3 := hdis _ _ b h1.1 h2.1
            have h4 := h1.2
            have h5 := h2.2
            rcases i with _ | _ | _ | _ | _ | i <;> rcases j with _ | _ | _ | _ | _ | j <;> first | rfl | omega | (exfalso; revert h3; decide)
          · exact Nat.lt_of_lt_of_le (hrng _ b h.1).2.2 hal.size
          · obtain ⟨y, hy, hx⟩ := List.mem_flatten.1 hx; exact (hmem y hy).s x hx
          · have n1 := HM1.out.n; have n2 := HM2.out.n; have n3 := HM3.out.n
            simp only [List.map_cons, List.map_nil, List.flatten_cons, List.flatten_nil, List.length_append, List.length_nil]
            omega⟩
        clear hok hdis hrng hal
        go_wp2_with (go_at_call 29; refine HoldU.out ?_)
        refine ⟨?_⟩
        clear q59 q60 q61 q62 q63 q64 q65 q66 q67 q68
        refine (HAP.out).mono ?_
        rintro e Wz ⟨rfl, hg⟩
        have HE : Aside0 (Below w.heap.size w Wz) := ⟨by
          have h1 := H137.out.hB
          have h2 := below_alloc h1 (.cells #[.int .i64 j1v, .slice Aa j1l.length ca, .int .i64 j1v, .slice Ab j1l.length cb, .int .i64 j2v, .slice At2 j2l.length ct2, .int .i64 j1v, .slice Au2 j1l.length cu2, .int .i64 j3v, .slice Av j3l.length cv] 24 (0, 0))
          exact h2.trans (hg.below h2.size fun b ⟨j, hb, _⟩ => (HG5.out _ b hb).1)⟩
        clear hg HAP
        go_wp2_with fail
        go_ret
        exact ⟨rfl, HE.out⟩
end Go.Proofs.YtggnnnddnppcpaaHand
