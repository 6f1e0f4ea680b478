/- depotkit.ApartRows: of lists of rows that lie apart it answers true; it turns their blocks alone. (Laid by gen_aparts.py out of the text of ApartInts.) -/
import Derived.Test.YtggnnnddnppcpaaDoorClCnfKeepsTidyUptoCardo
import Derived.Test.YtggnnnddnppcpaaDoorClCnfKeepsTidyUptoCardq
import Derived.Deep.RegionHeld3
import Derived.Test.YtggnnnddnppcpaaDoorClCnfKeepsTidyUptoCardb
/-! text YtggnnnddnppcpaaDoorApartRows -/
namespace Go.Proofs.YtggnnnddnppcpaaDoorHand
open Go.RowKit Go.Proofs.YtggnnnddnppcpaaDoorW.PrintWords Go.Proofs.YtggnnnddnppcpaaDoorW.PrintLast Go.Proofs.YtggnnnddnppcpaaDoorMath Go.Proofs.YtggnnnddnppcpaaDoorOwn
set_option linter.unusedVariables false
set_option linter.unusedSimpArgs false
theorem infoARR : (Tryd.prog.info? 22).map (fun i => (i.zero, i.size, i.bytes)) = some (some (.slice none 0 0), 1, 24) := by kernel_rfl
/-- a row of one mark, in a block that is known -/
def GR (Z : List (Nat × Obj)) (k j : Nat) (u : Value) : Prop := ∃ b, u = .slice (some ⟨b, 0, none⟩) 1 1 ∧ (b, Obj.cells #[.int .i64 (mk k j)] 3 (0, 0)) ∈ Z
theorem GR_more {Z : List (Nat × Obj)} (z : Nat × Obj) : ∀ k j u, GR Z k j u → GR (z :: Z) k j u := fun k j u ⟨b, h1, h2⟩ => ⟨b, h1, List.mem_cons_of_mem _ h2⟩

set_option maxHeartbeats 8000000 in
set_option maxRecDepth 100000 in
theorem apartRows_calls (rows : List (Value × Nat)) (A : Option Addr) (c : Nat) (D0 : List (Value × List Value)) (w : World) (hQ : AQ 40 22 w rows A D0 (.slice none 0 0) [] (.slice none 0 0) [] [] w) (hM : G1 (GR []) rows D0 0 0)
    (hn : rows.length ≤ 1099511627776) (hs : ∀ p ∈ rows, p.2 ≤ 1099511627776) :
    Calls Tryd.prog 54 #[.slice A rows.length c] w fun e w' => e = .returned (.bool true) ∧ Grow (MR rows) w w' := by
  have HQ := Aside0.mk hQ
  have HM := Aside0.mk hM
  have HN := Aside0.mk hn
  have HS : Aside0 (∀ (k : Nat) p, rows[k]? = some p → p.2 ≤ 1099511627776) := ⟨fun k p h => hs p (List.mem_of_getElem? h)⟩
  clear hQ hM hn hs
  go_enter Tryd.func54, Tryd.ntmps54
  go_wp2
  go_loopw [3, 4] (fun v3 _ wr => ∃ (k : Nat) (x : Int) (D : List (Value × List Value)) (Z : List (Nat × Obj)), v3 = .int .i64 x ∧ Aside0 (x = k ∧ k ≤ rows.length) ∧ Aside0 (G1 (GR Z) rows D k 0) ∧ Aside0 (AQ 40 22 w rows A D (.slice none 0 0) [] (.slice none 0 0) [] Z wr)) (fun i _ _ => rows.length - (intOf i).toNat)
  case atStart => exact ⟨0, 0, D0, [], rfl, ⟨rfl, Nat.zero_le _⟩, HM, HQ⟩
  case round =>
    clear HM HQ
    obtain ⟨k, x, D, Z, rfl, HX, HM, HQ⟩ := hrel
    obtain ⟨hxk, hk⟩ := HX.out
    by_cases hlt : k < rows.length
    · have q3 : decide (x < (rows.length : Int)) = true := decide_eq_true (by omega)
      have p2 : ((0 : Int) ≤ x) = True := eq_true (by omega)
      have q2 : (x < (rows.length : Int)) = True := eq_true (by omega)
      have HLT := Aside0.mk hlt
      have HX2 : Aside0 (wrap64 (x + 1) = ((k + 1 : Nat) : Int) ∧ k + 1 ≤ rows.length) := by
        have := HN.out
        exact ⟨by rw [w64 (by omega) (by omega)]; omega, by omega⟩
      have hm : (intOf (.int .i64 (wrap64 (x + 1)))).toNat = k + 1 := by rw [HX2.out.1]; simp [intOf]
      have hm0 : (intOf (.int .i64 x)).toNat = k := by rw [hxk]; simp [intOf]
      have HMS : Aside0 (rows.length - (intOf (.int .i64 (wrap64 (x + 1)))).toNat < rows.length - (intOf (.int .i64 x)).toNat) := ⟨by rw [hm, hm0]; omega⟩
      obtain ⟨p, hp⟩ : ∃ p, rows[k]? = some p := ⟨_, List.getElem?_eq_getElem hlt⟩
      obtain ⟨ad, hA, _⟩ := HQ.out.out hp
      subst hA
      have HP := Aside0.mk hp
      clear hm hm0 hk hlt hp hxk
      go_wp2
      go_loopw [4] (fun v4 wr => ∃ (i : Nat) (y : Int) (D : List (Value × List Value)) (Z : List (Nat × Obj)), v4 = .int .i64 y ∧ Aside0 (y = i ∧ i ≤ p.2) ∧ Aside0 (G1 (GR Z) rows D k i) ∧ Aside0 (AQ 40 22 w rows (some ad) D (.slice none 0 0) [] (.slice none 0 0) [] Z wr)) (fun i _ => p.2 - (intOf i).toNat)
      case atStart => exact ⟨0, 0, D, Z, rfl, ⟨rfl, Nat.zero_le _⟩, HM, HQ⟩
      case round =>
        clear HM HQ
        obtain ⟨i, y, D, Z, rfl, HY, HM, HQ⟩ := hrel
        obtain ⟨hyi, hi⟩ := HY.out
        obtain ⟨ad', hA', hcell⟩ := HQ.out.out HP.out
        cases hA'
        obtain ⟨d, hd⟩ : ∃ d, D[k]? = some d := ⟨_, List.getElem?_eq_getElem (by rw [HQ.out.len]; exact HLT.out)⟩
        obtain ⟨f, hr⟩ := HQ.out.row HP.out hd
        obtain ⟨Ap, cp, hpf⟩ := At.form' hr.old
        have hxk' : ad.add k = ad.add x.toNat := by rw [HX.out.1]; rfl
        rw [hxk', hpf] at hcell
        by_cases hlt2 : i < p.2
        · have e1 := (HM.out k p d HP.out hd).1
          have e2 := (HM.out k p d HP.out hd).2.1
          have q4 : decide (y < (p.2 : Int)) = true := decide_eq_true (by omega)
          have p5 : ((0 : Int) ≤ y) = True := eq_true (by omega)
          have q5 : (y < (p.2 : Int)) = True := eq_true (by omega)
          obtain ⟨u, hu⟩ : ∃ u, d.2[i]? = some u := ⟨_, List.getElem?_eq_getElem (by omega)⟩
          obtain ⟨b, c', ef, hin, cell2, fz⟩ := hr.now.cell hu
          have hyi' : (⟨b, 0, none⟩ : Addr).add y.toNat = ⟨b, i, none⟩ := by rw [hyi, add_at, Nat.zero_add]; rfl
          have HB : Aside0 (p = (.slice (some ⟨b, 0, none⟩) p.2 c', p.2) ∧ d = (.slice (some ⟨b, 0, none⟩) p.2 c', d.2)) := by
            obtain ⟨p1, p2⟩ := p
            obtain ⟨d1, d2⟩ := d
            simp only at e1 e2 ef
            rw [e2] at ef
            subst e1
            subst ef
            exact ⟨rfl, rfl⟩
          obtain ⟨ad2, had2⟩ : ∃ ad2, ad2 = (⟨b, 0, none⟩ : Addr) := ⟨_, rfl⟩
          have hpf2 : (Value.slice Ap p.2 cp) = .slice (some ad2) p.2 c' := by rw [← hpf, had2]; have := HB.out.1; rw [this]
          injection hpf2 with e3 _ e4
          subst e3 e4
          rw [← had2] at hyi'
          rw [← hyi'] at cell2 fz
          have HAD := Aside0.mk had2
          have HD := Aside0.mk hd
          have HY2 : Aside0 (wrap64 (y + 1) = ((i + 1 : Nat) : Int) ∧ i + 1 ≤ p.2) := by
            have := HS.out k p HP.out
            exact ⟨by rw [w64 (by omega) (by omega)]; omega, by omega⟩
          have hm : (intOf (.int .i64 (wrap64 (y + 1)))).toNat = i + 1 := by rw [HY2.out.1]; simp [intOf]
          have hm0 : (intOf (.int .i64 y)).toNat = i := by rw [hyi]; simp [intOf]
          have HMS2 : Aside0 (p.2 - (intOf (.int .i64 (wrap64 (y + 1)))).toNat < p.2 - (intOf (.int .i64 y)).toNat) := ⟨by rw [hm, hm0]; omega⟩
          have HI := Aside0.mk hlt2
          clear hm hm0 had2 hd hyi hi hlt2 e1 e2 hu hin ef hpf hr hyi' hxk'
          have hmx : Tryd.prog.follows .mixedOrders = true := by kernel_rfl
          have hne : b ≠ ad.block := HQ.out.out_ne HP.out HD.out (by rw [HB.out.2]; rfl)
          go_wp2
          have hS0 : wr.drew.cell? (ad.add x.toNat) = some (.slice (some ad2) p.2 cp) := hcell
          refine wp_region_held (S := fun W' : World => W'.cell? (ad.add x.toNat) = some (.slice (some ad2) p.2 cp)) hmx ?_
          refine wpAnyH_take (i := 0) (v := .slice (some ad) rows.length c) rfl (by kernel_rfl) (by kernel_rfl) (by kernel_rfl) (fun _ _ _ h => h) (.inl ⟨by rfl, fun W' hS => by go_simp⟩) hS0 ?_
          refine wpAnyH_take (i := 1) (v := .int .i64 x) rfl (by kernel_rfl) (by kernel_rfl) (by kernel_rfl) (fun _ _ _ h => h) (.inl ⟨by rfl, fun W' hS => by go_simp⟩) hS0 ?_
          refine wpAnyH_take (i := 2) (v := .pointer (some (ad.add x.toNat))) rfl (by kernel_rfl) (by kernel_rfl) (by kernel_rfl) (fun _ _ _ h => h) (.inl ⟨by rfl, fun W' hS => by go_simp⟩) hS0 ?_
          refine wpAnyH_take (i := 3) (v := .slice (some ad2) p.2 cp) rfl (by kernel_rfl) (by kernel_rfl) (by kernel_rfl) (fun _ _ _ h => h) (.inl ⟨by rfl, fun W' hS => by go_simp⟩) hS0 ?_
          refine wpAnyH_take (i := 4) (v := .int .i64 y) rfl (by kernel_rfl) (by kernel_rfl) (by kernel_rfl) (fun _ _ _ h => h) (.inl ⟨by rfl, fun W' hS => by go_simp⟩) hS0 ?_
          refine wpAnyH_take (i := 5) (v := .int .i64 x) rfl (by kernel_rfl) (by kernel_rfl) (by kernel_rfl) (fun _ _ _ h => h) (.inl ⟨by rfl, fun W' hS => by go_simp⟩) hS0 ?_
          refine wpAnyH_take (i := 6) (v := .int .i64 y) rfl (by kernel_rfl) (by kernel_rfl) (by kernel_rfl) (fun _ _ _ h => h) (.inl ⟨by rfl, fun W' hS => by go_simp⟩) hS0 ?_
          refine wpAnyH_one (i := 7) (by kernel_rfl) rfl (by rfl) (fun K' hK => ?_)
          go_simp
          refine (mark_still x y _).mono ?_
          rintro e w' ⟨rfl, rfl⟩
          refine hK _ _ hS0 ?_
          clear hK
          refine wpAnyH_one (i := 8) (by kernel_rfl) rfl (by rfl) (fun K' hK => ?_)
          go_simp
          have hS1 : (wr.drew.alloc (.cells #[.int .i64 (mk x y)] 3)).cell? (ad.add x.toNat) = some (.slice (some ad2) p.2 cp) := (World.cell?_alloc_lt _ _ _ (World.block_lt_of_cell? _ _ hS0)).trans hS0
          refine hK _ _ hS1 ?_
          clear hK
          refine wpAnyH_one (i := 9) (by kernel_rfl) rfl (by rfl) (fun K' hK => ?_)
          go_simp
          refine hK _ _ hS1 ?_
          clear hK
          refine wpAnyH_one (i := 10) (by kernel_rfl) rfl (by rfl) (fun K' hK => ?_)
          have hc2 : ((wr.drew.alloc (.cells #[.int .i64 (mk x y)] 3)).cell? (ad2.add y.toNat)) = some u := (World.cell?_alloc_lt _ _ _ (World.block_lt_of_cell? wr.drew _ cell2)).trans cell2
          have hy2 : ((wr.drew.alloc (.cells #[.int .i64 (mk x y)] 3)).frozen? (ad2.add y.toNat)) = false := (frozen_lt_alloc (World.block_lt_of_cell? wr.drew _ cell2) _).trans fz
          have hc3 : ((wr.alloc (.cells #[.int .i64 (mk x y)] 3)).cell? (ad2.add y.toNat)) = some u := hc2
          have hy3 : ((wr.alloc (.cells #[.int .i64 (mk x y)] 3)).frozen? (ad2.add y.toNat)) = false := hy2
          go_simp
          have hS2 : ((wr.drew.alloc (.cells #[.int .i64 (mk x y)] 3)).setCell (ad2.add y.toNat) (.slice (some ⟨wr.heap.size, 0, none⟩) 1 1)).cell? (ad.add x.toNat) = some (.slice (some ad2) p.2 cp) := (World.cell?_setCell_far _ _ _ _ (by rw [HAD.out, add_block, add_block]; exact hne)).trans hS1
          refine hK _ _ hS2 ?_
          clear hK hS0 hS1 hS2 hc2 hy2 hc3 hy3 hne
          refine wpAnyH_done (by kernel_rfl) ?_ _
          go_wp2
          go_roundw
          case measure => exact HMS2.out
          case rel =>
            obtain ⟨hp1, hd1⟩ := HB.out
            have hD := HD.out
            rw [hd1] at hD
            have hP := HP.out
            rw [hp1] at hP
            refine ⟨i + 1, _, D.set k (.slice (some ⟨b, 0, none⟩) p.2 cp, d.2.set i (.slice (some ⟨wr.heap.size, 0, none⟩) 1 1)), (wr.heap.size, .cells #[.int .i64 (mk x y)] 3 (0, 0)) :: Z, rfl, HY2, ⟨(HM.out.mono (GR_more _)).mark HP.out hD HI.out (by rw [HX.out.1, HY.out.1]; exact ⟨_, rfl, List.mem_cons_self⟩)⟩, ⟨?_⟩⟩
            have h5 := ((HQ.out.know (.cells #[.int .i64 (mk x y)] 3 (0, 0))).mark hP hD i (.slice (some ⟨wr.heap.size, 0, none⟩) 1 1)).keep (below_drew (Below.refl _ _))
            have ha : ad2.add y.toNat = ⟨b, i, none⟩ := by rw [HAD.out, HY.out.1, add_at, Nat.zero_add]; rfl
            rw [ha]
            exact h5
        · have hie : i = p.2 := by omega
          have q4 : decide (y < (p.2 : Int)) = false := decide_eq_false (by omega)
          rw [hie] at HM
          clear hyi hi hlt2 hie hr hpf hxk' hd HY
          go_wp2
          go_roundw
          case measure => exact HMS.out
          case rel => exact ⟨k + 1, _, D, Z, rfl, HX2, ⟨HM.out.next HP.out⟩, HQ⟩
    · obtain rfl : k = rows.length := by omega
      have q3 : decide (x < (rows.length : Int)) = false := decide_eq_false (by omega)
      have HM2 := Aside0.mk HM.out.done
      clear hk hlt hxk HX HM
      go_wp2
      go_loopw [5, 6, 7, 8] (fun v5 v6 _ _ wr => ∃ (k : Nat) (x : Int) (D : List (Value × List Value)) (H : List Value) (Z : List (Nat × Obj)), v6 = .int .i64 x ∧ Aside0 (x = k ∧ k ≤ rows.length) ∧ Aside0 (G2 (GR Z) rows D k 0 ∧ HD D H k) ∧ Aside0 (AQ 40 22 w rows A D v5 H (.slice none 0 0) [] Z wr)) (fun _ i _ _ _ => rows.length - (intOf i).toNat)
      case atStart => exact ⟨0, 0, D, [], Z, rfl, ⟨rfl, Nat.zero_le _⟩, ⟨HM2.out, HD.start⟩, HQ⟩
      case round =>
        clear HM2 HQ
        obtain ⟨k, x, D, H, Z, rfl, HX, HM, HQ⟩ := hrel
        obtain ⟨hxk, hk⟩ := HX.out
        by_cases hlt : k < rows.length
        · have q3 : decide (x < (rows.length : Int)) = true := decide_eq_true (by omega)
          have p2 : ((0 : Int) ≤ x) = True := eq_true (by omega)
          have q2 : (x < (rows.length : Int)) = True := eq_true (by omega)
          have HLT := Aside0.mk hlt
          have HX2 : Aside0 (wrap64 (x + 1) = ((k + 1 : Nat) : Int) ∧ k + 1 ≤ rows.length) := by
            have := HN.out
            exact ⟨by rw [w64 (by omega) (by omega)]; omega, by omega⟩
          have hm : (intOf (.int .i64 (wrap64 (x + 1)))).toNat = k + 1 := by rw [HX2.out.1]; simp [intOf]
          have hm0 : (intOf (.int .i64 x)).toNat = k := by rw [hxk]; simp [intOf]
          have HMS : Aside0 (rows.length - (intOf (.int .i64 (wrap64 (x + 1)))).toNat < rows.length - (intOf (.int .i64 x)).toNat) := ⟨by rw [hm, hm0]; omega⟩
          obtain ⟨p, hp⟩ : ∃ p, rows[k]? = some p := ⟨_, List.getElem?_eq_getElem hlt⟩
          obtain ⟨d, hd⟩ : ∃ d, D[k]? = some d := ⟨_, List.getElem?_eq_getElem (by rw [HQ.out.len]; exact HLT.out)⟩
          obtain ⟨ad, hA, hcell⟩ := HQ.out.out hp
          subst hA
          obtain ⟨f, hr⟩ := HQ.out.row hp hd
          obtain ⟨Ap, cp, hpf⟩ := At.form' hr.old
          have hxk' : ad.add k = ad.add x.toNat := by rw [hxk]; rfl
          rw [hxk', hpf] at hcell
          have HP := Aside0.mk hp
          have HPF := Aside0.mk hpf
          have HSP : Aside0 (p.2 ≤ 1099511627776) := ⟨HS.out k p hp⟩
          have hd3 := HM.out.1.row hp hd
          have HST : Aside0 (∃ D' ds, D'[k]? = some (p.1, ds) ∧ AllG (GR Z) k p.2 ds ∧ G2 (GR Z) rows D' k 0 ∧ HD D' H k ∧ AQ 40 22 w rows (some ad) D' u5 H (.slice none 0 0) [] Z wr) := by
            rw [Nat.add_zero] at hd3
            have h5 := HQ.out.reset hp hd
            rw [List.take_of_length_le (by have := hd3.1; omega)] at h5
            refine ⟨_, d.2, ?_, hd3, HM.out.1.set hp hd (d' := (p.1, d.2)) hd3, HM.out.2.set, h5⟩
            rw [List.getElem?_set, if_pos rfl, if_pos (List.getElem?_eq_some_iff.1 hd).1]
          clear hm hm0 hk hlt hp hxk hd hr hxk' hpf hd3
          go_wp2
          obtain ⟨D', ds', hd', hal', hM', hH', hQ'⟩ := HST.out
          have HAL' := Aside0.mk hal'
          have HM' := Aside0.mk (And.intro hM' hH')
          have HQ' := Aside0.mk hQ'
          have HD' := Aside0.mk hd'
          clear HST hd' hM' hH' hQ' hal' HM HQ
          go_loopw [7, 8] (fun v7 v8 wr => ∃ (j : Nat) (z : Int) (D : List (Value × List Value)) (Z : List (Nat × Obj)) (ds : List Value), v8 = .int .i64 z ∧ Aside0 (z = j ∧ j ≤ 64) ∧ Aside0 (G2 (GR Z) rows D k j ∧ HD D H k) ∧ Aside0 (D[k]? = some (v7, ds) ∧ AllG (GR Z) k (p.2 + j) ds) ∧ Aside0 (AQ 40 22 w rows (some ad) D u5 H (.slice none 0 0) [] Z wr)) (fun _ i _ => 64 - (intOf i).toNat)
          case atStart => exact ⟨0, 0, D', Z, ds', rfl, ⟨rfl, Nat.zero_le _⟩, HM', ⟨by rw [← HPF.out]; exact HD'.out, HAL'.out⟩, HQ'⟩
          case round =>
            clear HM' HQ' HD' HAL' hcell
            obtain ⟨j, z, D, Z, ds, rfl, HZ, HM, HDK, HQ⟩ := hrel
            have hdl : ds.length = p.2 + j := HDK.out.2.1
            have HDL := Aside0.mk hdl
            clear hdl
            obtain ⟨hzj, hj⟩ := HZ.out
            obtain ⟨ad', hA', hcell⟩ := HQ.out.out HP.out
            cases hA'
            have hxk' : ad.add k = ad.add x.toNat := by rw [HX.out.1]; rfl
            rw [hxk', HPF.out] at hcell
            by_cases hlt2 : j < 64
            · have q4 : decide (z < 64) = true := decide_eq_true (by omega)
              have HZ2 : Aside0 (wrap64 (z + 1) = ((j + 1 : Nat) : Int) ∧ j + 1 ≤ 64) := ⟨by rw [w64 (by omega) (by omega)]; omega, by omega⟩
              have hm : (intOf (.int .i64 (wrap64 (z + 1)))).toNat = j + 1 := by rw [HZ2.out.1]; simp [intOf]
              have hm0 : (intOf (.int .i64 z)).toNat = j := by rw [hzj]; simp [intOf]
              have HMS2 : Aside0 (64 - (intOf (.int .i64 (wrap64 (z + 1)))).toNat < 64 - (intOf (.int .i64 z)).toNat) := ⟨by rw [hm, hm0]; omega⟩
              have HE : Aside0 ((.int .i64 (mk x (wrap64 ((p.2 : Int) + z))) : Value) = .int .i64 (mk k (p.2 + j : Nat))) := ⟨by
                have := HSP.out
                rw [w64 (by omega) (by omega), HX.out.1, hzj]
                push_cast
                rfl⟩
              have HAP := Aside0.mk (AQ.append (P := Tryd.prog) (ty := 22) (tt := 22) (c := 1) (m := 1) (ad := ⟨wr.heap.size + 1, 0, none⟩) (news := [.slice (some ⟨wr.heap.size, 0, none⟩) 1 1]) ((HQ.out.know (.cells #[.int .i64 (mk x (wrap64 ((p.2 : Int) + z)))] 3 (0, 0))).keep (below_alloc (Below.refl _ _) (.cells #[.slice (some ⟨wr.heap.size, 0, none⟩) 1 1] 40 (0, 0)))) HP.out HDK.out.1 Tryd.underlying22 infoAR (by decide) rfl (by have h := cell_one_new (wr.alloc (.cells #[.int .i64 (mk x (wrap64 ((p.2 : Int) + z)))] 3 (0, 0))) (.slice (some ⟨wr.heap.size, 0, none⟩) 1 1) 40; rw [World.size_alloc] at h; exact h) (fun u hu => by rw [List.mem_singleton.1 hu]; rfl) (by omega) (by have := HSP.out; have := HDL.out; simp only [maxLen]; omega) (by have := HSP.out; have := HDL.out; simp only; omega))
              clear hm hm0 hzj hj hlt2 hxk'
              go_wp2_with (first
                | (go_at_call 26; (with_reducible refine (mark_still x _ _).mono ?_); rintro e w' ⟨rfl, rfl⟩)
                | ((with_reducible refine gate_builtin (b := .append) (xs := #[.tmp 55, .tmp 66]) rfl ?_); at_builtin; obtain ⟨v', W1, hrun, hQ1, hsz⟩ := HAP.out; refine wpList_append_run rfl (.tmp 55) (.tmp 66) 22 rfl rfl rfl hrun ?_; have HQ1 := Aside0.mk hQ1; clear hrun hQ1 hsz))
              go_roundw
              case measure => exact HMS2.out
              case rel =>
                have hall : AllG (GR ((w'.heap.size, Obj.cells #[.int .i64 (mk x (wrap64 ((p.2 : Int) + z)))] 3 (0, 0)) :: Z)) k (p.2 + (j + 1)) (ds ++ [.slice (some ⟨w'.heap.size, 0, none⟩) 1 1]) := (HDK.out.2.mono (GR_more _)).append ⟨_, rfl, by rw [HE.out]; exact List.mem_cons_self⟩
                refine ⟨j + 1, _, _, _, _, rfl, HZ2, ⟨(HM.out.1.mono (GR_more _)).set (d' := (v', ds ++ [.slice (some ⟨w'.heap.size, 0, none⟩) 1 1])) HP.out HDK.out.1 hall, HM.out.2.set⟩, ⟨?_, hall⟩, HQ1⟩
                rw [List.getElem?_set, if_pos rfl, if_pos (List.getElem?_eq_some_iff.1 HDK.out.1).1]
            · have hje : j = 64 := by omega
              have q4 : decide (z < 64) = false := decide_eq_false (by omega)
              rw [hje] at HM HDK
              obtain ⟨f7, hr7⟩ := HQ.out.row HP.out HDK.out.1
              obtain ⟨A7, c7, e7⟩ := At.form' hr7.now
              replace e7 : u7 = .slice A7 (p.2 + 64) c7 := by
                have h9 := HDL.out
                rw [hje] at h9
                simpa [h9] using e7
              subst e7
              have HAP := Aside0.mk (AQ.push (P := Tryd.prog) (ty := 58) (tt := 58) (c := 1) (m := 1) (ad := ⟨wr.heap.size, 0, none⟩) (news := [.slice A7 (p.2 + 64) c7]) (HQ.out.keep (below_alloc (Below.refl wr.heap.size wr) (.cells #[.slice A7 (p.2 + 64) c7] 22 (0, 0)))) Tryd.underlying58 infoARR (by decide) rfl (cell_one_new wr _ 22) (fun u hu => by rw [List.mem_singleton.1 hu]; rfl) (by omega) (by have := HM.out.2.1; have := HX.out.2; have := HN.out; simp only [maxLen]; omega) (by have := HM.out.2.1; have := HX.out.2; have := HN.out; omega))
              clear hzj hj hlt2 hxk' hje hr7 HZ
              go_wp2_with (first
                | ((with_reducible refine gate_builtin (b := .append) (xs := #[.tmp 68, .tmp 70]) rfl ?_); at_builtin; obtain ⟨v', W1, hrun, hQ1, hsz⟩ := HAP.out; refine wpList_append_run rfl (.tmp 68) (.tmp 70) 58 rfl rfl rfl hrun ?_; have HQ1 := Aside0.mk hQ1; clear hrun hQ1 hsz))
              go_roundw
              case measure => exact HMS.out
              case rel => exact ⟨k + 1, _, D, _, Z, rfl, HX2, ⟨HM.out.1.next, HM.out.2.push HDK.out.1⟩, HQ1⟩
        · obtain rfl : k = rows.length := by omega
          have q3 : decide (x < (rows.length : Int)) = false := decide_eq_false (by omega)
          clear hk hlt hxk HX
          go_wp2
          go_loopw [9, 10] (fun v9 _ wr => ∃ (k : Nat) (x : Int), v9 = .int .i64 x ∧ Aside0 (x = k ∧ k ≤ rows.length) ∧ Aside0 (AQ 40 22 w rows A D u5 H (.slice none 0 0) [] Z wr)) (fun i _ _ => rows.length - (intOf i).toNat)
          case atStart => exact ⟨0, 0, rfl, ⟨rfl, Nat.zero_le _⟩, HQ⟩
          case round =>
            clear HQ
            obtain ⟨k, x, rfl, HX, HQ⟩ := hrel
            obtain ⟨hxk, hk⟩ := HX.out
            by_cases hlt : k < rows.length
            · have q3 : decide (x < (rows.length : Int)) = true := decide_eq_true (by omega)
              have p2 : ((0 : Int) ≤ x) = True := eq_true (by omega)
              have q2 : (x < (rows.length : Int)) = True := eq_true (by omega)
              have HLT := Aside0.mk hlt
              have HX2 : Aside0 (wrap64 (x + 1) = ((k + 1 : Nat) : Int) ∧ k + 1 ≤ rows.length) := by
                have := HN.out
                exact ⟨by rw [w64 (by omega) (by omega)]; omega, by omega⟩
              have hm : (intOf (.int .i64 (wrap64 (x + 1)))).toNat = k + 1 := by rw [HX2.out.1]; simp [intOf]
              have hm0 : (intOf (.int .i64 x)).toNat = k := by rw [hxk]; simp [intOf]
              have HMS : Aside0 (rows.length - (intOf (.int .i64 (wrap64 (x + 1)))).toNat < rows.length - (intOf (.int .i64 x)).toNat) := ⟨by rw [hm, hm0]; omega⟩
              obtain ⟨p, hp⟩ : ∃ p, rows[k]? = some p := ⟨_, List.getElem?_eq_getElem hlt⟩
              obtain ⟨d, hd⟩ : ∃ d, D[k]? = some d := ⟨_, List.getElem?_eq_getElem (by rw [HQ.out.len]; exact HLT.out)⟩
              obtain ⟨ad, hA, _⟩ := HQ.out.out hp
              subst hA
              have hH := HM.out.2.2 k d hlt hd
              obtain ⟨f5, t5, h5⟩ := HQ.out.gs
              obtain ⟨b5, c5, e5, _, _, _⟩ := h5.cell hH
              have HHL : Aside0 (H.length = rows.length) := ⟨HM.out.2.1⟩
              rw [HHL.out] at e5
              have hr := HM.out.1.full hp hd
              have HP := Aside0.mk hp
              have HDK : Aside0 (AllG (GR Z) k (p.2 + 64) d.2 ∧ D[k]? = some d ∧ H[k]? = some d.1) := ⟨hr, hd, hH⟩
              have HSP : Aside0 (p.2 ≤ 1099511627776) := ⟨HS.out k p hp⟩
              obtain ⟨ad5, had5⟩ : ∃ ad5, ad5 = (⟨b5, 0, none⟩ : Addr) := ⟨_, rfl⟩
              rw [← had5] at e5
              have HAD5 := Aside0.mk had5
              subst e5
              obtain ⟨m, hm64⟩ : ∃ m, m = p.2 + 64 := ⟨_, rfl⟩
              have HM64 := Aside0.mk hm64
              clear hm hm0 hk hlt hp hxk hd hr hH h5 had5 hm64
              go_wp2
              go_loopw [10] (fun v10 wr => ∃ (i : Nat) (y : Int), v10 = .int .i64 y ∧ Aside0 (y = i ∧ i ≤ m) ∧ Aside0 (AQ 40 22 w rows (some ad) D (.slice (some ad5) rows.length c5) H (.slice none 0 0) [] Z wr)) (fun i _ => m - (intOf i).toNat)
              case atStart => exact ⟨0, 0, rfl, ⟨rfl, Nat.zero_le _⟩, HQ⟩
              case round =>
                clear HQ
                obtain ⟨i, y, rfl, HY, HQ⟩ := hrel
                obtain ⟨hyi, hi⟩ := HY.out
                obtain ⟨f5, t5, h5⟩ := HQ.out.gs
                obtain ⟨b6, c6, e6, _, cell5, _⟩ := h5.cell HDK.out.2.2
                have hb6 : b6 = b5 := by
                  injection e6 with e6 _ _
                  injection e6 with e6
                  rw [HAD5.out] at e6
                  injection e6 with e6
                  exact e6.symm
                subst hb6
                have hxk5 : (⟨b6, k, none⟩ : Addr) = ad5.add x.toNat := by rw [HAD5.out, HX.out.1, add_at, Nat.zero_add]; rfl
                rw [hxk5] at cell5
                obtain ⟨f, hr⟩ := HQ.out.row HP.out HDK.out.2.1
                obtain ⟨Ad, cd, edf⟩ := At.form' hr.now
                have hln : d.2.length = m := by rw [HDK.out.1.1, HM64.out]
                rw [hln] at edf
                rw [edf] at cell5
                have hbound := HSP.out
                have hmm := HM64.out
                have HY2 : Aside0 (wrap64 (y + 1) = ((i + 1 : Nat) : Int)) := ⟨by rw [w64 (by omega) (by omega)]; omega⟩
                by_cases hlt2 : i < m
                · have q4 : decide (y < (m : Int)) = true := decide_eq_true (by omega)
                  have p5 : ((0 : Int) ≤ y) = True := eq_true (by omega)
                  have q5 : (y < (m : Int)) = True := eq_true (by omega)
                  obtain ⟨ux, hdi, bu, rfl, hbu⟩ := HDK.out.1.2 i (by omega)
                  have hku := HQ.out.known hbu
                  have cellu := (blk_cell hku 0).trans rfl
                  obtain ⟨bd, cd', ed2, _, celld, _⟩ := hr.now.cell hdi
                  rw [hln, edf] at ed2
                  obtain ⟨add, hadd⟩ : ∃ add, add = (⟨bd, 0, none⟩ : Addr) := ⟨_, rfl⟩
                  rw [← hadd] at ed2
                  injection ed2 with e3 _ e4
                  subst e3 e4
                  have hyk : (⟨bd, i, none⟩ : Addr) = add.add y.toNat := by rw [hadd, hyi, add_at, Nat.zero_add]; rfl
                  have hEE : (.int .i64 (mk k i) : Value) = .int .i64 (mk x y) := by rw [HX.out.1, hyi]
                  rw [hyk] at celld
                  replace cellu : wr.cell? ⟨bu, 0, none⟩ = some (.int .i64 (mk x y)) := cellu.trans (congrArg some hEE)
                  obtain ⟨ad', hA', hcell⟩ := HQ.out.out HP.out
                  cases hA'
                  obtain ⟨Ap, cp, hpf⟩ := At.form' hr.old
                  have hxk' : ad.add k = ad.add x.toNat := by rw [HX.out.1]; rfl
                  rw [hxk', hpf] at hcell
                  have hm : (intOf (.int .i64 (wrap64 (y + 1)))).toNat = i + 1 := by rw [HY2.out]; simp [intOf]
                  have hm0 : (intOf (.int .i64 y)).toNat = i := by rw [hyi]; simp [intOf]
                  have HMS2 : Aside0 (m - (intOf (.int .i64 (wrap64 (y + 1)))).toNat < m - (intOf (.int .i64 y)).toNat) := ⟨by rw [hm, hm0]; omega⟩
                  have HY3 : Aside0 (wrap64 (y + 1) = ((i + 1 : Nat) : Int) ∧ i + 1 ≤ m) := ⟨HY2.out, by omega⟩
                  by_cases hlt3 : i < p.2
                  · have q6 : decide (y < (p.2 : Int)) = true := decide_eq_true (by omega)
                    have q7 : (y < (p.2 : Int)) = True := eq_true (by omega)
                    have hpi : (d.2.take p.2)[i]? = some (.slice (some ⟨bu, 0, none⟩) 1 1) := by rw [List.getElem?_take, if_pos hlt3]; exact hdi
                    obtain ⟨bp, cp', ep2, _, cellp, _⟩ := hr.old.cell hpi
                    rw [hpf] at ep2
                    obtain ⟨adp, hadp⟩ : ∃ adp, adp = (⟨bp, 0, none⟩ : Addr) := ⟨_, rfl⟩
                    rw [← hadp] at ep2
                    injection ep2 with e3 _ e4
                    subst e3 e4
                    have hyp : (⟨bp, i, none⟩ : Addr) = adp.add y.toNat := by rw [hadp, hyi, add_at, Nat.zero_add]; rfl
                    rw [hyp] at cellp
                    clear hm hm0 hyi hi hlt2 hlt3 h5 e6 hxk5 hr hln edf hbound hmm hdi hbu hku hadd hyk hEE hpf hxk' hpi hadp hyp
                    go_wp2
                    go_quiet (first | (go_at_call 26; (with_reducible refine (mark_calls x y _).mono ?_); rintro e w' ⟨rfl, ⟨nd, rfl⟩⟩; (try first | exact ⟨rfl, _, World.drewN_drewN _ _ _⟩ | exact ⟨rfl, _, Eq.trans (World.drewN_drewN _ _ _) (congrArg (World.drewN _) (Nat.add_assoc _ _ _))⟩)))
                    go_wp2
                    go_roundw
                    case measure => exact HMS2.out
                    case rel => exact ⟨i + 1, _, rfl, HY3, ⟨HQ.out.keep (pw_below_drewN (Below.refl _ _) _)⟩⟩
                  · have q6 : decide (y < (p.2 : Int)) = false := decide_eq_false (by omega)
                    clear hm hm0 hyi hi hlt2 hlt3 h5 e6 hxk5 hr hln edf hbound hmm hdi hbu hku hadd hyk hEE hpf hxk'
                    go_wp2
                    go_quiet (first | (go_at_call 26; (with_reducible refine (mark_calls x y _).mono ?_); rintro e w' ⟨rfl, ⟨nd, rfl⟩⟩; (try first | exact ⟨rfl, _, World.drewN_drewN _ _ _⟩ | exact ⟨rfl, _, Eq.trans (World.drewN_drewN _ _ _) (congrArg (World.drewN _) (Nat.add_assoc _ _ _))⟩)))
                    go_wp2
                    go_roundw
                    case measure => exact HMS2.out
                    case rel => exact ⟨i + 1, _, rfl, HY3, ⟨HQ.out.keep (pw_below_drewN (Below.refl _ _) _)⟩⟩
                · have q4 : decide (y < (m : Int)) = false := decide_eq_false (by omega)
                  obtain ⟨ad', hA', hcell⟩ := HQ.out.out HP.out
                  cases hA'
                  clear hyi hi hlt2 h5 e6 hxk5 hr hln edf hbound hmm hcell HY HY2
                  go_wp2
                  go_roundw
                  case measure => exact HMS.out
                  case rel => exact ⟨k + 1, _, rfl, HX2, HQ⟩
            · obtain rfl : k = rows.length := by omega
              have q3 : decide (x < (rows.length : Int)) = false := decide_eq_false (by omega)
              have HM4 : Aside0 (G4 (GR Z) rows D ∧ HD D H rows.length) := ⟨HM.out.1.four, HM.out.2⟩
              clear hk hlt hxk HX HM
              go_wp2
              go_loopw [11, 12, 13] (fun v11 _ _ wr => ∃ (k : Nat) (x : Int) (D : List (Value × List Value)) (H : List Value), v11 = .int .i64 x ∧ Aside0 (x = k ∧ k ≤ rows.length) ∧ Aside0 (G4 (GR Z) rows D ∧ HD D H rows.length) ∧ Aside0 (AQ 40 22 w rows A D u5 H (.slice none 0 0) [] Z wr)) (fun i _ _ _ => rows.length - (intOf i).toNat)
              case atStart => exact ⟨0, 0, D, H, rfl, ⟨rfl, Nat.zero_le _⟩, HM4, HQ⟩
              case round =>
                clear HQ HM4
                obtain ⟨k, x, D, H, rfl, HX, HM, HQ⟩ := hrel
                obtain ⟨hxk, hk⟩ := HX.out
                by_cases hlt : k < rows.length
                · have q3 : decide (x < (rows.length : Int)) = true := decide_eq_true (by omega)
                  have p2 : ((0 : Int) ≤ x) = True := eq_true (by omega)
                  have q2 : (x < (rows.length : Int)) = True := eq_true (by omega)
                  have HLT := Aside0.mk hlt
                  have HX2 : Aside0 (wrap64 (x + 1) = ((k + 1 : Nat) : Int) ∧ k + 1 ≤ rows.length) := by
                    have := HN.out
                    exact ⟨by rw [w64 (by omega) (by omega)]; omega, by omega⟩
                  have hm : (intOf (.int .i64 (wrap64 (x + 1)))).toNat = k + 1 := by rw [HX2.out.1]; simp [intOf]
                  have hm0 : (intOf (.int .i64 x)).toNat = k := by rw [hxk]; simp [intOf]
                  have HMS : Aside0 (rows.length - (intOf (.int .i64 (wrap64 (x + 1)))).toNat < rows.length - (intOf (.int .i64 x)).toNat) := ⟨by rw [hm, hm0]; omega⟩
                  obtain ⟨p, hp⟩ : ∃ p, rows[k]? = some p := ⟨_, List.getElem?_eq_getElem hlt⟩
                  obtain ⟨d, hd⟩ : ∃ d, D[k]? = some d := ⟨_, List.getElem?_eq_getElem (by rw [HQ.out.len]; exact HLT.out)⟩
                  obtain ⟨ad, hA, _⟩ := HQ.out.out hp
                  subst hA
                  have HP := Aside0.mk hp
                  have HDK := Aside0.mk hd
                  have HSP : Aside0 (p.2 ≤ 1099511627776) := ⟨HS.out k p hp⟩
                  clear hm hm0 hk hlt hp hxk hd
                  go_wp2
                  go_loopw [12, 13] (fun v12 v13 wr => ∃ (j : Nat) (z : Int) (ms : List Value), v13 = .int .i64 z ∧ Aside0 (z = j ∧ j ≤ 64) ∧ Aside0 (ms.length = j ∧ ∀ u ∈ ms, u.oneCell' = true) ∧ Aside0 (AQ 40 22 w rows (some ad) D u5 H v12 ms Z wr)) (fun _ i _ => 64 - (intOf i).toNat)
                  case atStart => exact ⟨0, 0, [], rfl, ⟨rfl, Nat.zero_le _⟩, ⟨rfl, fun u hu => by cases hu⟩, HQ⟩
                  case round =>
                    clear HQ
                    obtain ⟨j, z, ms, rfl, HZ, HMSS, HQ⟩ := hrel
                    obtain ⟨hzj, hj⟩ := HZ.out
                    by_cases hlt2 : j < 64
                    · have q4 : decide (z < 64) = true := decide_eq_true (by omega)
                      have HZ2 : Aside0 (wrap64 (z + 1) = ((j + 1 : Nat) : Int) ∧ j + 1 ≤ 64) := ⟨by rw [w64 (by omega) (by omega)]; omega, by omega⟩
                      have hm : (intOf (.int .i64 (wrap64 (z + 1)))).toNat = j + 1 := by rw [HZ2.out.1]; simp [intOf]
                      have hm0 : (intOf (.int .i64 z)).toNat = j := by rw [hzj]; simp [intOf]
                      have HMS2 : Aside0 (64 - (intOf (.int .i64 (wrap64 (z + 1)))).toNat < 64 - (intOf (.int .i64 z)).toNat) := ⟨by rw [hm, hm0]; omega⟩
                      have HAP := Aside0.mk (AQ.more (P := Tryd.prog) (ty := 22) (tt := 22) (c := 1) (m := 1) (ad := ⟨wr.heap.size + 1, 0, none⟩) (news := [.slice (some ⟨wr.heap.size, 0, none⟩) 1 1]) ((HQ.out.keep (below_alloc (Below.refl _ _) (.cells #[.int .i64 (mk (wrap64 (x + (rows.length : Int))) z)] 3 (0, 0)))).keep (below_alloc (Below.refl _ _) (.cells #[.slice (some ⟨wr.heap.size, 0, none⟩) 1 1] 40 (0, 0)))) Tryd.underlying22 infoAR (by decide) rfl (by have h := cell_one_new (wr.alloc (.cells #[.int .i64 (mk (wrap64 (x + (rows.length : Int))) z)] 3 (0, 0))) (.slice (some ⟨wr.heap.size, 0, none⟩) 1 1) 40; rw [World.size_alloc] at h; exact h) (fun u hu => by rw [List.mem_singleton.1 hu]; rfl) (by omega) (by have := HMSS.out.1; simp only [maxLen]; omega) (by have := HMSS.out.1; omega))
                      clear hm hm0 hzj hj hlt2
                      go_wp2_with (first
                        | (go_at_call 26; (with_reducible refine (mark_still _ z _).mono ?_); rintro e w' ⟨rfl, rfl⟩)
                        | ((with_reducible refine gate_builtin (b := .append) (xs := #[.tmp 158, .tmp 166]) rfl ?_); at_builtin; obtain ⟨v', W1, hrun, hQ1, hsz⟩ := HAP.out; refine wpList_append_run rfl (.tmp 158) (.tmp 166) 22 rfl rfl rfl hrun ?_; have HQ1 := Aside0.mk hQ1; clear hrun hQ1 hsz))
                      go_roundw
                      case measure => exact HMS2.out
                      case rel =>
                        refine ⟨j + 1, _, _, rfl, HZ2, ⟨by rw [List.length_append, HMSS.out.1]; rfl, fun u hu => ?_⟩, HQ1⟩
                        rcases List.mem_append.1 hu with hu | hu
                        · exact HMSS.out.2 u hu
                        · rw [List.mem_singleton.1 hu]; rfl
                    · have hje : j = 64 := by omega
                      have q4 : decide (z < 64) = false := decide_eq_false (by omega)
                      obtain ⟨ad', hA', hcell⟩ := HQ.out.out HP.out
                      cases hA'
                      obtain ⟨f, hr⟩ := HQ.out.row HP.out HDK.out
                      obtain ⟨Ap, cp, hpf⟩ := At.form' hr.old
                      have hxk' : ad.add k = ad.add x.toNat := by rw [HX.out.1]; rfl
                      rw [hxk', hpf] at hcell
                      have hml : ms.length = 64 := by rw [HMSS.out.1, hje]
                      obtain ⟨fm, tm, hmany⟩ := HQ.out.many
                      obtain ⟨um, hum⟩ : ∃ u, ms[0]? = some u := ⟨_, List.getElem?_eq_getElem (by omega)⟩
                      obtain ⟨bm, cm, em, _, _, _⟩ := hmany.cell hum
                      rw [hml] at em
                      obtain ⟨fg, tg, hgs⟩ := HQ.out.gs
                      have hH := HM.out.2.2 k d HLT.out HDK.out
                      obtain ⟨bg, cg, eg, _, _, _⟩ := hgs.cell hH
                      rw [HM.out.2.1] at eg
                      have HNEW : Aside0 (∀ (jj : Nat) uu, ms[jj]? = some uu → wr.cell? ((⟨bm, 0, none⟩ : Addr).add jj) = some uu) := ⟨fun jj uu hj => by
                        obtain ⟨b2, c2, e2, _, h2, _⟩ := hmany.cell hj
                        rw [em] at e2
                        injection e2 with e2 _ _
                        injection e2 with e2
                        injection e2 with e2
                        subst e2
                        rw [add_at, Nat.zero_add]
                        exact h2⟩
                      have HBG : Aside0 (u5 = .slice (some ⟨bg, 0, none⟩) rows.length cg) := ⟨eg⟩
                      obtain ⟨adg, hadg⟩ : ∃ adg, adg = (⟨bg, 0, none⟩ : Addr) := ⟨_, rfl⟩
                      have HADG := Aside0.mk hadg
                      have HAP : Aside0 (∃ A1 n1 c1 W1 D2, (Builtin.append_ #[22, 22] 22 #[.slice Ap p.2 cp, .slice (some ⟨bm, 0, none⟩) 64 cm]).run Tryd.prog wr = .ok (.slice A1 n1 c1) W1 ∧ AQ 40 22 w rows (some ad) D2 u5 H u12 ms Z W1 ∧ D2 = D.set k (.slice A1 n1 c1, d.2.take p.2 ++ ms) ∧ W1.cell? (adg.add x.toNat) = some d.1 ∧ W1.frozen? (adg.add x.toNat) = false) := ⟨by
                        have h4 := HM.out.1 k p d HP.out HDK.out
                        have hk := (List.getElem?_eq_some_iff.1 HDK.out).1
                        have h5 := HQ.out.reset HP.out HDK.out
                        have hl : (d.2.take p.2).length = p.2 := by rw [List.length_take]; have := h4.1; omega
                        have hsp := HSP.out
                        obtain ⟨v', W1, hrun, h6, _⟩ := h5.append (P := Tryd.prog) (ty := 22) (tt := 22) (c := cm) (m := 64) (ad := ⟨bm, 0, none⟩) (news := ms) (d := (p.1, d.2.take p.2)) HP.out (by rw [List.getElem?_set, if_pos rfl, if_pos hk]) Tryd.underlying22 infoAR (by decide) hml HNEW.out HMSS.out.2 (by omega) (by simp only [hl, maxLen]; omega) (by simp only [hl]; omega)
                        rw [List.set_set] at h6
                        obtain ⟨f1, hr1⟩ := h6.row HP.out (d := (v', d.2.take p.2 ++ ms)) (by rw [List.getElem?_set, if_pos rfl, if_pos hk])
                        obtain ⟨A1, c1, e1⟩ := At.form' hr1.now
                        obtain ⟨f2, t2, hg2⟩ := h6.gs
                        obtain ⟨b2, c2, e2, _, h2, h3⟩ := hg2.cell hH
                        have hb : b2 = bg := by
                          rw [HBG.out] at e2
                          injection e2 with e2 _ _
                          injection e2 with e2
                          injection e2 with e2
                          exact e2.symm
                        subst hb
                        have ek : adg.add x.toNat = ⟨b2, k, none⟩ := by rw [hadg, HX.out.1, add_at, Nat.zero_add]; rfl
                        rw [← ek] at h2 h3
                        simp only at hrun e1
                        rw [hpf, e1] at hrun
                        rw [e1] at h6
                        exact ⟨_, _, _, W1, _, hrun, h6, rfl, h2, h3⟩⟩
                      have HMS64 := Aside0.mk hml
                      rw [← hadg] at eg
                      subst em
                      subst eg
                      clear hzj hj hlt2 hje hr hpf hxk' hml hmany hum hgs hH hadg HZ HNEW
                      go_wp2_with (first
                        | ((with_reducible refine gate_builtin (b := .append) (xs := #[.tmp 173, .tmp 174]) rfl ?_); at_builtin; obtain ⟨A1, n1, c1, W1, D2, hrun, hQ1, hD2, hc1, hf1⟩ := HAP.out; refine wpList_append_run rfl (.tmp 173) (.tmp 174) 22 rfl rfl rfl hrun ?_; have HQ1 := Aside0.mk hQ1; have HD2 := Aside0.mk hD2; clear hrun hQ1 hD2))
                      go_roundw
                      case measure => exact HMS.out
                      case rel =>
                        have h7 := HQ1.out.nomore
                        rw [HADG.out] at h7
                        have h8 := h7.put k (.slice A1 n1 c1)
                        rw [HD2.out] at h8
                        refine ⟨k + 1, _, _, _, rfl, HX2, ⟨HM.out.1.set (d' := (.slice A1 n1 c1, d.2.take p.2 ++ ms)) HP.out HDK.out HMS64.out rfl, HM.out.2.put HLT.out⟩, ⟨?_⟩⟩
                        have ek : adg.add x.toNat = ⟨bg, k, none⟩ := by rw [HADG.out, HX.out.1, add_at, Nat.zero_add]; rfl
                        rw [ek, HADG.out]
                        exact h8
                · obtain rfl : k = rows.length := by omega
                  have q3 : decide (x < (rows.length : Int)) = false := decide_eq_false (by omega)
                  clear hk hlt hxk HX
                  go_wp2
                  go_loopw [14, 15] (fun v14 _ wr => ∃ (k : Nat) (x : Int), v14 = .int .i64 x ∧ Aside0 (x = k ∧ k ≤ rows.length) ∧ Aside0 (AQ 40 22 w rows A D u5 H (.slice none 0 0) [] Z wr)) (fun i _ _ => rows.length - (intOf i).toNat)
                  case atStart => exact ⟨0, 0, rfl, ⟨rfl, Nat.zero_le _⟩, HQ⟩
                  case round =>
                    clear HQ
                    obtain ⟨k, x, rfl, HX, HQ⟩ := hrel
                    obtain ⟨hxk, hk⟩ := HX.out
                    by_cases hlt : k < rows.length
                    · have q3 : decide (x < (rows.length : Int)) = true := decide_eq_true (by omega)
                      have p2 : ((0 : Int) ≤ x) = True := eq_true (by omega)
                      have q2 : (x < (rows.length : Int)) = True := eq_true (by omega)
                      have HLT := Aside0.mk hlt
                      have HX2 : Aside0 (wrap64 (x + 1) = ((k + 1 : Nat) : Int) ∧ k + 1 ≤ rows.length) := by
                        have := HN.out
                        exact ⟨by rw [w64 (by omega) (by omega)]; omega, by omega⟩
                      have hm : (intOf (.int .i64 (wrap64 (x + 1)))).toNat = k + 1 := by rw [HX2.out.1]; simp [intOf]
                      have hm0 : (intOf (.int .i64 x)).toNat = k := by rw [hxk]; simp [intOf]
                      have HMS : Aside0 (rows.length - (intOf (.int .i64 (wrap64 (x + 1)))).toNat < rows.length - (intOf (.int .i64 x)).toNat) := ⟨by rw [hm, hm0]; omega⟩
                      obtain ⟨p, hp⟩ : ∃ p, rows[k]? = some p := ⟨_, List.getElem?_eq_getElem hlt⟩
                      obtain ⟨d, hd⟩ : ∃ d, D[k]? = some d := ⟨_, List.getElem?_eq_getElem (by rw [HQ.out.len]; exact HLT.out)⟩
                      obtain ⟨ad, hA, _⟩ := HQ.out.out hp
                      subst hA
                      have hH := HM.out.2.2 k d hlt hd
                      obtain ⟨f5, t5, h5⟩ := HQ.out.gs
                      obtain ⟨b5, c5, e5, _, _, _⟩ := h5.cell hH
                      have HHL : Aside0 (H.length = rows.length) := ⟨HM.out.2.1⟩
                      rw [HHL.out] at e5
                      have h4 := HM.out.1 k p d hp hd
                      have HP := Aside0.mk hp
                      have HDK : Aside0 ((d.2.length = p.2 + 64 ∧ ∀ j, j < p.2 → ∃ u, d.2[j]? = some u ∧ GR Z k j u) ∧ D[k]? = some d ∧ H[k]? = some d.1) := ⟨h4, hd, hH⟩
                      have HSP : Aside0 (p.2 ≤ 1099511627776) := ⟨HS.out k p hp⟩
                      obtain ⟨ad5, had5⟩ : ∃ ad5, ad5 = (⟨b5, 0, none⟩ : Addr) := ⟨_, rfl⟩
                      rw [← had5] at e5
                      have HAD5 := Aside0.mk had5
                      subst e5
                      obtain ⟨m, hm64⟩ : ∃ m, m = p.2 + 64 := ⟨_, rfl⟩
                      have HM64 := Aside0.mk hm64
                      clear hm hm0 hk hlt hp hxk hd h4 hH h5 had5 hm64
                      go_wp2
                      go_loopw [15] (fun v15 wr => ∃ (i : Nat) (y : Int), v15 = .int .i64 y ∧ Aside0 (y = i ∧ i ≤ p.2) ∧ Aside0 (AQ 40 22 w rows (some ad) D (.slice (some ad5) rows.length c5) H (.slice none 0 0) [] Z wr)) (fun i _ => p.2 - (intOf i).toNat)
                      case atStart => exact ⟨0, 0, rfl, ⟨rfl, Nat.zero_le _⟩, HQ⟩
                      case round =>
                        clear HQ
                        obtain ⟨i, y, rfl, HY, HQ⟩ := hrel
                        obtain ⟨hyi, hi⟩ := HY.out
                        obtain ⟨f5, t5, h5⟩ := HQ.out.gs
                        obtain ⟨b6, c6, e6, _, cell5, _⟩ := h5.cell HDK.out.2.2
                        have hb6 : b6 = b5 := by
                          injection e6 with e6 _ _
                          injection e6 with e6
                          rw [HAD5.out] at e6
                          injection e6 with e6
                          exact e6.symm
                        subst hb6
                        have hxk5 : (⟨b6, k, none⟩ : Addr) = ad5.add x.toNat := by rw [HAD5.out, HX.out.1, add_at, Nat.zero_add]; rfl
                        rw [hxk5] at cell5
                        obtain ⟨f, hr⟩ := HQ.out.row HP.out HDK.out.2.1
                        obtain ⟨Ad, cd, edf⟩ := At.form' hr.now
                        have hln : d.2.length = m := by rw [HDK.out.1.1, HM64.out]
                        rw [hln] at edf
                        rw [edf] at cell5
                        have hbound := HSP.out
                        have hmm := HM64.out
                        obtain ⟨ad', hA', hcell⟩ := HQ.out.out HP.out
                        cases hA'
                        obtain ⟨Ap, cp, hpf⟩ := At.form' hr.old
                        have hxk' : ad.add k = ad.add x.toNat := by rw [HX.out.1]; rfl
                        rw [hxk', hpf] at hcell
                        have HY2 : Aside0 (wrap64 (y + 1) = ((i + 1 : Nat) : Int)) := ⟨by rw [w64 (by omega) (by omega)]; omega⟩
                        by_cases hlt2 : i < p.2
                        · have p5 : ((0 : Int) ≤ y) = True := eq_true (by omega)
                          have q5 : (y < (m : Int)) = True := eq_true (by omega)
                          have q6 : decide (y < (p.2 : Int)) = true := decide_eq_true (by omega)
                          have q7 : (y < (p.2 : Int)) = True := eq_true (by omega)
                          obtain ⟨ux, hdi, bu, rfl, hbu⟩ := HDK.out.1.2 i hlt2
                          have hku := HQ.out.known hbu
                          have cellu := (blk_cell hku 0).trans rfl
                          have hpi : (d.2.take p.2)[i]? = some (.slice (some ⟨bu, 0, none⟩) 1 1) := by rw [List.getElem?_take, if_pos hlt2]; exact hdi
                          obtain ⟨bd, cd', ed2, _, celld, _⟩ := hr.now.cell hdi
                          rw [hln, edf] at ed2
                          obtain ⟨add, hadd⟩ : ∃ add, add = (⟨bd, 0, none⟩ : Addr) := ⟨_, rfl⟩
                          rw [← hadd] at ed2
                          injection ed2 with e3 _ e4
                          subst e3 e4
                          have hyk : (⟨bd, i, none⟩ : Addr) = add.add y.toNat := by rw [hadd, hyi, add_at, Nat.zero_add]; rfl
                          have hEE : (.int .i64 (mk k i) : Value) = .int .i64 (mk x y) := by rw [HX.out.1, hyi]
                          rw [hyk] at celld
                          replace cellu : wr.cell? ⟨bu, 0, none⟩ = some (.int .i64 (mk x y)) := cellu.trans (congrArg some hEE)
                          have hm : (intOf (.int .i64 (wrap64 (y + 1)))).toNat = i + 1 := by rw [HY2.out]; simp [intOf]
                          have hm0 : (intOf (.int .i64 y)).toNat = i := by rw [hyi]; simp [intOf]
                          have HMS2 : Aside0 (p.2 - (intOf (.int .i64 (wrap64 (y + 1)))).toNat < p.2 - (intOf (.int .i64 y)).toNat) := ⟨by rw [hm, hm0]; omega⟩
                          have HY3 : Aside0 (wrap64 (y + 1) = ((i + 1 : Nat) : Int) ∧ i + 1 ≤ p.2) := ⟨HY2.out, by omega⟩
                          obtain ⟨bp, cp', ep2, _, cellp, _⟩ := hr.old.cell hpi
                          rw [hpf] at ep2
                          obtain ⟨adp, hadp⟩ : ∃ adp, adp = (⟨bp, 0, none⟩ : Addr) := ⟨_, rfl⟩
                          rw [← hadp] at ep2
                          injection ep2 with e3 _ e4
                          subst e3 e4
                          have hyp : (⟨bp, i, none⟩ : Addr) = adp.add y.toNat := by rw [hadp, hyi, add_at, Nat.zero_add]; rfl
                          rw [hyp] at cellp
                          clear hm hm0 hyi hi hlt2 h5 e6 hxk5 hr hln edf hbound hmm hdi hbu hku hadd hyk hEE hpf hxk' hpi hadp hyp
                          go_wp2
                          go_quiet (first | (go_at_call 26; (with_reducible refine (mark_calls x y _).mono ?_); rintro e w' ⟨rfl, ⟨nd, rfl⟩⟩; (try first | exact ⟨rfl, _, World.drewN_drewN _ _ _⟩ | exact ⟨rfl, _, Eq.trans (World.drewN_drewN _ _ _) (congrArg (World.drewN _) (Nat.add_assoc _ _ _))⟩)))
                          go_wp2
                          go_roundw
                          case measure => exact HMS2.out
                          case rel => exact ⟨i + 1, _, rfl, HY3, ⟨HQ.out.keep (pw_below_drewN (Below.refl _ _) _)⟩⟩
                        · have q6 : decide (y < (p.2 : Int)) = false := decide_eq_false (by omega)
                          clear hyi hi hlt2 h5 e6 hxk5 hr hln edf hbound hmm hpf hxk' HY HY2
                          go_wp2
                          go_roundw
                          case measure => exact HMS.out
                          case rel => exact ⟨k + 1, _, rfl, HX2, HQ⟩
                    · obtain rfl : k = rows.length := by omega
                      have q3 : decide (x < (rows.length : Int)) = false := decide_eq_false (by omega)
                      clear hk hlt hxk HX
                      go_wp2
                      go_ret
                      exact ⟨rfl, HQ.out.grow⟩
#print axioms apartRows_calls
end Go.Proofs.YtggnnnddnppcpaaDoorHand
/-! text YtggnnnddnppcpaaDoorApartIntsS -/
namespace Go.Proofs.YtggnnnddnppcpaaDoorHand
open Go.RowKit Go.Proofs.YtggnnnddnppcpaaDoorW.PrintWords Go.Proofs.YtggnnnddnppcpaaDoorW.PrintLast Go.Proofs.YtggnnnddnppcpaaDoorMath Go.Proofs.YtggnnnddnppcpaaDoorOwn
set_option linter.unusedVariables false
set_option linter.unusedSimpArgs false
theorem apartInts_S {W : World} {base : Nat} {ok : Nat → Prop} {A : Option Addr} {n c : Nat} {xs : List (List Int)} (h : Kd.S (Kd.slice 3 (Kd.int .i64)) 40 W base ok (.slice A n c) xs) (hn : xs.length ≤ 1099511627776) (hs : ∀ x ∈ xs, x.length ≤ 1099511627776) :
    Calls Tryd.prog 53 #[.slice A n c] W fun e w' => e = .returned (.bool true) ∧ Grow (fun b => ok b ∧ b < W.heap.size) W w' := by
  have hl := (Kd.S_reads' h).1
  subst hl
  obtain ⟨rows, D, hrl, hM, hQ, hD, hx⟩ := AQ.ofS (Value.int .i64) (fun _ => rfl) (e' := 40) h
  rw [← hrl]
  refine (apartInts_calls rows A c D W hQ (M1.start hD) (by omega) (fun p hp => ?_)).mono ?_
  · obtain ⟨x, hx1, hx2⟩ := hx p hp
    rw [hx2]
    exact hs x hx1
  · rintro e w' ⟨rfl, hg⟩
    exact ⟨rfl, hg.mono hM⟩
end Go.Proofs.YtggnnnddnppcpaaDoorHand
