/- What cnf.Under answers of a formula and literals that it knows. -/
import Derived.Test.YtggnnnddnppcpaaDoorClCnfMeansUptoCardi
/-! text YtggnnnddnppcpaaDoorCnfUnderGood -/
namespace Go.Proofs.YtggnnnddnppcpaaDoorHand
open Go.RowKit Go.Proofs.YtggnnnddnppcpaaDoorW.PrintWords Go.Proofs.YtggnnnddnppcpaaDoorW.PrintLast Go.Proofs.YtggnnnddnppcpaaDoorMath Go.Proofs.YtggnnnddnppcpaaDoorMaps Go.Maps
set_option linter.unusedVariables false
set_option linter.unusedSimpArgs false

set_option maxHeartbeats 8000000 in
set_option maxRecDepth 100000 in
theorem under_taut (v1 : Int) (A1 A2 : Option Addr) (c1 c2 : Nat) (l1 : List (List Int)) (l2 : List Int) (w : World) (hr1 : Kd.C (Kd.slice 3 (Kd.int .i64)) w A1 l1.length l1) (hc1 : l1.length ≤ c1) (hr2 : Kd.C (Kd.int .i64) w A2 l2.length l2) (hc2 : l2.length ≤ c2)
    (hn : l1.length ≤ 5864062014805) (hs : ∀ c ∈ l1, c.length ≤ 17592186044416) (hn2 : l2.length ≤ 17592186044416) (hf1 : isFormula v1 l1 = true) (hf2 : within l2 v1 = true) (ht : tautIn (tidyOf l2) = true) :
    Calls Tryd.prog 21 #[.agg #[.int .i64 v1, .slice A1 l1.length c1], .slice A2 l2.length c2] w fun e w' => e = .returned (.tuple #[.agg #[.int .i64 0, .slice none 0 0], .int .i64 20]) ∧ Below w.heap.size w w' := by
  have HR1 := Aside0.mk hr1
  have HR2 := Aside0.mk hr2
  have F1 := fun W h => isFormula_calls v1 A1 c1 l1 W h hc1 (by omega) hs
  have F2 := fun W h => within_calls A2 c2 l2 v1 W h hc2 hn2
  have F3 := fun W h => taut_calls A2 c2 l2 W h hc2 hn2
  rw [hf1] at F1
  rw [hf2] at F2
  rw [ht] at F3
  have HF1 := Aside0.mk F1
  have HF2 := Aside0.mk F2
  have HF3 := Aside0.mk F3
  clear F1 F2 F3 hr1 hr2 hc1 hc2 hn hs hn2 hf1 hf2 ht
  go_enter Tryd.func21, Tryd.ntmps21
  go_wp2_with fail
  have T0 := uf w (.int .i64 v1) (.slice A1 l1.length c1) (.int .i64 0) (.slice none 0 0)
  generalize hW0 : ((w.alloc (.cells #[.int .i64 v1, .slice A1 l1.length c1] 24 (0, 0))).alloc (.cells #[.int .i64 0, .slice none 0 0] 24 (0, 0))) = W0 at T0 ⊢
  clear hW0
  (with_reducible refine (HF1.out _ (Kd.C_below HR1.out T0.hB)).mono ?_)
  rintro e W1 ⟨rfl, hb⟩
  have T1 := T0.keep hb
  have f0 := T1.f0
  clear T0 hb
  go_wp2_with fail
  (with_reducible refine (HF2.out _ (Kd.C_below HR2.out T1.hB)).mono ?_)
  rintro e W2 ⟨rfl, hd⟩
  have T2 := T1.keep hd.below
  clear T1 hd f0
  go_wp2_with fail
  (with_reducible refine (HF3.out _ (Kd.C_below HR2.out T2.hB)).mono ?_)
  rintro e W3 ⟨rfl, hb⟩
  have T3 := T2.keep hb
  have HT := Aside0.mk T3
  have k0 := T3.g0
  have k1 := T3.g1
  have y0 := T3.y0
  have y1 := T3.y1
  clear T2 hb T3
  go_wp2_with fail
  refine bodyPost_ret (v := .tuple #[.agg #[.int .i64 0, .slice none 0 0], .int .i64 20]) (by simp [results, Tryd.results21, go_sem, k0, k1]) rfl ?_
  exact ⟨rfl, (HT.out.hB.setCell (p := ⟨w.heap.size + 1, 0, none⟩) (show w.heap.size ≤ w.heap.size + 1 by omega) _).setCell (p := ⟨w.heap.size + 1, 1, none⟩) (show w.heap.size ≤ w.heap.size + 1 by omega) _⟩

set_option maxHeartbeats 8000000 in
set_option maxRecDepth 100000 in
theorem under_good (v1 : Int) (A1 A2 : Option Addr) (c1 c2 : Nat) (l1 : List (List Int)) (l2 : List Int) (w : World) (hr1 : Kd.C (Kd.slice 3 (Kd.int .i64)) w A1 l1.length l1) (hc1 : l1.length ≤ c1) (hr2 : Kd.C (Kd.int .i64) w A2 l2.length l2) (hc2 : l2.length ≤ c2)
    (hn : l1.length ≤ 5864062014805) (hs : ∀ c ∈ l1, c.length ≤ 17592186044416) (hn2 : l2.length ≤ 17592186044416) (hf1 : isFormula v1 l1 = true) (hf2 : within l2 v1 = true) (ht : tautIn (tidyOf l2) = false) :
    Calls Tryd.prog 21 #[.agg #[.int .i64 v1, .slice A1 l1.length c1], .slice A2 l2.length c2] w fun e w' => ∃ v : Value, e = .returned (.tuple #[.agg #[.int .i64 v1, v], .int .i64 0]) ∧ Kd.S (Kd.slice 3 (Kd.int .i64)) 40 w' w.heap.size (fun _ => True) v (leftAll l2 l1) ∧ Below w.heap.size w w' := by
  have HR1 := Aside0.mk hr1
  have HR2 := Aside0.mk hr2
  have F1 := fun W h => isFormula_calls v1 A1 c1 l1 W h hc1 (by omega) hs
  have F2 := fun W h => within_calls A2 c2 l2 v1 W h hc2 hn2
  have F3 := fun W h => taut_calls A2 c2 l2 W h hc2 hn2
  have HSND : Aside0 (sound l2 = true) := by
    unfold within at hf2
    rw [Bool.and_eq_true] at hf2
    exact ⟨hf2.1⟩
  have HUT := Aside0.mk (untaut HSND.out ht)
  have HFM : Aside0 (∀ c ∈ l1, ∀ x ∈ c, formed x = true) := by
    unfold isFormula at hf1
    rw [Bool.and_eq_true, List.all_eq_true] at hf1
    refine ⟨fun c hc x hx => ?_⟩
    have := hf1.2 c hc
    unfold within at this
    rw [Bool.and_eq_true] at this
    exact sound_mem this.1 hx
  rw [hf1] at F1
  rw [hf2] at F2
  rw [ht] at F3
  have HF1 := Aside0.mk F1
  have HF2 := Aside0.mk F2
  have HF3 := Aside0.mk F3
  have HN := Aside0.mk hn
  have HS := Aside0.mk hs
  have HN2 := Aside0.mk hn2
  have hmm := @run_makeMap Tryd.prog
  clear F1 F2 F3 hr1 hr2 hc1 hc2 hn hs hn2 hf1 hf2 ht
  go_enter Tryd.func21, Tryd.ntmps21
  go_wp2_with fail
  have T0 := uf w (.int .i64 v1) (.slice A1 l1.length c1) (.int .i64 0) (.slice none 0 0)
  generalize hW0 : ((w.alloc (.cells #[.int .i64 v1, .slice A1 l1.length c1] 24 (0, 0))).alloc (.cells #[.int .i64 0, .slice none 0 0] 24 (0, 0))) = W0 at T0 ⊢
  clear hW0
  (with_reducible refine (HF1.out _ (Kd.C_below HR1.out T0.hB)).mono ?_)
  rintro e W1 ⟨rfl, hb⟩
  have T1 := T0.keep hb
  have f0 := T1.f0
  clear T0 hb
  go_wp2_with fail
  (with_reducible refine (HF2.out _ (Kd.C_below HR2.out T1.hB)).mono ?_)
  rintro e W2 ⟨rfl, hd⟩
  have T2 := T1.keep hd.below
  clear T1 hd f0
  go_wp2_with fail
  (with_reducible refine (HF3.out _ (Kd.C_below HR2.out T2.hB)).mono ?_)
  rintro e W3 ⟨rfl, hb⟩
  have HT := Aside0.mk (T2.keep hb)
  clear T2 hb
  go_wp2_with fail
  go_loopw [8, 31] (fun _ v31 wr => ∃ (k : Nat) (x : Int) (f : Int → Option Int) (c : Nat), v31 = .int .i64 x ∧ Aside0 (x = k ∧ k ≤ l2.length) ∧ Aside0 (IMI wr W3.heap.size (2 * k) f c ∧ Known (l2.take k) f) ∧ Aside0 (UF w (.int .i64 v1) (.slice A1 l1.length c1) (.int .i64 0) (.slice none 0 0) wr)) (fun _ i _ => l2.length - (intOf i).toNat)
  case atStart => exact ⟨0, 0, fun _ => none, 0, rfl, ⟨rfl, Nat.zero_le _⟩, ⟨IM.made W3, fun v => by simp⟩, ⟨HT.out.keep ((Below.refl _ _).alloc (Nat.le_refl _) _)⟩⟩
  case round =>
    have HZ : Aside0 (w.heap.size + 2 ≤ W3.heap.size) := ⟨HT.out.hz⟩
    clear HT
    obtain ⟨k, x, f, c, rfl, HX, HM, HT⟩ := hrel
    obtain ⟨hxk, hk⟩ := HX.out
    by_cases hlt : k < l2.length
    · have p1 : 0 ≤ x := by omega
      have q1 : x < (l2.length : Int) := by omega
      obtain ⟨ad, e1, hcell⟩ := Kd.at_int (Kd.C_below HR2.out HT.out.hB) x p1 q1
      subst e1
      have p2 := eq_true p1
      have q2 := eq_true q1
      have q3 : decide (x < (l2.length : Int)) = true := decide_eq_true q1
      have HX2 : Aside0 (wrap64 (x + 1) = ((k + 1 : Nat) : Int) ∧ k + 1 ≤ l2.length) := by
        have := HN2.out
        exact ⟨by rw [w64 (by omega) (by omega)]; omega, by omega⟩
      have hm : (intOf (.int .i64 (wrap64 (x + 1)))).toNat = k + 1 := by rw [HX2.out.1]; simp [intOf]
      have hm0 : (intOf (.int .i64 x)).toNat = k := by rw [hxk]; simp [intOf]
      have HMS : Aside0 (l2.length - (intOf (.int .i64 (wrap64 (x + 1)))).toNat < l2.length - (intOf (.int .i64 x)).toNat) := ⟨by rw [hm, hm0]; omega⟩
      have hrd : rd l2 x = rd l2 (k : Int) := by rw [hxk]
      rw [hrd] at hcell
      have hin : rd l2 (k : Int) ∈ l2 := rd_mem hlt
      have HTK : Aside0 (l2.take (k + 1) = l2.take k ++ [rd l2 (k : Int)]) := ⟨take_rd hlt⟩
      have hfm := sound_mem HSND.out hin
      have hbd := formed_bd hfm
      have HNI : Aside0 (-(rd l2 (k : Int)) ∉ l2.take k) := ⟨fun h => HUT.out _ hin (List.mem_of_mem_take h)⟩
      have hn0 : rd l2 (k : Int) ≠ 0 := by
        intro h
        rw [h] at hfm
        cases hfm
      obtain ⟨y, hy⟩ : ∃ y, y = rd l2 (k : Int) := ⟨_, rfl⟩
      rw [← hy] at hcell hbd hn0 HNI HTK
      have hneg : wrap64 (-y) = -y := by rw [w64 (by omega) (by omega)]
      have HLT := Aside0.mk hlt
      have HBD := Aside0.mk hbd
      have HN0 := Aside0.mk hn0
      clear hfm hm hm0 hxk hk hlt p1 q1 hrd hy HX hbd hin hn0
      go_wp2_with (first
        | (at_mapUpdate; refine im_store_int _ Tryd.underlying3 rfl _ _ _ 62 rfl mapK Tryd.underlying62 rfl HM.out.1 (by have := HLT.out; have := HN2.out; unfold maxLen; omega) _ y 1 rfl rfl (hkeyI (by have := HBD.out; omega)) (by decide) ?_; intro w5 him5 hg5; have HM5 := Aside0.mk him5; have HG5 := Aside0.mk hg5; clear him5 hg5)
        | (at_mapUpdate; (refine im_store_int _ Tryd.underlying3 rfl _ _ _ 62 rfl mapK Tryd.underlying62 rfl HM5.out (by have := HLT.out; have := HN2.out; unfold maxLen; omega) _ (-y) (-1) (by first | rfl | go_simp) rfl (hkeyI (by have := HBD.out; omega)) (by decide) ?_; intro w6 him6 hg6; have HM6 := Aside0.mk him6; have HG6 := Aside0.mk hg6; clear him6 hg6)))
      go_roundw
      case measure => exact HMS.out
      case rel =>
        refine ⟨k + 1, _, _, _, rfl, HX2, ⟨IM.mono HM6.out (by omega), ?_⟩, ⟨(HT.out.grown HG5.out ?_).grown HG6.out ?_⟩⟩
        · rw [HTK.out]
          exact known_step HM.out.2 HN0.out HNI.out
        · rintro k' ⟨⟩
          exact HZ.out
        · rintro k' ⟨⟩
          exact HZ.out
    · obtain rfl : k = l2.length := by omega
      have q3 : decide (x < (l2.length : Int)) = false := decide_eq_false (by omega)
      have hkn := HM.out.2
      rw [List.take_length] at hkn
      have HKN := Aside0.mk hkn
      have f0 := HT.out.f0
      have TG := HT.out.keep (below_alloc (Below.refl _ _) (.cells #[.int .i64 v1, .slice none 0 0] 24 (0, 0)))
      have f1 := TG.f1
      have HTG := Aside0.mk TG
      have HBG := Aside0.mk (blk_new wr (.cells #[.int .i64 v1, .slice none 0 0] 24 (0, 0)))
      have HMG : Aside0 (IMI (wr.alloc (.cells #[.int .i64 v1, .slice none 0 0] 24 (0, 0))) W3.heap.size (2 * l2.length) f c) := ⟨HM.out.1.alloc _⟩
      clear hxk hk hlt HX hkn HR2 HF1 HF2 HF3 TG
      go_wp2_with fail
      have HGG : Aside0 (w.heap.size + 2 ≤ wr.heap.size) := ⟨HT.out.hz⟩
      clear f0 f1
      generalize wr.alloc (.cells #[.int .i64 v1, .slice none 0 0] 24 (0, 0)) = WG at *
      generalize wr.heap.size = gg at *
      go_loopw [11, 12, 13, 47] (fun _ _ _ v47 wr => ∃ (k : Nat) (x : Int) (u : Value), v47 = .int .i64 x ∧ Aside0 (x = k ∧ k ≤ l1.length) ∧ Aside0 (IMI wr W3.heap.size (2 * l2.length) f c) ∧ Aside0 (UF w (.int .i64 v1) (.slice A1 l1.length c1) (.int .i64 0) (.slice none 0 0) wr) ∧ Aside0 (wr.heap[gg]? = some (.cells #[.int .i64 v1, u] 24 (0, 0))) ∧ Aside0 (Kd.S (Kd.slice 3 (Kd.int .i64)) 40 wr w.heap.size (fun _ => True) u (leftAll l2 (l1.take k)))) (fun _ _ _ i _ => l1.length - (intOf i).toNat)
      case atStart => exact ⟨0, 0, .slice none 0 0, rfl, ⟨rfl, Nat.zero_le _⟩, HMG, HTG, HBG, ⟨Kd.S_nil _ _ _ _ _⟩⟩
      case round =>
        clear HT HM HMG HTG HBG
        obtain ⟨k, x', u, rfl, HX, HM, HT, HBG, HO⟩ := hrel
        obtain ⟨hxk, hk⟩ := HX.out
        by_cases hlt : k < l1.length
        · have p1 : 0 ≤ x' := by omega
          have q1 : x' < (l1.length : Int) := by omega
          obtain ⟨ad, A, cc, e1, hcell, hlc, hrow⟩ := row_at (Kd.C_below HR1.out HT.out.hB) x' p1 q1
          subst e1
          have p2 := eq_true p1
          have q2 := eq_true q1
          have q3' : decide (x' < (l1.length : Int)) = true := decide_eq_true q1
          have hgd : l1.getD x'.toNat [] = l1.getD k [] := by rw [hxk]; rfl
          rw [hgd] at hcell hrow hlc
          have hmem : l1.getD k [] ∈ l1 := by rw [List.getD_eq_getElem?_getD, List.getElem?_eq_getElem hlt]; exact List.getElem_mem hlt
          have HX2 : Aside0 (wrap64 (x' + 1) = ((k + 1 : Nat) : Int) ∧ k + 1 ≤ l1.length) := by
            have := HN.out
            exact ⟨by rw [w64 (by omega) (by omega)]; omega, by omega⟩
          have hm : (intOf (.int .i64 (wrap64 (x' + 1)))).toNat = k + 1 := by rw [HX2.out.1]; simp [intOf]
          have hm0 : (intOf (.int .i64 x')).toNat = k := by rw [hxk]; simp [intOf]
          have HMS : Aside0 (l1.length - (intOf (.int .i64 (wrap64 (x' + 1)))).toNat < l1.length - (intOf (.int .i64 x')).toNat) := ⟨by rw [hm, hm0]; omega⟩
          have HLR : Aside0 ((l1.getD k []).length ≤ 17592186044416) := ⟨HS.out _ hmem⟩
          have HFR : Aside0 (∀ y ∈ l1.getD k [], -9223372036854775808 ≤ y ∧ y ≤ 9223372036854775807) := ⟨fun y hy => by have := formed_bd (HFM.out _ hmem y hy); omega⟩
          have HLX : Aside0 ((leftAll l2 (l1.take k)).length < 5864062014805) := by
            have := leftAll_length l2 (l1.take k)
            rw [List.length_take] at this
            have := HN.out
            exact ⟨by omega⟩
          have HLK : Aside0 (leftIn f (l1.getD k []) = if underO l2 (l1.getD k []) = true then ([], false) else (underP l2 (l1.getD k []), true)) := ⟨leftIn_known HKN.out⟩
          have HTK : Aside0 (leftAll l2 (l1.take (k + 1)) = leftAll l2 (l1.take k) ++ (if underO l2 (l1.getD k []) = true then [] else [underP l2 (l1.getD k [])])) := ⟨leftAll_take hlt⟩
          have HROW := Aside0.mk hrow
          clear hm hm0 hxk hk hlt p1 q1 hrow hlc hmem HX hgd
          generalize l1.getD k [] = row at *
          have L := leftOf_calls A cc row W3.heap.size (2 * l2.length) c f wr HROW.out HLR.out HFR.out HM.out
          rw [HLK.out] at L
          by_cases ho : underO l2 row = true
          · rw [if_pos ho] at L
            have htk := HTK.out
            rw [if_pos ho, List.append_nil] at htk
            have HTK2 := Aside0.mk htk
            clear htk HTK HLK ho
            go_wp2_with (go_at_call 40; (with_reducible refine L.mono ?_); rintro e w5 ⟨v5, rfl, ho5, hb5⟩; have HB5 := Aside0.mk hb5; clear ho5 hb5)
            go_roundw
            case measure => exact HMS.out
            case rel => exact ⟨k + 1, _, u, rfl, HX2, ⟨IM.below HM.out HB5.out⟩, ⟨HT.out.keep HB5.out⟩, ⟨blk_below HBG.out HB5.out⟩, ⟨by rw [HTK2.out]; exact Kd.S_below HO.out HB5.out⟩⟩
          · rw [if_neg ho] at L
            have htk := HTK.out
            rw [if_neg ho] at htk
            have HTK2 := Aside0.mk htk
            clear htk HTK HLK ho
            generalize underP l2 row = left at *
            generalize leftAll l2 (l1.take k) = ys at *
            have k1 := blk_cell HBG.out 1
            go_wp2_with (first
              | (go_at_call 40; (with_reducible refine L.mono ?_); rintro e w5 ⟨v5, rfl, ho5, hb5⟩; have HB5 := Aside0.mk hb5; have HO5 := Aside0.mk (Kd.R_lower (own_R ho5) HT.out.hB.size); have HO6 := Aside0.mk (Kd.S_elder' (v := v5) HO.out (fun k hk => own_base ho5 k hk) hb5); have HBG5 := Aside0.mk (blk_below HBG.out hb5); have HT5 := Aside0.mk (HT.out.keep hb5); have HM5 := Aside0.mk (IM.below HM.out hb5); have k15 := (blk_cell HBG5.out 1).trans rfl; clear ho5 hb5; obtain ⟨Ao, co, eo⟩ := Kd.R_slice HO5.out; subst eo)
              | ((with_reducible refine gate_builtin (b := .append) (xs := #[.tmp 59, .tmp 61]) rfl ?_); at_builtin; (refine Kd.S_append (Kd.slice 3 (Kd.int .i64)) (w0 := w) w.heap.size rfl (.tmp 59) (.tmp 61) 22 40 (.slice none 0 0) 24 rfl Tryd.underlying22 infoRow rfl (by decide) (by omega) u ys left [.slice Ao left.length co] (fun _ => True) (fun k_ => some k_ = (.slice Ao left.length co : Value).ownBlock) rfl rfl ?aP (fun k_ hk_ => ((Kd.R_mono (ok' := fun k_ => ((fun _ => True)) k_ ∧ some k_ ≠ (u : Value).ownBlock) (Kd.R_apart' (HO5.out) (Kd.S_typed HO6.out) (by decide)) (fun k_ hk => ⟨trivial, hk.2⟩))).1 k_ hk_.symm) ?aF ?aO ?aB ?aS ?aL ?_; (case aP => exact Kd.M_row (Kd.R_mono (Kd.R_tight rfl (Kd.R_mono (ok' := fun k_ => ((fun _ => True)) k_ ∧ some k_ ≠ (u : Value).ownBlock) (Kd.R_apart' (HO5.out) (Kd.S_typed HO6.out) (by decide)) (fun k_ hk => ⟨trivial, hk.2⟩))) (fun _ h_ => h_))); (case aB => exact HT5.out.hB); (case aF => exact (fun _ _ => trivial)); (case aO => exact (Kd.S_mono HO6.out (fun k_ hk => ⟨trivial, fun e_ => hk.2 e_⟩))); (case aS => exact HT5.out.hB.size); (case aL => have := HLX.out; omega); intro v6 w6 ho hb hg hat; have HO7 := Aside0.mk ho; have HBG6 := Aside0.mk (blk_grown HBG5.out hg (Kd.S_ne HO6.out HBG5.out (by decide))); have HT6 := Aside0.mk (HT5.out.grown2 hb hg (Kd.S_ne HO6.out HT5.out.b0 (by decide)) (Kd.S_ne HO6.out HT5.out.b1 (by decide))); have HM6 := Aside0.mk (HM5.out.kept hg (fun e => by obtain ⟨cells, hc⟩ := Kd.S_typed HO6.out _ e.symm; exact im_ne HM5.out hc rfl)); have k16 := (blk_cell HBG6.out 1).trans rfl; have y16 := blk_frozen HBG6.out 1; clear ho hb hg hat; obtain ⟨Ap, cp, ep⟩ := Kd.S_slice HO7.out; subst ep)))
            go_roundw
            case measure => exact HMS.out
            case rel =>
              have h7 := HO7.out
              rw [show (ys ++ [left]).length = ys.length + 1 by simp] at h7
              exact ⟨k + 1, _, _, rfl, HX2, ⟨HM6.out.setCell (im_ne HM6.out HBG6.out) _⟩, ⟨HT6.out.setCell HGG.out _⟩, ⟨blk_put HBG6.out 1 _ rfl⟩, ⟨by rw [HTK2.out]; exact Kd.S_mono (Kd.S_far (p := ⟨gg, 1, none⟩) (Kd.S_types h7 HBG6.out (by decide)) (fun _ hk => hk.2) _) (fun _ _ => trivial)⟩⟩
        · obtain rfl : k = l1.length := by omega
          have q3' : decide (x' < (l1.length : Int)) = false := decide_eq_false (by omega)
          have ho := HO.out
          rw [List.take_length] at ho
          have HO2 := Aside0.mk ho
          have k0 := (blk_cell HBG.out 0).trans rfl
          have k1 := (blk_cell HBG.out 1).trans rfl
          have g0 := HT.out.g0
          have g1 := HT.out.g1
          have y0 := HT.out.y0
          have y1 := HT.out.y1
          obtain ⟨Au, cu, eu⟩ := Kd.S_slice HO2.out
          subst eu
          clear hxk hk hlt HX HO ho
          go_wp2_with fail
          have e0 := (blk_cell (blk_put (blk_put HT.out.b1 0 (.int .i64 v1) rfl) 1 (.slice Au (leftAll l2 l1).length cu) rfl) 0).trans rfl
          have e1 := (blk_cell (blk_put (blk_put HT.out.b1 0 (.int .i64 v1) rfl) 1 (.slice Au (leftAll l2 l1).length cu) rfl) 1).trans rfl
          refine bodyPost_ret (v := .tuple #[.agg #[.int .i64 v1, .slice Au (leftAll l2 l1).length cu], .int .i64 0]) (by simp [results, Tryd.results21, go_sem, g0, g1]) rfl ?_
          refine ⟨_, rfl, ?_, (HT.out.hB.setCell (p := ⟨w.heap.size + 1, 0, none⟩) (show w.heap.size ≤ w.heap.size + 1 by omega) _).setCell (p := ⟨w.heap.size + 1, 1, none⟩) (show w.heap.size ≤ w.heap.size + 1 by omega) _⟩
          have b2 := blk_put HT.out.b1 0 (.int .i64 v1) rfl
          exact Kd.S_set (Kd.S_set HO2.out HT.out.b1 (by decide) 0 _) b2 (by decide) 1 _
theorem under_calls (v1 : Int) (A1 A2 : Option Addr) (c1 c2 : Nat) (l1 : List (List Int)) (l2 : List Int) (w : World) (hr1 : Kd.C (Kd.slice 3 (Kd.int .i64)) w A1 l1.length l1) (hc1 : l1.length ≤ c1) (hr2 : Kd.C (Kd.int .i64) w A2 l2.length l2) (hc2 : l2.length ≤ c2)
    (hn : l1.length ≤ 5864062014805) (hs : ∀ c ∈ l1, c.length ≤ 17592186044416) (hn2 : l2.length ≤ 17592186044416) :
    Calls Tryd.prog 21 #[.agg #[.int .i64 v1, .slice A1 l1.length c1], .slice A2 l2.length c2] w fun e w' => ∃ v : Value, e = .returned (.tuple #[.agg #[.int .i64 (underOf v1 l1 l2).1, v], .int .i64 (underOf v1 l1 l2).2.2]) ∧ Kd.S (Kd.slice 3 (Kd.int .i64)) 40 w' w.heap.size (fun _ => True) v (underOf v1 l1 l2).2.1 ∧ Below w.heap.size w w' := by
  unfold underOf
  by_cases hg : (isFormula v1 l1 && within l2 v1) = true
  · rw [if_pos hg]
    have hg2 := hg
    rw [Bool.and_eq_true] at hg2
    by_cases ht : tautIn (tidyOf l2) = true
    · rw [if_pos ht]
      refine (under_taut v1 A1 A2 c1 c2 l1 l2 w hr1 hc1 hr2 hc2 hn hs hn2 hg2.1 hg2.2 ht).mono ?_
      rintro e w' ⟨he, hb⟩
      exact ⟨_, he, Kd.S_nil _ _ _ _ _, hb⟩
    · rw [if_neg ht]
      exact under_good v1 A1 A2 c1 c2 l1 l2 w hr1 hc1 hr2 hc2 hn hs hn2 hg2.1 hg2.2 (by simpa using ht)
  · rw [if_neg hg]
    refine (under_bad v1 A1 A2 c1 c2 l1 l2 w hr1 hc1 hr2 hc2 hn hs hn2 (by simpa using hg)).mono ?_
    rintro e w' ⟨he, hb⟩
    exact ⟨_, he, Kd.S_nil _ _ _ _ _, hb⟩
end Go.Proofs.YtggnnnddnppcpaaDoorHand
