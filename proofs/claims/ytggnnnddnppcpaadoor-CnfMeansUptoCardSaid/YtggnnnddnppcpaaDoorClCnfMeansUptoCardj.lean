/- What cnf.Tidy answers. -/
import Derived.Test.YtggnnnddnppcpaaDoorClCnfMeansUptoCardi
import Derived.Test.YtggnnnddnppcpaaDoorClCnfMeansUptoCardg
import Derived.Deep.RegionHeld3
/-! text YtggnnnddnppcpaaDoorCnfTidyW -/
namespace Go.Proofs.YtggnnnddnppcpaaDoorHand
open Go.RowKit Go.Proofs.YtggnnnddnppcpaaDoorW.PrintWords Go.Proofs.YtggnnnddnppcpaaDoorW.PrintLast Go.Proofs.YtggnnnddnppcpaaDoorMath Go.Proofs.YtggnnnddnppcpaaDoorMaps Go.Maps
set_option linter.unusedVariables false
set_option linter.unusedSimpArgs false
abbrev IMS (W : World) (B n : Nat) (f : List UInt8 → Option Int) (c : Nat) : Prop := IM Tryd.prog 9 strKeys (intElem Tryd.prog 3 Tryd.underlying3) W B n f c
theorem mapS : Keyed Tryd.prog 9 := string_keyed Tryd.underlying9
theorem hkeyS {l : List UInt8} (h : l.length ≤ maxLen) : keyOf Tryd.prog 9 (.string ⟨l.toArray⟩) = some (strKeys.kl l) := by
  have := Go.WideMaps.keyOf_string_mk (P := Tryd.prog) Tryd.underlying9 (s := ⟨l.toArray⟩) h
  exact this
theorem ims_look_run {W : World} {B n c : Nat} {f : List UInt8 → Option Int} (h : IMS W B n f c) (l : List UInt8) (hl : l.length ≤ maxLen) : (Instr.lookup 50 (.map (some B)) (.string ⟨l.toArray⟩) false).run Tryd.prog W = .ok (.int .i64 ((f l).getD 0)) W :=
  h.look mapS Tryd.underlying50 (z := (0 : Int)) (zeroI _) (show (Lit.int .i64 0).wf = true by decide) (hkeyS hl)
theorem ims_ne {W : World} {B n c g t : Nat} {f : List UInt8 → Option Int} {cells : Array Value} {z : Nat × Nat} (h : IMS W B n f c) (hb : W.heap[g]? = some (.cells cells t z)) : B ≠ g := by
  rintro rfl
  obtain ⟨D, ⟨es, clock, h1, _⟩, _⟩ := h
  rw [hb] at h1
  cases h1
theorem S_imap {α : Type} {d : Kd α} {e base : Nat} {ok : Nat → Prop} {W w1 : World} {v : Value} {xs : List α} {B n c : Nat} {f : List UInt8 → Option Int} (h : Kd.S d e W base ok v xs) (hm : IMS W B n f c) (hg : W.grownBy w1 (some B)) : Kd.S d e w1 base ok v xs := by
  refine Kd.S_mono (Kd.S_move (Kd.S_bound h) (fun k hk => hg.block k hk.2.2.1 (fun he => ?_))) (fun _ hk => hk.1)
  injection he with he
  subst he
  obtain ⟨_, _, _, q, hq, cells, hc⟩ := hk
  exact ims_ne hm hc rfl
theorem R_imapS {α : Type} {d : Kd α} {e base : Nat} {ok : Nat → Prop} {W w1 : World} {v : Value} {xs : List α} {B n c : Nat} {f : List UInt8 → Option Int} (h : Kd.R d e W base ok v xs) (hm : IMS W B n f c) (hg : W.grownBy w1 (some B)) : Kd.R d e w1 base ok v xs := by
  refine Kd.R_mono (Kd.R_move (Kd.R_bound h) (fun k hk => hg.block k hk.2.2.1 (fun he => ?_))) (fun _ hk => hk.1)
  injection he with he
  subst he
  obtain ⟨_, _, _, q, hq, cells, hc⟩ := hk
  exact ims_ne hm hc rfl
theorem wf_natS {q : Nat} (h : q ≤ 35184372088832) : (Lit.int .i64 ((q + 1 : Nat) : Int)).wf = true := WalkArith.wf_i64 (by omega)
theorem w64_natS {q : Nat} (h : q ≤ 35184372088832) : wrap64 ((q : Int) + 1) = ((q + 1 : Nat) : Int) := w64s (by omega)
set_option maxHeartbeats 8000000 in
set_option maxRecDepth 100000 in
theorem tidied_bad (v1 : Int) (A1 : Option Addr) (c1 : Nat) (l1 : List (List Int)) (w : World) (hr1 : Kd.C (Kd.slice 3 (Kd.int .i64)) w A1 l1.length l1) (hc1 : l1.length ≤ c1)
    (hn : l1.length ≤ 5864062014805) (hs : ∀ c ∈ l1, c.length ≤ 17592186044416) (hbad : isFormula v1 l1 = false) :
    Calls Tryd.prog 6 #[.agg #[.int .i64 v1, .slice A1 l1.length c1]] w fun e w' => e = .returned (.tuple #[.agg #[.int .i64 0, .slice none 0 0], .int .i64 1]) ∧ Below w.heap.size w w' := by
  have HR1 := Aside0.mk hr1
  have F1 := fun W h => isFormula_calls v1 A1 c1 l1 W h hc1 (by omega) hs
  rw [hbad] at F1
  have HF1 := Aside0.mk F1
  clear F1 hr1 hc1 hn hs hbad
  go_enter Tryd.func6, Tryd.ntmps6
  go_wp2_with fail
  have T0 := uf w (.int .i64 v1) (.slice A1 l1.length c1) (.int .i64 0) (.slice none 0 0)
  generalize hW0 : ((w.alloc (.cells #[.int .i64 v1, .slice A1 l1.length c1] 24 (0, 0))).alloc (.cells #[.int .i64 0, .slice none 0 0] 24 (0, 0))) = W0 at T0 ⊢
  clear hW0
  (with_reducible refine (HF1.out _ (Kd.C_below HR1.out T0.hB)).mono ?_)
  rintro e W1 ⟨rfl, hb⟩
  have T1 := T0.keep hb
  have HT := Aside0.mk T1
  have k0 := T1.g0
  have k1 := T1.g1
  have y0 := T1.y0
  have y1 := T1.y1
  clear T0 hb T1
  go_wp2_with fail
  refine bodyPost_ret (v := .tuple #[.agg #[.int .i64 0, .slice none 0 0], .int .i64 1]) (by simp [results, Tryd.results6, go_sem, k0, k1]) rfl ?_
  exact ⟨rfl, (HT.out.hB.setCell (p := ⟨w.heap.size + 1, 0, none⟩) (show w.heap.size ≤ w.heap.size + 1 by omega) _).setCell (p := ⟨w.heap.size + 1, 1, none⟩) (show w.heap.size ≤ w.heap.size + 1 by omega) _⟩
theorem stepN {q : Nat} {f : List UInt8 → Option Int} {K : List (List Int)} {t : List Int} (h : NTally (upd f (nameOf t) ((q : Int) + 1)) (K ++ [t])) : NTally (upd f (nameOf t) ((q + 1 : Nat) : Int)) (K ++ [t]) := by
  rw [show ((q + 1 : Nat) : Int) = (q : Int) + 1 by omega]; exact h
set_option maxHeartbeats 8000000 in
set_option maxRecDepth 100000 in
theorem tidied_good (v1 : Int) (A1 : Option Addr) (c1 : Nat) (l1 : List (List Int)) (w : World) (hr1 : Kd.C (Kd.slice 3 (Kd.int .i64)) w A1 l1.length l1) (hc1 : l1.length ≤ c1)
    (hn : l1.length ≤ 5864062014805) (hs : ∀ c ∈ l1, c.length ≤ 17592186044416) (hf1 : isFormula v1 l1 = true) (htab : Tab w) :
    Calls Tryd.prog 6 #[.agg #[.int .i64 v1, .slice A1 l1.length c1]] w fun e w' => ∃ v : Value, e = .returned (.tuple #[.agg #[.int .i64 v1, v], .int .i64 0]) ∧ Kd.S (Kd.slice 3 (Kd.int .i64)) 40 w' w.heap.size (fun _ => True) v (tidyAll l1) ∧ Below w.heap.size w w' := by
  have HR1 := Aside0.mk hr1
  have F1 := fun W h => isFormula_calls v1 A1 c1 l1 W h hc1 (by omega) hs
  rw [hf1] at F1
  have HF1 := Aside0.mk F1
  have HN := Aside0.mk hn
  have HS := Aside0.mk hs
  have HTAB := Aside0.mk htab
  have hmm := @run_makeMap Tryd.prog
  clear F1 hr1 hc1 hn hs hf1 htab
  go_enter Tryd.func6, Tryd.ntmps6
  go_wp2_with fail
  have T0 := uf w (.int .i64 v1) (.slice A1 l1.length c1) (.int .i64 0) (.slice none 0 0)
  generalize hW0 : ((w.alloc (.cells #[.int .i64 v1, .slice A1 l1.length c1] 24 (0, 0))).alloc (.cells #[.int .i64 0, .slice none 0 0] 24 (0, 0))) = W0 at T0 ⊢
  clear hW0
  (with_reducible refine (HF1.out _ (Kd.C_below HR1.out T0.hB)).mono ?_)
  rintro e W1 ⟨rfl, hb⟩
  have T1 := T0.keep hb
  have f0 := T1.f0
  have HT0 := Aside0.mk T1
  have TG := T1.keep (below_alloc (Below.refl _ _) (.cells #[.int .i64 v1, .slice none 0 0] 24 (0, 0)))
  have TM := TG.keep (below_alloc (Below.refl _ _) (.map #[] 0))
  have f1 := TM.f1
  have HBM : Aside0 (((W1.alloc (.cells #[.int .i64 v1, .slice none 0 0] 24 (0, 0))).alloc (.map #[] 0)).heap[W1.heap.size]? = some (.cells #[.int .i64 v1, .slice none 0 0] 24 (0, 0))) := ⟨blk_alloc (blk_new _ _) _⟩
  have HTM := Aside0.mk TM
  have HIM : Aside0 (IMS ((W1.alloc (.cells #[.int .i64 v1, .slice none 0 0] 24 (0, 0))).alloc (.map #[] 0)) (W1.heap.size + 1) 0 (fun _ => none) 0) := ⟨by have := IM.made (P := Tryd.prog) (k := 9) (Ky := strKeys) (E := intElem Tryd.prog 3 Tryd.underlying3) (W1.alloc (.cells #[.int .i64 v1, .slice none 0 0] 24 (0, 0))); rwa [World.size_alloc] at this⟩
  have HZG : Aside0 (w.heap.size + 2 ≤ W1.heap.size) := ⟨T1.hz⟩
  clear T0 hb T1 TG TM
  go_wp2_with fail
  generalize (W1.alloc (.cells #[.int .i64 v1, .slice none 0 0] 24 (0, 0))).alloc (.map #[] 0) = WM at *
  generalize hBB : W1.heap.size + 1 = BB at *
  have HZM : Aside0 (w.heap.size + 2 ≤ BB) := ⟨by have := HZG.out; omega⟩
  generalize W1.heap.size = gg at *
  clear hBB HT0 f0 HF1
  go_loopw [7, 8, 20] (fun _ _ v20 wr => ∃ (k : Nat) (x : Int) (u : Value) (f : List UInt8 → Option Int) (cnt : Nat), v20 = .int .i64 x ∧ Aside0 (x = k ∧ k ≤ l1.length) ∧ Aside0 (IMS wr BB k f cnt) ∧ Aside0 (NTally f ((l1.take k).map tidyOf)) ∧ Aside0 (UF w (.int .i64 v1) (.slice A1 l1.length c1) (.int .i64 0) (.slice none 0 0) wr) ∧ Aside0 (wr.heap[gg]? = some (.cells #[.int .i64 v1, u] 24 (0, 0))) ∧ Aside0 (Kd.S (Kd.slice 3 (Kd.int .i64)) 40 wr w.heap.size (fun _ => True) u (tidyAll (l1.take k)))) (fun _ _ i _ => l1.length - (intOf i).toNat)
  case atStart => exact ⟨0, 0, .slice none 0 0, _, 0, rfl, ⟨rfl, Nat.zero_le _⟩, HIM, ⟨fun c => by simp⟩, HTM, HBM, ⟨Kd.S_nil _ _ _ _ _⟩⟩
  case round =>
    clear HIM HTM HBM f1
    obtain ⟨k, x, u, f, cnt, rfl, HX, HM, HNT, HT, HBG, HO⟩ := hrel
    obtain ⟨hxk, hk⟩ := HX.out
    by_cases hlt : k < l1.length
    · have p1 : 0 ≤ x := by omega
      have q1 : x < (l1.length : Int) := by omega
      obtain ⟨ad, A, cc, e1, hcell, hlc, hrow⟩ := row_at (Kd.C_below HR1.out HT.out.hB) x p1 q1
      subst e1
      have p2 := eq_true p1
      have q2 := eq_true q1
      have q3 : decide (x < (l1.length : Int)) = true := decide_eq_true q1
      have hgd : l1.getD x.toNat [] = l1.getD k [] := by rw [hxk]; rfl
      rw [hgd] at hcell hrow hlc
      have hmem : l1.getD k [] ∈ l1 := by rw [List.getD_eq_getElem?_getD, List.getElem?_eq_getElem hlt]; exact List.getElem_mem hlt
      have HX2 : Aside0 (wrap64 (x + 1) = ((k + 1 : Nat) : Int) ∧ k + 1 ≤ l1.length) := by
        have := HN.out
        exact ⟨by rw [w64 (by omega) (by omega)]; omega, by omega⟩
      have hm : (intOf (.int .i64 (wrap64 (x + 1)))).toNat = k + 1 := by rw [HX2.out.1]; simp [intOf]
      have hm0 : (intOf (.int .i64 x)).toNat = k := by rw [hxk]; simp [intOf]
      have HMS : Aside0 (l1.length - (intOf (.int .i64 (wrap64 (x + 1)))).toNat < l1.length - (intOf (.int .i64 x)).toNat) := ⟨by rw [hm, hm0]; omega⟩
      have TD := tidy_calls A cc (l1.getD k []) wr hrow hlc (HS.out _ hmem)
      have HTK := Aside0.mk (tidyAll_take hlt)
      have HKM : Aside0 ((l1.take (k + 1)).map tidyOf = (l1.take k).map tidyOf ++ [tidyOf (l1.getD k [])]) := ⟨by rw [List.take_add_one, List.getElem?_eq_getElem hlt, List.getD_eq_getElem?_getD, List.getElem?_eq_getElem hlt, List.map_append]; rfl⟩
      have HTS : Aside0 ((tidyOf (l1.getD k [])).length ≤ 4194304) := ⟨by have := tidyOf_small (l1.getD k []); omega⟩
      have HTB : Aside0 (∀ y ∈ tidyOf (l1.getD k []), -1048576 ≤ y ∧ y ≤ 1048576) := ⟨fun y hy => formed_bd (tidyOf_formed hy)⟩
      have HTT : Aside0 (tidyOf (tidyOf (l1.getD k [])) = tidyOf (l1.getD k [])) := ⟨tidyOf_tidyOf _⟩
      have HLX : Aside0 ((tidyAll (l1.take k)).length < 5864062014805) := by
        have := tidyAll_length (l1.take k)
        rw [List.length_take] at this
        have := HN.out
        exact ⟨by omega⟩
      have HQ := Aside0.mk (HNT.out (tidyOf (l1.getD k [])))
      have HQC : Aside0 (((l1.take k).map tidyOf).count (tidyOf (l1.getD k [])) ≤ 35184372088832) := ⟨by
        have h1 := List.count_le_length (a := tidyOf (l1.getD k [])) (l := (l1.take k).map tidyOf)
        rw [List.length_map, List.length_take] at h1
        have := HN.out
        omega⟩
      have HMM : Aside0 (0 < ((l1.take k).map tidyOf).count (tidyOf (l1.getD k [])) ↔ tidyOf (l1.getD k []) ∈ (l1.take k).map tidyOf) := ⟨List.count_pos_iff⟩
      have HNS := Aside0.mk (ntally_snoc HNT.out (tidyOf (l1.getD k [])))
      have HLTM : Aside0 (k < maxLen) := ⟨by have := HN.out; unfold maxLen; omega⟩
      have HNM : Aside0 ((nameOf (tidyOf (l1.getD k []))).length ≤ maxLen) := ⟨by
        have h1 := nameOf_length (c := tidyOf (l1.getD k [])) fun y hy => by have := HTB.out y hy; omega
        have := HTS.out
        unfold maxLen
        omega⟩
      clear hm hm0 hxk hk hlt p1 q1 hrow hlc hmem HX hgd HNT
      rw [← HKM.out] at HNS
      generalize ((l1.take k).map tidyOf).count (tidyOf (l1.getD k [])) = q at *
      generalize tidyOf (l1.getD k []) = t at *
      generalize tidyAll (l1.take k) = ys at *
      generalize l1.getD k [] = row at *
      rcases Nat.eq_zero_or_pos q with hq | hq
      · subst hq
        have hw : wrap64 (((0 : Nat) : Int) + 1) = 1 := by rw [w64 (by omega) (by omega)]; rfl
        have hw' : wrap64 ((0 : Int) + 1) = 1 := by rw [w64 (by omega) (by omega)]; rfl
        have HQL : Aside0 ((Lit.int .i64 1).wf = true) := ⟨by decide⟩
        have hnm : ¬ (t ∈ (l1.take k).map tidyOf) := fun h => absurd (HMM.out.2 h) (Nat.lt_irrefl 0)
        cases htt : tautIn t with
        | true =>
          have HTK2 : Aside0 (tidyAll (l1.take (k + 1)) = ys) := ⟨by rw [HTK.out, if_pos (.inr htt), List.append_nil]⟩
          have HTAU := Aside0.mk htt
          clear hnm htt HTK HMM
          go_wp2_with (first
            | (go_at_call 22; go_loud ((with_reducible refine TD.mono ?_); rintro e w5 ⟨v5, rfl, ho5, hb5⟩; have HB5 := Aside0.mk hb5; have HO5 := Aside0.mk (Kd.R_lower ho5 HT.out.hB.size); have HO6 := Aside0.mk (Kd.S_elder' (v := v5) HO.out (fun k hk => ((Kd.R_bound ho5).1 k hk).2.1) hb5); have HBG5 := Aside0.mk (blk_below HBG.out hb5); have HT5 := Aside0.mk (HT.out.keep hb5); have HM5 := Aside0.mk (IM.below HM.out hb5); clear ho5 hb5; obtain ⟨Ao, co, eo⟩ := Kd.R_slice HO5.out; subst eo))
            | (go_at_call 23; go_loud ((with_reducible refine (name_calls Ao co t w5 (Kd.R_reads' HO5.out).2.2 HTS.out HTB.out (HTAB.out.on (HT5.out.hB))).mono ?_); rintro e w6 ⟨rfl, hb6⟩; have HO56 := Aside0.mk (Kd.R_below HO5.out hb6); have HO66 := Aside0.mk (Kd.S_below HO6.out hb6); have HBG6 := Aside0.mk (blk_below HBG5.out hb6); have HT6 := Aside0.mk (HT5.out.keep hb6); have HM6 := Aside0.mk (IM.below HM5.out hb6); clear hb6; have L1 := ims_look_run HM6.out (nameOf t) HNM.out; rw [HQ.out] at L1))
            | (at_mapUpdate; refine im_store_int _ Tryd.underlying3 rfl _ _ _ 50 rfl mapS Tryd.underlying50 rfl HM6.out HLTM.out _ (nameOf t) 1 rfl (by first | rfl | go_simp) (hkeyS HNM.out) HQL.out ?_; intro w7 him7 hg7; have HM7 := Aside0.mk him7; have HO57 := Aside0.mk (R_imapS HO56.out HM6.out hg7); have HO67 := Aside0.mk (S_imap HO66.out HM6.out hg7); have HBG7 := Aside0.mk (blk_grown HBG6.out hg7 (by have := ims_ne HM6.out HBG6.out; intro e; injection e with e; exact this e.symm)); have HT7 := Aside0.mk (HT6.out.grown hg7 (by rintro k' ⟨⟩; exact HZM.out)); clear him7 hg7; have L2 := ims_look_run HM7.out (nameOf t) HNM.out; rw [upd_same, Option.getD_some] at L2)
            | (go_at_call 24; (with_reducible refine (taut_calls Ao co t w7 (Kd.R_reads' HO57.out).2.2 (Kd.R_reads' HO57.out).2.1 (by have := HTS.out; omega)).mono ?_); rintro e w8 ⟨rfl, hb8⟩; have HO58 := Aside0.mk (Kd.R_below HO57.out hb8); have HO68 := Aside0.mk (Kd.S_below HO67.out hb8); have HBG8 := Aside0.mk (blk_below HBG7.out hb8); have HT8 := Aside0.mk (HT7.out.keep hb8); have HM8 := Aside0.mk (IM.below HM7.out hb8); clear hb8; rw [HTT.out, HTAU.out]))
          go_roundw
          case measure => exact HMS.out
          case rel => exact ⟨k + 1, _, u, _, _, rfl, HX2, HM8, ⟨HNS.out⟩, HT8, HBG8, ⟨by rw [HTK2.out]; exact Kd.S_mono HO68.out (fun _ _ => trivial)⟩⟩
        | false =>
          have HTK2 : Aside0 (tidyAll (l1.take (k + 1)) = ys ++ [t]) := ⟨by rw [HTK.out, if_neg (by rintro (h | h); exact hnm h; rw [htt] at h; cases h)]⟩
          have HTAU := Aside0.mk htt
          clear hnm htt HTK HMM
          go_wp2_with (first
            | (go_at_call 22; go_loud ((with_reducible refine TD.mono ?_); rintro e w5 ⟨v5, rfl, ho5, hb5⟩; have HB5 := Aside0.mk hb5; have HO5 := Aside0.mk (Kd.R_lower ho5 HT.out.hB.size); have HO6 := Aside0.mk (Kd.S_elder' (v := v5) HO.out (fun k hk => ((Kd.R_bound ho5).1 k hk).2.1) hb5); have HBG5 := Aside0.mk (blk_below HBG.out hb5); have HT5 := Aside0.mk (HT.out.keep hb5); have HM5 := Aside0.mk (IM.below HM.out hb5); clear ho5 hb5; obtain ⟨Ao, co, eo⟩ := Kd.R_slice HO5.out; subst eo))
            | (go_at_call 23; go_loud ((with_reducible refine (name_calls Ao co t w5 (Kd.R_reads' HO5.out).2.2 HTS.out HTB.out (HTAB.out.on (HT5.out.hB))).mono ?_); rintro e w6 ⟨rfl, hb6⟩; have HO56 := Aside0.mk (Kd.R_below HO5.out hb6); have HO66 := Aside0.mk (Kd.S_below HO6.out hb6); have HBG6 := Aside0.mk (blk_below HBG5.out hb6); have HT6 := Aside0.mk (HT5.out.keep hb6); have HM6 := Aside0.mk (IM.below HM5.out hb6); clear hb6; have L1 := ims_look_run HM6.out (nameOf t) HNM.out; rw [HQ.out] at L1))
            | (at_mapUpdate; refine im_store_int _ Tryd.underlying3 rfl _ _ _ 50 rfl mapS Tryd.underlying50 rfl HM6.out HLTM.out _ (nameOf t) 1 rfl (by first | rfl | go_simp) (hkeyS HNM.out) HQL.out ?_; intro w7 him7 hg7; have HM7 := Aside0.mk him7; have HO57 := Aside0.mk (R_imapS HO56.out HM6.out hg7); have HO67 := Aside0.mk (S_imap HO66.out HM6.out hg7); have HBG7 := Aside0.mk (blk_grown HBG6.out hg7 (by have := ims_ne HM6.out HBG6.out; intro e; injection e with e; exact this e.symm)); have HT7 := Aside0.mk (HT6.out.grown hg7 (by rintro k' ⟨⟩; exact HZM.out)); clear him7 hg7; have L2 := ims_look_run HM7.out (nameOf t) HNM.out; rw [upd_same, Option.getD_some] at L2)
            | (go_at_call 24; (with_reducible refine (taut_calls Ao co t w7 (Kd.R_reads' HO57.out).2.2 (Kd.R_reads' HO57.out).2.1 (by have := HTS.out; omega)).mono ?_); rintro e w8 ⟨rfl, hb8⟩; have HO58 := Aside0.mk (Kd.R_below HO57.out hb8); have HO68 := Aside0.mk (Kd.S_below HO67.out hb8); have HBG8 := Aside0.mk (blk_below HBG7.out hb8); have HT8 := Aside0.mk (HT7.out.keep hb8); have HM8 := Aside0.mk (IM.below HM7.out hb8); clear hb8; rw [HTT.out, HTAU.out]; have k8 := (blk_cell HBG8.out 1).trans rfl)
            | ((with_reducible refine gate_builtin (b := .append) (xs := #[.tmp 42, .tmp 44]) rfl ?_); at_builtin; (refine Kd.S_append (Kd.slice 3 (Kd.int .i64)) (w0 := w) w.heap.size rfl (.tmp 42) (.tmp 44) 22 40 (.slice none 0 0) 24 rfl Tryd.underlying22 infoRow rfl (by decide) (by omega) u ys t [.slice Ao t.length co] (fun _ => True) (fun k_ => some k_ = (.slice Ao t.length co : Value).ownBlock) rfl rfl ?aP (fun k_ hk_ => ((Kd.R_mono (ok' := fun k_ => ((fun _ => True)) k_ ∧ some k_ ≠ (u : Value).ownBlock) (Kd.R_apart' (HO58.out) (Kd.S_typed HO68.out) (by decide)) (fun k_ hk => ⟨trivial, hk.2⟩))).1 k_ hk_.symm) ?aF ?aO ?aB ?aS ?aL ?_; (case aP => exact Kd.M_row (Kd.R_mono (Kd.R_tight rfl (Kd.R_mono (ok' := fun k_ => ((fun _ => True)) k_ ∧ some k_ ≠ (u : Value).ownBlock) (Kd.R_apart' (HO58.out) (Kd.S_typed HO68.out) (by decide)) (fun k_ hk => ⟨trivial, hk.2⟩))) (fun _ h_ => h_))); (case aB => exact HT8.out.hB); (case aF => exact (fun _ _ => trivial)); (case aO => exact (Kd.S_mono HO68.out (fun k_ hk => ⟨trivial, fun e_ => hk.2 e_⟩))); (case aS => exact HT8.out.hB.size); (case aL => have := HLX.out; omega); intro v9 w9 ho hb hg hat; have HO9 := Aside0.mk ho; have HBG9 := Aside0.mk (blk_grown HBG8.out hg (Kd.S_ne HO68.out HBG8.out (by decide))); have HT9 := Aside0.mk (HT8.out.grown2 hb hg (Kd.S_ne HO68.out HT8.out.b0 (by decide)) (Kd.S_ne HO68.out HT8.out.b1 (by decide))); have HM9 := Aside0.mk (HM8.out.kept hg (fun e => by obtain ⟨cells, hc⟩ := Kd.S_typed HO68.out _ e.symm; exact ims_ne HM8.out hc rfl)); have k19 := (blk_cell HBG9.out 1).trans rfl; have y19 := blk_frozen HBG9.out 1; clear ho hb hg hat; obtain ⟨Ap, cp, ep⟩ := Kd.S_slice HO9.out; subst ep)))
          go_roundw
          case measure => exact HMS.out
          case rel =>
            have h9 := HO9.out
            rw [show (ys ++ [t]).length = ys.length + 1 by simp] at h9
            exact ⟨k + 1, _, _, _, _, rfl, HX2, ⟨HM9.out.setCell (ims_ne HM9.out HBG9.out) _⟩, ⟨HNS.out⟩, ⟨HT9.out.setCell HZG.out _⟩, ⟨blk_put HBG9.out 1 _ rfl⟩, ⟨by rw [HTK2.out]; exact Kd.S_mono (Kd.S_far (p := ⟨gg, 1, none⟩) (Kd.S_types h9 HBG9.out (by decide)) (fun _ hk => hk.2) _) (fun _ _ => trivial)⟩⟩
      · obtain ⟨z, hz⟩ : ∃ z : Int, z = ((q + 1 : Nat) : Int) := ⟨_, rfl⟩
        have hw : wrap64 ((q : Int) + 1) = z := by rw [hz]; exact w64_natS HQC.out
        have HQL : Aside0 ((Lit.int .i64 z).wf = true) := ⟨by rw [hz]; exact wf_natS HQC.out⟩
        have hne : (z == 1) = false := beq_eq_false_iff_ne.2 (by omega)
        have HNZ := HNS
        rw [show (q : Int) + 1 = z by omega] at HNZ
        have HTK2 : Aside0 (tidyAll (l1.take (k + 1)) = ys) := ⟨by rw [HTK.out, if_pos (.inl (HMM.out.1 hq)), List.append_nil]⟩
        clear hq hz HTK HMM
        go_wp2_with (first
          | (go_at_call 22; go_loud ((with_reducible refine TD.mono ?_); rintro e w5 ⟨v5, rfl, ho5, hb5⟩; have HB5 := Aside0.mk hb5; have HO5 := Aside0.mk (Kd.R_lower ho5 HT.out.hB.size); have HO6 := Aside0.mk (Kd.S_elder' (v := v5) HO.out (fun k hk => ((Kd.R_bound ho5).1 k hk).2.1) hb5); have HBG5 := Aside0.mk (blk_below HBG.out hb5); have HT5 := Aside0.mk (HT.out.keep hb5); have HM5 := Aside0.mk (IM.below HM.out hb5); clear ho5 hb5; obtain ⟨Ao, co, eo⟩ := Kd.R_slice HO5.out; subst eo))
          | (go_at_call 23; go_loud ((with_reducible refine (name_calls Ao co t w5 (Kd.R_reads' HO5.out).2.2 HTS.out HTB.out (HTAB.out.on (HT5.out.hB))).mono ?_); rintro e w6 ⟨rfl, hb6⟩; have HO56 := Aside0.mk (Kd.R_below HO5.out hb6); have HO66 := Aside0.mk (Kd.S_below HO6.out hb6); have HBG6 := Aside0.mk (blk_below HBG5.out hb6); have HT6 := Aside0.mk (HT5.out.keep hb6); have HM6 := Aside0.mk (IM.below HM5.out hb6); clear hb6; have L1 := ims_look_run HM6.out (nameOf t) HNM.out; rw [HQ.out] at L1))
          | (at_mapUpdate; refine im_store_int _ Tryd.underlying3 rfl _ _ _ 50 rfl mapS Tryd.underlying50 rfl HM6.out HLTM.out _ (nameOf t) z rfl (by first | rfl | go_simp) (hkeyS HNM.out) HQL.out ?_; intro w7 him7 hg7; have HM7 := Aside0.mk him7; have HO57 := Aside0.mk (R_imapS HO56.out HM6.out hg7); have HO67 := Aside0.mk (S_imap HO66.out HM6.out hg7); have HBG7 := Aside0.mk (blk_grown HBG6.out hg7 (by have := ims_ne HM6.out HBG6.out; intro e; injection e with e; exact this e.symm)); have HT7 := Aside0.mk (HT6.out.grown hg7 (by rintro k' ⟨⟩; exact HZM.out)); clear him7 hg7; have L2 := ims_look_run HM7.out (nameOf t) HNM.out; rw [upd_same, Option.getD_some] at L2))
        go_roundw
        case measure => exact HMS.out
        case rel => exact ⟨k + 1, _, u, _, _, rfl, HX2, HM7, HNZ, HT7, HBG7, ⟨by rw [HTK2.out]; exact Kd.S_mono HO67.out (fun _ _ => trivial)⟩⟩
    · obtain rfl : k = l1.length := by omega
      have q3 : decide (x < (l1.length : Int)) = false := decide_eq_false (by omega)
      have ho := HO.out
      rw [List.take_length] at ho
      have HO2 := Aside0.mk ho
      have k0 := (blk_cell HBG.out 0).trans rfl
      have k1 := (blk_cell HBG.out 1).trans rfl
      have g0 := HT.out.g0
      have g1 := HT.out.g1
      have y0 := HT.out.y0
      have y1 := HT.out.y1
      obtain ⟨Au, cu, eu⟩ := Kd.S_slice HO2.out
      subst eu
      clear hxk hk hlt HX HO ho
      go_wp2_with fail
      have e0 := (blk_cell (blk_put (blk_put HT.out.b1 0 (.int .i64 v1) rfl) 1 (.slice Au (tidyAll l1).length cu) rfl) 0).trans rfl
      have e1 := (blk_cell (blk_put (blk_put HT.out.b1 0 (.int .i64 v1) rfl) 1 (.slice Au (tidyAll l1).length cu) rfl) 1).trans rfl
      refine bodyPost_ret (v := .tuple #[.agg #[.int .i64 v1, .slice Au (tidyAll l1).length cu], .int .i64 0]) (by simp [results, Tryd.results6, go_sem, g0, g1]) rfl ?_
      refine ⟨_, rfl, ?_, (HT.out.hB.setCell (p := ⟨w.heap.size + 1, 0, none⟩) (show w.heap.size ≤ w.heap.size + 1 by omega) _).setCell (p := ⟨w.heap.size + 1, 1, none⟩) (show w.heap.size ≤ w.heap.size + 1 by omega) _⟩
      have b2 := blk_put HT.out.b1 0 (.int .i64 v1) rfl
      exact Kd.S_set (Kd.S_set HO2.out HT.out.b1 (by decide) 0 _) b2 (by decide) 1 _
theorem tidied_calls (v1 : Int) (A1 : Option Addr) (c1 : Nat) (l1 : List (List Int)) (w : World) (hr1 : Kd.C (Kd.slice 3 (Kd.int .i64)) w A1 l1.length l1) (hc1 : l1.length ≤ c1)
    (hn : l1.length ≤ 5864062014805) (hs : ∀ c ∈ l1, c.length ≤ 17592186044416) (htab : Tab w) :
    Calls Tryd.prog 6 #[.agg #[.int .i64 v1, .slice A1 l1.length c1]] w fun e w' => ∃ v : Value, e = .returned (.tuple #[.agg #[.int .i64 (tidiedOf v1 l1).1, v], .int .i64 (tidiedOf v1 l1).2.2]) ∧ Kd.S (Kd.slice 3 (Kd.int .i64)) 40 w' w.heap.size (fun _ => True) v (tidiedOf v1 l1).2.1 ∧ Below w.heap.size w w' := by
  unfold tidiedOf
  by_cases hf : isFormula v1 l1 = true
  · rw [if_pos hf]
    exact tidied_good v1 A1 c1 l1 w hr1 hc1 hn hs hf htab
  · rw [if_neg hf]
    refine (tidied_bad v1 A1 c1 l1 w hr1 hc1 hn hs (by simpa using hf)).mono ?_
    rintro e w' ⟨he, hb⟩
    exact ⟨_, he, Kd.S_nil _ _ _ _ _, hb⟩
end Go.Proofs.YtggnnnddnppcpaaDoorHand
/-! text YtggnnnddnppcpaaDoorCnfJoin -/
namespace Go.Proofs.YtggnnnddnppcpaaDoorMath
def joinOf (v1 : Int) (l1 : List (List Int)) (v2 : Int) (l2 : List (List Int)) : Int × List (List Int) × Int :=
  if (isFormula v1 l1 && isFormula v2 l2) = true then (max v1 v2, l1 ++ l2, 0) else (0, [], 1)
end Go.Proofs.YtggnnnddnppcpaaDoorMath
namespace Go.Proofs.YtggnnnddnppcpaaDoorHand
open Go.RowKit Go.Proofs.YtggnnnddnppcpaaDoorW.PrintWords Go.Proofs.YtggnnnddnppcpaaDoorW.PrintLast Go.Proofs.YtggnnnddnppcpaaDoorMath
set_option linter.unusedVariables false
set_option linter.unusedSimpArgs false

/-- three variables of a struct's two cells in new blocks -/
structure Three (w : World) (a0 a1 b0 b1 c0 c1 : Value) (W : World) : Prop where
  hz : w.heap.size + 3 ≤ W.heap.size
  hB : Below w.heap.size w W
  f0 : W.cell? ⟨w.heap.size, 0, none⟩ = some a0
  f1 : W.cell? ⟨w.heap.size, 1, none⟩ = some a1
  g0 : W.cell? ⟨w.heap.size + 1, 0, none⟩ = some b0
  g1 : W.cell? ⟨w.heap.size + 1, 1, none⟩ = some b1
  k0 : W.cell? ⟨w.heap.size + 1 + 1, 0, none⟩ = some c0
  k1 : W.cell? ⟨w.heap.size + 1 + 1, 1, none⟩ = some c1
  z0 : W.frozen? ⟨w.heap.size + 1 + 1, 0, none⟩ = false
  z1 : W.frozen? ⟨w.heap.size + 1 + 1, 1, none⟩ = false
theorem three (w : World) (a0 a1 b0 b1 c0 c1 : Value) (t : Nat) (W : World) (h : W = ((w.alloc (.cells #[a0, a1] t)).alloc (.cells #[b0, b1] t)).alloc (.cells #[c0, c1] t)) : Three w a0 a1 b0 b1 c0 c1 W := by
  subst h
  refine ⟨by simp, by repeat (first | exact Below.refl _ _ | apply below_alloc), ?_, ?_, ?_, ?_, ?_, ?_, ?_, ?_⟩ <;> simp [go_sem]
theorem Three.keep {w : World} {a0 a1 b0 b1 c0 c1 : Value} {W W1 : World} (h : Three w a0 a1 b0 b1 c0 c1 W) (k : Below W.heap.size W W1) : Three w a0 a1 b0 b1 c0 c1 W1 := by
  obtain ⟨hz, hB, f0, f1, g0, g1, k0, k1, z0, z1⟩ := h
  have e : ∀ b, b < w.heap.size + 3 → ∀ o, W1.cell? ⟨b, o, none⟩ = W.cell? ⟨b, o, none⟩ := fun b hb o => k.cell (p := ⟨b, o, none⟩) (show b < _ by omega)
  have e2 : ∀ b, b < w.heap.size + 3 → ∀ o, W1.frozen? ⟨b, o, none⟩ = W.frozen? ⟨b, o, none⟩ := fun b hb o => World.frozen?_of_block (a := ⟨b, o, none⟩) (k.block b (show b < _ by omega))
  refine ⟨Nat.le_trans hz k.size, below_then hB hB.size k, ?_, ?_, ?_, ?_, ?_, ?_, ?_, ?_⟩
  · rw [e _ (by omega)]; exact f0
  · rw [e _ (by omega)]; exact f1
  · rw [e _ (by omega)]; exact g0
  · rw [e _ (by omega)]; exact g1
  · rw [e _ (by omega)]; exact k0
  · rw [e _ (by omega)]; exact k1
  · rw [e2 _ (by omega)]; exact z0
  · rw [e2 _ (by omega)]; exact z1
theorem Three.drew {w : World} {a0 a1 b0 b1 c0 c1 : Value} {W : World} (h : Three w a0 a1 b0 b1 c0 c1 W) : Three w a0 a1 b0 b1 c0 c1 W.drew := h.keep (below_drew (Below.refl _ _))
theorem Three.drewN {w : World} {a0 a1 b0 b1 c0 c1 : Value} {W : World} (h : Three w a0 a1 b0 b1 c0 c1 W) (n : Nat) : Three w a0 a1 b0 b1 c0 c1 (W.drewN n) := h.keep (pw_below_drewN (Below.refl _ _) _)

set_option maxHeartbeats 8000000 in
set_option maxRecDepth 100000 in
theorem join_good (v1 v2 : Int) (A1 A2 : Option Addr) (c1 c2 : Nat) (l1 l2 : List (List Int)) (w : World) (hr1 : Kd.C (Kd.slice 3 (Kd.int .i64)) w A1 l1.length l1) (hc1 : l1.length ≤ c1) (hr2 : Kd.C (Kd.slice 3 (Kd.int .i64)) w A2 l2.length l2) (hc2 : l2.length ≤ c2)
    (hn : l1.length + l2.length ≤ 5864062014805) (hs : ∀ c ∈ l1 ++ l2, c.length ≤ 17592186044416) (hf1 : isFormula v1 l1 = true) (hf2 : isFormula v2 l2 = true) :
    Calls Tryd.prog 19 #[.agg #[.int .i64 v1, .slice A1 l1.length c1], .agg #[.int .i64 v2, .slice A2 l2.length c2]] w fun e w' => ∃ v : Value, e = .returned (.tuple #[.agg #[.int .i64 (joinOf v1 l1 v2 l2).1, v], .int .i64 (joinOf v1 l1 v2 l2).2.2]) ∧ Kd.S (Kd.slice 3 (Kd.int .i64)) 40 w' w.heap.size (fun _ => True) v (joinOf v1 l1 v2 l2).2.1 ∧ Below w.heap.size w w' := by
  have hs1 : ∀ c ∈ l1, c.length ≤ 17592186044416 := fun c h => hs c (by simp [h])
  have hs2 : ∀ c ∈ l2, c.length ≤ 17592186044416 := fun c h => hs c (by simp [h])
  have HR1 := Aside0.mk hr1
  have HR2 := Aside0.mk hr2
  have F1 := fun W h => isFormula_calls v1 A1 c1 l1 W h hc1 (by omega) hs1
  have F2 := fun W h => isFormula_calls v2 A2 c2 l2 W h hc2 (by omega) hs2
  rw [hf1] at F1
  rw [hf2] at F2
  have HF1 := Aside0.mk F1
  have HF2 := Aside0.mk F2
  have HE : Aside0 (joinOf v1 l1 v2 l2 = (max v1 v2, l1 ++ l2, 0)) := ⟨by unfold joinOf; rw [hf1, hf2]; rfl⟩
  have HC1 := Aside0.mk hc1
  have HC2 := Aside0.mk hc2
  have HN := Aside0.mk hn
  have HS1 := Aside0.mk hs1
  have HS2 := Aside0.mk hs2
  clear F1 F2 hr1 hr2 hc1 hc2 hn hs hs1 hs2 hf1 hf2
  go_enter Tryd.func19, Tryd.ntmps19
  go_wp2_with fail
  obtain ⟨W0, hW0⟩ : ∃ W0, W0 = ((w.alloc (.cells #[.int .i64 v1, .slice A1 l1.length c1] 24)).alloc (.cells #[.int .i64 v2, .slice A2 l2.length c2] 24)).alloc (.cells #[.int .i64 0, .slice none 0 0] 24) := ⟨_, rfl⟩
  rw [← hW0]
  have T0 := three w _ _ _ _ _ _ _ W0 hW0
  clear hW0
  (with_reducible refine (HF1.out _ (Kd.C_below HR1.out T0.hB)).mono ?_)
  rintro e W1 ⟨rfl, hb⟩
  have T1 := T0.keep hb
  have g0 := T1.g0
  have g1 := T1.g1
  clear T0 hb
  go_wp2_with fail
  (with_reducible refine (HF2.out _ (Kd.C_below HR2.out T1.hB)).mono ?_)
  rintro e W2 ⟨rfl, hb⟩
  have T2 := T1.keep hb
  clear T1 hb g0 g1
  have HT := Aside0.mk T2
  clear T2
  have f0 := HT.out.f0
  have f1 := HT.out.f1
  have g0 := HT.out.g0
  have g1 := HT.out.g1
  have k0 := HT.out.k0
  have k1 := HT.out.k1
  have z0 := HT.out.z0
  have z1 := HT.out.z1
  go_wp2_with fail
  have hkeep : ∀ W, Three w (.int .i64 v1) (.slice A1 l1.length c1) (.int .i64 v2) (.slice A2 l2.length c2) (.int .i64 0) (.slice none 0 0) W → W.cell? ⟨w.heap.size, 0, none⟩ = some (.int .i64 v1) ∧ W.cell? ⟨w.heap.size, 1, none⟩ = some (.slice A1 l1.length c1) ∧ W.cell? ⟨w.heap.size + 1, 0, none⟩ = some (.int .i64 v2) ∧ W.cell? ⟨w.heap.size + 1, 1, none⟩ = some (.slice A2 l2.length c2) := fun W h => ⟨h.f0, h.f1, h.g0, h.g1⟩
  have HK := Aside0.mk hkeep
  clear hkeep
  go_region_held3 (fun w' => w'.cell? ⟨w.heap.size, 0, none⟩ = some (.int .i64 v1) ∧ w'.cell? ⟨w.heap.size, 1, none⟩ = some (.slice A1 l1.length c1) ∧ w'.cell? ⟨w.heap.size + 1, 0, none⟩ = some (.int .i64 v2) ∧ w'.cell? ⟨w.heap.size + 1, 1, none⟩ = some (.slice A2 l2.length c2))
    (first | exact HK.out _ HT4.out | exact HK.out _ HT3.out | exact HK.out _ HT.out | exact HK.out _ HT.out.drew | (refine ⟨?_, ?_, ?_, ?_⟩ <;> simp [go_sem, HT4.out.f0, HT4.out.f1, HT4.out.g0, HT4.out.g1]))
    (first
    | (go_at_call 39; (with_reducible refine (laid_calls A1 c1 [] l1 (.slice none 0 0) W2 _ (Kd.C_below HR1.out HT.out.hB) HC1.out ?hB ?ho ?hn HS1.out).mono ?_); (case hB => first | exact below_drew (Below.refl _ _) | exact below_drew (below_drew (Below.refl _ _)) | exact Below.refl _ _); (case ho => exact Kd.S_nil _ _ _ _ _); (case hn => have := HN.out; simp; omega); rintro e w3 ⟨v3, rfl, hs3, hb3⟩; obtain ⟨Ao3, co3, eo3⟩ := Kd.S_slice hs3; subst eo3; have HT3 := Aside0.mk (HT.out.keep hb3); have HS3 := Aside0.mk hs3; have HB3 := Aside0.mk hb3; clear hs3 hb3)
    | (go_at_call 39; (with_reducible refine (laid_calls A2 c2 ([] ++ l1) l2 _ W2 _ (Kd.C_below HR2.out HT.out.hB) HC2.out ?hB ?ho ?hn HS2.out).mono ?_); (case hB => first | exact HB3.out | exact below_drew HB3.out | exact below_drew (below_drew HB3.out)); (case ho => first | exact HS3.out | exact Kd.S_drew HS3.out); (case hn => have := HN.out; simp; omega); rintro e w4 ⟨v4, rfl, hs4, hb4⟩; obtain ⟨Ao4, co4, eo4⟩ := Kd.S_slice hs4; subst eo4; have HT4 := Aside0.mk (HT.out.keep hb4); have k0'' := HT4.out.k0; have k1'' := HT4.out.k1; have z0'' := HT4.out.z0; have z1'' := HT4.out.z1; have HS4 := Aside0.mk hs4; clear hs4 hb4))
  all_goals
    go_wp2_with fail
    have HL : Aside0 (Kd.S (Kd.slice 3 (Kd.int .i64)) 40 ((w4.setCell ⟨w.heap.size + 1 + 1, 0, none⟩ (.int .i64 (max v1 v2))).setCell ⟨w.heap.size + 1 + 1, 1, none⟩ (.slice Ao4 ([] ++ l1 ++ l2).length co4)) w.heap.size (fun _ => True) (.slice Ao4 ([] ++ l1 ++ l2).length co4) ([] ++ l1 ++ l2)) := by
      have hb := Kd.S_bound HS4.out
      have hz := HT.out.hz
      exact ⟨Kd.S_mono (Kd.S_lower (Kd.S_far (p := ⟨w.heap.size + 1 + 1, 1, none⟩) (Kd.S_far (p := ⟨w.heap.size + 1 + 1, 0, none⟩) hb (fun k hk => by have := hk.2.1; show k ≠ w.heap.size + 1 + 1; omega) _) (fun k hk => by have := hk.2.1; show k ≠ w.heap.size + 1 + 1; omega) _) (by omega)) (fun _ _ => trivial)⟩
    refine bodyPost_ret (v := .tuple #[.agg #[.int .i64 (max v1 v2), .slice Ao4 ([] ++ l1 ++ l2).length co4], .int .i64 0]) (by simp [results, Tryd.results19, go_sem, k0'', k1'']) rfl ?_
    rw [HE.out]
    exact ⟨_, rfl, by simpa using HL.out, (HT4.out.hB.setCell (p := ⟨w.heap.size + 1 + 1, 0, none⟩) (show w.heap.size ≤ w.heap.size + 1 + 1 by omega) _).setCell (p := ⟨w.heap.size + 1 + 1, 1, none⟩) (show w.heap.size ≤ w.heap.size + 1 + 1 by omega) _⟩

set_option maxHeartbeats 8000000 in
set_option maxRecDepth 100000 in
theorem join_bad (v1 v2 : Int) (A1 A2 : Option Addr) (c1 c2 : Nat) (l1 l2 : List (List Int)) (w : World) (hr1 : Kd.C (Kd.slice 3 (Kd.int .i64)) w A1 l1.length l1) (hc1 : l1.length ≤ c1) (hr2 : Kd.C (Kd.slice 3 (Kd.int .i64)) w A2 l2.length l2) (hc2 : l2.length ≤ c2)
    (hn : l1.length + l2.length ≤ 5864062014805) (hs : ∀ c ∈ l1 ++ l2, c.length ≤ 17592186044416) (hbad : (isFormula v1 l1 && isFormula v2 l2) = false) :
    Calls Tryd.prog 19 #[.agg #[.int .i64 v1, .slice A1 l1.length c1], .agg #[.int .i64 v2, .slice A2 l2.length c2]] w fun e w' => ∃ v : Value, e = .returned (.tuple #[.agg #[.int .i64 (joinOf v1 l1 v2 l2).1, v], .int .i64 (joinOf v1 l1 v2 l2).2.2]) ∧ Kd.S (Kd.slice 3 (Kd.int .i64)) 40 w' w.heap.size (fun _ => True) v (joinOf v1 l1 v2 l2).2.1 ∧ Below w.heap.size w w' := by
  have hs1 : ∀ c ∈ l1, c.length ≤ 17592186044416 := fun c h => hs c (by simp [h])
  have hs2 : ∀ c ∈ l2, c.length ≤ 17592186044416 := fun c h => hs c (by simp [h])
  have HR1 := Aside0.mk hr1
  have HR2 := Aside0.mk hr2
  have F1 := fun W h => isFormula_calls v1 A1 c1 l1 W h hc1 (by omega) hs1
  have F2 := fun W h => isFormula_calls v2 A2 c2 l2 W h hc2 (by omega) hs2
  have HE : Aside0 (joinOf v1 l1 v2 l2 = (0, [], 1)) := ⟨by unfold joinOf; rw [hbad]; rfl⟩
  cases hf1 : isFormula v1 l1 with
  | false =>
    rw [hf1] at F1
    have HF1 := Aside0.mk F1
    clear F1 F2 hr1 hr2 hc1 hc2 hn hs hs1 hs2 hf1 hbad
    go_enter Tryd.func19, Tryd.ntmps19
    go_wp2_with fail
    obtain ⟨W0, hW0⟩ : ∃ W0, W0 = ((w.alloc (.cells #[.int .i64 v1, .slice A1 l1.length c1] 24)).alloc (.cells #[.int .i64 v2, .slice A2 l2.length c2] 24)).alloc (.cells #[.int .i64 0, .slice none 0 0] 24) := ⟨_, rfl⟩
    rw [← hW0]
    have T0 := three w _ _ _ _ _ _ _ W0 hW0
    clear hW0
    (with_reducible refine (HF1.out _ (Kd.C_below HR1.out T0.hB)).mono ?_)
    rintro e W1 ⟨rfl, hb⟩
    have HT := Aside0.mk (T0.keep hb)
    clear T0 hb
    have k0 := HT.out.k0
    have k1 := HT.out.k1
    have z0 := HT.out.z0
    have z1 := HT.out.z1
    go_wp2_with fail
    refine bodyPost_ret (v := .tuple #[.agg #[.int .i64 0, .slice none 0 0], .int .i64 1]) (by simp [results, Tryd.results19, go_sem, k0, k1]) rfl ?_
    rw [HE.out]
    exact ⟨_, rfl, Kd.S_nil _ _ _ _ _, (HT.out.hB.setCell (p := ⟨w.heap.size + 1 + 1, 0, none⟩) (show w.heap.size ≤ w.heap.size + 1 + 1 by omega) _).setCell (p := ⟨w.heap.size + 1 + 1, 1, none⟩) (show w.heap.size ≤ w.heap.size + 1 + 1 by omega) _⟩
  | true =>
    rw [hf1, Bool.true_and] at hbad
    rw [hf1] at F1
    rw [hbad] at F2
    have HF1 := Aside0.mk F1
    have HF2 := Aside0.mk F2
    clear F1 F2 hr1 hr2 hc1 hc2 hn hs hs1 hs2 hf1 hbad
    go_enter Tryd.func19, Tryd.ntmps19
    go_wp2_with fail
    obtain ⟨W0, hW0⟩ : ∃ W0, W0 = ((w.alloc (.cells #[.int .i64 v1, .slice A1 l1.length c1] 24)).alloc (.cells #[.int .i64 v2, .slice A2 l2.length c2] 24)).alloc (.cells #[.int .i64 0, .slice none 0 0] 24) := ⟨_, rfl⟩
    rw [← hW0]
    have T0 := three w _ _ _ _ _ _ _ W0 hW0
    clear hW0
    (with_reducible refine (HF1.out _ (Kd.C_below HR1.out T0.hB)).mono ?_)
    rintro e W1 ⟨rfl, hb⟩
    have T1 := T0.keep hb
    have g0 := T1.g0
    have g1 := T1.g1
    clear T0 hb
    go_wp2_with fail
    (with_reducible refine (HF2.out _ (Kd.C_below HR2.out T1.hB)).mono ?_)
    rintro e W2 ⟨rfl, hb⟩
    have HT := Aside0.mk (T1.keep hb)
    clear T1 hb g0 g1
    have k0 := HT.out.k0
    have k1 := HT.out.k1
    have z0 := HT.out.z0
    have z1 := HT.out.z1
    go_wp2_with fail
    refine bodyPost_ret (v := .tuple #[.agg #[.int .i64 0, .slice none 0 0], .int .i64 1]) (by simp [results, Tryd.results19, go_sem, k0, k1]) rfl ?_
    rw [HE.out]
    exact ⟨_, rfl, Kd.S_nil _ _ _ _ _, (HT.out.hB.setCell (p := ⟨w.heap.size + 1 + 1, 0, none⟩) (show w.heap.size ≤ w.heap.size + 1 + 1 by omega) _).setCell (p := ⟨w.heap.size + 1 + 1, 1, none⟩) (show w.heap.size ≤ w.heap.size + 1 + 1 by omega) _⟩

theorem join_calls' (v1 v2 : Int) (A1 A2 : Option Addr) (c1 c2 : Nat) (l1 l2 : List (List Int)) (w : World) (hr1 : Kd.C (Kd.slice 3 (Kd.int .i64)) w A1 l1.length l1) (hc1 : l1.length ≤ c1) (hr2 : Kd.C (Kd.slice 3 (Kd.int .i64)) w A2 l2.length l2) (hc2 : l2.length ≤ c2)
    (hn : l1.length + l2.length ≤ 5864062014805) (hs : ∀ c ∈ l1 ++ l2, c.length ≤ 17592186044416) :
    Calls Tryd.prog 19 #[.agg #[.int .i64 v1, .slice A1 l1.length c1], .agg #[.int .i64 v2, .slice A2 l2.length c2]] w fun e w' => ∃ v : Value, e = .returned (.tuple #[.agg #[.int .i64 (joinOf v1 l1 v2 l2).1, v], .int .i64 (joinOf v1 l1 v2 l2).2.2]) ∧ Kd.S (Kd.slice 3 (Kd.int .i64)) 40 w' w.heap.size (fun _ => True) v (joinOf v1 l1 v2 l2).2.1 ∧ Below w.heap.size w w' := by
  cases h : (isFormula v1 l1 && isFormula v2 l2) with
  | false => exact join_bad v1 v2 A1 A2 c1 c2 l1 l2 w hr1 hc1 hr2 hc2 hn hs h
  | true =>
    rw [Bool.and_eq_true] at h
    exact join_good v1 v2 A1 A2 c1 c2 l1 l2 w hr1 hc1 hr2 hc2 hn hs h.1 h.2
end Go.Proofs.YtggnnnddnppcpaaDoorHand
