/- What cnf.Tidy answers. -/
import Derived.Test.YtggnnnddnppcpaaDoorClCnfTidiesCardn
import Derived.Test.YtggnnnddnppcpaaDoorClCnfTidiesCardh
import Derived.Test.YtggnnnddnppcpaaDoorClCnfTidiesCardf
/-! text YtggnnnddnppcpaaDoorCnfTidyW -/
namespace Go.Proofs.YtggnnnddnppcpaaDoorHand
open Go.RowKit Go.Proofs.YtggnnnddnppcpaaDoorW.PrintWords Go.Proofs.YtggnnnddnppcpaaDoorW.PrintLast Go.Proofs.YtggnnnddnppcpaaDoorMath Go.Proofs.YtggnnnddnppcpaaDoorMaps Go.Maps
set_option linter.unusedVariables false
set_option linter.unusedSimpArgs false
abbrev IMS (W : World) (B n : Nat) (f : List UInt8 → Option Int) (c : Nat) : Prop := IM Tryd.prog 9 strKeys (intElem Tryd.prog 3 Tryd.underlying3) W B n f c
theorem mapS : Keyed Tryd.prog 9 := string_keyed Tryd.underlying9
theorem hkeyS {l : List UInt8} (h : l.length ≤ maxLen) : keyOf Tryd.prog 9 (.string ⟨l.toArray⟩) = some (strKeys.kl l) := by
  have := Go.WideMaps.keyOf_string_mk (P := Tryd.prog) Tryd.underlying9 (s := ⟨l.toArray⟩) h
  exact this
theorem ims_look_run {W : World} {B n c : Nat} {f : List UInt8 → Option Int} (h : IMS W B n f c) (l : List UInt8) (hl : l.length ≤ maxLen) : (Instr.lookup 50 (.map (some B)) (.string ⟨l.toArray⟩) false).run Tryd.prog W = .ok (.int .i64 ((f l).getD 0)) W :=
  h.look mapS Tryd.underlying50 (z := (0 : Int)) (zeroI _) (show (Lit.int .i64 0).wf = true by decide) (hkeyS hl)
theorem ims_ne {W : World} {B n c g t : Nat} {f : List UInt8 → Option Int} {cells : Array Value} {z : Nat × Nat} (h : IMS W B n f c) (hb : W.heap[g]? = some (.cells cells t z)) : B ≠ g := by
  rintro rfl
  obtain ⟨D, ⟨es, clock, h1, _⟩, _⟩ := h
  rw [hb] at h1
  cases h1
theorem S_imap {α : Type} {d : Kd α} {e base : Nat} {ok : Nat → Prop} {W w1 : World} {v : Value} {xs : List α} {B n c : Nat} {f : List UInt8 → Option Int} (h : Kd.S d e W base ok v xs) (hm : IMS W B n f c) (hg : W.grownBy w1 (some B)) : Kd.S d e w1 base ok v xs := by
  refine Kd.S_mono (Kd.S_move (Kd.S_bound h) (fun k hk => hg.block k hk.2.2.1 (fun he => ?_))) (fun _ hk => hk.1)
  injection he with he
  subst he
  obtain ⟨_, _, _, q, hq, cells, hc⟩ := hk
  exact ims_ne hm hc rfl
theorem R_imapS {α : Type} {d : Kd α} {e base : Nat} {ok : Nat → Prop} {W w1 : World} {v : Value} {xs : List α} {B n c : Nat} {f : List UInt8 → Option Int} (h : Kd.R d e W base ok v xs) (hm : IMS W B n f c) (hg : W.grownBy w1 (some B)) : Kd.R d e w1 base ok v xs := by
  refine Kd.R_mono (Kd.R_move (Kd.R_bound h) (fun k hk => hg.block k hk.2.2.1 (fun he => ?_))) (fun _ hk => hk.1)
  injection he with he
  subst he
  obtain ⟨_, _, _, q, hq, cells, hc⟩ := hk
  exact ims_ne hm hc rfl
theorem wf_natS {q : Nat} (h : q ≤ 35184372088832) : (Lit.int .i64 ((q + 1 : Nat) : Int)).wf = true := WalkArith.wf_i64 (by omega)
theorem w64_natS {q : Nat} (h : q ≤ 35184372088832) : wrap64 ((q : Int) + 1) = ((q + 1 : Nat) : Int) := w64s (by omega)
set_option maxHeartbeats 8000000 in
set_option maxRecDepth 100000 in
theorem tidied_bad (v1 : Int) (A1 : Option Addr) (c1 : Nat) (l1 : List (List Int)) (w : World) (hr1 : Kd.C (Kd.slice 3 (Kd.int .i64)) w A1 l1.length l1) (hc1 : l1.length ≤ c1)
    (hn : l1.length ≤ 5864062014805) (hs : ∀ c ∈ l1, c.length ≤ 17592186044416) (hbad : isFormula v1 l1 = false) :
    Calls Tryd.prog 6 #[.agg #[.int .i64 v1, .slice A1 l1.length c1]] w fun e w' => e = .returned (.tuple #[.agg #[.int .i64 0, .slice none 0 0], .int .i64 1]) ∧ Below w.heap.size w w' := by
  have HR1 := Aside0.mk hr1
  have F1 := fun W h => isFormula_calls v1 A1 c1 l1 W h hc1 (by omega) hs
  rw [hbad] at F1
  have HF1 := Aside0.mk F1
  clear F1 hr1 hc1 hn hs hbad
  go_enter Tryd.func6, Tryd.ntmps6
  go_wp2_with fail
  have T0 := uf w (.int .i64 v1) (.slice A1 l1.length c1) (.int .i64 0) (.slice none 0 0)
  generalize hW0 : ((w.alloc (.cells #[.int .i64 v1, .slice A1 l1.length c1] 24 (0, 0))).alloc (.cells #[.int .i64 0, .slice none 0 0] 24 (0, 0))) = W0 at T0 ⊢
  clear hW0
  (with_reducible refine (HF1.out _ (Kd.C_below HR1.out T0.hB)).mono ?_)
  rintro e W1 ⟨rfl, hb⟩
  have T1 := T0.keep hb
  have HT := Aside0.mk T1
  have k0 := T1.g0
  have k1 := T1.g1
  have y0 := T1.y0
  have y1 := T1.y1
  clear T0 hb T1
  go_wp2_with fail
  refine bodyPost_ret (v := .tuple #[.agg #[.int .i64 0, .slice none 0 0], .int .i64 1]) (by simp [results, Tryd.results6, go_sem, k0, k1]) rfl ?_
  exact ⟨rfl, (HT.out.hB.setCell (p := ⟨w.heap.size + 1, 0, none⟩) (show w.heap.size ≤ w.heap.size + 1 by omega) _).setCell (p := ⟨w.heap.size + 1, 1, none⟩) (show w.heap.size ≤ w.heap.size + 1 by omega) _⟩
theorem stepN {q : Nat} {f : List UInt8 → Option Int} {K : List (List Int)} {t : List Int} (h : NTally (upd f (nameOf t) ((q : Int) + 1)) (K ++ [t])) : NTally (upd f (nameOf t) ((q + 1 : Nat) : Int)) (K ++ [t]) := by
  rw [show ((q + 1 : Nat) : Int) = (q : Int) + 1 by omega]; exact h
set_option maxHeartbeats 8000000 in
set_option maxRecDepth 100000 in
theorem tidied_good (v1 : Int) (A1 : Option Addr) (c1 : Nat) (l1 : List (List Int)) (w : World) (hr1 : Kd.C (Kd.slice 3 (Kd.int .i64)) w A1 l1.length l1) (hc1 : l1.length ≤ c1)
    (hn : l1.length ≤ 5864062014805) (hs : ∀ c ∈ l1, c.length ≤ 17592186044416) (hf1 : isFormula v1 l1 = true) (htab : Tab w) :
    Calls Tryd.prog 6 #[.agg #[.int .i64 v1, .slice A1 l1.length c1]] w fun e w' => ∃ v : Value, e = .returned (.tuple #[.agg #[.int .i64 v1, v], .int .i64 0]) ∧ Kd.S (Kd.slice 3 (Kd.int .i64)) 40 w' w.heap.size (fun _ => True) v (tidyAll l1) ∧ Below w.heap.size w w' := by
  have HR1 := Aside0.mk hr1
  have F1 := fun W h => isFormula_calls v1 A1 c1 l1 W h hc1 (by omega) hs
  rw [hf1] at F1
  have HF1 := Aside0.mk F1
  have HN := Aside0.mk hn
  have HS := Aside0.mk hs
  have HTAB := Aside0.mk htab
  have hmm := @run_makeMap Tryd.prog
  clear F1 hr1 hc1 hn hs hf1 htab
  go_enter Tryd.func6, Tryd.ntmps6
  go_wp2_with fail
  have T0 := uf w (.int .i64 v1) (.slice A1 l1.length c1) (.int .i64 0) (.slice none 0 0)
  generalize hW0 : ((w.alloc (.cells #[.int .i64 v1, .slice A1 l1.length c1] 24 (0, 0))).alloc (.cells #[.int .i64 0, .slice none 0 0] 24 (0, 0))) = W0 at T0 ⊢
  clear hW0
  (with_reducible refine (HF1.out _ (Kd.C_below HR1.out T0.hB)).mono ?_)
  rintro e W1 ⟨rfl, hb⟩
  have T1 := T0.keep hb
  have f0 := T1.f0
  have HT0 := Aside0.mk T1
  have TG := T1.keep (below_alloc (Below.refl _ _) (.cells #[.int .i64 v1, .slice none 0 0] 24 (0, 0)))
  have TM := TG.keep (below_alloc (Below.refl _ _) (.map #[] 0))
  have f1 := TM.f1
  have HBM : Aside0 (((W1.alloc (.cells #[.int .i64 v1, .slice none 0 0] 24 (0, 0))).alloc (.map #[] 0)).heap[W1.heap.size]? = some (.cells #[.int .i64 v1, .slice none 0 0] 24 (0, 0))) := ⟨blk_alloc (blk_new _ _) _⟩
  have HTM := Aside0.mk TM
  have HIM : Aside0 (IMS ((W1.alloc (.cells #[.int .i64 v1, .slice none 0 0] 24 (0, 0))).alloc (.map #[] 0)) (W1.heap.size + 1) 0 (fun _ => none) 0) := ⟨by have := IM.made (P := Tryd.prog) (k := 9) (Ky := strKeys) (E := intElem Tryd.prog 3 Tryd.underlying3) (W1.alloc (.cells #[.int .i64 v1, .slice none 0 0] 24 (0, 0))); rwa [World.size_alloc] at this⟩
  have HZG : Aside0 (w.heap.size + 2 ≤ W1.heap.size) := ⟨T1.hz⟩
  clear T0 hb T1 TG TM
  go_wp2_with fail
  generalize (W1.alloc (.cells #[.int .i64 v1, .slice none 0 0] 24 (0, 0))).alloc (.map #[] 0) = WM at *
  generalize hBB : W1.heap.size + 1 = BB at *
  have HZM : Aside0 (w.heap.size + 2 ≤ BB) := ⟨by have := HZG.out; omega⟩
  generalize W1.heap.size = gg at *
  clear hBB HT0 f0 HF1
  go_loopw [7, 8, 20] (fun _ _ v20 wr => ∃ (k : Nat) (x : Int) (u : Value) (f : List UInt8 → Option Int) (cnt : Nat), v20 = .int .i64 x ∧ Aside0 (x = k ∧ k ≤ l1.length) ∧ Aside0 (IMS wr BB k f cnt) ∧ Aside0 (NTally f ((l1.take k).map tidyOf)) ∧ Aside0 (UF w (.int .i64 v1) (.slice A1 l1.length c1) (.int .i64 0) (.slice none 0 0) wr) ∧ Aside0 (wr.heap[gg]? = some (.cells #[.int .i64 v1, u] 24 (0, 0))) ∧ Aside0 (Kd.S (Kd.slice 3 (Kd.int .i64)) 40 wr w.heap.size (fun _ => True) u (tidyAll (l1.take k)))) (fun _ _ i _ => l1.length - (intOf i).toNat)
  case atStart => exact ⟨0, 0, .slice none 0 0, _, 0, rfl, ⟨rfl, Nat.zero_le _⟩, HIM, ⟨fun c => by simp⟩, HTM, HBM, ⟨Kd.S_nil _ _ _ _ _⟩⟩
  case round =>
    clear HIM HTM HBM f1
    obtain ⟨k, x, u, f, cnt, rfl, HX, HM, HNT, HT, HBG, HO⟩ := hrel
    obtain ⟨hxk, hk⟩ := HX.out
    by_cases hlt : k < l1.length
    · have p1 : 0 ≤ x := by omega
      have q1 : x < (l1.length : Int) := by omega
      obtain ⟨ad, A, cc, e1, hcell, hlc, hrow⟩ := row_at (Kd.C_below HR1.out HT.out.hB) x p1 q1
      subst e1
      have p2 := eq_true p1
      have q2 := eq_true q1
      have q3 : decide (x < (l1.length : Int)) = true := decide_eq_true q1
      have hgd : l1.getD x.toNat [] = l1.getD k [] := by rw [hxk]; rfl
      rw [hgd] at hcell hrow hlc
      have hmem : l1.getD k [] ∈ l1 := by rw [List.getD_eq_getElem?_getD, List.getElem?_eq_getElem hlt]; exact List.getElem_mem hlt
      have HX2 : Aside0 (wrap64 (x + 1) = ((k + 1 : Nat) : Int) ∧ k + 1 ≤ l1.length) := by
        have := HN.out
        exact ⟨by rw [w64 (by omega) (by omega)]; omega, by omega⟩
      have hm : (intOf (.int .i64 (wrap64 (x + 1)))).toNat = k + 1 := by rw [HX2.out.1]; simp [intOf]
      have hm0 : (intOf (.int .i64 x)).toNat = k := by rw [hxk]; simp [intOf]
      have HMS : Aside0 (l1.length - (intOf (.int .i64 (wrap64 (x + 1)))).toNat < l1.length - (intOf (.int .i64 x)).toNat) := ⟨by rw [hm, hm0]; omega⟩
      have TD := tidy_calls A cc (l1.getD k []) wr hrow hlc (HS.out _ hmem)
      have HTK := Aside0.mk (tidyAll_take hlt)
      have HKM : Aside0 ((l1.take (k + 1)).map tidyOf = (l1.take k).map tidyOf ++ [tidyOf (l1.getD k [])]) := ⟨by rw [List.take_add_one, List.getElem?_eq_getElem hlt, List.getD_eq_getElem?_getD, List.getElem?_eq_getElem hlt, List.map_append]; rfl⟩
      have HTS : Aside0 ((tidyOf (l1.getD k [])).length ≤ 4194304) := ⟨by have := tidyOf_small (l1.getD k []); omega⟩
      have HTB : Aside0 (∀ y ∈ tidyOf (l1.getD k []), -1048576 ≤ y ∧ y ≤ 1048576) := ⟨fun y hy => formed_bd (tidyOf_formed hy)⟩
      have HTT : Aside0 (tidyOf (tidyOf (l1.getD k [])) = tidyOf (l1.getD k [])) := ⟨tidyOf_tidyOf _⟩
      have HLX : Aside0 ((tidyAll (l1.take k)).length < 5864062014805) := by
        have := tidyAll_length (l1.take k)
        rw [List.length_take] at this
        have := HN.out
        exact ⟨by omega⟩
      have HQ := Aside0.mk (HNT.out (tidyOf (l1.getD k [])))
      have HQC : Aside0 (((l1.take k).map tidyOf).count (tidyOf (l1.getD k [])) ≤ 35184372088832) := ⟨by
        have h1 := List.count_le_length (a := tidyOf (l1.getD k [])) (l := (l1.take k).map tidyOf)
        rw [List.length_map, List.length_take] at h1
        have := HN.out
        omega⟩
      have HMM : Aside0 (0 < ((l1.take k).map tidyOf).count (tidyOf (l1.getD k [])) ↔ tidyOf (l1.getD k []) ∈ (l1.take k).map tidyOf) := ⟨List.count_pos_iff⟩
      have HNS := Aside0.mk (ntally_snoc HNT.out (tidyOf (l1.getD k [])))
      have HLTM : Aside0 (k < maxLen) := ⟨by have := HN.out; unfold maxLen; omega⟩
      have HNM : Aside0 ((nameOf (tidyOf (l1.getD k []))).length ≤ maxLen) := ⟨by
        have h1 := nameOf_length (c := tidyOf (l1.getD k [])) fun y hy => by have := HTB.out y hy; omega
        have := HTS.out
        unfold maxLen
        omega⟩
      clear hm hm0 hxk hk hlt p1 q1 hrow hlc hmem HX hgd HNT
      rw [← HKM.out] at HNS
      generalize ((l1.take k).map tidyOf).count (tidyOf (l1.getD k [])) = q at *
      generalize tidyOf (l1.getD k []) = t at *
      generalize tidyAll (l1.take k) = ys at *
      generalize l1.getD k [] = row at *
      rcases Nat.eq_zero_or_pos q with hq | hq
      · subst hq
        have hw : wrap64 (((0 : Nat) : Int) + 1) = 1 := by rw [w64 (by omega) (by omega)]; rfl
        have hw' : wrap64 ((0 : Int) + 1) = 1 := by rw [w64 (by omega) (by omega)]; rfl
        have HQL : Aside0 ((Lit.int .i64 1).wf = true) := ⟨by decide⟩
        have hnm : ¬ (t ∈ (l1.take k).map tidyOf) := fun h => absurd (HMM.out.2 h) (Nat.lt_irrefl 0)
        cases htt : tautIn t with
        | true =>
          have HTK2 : Aside0 (tidyAll (l1.take (k + 1)) = ys) := ⟨by rw [HTK.out, if_pos (.inr htt), List.append_nil]⟩
          have HTAU := Aside0.mk htt
          clear hnm htt HTK HMM
          go_wp2_with (first
            | (go_at_call 22; go_loud ((with_reducible refine TD.mono ?_); rintro e w5 ⟨v5, rfl, ho5, hb5⟩; have HB5 := Aside0.mk hb5; have HO5 := Aside0.mk (Kd.R_lower ho5 HT.out.hB.size); have HO6 := Aside0.mk (Kd.S_elder' (v := v5) HO.out (fun k hk => ((Kd.R_bound ho5).1 k hk).2.1) hb5); have HBG5 := Aside0.mk (blk_below HBG.out hb5); have HT5 := Aside0.mk (HT.out.keep hb5); have HM5 := Aside0.mk (IM.below HM.out hb5); clear ho5 hb5; obtain ⟨Ao, co, eo⟩ := Kd.R_slice HO5.out; subst eo))
            | (go_at_call 23; go_loud ((with_reducible refine (name_calls Ao co t w5 (Kd.R_reads' HO5.out).2.2 HTS.out HTB.out (HTAB.out.on (HT5.out.hB))).mono ?_); rintro e w6 ⟨rfl, hb6⟩; have HO56 := Aside0.mk (Kd.R_below HO5.out hb6); have HO66 := Aside0.mk (Kd.S_below HO6.out hb6); have HBG6 := Aside0.mk (blk_below HBG5.out hb6); have HT6 := Aside0.mk (HT5.out.keep hb6); have HM6 := Aside0.mk (IM.below HM5.out hb6); clear hb6; have L1 := ims_look_run HM6.out (nameOf t) HNM.out; rw [HQ.out] at L1))
            | (at_mapUpdate; refine im_store_int _ Tryd.underlying3 rfl _ _ _ 50 rfl mapS Tryd.underlying50 rfl HM6.out HLTM.out _ (nameOf t) 1 rfl (by first | rfl | go_simp) (hkeyS HNM.out) HQL.out ?_; intro w7 him7 hg7; have HM7 := Aside0.mk him7; have HO57 := Aside0.mk (R_imapS HO56.out HM6.out hg7); have HO67 := Aside0.mk (S_imap HO66.out HM6.out hg7); have HBG7 := Aside0.mk (blk_grown HBG6.out hg7 (by have := ims_ne HM6.out HBG6.out; intro e; injection e with e; exact this e.symm)); have HT7 := Aside0.mk (HT6.out.grown hg7 (by rintro k' ⟨⟩; exact HZM.out)); clear him7 hg7; have L2 := ims_look_run HM7.out (nameOf t) HNM.out; rw [upd_same, Option.getD_some] at L2)
            | (go_at_call 24; (with_reducible refine (taut_calls Ao co t w7 (Kd.R_reads' HO57.out).2.2 (Kd.R_reads' HO57.out).2.1 (by have := HTS.out; omega)).mono ?_); rintro e w8 ⟨rfl, hb8⟩; have HO58 := Aside0.mk (Kd.R_below HO57.out hb8); have HO68 := Aside0.mk (Kd.S_below HO67.out hb8); have HBG8 := Aside0.mk (blk_below HBG7.out hb8); have HT8 := Aside0.mk (HT7.out.keep hb8); have HM8 := Aside0.mk (IM.below HM7.out hb8); clear hb8; rw [HTT.out, HTAU.out]))
          go_roundw
          case measure => exact HMS.out
          case rel => exact ⟨k + 1, _, u, _, _, rfl, HX2, HM8, ⟨HNS.out⟩, HT8, HBG8, ⟨by rw [HTK2.out]; exact Kd.S_mono HO68.out (fun _ _ => trivial)⟩⟩
        | false =>
          have HTK2 : Aside0 (tidyAll (l1.take (k + 1)) = ys ++ [t]) := ⟨by rw [HTK.out, if_neg (by rintro (h | h); exact hnm h; rw [htt] at h; cases h)]⟩
          have HTAU := Aside0.mk htt
          clear hnm htt HTK HMM
          go_wp2_with (first
            | (go_at_call 22; go_loud ((with_reducible refine TD.mono ?_); rintro e w5 ⟨v5, rfl, ho5, hb5⟩; have HB5 := Aside0.mk hb5; have HO5 := Aside0.mk (Kd.R_lower ho5 HT.out.hB.size); have HO6 := Aside0.mk (Kd.S_elder' (v := v5) HO.out (fun k hk => ((Kd.R_bound ho5).1 k hk).2.1) hb5); have HBG5 := Aside0.mk (blk_below HBG.out hb5); have HT5 := Aside0.mk (HT.out.keep hb5); have HM5 := Aside0.mk (IM.below HM.out hb5); clear ho5 hb5; obtain ⟨Ao, co, eo⟩ := Kd.R_slice HO5.out; subst eo))
            | (go_at_call 23; go_loud ((with_reducible refine (name_calls Ao co t w5 (Kd.R_reads' HO5.out).2.2 HTS.out HTB.out (HTAB.out.on (HT5.out.hB))).mono ?_); rintro e w6 ⟨rfl, hb6⟩; have HO56 := Aside0.mk (Kd.R_below HO5.out hb6); have HO66 := Aside0.mk (Kd.S_below HO6.out hb6); have HBG6 := Aside0.mk (blk_below HBG5.out hb6); have HT6 := Aside0.mk (HT5.out.keep hb6); have HM6 := Aside0.mk (IM.below HM5.out hb6); clear hb6; have L1 := ims_look_run HM6.out (nameOf t) HNM.out; rw [HQ.out] at L1))
            | (at_mapUpdate; refine im_store_int _ Tryd.underlying3 rfl _ _ _ 50 rfl mapS Tryd.underlying50 rfl HM6.out HLTM.out _ (nameOf t) 1 rfl (by first | rfl | go_simp) (hkeyS HNM.out) HQL.out ?_; intro w7 him7 hg7; have HM7 := Aside0.mk him7; have HO57 := Aside0.mk (R_imapS HO56.out HM6.out hg7); have HO67 := Aside0.mk (S_imap HO66.out HM6.out hg7); have HBG7 := Aside0.mk (blk_grown HBG6.out hg7 (by have := ims_ne HM6.out HBG6.out; intro e; injection e with e; exact this e.symm)); have HT7 := Aside0.mk (HT6.out.grown hg7 (by rintro k' ⟨⟩; exact HZM.out)); clear him7 hg7; have L2 := ims_look_run HM7.out (nameOf t) HNM.out; rw [upd_same, Option.getD_some] at L2)
            | (go_at_call 24; (with_reducible refine (taut_calls Ao co t w7 (Kd.R_reads' HO57.out).2.2 (Kd.R_reads' HO57.out).2.1 (by have := HTS.out; omega)).mono ?_); rintro e w8 ⟨rfl, hb8⟩; have HO58 := Aside0.mk (Kd.R_below HO57.out hb8); have HO68 := Aside0.mk (Kd.S_below HO67.out hb8); have HBG8 := Aside0.mk (blk_below HBG7.out hb8); have HT8 := Aside0.mk (HT7.out.keep hb8); have HM8 := Aside0.mk (IM.below HM7.out hb8); clear hb8; rw [HTT.out, HTAU.out]; have k8 := (blk_cell HBG8.out 1).trans rfl)
            | ((with_reducible refine gate_builtin (b := .append) (xs := #[.tmp 42, .tmp 44]) rfl ?_); at_builtin; (refine Kd.S_append (Kd.slice 3 (Kd.int .i64)) (w0 := w) w.heap.size rfl (.tmp 42) (.tmp 44) 22 40 (.slice none 0 0) 24 rfl Tryd.underlying22 infoRow rfl (by decide) (by omega) u ys t [.slice Ao t.length co] (fun _ => True) (fun k_ => some k_ = (.slice Ao t.length co : Value).ownBlock) rfl rfl ?aP (fun k_ hk_ => ((Kd.R_mono (ok' := fun k_ => ((fun _ => True)) k_ ∧ some k_ ≠ (u : Value).ownBlock) (Kd.R_apart' (HO58.out) (Kd.S_typed HO68.out) (by decide)) (fun k_ hk => ⟨trivial, hk.2⟩))).1 k_ hk_.symm) ?aF ?aO ?aB ?aS ?aL ?_; (case aP => exact Kd.M_row (Kd.R_mono (Kd.R_tight rfl (Kd.R_mono (ok' := fun k_ => ((fun _ => True)) k_ ∧ some k_ ≠ (u : Value).ownBlock) (Kd.R_apart' (HO58.out) (Kd.S_typed HO68.out) (by decide)) (fun k_ hk => ⟨trivial, hk.2⟩))) (fun _ h_ => h_))); (case aB => exact HT8.out.hB); (case aF => exact (fun _ _ => trivial)); (case aO => exact (Kd.S_mono HO68.out (fun k_ hk => ⟨trivial, fun e_ => hk.2 e_⟩))); (case aS => exact HT8.out.hB.size); (case aL => have := HLX.out; omega); intro v9 w9 ho hb hg hat; have HO9 := Aside0.mk ho; have HBG9 := Aside0.mk (blk_grown HBG8.out hg (Kd.S_ne HO68.out HBG8.out (by decide))); have HT9 := Aside0.mk (HT8.out.grown2 hb hg (Kd.S_ne HO68.out HT8.out.b0 (by decide)) (Kd.S_ne HO68.out HT8.out.b1 (by decide))); have HM9 := Aside0.mk (HM8.out.kept hg (fun e => by obtain ⟨cells, hc⟩ := Kd.S_typed HO68.out _ e.symm; exact ims_ne HM8.out hc rfl)); have k19 := (blk_cell HBG9.out 1).trans rfl; have y19 := blk_frozen HBG9.out 1; clear ho hb hg hat; obtain ⟨Ap, cp, ep⟩ := Kd.S_slice HO9.out; subst ep)))
          go_roundw
          case measure => exact HMS.out
          case rel =>
            have h9 := HO9.out
            rw [show (ys ++ [t]).length = ys.length + 1 by simp] at h9
            exact ⟨k + 1, _, _, _, _, rfl, HX2, ⟨HM9.out.setCell (ims_ne HM9.out HBG9.out) _⟩, ⟨HNS.out⟩, ⟨HT9.out.setCell HZG.out _⟩, ⟨blk_put HBG9.out 1 _ rfl⟩, ⟨by rw [HTK2.out]; exact Kd.S_mono (Kd.S_far (p := ⟨gg, 1, none⟩) (Kd.S_types h9 HBG9.out (by decide)) (fun _ hk => hk.2) _) (fun _ _ => trivial)⟩⟩
      · obtain ⟨z, hz⟩ : ∃ z : Int, z = ((q + 1 : Nat) : Int) := ⟨_, rfl⟩
        have hw : wrap64 ((q : Int) + 1) = z := by rw [hz]; exact w64_natS HQC.out
        have HQL : Aside0 ((Lit.int .i64 z).wf = true) := ⟨by rw [hz]; exact wf_natS HQC.out⟩
        have hne : (z == 1) = false := beq_eq_false_iff_ne.2 (by omega)
        have HNZ := HNS
        rw [show (q : Int) + 1 = z by omega] at HNZ
        have HTK2 : Aside0 (tidyAll (l1.take (k + 1)) = ys) := ⟨by rw [HTK.out, if_pos (.inl (HMM.out.1 hq)), List.append_nil]⟩
        clear hq hz HTK HMM
        go_wp2_with (first
          | (go_at_call 22; go_loud ((with_reducible refine TD.mono ?_); rintro e w5 ⟨v5, rfl, ho5, hb5⟩; have HB5 := Aside0.mk hb5; have HO5 := Aside0.mk (Kd.R_lower ho5 HT.out.hB.size); have HO6 := Aside0.mk (Kd.S_elder' (v := v5) HO.out (fun k hk => ((Kd.R_bound ho5).1 k hk).2.1) hb5); have HBG5 := Aside0.mk (blk_below HBG.out hb5); have HT5 := Aside0.mk (HT.out.keep hb5); have HM5 := Aside0.mk (IM.below HM.out hb5); clear ho5 hb5; obtain ⟨Ao, co, eo⟩ := Kd.R_slice HO5.out; subst eo))
          | (go_at_call 23; go_loud ((with_reducible refine (name_calls Ao co t w5 (Kd.R_reads' HO5.out).2.2 HTS.out HTB.out (HTAB.out.on (HT5.out.hB))).mono ?_); rintro e w6 ⟨rfl, hb6⟩; have HO56 := Aside0.mk (Kd.R_below HO5.out hb6); have HO66 := Aside0.mk (Kd.S_below HO6.out hb6); have HBG6 := Aside0.mk (blk_below HBG5.out hb6); have HT6 := Aside0.mk (HT5.out.keep hb6); have HM6 := Aside0.mk (IM.below HM5.out hb6); clear hb6; have L1 := ims_look_run HM6.out (nameOf t) HNM.out; rw [HQ.out] at L1))
          | (at_mapUpdate; refine im_store_int _ Tryd.underlying3 rfl _ _ _ 50 rfl mapS Tryd.underlying50 rfl HM6.out HLTM.out _ (nameOf t) z rfl (by first | rfl | go_simp) (hkeyS HNM.out) HQL.out ?_; intro w7 him7 hg7; have HM7 := Aside0.mk him7; have HO57 := Aside0.mk (R_imapS HO56.out HM6.out hg7); have HO67 := Aside0.mk (S_imap HO66.out HM6.out hg7); have HBG7 := Aside0.mk (blk_grown HBG6.out hg7 (by have := ims_ne HM6.out HBG6.out; intro e; injection e with e; exact this e.symm)); have HT7 := Aside0.mk (HT6.out.grown hg7 (by rintro k' ⟨⟩; exact HZM.out)); clear him7 hg7; have L2 := ims_look_run HM7.out (nameOf t) HNM.out; rw [upd_same, Option.getD_some] at L2))
        go_roundw
        case measure => exact HMS.out
        case rel => exact ⟨k + 1, _, u, _, _, rfl, HX2, HM7, HNZ, HT7, HBG7, ⟨by rw [HTK2.out]; exact Kd.S_mono HO67.out (fun _ _ => trivial)⟩⟩
    · obtain rfl : k = l1.length := by omega
      have q3 : decide (x < (l1.length : Int)) = false := decide_eq_false (by omega)
      have ho := HO.out
      rw [List.take_length] at ho
      have HO2 := Aside0.mk ho
      have k0 := (blk_cell HBG.out 0).trans rfl
      have k1 := (blk_cell HBG.out 1).trans rfl
      have g0 := HT.out.g0
      have g1 := HT.out.g1
      have y0 := HT.out.y0
      have y1 := HT.out.y1
      obtain ⟨Au, cu, eu⟩ := Kd.S_slice HO2.out
      subst eu
      clear hxk hk hlt HX HO ho
      go_wp2_with fail
      have e0 := (blk_cell (blk_put (blk_put HT.out.b1 0 (.int .i64 v1) rfl) 1 (.slice Au (tidyAll l1).length cu) rfl) 0).trans rfl
      have e1 := (blk_cell (blk_put (blk_put HT.out.b1 0 (.int .i64 v1) rfl) 1 (.slice Au (tidyAll l1).length cu) rfl) 1).trans rfl
      refine bodyPost_ret (v := .tuple #[.agg #[.int .i64 v1, .slice Au (tidyAll l1).length cu], .int .i64 0]) (by simp [results, Tryd.results6, go_sem, g0, g1]) rfl ?_
      refine ⟨_, rfl, ?_, (HT.out.hB.setCell (p := ⟨w.heap.size + 1, 0, none⟩) (show w.heap.size ≤ w.heap.size + 1 by omega) _).setCell (p := ⟨w.heap.size + 1, 1, none⟩) (show w.heap.size ≤ w.heap.size + 1 by omega) _⟩
      have b2 := blk_put HT.out.b1 0 (.int .i64 v1) rfl
      exact Kd.S_set (Kd.S_set HO2.out HT.out.b1 (by decide) 0 _) b2 (by decide) 1 _
theorem tidied_calls (v1 : Int) (A1 : Option Addr) (c1 : Nat) (l1 : List (List Int)) (w : World) (hr1 : Kd.C (Kd.slice 3 (Kd.int .i64)) w A1 l1.length l1) (hc1 : l1.length ≤ c1)
    (hn : l1.length ≤ 5864062014805) (hs : ∀ c ∈ l1, c.length ≤ 17592186044416) (htab : Tab w) :
    Calls Tryd.prog 6 #[.agg #[.int .i64 v1, .slice A1 l1.length c1]] w fun e w' => ∃ v : Value, e = .returned (.tuple #[.agg #[.int .i64 (tidiedOf v1 l1).1, v], .int .i64 (tidiedOf v1 l1).2.2]) ∧ Kd.S (Kd.slice 3 (Kd.int .i64)) 40 w' w.heap.size (fun _ => True) v (tidiedOf v1 l1).2.1 ∧ Below w.heap.size w w' := by
  unfold tidiedOf
  by_cases hf : isFormula v1 l1 = true
  · rw [if_pos hf]
    exact tidied_good v1 A1 c1 l1 w hr1 hc1 hn hs hf htab
  · rw [if_neg hf]
    refine (tidied_bad v1 A1 c1 l1 w hr1 hc1 hn hs (by simpa using hf)).mono ?_
    rintro e w' ⟨he, hb⟩
    exact ⟨_, he, Kd.S_nil _ _ _ _ _, hb⟩
end Go.Proofs.YtggnnnddnppcpaaDoorHand
/-! text YtggnnnddnppcpaaDoorTidiesLaw -/
namespace Go.Proofs.YtggnnnddnppcpaaDoorHand
open Go.RowKit Go.Proofs.YtggnnnddnppcpaaDoorW.PrintWords Go.Proofs.YtggnnnddnppcpaaDoorW.PrintLast Go.Proofs.YtggnnnddnppcpaaDoorMath Go.Proofs.YtggnnnddnppcpaaDoor.PCnfTidies
set_option linter.unusedVariables false
set_option linter.unusedSimpArgs false
theorem tidiedOf_small (v : Int) (cs : List (List Int)) (hn : cs.length ≤ 5864062014805) : (tidiedOf v cs).2.1.length ≤ 5864062014805 ∧ ∀ c ∈ (tidiedOf v cs).2.1, c.length ≤ 17592186044416 := by
  unfold tidiedOf
  split
  · refine ⟨Nat.le_trans (tidyAll_length cs) hn, fun c hc => ?_⟩
    obtain ⟨d, _, rfl, _⟩ := tidyAll_mem hc
    exact Nat.le_trans (tidyOf_small d) (by omega)
  · exact ⟨Nat.zero_le _, fun c hc => by cases hc⟩
abbrev fo (a b : Value) : Obj := .cells #[a, b] 24 (0, 0)
theorem small_calls (W : World) : Calls Tryd.prog 7 #[] W fun e w' => ∃ A c, e = .returned (.agg #[.int .i64 2, .slice A 2 c]) ∧ 2 ≤ c ∧ Kd.C (Kd.slice 3 (Kd.int .i64)) w' A 2 [[1, 2], [-1]] ∧ Below W.heap.size W w' := by
  refine (depotlaw02_small.calls _ _ W rfl).mono ?_
  rintro e w1 ⟨v1, rfl, hN1, hb1⟩
  obtain ⟨Af, cf, ef, hcf, hCf⟩ := Kd.N_reads hN1
  subst ef
  exact ⟨Af, cf, rfl, hcf, hCf, hb1⟩
theorem small_tidied (A : Option Addr) (c : Nat) (W : World) (h : Kd.C (Kd.slice 3 (Kd.int .i64)) W A 2 [[1, 2], [-1]]) (hc : 2 ≤ c) (ht : Tab W) :
    Calls Tryd.prog 6 #[.agg #[.int .i64 2, .slice A 2 c]] W fun e w' => ∃ A3 n3 c3, e = .returned (.tuple #[.agg #[.int .i64 2, .slice A3 n3 c3], .int .i64 0]) ∧ Below W.heap.size W w' := by
  refine (tidied_good 2 A c [[1, 2], [-1]] W h hc (by decide) (by decide) (by decide) ht).mono ?_
  rintro e w' ⟨v, rfl, hS, hb⟩
  obtain ⟨A3, c3, rfl⟩ := Kd.S_slice hS
  exact ⟨A3, _, c3, rfl, hb⟩
set_option maxHeartbeats 8000000 in
set_option maxRecDepth 100000 in
theorem tidies_calls (v : Int) (A0 : Option Addr) (c0 : Nat) (cs : List (List Int)) (w : World) (hr0 : Kd.C (Kd.slice 3 (Kd.int .i64)) w A0 cs.length cs) (hc0 : cs.length ≤ c0)
    (hn : cs.length ≤ 5864062014805) (hs : ∀ c ∈ cs, c.length ≤ 17592186044416) (htab : Tab w) :
    Calls Tryd.prog 5 #[.agg #[.int .i64 v, .slice A0 cs.length c0]] w fun e w' => e = .returned (.bool true) ∧ Below w.heap.size w w' := by
  obtain ⟨hl1, hl2⟩ := tidiedOf_small v cs hn
  obtain ⟨k3, h3⟩ := (depotref02_Tidy_ev v cs hn hs).rounds
  obtain ⟨k4, h4⟩ := (depotref00_SameFormula_ev (tidiedOf v cs).1 (tidiedOf v cs).1 (tidiedOf v cs).2.1 (tidiedOf v cs).2.1 (by omega) hl2).rounds
  rw [show (decide ((tidiedOf v cs).1 = (tidiedOf v cs).1) && (tidiedOf v cs).2.1 == (tidiedOf v cs).2.1) = true by simp] at h4
  have F5 := fun W h ht => tidied_calls v A0 c0 cs W h hc0 hn hs ht
  have F3 := fun W h => depotref02_Tidy.calls k3 v A0 c0 cs (tidiedOf v cs).1 (tidiedOf v cs).2.1 (tidiedOf v cs).2.2 W h hc0 h3
  have F4 := fun (A B : Option Addr) (a b : Nat) W h h7 h8 h9 => depotref00_SameFormula.calls k4 (tidiedOf v cs).1 A a (tidiedOf v cs).2.1 (tidiedOf v cs).1 B b (tidiedOf v cs).2.1 true W h h7 h8 h9 h4
  have HF3 := Aside0.mk F3
  have HF4 := Aside0.mk F4
  have HF5 := Aside0.mk F5
  have HR0 := Aside0.mk hr0
  have HT := Aside0.mk htab
  have HB := Aside0.mk (below_alloc (Below.refl w.heap.size w) (fo (.int .i64 v) (.slice A0 cs.length c0)))
  have HX0 := Aside0.mk (blk_new w (fo (.int .i64 v) (.slice A0 cs.length c0)))
  clear F3 F4 F5 hr0 hc0 hn hs h3 h4 hl1 hl2 htab
  generalize (tidiedOf v cs).1 = T1 at *
  generalize (tidiedOf v cs).2.2 = T3 at *
  generalize (tidiedOf v cs).2.1 = L at *
  go_enter Tryd.func5, Tryd.ntmps5
  go_wp2_with (first
    | (go_at_call 7; (with_reducible refine (small_calls _).mono ?_); rintro e w1 ⟨Af, cf, rfl, hcf, hCf, hb1⟩; have HB1 := Aside0.mk (below_step HB.out hb1); have HX1 := Aside0.mk (blk_below HX0.out hb1); have HC1 := Aside0.mk (And.intro hcf hCf); clear hb1 hcf hCf)
    | (go_at_call 6; (with_reducible refine (small_tidied Af cf _ HC1.out.2 HC1.out.1 (HT.out.on HB1.out)).mono ?_); rintro e w2 ⟨A2, n2, c2, rfl, hb2⟩; have HB2 := Aside0.mk (below_alloc (below_step HB1.out hb2) (fo (.int .i64 2) (.slice A2 n2 c2))); have HX2 := Aside0.mk (blk_alloc (blk_below HX1.out hb2) (fo (.int .i64 2) (.slice A2 n2 c2))); have f0 := (blk_cell HX2.out 0).trans rfl; have f1 := (blk_cell HX2.out 1).trans rfl; clear hb2)
    | (go_at_call 6; (with_reducible refine (HF5.out _ (Kd.C_below HR0.out HB2.out) (HT.out.on HB2.out)).mono ?_); rintro e w3 ⟨v3, rfl, hS3, hb3⟩; obtain ⟨A3, c3, e3⟩ := Kd.S_slice hS3; subst e3; have HB3 := Aside0.mk (below_alloc (below_step HB2.out hb3) (fo (.int .i64 T1) (.slice A3 L.length c3))); have HX3 := Aside0.mk (blk_alloc (blk_below HX2.out hb3) (fo (.int .i64 T1) (.slice A3 L.length c3))); have HG3 := Aside0.mk (blk_new w3 (fo (.int .i64 T1) (.slice A3 L.length c3))); have HC3 := Aside0.mk (And.intro (Kd.S_reads' hS3).2.1 (Kd.C_below (Kd.S_reads' hS3).2.2 (below_alloc (Below.refl _ _) (fo (.int .i64 T1) (.slice A3 L.length c3))))); have g0 := (blk_cell HX3.out 0).trans rfl; have g1 := (blk_cell HX3.out 1).trans rfl; clear hb3 hS3)
    | (go_at_call 9; (with_reducible refine (HF3.out _ (Kd.C_below HR0.out HB3.out)).mono ?_); rintro e w4 ⟨v4, rfl, hS4, hb4⟩; obtain ⟨A4, c4, e4⟩ := Kd.S_slice hS4; subst e4; have HB4 := Aside0.mk (below_alloc (below_step HB3.out hb4) (fo (.int .i64 T1) (.slice A4 L.length c4))); have HG4 := Aside0.mk (blk_alloc (blk_below HG3.out hb4) (fo (.int .i64 T1) (.slice A4 L.length c4))); have HH4 := Aside0.mk (blk_new w4 (fo (.int .i64 T1) (.slice A4 L.length c4))); have HC4 := Aside0.mk (And.intro (Kd.S_reads' hS4).2.1 (Kd.C_below (Kd.S_reads' hS4).2.2 (below_alloc (Below.refl _ _) (fo (.int .i64 T1) (.slice A4 L.length c4))))); have HD4 := Aside0.mk (Kd.C_below HC3.out.2 (below_alloc hb4 (fo (.int .i64 T1) (.slice A4 L.length c4)))); have h0 := (blk_cell HG4.out 0).trans rfl; have h1 := (blk_cell HG4.out 1).trans rfl; have i0 := (blk_cell HH4.out 0).trans rfl; have i1 := (blk_cell HH4.out 1).trans rfl; have HG3b := Aside0.mk (blk_below HG3.out hb4); have j0 : w4.cell? ⟨w3.heap.size, 0, none⟩ = some (.int .i64 T1) := (blk_cell HG3b.out 0).trans rfl; have j1 : w4.cell? ⟨w3.heap.size, 1, none⟩ = some (.slice A3 L.length c3) := (blk_cell HG3b.out 1).trans rfl; have jn : (w3.heap.size = w4.heap.size) = False := eq_false (by have := blk_lt HG3b.out; omega); have jn2 : (w4.heap.size = w3.heap.size) = False := eq_false (by have := blk_lt HG3b.out; omega); clear hb4 hS4)
    | (go_at_call 14; (with_reducible refine (HF4.out _ _ _ _ _ HD4.out HC3.out.1 HC4.out.2 HC4.out.1).mono ?_); rintro e w5 ⟨rfl, hb5⟩; have HB5 := Aside0.mk (below_step HB4.out hb5); clear hb5))
  go_ret
  exact ⟨by first | rfl | (simp; done), HB5.out⟩
end Go.Proofs.YtggnnnddnppcpaaDoorHand
namespace Go.Proofs.YtggnnnddnppcpaaDoor.PCnfTidies
open Go.RowKit Go.Proofs.YtggnnnddnppcpaaDoorW.PrintWords Go.Proofs.YtggnnnddnppcpaaDoorW.PrintLast
set_option linter.unusedVariables false
def depotlaw02_CnfTidies.f (a0_0 : Int) (l0_1 : List (List Int)) : Option Bool := if l0_1.length ≤ 5864062014805 ∧ (∀ c ∈ l0_1, c.length ≤ 17592186044416) then some true else none
theorem depotlaw02_CnfTidies.calls (a0_0 : Int) (A0_1 : Option Addr) (c0_1 : Nat) (l0_1 : List (List Int)) (r : Bool) (w : World) (hr0_1 : Kd.C (Kd.slice 3 (Kd.int .i64)) w A0_1 l0_1.length l0_1) (hc0_1 : l0_1.length ≤ c0_1) (ht : Go.Proofs.YtggnnnddnppcpaaDoorHand.Tab w) (h : depotlaw02_CnfTidies.f a0_0 l0_1 = some r) :
    Calls Tryd.prog 5 #[.agg #[.int .i64 a0_0, .slice A0_1 l0_1.length c0_1]] w fun e w' => e = .returned (.bool r) ∧ Below w.heap.size w w' := by
  unfold depotlaw02_CnfTidies.f at h
  split at h
  · rename_i hh
    obtain rfl := Option.some.inj h
    exact Go.Proofs.YtggnnnddnppcpaaDoorHand.tidies_calls a0_0 A0_1 c0_1 l0_1 w hr0_1 hc0_1 hh.1 hh.2 ht
  · cases h
#print axioms depotlaw02_CnfTidies.calls
end Go.Proofs.YtggnnnddnppcpaaDoor.PCnfTidies
/-! text YtggnnnddnppcpaaDoorStatCnfTidies -/
namespace Go.Proofs.YtggnnnddnppcpaaDoor.PCnfTidies
open Go.RowKit Go.Proofs.YtggnnnddnppcpaaDoorW.PrintWords Go.Proofs.YtggnnnddnppcpaaDoorW.PrintLast Go.Proofs.YtggnnnddnppcpaaDoorW.PrintMore Go.Proofs.YtggnnnddnppcpaaDoorOpens
set_option linter.unusedVariables false
set_option linter.unusedSimpArgs false
def Stmt : Prop := ∀ (a0_0 : Int) (l0_1 : List (List (Int))), (((Lit.int .i64 a0_0).wf = true) ∧ (l0_1.length * 24 ≤ 140737488351232 ∧ ∀ y1 ∈ l0_1, y1.length * 8 ≤ 140737488351232 ∧ ∀ y2 ∈ y1, (Lit.int .i64 y2).wf = true)) → depotlaw02_CnfTidies.f a0_0 l0_1 = some true
theorem walk (P : Stmt) (a0_0 : Int) (A0_1 : Option Addr) (c0_1 : Nat) (l0_1 : List (List (Int))) (w : World) (hr0_1 : Kd.C (Kd.slice 3 (Kd.int .i64)) w A0_1 l0_1.length l0_1) (hc0_1 : l0_1.length ≤ c0_1) (ht : Go.Proofs.YtggnnnddnppcpaaDoorHand.Tab w) (ok0 : ((Lit.int .i64 a0_0).wf = true) ∧ (l0_1.length * 24 ≤ 140737488351232 ∧ ∀ y1 ∈ l0_1, y1.length * 8 ≤ 140737488351232 ∧ ∀ y2 ∈ y1, (Lit.int .i64 y2).wf = true)) :
    Calls Tryd.prog 5 #[.agg #[.int .i64 a0_0, .slice A0_1 l0_1.length c0_1]] w fun e w' => e = .returned (.bool true) ∧ Below w.heap.size w w' := by
  have h := P a0_0 l0_1 ok0
  refine (depotlaw02_CnfTidies.calls a0_0 A0_1 c0_1 l0_1 true w hr0_1 hc0_1 ht h).mono ?_
  rintro e w' ⟨rfl, hd⟩
  exact ⟨rfl, hd⟩
end Go.Proofs.YtggnnnddnppcpaaDoor.PCnfTidies
/-! text YtggnnnddnppcpaaDoorPureCnfTidies -/
namespace Go.Proofs.YtggnnnddnppcpaaDoor.Pure
open Go.RowKit Go.Proofs.YtggnnnddnppcpaaDoor.PCnfTidies Go.Proofs.YtggnnnddnppcpaaDoorW.PrintWords Go.Proofs.YtggnnnddnppcpaaDoorW.PrintLast Go.Proofs.YtggnnnddnppcpaaDoorOpens
set_option linter.unusedVariables false

theorem CnfTidies : PCnfTidies.Stmt := by
  intro v l ok1
  unfold depotlaw02_CnfTidies.f
  have hn : l.length ≤ 5864062014805 := by have := ok1.2.1; omega
  have hs : ∀ c ∈ l, c.length ≤ 17592186044416 := fun c hc => by have := (ok1.2.2 c hc).1; omega
  rw [if_pos ⟨hn, hs⟩]

end Go.Proofs.YtggnnnddnppcpaaDoor.Pure
