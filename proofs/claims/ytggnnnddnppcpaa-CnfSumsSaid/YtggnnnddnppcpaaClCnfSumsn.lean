/- The law CnfSums answers true. -/
import Derived.Test.YtggnnnddnppcpaaClCnfSumsk
import Derived.Test.YtggnnnddnppcpaaClCnfSumsl
import Derived.Test.YtggnnnddnppcpaaClCnfSumsm
import Derived.Sort.CutIn
import Derived.Laws.EntriesVeiled
import Derived.Test.YtggnnnddnppcpaaClCnfSumse
import Derived.Test.YtggnnnddnppcpaaClCnfSumsd
/-! text YtggnnnddnppcpaaSums -/
namespace Go.Proofs.YtggnnnddnppcpaaHand
open Go.RowKit Go.Sort Go.Lib Go.Shelf Go.Proofs.YtggnnnddnppcpaaW.PrintWords Go.Proofs.YtggnnnddnppcpaaW.PrintLast Go.Proofs.YtggnnnddnppcpaaMath Go.Proofs.YtggnnnddnppcpaaOwn Go.Proofs.Ytggnnnddnppcpaa.PCnfSums
attribute [local go_sem] Oper.semAt_some
set_option linter.unusedVariables false
set_option linter.unusedSimpArgs false
theorem undef_bool (b : Bool) : (undef = Value.bool b) = False := by simp [undef]
attribute [local simp, local go_sem] undef_bool
theorem infoRowB : (Try.prog.info? 41).map (fun i => (i.zero, i.size, i.bytes)) = some (some (.slice none 0 0), 1, 24) := by kernel_rfl
theorem nil_seq1 (g : Nat) (lb : Array Value) (W : World) : (binOp .eql 49 (.func (.func g) #[] lb) .nilFunc).run Try.prog W = .ok (.bool false) W := by kernel_rfl
/-- what the loop holds: the law's variables; the collected models, copied, none of the iterator's blocks -/
structure SI (w : World) (Bm Bb Ba D : Nat) (f0 f1 : Value) (va : Value) (ms : List (List Bool)) (M : Nat → Prop) (W : World) : Prop where
  st : St w [(Ba, .cells #[va] 46 (0, 0)), (Bb, .cells #[.bool false] 4 (0, 0)), (Bm, .cells #[f0, f1] 24 (0, 0))] W
  rows : Kd.R (Kd.slice 4 Kd.bool) 41 W D (fun k => ¬ M k) va ms
  hM : ∀ k, M k → D ≤ k
  hM2 : ∀ k, M k → k < W.heap.size
  hD : D ≤ W.heap.size
  lt : Ba < D ∧ Bb < D ∧ Bm < D
  hl : ∀ a ∈ ms, a.length ≤ 16
theorem SI.grow {w : World} {Bm Bb Ba D : Nat} {f0 f1 va : Value} {ms : List (List Bool)} {M M1 : Nat → Prop} {A B : World} (h : SI w Bm Bb Ba D f0 f1 va ms M A) (hg : Grow M A B) (hm : More M A B M1) : SI w Bm Bb Ba D f0 f1 va ms M1 B := by
  have h2 := h.lt
  refine ⟨h.st.growN hg h.hM (Nat.le_of_lt (Nat.lt_of_le_of_lt (h.st.ge 0 rfl) h2.1)) (by simp; omega), ?_, fun k hk => ?_, fun k hk => ?_, Nat.le_trans h.hD hg.size, h2, h.hl⟩
  · refine Kd.R_mono (Kd.R_step (Kd.R_bound h.rows) fun k hk hlt => hg.block k hlt hk.1) fun k hk hk1 => ?_
    rcases hm k hk1 with h3 | h3
    · exact hk.1 h3
    · have := hk.2.2.1
      omega
  · rcases hm k hk with h3 | h3
    · exact h.hM k h3
    · have := h.hD
      omega
  · rcases hm k hk with h3 | h3
    · exact Nat.lt_of_lt_of_le (h.hM2 k h3) hg.size
    · exact h3.2
theorem SI.keep {w : World} {Bm Bb Ba D : Nat} {f0 f1 va : Value} {ms : List (List Bool)} {M : Nat → Prop} {A B : World} (h : SI w Bm Bb Ba D f0 f1 va ms M A) (hb : Below A.heap.size A B) : SI w Bm Bb Ba D f0 f1 va ms M B := h.grow (Grow.of_below hb) (More.refl _ _ _)

theorem rowB_at {w : World} {base : Nat} {ok : Nat → Prop} {v : Value} {xs : List (List Bool)} (h : Kd.R (Kd.slice 4 Kd.bool) 41 w base ok v xs) {i : Nat} (hi : i < xs.length) : ∃ ad c A0 c0, v = .slice (some ad) xs.length c ∧ w.cell? (ad.add i) = some (.slice A0 (xs[i]).length c0) ∧ (xs[i]).length ≤ c0 ∧ Kd.bool.C w A0 (xs[i]).length (xs[i]) := by
  obtain ⟨A, c, rfl, hc, hC⟩ := Kd.R_reads h
  obtain ⟨ad, c1, e, _, hK, hc0⟩ := Kd.C_get hC ([] : List Bool) (i : Int) (by omega) (by omega)
  subst e
  have hc : ∀ j u, c1[j]? = some u → w.cell? (ad.add ((i : Int).toNat * 1 + j)) = some u := hc0
  obtain ⟨A0, c0, rfl, l0, g0⟩ := hK
  have hq := hc 0 _ rfl
  have e2 : xs.getD ((i : Int).toNat) [] = xs[i] := getD_nat hi
  rw [e2] at hq l0 g0
  rw [Int.toNat_natCast, Nat.mul_one, Nat.add_zero] at hq
  exact ⟨ad, c, A0, c0, rfl, hq, l0, g0⟩

set_option maxRecDepth 100000 in
set_option maxHeartbeats 8000000 in
theorem sums_calls (v : Int) (A0 : Option Addr) (c0 : Nat) (cs : List (List Int)) (A1 : Option Addr) (c1 : Nat) (m : List Bool) (w : World) (hr0 : Kd.C (Kd.slice 3 (Kd.int .i64)) w A0 cs.length cs) (hc0 : cs.length ≤ c0) (hr1 : Kd.C Kd.bool w A1 m.length m) (hc1 : m.length ≤ c1)
    (hn : cs.length ≤ 5864062014805) (hs : ∀ c ∈ cs, c.length ≤ 17592186044416) (hm : m.length ≤ 140737488351232) :
    Calls Try.prog 9 #[.agg #[.int .i64 v, .slice A0 cs.length c0], .slice A1 m.length c1] w fun e w' => e = .returned (.bool true) ∧ Below w.heap.size w w' := by
  have HR0 := Aside0.mk hr0
  have HR1 := Aside0.mk hr1
  have HC := Aside0.mk (And.intro hc0 hc1)
  have HN := Aside0.mk hn
  have HS := Aside0.mk hs
  have HM := Aside0.mk hm
  clear hr0 hr1 hc0 hc1 hn hs hm
  refine (callsIn_wide (n := 12)).1 ?_
  refine callsIn_of_wp_marks Try.func9 rfl trivial ?_ rfl
  simp only [Try.ntmps9, List.size_toArray, List.length_cons, List.length_nil, Nat.reduceAdd, Nat.reduceSub, Array.replicate_succ, Array.replicate_zero, List.push_toArray, List.append_toArray, List.nil_append, List.cons_append]
  gi_wp2
  have T0 : St w [(w.heap.size + 1, .cells #[.bool false] 4 (0, 0)), (w.heap.size, .cells #[.int .i64 v, .slice A0 cs.length c0] 24 (0, 0))] ((w.alloc (.cells #[.int .i64 v, .slice A0 cs.length c0] 24)).alloc (.cells #[.bool false] 4)) := by
    have := ((St.start (Below.refl w.heap.size w)).new (.cells #[.int .i64 v, .slice A0 cs.length c0] 24)).new (.cells #[.bool false] 4)
    simpa using this
  generalize hV0 : (w.alloc (.cells #[.int .i64 v, .slice A0 cs.length c0] 24)).alloc (.cells #[.bool false] 4) = V0 at T0 ⊢
  clear hV0
  refine ⟨trivial, ?_⟩
  (with_reducible refine (callsIn_wide.2 (awake_calls _)).mono ?_)
  rintro e V1 ⟨rfl, hb⟩
  have T1 := Aside0.mk (T0.keep hb)
  clear hb T0
  have f0 := (T1.out.cell 1 0 rfl).trans rfl
  have f1 := (T1.out.cell 1 1 rfl).trans rfl
  by_cases hf : isFormula v cs = true
  · by_cases hv : v ≤ 16
    · have CN := count_good v A0 c0 cs V1 (Kd.C_below HR0.out T1.out.hB) HC.out.1 HN.out HS.out hf hv
      have HCN := Aside0.mk CN
      have HF := Aside0.mk (And.intro hf hv)
      obtain ⟨nm, hnm⟩ : ∃ nm, nm = (modelsIn v.toNat cs).length := ⟨_, rfl⟩
      rw [← hnm] at HCN
      have HNM := Aside0.mk hnm
      clear hf hv CN hnm
      gi_wp2
      refine ⟨trivial, ?_⟩
      (with_reducible refine (callsIn_wide.2 HCN.out).mono ?_)
      rintro e V2 ⟨rfl, hb⟩
      have T2 := Aside0.mk (T1.out.keep hb)
      clear hb f0 f1 T1 HCN
      gi_upto_region 7 with fail
      have T3 := T2.out.new (.cells #[.slice none 0 0] 46 (0, 0))
      obtain ⟨Ba, hBa⟩ : ∃ Ba, Ba = V2.heap.size := ⟨_, rfl⟩
      rw [← hBa] at T3 ⊢
      generalize hV3 : V2.alloc (.cells #[.slice none 0 0] 46) = V3 at T3 ⊢
      have HBA : Aside0 (w.heap.size + 1 < Ba) := ⟨by rw [hBa]; exact T2.out.blt 0 rfl⟩
      clear hV3 hBa T2
      have f0 := (T3.cell 2 0 rfl).trans rfl
      have f1 := (T3.cell 2 1 rfl).trans rfl
      have HMD := Aside0.mk (models_good v A0 c0 cs V3 (Kd.C_below HR0.out T3.hB) HC.out.1 HN.out HS.out HF.out.1 HF.out.2)
      have T3 := Aside0.mk T3
      gi_wp2
      refine ⟨trivial, ?_⟩
      (with_reducible refine (callsIn_wide.2 HMD.out).mono ?_)
      rintro e V4 ⟨Bg, Ag, cg, rfl, hsrc, hg1, hg2, hb⟩
      have T4 := Aside0.mk (T3.out.keep hb)
      have HSR := Aside0.mk (And.intro hsrc (And.intro hg1 hg2))
      clear hb f0 f1 HMD hsrc hg1 hg2
      have nf := fun W => nil_seq1 72 #[.pointer (some ⟨Bg, 0, none⟩)] W
      gi_wp2
      clear nf
      rename_i K1 hK1
      have ownI : OwnD (fun (M : Nat → Prop) (pre : List (Value × List Bool)) (W : World) => ∃ va, SI w w.heap.size (w.heap.size + 1) Ba V4.heap.size (.int .i64 v) (.slice A0 cs.length c0) va (pre.map (·.2)) M W) := fun M M1 pre A B ⟨va, h⟩ hg hm => ⟨va, h.grow hg hm⟩
      have HV0 : Aside0 (0 ≤ v) := ⟨(isFormula_bd HF.out.1).1⟩
      have hSI : SI w w.heap.size (w.heap.size + 1) Ba V4.heap.size (.int .i64 v) (.slice A0 cs.length c0) (.slice none 0 0) [] (fun _ => False) V4 := ⟨T4.out, Kd.R_nil _ _ _ _ _, fun _ h => h.elim, fun _ h => h.elim, Nat.le_refl _, ⟨T4.out.blt 0 rfl, T4.out.blt 1 rfl, T4.out.blt 2 rfl⟩, fun _ h => by cases h⟩
      have hfv : isFormula ((v.toNat : Nat) : Int) cs = true := by rw [Int.toNat_of_nonneg HV0.out]; exact HF.out.1
      refine wpIn_range_ownH (by decide) (gf := 72) (lb := #[.pointer (some ⟨Bg, 0, none⟩)]) rfl rfl trivial (enters_of Try.func72 (by kernel_rfl) rfl)
        (models_own 11 (by decide) v.toNat cs Bg V3.heap.size _ Ag cg (by have := HF.out.2; omega) hfv (by have := HN.out; omega) HS.out V4 HSR.out.1)
        HandB.move (fun k hk => by rcases hk with rfl | hk; exact HSR.out.2.2; exact hk.2) (Below.refl _ _) (fun _ => rfl)
        (fun (M : Nat → Prop) (pre : List (Value × List Bool)) (W : World) => ∃ va, SI w w.heap.size (w.heap.size + 1) Ba V4.heap.size (.int .i64 v) (.slice A0 cs.length c0) va (pre.map (·.2)) M W) (fun (c : Code) (M : Nat → Prop) (pre : List (Value × List Bool)) (W : World) => c = .ret ∧ ((∃ p ∈ pre, satisfies v cs p.2 = false) ∨ ∃ ps a b, pre.map (·.2) = ps ++ [a, b] ∧ belowIn a b = false)) ownI (fun c M M1 pre A B h _ _ => h) ⟨_, hSI⟩
        (fun p => { tmps := #[Value.agg #[Value.int IntKind.i64 v, Value.slice A0 cs.length c0], Value.slice A1 m.length c1, Value.pointer (some { block := w.heap.size, off := 0 }), undef, Value.pointer (some { block := w.heap.size + 1, off := 0 }), Value.int IntKind.i64 ↑nm, Value.int IntKind.i64 0, Value.pointer (some { block := Ba, off := 0 }), Value.func (Fn.func 72) #[] #[Value.pointer (some { block := Bg, off := 0 })], p.1, undef, Value.bool true, Value.bool false, Value.tuple #[Value.int IntKind.i64 ↑nm, Value.int IntKind.i64 0], Value.agg #[Value.int IntKind.i64 v, Value.slice A0 cs.length c0], Value.tuple #[Value.int IntKind.i64 ↑nm, Value.int IntKind.i64 0], Value.int IntKind.i64 ↑nm, Value.int IntKind.i64 0, Value.int IntKind.i64 0, Value.bool false, undef, undef, Value.agg #[Value.int IntKind.i64 v, Value.slice A0 cs.length c0], Value.func (Fn.func 72) #[] #[Value.pointer (some { block := Bg, off := 0 })], Value.func (Fn.func 72) #[] #[Value.pointer (some { block := Bg, off := 0 })], Value.bool false, Value.func (Fn.func 72) #[] #[Value.pointer (some { block := Bg, off := 0 })], p.1, undef, undef, undef, undef, undef, undef, undef, undef, undef, undef, undef, undef, undef, undef, undef, undef, undef, undef, undef, undef, undef, undef, undef, undef, undef, undef, undef, undef, undef, undef, undef, undef, undef, undef, undef, undef, undef, undef, undef, undef, undef, undef, undef, undef, undef], defers := [] }) ?assign ?body ?done ?stop
      case assign =>
        intro l x W K hK
        gi_wp2
        first | exact hK | simpa using hK
      case body =>
        rintro li M M1 pre ⟨u, s⟩ A5 W5 hI hg hm hsub hMD hML hsz hHd hlen hli hrec
        obtain ⟨va, hI5⟩ := ownI _ _ _ _ _ hI hg hm
        obtain ⟨hsl, ho, hnm⟩ := hHd
        replace hsl : s.length = v.toNat := hsl
        replace ho : OwnBools W5 A5.heap.size u s := ho
        have hRs := own_Rb ho
        obtain ⟨As, cs', rfl⟩ := Kd.R_slice hRs
        have HC5 := Aside0.mk (Kd.R_reads' hRs).2
        have HI := Aside0.mk hI5
        have HL5 := Aside0.mk hlen
        have HSL : Aside0 (s.length ≤ 16) := ⟨by have := HF.out.2; have := HV0.out; omega⟩
        have HRD : Aside0 (∀ k, (k = Bg ∨ (V3.heap.size ≤ k ∧ k < V4.heap.size)) → Ba < k ∧ k < V4.heap.size) := ⟨fun k hk => by
          have h1 := T3.out.blt 0 rfl
          rcases hk with rfl | hk
          · exact ⟨Nat.lt_of_lt_of_le h1 HSR.out.2.1, HSR.out.2.2⟩
          · omega⟩
        clear ownI hI hg hm hsub hMD hML hsz hlen hli hrec hI5 hsl ho hnm hRs hSI hK1
        dsimp only
        obtain ⟨bad, hbad⟩ : ∃ bad, bad = (!(satisfies v cs s) || (match pre.getLast? with | none => false | some q => !(belowIn q.2 s))) := ⟨_, rfl⟩
        have HBAD := Aside0.mk hbad
        gi_upto_region 12 with fail
        gi_cut [47] from 11 (fun s47 wc => s47 = .bool bad ∧ Aside0 (SI w w.heap.size (w.heap.size + 1) Ba V4.heap.size (.int .i64 v) (.slice A0 cs.length c0) va (pre.map (·.2)) M1 wc) ∧ Aside0 (Below W5.heap.size W5 wc))
        case first =>
          as_aux_lemma =>
            have f0 := (HI.out.st.cell 2 0 rfl).trans rfl
            have f1 := (HI.out.st.cell 2 1 rfl).trans rfl
            have HST := Aside0.mk (satisfies_calls v A0 As c0 cs' cs s W5 (Kd.C_below HR0.out HI.out.st.hB) HC.out.1 HC5.out.2 HC5.out.1 (by have := HN.out; omega) HS.out)
            obtain ⟨np, hnp⟩ : ∃ np, np = (pre.map (·.2)).length := ⟨_, rfl⟩
            obtain ⟨Av, cv, hva⟩ := Kd.R_slice HI.out.rows
            rw [← hnp] at hva
            subst hva
            cases hst : satisfies v cs s with
            | false =>
              rw [hst] at HST hbad
              have hbt : bad = true := by rw [hbad]; rfl
              have HBT := Aside0.mk hbt
              clear hst hbad hbt hnp
              gi_wp2
              refine ⟨trivial, ?_⟩
              (with_reducible refine (CallsIn.inRound li (callsIn_wide.2 HST.out)).mono ?_)
              rintro e W6 ⟨rfl, hb⟩
              have HI6 := Aside0.mk (HI.out.keep hb)
              have HB6 := Aside0.mk hb
              clear hb f0 f1
              gi_wp2
              refine ⟨trivial, ?_⟩
              gi_wp2
              gi_meet
              case rel => exact ⟨by rw [HBT.out], HI6, HB6⟩
            | true =>
              rw [hst] at HST hbad
              rcases List.eq_nil_or_concat pre with rfl | ⟨pr, q, rfl⟩
              · have hbt : bad = false := by rw [hbad]; rfl
                have HBT := Aside0.mk hbt
                have hn0 : np = 0 := by rw [hnp]; rfl
                subst hn0
                clear hst hbad hbt hnp
                gi_wp2
                refine ⟨trivial, ?_⟩
                (with_reducible refine (CallsIn.inRound li (callsIn_wide.2 HST.out)).mono ?_)
                rintro e W6 ⟨rfl, hb⟩
                have HI6 := Aside0.mk (HI.out.keep hb)
                have HB6 := Aside0.mk hb
                clear hb f0 f1
                have fa := (HI6.out.st.cell 0 0 rfl).trans rfl
                gi_wp2
                refine ⟨trivial, ?_⟩
                gi_wp2
                gi_meet
                case rel => exact ⟨by rw [HBT.out], HI6, HB6⟩
              · have hq : (pr ++ [q]).getLast? = some q := by simp
                rw [List.concat_eq_append] at *
                rw [hq] at hbad
                have hbad2 : bad = !(belowIn q.2 s) := hbad
                obtain ⟨kp, hkp⟩ : ∃ kp, kp = pr.length := ⟨_, rfl⟩
                have hnk : np = kp + 1 := by rw [hnp, hkp]; simp
                have hkb : kp < ((pr ++ [q]).map (·.2)).length := by rw [← hnp]; omega
                have elast : ((pr ++ [q]).map (·.2))[kp] = q.2 := by subst hkp; simp
                have HNP := Aside0.mk hnk
                have HKB : Aside0 (kp < 65536) := ⟨by have := HL5.out; rw [hkp]; simp at this; omega⟩
                have HLQ : Aside0 (q.2.length ≤ 16) := ⟨HI.out.hl _ (by simp)⟩
                have HB2 := Aside0.mk hbad2
                have HEL : Aside0 (∃ h : kp < ((pr ++ [q]).map (·.2)).length, ((pr ++ [q]).map (·.2))[kp] = q.2) := ⟨hkb, elast⟩
                have HNP2 := Aside0.mk hnp
                clear hst hbad hbad2 hnp hq hkp hnk hkb elast
                gi_wp2
                refine ⟨trivial, ?_⟩
                (with_reducible refine (CallsIn.inRound li (callsIn_wide.2 HST.out)).mono ?_)
                rintro e W6 ⟨rfl, hb⟩
                have HI6 := Aside0.mk (HI.out.keep hb)
                have HB6 := Aside0.mk hb
                replace HC5 := Aside0.mk (And.intro HC5.out.1 (Kd.C_below HC5.out.2 hb))
                clear hb f0 f1 HI
                obtain ⟨hkb, elast⟩ := HEL.out
                obtain ⟨ad, cv', A2, c2, eva, cell0, hc2, hC2⟩ := rowB_at HI6.out.rows hkb
                rw [elast] at cell0 hc2 hC2
                rw [← HNP2.out] at eva
                injection eva with eA _ ec
                subst eA
                subst ec
                have HBL := Aside0.mk (below_calls A2 As c2 cs' q.2 s W6 hC2 hc2 HC5.out.2 HC5.out.1 (by have := HLQ.out; omega))
                have hnk := HNP.out
                have p1 : decide ((np : Int) > 0) = true := decide_eq_true (by omega)
                have p2 : (0 < np) = True := eq_true (by omega)
                have i0 : (0 : Int) ≤ (np : Int) - 1 := by omega
                have i1 : (np : Int) - 1 < (np : Int) := by omega
                have i2 : (1 : Int) ≤ (np : Int) := by omega
                have i3 : (np : Int) ≤ 65536 := by have := HKB.out; omega
                have ek : np - 1 = kp := by omega
                rw [← ek] at cell0
                clear hc2 hC2 hkb elast hnk ek
                have fa := (HI6.out.st.cell 0 0 rfl).trans rfl
                obtain ⟨rb, hrb⟩ : ∃ rb, rb = belowIn q.2 s := ⟨_, rfl⟩
                rw [← hrb] at HBL HB2
                clear hrb
                cases rb
                · gi_wp2
                  refine ⟨trivial, ?_⟩
                  (with_reducible refine (CallsIn.inRound li (callsIn_wide.2 HBL.out)).mono ?_)
                  rintro e W7 ⟨rfl, hd⟩
                  have HI7 := Aside0.mk (HI6.out.keep hd.below)
                  have HB7 := Aside0.mk (below_step HB6.out hd.below)
                  clear hd
                  gi_wp2
                  gi_meet
                  case rel => exact ⟨by rw [HB2.out]; rfl, HI7, HB7⟩
                · gi_wp2
                  refine ⟨trivial, ?_⟩
                  (with_reducible refine (CallsIn.inRound li (callsIn_wide.2 HBL.out)).mono ?_)
                  rintro e W7 ⟨rfl, hd⟩
                  have HI7 := Aside0.mk (HI6.out.keep hd.below)
                  have HB7 := Aside0.mk (below_step HB6.out hd.below)
                  clear hd
                  gi_wp2
                  gi_meet
                  case rel => exact ⟨by rw [HB2.out]; rfl, HI7, HB7⟩
        case rest =>
          obtain ⟨rfl, HI6, HB6⟩ := hcut
          clear HI hbad
          cases bad with
          | true =>
            have q4 := (HI6.out.st.cell 1 0 rfl).trans rfl
            have y4 := HI6.out.st.frozen 1 0 rfl
            gi_wp2
            refine ⟨(KeptD.of_below HB6.out).trans (KeptD.setCell (p := ⟨w.heap.size + 1, 0, none⟩) (fun h => ?_) _), rfl, ?_⟩
            · have h2 := HI6.out.lt
              rcases h with h | h
              · have h3 : V4.heap.size ≤ w.heap.size + 1 := HI6.out.hM _ h; omega
              · have h3 : Ba < w.heap.size + 1 := (HRD.out _ h).1; have := HBA.out; omega
            · have hb := HBAD.out
              cases hst : satisfies v cs s with
              | false => exact .inl ⟨(.slice As s.length cs', s), by simp, hst⟩
              | true =>
                rw [hst] at hb
                rcases List.eq_nil_or_concat pre with rfl | ⟨pr, q, rfl⟩
                · cases hb
                · rw [List.concat_eq_append] at *
                  have hq : (pr ++ [q]).getLast? = some q := by simp
                  rw [hq] at hb
                  have hb2 : true = !(belowIn q.2 s) := hb
                  refine .inr ⟨pr.map (·.2), q.2, s, by simp, ?_⟩
                  cases hbb : belowIn q.2 s with
                  | false => rfl
                  | true => rw [hbb] at hb2; cases hb2
          | false =>
            gi_upto_region 14 with fail
            have hmx : Try.prog.follows .mixedOrders = true := by kernel_rfl
            have HI6d := HI6.out.keep (below_drew (Below.refl _ _))
            refine wpIn_region_T (z := 5) (S := fun W' => St w [(Ba, .cells #[va] 46 (0, 0)), (w.heap.size + 1, .cells #[.bool false] 4 (0, 0)), (w.heap.size, .cells #[.int .i64 v, .slice A0 cs.length c0] 24 (0, 0))] W') hmx ?_
            refine wpAnyT_take (i := 0) (v := va) (fun _ => trivial) (by kernel_rfl) (by kernel_rfl) rfl (by kernel_rfl) (by kernel_rfl) (by kernel_rfl) (fun _ _ _ h => h) (by rfl) (fun W' hS => by have c := (hS.cell 0 0 rfl).trans rfl; go_simp) HI6d.st ?_
            refine wpAnyT_take (i := 1) (v := .slice As s.length cs') (fun _ => trivial) (by kernel_rfl) (by kernel_rfl) rfl (by kernel_rfl) (by kernel_rfl) (by kernel_rfl) (fun _ _ _ h => h) (by rfl) (fun W' hS => by go_simp) HI6d.st ?_
            refine wpAnyT_one (i := 2) (by kernel_rfl) rfl (by rfl) (fun K' hK => ?_)
            go_simp
            refine ⟨trivial, ?_⟩
            (with_reducible refine (CallsIn.inRound li (callsIn_wide.2 (copyBools_calls As cs' s _ (Kd.C_below HC5.out.2 (below_drew HB6.out)) HC5.out.1 (by have := HSL.out; omega)))).mono ?_)
            rintro e W7 ⟨u2, rfl, hu2, hb7⟩
            obtain ⟨Au, cu, rfl⟩ := Kd.R_slice hu2
            have HI7 := HI6d.keep hb7
            have HB7 := below_step (below_drew HB6.out) hb7
            have hsz7 : wc.heap.size ≤ W7.heap.size := hb7.size
            have HK7 := Aside0.mk (KeptD.of_below (M := (fun k => M1 k ∨ (k = Bg ∨ (V3.heap.size ≤ k ∧ k < V4.heap.size)))) HB7)
            refine hK _ _ (.inr HI7.st) ?_
            clear hK hb7 HI6d
            refine wpAnyT_one (i := 3) (by kernel_rfl) rfl (by rfl) (fun K' hK => ?_)
            go_simp
            have hM1 := HI7.hM
            have hlb : W5.heap.size ≤ W7.heap.size := HB7.size
            have hok : Kd.R Kd.bool 4 W7 V4.heap.size (fun k => wc.heap.size ≤ k ∧ k < W7.heap.size) (.slice Au s.length cu) s := Kd.R_mono (Kd.R_lower (Kd.R_bound hu2) (by have := HI6.out.hD; exact this)) (fun k hk => ⟨hk.2.1, hk.2.2.1⟩)
            have HLP : Aside0 ((pre.map (·.2)).length < 65536) := ⟨by rw [List.length_map]; exact HL5.out⟩
            have hM65 : ∀ k, M1 k → k < wc.heap.size := HI6.out.hM2
            have hva : ∀ k, va.ownBlock = some k → k < wc.heap.size := Kd.R_lt HI6.out.rows
            have hva2 : ∀ k, va.ownBlock = some k → V4.heap.size ≤ k := Kd.R_base HI6.out.rows
            have hva3 : ∀ k, va.ownBlock = some k → ¬ M1 k := HI6.out.rows.1
            have hwc : wc.heap.size ≤ W7.heap.size := hsz7
            obtain ⟨v1, w1, hrun, hR1, hg1, hat⟩ := R_push (P := Try.prog) (Kd.slice 4 Kd.bool) 46 46 41 (.slice none 0 0) 24 Try.underlying46 infoRowB rfl (by decide)
              HI7.rows (p := s) (cs := [.slice Au s.length cu]) (okp := fun k => (wc.heap.size ≤ k ∧ k < W7.heap.size)) ⟨_, rfl, hok⟩ (fun k hk => ⟨fun h => by have := hM65 k h; omega, fun e => by have := hva k e.symm; omega⟩) (fun k hk h => by have := hM65 k h; omega) HI7.hD (by have := HLP.out; omega) (by decide)
            have hst8 := HI7.st.keep (below_alloc (Below.refl _ _) (.cells #[.slice Au s.length cu] 41))
            refine hK _ _ (.inr hst8) ?_
            clear hK
            refine wpAnyT_one (i := 4) (by kernel_rfl) rfl (by rfl) (fun K' hK => ?_)
            refine wpIn_append_run (.tmp 48) (.tmp 51) 46 rfl (v := va) (vx := .slice (some ⟨W7.heap.size, 0, none⟩) 1 1) (by rfl) (by rfl) hrun ?_
            have hne : ∀ k, va.ownBlock = some k → Ba < k ∧ w.heap.size + 1 < k := fun k hk => by have := hva2 k hk; have := HI6.out.lt; omega
            have hst9 := HI7.st.grown hg1 (fun k hk => ⟨by have := hne k hk; omega, by simp; have := hne k hk; omega⟩)
            refine hK _ _ (.inr hst9) ?_
            clear hK
            have q0 := (hst9.cell 0 0 rfl).trans rfl
            have y0 := hst9.frozen 0 0 rfl
            obtain ⟨A1', c1', rfl⟩ := Kd.R_slice hR1
            refine wpAnyT_one (i := 5) (by kernel_rfl) rfl (by rfl) (fun K' hK => ?_)
            go_simp
            have hst10 := hst9.put 0 rfl 0 (.slice A1' ((pre.map (·.2)) ++ [s]).length c1') rfl
            refine hK _ _ (.inl rfl) ?_
            clear hK
            refine wpAnyT_doneN (by kernel_rfl) ?_ _
            gi_wp2
            have el : ((pre.map (·.2)) ++ [s]).length = pre.length + 1 := by simp
            have em : (pre ++ [(Value.slice As s.length cs', s)]).map (·.2) = (pre.map (·.2)) ++ [s] := by simp
            rw [el] at hst10 hR1
            have hlt := HI6.out.lt
            have nBa : ¬ (M1 Ba ∨ (Ba = Bg ∨ (V3.heap.size ≤ Ba ∧ Ba < V4.heap.size))) := fun h => by
              rcases h with h | h
              · have := HI6.out.hM _ h; omega
              · have := (HRD.out _ h).1; omega
            refine ⟨(HK7.out.trans (KeptD.of_grownBy hg1 fun r e h => ?_)).trans (KeptD.setCell (p := ⟨Ba, 0, none⟩) nBa _), .slice A1' (pre.length + 1) c1', hst10, ?_, HI6.out.hM, fun k hk => ?_, ?_, hlt, ?_⟩
            · rcases h with h | h
              · exact hva3 r e h
              · have := (HRD.out _ h).2; have := hva2 r e; omega
            · rw [em]
              exact Kd.R_mono (Kd.R_far (p := ⟨Ba, 0, none⟩) (Kd.R_bound hR1) (fun k hk => by have := hk.2.1; show k ≠ Ba; omega) _) (fun k hk => hk.1)
            · have h1 := hM65 k hk
              have h2 := hg1.size
              have h3 := ((Below.refl 0 w1).setCell (p := ⟨Ba, 0, none⟩) (Nat.zero_le _) (.slice A1' (pre.length + 1) c1')).size
              omega
            · have h2 := hg1.size
              have h3 := ((Below.refl 0 w1).setCell (p := ⟨Ba, 0, none⟩) (Nat.zero_le _) (.slice A1' (pre.length + 1) c1')).size
              have h4 := HI7.hD
              omega
            · rw [em]
              intro a ha
              rcases List.mem_append.1 ha with ha | ha
              · exact HI6.out.hl a ha
              · rw [List.mem_singleton] at ha
                rw [ha]
                exact HSL.out
      case done =>
        rintro M xs W hMb hS ⟨va, hI⟩ hD
        rw [hS] at hI
        have HI := Aside0.mk hI
        have HD := Aside0.mk hD
        have HDZ := Aside0.mk (hI.hM _ hMb)
        have hMM := hI.hM
        clear ownI hI hD hS hSI
        obtain ⟨Av, cv, hva⟩ := Kd.R_slice HI.out.rows
        rw [← HNM.out] at hva
        subst hva
        have fa := (HI.out.st.cell 0 0 rfl).trans rfl
        have pe : ((nm : Int) == (nm : Int)) = true := beq_self_eq_true _
        have pe2 : ((nm : Int) != (nm : Int)) = false := by simp [bne]
        have f0 := (HI.out.st.cell 2 0 rfl).trans rfl
        have f1 := (HI.out.st.cell 2 1 rfl).trans rfl
        have HST := Aside0.mk (satisfies_calls v A0 A1 c0 c1 cs m W (Kd.C_below HR0.out HI.out.st.hB) HC.out.1 (Kd.C_below HR1.out HI.out.st.hB) HC.out.2 (by have := HN.out; omega) HS.out)
        cases hst : satisfies v cs m with
        | false =>
          rw [hst] at HST
          clear hst
          gi_wp2
          refine ⟨trivial, ?_⟩
          (with_reducible refine (callsIn_wide.2 HST.out).mono ?_)
          rintro e W6 ⟨rfl, hb⟩
          have T6 := Aside0.mk (HI.out.st.keep hb)
          have HD6 := Aside0.mk ((hb.block _ (Array.getElem?_eq_some_iff.1 HD.out).1).trans HD.out)
          clear hb f0 f1 fa
          have q4 := (T6.out.cell 1 0 rfl).trans rfl
          have y4 := T6.out.frozen 1 0 rfl
          gi_wp2
          have E2 := T6.out.put 1 rfl 0 (.bool true) rfl
          have hK2 := (KeepsOthers.setCell W6 ⟨w.heap.size + 1, 0, none⟩ (.bool true)).same V4.heap.size _ HD6.out rfl
          generalize (W6.setCell ⟨w.heap.size + 1, 0, none⟩ (.bool true)) = WF at E2 hK2 ⊢
          refine ⟨by simp, .inl ⟨_, _, rfl, run_takeDeferred hK2, ?_⟩⟩
          have hlt := HI.out.lt
          have E3 := E2.growN (M := fun k => k = V4.heap.size) (n := V4.heap.size) (Grow.put (.deferred none) rfl) (fun k e => by omega) (by omega) (by simp; omega)
          have r0 := (E3.cell 1 0 rfl).trans rfl
          exact ⟨.bool true, by simp [results, Try.results9, go_sem, r0], rfl, E3.hB⟩
        | true =>
          rw [hst] at HST
          have HSM := Aside0.mk hst
          clear hst
          gi_wp2
          refine ⟨trivial, ?_⟩
          (with_reducible refine (callsIn_wide.2 HST.out).mono ?_)
          rintro e W6 ⟨rfl, hb⟩
          have HI6 := Aside0.mk (HI.out.keep hb)
          have HD6 := Aside0.mk ((hb.block _ (Array.getElem?_eq_some_iff.1 HD.out).1).trans HD.out)
          clear hb f0 f1 fa HI HD HST
          gi_wp2
          gi_loopw [10] (fun v10 wr => ∃ k : Nat, v10 = .int .i64 k ∧ Aside0 (k ≤ nm) ∧ Aside0 (∀ j (h : j < (modelsIn v.toNat cs).length), j < k → (modelsIn v.toNat cs)[j] ≠ m) ∧ Aside0 (SI w w.heap.size (w.heap.size + 1) Ba V4.heap.size (.int .i64 v) (.slice A0 cs.length c0) (.slice Av nm cv) (modelsIn v.toNat cs) M wr) ∧ Aside0 (wr.heap[V4.heap.size]? = some (.deferred (some [])))) (fun v10 _ => nm - (intOf v10).toNat)
          case atStart => exact ⟨0, rfl, ⟨Nat.zero_le _⟩, ⟨fun j h h2 => by omega⟩, HI6, HD6⟩
          case round =>
            obtain ⟨k, rfl, HK, HNE, HI7, HD7⟩ := hrel
            clear HI6 HD6
            by_cases hk : k < nm
            · have hkm : k < (modelsIn v.toNat cs).length := by rw [← HNM.out]; exact hk
              obtain ⟨ad, cv', A2, c2, eva, cell0, hc2, hC2⟩ := rowB_at HI7.out.rows hkm
              rw [← HNM.out] at eva
              injection eva with eA _ ec
              subst eA
              subst ec
              obtain ⟨q, hq⟩ : ∃ q, q = (modelsIn v.toNat cs)[k] := ⟨_, rfl⟩
              rw [← hq] at cell0 hc2 hC2
              have HLQ : Aside0 (q.length ≤ 16) := ⟨by rw [hq]; exact HI7.out.hl _ (List.getElem_mem hkm)⟩
              have HSB := Aside0.mk (sameBools_calls A2 A1 c2 c1 q m wr hC2 hc2 (Kd.C_below HR1.out HI7.out.st.hB) HC.out.2 (by have := HLQ.out; omega))
              have HQ : Aside0 (∃ h : k < (modelsIn v.toNat cs).length, q = (modelsIn v.toNat cs)[k]) := ⟨hkm, hq⟩
              have HLT := Aside0.mk hk
              have hki : (0 : Int) ≤ (k : Int) := by omega
              have hkn : (k : Int) < (nm : Int) := by omega
              have HN65 : Aside0 (nm ≤ 65536) := ⟨by
                rw [HNM.out]
                have h1 := modelsTo_length v.toNat cs (2 ^ v.toNat)
                have h2 : 2 ^ v.toNat ≤ 65536 := Nat.pow_le_pow_right (n := 2) (by omega) (show v.toNat ≤ 16 by have := HF.out.2; omega)
                exact Nat.le_trans h1 h2⟩
              clear hc2 hC2 hkm hq
              have fa := (HI7.out.st.cell 0 0 rfl).trans rfl
              cases hs : (q == m) with
              | true =>
                rw [hs] at HSB
                clear hs
                gi_wp2
                refine ⟨trivial, ?_⟩
                (with_reducible refine (callsIn_wide.2 HSB.out).mono ?_)
                rintro e W8 ⟨rfl, hd⟩
                have T6 := Aside0.mk (HI7.out.st.keep hd.below)
                have HD6 := Aside0.mk ((hd.below.block _ (Array.getElem?_eq_some_iff.1 HD7.out).1).trans HD7.out)
                clear hd fa cell0
                have q4 := (T6.out.cell 1 0 rfl).trans rfl
                have y4 := T6.out.frozen 1 0 rfl
                gi_wp2
                have E2 := T6.out.put 1 rfl 0 (.bool true) rfl
                have hK2 := (KeepsOthers.setCell W8 ⟨w.heap.size + 1, 0, none⟩ (.bool true)).same V4.heap.size _ HD6.out rfl
                generalize (W8.setCell ⟨w.heap.size + 1, 0, none⟩ (.bool true)) = WF at E2 hK2 ⊢
                refine ⟨by simp, .inl ⟨_, _, rfl, run_takeDeferred hK2, ?_⟩⟩
                have hlt := HI7.out.lt
                have E3 := E2.growN (M := fun k => k = V4.heap.size) (n := V4.heap.size) (Grow.put (.deferred none) rfl) (fun k e => by omega) (by omega) (by simp; omega)
                have r0 := (E3.cell 1 0 rfl).trans rfl
                exact ⟨.bool true, by simp [results, Try.results9, go_sem, r0], rfl, E3.hB⟩
              | false =>
                rw [hs] at HSB
                have HX := Aside0.mk hs
                clear hs
                gi_wp2
                refine ⟨trivial, ?_⟩
                (with_reducible refine (callsIn_wide.2 HSB.out).mono ?_)
                rintro e W8 ⟨rfl, hd⟩
                have HI8 := Aside0.mk (HI7.out.keep hd.below)
                have HD8 := Aside0.mk ((hd.below.block _ (Array.getElem?_eq_some_iff.1 HD7.out).1).trans HD7.out)
                clear hd fa cell0
                gi_wp2
                go_roundw
                case rel =>
                  refine ⟨k + 1, by rw [w64s (show (k : Int) < 9223372036854775807 by have := HN65.out; have := HLT.out; omega)], ⟨HLT.out⟩, ⟨fun j h h2 => ?_⟩, HI8, HD8⟩
                  rcases Nat.lt_or_ge j k with h3 | h3
                  · exact HNE.out j h h3
                  · obtain rfl : j = k := by omega
                    intro e
                    obtain ⟨h4, h5⟩ := HQ.out
                    have := HX.out
                    rw [h5, e, beq_self_eq_true] at this
                    cases this
                case measure => have := HLT.out; rw [w64s (show (k : Int) < 9223372036854775807 by have := HN65.out; omega)]; simp [intOf]; omega
            · exfalso
              have hs := HSM.out
              unfold satisfies fitsIn at hs
              rw [Bool.and_eq_true, Bool.and_eq_true, decide_eq_true_eq] at hs
              have hmem := modelsIn_has (v := v.toNat) (cs := cs) (m := m) (by have := HV0.out; omega) hs.2
              obtain ⟨j, hj, e⟩ := List.getElem_of_mem hmem
              exact HNE.out j hj (by have := HNM.out; omega) e
      case stop =>
        rintro M c pre W hMb hSp ⟨rfl, h⟩ hK
        exfalso
        rcases h with ⟨p, hp, h1⟩ | ⟨ps, a, b, h1, h2⟩
        · have h3 := modelsIn_all (hSp.subset (List.mem_map.2 ⟨p, hp, rfl⟩))
          unfold satisfies fitsIn at h1
          rw [HF.out.1, h3.2, decide_eq_true (by have := HV0.out; omega)] at h1
          cases h1
        · rw [h1] at hSp
          rw [prefix_below hSp] at h2
          cases h2
    · have CN := count_room v A0 c0 cs V1 (Kd.C_below HR0.out T1.out.hB) HC.out.1 HN.out HS.out hf (by omega)
      have HCN := Aside0.mk CN
      clear CN hf hv
      gi_wp2
      refine ⟨trivial, ?_⟩
      (with_reducible refine (callsIn_wide.2 HCN.out).mono ?_)
      rintro e V2 ⟨rfl, hb⟩
      have T2 := Aside0.mk (T1.out.keep hb)
      clear hb f0 f1 T1 HCN
      have q4 := (T2.out.cell 0 0 rfl).trans rfl
      have y4 := T2.out.frozen 0 0 rfl
      gi_wp2
      have T3 := T2.out.put 0 rfl 0 (.bool true) rfl
      have r0 := (T3.cell 0 0 rfl).trans rfl
      exact ⟨.bool true, by simp [results, Try.results9, go_sem, r0], rfl, T3.hB⟩
  · have CN := count_bad v A0 c0 cs V1 (Kd.C_below HR0.out T1.out.hB) HC.out.1 HN.out HS.out (by simpa using hf)
    have HCN := Aside0.mk CN
    clear CN hf
    gi_wp2
    refine ⟨trivial, ?_⟩
    (with_reducible refine (callsIn_wide.2 HCN.out).mono ?_)
    rintro e V2 ⟨rfl, hb⟩
    have T2 := Aside0.mk (T1.out.keep hb)
    clear hb f0 f1 T1 HCN
    have q4 := (T2.out.cell 0 0 rfl).trans rfl
    have y4 := T2.out.frozen 0 0 rfl
    gi_wp2
    have T3 := T2.out.put 0 rfl 0 (.bool true) rfl
    have r0 := (T3.cell 0 0 rfl).trans rfl
    exact ⟨.bool true, by simp [results, Try.results9, go_sem, r0], rfl, T3.hB⟩
end Go.Proofs.YtggnnnddnppcpaaHand
/-! text YtggnnnddnppcpaaSumsLaw -/
namespace Go.Proofs.Ytggnnnddnppcpaa.PCnfSums
open Go.RowKit Go.Proofs.YtggnnnddnppcpaaW.PrintWords Go.Proofs.YtggnnnddnppcpaaW.PrintLast
set_option linter.unusedVariables false
def depotlaw02_CnfSums.f (a0_0 : Int) (l0_1 : List (List Int)) (l1 : List Bool) : Option Bool := if l0_1.length ≤ 5864062014805 ∧ (∀ c ∈ l0_1, c.length ≤ 17592186044416) ∧ l1.length ≤ 140737488351232 then some true else none
theorem depotlaw02_CnfSums.calls (a0_0 : Int) (A0_1 : Option Addr) (c0_1 : Nat) (l0_1 : List (List Int)) (A1 : Option Addr) (c1 : Nat) (l1 : List Bool) (r : Bool) (w : World) (hr0_1 : Kd.C (Kd.slice 3 (Kd.int .i64)) w A0_1 l0_1.length l0_1) (hc0_1 : l0_1.length ≤ c0_1) (hr1 : Kd.C Kd.bool w A1 l1.length l1) (hc1 : l1.length ≤ c1) (h : depotlaw02_CnfSums.f a0_0 l0_1 l1 = some r) :
    Calls Try.prog 9 #[.agg #[.int .i64 a0_0, .slice A0_1 l0_1.length c0_1], .slice A1 l1.length c1] w fun e w' => e = .returned (.bool r) ∧ Below w.heap.size w w' := by
  unfold depotlaw02_CnfSums.f at h
  split at h
  · rename_i hh
    obtain rfl := Option.some.inj h
    exact Go.Proofs.YtggnnnddnppcpaaHand.sums_calls a0_0 A0_1 c0_1 l0_1 A1 c1 l1 w hr0_1 hc0_1 hr1 hc1 hh.1 hh.2.1 hh.2.2
  · cases h
#print axioms depotlaw02_CnfSums.calls
end Go.Proofs.Ytggnnnddnppcpaa.PCnfSums
/-! text YtggnnnddnppcpaaStatCnfSums -/
namespace Go.Proofs.Ytggnnnddnppcpaa.PCnfSums
open Go.RowKit Go.Proofs.YtggnnnddnppcpaaW.PrintWords Go.Proofs.YtggnnnddnppcpaaW.PrintLast Go.Proofs.YtggnnnddnppcpaaW.PrintMore Go.Proofs.YtggnnnddnppcpaaOpens
set_option linter.unusedVariables false
set_option linter.unusedSimpArgs false
def Stmt : Prop := ∀ (a0_0 : Int) (l0_1 : List (List (Int))) (l1 : List (Bool)), (((Lit.int .i64 a0_0).wf = true) ∧ (l0_1.length * 24 ≤ 140737488351232 ∧ ∀ y1 ∈ l0_1, y1.length * 8 ≤ 140737488351232 ∧ ∀ y2 ∈ y1, (Lit.int .i64 y2).wf = true)) → (l1.length * 1 ≤ 140737488351232 ∧ ∀ y5 ∈ l1, True) → depotlaw02_CnfSums.f a0_0 l0_1 l1 = some true
theorem walk (P : Stmt) (a0_0 : Int) (A0_1 : Option Addr) (c0_1 : Nat) (l0_1 : List (List (Int))) (A1 : Option Addr) (c1 : Nat) (l1 : List (Bool)) (w : World) (hr0_1 : Kd.C (Kd.slice 3 (Kd.int .i64)) w A0_1 l0_1.length l0_1) (hc0_1 : l0_1.length ≤ c0_1) (hr1 : Kd.C Kd.bool w A1 l1.length l1) (hc1 : l1.length ≤ c1) (ok0 : ((Lit.int .i64 a0_0).wf = true) ∧ (l0_1.length * 24 ≤ 140737488351232 ∧ ∀ y1 ∈ l0_1, y1.length * 8 ≤ 140737488351232 ∧ ∀ y2 ∈ y1, (Lit.int .i64 y2).wf = true)) (ok1 : l1.length * 1 ≤ 140737488351232 ∧ ∀ y5 ∈ l1, True) :
    Calls Try.prog 9 #[.agg #[.int .i64 a0_0, .slice A0_1 l0_1.length c0_1], .slice A1 l1.length c1] w fun e w' => e = .returned (.bool true) ∧ Below w.heap.size w w' := by
  have h := P a0_0 l0_1 l1 ok0 ok1
  refine (depotlaw02_CnfSums.calls a0_0 A0_1 c0_1 l0_1 A1 c1 l1 true w hr0_1 hc0_1 hr1 hc1 h).mono ?_
  rintro e w' ⟨rfl, hd⟩
  exact ⟨rfl, hd⟩
end Go.Proofs.Ytggnnnddnppcpaa.PCnfSums
/-! text YtggnnnddnppcpaaPureCnfSums -/
namespace Go.Proofs.Ytggnnnddnppcpaa.Pure
open Go.RowKit Go.Proofs.Ytggnnnddnppcpaa.PCnfSums Go.Proofs.YtggnnnddnppcpaaW.PrintWords Go.Proofs.YtggnnnddnppcpaaW.PrintLast Go.Proofs.YtggnnnddnppcpaaOpens Go.Proofs.YtggnnnddnppcpaaMath
set_option linter.unusedVariables false

theorem CnfSums : PCnfSums.Stmt := by
  intro v l m ok1 ok2
  unfold depotlaw02_CnfSums.f
  have hn : l.length ≤ 5864062014805 := by have := ok1.2.1; omega
  have hs : ∀ c ∈ l, c.length ≤ 17592186044416 := fun c hc => by have := (ok1.2.2 c hc).1; omega
  rw [if_pos ⟨hn, hs, by omega⟩]

end Go.Proofs.Ytggnnnddnppcpaa.Pure
