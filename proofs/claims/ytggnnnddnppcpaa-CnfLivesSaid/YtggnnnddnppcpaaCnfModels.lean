/- What cnf.Models answers: an iterator over the models, in the order of counting; or over nothing. -/
import Derived.Test.YtggnnnddnppcpaaCnfModels2
import Derived.Test.YtggnnnddnppcpaaCnfUnder
import Derived.Deep.RegionHeld3
namespace Go.Proofs.YtggnnnddnppcpaaHand
open Go.RowKit Go.Shelf Go.Proofs.YtggnnnddnppcpaaW.PrintWords Go.Proofs.YtggnnnddnppcpaaW.PrintLast Go.Proofs.YtggnnnddnppcpaaMath Go.Proofs.YtggnnnddnppcpaaCells
set_option linter.unusedVariables false
set_option linter.unusedSimpArgs false

theorem models_stops (n : Nat) (hn : 1 ≤ n) (v : Nat) (cs : List (List Int)) (Bg base0 : Nat) (ok : Nat → Prop) (A : Option Addr) (cap : Nat) (Sv : Nat → Prop) (hv : v ≤ 16) (hf : isFormula (v : Int) cs = true) (hcn : cs.length ≤ 17592186044416) (hcs : ∀ c ∈ cs, c.length ≤ 17592186044416)
    (w : World) (hSrc : Src v cs Bg base0 ok A cap w) (hSok : ∀ k, ok k → ¬ Sv k) (hSg : ¬ Sv Bg) (hSW : ∀ k, Sv k → k < w.heap.size) :
    SeqStopsM Fence.wide n Try.prog 72 #[.pointer (some ⟨Bg, 0, none⟩)] (fun x : Value × List Bool => #[x.1]) (Handed v) (KeepC Sv) (fun xs => xs.map (·.2) = modelsIn v cs) (fun pre => pre.map (·.2) <+: modelsIn v cs) 65536 w := fun l J Jx W hW hJ hJx hY h0 =>
  models2_in n hn l v cs Bg base0 ok A cap Sv hv hf hcn hcs J Jx W hJ (hSrc.keep hW) hSok hSg (fun k hk => Nat.lt_of_lt_of_le (hSW k hk) hW.size) hY h0

theorem nothing_stops (n : Nat) (hn : 1 ≤ n) (v : Nat) (Sv : Nat → Prop) (w : World) :
    SeqStopsM Fence.wide n Try.prog 71 #[] (fun x : Value × List Bool => #[x.1]) (Handed v) (KeepC Sv) (fun xs => xs.map (·.2) = []) (fun pre => False) 65536 w := fun l J Jx W hW hJ hJx hY h0 => by
  refine callsIn_of_wp Try.func71 rfl trivial ?_ rfl
  simp only [Try.ntmps71, List.size_toArray, List.length_cons, List.length_nil, Nat.reduceAdd, Nat.reduceSub, Array.replicate_succ, Array.replicate_zero, List.push_toArray, List.append_toArray, List.nil_append, List.cons_append]
  gi_wp2
  go_end0
  first | exact ⟨⟨_, rfl⟩, h0⟩ | exact ⟨⟨_, rfl⟩, Or.inl ⟨[], rfl, h0⟩⟩

set_option maxHeartbeats 8000000 in
set_option maxRecDepth 100000 in
theorem models_bad (v1 : Int) (A1 : Option Addr) (c1 : Nat) (l1 : List (List Int)) (w : World) (hr1 : Kd.C (Kd.slice 3 (Kd.int .i64)) w A1 l1.length l1) (hc1 : l1.length ≤ c1) (hn : l1.length ≤ 17592186044416) (hs : ∀ c ∈ l1, c.length ≤ 17592186044416) (hbad : (isFormula v1 l1 && decide (v1 ≤ 16)) = false) :
    Calls Try.prog 37 #[.agg #[.int .i64 v1, .slice A1 l1.length c1]] w fun e w' => e = .returned (.func (.func 71) #[] #[]) ∧ Below w.heap.size w w' := by
  have HR1 := Aside0.mk hr1
  have F1 := fun W h => isFormula_calls v1 A1 c1 l1 W h hc1 hn hs
  cases hf1 : isFormula v1 l1 with
  | false =>
    rw [hf1] at F1
    have HF1 := Aside0.mk F1
    clear F1 hr1 hc1 hn hs hf1 hbad
    go_enter Try.func37, Try.ntmps37
    go_wp2_with fail
    have B0 : Below w.heap.size w (w.alloc (.cells #[.int .i64 v1, .slice A1 l1.length c1] 24 (0, 0))) := below_alloc (Below.refl _ _) _
    generalize hW0 : w.alloc (.cells #[.int .i64 v1, .slice A1 l1.length c1] 24 (0, 0)) = W0 at B0 ⊢
    clear hW0
    (with_reducible refine (HF1.out _ (Kd.C_below HR1.out B0)).mono ?_)
    rintro e W1 ⟨rfl, hb⟩
    have B1 := Aside0.mk (below_step B0 hb)
    clear B0 hb
    go_wp2_with fail
    go_ret
    exact ⟨rfl, B1.out⟩
  | true =>
    rw [hf1, Bool.true_and] at hbad
    rw [hf1] at F1
    have HF1 := Aside0.mk F1
    have hgt : decide (v1 > 16) = true := decide_eq_true (by have := of_decide_eq_false hbad; omega)
    have hgt2 : decide (16 < v1) = true := hgt
    clear F1 hr1 hc1 hn hs hf1 hbad
    go_enter Try.func37, Try.ntmps37
    go_wp2_with fail
    have B0 : Below w.heap.size w (w.alloc (.cells #[.int .i64 v1, .slice A1 l1.length c1] 24 (0, 0))) := below_alloc (Below.refl _ _) _
    have k0 := blk_new w (.cells #[.int .i64 v1, .slice A1 l1.length c1] 24 (0, 0))
    generalize hW0 : w.alloc (.cells #[.int .i64 v1, .slice A1 l1.length c1] 24 (0, 0)) = W0 at B0 k0 ⊢
    clear hW0
    (with_reducible refine (HF1.out _ (Kd.C_below HR1.out B0)).mono ?_)
    rintro e W1 ⟨rfl, hb⟩
    have B1 := Aside0.mk (below_step B0 hb)
    have k1 := (blk_cell (blk_below k0 hb) 0).trans rfl
    clear B0 hb k0
    go_wp2_with fail
    go_ret
    exact ⟨rfl, B1.out⟩

theorem src_of {v1 : Int} {l1 : List (List Int)} {Bg base b0 : Nat} {A : Option Addr} {cap : Nat} {W : World} (hv0 : 0 ≤ v1) (hg : W.heap[Bg]? = some (.cells #[.int .i64 v1, .slice A l1.length cap] 24 (0, 0))) (hS : Kd.S (Kd.slice 3 (Kd.int .i64)) 43 W base (fun _ => True) (.slice A l1.length cap) l1) (hb : b0 ≤ base) :
    Src v1.toNat l1 Bg b0 (fun k => b0 ≤ k ∧ k < W.heap.size) A cap W := by
  refine ⟨?_, Kd.S_mono (Kd.S_bound (Kd.S_lower hS hb)) (fun k hk => ⟨hk.2.1, hk.2.2.1⟩)⟩
  rw [Int.toNat_of_nonneg hv0]
  exact hg

set_option maxHeartbeats 8000000 in
set_option maxRecDepth 100000 in
theorem models_good (v1 : Int) (A1 : Option Addr) (c1 : Nat) (l1 : List (List Int)) (w : World) (hr1 : Kd.C (Kd.slice 3 (Kd.int .i64)) w A1 l1.length l1) (hc1 : l1.length ≤ c1) (hn : l1.length ≤ 5864062014805) (hs : ∀ c ∈ l1, c.length ≤ 17592186044416) (hf1 : isFormula v1 l1 = true) (hv : v1 ≤ 16) :
    Calls Try.prog 37 #[.agg #[.int .i64 v1, .slice A1 l1.length c1]] w fun e w' => ∃ (Bg : Nat) (A : Option Addr) (cap : Nat), e = .returned (.func (.func 72) #[] #[.pointer (some ⟨Bg, 0, none⟩)]) ∧ Src v1.toNat l1 Bg w.heap.size (fun k => w.heap.size ≤ k ∧ k < w'.heap.size) A cap w' ∧ w.heap.size ≤ Bg ∧ Bg < w'.heap.size ∧ Below w.heap.size w w' := by
  have HR1 := Aside0.mk hr1
  have F1 := fun W h => isFormula_calls v1 A1 c1 l1 W h hc1 (by omega) hs
  rw [hf1] at F1
  have HF1 := Aside0.mk F1
  have HC1 := Aside0.mk hc1
  have HN := Aside0.mk hn
  have HS := Aside0.mk hs
  have hgt : decide (v1 > 16) = false := decide_eq_false (by omega)
  have HV0 : Aside0 (0 ≤ v1) := ⟨by unfold isFormula at hf1; rw [Bool.and_eq_true, decide_eq_true_eq] at hf1; exact hf1.1.1⟩
  have hgt2 : decide (16 < v1) = false := hgt
  clear F1 hr1 hc1 hn hs hf1
  go_enter Try.func37, Try.ntmps37
  go_wp2_with fail
  have B0 : Below w.heap.size w (w.alloc (.cells #[.int .i64 v1, .slice A1 l1.length c1] 24 (0, 0))) := below_alloc (Below.refl _ _) _
  have k0 := blk_new w (.cells #[.int .i64 v1, .slice A1 l1.length c1] 24 (0, 0))
  generalize hW0 : w.alloc (.cells #[.int .i64 v1, .slice A1 l1.length c1] 24 (0, 0)) = W0 at B0 k0 ⊢
  clear hW0
  (with_reducible refine (HF1.out _ (Kd.C_below HR1.out B0)).mono ?_)
  rintro e W1 ⟨rfl, hb⟩
  have B1 := Aside0.mk (below_step B0 hb)
  have BK1 := Aside0.mk (blk_below k0 hb)
  clear B0 hb k0
  have f0 := (blk_cell BK1.out 0).trans rfl
  have f1 := (blk_cell BK1.out 1).trans rfl
  go_wp2_with fail
  have hkeep : ∀ W : World, W.heap[w.heap.size]? = some (.cells #[.int .i64 v1, .slice A1 l1.length c1] 24 (0, 0)) → W.cell? ⟨w.heap.size, 0, none⟩ = some (.int .i64 v1) ∧ W.cell? ⟨w.heap.size, 1, none⟩ = some (.slice A1 l1.length c1) := fun W h => ⟨(blk_cell h 0).trans rfl, (blk_cell h 1).trans rfl⟩
  have HK := Aside0.mk hkeep
  have HNE : Aside0 (w.heap.size ≠ W1.heap.size) := ⟨Nat.ne_of_lt (blk_lt BK1.out)⟩
  clear hkeep
  go_region_held3 (fun w' => w'.cell? ⟨w.heap.size, 0, none⟩ = some (.int .i64 v1) ∧ w'.cell? ⟨w.heap.size, 1, none⟩ = some (.slice A1 l1.length c1))
    (first | exact HK.out _ BK3.out | exact HK.out _ (blk_far (blk_far BK3.out HNE.out _) HNE.out _) | exact HK.out _ (blk_far BK3.out HNE.out _) | exact HK.out _ (blk_alloc BK3.out _) | exact HK.out _ BK1.out | exact HK.out _ (blk_drew BK1.out) | exact HK.out _ (blk_alloc (blk_drew BK1.out) _) | exact HK.out _ (blk_drew (blk_alloc BK1.out _)) | exact HK.out _ (blk_alloc BK1.out _))
    (first
    | (go_at_call 59; (with_reducible refine (laid_calls A1 c1 [] l1 (.slice none 0 0) (W1.alloc (.cells #[.int .i64 0, .slice none 0 0] 24 (0, 0))).drew (W1.alloc (.cells #[.int .i64 0, .slice none 0 0] 24 (0, 0))).drew (Kd.C_below HR1.out (below_drew (below_alloc B1.out _))) HC1.out (Below.refl _ _) (Kd.S_nil _ _ _ _ _) (by have := HN.out; simp; omega) HS.out).mono ?_); rintro e w3 ⟨v3, rfl, hs3, hb3⟩; have BK3 := Aside0.mk (blk_below (blk_drew (blk_alloc BK1.out _)) hb3); have bkg : w3.heap[W1.heap.size]? = some (.cells #[.int .i64 0, .slice none 0 0] 24 (0, 0)) := blk_below (blk_drew (blk_new W1 (.cells #[.int .i64 0, .slice none 0 0] 24 (0, 0)))) hb3; have kg0 := (blk_cell bkg 0).trans rfl; have kg1 := (blk_cell bkg 1).trans rfl; have yg0 := blk_frozen bkg 0; have yg1 := blk_frozen bkg 1; have BKG := Aside0.mk bkg; clear bkg; obtain ⟨Ao3, co3, eo3⟩ := Kd.S_slice hs3; subst eo3; have HS3 := Aside0.mk hs3; have HB3 := Aside0.mk hb3; clear hs3 hb3)
    | (go_at_call 59; (with_reducible refine (laid_calls A1 c1 [] l1 (.slice none 0 0) W1.drew W1.drew (Kd.C_below HR1.out (below_drew B1.out)) HC1.out (Below.refl _ _) (Kd.S_nil _ _ _ _ _) (by have := HN.out; simp; omega) HS.out).mono ?_); rintro e w3 ⟨v3, rfl, hs3, hb3⟩; have BK3 := Aside0.mk (blk_below (blk_drew BK1.out) hb3); obtain ⟨Ao3, co3, eo3⟩ := Kd.S_slice hs3; subst eo3; have HS3 := Aside0.mk hs3; have HB3 := Aside0.mk hb3; clear hs3 hb3))
  all_goals
    have hs3 := HS3.out
    rw [List.nil_append] at hs3
    go_wp2
    go_ret
    first
    | (refine ⟨w3.heap.size, Ao3, co3, rfl, src_of HV0.out (blk_new _ _) (Kd.S_alloc hs3 _) B1.out.size, ?_, by simp, below_alloc (below_step (below_drew B1.out) HB3.out) _⟩
       exact Nat.le_trans B1.out.size HB3.out.size)
    | (have b2 := blk_put BKG.out 0 (.int .i64 v1) rfl
       refine ⟨W1.heap.size, Ao3, co3, rfl, src_of HV0.out (blk_put b2 1 (.slice Ao3 l1.length co3) rfl) (Kd.S_set (Kd.S_set hs3 BKG.out (by decide) 0 _) b2 (by decide) 1 _) (Nat.le_trans B1.out.size (by simp)), B1.out.size, ?_, ?_⟩
       · exact blk_lt (blk_put b2 1 (.slice Ao3 l1.length co3) rfl)
       · exact ((below_step (below_drew (below_alloc B1.out _)) HB3.out).setCell (p := ⟨W1.heap.size, 0, none⟩) B1.out.size _).setCell (p := ⟨W1.heap.size, 1, none⟩) B1.out.size _)
end Go.Proofs.YtggnnnddnppcpaaHand
