/- What cnf.Count answers. -/
import Derived.Test.YtggnnnddnppcpaaCnfModels
namespace Go.Proofs.YtggnnnddnppcpaaMath
def countOf (v : Int) (cs : List (List Int)) : Int × Int := if isFormula v cs = true then (if 16 < v then (0, 4) else ((modelsIn v.toNat cs).length, 0)) else (0, 1)
end Go.Proofs.YtggnnnddnppcpaaMath
namespace Go.Proofs.YtggnnnddnppcpaaHand
open Go.RowKit Go.Shelf Go.Proofs.YtggnnnddnppcpaaW.PrintWords Go.Proofs.YtggnnnddnppcpaaW.PrintLast Go.Proofs.YtggnnnddnppcpaaMath Go.Proofs.YtggnnnddnppcpaaCells
set_option linter.unusedVariables false
set_option linter.unusedSimpArgs false
attribute [local go_sem] Oper.semAt_some

theorem KeepC.set {S : Nat → Prop} (W : World) {b : Nat} (hb : S b) (i : Nat) (u : Value) : KeepC S W (W.setCell ⟨b, i, none⟩ u) :=
  ⟨((Below.refl 0 W).setCell (p := ⟨b, i, none⟩) (Nat.zero_le _) u).size, fun k cells t z hk hs => (Below.heap_setCell W ⟨b, i, none⟩ u k (fun e => hs (by rw [e]; exact hb))).trans hk⟩
theorem Handed.put {v : Nat} (x : Value × List Bool) (W : World) (l : Nat) (o o' : Obj) (h : W.heap[l]? = some o) (hc : o.isCells = false) (hx : Handed v x W) : Handed v x (W.putObj l o') := by
  obtain ⟨h1, base, h2⟩ := hx
  refine ⟨h1, base, Kd.R_mono (Kd.R_move (Kd.R_bound h2) (fun k hk => ?_)) (fun _ _ => trivial)⟩
  obtain ⟨_, _, _, q, _, cells, hcells⟩ := hk
  exact World.putObj_heap_other (fun e => by subst e; rw [h] at hcells; cases hcells; cases hc)

set_option maxHeartbeats 8000000 in
set_option maxRecDepth 100000 in
theorem count_good (v1 : Int) (A1 : Option Addr) (c1 : Nat) (l1 : List (List Int)) (w : World) (hr1 : Kd.C (Kd.slice 3 (Kd.int .i64)) w A1 l1.length l1) (hc1 : l1.length ≤ c1) (hn : l1.length ≤ 5864062014805) (hs : ∀ c ∈ l1, c.length ≤ 17592186044416) (hf1 : isFormula v1 l1 = true) (hv : v1 ≤ 16) :
    Calls Try.prog 40 #[.agg #[.int .i64 v1, .slice A1 l1.length c1]] w fun e w' => e = .returned (.tuple #[.int .i64 (modelsIn v1.toNat l1).length, .int .i64 0]) ∧ Below w.heap.size w w' := by
  have HR1 := Aside0.mk hr1
  have F1 := fun W h => isFormula_calls v1 A1 c1 l1 W h hc1 (by omega) hs
  rw [hf1] at F1
  have HF1 := Aside0.mk F1
  have M := fun W h => models_good v1 A1 c1 l1 W h hc1 hn hs hf1 hv
  have HM := Aside0.mk M
  have HFF := Aside0.mk hf1
  have HV := Aside0.mk hv
  have HV16 : Aside0 (v1.toNat ≤ 16) := ⟨by omega⟩
  have HN := Aside0.mk hn
  have HS := Aside0.mk hs
  have hgt : decide (v1 > 16) = false := decide_eq_false (by omega)
  have hgt2 : decide (16 < v1) = false := hgt
  clear F1 M hr1 hc1 hn hs hf1
  refine (callsIn_wide (n := 6)).1 ?_
  refine callsIn_of_wp_marks Try.func40 rfl trivial ?_ rfl
  simp only [Try.ntmps40, List.size_toArray, List.length_cons, List.length_nil, Nat.reduceAdd, Nat.reduceSub, Array.replicate_succ, Array.replicate_zero, List.push_toArray, List.append_toArray, List.nil_append, List.cons_append]
  gi_wp2
  have B0 : Below w.heap.size w (w.alloc (.cells #[.int .i64 v1, .slice A1 l1.length c1] 24 (0, 0))) := below_alloc (Below.refl _ _) _
  have k0 := blk_new w (.cells #[.int .i64 v1, .slice A1 l1.length c1] 24 (0, 0))
  generalize hW0 : w.alloc (.cells #[.int .i64 v1, .slice A1 l1.length c1] 24 (0, 0)) = W0 at B0 k0 ⊢
  clear hW0
  refine ⟨trivial, ?_⟩
  (with_reducible refine (callsIn_wide.2 (HF1.out _ (Kd.C_below HR1.out B0))).mono ?_)
  rintro e W1 ⟨rfl, hb⟩
  have hw1 : w.heap.size ≤ W1.heap.size := Nat.le_trans B0.size hb.size
  have B1 := below_alloc (below_step B0 hb) (.cells #[.int .i64 0] 3 (0, 0))
  have f0 := (blk_cell (blk_below k0 hb) 0).trans rfl
  have k1 := blk_alloc (blk_below k0 hb) (.cells #[.int .i64 0] 3 (0, 0))
  have g0 := (blk_cell k1 0).trans rfl
  have g1 := (blk_cell k1 1).trans rfl
  have n1 := blk_new W1 (.cells #[.int .i64 0] 3 (0, 0))
  clear hb k0 B0
  gi_wp2
  refine ⟨trivial, ?_⟩
  (with_reducible refine (callsIn_wide.2 (HM.out _ (Kd.C_below HR1.out B1))).mono ?_)
  rintro e W2 ⟨Bg, A, cap, rfl, hsrc, hBg, hBg2, hb2⟩
  have n2 := blk_below n1 hb2
  have B2 := below_step B1 hb2
  have hN : W1.heap.size < W2.heap.size := blk_lt n2
  clear f0 g0 g1 k1 n1 B1 hb2
  gi_wp2
  have HV0 : Aside0 (((v1.toNat : Nat) : Int) = v1) := ⟨by have h := HFF.out; unfold isFormula at h; rw [Bool.and_eq_true, decide_eq_true_eq] at h; omega⟩
  refine wpIn_range_cells rfl (by decide) (gf := 72) (lb := #[.pointer (some ⟨Bg, 0, none⟩)]) rfl trivial (enters_of Try.func72 (by kernel_rfl) rfl)
    (models_stops _ (by decide) v1.toNat l1 Bg _ _ A cap (fun k => k = W1.heap.size) HV16.out (by rw [HV0.out]; exact HFF.out) (by have := HN.out; omega) HS.out W2 hsrc (fun k hk e => by have e' : k = W1.heap.size := e; have := hk.1; simp at this; omega) (fun e => by have e' : Bg = W1.heap.size := e; simp at hBg; omega) (fun k e => by have e' : k = W1.heap.size := e; omega))
    KeepC.trans (fun W l o o' _ h hc => KeepC.put W l o o' h hc) Handed.put (Below.refl _ _) (fun _ => rfl)
    (fun pre W => W.heap[W1.heap.size]? = some (.cells #[.int .i64 pre.length] 3 (0, 0)) ∧ Below w.heap.size w W) (fun _ _ _ => False)
    (fun s A B row hs hg hr => ⟨blk_grown hs.1 hg (fun e => by have h1 := (hr _ e.symm).1; exact absurd h1 (Nat.not_le_of_lt hN)), hs.2.grown hg hs.2.size (fun k e => Nat.le_trans B2.size (hr _ e).1)⟩)
    (fun _ _ _ _ _ hs _ _ => hs) ⟨n2, B2⟩
    (fun x => { tmps := #[.agg #[.int .i64 v1, .slice A1 l1.length c1], .pointer (some ⟨w.heap.size, 0, none⟩), .int .i64 0, .int .i64 0, .pointer (some ⟨W1.heap.size, 0, none⟩), .agg #[.int .i64 v1, .slice A1 l1.length c1], .bool true, .bool false, .pointer (some ⟨w.heap.size, 0, none⟩), .int .i64 v1, .bool false, .agg #[.int .i64 v1, .slice A1 l1.length c1], .func (.func 72) #[] #[.pointer (some ⟨Bg, 0, none⟩)], x.1, undef, undef, undef], defers := [] }) ?assign ?body ?done ?stop
  case assign =>
    intro l x W K hK
    gi_wp2
    first | exact hK | simpa using hK
  case body =>
    rintro l pre x W ⟨hc, hB⟩ _ hlen
    have c0 := (blk_cell hc 0).trans rfl
    have y0 := blk_frozen hc 0
    have hwr : wrap64 ((pre.length : Int) + 1) = ((pre ++ [x]).length : Int) := by rw [w64 (by omega) (by omega)]; simp
    gi_wp2
    refine ⟨(KeepsOthers.setCell _ _ _).from _, KeepC.set (S := fun k => k = W1.heap.size) W (b := W1.heap.size) rfl 0 _, blk_put hc 0 _ ?_, hB.setCell (p := ⟨W1.heap.size, 0, none⟩) hw1 _⟩
    first | rw [hwr]; rfl | (simp; done)
  case done =>
    rintro D xs W hD hxs ⟨hc, hB⟩ hK
    have c0 := (blk_cell hc 0).trans rfl
    gi_wp2
    refine ⟨by simp, .inl ⟨_, _, rfl, run_takeDeferred hK, ?_⟩⟩
    have hl : xs.length = (modelsIn v1.toNat l1).length := by rw [← hxs, List.length_map]
    refine ⟨.tuple #[.int .i64 (xs.length : Int), .int .i64 0], by simp [results, Try.results40, go_sem], by rw [hl], ?_⟩
    exact hB.trans (belowK_b (w := w) (Nat.le_refl _) W D _ _ (Nat.le_trans B2.size hD) hK rfl rfl)
  case stop =>
    rintro D c pre W _ _ h _
    exact h.elim

set_option maxHeartbeats 8000000 in
set_option maxRecDepth 100000 in
theorem count_bad (v1 : Int) (A1 : Option Addr) (c1 : Nat) (l1 : List (List Int)) (w : World) (hr1 : Kd.C (Kd.slice 3 (Kd.int .i64)) w A1 l1.length l1) (hc1 : l1.length ≤ c1) (hn : l1.length ≤ 5864062014805) (hs : ∀ c ∈ l1, c.length ≤ 17592186044416) (hf1 : isFormula v1 l1 = false) :
    Calls Try.prog 40 #[.agg #[.int .i64 v1, .slice A1 l1.length c1]] w fun e w' => e = .returned (.tuple #[.int .i64 0, .int .i64 1]) ∧ Below w.heap.size w w' := by
  have HR1 := Aside0.mk hr1
  have F1 := fun W h => isFormula_calls v1 A1 c1 l1 W h hc1 (by omega) hs
  rw [hf1] at F1
  have HF1 := Aside0.mk F1
  clear F1 hr1 hc1 hn hs hf1
  go_enter Try.func40, Try.ntmps40
  go_wp2_with fail
  have B0 : Below w.heap.size w (w.alloc (.cells #[.int .i64 v1, .slice A1 l1.length c1] 24 (0, 0))) := below_alloc (Below.refl _ _) _
  generalize hW0 : w.alloc (.cells #[.int .i64 v1, .slice A1 l1.length c1] 24 (0, 0)) = W0 at B0 ⊢
  clear hW0
  (with_reducible refine (HF1.out _ (Kd.C_below HR1.out B0)).mono ?_)
  rintro e W1 ⟨rfl, hb⟩
  have B1 := Aside0.mk (below_step B0 hb)
  clear B0 hb
  go_wp2_with fail
  go_ret2
  exact ⟨rfl, B1.out⟩

set_option maxHeartbeats 8000000 in
set_option maxRecDepth 100000 in
theorem count_room (v1 : Int) (A1 : Option Addr) (c1 : Nat) (l1 : List (List Int)) (w : World) (hr1 : Kd.C (Kd.slice 3 (Kd.int .i64)) w A1 l1.length l1) (hc1 : l1.length ≤ c1) (hn : l1.length ≤ 5864062014805) (hs : ∀ c ∈ l1, c.length ≤ 17592186044416) (hf1 : isFormula v1 l1 = true) (hv : 16 < v1) :
    Calls Try.prog 40 #[.agg #[.int .i64 v1, .slice A1 l1.length c1]] w fun e w' => e = .returned (.tuple #[.int .i64 0, .int .i64 4]) ∧ Below w.heap.size w w' := by
  have HR1 := Aside0.mk hr1
  have F1 := fun W h => isFormula_calls v1 A1 c1 l1 W h hc1 (by omega) hs
  rw [hf1] at F1
  have HF1 := Aside0.mk F1
  have hgt : decide (v1 > 16) = true := decide_eq_true hv
  have hgt2 : decide (16 < v1) = true := hgt
  clear F1 hr1 hc1 hn hs hf1
  go_enter Try.func40, Try.ntmps40
  go_wp2_with fail
  have B0 : Below w.heap.size w (w.alloc (.cells #[.int .i64 v1, .slice A1 l1.length c1] 24 (0, 0))) := below_alloc (Below.refl _ _) _
  have k0 := blk_new w (.cells #[.int .i64 v1, .slice A1 l1.length c1] 24 (0, 0))
  generalize hW0 : w.alloc (.cells #[.int .i64 v1, .slice A1 l1.length c1] 24 (0, 0)) = W0 at B0 k0 ⊢
  clear hW0
  (with_reducible refine (HF1.out _ (Kd.C_below HR1.out B0)).mono ?_)
  rintro e W1 ⟨rfl, hb⟩
  have B1 := Aside0.mk (below_step B0 hb)
  have k1 := (blk_cell (blk_below k0 hb) 0).trans rfl
  clear B0 hb k0
  go_wp2_with fail
  go_ret2
  exact ⟨rfl, B1.out⟩

theorem count_calls (v1 : Int) (A1 : Option Addr) (c1 : Nat) (l1 : List (List Int)) (w : World) (hr1 : Kd.C (Kd.slice 3 (Kd.int .i64)) w A1 l1.length l1) (hc1 : l1.length ≤ c1) (hn : l1.length ≤ 5864062014805) (hs : ∀ c ∈ l1, c.length ≤ 17592186044416) :
    Calls Try.prog 40 #[.agg #[.int .i64 v1, .slice A1 l1.length c1]] w fun e w' => e = .returned (.tuple #[.int .i64 (countOf v1 l1).1, .int .i64 (countOf v1 l1).2]) ∧ Below w.heap.size w w' := by
  unfold countOf
  by_cases hf : isFormula v1 l1 = true
  · rw [if_pos hf]
    by_cases hv : 16 < v1
    · rw [if_pos hv]
      exact count_room v1 A1 c1 l1 w hr1 hc1 hn hs hf hv
    · rw [if_neg hv]
      exact count_good v1 A1 c1 l1 w hr1 hc1 hn hs hf (by omega)
  · rw [if_neg hf]
    exact count_bad v1 A1 c1 l1 w hr1 hc1 hn hs (by simpa using hf)
end Go.Proofs.YtggnnnddnppcpaaHand
