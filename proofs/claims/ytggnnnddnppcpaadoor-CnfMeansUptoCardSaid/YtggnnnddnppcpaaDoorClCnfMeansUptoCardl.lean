/- What the law CnfMeans computes, with the proof that the code comes to it. Laid by gen_means.py out of the print of the seat. -/
import Derived.Test.YtggnnnddnppcpaaDoorClCnfMeansUptoCarda
import Derived.Test.YtggnnnddnppcpaaDoorClCnfMeansUptoCardb
import Derived.Test.YtggnnnddnppcpaaDoorClCnfMeansUptoCardc
import Derived.Test.YtggnnnddnppcpaaDoorClCnfMeansUptoCardd
import Derived.Test.YtggnnnddnppcpaaDoorClCnfMeansUptoCardj
import Derived.Test.YtggnnnddnppcpaaDoorClCnfMeansUptoCardk
/-! text YtggnnnddnppcpaaDoorMeansW -/
namespace Go.Proofs.YtggnnnddnppcpaaDoor.PCnfMeans
open Go.RowKit Go.Proofs.YtggnnnddnppcpaaDoorW.PrintWords Go.Proofs.YtggnnnddnppcpaaDoorW.PrintLast Go.Proofs.YtggnnnddnppcpaaDoorW.PrintMore
attribute [local go_sem] max2_int min2_int max_two min_two max_three min_three max_four min_four   -- for this text's walks alone
set_option linter.unusedVariables false
set_option linter.unusedSimpArgs false
def cnf_Tidy.f (k : Nat) (a0_0 : Int) (l0_1 : List (List Int)) : Option (Int × (List (List Int)) × Int) := if l0_1.length ≤ 5864062014805 ∧ ∀ c ∈ l0_1, c.length ≤ 17592186044416 then some (Go.Proofs.YtggnnnddnppcpaaDoorMath.tidiedOf a0_0 l0_1) else none
theorem cnf_Tidy.mono : ∀ a0 a1 k, LeO (cnf_Tidy.f k a0 a1) (cnf_Tidy.f (k + 1) a0 a1) := fun _ _ _ => LeO.refl _
theorem cnf_Tidy.calls (k : Nat) (a0_0 : Int) (A0_1 : Option Addr) (c0_1 : Nat) (l0_1 : List (List Int)) (r1 : Int) (r2 : List (List Int)) (r3 : Int) (w : World) (hr0_1 : Kd.C (Kd.slice 3 (Kd.int .i64)) w A0_1 l0_1.length l0_1) (hc0_1 : l0_1.length ≤ c0_1) (h : cnf_Tidy.f k a0_0 l0_1 = some (r1, r2, r3)) (ht : Go.Proofs.YtggnnnddnppcpaaDoorHand.Tab w) :
    Calls Tryd.prog 6 #[.agg #[.int .i64 a0_0, .slice A0_1 l0_1.length c0_1]] w fun e w' => ∃ v1_ : Value, e = .returned (.tuple #[.agg #[.int .i64 r1, v1_], .int .i64 r3]) ∧ Kd.S (Kd.slice 3 (Kd.int .i64)) 40 w' w.heap.size (fun _ => True) v1_ r2 ∧ Below w.heap.size w w' := by
  unfold cnf_Tidy.f at h
  by_cases hn : l0_1.length ≤ 5864062014805 ∧ ∀ c ∈ l0_1, c.length ≤ 17592186044416
  · rw [if_pos hn] at h
    have h2 := Go.Proofs.YtggnnnddnppcpaaDoorHand.tidied_calls a0_0 A0_1 c0_1 l0_1 w hr0_1 hc0_1 hn.1 hn.2 ht
    rw [Option.some.inj h] at h2
    exact h2
  · rw [if_neg hn] at h; exact absurd h (by simp)
def cnf_Join.f (k : Nat) (a0_0 : Int) (l0_1 : List (List Int)) (a1_0 : Int) (l1_1 : List (List Int)) : Option (Int × (List (List Int)) × Int) := if l0_1.length + l1_1.length ≤ 5864062014805 ∧ ∀ c ∈ l0_1 ++ l1_1, c.length ≤ 17592186044416 then some (Go.Proofs.YtggnnnddnppcpaaDoorMath.joinOf a0_0 l0_1 a1_0 l1_1) else none
theorem cnf_Join.mono : ∀ a0 a1 a2 a3 k, LeO (cnf_Join.f k a0 a1 a2 a3) (cnf_Join.f (k + 1) a0 a1 a2 a3) := fun _ _ _ _ _ => LeO.refl _
theorem cnf_Join.calls (k : Nat) (a0_0 : Int) (A0_1 : Option Addr) (c0_1 : Nat) (l0_1 : List (List Int)) (a1_0 : Int) (A1_1 : Option Addr) (c1_1 : Nat) (l1_1 : List (List Int)) (r1 : Int) (r2 : List (List Int)) (r3 : Int) (w : World) (hr0_1 : Kd.C (Kd.slice 3 (Kd.int .i64)) w A0_1 l0_1.length l0_1) (hc0_1 : l0_1.length ≤ c0_1) (hr1_1 : Kd.C (Kd.slice 3 (Kd.int .i64)) w A1_1 l1_1.length l1_1) (hc1_1 : l1_1.length ≤ c1_1) (h : cnf_Join.f k a0_0 l0_1 a1_0 l1_1 = some (r1, r2, r3)) :
    Calls Tryd.prog 19 #[.agg #[.int .i64 a0_0, .slice A0_1 l0_1.length c0_1], .agg #[.int .i64 a1_0, .slice A1_1 l1_1.length c1_1]] w fun e w' => ∃ v1_ : Value, e = .returned (.tuple #[.agg #[.int .i64 r1, v1_], .int .i64 r3]) ∧ Kd.S (Kd.slice 3 (Kd.int .i64)) 40 w' w.heap.size (fun _ => True) v1_ r2 ∧ Below w.heap.size w w' := by
  unfold cnf_Join.f at h
  by_cases hn : l0_1.length + l1_1.length ≤ 5864062014805 ∧ ∀ c ∈ l0_1 ++ l1_1, c.length ≤ 17592186044416
  · rw [if_pos hn] at h
    have h2 := Go.Proofs.YtggnnnddnppcpaaDoorHand.join_calls' a0_0 a1_0 A0_1 A1_1 c0_1 c1_1 l0_1 l1_1 w hr0_1 hc0_1 hr1_1 hc1_1 hn.1 hn.2
    rw [Option.some.inj h] at h2
    exact h2
  · rw [if_neg hn] at h; exact absurd h (by simp)
def cnf_Under.f (k : Nat) (a0_0 : Int) (l0_1 : List (List Int)) (l1 : List Int) : Option (Int × (List (List Int)) × Int) := if l0_1.length ≤ 5864062014805 ∧ l1.length ≤ 17592186044416 ∧ ∀ c ∈ l0_1, c.length ≤ 17592186044416 then some (Go.Proofs.YtggnnnddnppcpaaDoorMath.underOf a0_0 l0_1 l1) else none
theorem cnf_Under.mono : ∀ a0 a1 a2 k, LeO (cnf_Under.f k a0 a1 a2) (cnf_Under.f (k + 1) a0 a1 a2) := fun _ _ _ _ => LeO.refl _
theorem cnf_Under.calls (k : Nat) (a0_0 : Int) (A0_1 : Option Addr) (c0_1 : Nat) (l0_1 : List (List Int)) (A1 : Option Addr) (c1 : Nat) (l1 : List Int) (r1 : Int) (r2 : List (List Int)) (r3 : Int) (w : World) (hr0_1 : Kd.C (Kd.slice 3 (Kd.int .i64)) w A0_1 l0_1.length l0_1) (hc0_1 : l0_1.length ≤ c0_1) (hr1 : Kd.C (Kd.int .i64) w A1 l1.length l1) (hc1 : l1.length ≤ c1) (h : cnf_Under.f k a0_0 l0_1 l1 = some (r1, r2, r3)) :
    Calls Tryd.prog 21 #[.agg #[.int .i64 a0_0, .slice A0_1 l0_1.length c0_1], .slice A1 l1.length c1] w fun e w' => ∃ v1_ : Value, e = .returned (.tuple #[.agg #[.int .i64 r1, v1_], .int .i64 r3]) ∧ Kd.S (Kd.slice 3 (Kd.int .i64)) 40 w' w.heap.size (fun _ => True) v1_ r2 ∧ Below w.heap.size w w' := by
  unfold cnf_Under.f at h
  by_cases hn : l0_1.length ≤ 5864062014805 ∧ l1.length ≤ 17592186044416 ∧ ∀ c ∈ l0_1, c.length ≤ 17592186044416
  · rw [if_pos hn] at h
    have h2 := Go.Proofs.YtggnnnddnppcpaaDoorHand.under_calls a0_0 A0_1 A1 c0_1 c1 l0_1 l1 w hr0_1 hc0_1 hr1 hc1 hn.1 hn.2.2 hn.2.1
    rw [Option.some.inj h] at h2
    exact h2
  · rw [if_neg hn] at h; exact absurd h (by simp)
/-! ### depotlaw02_CnfMeans: function 4 -/
mutual
def depotlaw02_CnfMeans.j0 : Nat → List Int → List Bool → Bool → Int → List (List Int) → Int → List (List Int) → Option (Bool)
 | 0, _, _, _, _, _, _, _ => none
 | k + 1, x5, x6, x40, x270000, x270001, x271000, x271001 => if x40 = true then (some false) else ((cnf_Formed.f k x271000 x271001).bind fun t280 => (if t280 = true then (depotlaw02_CnfMeans.j1 k x5 x6 (x271000 == x270000) x270000 x270001 x271000 x271001) else (depotlaw02_CnfMeans.j1 k x5 x6 false x270000 x270001 x271000 x271001)))
def depotlaw02_CnfMeans.j1 : Nat → List Int → List Bool → Bool → Int → List (List Int) → Int → List (List Int) → Option (Bool)
 | 0, _, _, _, _, _, _, _ => none
 | k + 1, x5, x6, x49, x270000, x270001, x271000, x271001 => if x49 = true then ((cnf_Join.f k x270000 x270001 x271000 x271001).bind fun bt281 => (if bt281.2.2 = 0 then ((cnf_Satisfies.f k bt281.1 bt281.2.1 x6).bind fun t287 => ((cnf_Satisfies.f k x270000 x270001 x6).bind fun t288 => (if t288 = true then ((cnf_Satisfies.f k x271000 x271001 x6).bind fun t289 => (if (t287 != t289) = true then (some false) else (depotlaw02_CnfMeans.j2 k x5 x6 x270000 x270001))) else (if (t287 != false) = true then (some false) else (depotlaw02_CnfMeans.j2 k x5 x6 x270000 x270001))))) else (some false))) else (depotlaw02_CnfMeans.j2 k x5 x6 x270000 x270001)
def depotlaw02_CnfMeans.j2 : Nat → List Int → List Bool → Int → List (List Int) → Option (Bool)
 | 0, _, _, _, _ => none
 | k + 1, x5, x6, x270000, x270001 => if (x6.length : Int) = x270000 then ((depotlaw02_holds.f k x5 x6).bind fun t290 => (depotlaw02_CnfMeans.j3 k x5 x6 (!t290) x270000 x270001)) else (depotlaw02_CnfMeans.j3 k x5 x6 true x270000 x270001)
def depotlaw02_CnfMeans.j3 : Nat → List Int → List Bool → Bool → Int → List (List Int) → Option (Bool)
 | 0, _, _, _, _, _ => none
 | k + 1, x5, x6, x82, x270000, x270001 => if x82 = true then (some true) else ((cnf_Under.f k x270000 x270001 x5).bind fun bt291 => (if bt291.2.2 = 0 then ((cnf_Satisfies.f k bt291.1 bt291.2.1 x6).bind fun t297 => ((cnf_Satisfies.f k x270000 x270001 x6).bind fun t298 => (some (t297 == t298)))) else (some false)))
end
def depotlaw02_CnfMeans.f (k : Nat) (a0_0 : Int) (l0_1 : List (List Int)) (a0_2 : Int) (l0_3 : List (List Int)) (l0_4 : List Int) (l0_5 : List Bool) : Option (Bool) := (depotlaw02_awake.f k).bind fun t268 => (if t268 = true then ((cnf_Formed.f k a0_0 l0_1).bind fun t271 => (if t271 = true then ((cnf_Tidy.f k a0_0 l0_1).bind fun bt272 => (if bt272.2.2 = 0 then ((cnf_Satisfies.f k bt272.1 bt272.2.1 l0_5).bind fun t278 => ((cnf_Satisfies.f k a0_0 l0_1 l0_5).bind fun t279 => (depotlaw02_CnfMeans.j0 k l0_4 l0_5 (t278 != t279) a0_0 l0_1 a0_2 l0_3))) else (depotlaw02_CnfMeans.j0 k l0_4 l0_5 true a0_0 l0_1 a0_2 l0_3))) else (some true))) else (some false))
theorem depotlaw02_CnfMeans.mono_l : ∀ k, (∀ y0 y1 y2 y3 y4 y5 y6, LeO (depotlaw02_CnfMeans.j0 k y0 y1 y2 y3 y4 y5 y6) (depotlaw02_CnfMeans.j0 (k + 1) y0 y1 y2 y3 y4 y5 y6)) ∧ (∀ y0 y1 y2 y3 y4 y5 y6, LeO (depotlaw02_CnfMeans.j1 k y0 y1 y2 y3 y4 y5 y6) (depotlaw02_CnfMeans.j1 (k + 1) y0 y1 y2 y3 y4 y5 y6)) ∧ (∀ y0 y1 y2 y3, LeO (depotlaw02_CnfMeans.j2 k y0 y1 y2 y3) (depotlaw02_CnfMeans.j2 (k + 1) y0 y1 y2 y3)) ∧ (∀ y0 y1 y2 y3 y4, LeO (depotlaw02_CnfMeans.j3 k y0 y1 y2 y3 y4) (depotlaw02_CnfMeans.j3 (k + 1) y0 y1 y2 y3 y4))
 | 0 => ⟨fun _ _ _ _ _ _ _ r h => by simp [depotlaw02_CnfMeans.j0] at h, fun _ _ _ _ _ _ _ r h => by simp [depotlaw02_CnfMeans.j1] at h, fun _ _ _ _ r h => by simp [depotlaw02_CnfMeans.j2] at h, fun _ _ _ _ _ r h => by simp [depotlaw02_CnfMeans.j3] at h⟩
 | k + 1 => by
  obtain ⟨ih0, ih1, ih2, ih3⟩ := depotlaw02_CnfMeans.mono_l k
  refine ⟨?_, ?_, ?_, ?_⟩
  ·intro y0 y1 y2 y3 y4 y5 y6
   unfold depotlaw02_CnfMeans.j0
   repeat' first
   | (with_reducible exact ih0 _ _ _ _ _ _ _)
   | (with_reducible exact ih1 _ _ _ _ _ _ _)
   | (with_reducible exact ih2 _ _ _ _)
   | (with_reducible exact ih3 _ _ _ _ _)
   | (with_reducible exact cnf_Formed.mono _ _ _)
   | (with_reducible exact cnf_Join.mono _ _ _ _ _)
   | (with_reducible exact cnf_Satisfies.mono _ _ _ _)
   | (with_reducible exact cnf_Tidy.mono _ _ _)
   | (with_reducible exact cnf_Under.mono _ _ _ _)
   | (with_reducible exact depotlaw02_awake.mono _)
   | (with_reducible exact depotlaw02_holds.mono _ _ _)
   | (with_reducible exact LeO.refl _)
   | (with_reducible exact LeO.none _)
   | (with_reducible refine LeO.ite ?_ ?_)
   | (with_reducible refine LeO.bind ?_ (fun _ => ?_))
   | exact ih0 _ _ _ _ _ _ _
   | exact ih1 _ _ _ _ _ _ _
   | exact ih2 _ _ _ _
   | exact ih3 _ _ _ _ _
   | exact cnf_Formed.mono _ _ _
   | exact cnf_Join.mono _ _ _ _ _
   | exact cnf_Satisfies.mono _ _ _ _
   | exact cnf_Tidy.mono _ _ _
   | exact cnf_Under.mono _ _ _ _
   | exact depotlaw02_awake.mono _
   | exact depotlaw02_holds.mono _ _ _
   | exact LeO.none _
   | refine LeO.ite ?_ ?_
   | refine LeO.bind ?_ (fun _ => ?_)
  ·intro y0 y1 y2 y3 y4 y5 y6
   unfold depotlaw02_CnfMeans.j1
   repeat' first
   | (with_reducible exact ih0 _ _ _ _ _ _ _)
   | (with_reducible exact ih1 _ _ _ _ _ _ _)
   | (with_reducible exact ih2 _ _ _ _)
   | (with_reducible exact ih3 _ _ _ _ _)
   | (with_reducible exact cnf_Formed.mono _ _ _)
   | (with_reducible exact cnf_Join.mono _ _ _ _ _)
   | (with_reducible exact cnf_Satisfies.mono _ _ _ _)
   | (with_reducible exact cnf_Tidy.mono _ _ _)
   | (with_reducible exact cnf_Under.mono _ _ _ _)
   | (with_reducible exact depotlaw02_awake.mono _)
   | (with_reducible exact depotlaw02_holds.mono _ _ _)
   | (with_reducible exact LeO.refl _)
   | (with_reducible exact LeO.none _)
   | (with_reducible refine LeO.ite ?_ ?_)
   | (with_reducible refine LeO.bind ?_ (fun _ => ?_))
   | exact ih0 _ _ _ _ _ _ _
   | exact ih1 _ _ _ _ _ _ _
   | exact ih2 _ _ _ _
   | exact ih3 _ _ _ _ _
   | exact cnf_Formed.mono _ _ _
   | exact cnf_Join.mono _ _ _ _ _
   | exact cnf_Satisfies.mono _ _ _ _
   | exact cnf_Tidy.mono _ _ _
   | exact cnf_Under.mono _ _ _ _
   | exact depotlaw02_awake.mono _
   | exact depotlaw02_holds.mono _ _ _
   | exact LeO.none _
   | refine LeO.ite ?_ ?_
   | refine LeO.bind ?_ (fun _ => ?_)
  ·intro y0 y1 y2 y3
   unfold depotlaw02_CnfMeans.j2
   repeat' first
   | (with_reducible exact ih0 _ _ _ _ _ _ _)
   | (with_reducible exact ih1 _ _ _ _ _ _ _)
   | (with_reducible exact ih2 _ _ _ _)
   | (with_reducible exact ih3 _ _ _ _ _)
   | (with_reducible exact cnf_Formed.mono _ _ _)
   | (with_reducible exact cnf_Join.mono _ _ _ _ _)
   | (with_reducible exact cnf_Satisfies.mono _ _ _ _)
   | (with_reducible exact cnf_Tidy.mono _ _ _)
   | (with_reducible exact cnf_Under.mono _ _ _ _)
   | (with_reducible exact depotlaw02_awake.mono _)
   | (with_reducible exact depotlaw02_holds.mono _ _ _)
   | (with_reducible exact LeO.refl _)
   | (with_reducible exact LeO.none _)
   | (with_reducible refine LeO.ite ?_ ?_)
   | (with_reducible refine LeO.bind ?_ (fun _ => ?_))
   | exact ih0 _ _ _ _ _ _ _
   | exact ih1 _ _ _ _ _ _ _
   | exact ih2 _ _ _ _
   | exact ih3 _ _ _ _ _
   | exact cnf_Formed.mono _ _ _
   | exact cnf_Join.mono _ _ _ _ _
   | exact cnf_Satisfies.mono _ _ _ _
   | exact cnf_Tidy.mono _ _ _
   | exact cnf_Under.mono _ _ _ _
   | exact depotlaw02_awake.mono _
   | exact depotlaw02_holds.mono _ _ _
   | exact LeO.none _
   | refine LeO.ite ?_ ?_
   | refine LeO.bind ?_ (fun _ => ?_)
  ·intro y0 y1 y2 y3 y4
   unfold depotlaw02_CnfMeans.j3
   repeat' first
   | (with_reducible exact ih0 _ _ _ _ _ _ _)
   | (with_reducible exact ih1 _ _ _ _ _ _ _)
   | (with_reducible exact ih2 _ _ _ _)
   | (with_reducible exact ih3 _ _ _ _ _)
   | (with_reducible exact cnf_Formed.mono _ _ _)
   | (with_reducible exact cnf_Join.mono _ _ _ _ _)
   | (with_reducible exact cnf_Satisfies.mono _ _ _ _)
   | (with_reducible exact cnf_Tidy.mono _ _ _)
   | (with_reducible exact cnf_Under.mono _ _ _ _)
   | (with_reducible exact depotlaw02_awake.mono _)
   | (with_reducible exact depotlaw02_holds.mono _ _ _)
   | (with_reducible exact LeO.refl _)
   | (with_reducible exact LeO.none _)
   | (with_reducible refine LeO.ite ?_ ?_)
   | (with_reducible refine LeO.bind ?_ (fun _ => ?_))
   | exact ih0 _ _ _ _ _ _ _
   | exact ih1 _ _ _ _ _ _ _
   | exact ih2 _ _ _ _
   | exact ih3 _ _ _ _ _
   | exact cnf_Formed.mono _ _ _
   | exact cnf_Join.mono _ _ _ _ _
   | exact cnf_Satisfies.mono _ _ _ _
   | exact cnf_Tidy.mono _ _ _
   | exact cnf_Under.mono _ _ _ _
   | exact depotlaw02_awake.mono _
   | exact depotlaw02_holds.mono _ _ _
   | exact LeO.none _
   | refine LeO.ite ?_ ?_
   | refine LeO.bind ?_ (fun _ => ?_)
theorem depotlaw02_CnfMeans.mono : ∀ a0 a1 a2 a3 a4 a5 k, LeO (depotlaw02_CnfMeans.f k a0 a1 a2 a3 a4 a5) (depotlaw02_CnfMeans.f (k + 1) a0 a1 a2 a3 a4 a5) := by
 intro a0 a1 a2 a3 a4 a5 k
 obtain ⟨ih0, ih1, ih2, ih3⟩ := depotlaw02_CnfMeans.mono_l k
 unfold depotlaw02_CnfMeans.f
 repeat' first
   | (with_reducible exact ih0 _ _ _ _ _ _ _)
   | (with_reducible exact ih1 _ _ _ _ _ _ _)
   | (with_reducible exact ih2 _ _ _ _)
   | (with_reducible exact ih3 _ _ _ _ _)
   | (with_reducible exact cnf_Formed.mono _ _ _)
   | (with_reducible exact cnf_Join.mono _ _ _ _ _)
   | (with_reducible exact cnf_Satisfies.mono _ _ _ _)
   | (with_reducible exact cnf_Tidy.mono _ _ _)
   | (with_reducible exact cnf_Under.mono _ _ _ _)
   | (with_reducible exact depotlaw02_awake.mono _)
   | (with_reducible exact depotlaw02_holds.mono _ _ _)
   | (with_reducible exact LeO.refl _)
   | (with_reducible exact LeO.none _)
   | (with_reducible refine LeO.ite ?_ ?_)
   | (with_reducible refine LeO.bind ?_ (fun _ => ?_))
   | exact ih0 _ _ _ _ _ _ _
   | exact ih1 _ _ _ _ _ _ _
   | exact ih2 _ _ _ _
   | exact ih3 _ _ _ _ _
   | exact cnf_Formed.mono _ _ _
   | exact cnf_Join.mono _ _ _ _ _
   | exact cnf_Satisfies.mono _ _ _ _
   | exact cnf_Tidy.mono _ _ _
   | exact cnf_Under.mono _ _ _ _
   | exact depotlaw02_awake.mono _
   | exact depotlaw02_holds.mono _ _ _
   | exact LeO.none _
   | refine LeO.ite ?_ ?_
   | refine LeO.bind ?_ (fun _ => ?_)
def depotlaw02_CnfMeans.T3 : Bool × List (List Nat × List Nat) := (true, [([], []), ([0], [0]), ([], []), ([2], [2]), ([], []), ([4], [4]), ([], []), ([6], [6]), ([], []), ([], []), ([8, 1, 0, 1, 8, 9], [1, 8]), ([9, 3, 10, 0, 1, 2, 3, 8, 9, 10], [3, 9]), ([5, 11, 0, 1, 2, 3, 4, 5, 8, 9, 10, 11], [5]), ([7, 12, 0, 1, 2, 3, 4, 5, 6, 7, 8, 9, 10, 11, 12], [7])])
def depotlaw02_CnfMeans.B3 : List Nat := [0, 1, 0, 4, 0, 16, 0, 64, 0, 0, 771, 1807, 3903, 8191]
theorem depotlaw02_CnfMeans.tab3 : rtab .any (opsOf Tryd.f4 3) = depotlaw02_CnfMeans.T3 := by kernel_rfl
theorem depotlaw02_CnfMeans.bits3 : waitsOk depotlaw02_CnfMeans.T3.2 depotlaw02_CnfMeans.B3 = true := by kernel_rfl
def depotlaw02_CnfMeans.T7 : Bool × List (List Nat × List Nat) := (true, [([], []), ([0], [0]), ([1], [1]), ([2], [2]), ([2], [2]), ([3, 4, 2, 2], [2, 3, 4]), ([2], [2]), ([2], [2]), ([6, 7, 5, 2], [2, 6, 7]), ([5, 8, 2], [2, 5, 8]), ([2, 9], [2, 9])])
def depotlaw02_CnfMeans.B7 : List Nat := [0, 1, 3, 7, 7, 31, 7, 7, 255, 511, 1023]
theorem depotlaw02_CnfMeans.tab7 : rtab .any (opsOf Tryd.f4 7) = depotlaw02_CnfMeans.T7 := by kernel_rfl
theorem depotlaw02_CnfMeans.bits7 : waitsOk depotlaw02_CnfMeans.T7.2 depotlaw02_CnfMeans.B7 = true := by kernel_rfl
def depotlaw02_CnfMeans.T11 : Bool × List (List Nat × List Nat) := (true, [([], []), ([0], [0]), ([1], [1]), ([2], [2]), ([2], [2]), ([3, 4, 2, 2], [2, 3, 4]), ([2], [2]), ([2], [2]), ([6, 7, 5, 2], [2, 6, 7]), ([8, 8, 2], [2, 8]), ([9], [9]), ([9], [9]), ([10, 11, 9, 9], [9, 10, 11]), ([9, 12, 2], [2, 9, 12]), ([5, 13, 2], [2, 5, 13]), ([2, 14], [2, 14])])
def depotlaw02_CnfMeans.B11 : List Nat := [0, 1, 3, 7, 7, 31, 7, 7, 255, 511, 1023, 1023, 4095, 8191, 16383, 32767]
theorem depotlaw02_CnfMeans.tab11 : rtab .any (opsOf Tryd.f4 11) = depotlaw02_CnfMeans.T11 := by kernel_rfl
theorem depotlaw02_CnfMeans.bits11 : waitsOk depotlaw02_CnfMeans.T11.2 depotlaw02_CnfMeans.B11 = true := by kernel_rfl
def depotlaw02_CnfMeans.T16 : Bool × List (List Nat × List Nat) := (true, [([], []), ([0], [0]), ([1], [1]), ([2], [2]), ([2], [2]), ([3, 4, 2, 2], [2, 3, 4]), ([2], [2]), ([2], [2]), ([6, 7, 5, 2], [2, 6, 7]), ([5, 8, 2], [2, 5, 8]), ([2, 9], [2, 9]), ([10, 8, 0, 1, 2, 3, 4, 5, 6, 7, 8, 9, 10], [10])])
def depotlaw02_CnfMeans.B16 : List Nat := [0, 1, 3, 7, 7, 31, 7, 7, 255, 511, 1023, 2047]
theorem depotlaw02_CnfMeans.tab16 : rtab .any (opsOf Tryd.f4 16) = depotlaw02_CnfMeans.T16 := by kernel_rfl
theorem depotlaw02_CnfMeans.bits16 : waitsOk depotlaw02_CnfMeans.T16.2 depotlaw02_CnfMeans.B16 = true := by kernel_rfl
local macro "ap_" : tactic => `(tactic| (simp only [Act.put, List.setIfInBounds_toArray, List.set_cons_zero, List.set_cons_succ, i64_w, i32_w]))
local macro "bl_" : tactic => `(tactic| ((with_reducible repeat (first | refine blk_drewN ?_ _ | refine blk_drew ?_ | refine blk_alloc ?_ _))))
set_option hygiene false in
local macro "bx_" : tactic => `(tactic| ((case hd => rfl); (case hg => rfl); (case hr => first | (go_simp; done) | (go_simp; rfl))))
local macro "lm_" : tactic => `(tactic| ((try simp only [List.map_toArray, List.map_cons, List.map_nil]); first | done | rfl | (simp only [List.length_drop, List.length_take]; rfl)))
set_option hygiene false in
local macro "ch_" : tactic => `(tactic| ((try clear hb); (try clear hb2); (try clear hk); (try clear hi); (try clear ho0)))
set_option hygiene false in
local macro "be0_" : tactic => `(tactic| (repeat (first | (with_reducible first | exact HB.out | apply below_alloc | apply pw_below_drewN | apply below_drew1 | refine below_set ?_ GE267.out | refine below_set ?_ GE269.out | refine below_set ?_ GE270.out | refine below_set ?_ GE277.out) | exact HB.out)))
set_option hygiene false in
local macro "be1_" : tactic => `(tactic| (repeat (first | (with_reducible first | exact HB.out | apply below_alloc | apply pw_below_drewN | apply below_drew1 | refine below_set ?_ GE267.out | refine below_set ?_ GE269.out | refine below_set ?_ GE270.out | refine below_set ?_ GE277.out | refine below_set ?_ GE286.out) | exact HB.out)))
set_option hygiene false in
local macro "be2_" : tactic => `(tactic| (repeat (first | (with_reducible first | exact HB.out | apply below_alloc | apply pw_below_drewN | apply below_drew1 | refine below_set ?_ GE267.out | refine below_set ?_ GE269.out | refine below_set ?_ GE270.out) | exact HB.out)))
set_option hygiene false in
local macro "be3_" : tactic => `(tactic| (repeat (first | (with_reducible first | exact HB.out | apply below_alloc | apply pw_below_drewN | apply below_drew1 | refine below_set ?_ GE267.out) | exact HB.out)))
set_option hygiene false in
local macro "be4_" : tactic => `(tactic| (repeat (first | (with_reducible first | exact HB.out | apply below_alloc | apply pw_below_drewN | apply below_drew1 | refine below_set ?_ GE267.out | refine below_set ?_ GE269.out | refine below_set ?_ GE270.out | refine below_set ?_ GE277.out | refine below_set ?_ GE296.out) | exact HB.out)))
set_option hygiene false in
local macro "be5_" : tactic => `(tactic| (repeat (first | (with_reducible first | exact HB.out | apply below_alloc | apply pw_below_drewN | apply below_drew1) | exact HB.out)))
set_option hygiene false in
local macro "be6_" : tactic => `(tactic| (repeat (first | (with_reducible first | exact HB.out | apply below_alloc | apply pw_below_drewN | apply below_drew1 | refine below_set ?_ GE267.out | refine below_set ?_ GE269.out) | exact HB.out)))
set_option hygiene false in
local macro "be7_" : tactic => `(tactic| (repeat (first | (with_reducible first | exact HB.out | apply below_alloc | apply pw_below_drewN | apply below_drew1 | refine below_set ?_ GE267.out | refine below_set ?_ GE270.out) | exact HB.out)))
set_option hygiene false in
local macro "be8_" : tactic => `(tactic| (repeat (first | (with_reducible first | exact HB.out | apply below_alloc | apply pw_below_drewN | apply below_drew1 | refine below_set ?_ GE267.out | refine below_set ?_ GE270.out | refine below_set ?_ GE269.out) | exact HB.out)))
set_option hygiene false in
local macro "ob0_" : term => `(#[.int .i64 a0_0, .slice A0_1 l0_1.length c0_1, .int .i64 a0_2, .slice A0_3 l0_3.length c0_3, .slice A0_4 l0_4.length c0_4, .slice A0_5 l0_5.length c0_5])
set_option hygiene false in
local macro "ob1_" : term => `(#[.int .i64 a0_0, .slice A0_1 l0_1.length c0_1])
set_option hygiene false in
local macro "ob2_" : term => `(#[.int .i64 a0_2, .slice A0_3 l0_3.length c0_3])
set_option hygiene false in
local macro "ob3_" : term => `(#[.int .i64 t272, .slice Ao29 t273.length co29])
set_option hygiene false in
local macro "an_" : term => `((any_of HT_.out (by kernel_rfl)))
set_option hygiene false in
local macro "sl_" : tactic => `(tactic| (with_reducible repeat (first | apply Kd.S_alloc | apply Kd.S_drewN | apply Kd.S_drew)))
set_option maxHeartbeats 8000000 in
set_option maxRecDepth 100000 in
theorem depotlaw02_CnfMeans.calls (k : Nat) (a0_0 : Int) (A0_1 : Option Addr) (c0_1 : Nat) (l0_1 : List (List Int)) (a0_2 : Int) (A0_3 : Option Addr) (c0_3 : Nat) (l0_3 : List (List Int)) (A0_4 : Option Addr) (c0_4 : Nat) (l0_4 : List Int) (A0_5 : Option Addr) (c0_5 : Nat) (l0_5 : List Bool) (r : Bool) (w : World) (hr0_1 : Kd.C (Kd.slice 3 (Kd.int .i64)) w A0_1 l0_1.length l0_1) (hc0_1 : l0_1.length ≤ c0_1) (hr0_3 : Kd.C (Kd.slice 3 (Kd.int .i64)) w A0_3 l0_3.length l0_3) (hc0_3 : l0_3.length ≤ c0_3) (hr0_4 : Kd.C (Kd.int .i64) w A0_4 l0_4.length l0_4) (hc0_4 : l0_4.length ≤ c0_4) (hr0_5 : Kd.C Kd.bool w A0_5 l0_5.length l0_5) (hc0_5 : l0_5.length ≤ c0_5) (ht : Go.Proofs.YtggnnnddnppcpaaDoorHand.Tab w) (h : depotlaw02_CnfMeans.f k a0_0 l0_1 a0_2 l0_3 l0_4 l0_5 = some r) :
  Calls Tryd.prog 4 #[.agg #[.int .i64 a0_0, .slice A0_1 l0_1.length c0_1, .int .i64 a0_2, .slice A0_3 l0_3.length c0_3, .slice A0_4 l0_4.length c0_4, .slice A0_5 l0_5.length c0_5]] w fun e w' => e = .returned (.bool r) ∧ Below w.heap.size w w' := by
 have HTB := Aside0.mk ht
 clear ht
 have hu43 := Tryd.underlying43
 have hu24 := Tryd.underlying24
 have HR0_1 := Aside0.mk hr0_1
 have HC0_1 := Aside0.mk hc0_1
 clear hr0_1 hc0_1
 have HR0_3 := Aside0.mk hr0_3
 have HC0_3 := Aside0.mk hc0_3
 clear hr0_3 hc0_3
 have HR0_4 := Aside0.mk hr0_4
 have HC0_4 := Aside0.mk hc0_4
 clear hr0_4 hc0_4
 have HR0_5 := Aside0.mk hr0_5
 have HC0_5 := Aside0.mk hc0_5
 clear hr0_5 hc0_5
 have HB := Aside0.mk (Below.refl w.heap.size w)
 have H : ((depotlaw02_awake.f k).bind fun t268 => (if t268 = true then ((cnf_Formed.f k a0_0 l0_1).bind fun t271 => (if t271 = true then ((cnf_Tidy.f k a0_0 l0_1).bind fun bt272 => (if bt272.2.2 = 0 then ((cnf_Satisfies.f k bt272.1 bt272.2.1 l0_5).bind fun t278 => ((cnf_Satisfies.f k a0_0 l0_1 l0_5).bind fun t279 => (depotlaw02_CnfMeans.j0 k l0_4 l0_5 (t278 != t279) a0_0 l0_1 a0_2 l0_3))) else (depotlaw02_CnfMeans.j0 k l0_4 l0_5 true a0_0 l0_1 a0_2 l0_3))) else (some true))) else (some false))) = some r := h
 clear h
 replace H := Option.bind_eq_some_iff.mp H
 obtain ⟨t268, A20, H⟩ := H
 replace H : (if t268 = true then ((cnf_Formed.f k a0_0 l0_1).bind fun t271 => (if t271 = true then ((cnf_Tidy.f k a0_0 l0_1).bind fun bt272 => (if bt272.2.2 = 0 then ((cnf_Satisfies.f k bt272.1 bt272.2.1 l0_5).bind fun t278 => ((cnf_Satisfies.f k a0_0 l0_1 l0_5).bind fun t279 => (depotlaw02_CnfMeans.j0 k l0_4 l0_5 (t278 != t279) a0_0 l0_1 a0_2 l0_3))) else (depotlaw02_CnfMeans.j0 k l0_4 l0_5 true a0_0 l0_1 a0_2 l0_3))) else (some true))) else (some false)) = some r := H
 have A2 := Aside0.mk A20
 clear A20
 by_cases c3 : t268 = true
 ·subst c3
  have H1 : ((cnf_Formed.f k a0_0 l0_1).bind fun t271 => (if t271 = true then ((cnf_Tidy.f k a0_0 l0_1).bind fun bt272 => (if bt272.2.2 = 0 then ((cnf_Satisfies.f k bt272.1 bt272.2.1 l0_5).bind fun t278 => ((cnf_Satisfies.f k a0_0 l0_1 l0_5).bind fun t279 => (depotlaw02_CnfMeans.j0 k l0_4 l0_5 (t278 != t279) a0_0 l0_1 a0_2 l0_3))) else (depotlaw02_CnfMeans.j0 k l0_4 l0_5 true a0_0 l0_1 a0_2 l0_3))) else (some true))) = some r := by rw [if_pos rfl] at H; exact H
  clear H
  have H := H1
  clear H1
  replace H := Option.bind_eq_some_iff.mp H
  obtain ⟨t271, A40, H⟩ := H
  replace H : (if t271 = true then ((cnf_Tidy.f k a0_0 l0_1).bind fun bt272 => (if bt272.2.2 = 0 then ((cnf_Satisfies.f k bt272.1 bt272.2.1 l0_5).bind fun t278 => ((cnf_Satisfies.f k a0_0 l0_1 l0_5).bind fun t279 => (depotlaw02_CnfMeans.j0 k l0_4 l0_5 (t278 != t279) a0_0 l0_1 a0_2 l0_3))) else (depotlaw02_CnfMeans.j0 k l0_4 l0_5 true a0_0 l0_1 a0_2 l0_3))) else (some true)) = some r := H
  have A4 := Aside0.mk A40
  clear A40
  by_cases c5 : t271 = true
  ·subst c5
   have H1 : ((cnf_Tidy.f k a0_0 l0_1).bind fun bt272 => (if bt272.2.2 = 0 then ((cnf_Satisfies.f k bt272.1 bt272.2.1 l0_5).bind fun t278 => ((cnf_Satisfies.f k a0_0 l0_1 l0_5).bind fun t279 => (depotlaw02_CnfMeans.j0 k l0_4 l0_5 (t278 != t279) a0_0 l0_1 a0_2 l0_3))) else (depotlaw02_CnfMeans.j0 k l0_4 l0_5 true a0_0 l0_1 a0_2 l0_3))) = some r := by rw [if_pos rfl] at H; exact H
   clear H
   have H := H1
   clear H1
   replace H := Option.bind_eq_some_iff.mp H
   obtain ⟨⟨t272, t273, t276⟩, A60, H⟩ := H
   replace H : (if t276 = 0 then ((cnf_Satisfies.f k t272 t273 l0_5).bind fun t278 => ((cnf_Satisfies.f k a0_0 l0_1 l0_5).bind fun t279 => (depotlaw02_CnfMeans.j0 k l0_4 l0_5 (t278 != t279) a0_0 l0_1 a0_2 l0_3))) else (depotlaw02_CnfMeans.j0 k l0_4 l0_5 true a0_0 l0_1 a0_2 l0_3)) = some r := H
   have A6 := Aside0.mk A60
   clear A60
   have HC7 := Aside0.mk H
   clear H
   go_enter Tryd.func4, Tryd.ntmps4
   try go_wp2_with (first | ((with_reducible refine gate_dst (N := 1) rfl ?_); refine box_event ?hg (N := 1) ?hd (cs := ob0_) (t := 43) ?hr ?_; bx_; intro gb267 hg w8 hbox hb; have n0_ := Aside0.mk (below_step (by be5_) hb); have n1_ := Aside0.mk (hbox); have n2_ := Aside0.mk ((by rw [hg]; exact (below_size (by be5_)) : w.heap.size ≤ gb267)); have n3_ := Aside0.mk ((by rw [hg]; exact (below_size (by be5_)) : w.heap.size ≤ gb267)); clear HB; have HB := n0_; have BK267 := n1_; have GW267 := n2_; have GE267 := n3_; clear n0_ n1_ n2_ n3_; clear hb hbox hg) | ((with_reducible refine gate_callee (f := 16) rfl ?_); refine goesL_ (some 12) rfl rfl Tryd.func16 (by kernel_rfl) rfl #[] rfl (by lm_) ?_; (with_reducible refine (depotlaw02_awake.calls k  true _ A2.out).mono ?_); rintro e w9 ⟨rfl, hb⟩; refine ⟨_, rfl, ?_⟩; have n0_ := Aside0.mk (blk_below (g := gb267) (o := .cells ob0_ 43 (0, 0)) (by bl_; exact BK267.out) hb); have n1_ := Aside0.mk (below_step (by be3_) hb); clear BK267; clear HB; have BK267 := n0_; have HB := n1_; clear n0_ n1_; (try clear hb); (try clear hb2); (try clear hk); (try clear hi)))
   have n0_ := Aside0.mk (blk_drew BK267.out)
   have n1_ := Aside0.mk (below_drew1 HB.out)
   clear BK267
   clear HB
   have BK267 := n0_
   have HB := n1_
   clear n0_ n1_
   refine start_ (n := 14) (S := fun w' => w'.cell? ⟨gb267, 0, none⟩ = some (.int .i64 a0_0) ∧ w'.cell? ⟨gb267, 1, none⟩ = some (.slice A0_1 l0_1.length c0_1) ∧ w'.cell? ⟨gb267, 2, none⟩ = some (.int .i64 a0_2) ∧ w'.cell? ⟨gb267, 3, none⟩ = some (.slice A0_3 l0_3.length c0_3) ∧ w'.cell? ⟨gb267, 4, none⟩ = some (.slice A0_4 l0_4.length c0_4) ∧ w'.cell? ⟨gb267, 5, none⟩ = some (.slice A0_5 l0_5.length c0_5)) (ds := []) #[false, false, false, false, false, false, false, false, false, false, false, false, false, false] (by kernel_rfl) rfl rfl ⟨(blk_cell BK267.out 0).trans rfl, (blk_cell BK267.out 1).trans rfl, (blk_cell BK267.out 2).trans rfl, (blk_cell BK267.out 3).trans rfl, (blk_cell BK267.out 4).trans rfl, (blk_cell BK267.out 5).trans rfl⟩ (fun hHeld => ?_); refine with_tabW depotlaw02_CnfMeans.tab3 depotlaw02_CnfMeans.bits3 (fun HT_ HW_ => ?_)
   generalize w9.drew = w10 at BK267 HB hHeld ⊢
   refine pure_ (i := 0) (N := some 14) (v := ?_) (a' := ?_) #[true, false, false, false, false, false, false, false, false, false, false, false, false, false] rfl rfl an_ (fun _ _ _ h => h) (Or.inl ⟨by rfl, ?_⟩) ?_ ?_
   rotate_left
   ·intro w'
    go_simp
    with_reducible rfl
   rotate_left
   ·ap_
    rfl
   refine pure_ (i := 2) (N := some 16) (v := ?_) (a' := ?_) #[true, false, true, false, false, false, false, false, false, false, false, false, false, false] rfl rfl an_ (fun _ _ _ h => h) (Or.inl ⟨by rfl, ?_⟩) ?_ ?_
   rotate_left
   ·intro w'
    go_simp
    with_reducible rfl
   rotate_left
   ·ap_
    rfl
   refine pure_ (i := 4) (N := some 18) (v := ?_) (a' := ?_) #[true, false, true, false, true, false, false, false, false, false, false, false, false, false] rfl rfl an_ (fun _ _ _ h => h) (Or.inl ⟨by rfl, ?_⟩) ?_ ?_
   rotate_left
   ·intro w'
    go_simp
    with_reducible rfl
   rotate_left
   ·ap_
    rfl
   refine pure_ (i := 6) (N := some 20) (v := ?_) (a' := ?_) #[true, false, true, false, true, false, true, false, false, false, false, false, false, false] rfl rfl an_ (fun _ _ _ h => h) (Or.inl ⟨by rfl, ?_⟩) ?_ ?_
   rotate_left
   ·intro w'
    go_simp
    with_reducible rfl
   rotate_left
   ·ap_
    rfl
   refine take_ (i := 1) (N := some 15) (v := ?_) (a' := ?_) #[true, true, true, false, true, false, true, false, false, false, false, false, false, false] rfl rfl (take_ofW HT_.out HW_.out (by kernel_rfl)) (fun _ _ _ h => h) (Or.inl ⟨by rfl, ?_⟩) hHeld ?_ ?_
   rotate_left
   ·rintro w' ⟨s0, s1, s2, s3, s4, s5⟩
    go_simp
    with_reducible rfl
   rotate_left
   ·ap_
    rfl
   refine take_ (i := 3) (N := some 17) (v := ?_) (a' := ?_) #[true, true, true, true, true, false, true, false, false, false, false, false, false, false] rfl rfl (take_ofW HT_.out HW_.out (by kernel_rfl)) (fun _ _ _ h => h) (Or.inl ⟨by rfl, ?_⟩) hHeld ?_ ?_
   rotate_left
   ·rintro w' ⟨s0, s1, s2, s3, s4, s5⟩
    go_simp
    with_reducible rfl
   rotate_left
   ·ap_
    rfl
   refine take_ (i := 5) (N := some 19) (v := ?_) (a' := ?_) #[true, true, true, true, true, true, true, false, false, false, false, false, false, false] rfl rfl (take_ofW HT_.out HW_.out (by kernel_rfl)) (fun _ _ _ h => h) (Or.inl ⟨by rfl, ?_⟩) hHeld ?_ ?_
   rotate_left
   ·rintro w' ⟨s0, s1, s2, s3, s4, s5⟩
    go_simp
    with_reducible rfl
   rotate_left
   ·ap_
    rfl
   refine take_ (i := 7) (N := some 21) (v := ?_) (a' := ?_) #[true, true, true, true, true, true, true, true, false, false, false, false, false, false] rfl rfl (take_ofW HT_.out HW_.out (by kernel_rfl)) (fun _ _ _ h => h) (Or.inl ⟨by rfl, ?_⟩) hHeld ?_ ?_
   rotate_left
   ·rintro w' ⟨s0, s1, s2, s3, s4, s5⟩
    go_simp
    with_reducible rfl
   rotate_left
   ·ap_
    rfl
   refine join_ (σ := Nat × Nat) 4 #[true, true, true, true, true, true, true, true, true, true, false, false, false, false] (fun s_ => [(3, .pointer (some ⟨s_.1, 0, none⟩)), (4, .pointer (some ⟨s_.2, 0, none⟩))]) (fun s_ w' => (w'.cell? ⟨gb267, 0, none⟩ = some (.int .i64 a0_0) ∧ w'.cell? ⟨gb267, 1, none⟩ = some (.slice A0_1 l0_1.length c0_1) ∧ w'.cell? ⟨gb267, 2, none⟩ = some (.int .i64 a0_2) ∧ w'.cell? ⟨gb267, 3, none⟩ = some (.slice A0_3 l0_3.length c0_3) ∧ w'.cell? ⟨gb267, 4, none⟩ = some (.slice A0_4 l0_4.length c0_4) ∧ w'.cell? ⟨gb267, 5, none⟩ = some (.slice A0_5 l0_5.length c0_5)) ∧ (w'.heap[gb267]? = some (.cells ob0_ 43 (0, 0))) ∧ (w'.heap[s_.1]? = some (.cells #[.int .i64 0, .slice none 0 0] 24 (0, 0))) ∧ (w'.heap[s_.2]? = some (.cells #[.int .i64 0, .slice none 0 0] 24 (0, 0))) ∧ (w.heap.size ≤ s_.1) ∧ (w.heap.size ≤ s_.1) ∧ (gb267 ≠ s_.1) ∧ (s_.1 ≠ gb267) ∧ (s_.2 ≠ s_.1) ∧ (s_.1 ≠ s_.2) ∧ (w.heap.size ≤ s_.2) ∧ (w.heap.size ≤ s_.2) ∧ (gb267 ≠ s_.2) ∧ (s_.2 ≠ gb267) ∧ (Below w.heap.size w w')) ?_ ?_
   rotate_left
   ·intro hCont
    refine two_ (i := 8) (j := 9) (Ni := some 3) (Nj := some 4) #[true, true, true, true, true, true, true, true, true, false, false, false, false, false] #[true, true, true, true, true, true, true, true, false, true, false, false, false, false] rfl rfl rfl rfl (two_of HT_.out (by kernel_rfl)) (by decide) (by decide) (fun K hK => ?_) (fun K hK => ?_)
    ·skip
     refine box_step ?hg (N := 3) ?hd (cs := #[.int .i64 0, .slice none 0 0]) (t := 24) ?hr ?_; bx_
     intro gb269 hg w11 hbox hb
     have n0_ := Aside0.mk (blk_below (g := gb267) (o := .cells ob0_ 43 (0, 0)) (by bl_; exact BK267.out) hb)
     have n1_ := Aside0.mk (below_step (by be3_) hb)
     have n2_ := Aside0.mk (hbox)
     have n3_ := Aside0.mk ((by rw [hg]; exact (below_size (by be3_)) : w.heap.size ≤ gb269))
     have n4_ := Aside0.mk ((by rw [hg]; exact (below_size (by be3_)) : w.heap.size ≤ gb269))
     have n5_ := Aside0.mk ((by rw [hg]; exact Nat.ne_of_lt (blk_lt (g := gb267) (o := .cells ob0_ 43 (0, 0)) (by bl_; exact BK267.out)) : gb267 ≠ gb269))
     have n6_ := Aside0.mk ((by rw [hg]; exact Nat.ne_of_gt (blk_lt (g := gb267) (o := .cells ob0_ 43 (0, 0)) (by bl_; exact BK267.out)) : gb269 ≠ gb267))
     clear BK267
     clear HB
     have BK267 := n0_
     have HB := n1_
     have BK269 := n2_
     have GW269 := n3_
     have GE269 := n4_
     have NB267_269 := n5_
     have NB269_267 := n6_
     clear n0_ n1_ n2_ n3_ n4_ n5_ n6_
     clear hb hbox hg
     refine hK.out _ _ ⟨(blk_cell BK267.out 0).trans rfl, (blk_cell BK267.out 1).trans rfl, (blk_cell BK267.out 2).trans rfl, (blk_cell BK267.out 3).trans rfl, (blk_cell BK267.out 4).trans rfl, (blk_cell BK267.out 5).trans rfl⟩ (fun hHeld => ?_)
     clear hK K
     refine norm_ (a' := ?_) ?_ ?_
     rotate_left
     ·show Act.put _ (some 3) _ = _
      ap_
      rfl
     refine one_ (i := 9) (N := some 4) #[true, true, true, true, true, true, true, true, true, true, false, false, false, false] rfl rfl (one_of HT_.out (by kernel_rfl)) (by decide) (fun K hK => ?_)
     refine box_step ?hg (N := 4) ?hd (cs := #[.int .i64 0, .slice none 0 0]) (t := 24) ?hr ?_; bx_
     intro gb270 hg w12 hbox hb
     have n0_ := Aside0.mk (blk_below (g := gb267) (o := .cells ob0_ 43 (0, 0)) (by bl_; exact BK267.out) hb)
     have n1_ := Aside0.mk (blk_below (g := gb269) (o := .cells #[.int .i64 0, .slice none 0 0] 24 (0, 0)) (by bl_; exact BK269.out) hb)
     have n2_ := Aside0.mk (below_step (by be6_) hb)
     have n3_ := Aside0.mk (hbox)
     have n4_ := Aside0.mk ((by rw [hg]; exact (below_size (by be6_)) : w.heap.size ≤ gb270))
     have n5_ := Aside0.mk ((by rw [hg]; exact (below_size (by be6_)) : w.heap.size ≤ gb270))
     have n6_ := Aside0.mk ((by rw [hg]; exact Nat.ne_of_lt (blk_lt (g := gb267) (o := .cells ob0_ 43 (0, 0)) (by bl_; exact BK267.out)) : gb267 ≠ gb270))
     have n7_ := Aside0.mk ((by rw [hg]; exact Nat.ne_of_gt (blk_lt (g := gb267) (o := .cells ob0_ 43 (0, 0)) (by bl_; exact BK267.out)) : gb270 ≠ gb267))
     have n8_ := Aside0.mk ((by rw [hg]; exact Nat.ne_of_lt (blk_lt (g := gb269) (o := .cells #[.int .i64 0, .slice none 0 0] 24 (0, 0)) (by bl_; exact BK269.out)) : gb269 ≠ gb270))
     have n9_ := Aside0.mk ((by rw [hg]; exact Nat.ne_of_gt (blk_lt (g := gb269) (o := .cells #[.int .i64 0, .slice none 0 0] 24 (0, 0)) (by bl_; exact BK269.out)) : gb270 ≠ gb269))
     clear BK267
     clear BK269
     clear HB
     have BK267 := n0_
     have BK269 := n1_
     have HB := n2_
     have BK270 := n3_
     have GW270 := n4_
     have GE270 := n5_
     have NB267_270 := n6_
     have NB270_267 := n7_
     have NB269_270 := n8_
     have NB270_269 := n9_
     clear n0_ n1_ n2_ n3_ n4_ n5_ n6_ n7_ n8_ n9_
     clear hb hbox hg
     refine hK.out _ _ ⟨(blk_cell BK267.out 0).trans rfl, (blk_cell BK267.out 1).trans rfl, (blk_cell BK267.out 2).trans rfl, (blk_cell BK267.out 3).trans rfl, (blk_cell BK267.out 4).trans rfl, (blk_cell BK267.out 5).trans rfl⟩ (fun hHeld => ?_)
     clear hK K
     refine norm_ (a' := ?_) ?_ ?_
     rotate_left
     ·show Act.put _ (some 4) _ = _
      ap_
      rfl
     exact norm_ (by simp only [putAll, Act.put, List.setIfInBounds_toArray, List.set_cons_zero, List.set_cons_succ]) (hCont (gb269, gb270) _ ⟨hHeld, (by bl_; exact BK267.out), (by bl_; exact BK269.out), (by bl_; exact BK270.out), GW269.out, GE269.out, NB267_269.out, NB269_267.out, NB270_269.out, NB269_270.out, GW270.out, GE270.out, NB267_270.out, NB270_267.out, (by be2_)⟩)
    ·skip
     refine box_step ?hg (N := 4) ?hd (cs := #[.int .i64 0, .slice none 0 0]) (t := 24) ?hr ?_; bx_
     intro gb270 hg w11 hbox hb
     have n0_ := Aside0.mk (blk_below (g := gb267) (o := .cells ob0_ 43 (0, 0)) (by bl_; exact BK267.out) hb)
     have n1_ := Aside0.mk (below_step (by be3_) hb)
     have n2_ := Aside0.mk (hbox)
     have n3_ := Aside0.mk ((by rw [hg]; exact (below_size (by be3_)) : w.heap.size ≤ gb270))
     have n4_ := Aside0.mk ((by rw [hg]; exact (below_size (by be3_)) : w.heap.size ≤ gb270))
     have n5_ := Aside0.mk ((by rw [hg]; exact Nat.ne_of_lt (blk_lt (g := gb267) (o := .cells ob0_ 43 (0, 0)) (by bl_; exact BK267.out)) : gb267 ≠ gb270))
     have n6_ := Aside0.mk ((by rw [hg]; exact Nat.ne_of_gt (blk_lt (g := gb267) (o := .cells ob0_ 43 (0, 0)) (by bl_; exact BK267.out)) : gb270 ≠ gb267))
     clear BK267
     clear HB
     have BK267 := n0_
     have HB := n1_
     have BK270 := n2_
     have GW270 := n3_
     have GE270 := n4_
     have NB267_270 := n5_
     have NB270_267 := n6_
     clear n0_ n1_ n2_ n3_ n4_ n5_ n6_
     clear hb hbox hg
     refine hK.out _ _ ⟨(blk_cell BK267.out 0).trans rfl, (blk_cell BK267.out 1).trans rfl, (blk_cell BK267.out 2).trans rfl, (blk_cell BK267.out 3).trans rfl, (blk_cell BK267.out 4).trans rfl, (blk_cell BK267.out 5).trans rfl⟩ (fun hHeld => ?_)
     clear hK K
     refine norm_ (a' := ?_) ?_ ?_
     rotate_left
     ·show Act.put _ (some 4) _ = _
      ap_
      rfl
     refine one_ (i := 8) (N := some 3) #[true, true, true, true, true, true, true, true, true, true, false, false, false, false] rfl rfl (one_of HT_.out (by kernel_rfl)) (by decide) (fun K hK => ?_)
     refine box_step ?hg (N := 3) ?hd (cs := #[.int .i64 0, .slice none 0 0]) (t := 24) ?hr ?_; bx_
     intro gb269 hg w12 hbox hb
     have n0_ := Aside0.mk (blk_below (g := gb267) (o := .cells ob0_ 43 (0, 0)) (by bl_; exact BK267.out) hb)
     have n1_ := Aside0.mk (blk_below (g := gb270) (o := .cells #[.int .i64 0, .slice none 0 0] 24 (0, 0)) (by bl_; exact BK270.out) hb)
     have n2_ := Aside0.mk (below_step (by be7_) hb)
     have n3_ := Aside0.mk (hbox)
     have n4_ := Aside0.mk ((by rw [hg]; exact (below_size (by be7_)) : w.heap.size ≤ gb269))
     have n5_ := Aside0.mk ((by rw [hg]; exact (below_size (by be7_)) : w.heap.size ≤ gb269))
     have n6_ := Aside0.mk ((by rw [hg]; exact Nat.ne_of_lt (blk_lt (g := gb267) (o := .cells ob0_ 43 (0, 0)) (by bl_; exact BK267.out)) : gb267 ≠ gb269))
     have n7_ := Aside0.mk ((by rw [hg]; exact Nat.ne_of_gt (blk_lt (g := gb267) (o := .cells ob0_ 43 (0, 0)) (by bl_; exact BK267.out)) : gb269 ≠ gb267))
     have n8_ := Aside0.mk ((by rw [hg]; exact Nat.ne_of_lt (blk_lt (g := gb270) (o := .cells #[.int .i64 0, .slice none 0 0] 24 (0, 0)) (by bl_; exact BK270.out)) : gb270 ≠ gb269))
     have n9_ := Aside0.mk ((by rw [hg]; exact Nat.ne_of_gt (blk_lt (g := gb270) (o := .cells #[.int .i64 0, .slice none 0 0] 24 (0, 0)) (by bl_; exact BK270.out)) : gb269 ≠ gb270))
     clear BK267
     clear BK270
     clear HB
     have BK267 := n0_
     have BK270 := n1_
     have HB := n2_
     have BK269 := n3_
     have GW269 := n4_
     have GE269 := n5_
     have NB267_269 := n6_
     have NB269_267 := n7_
     have NB270_269 := n8_
     have NB269_270 := n9_
     clear n0_ n1_ n2_ n3_ n4_ n5_ n6_ n7_ n8_ n9_
     clear hb hbox hg
     refine hK.out _ _ ⟨(blk_cell BK267.out 0).trans rfl, (blk_cell BK267.out 1).trans rfl, (blk_cell BK267.out 2).trans rfl, (blk_cell BK267.out 3).trans rfl, (blk_cell BK267.out 4).trans rfl, (blk_cell BK267.out 5).trans rfl⟩ (fun hHeld => ?_)
     clear hK K
     refine norm_ (a' := ?_) ?_ ?_
     rotate_left
     ·show Act.put _ (some 3) _ = _
      ap_
      rfl
     exact norm_ (by simp only [putAll, Act.put, List.setIfInBounds_toArray, List.set_cons_zero, List.set_cons_succ]) (hCont (gb269, gb270) _ ⟨hHeld, (by bl_; exact BK267.out), (by bl_; exact BK269.out), (by bl_; exact BK270.out), GW269.out, GE269.out, NB267_269.out, NB269_267.out, NB270_269.out, NB269_270.out, GW270.out, GE270.out, NB267_270.out, NB270_267.out, (by be8_)⟩)
   rintro ⟨gb269, gb270⟩ w13 ⟨hS_, h0_, h1_, h2_, h3_, h4_, h5_, h6_, h7_, h8_, h9_, h10_, h11_, h12_, h13_⟩
   have n0_ : Aside0 (w13.heap[gb267]? = some (.cells ob0_ 43 (0, 0))) := ⟨h0_⟩
   have n1_ : Aside0 (w13.heap[gb269]? = some (.cells #[.int .i64 0, .slice none 0 0] 24 (0, 0))) := ⟨h1_⟩
   have n2_ : Aside0 (w13.heap[gb270]? = some (.cells #[.int .i64 0, .slice none 0 0] 24 (0, 0))) := ⟨h2_⟩
   have n3_ : Aside0 (w.heap.size ≤ gb269) := ⟨h3_⟩
   have n4_ : Aside0 (w.heap.size ≤ gb269) := ⟨h4_⟩
   have n5_ : Aside0 (gb267 ≠ gb269) := ⟨h5_⟩
   have n6_ : Aside0 (gb269 ≠ gb267) := ⟨h6_⟩
   have n7_ : Aside0 (gb270 ≠ gb269) := ⟨h7_⟩
   have n8_ : Aside0 (gb269 ≠ gb270) := ⟨h8_⟩
   have n9_ : Aside0 (w.heap.size ≤ gb270) := ⟨h9_⟩
   have n10_ : Aside0 (w.heap.size ≤ gb270) := ⟨h10_⟩
   have n11_ : Aside0 (gb267 ≠ gb270) := ⟨h11_⟩
   have n12_ : Aside0 (gb270 ≠ gb267) := ⟨h12_⟩
   have n13_ : Aside0 (Below w.heap.size w w13) := ⟨h13_⟩
   clear BK267
   clear HB
   clear h0_ h1_ h2_ h3_ h4_ h5_ h6_ h7_ h8_ h9_ h10_ h11_ h12_ h13_
   have BK267 := n0_
   have BK269 := n1_
   have BK270 := n2_
   have GW269 := n3_
   have GE269 := n4_
   have NB267_269 := n5_
   have NB269_267 := n6_
   have NB270_269 := n7_
   have NB269_270 := n8_
   have GW270 := n9_
   have GE270 := n10_
   have NB267_270 := n11_
   have NB270_267 := n12_
   have HB := n13_
   clear n0_ n1_ n2_ n3_ n4_ n5_ n6_ n7_ n8_ n9_ n10_ n11_ n12_ n13_
   have hHeld : w13.cell? ⟨gb267, 0, none⟩ = some (.int .i64 a0_0) ∧ w13.cell? ⟨gb267, 1, none⟩ = some (.slice A0_1 l0_1.length c0_1) ∧ w13.cell? ⟨gb267, 2, none⟩ = some (.int .i64 a0_2) ∧ w13.cell? ⟨gb267, 3, none⟩ = some (.slice A0_3 l0_3.length c0_3) ∧ w13.cell? ⟨gb267, 4, none⟩ = some (.slice A0_4 l0_4.length c0_4) ∧ w13.cell? ⟨gb267, 5, none⟩ = some (.slice A0_5 l0_5.length c0_5) := hS_
   refine norm_ (a' := ?_) ?_ ?_
   rotate_left
   ·simp only [putAll, Act.put, List.setIfInBounds_toArray, List.set_cons_zero, List.set_cons_succ]
    rfl
   refine one_ (i := 10) (N := none) #[true, true, true, true, true, true, true, true, true, true, true, false, false, false] rfl rfl (one_of HT_.out (by kernel_rfl)) (by decide) (fun K hK => ?_)
   have hs14 : w13.cell? ⟨gb269, 0, none⟩ = some (.int .i64 0) := (blk_cell BK269.out 0).trans rfl
   have hfs14 := blk_frozen BK269.out 0
   have hns14_0 := NB267_269.out
   have hns14_2 := NB270_269.out
   have hms14_0 := NB269_267.out
   have hms14_2 := NB269_270.out
   have hs15 : w13.cell? ⟨gb269, 1, none⟩ = some (.slice none 0 0) := (blk_cell BK269.out 1).trans rfl
   have hfs15 := blk_frozen BK269.out 1
   have hns15_0 := NB267_269.out
   have hns15_2 := NB270_269.out
   have hms15_0 := NB269_267.out
   have hms15_2 := NB269_270.out
   refine skip_ (w1 := ?_) (by rfl) rfl ?_ ?_
   rotate_left
   ·go_simp
    rfl
   refine hK.out _ _ ⟨((cell_far (p := ⟨gb269, _, none⟩) NB267_269.out _).trans (((cell_far (p := ⟨gb269, _, none⟩) NB267_269.out _).trans (hHeld.1)))), ((cell_far (p := ⟨gb269, _, none⟩) NB267_269.out _).trans (((cell_far (p := ⟨gb269, _, none⟩) NB267_269.out _).trans (hHeld.2.1)))), ((cell_far (p := ⟨gb269, _, none⟩) NB267_269.out _).trans (((cell_far (p := ⟨gb269, _, none⟩) NB267_269.out _).trans (hHeld.2.2.1)))), ((cell_far (p := ⟨gb269, _, none⟩) NB267_269.out _).trans (((cell_far (p := ⟨gb269, _, none⟩) NB267_269.out _).trans (hHeld.2.2.2.1)))), ((cell_far (p := ⟨gb269, _, none⟩) NB267_269.out _).trans (((cell_far (p := ⟨gb269, _, none⟩) NB267_269.out _).trans (hHeld.2.2.2.2.1)))), ((cell_far (p := ⟨gb269, _, none⟩) NB267_269.out _).trans (((cell_far (p := ⟨gb269, _, none⟩) NB267_269.out _).trans (hHeld.2.2.2.2.2))))⟩ (fun hHeld => ?_)
   clear hK K
   refine one_ (i := 11) (N := none) #[true, true, true, true, true, true, true, true, true, true, true, true, false, false] rfl rfl (one_of HT_.out (by kernel_rfl)) (by decide) (fun K hK => ?_)
   have hs16 : w13.cell? ⟨gb270, 0, none⟩ = some (.int .i64 0) := (blk_cell BK270.out 0).trans rfl
   have hfs16 := blk_frozen BK270.out 0
   have hns16_0 := NB267_270.out
   have hns16_1 := NB269_270.out
   have hms16_0 := NB270_267.out
   have hms16_1 := NB270_269.out
   have hs17 : w13.cell? ⟨gb270, 1, none⟩ = some (.slice none 0 0) := (blk_cell BK270.out 1).trans rfl
   have hfs17 := blk_frozen BK270.out 1
   have hns17_0 := NB267_270.out
   have hns17_1 := NB269_270.out
   have hms17_0 := NB270_267.out
   have hms17_1 := NB270_269.out
   refine skip_ (w1 := ?_) (by rfl) rfl ?_ ?_
   rotate_left
   ·go_simp
    rfl
   refine hK.out _ _ ⟨((cell_far (p := ⟨gb270, _, none⟩) NB267_270.out _).trans (((cell_far (p := ⟨gb270, _, none⟩) NB267_270.out _).trans (hHeld.1)))), ((cell_far (p := ⟨gb270, _, none⟩) NB267_270.out _).trans (((cell_far (p := ⟨gb270, _, none⟩) NB267_270.out _).trans (hHeld.2.1)))), ((cell_far (p := ⟨gb270, _, none⟩) NB267_270.out _).trans (((cell_far (p := ⟨gb270, _, none⟩) NB267_270.out _).trans (hHeld.2.2.1)))), ((cell_far (p := ⟨gb270, _, none⟩) NB267_270.out _).trans (((cell_far (p := ⟨gb270, _, none⟩) NB267_270.out _).trans (hHeld.2.2.2.1)))), ((cell_far (p := ⟨gb270, _, none⟩) NB267_270.out _).trans (((cell_far (p := ⟨gb270, _, none⟩) NB267_270.out _).trans (hHeld.2.2.2.2.1)))), ((cell_far (p := ⟨gb270, _, none⟩) NB267_270.out _).trans (((cell_far (p := ⟨gb270, _, none⟩) NB267_270.out _).trans (hHeld.2.2.2.2.2))))⟩ (fun hHeld => ?_)
   clear hK K
   refine pure_ (i := 12) (N := some 5) (v := ?_) (a' := ?_) #[true, true, true, true, true, true, true, true, true, true, true, true, true, false] rfl rfl an_ (fun _ _ _ h => h) (Or.inl ⟨by rfl, ?_⟩) ?_ ?_
   rotate_left
   ·intro w'
    go_simp
    with_reducible rfl
   rotate_left
   ·ap_
    rfl
   refine pure_ (i := 13) (N := some 6) (v := ?_) (a' := ?_) #[true, true, true, true, true, true, true, true, true, true, true, true, true, true] rfl rfl an_ (fun _ _ _ h => h) (Or.inl ⟨by rfl, ?_⟩) ?_ ?_
   rotate_left
   ·intro w'
    go_simp
    with_reducible rfl
   rotate_left
   ·ap_
    rfl
   refine done_ (done_of HT_.out (by kernel_rfl)) ?_
   have hnb18 := NB269_267.out
   have hnc18 := NB267_269.out
   have hnb19 := NB269_270.out
   have hnc19 := NB270_269.out
   have hcz20_0 : w13.cell? ⟨gb269, 0, none⟩ = some (.int .i64 0) := (blk_cell BK269.out 0).trans rfl
   have hcz20_1 : w13.cell? ⟨gb269, 1, none⟩ = some (.slice none 0 0) := (blk_cell BK269.out 1).trans rfl
   have hfz20_0 := blk_frozen BK269.out 0
   have hfz20_1 := blk_frozen BK269.out 1
   go_upto_region 7 with (first | ((with_reducible refine gate_callee (f := 17) rfl ?_); refine goesL_ (some 23) rfl rfl Tryd.func17 (by kernel_rfl) rfl #[.agg ob1_] rfl (by lm_) ?_; (with_reducible refine (cnf_Formed.calls k a0_0 _ _ l0_1 true _ ?side1 ?side2 A4.out).mono ?_); (case side1 => exact Kd.C_below HR0_1.out (by be2_)); (case side2 => exact HC0_1.out); rintro e w21 ⟨rfl, hb⟩; refine ⟨_, rfl, ?_⟩; have n0_ := Aside0.mk (blk_below (g := gb267) (o := .cells ob0_ 43 (0, 0)) (by bl_; refine blk_far ?_ NB267_270.out _; bl_; refine blk_far ?_ NB267_270.out _; bl_; refine blk_far ?_ NB267_269.out _; bl_; refine blk_far ?_ NB267_269.out _; bl_; exact BK267.out) hb); have n1_ := Aside0.mk (blk_below (g := gb269) (o := .cells ob1_ 24 (0, 0)) (by bl_; refine blk_far ?_ NB269_270.out _; bl_; refine blk_far ?_ NB269_270.out _; bl_; refine blk_put (cs := #[.int .i64 a0_0, .slice none 0 0]) ?_ 1 _ rfl; bl_; refine blk_put (cs := #[.int .i64 0, .slice none 0 0]) ?_ 0 _ rfl; bl_; exact BK269.out) hb); have n2_ := Aside0.mk (blk_below (g := gb270) (o := .cells ob2_ 24 (0, 0)) (by bl_; refine blk_put (cs := #[.int .i64 a0_2, .slice none 0 0]) ?_ 1 _ rfl; bl_; refine blk_put (cs := #[.int .i64 0, .slice none 0 0]) ?_ 0 _ rfl; bl_; refine blk_far ?_ NB270_269.out _; bl_; refine blk_far ?_ NB270_269.out _; bl_; exact BK270.out) hb); have n3_ := Aside0.mk (below_step (by be2_) hb); clear BK267; clear BK269; clear BK270; clear HB; have BK267 := n0_; have BK269 := n1_; have BK270 := n2_; have HB := n3_; clear n0_ n1_ n2_ n3_; (try clear hb); (try clear hb2); (try clear hk); (try clear hi); have hcz22_0 : w21.cell? ⟨gb269, 0, none⟩ = some (.int .i64 a0_0) := (blk_cell BK269.out 0).trans rfl; have hcz22_1 : w21.cell? ⟨gb269, 1, none⟩ = some (.slice A0_1 l0_1.length c0_1) := (blk_cell BK269.out 1).trans rfl; have hfz22_0 := blk_frozen BK269.out 0; have hfz22_1 := blk_frozen BK269.out 1) | ((with_reducible refine gate_callee (f := 6) rfl ?_); refine goesL_ (some 27) rfl rfl Tryd.func6 (by kernel_rfl) rfl #[.agg ob1_] rfl (by lm_) ?_; (with_reducible refine (cnf_Tidy.calls k a0_0 _ _ l0_1 t272 t273 t276 _ ?side1 ?side2 A6.out ?sideT).mono ?_); (case sideT => exact Go.Proofs.YtggnnnddnppcpaaDoorHand.Tab.on HTB.out HB.out); (case side1 => repeat (first | exact (Kd.C_below HR0_1.out HB.out) | (with_reducible refine Kd.C_alloc ?_ _) | (with_reducible refine Kd.C_drewN ?_ _) | (with_reducible refine Kd.C_drew ?_))); (case side2 => exact HC0_1.out); rintro e w23 ⟨v274, rfl, ho0, hb⟩; refine ⟨_, rfl, ?_⟩; have n0_ := Aside0.mk (Kd.S_lower ho0 (below_size (by be2_))); have n1_ := Aside0.mk (blk_below (g := gb267) (o := .cells ob0_ 43 (0, 0)) (by bl_; exact BK267.out) hb); have n2_ := Aside0.mk (blk_below (g := gb269) (o := .cells ob1_ 24 (0, 0)) (by bl_; exact BK269.out) hb); have n3_ := Aside0.mk (blk_below (g := gb270) (o := .cells ob2_ 24 (0, 0)) (by bl_; exact BK270.out) hb); have n4_ := Aside0.mk (below_step (by be2_) hb); clear BK267; clear BK269; clear BK270; clear HB; have HO275 := n0_; have BK267 := n1_; have BK269 := n2_; have BK270 := n3_; have HB := n4_; clear n0_ n1_ n2_ n3_ n4_; ch_) | ((with_reducible refine gate_dst (N := 7) rfl ?_); refine box_event ?hg (N := 7) ?hd (cs := #[.int .i64 0, .slice none 0 0]) (t := 24) ?hr ?_; bx_; intro gb277 hg w24 hbox hb; have n0_ := Aside0.mk (Kd.S_below (by sl_; exact HO275.out) hb); have n1_ := Aside0.mk (blk_below (g := gb267) (o := .cells ob0_ 43 (0, 0)) (by bl_; exact BK267.out) hb); have n2_ := Aside0.mk (blk_below (g := gb269) (o := .cells ob1_ 24 (0, 0)) (by bl_; exact BK269.out) hb); have n3_ := Aside0.mk (blk_below (g := gb270) (o := .cells ob2_ 24 (0, 0)) (by bl_; exact BK270.out) hb); have n4_ := Aside0.mk (below_step (by be2_) hb); have n5_ := Aside0.mk (hbox); have n6_ := Aside0.mk ((by rw [hg]; exact (below_size (by be2_)) : w.heap.size ≤ gb277)); have n7_ := Aside0.mk ((by rw [hg]; exact (below_size (by be2_)) : w.heap.size ≤ gb277)); have n8_ := Aside0.mk ((by rw [hg]; exact Nat.ne_of_lt (blk_lt (g := gb267) (o := .cells ob0_ 43 (0, 0)) (by bl_; exact BK267.out)) : gb267 ≠ gb277)); have n9_ := Aside0.mk ((by rw [hg]; exact Nat.ne_of_gt (blk_lt (g := gb267) (o := .cells ob0_ 43 (0, 0)) (by bl_; exact BK267.out)) : gb277 ≠ gb267)); have n10_ := Aside0.mk ((by rw [hg]; exact Nat.ne_of_lt (blk_lt (g := gb269) (o := .cells ob1_ 24 (0, 0)) (by bl_; exact BK269.out)) : gb269 ≠ gb277)); have n11_ := Aside0.mk ((by rw [hg]; exact Nat.ne_of_gt (blk_lt (g := gb269) (o := .cells ob1_ 24 (0, 0)) (by bl_; exact BK269.out)) : gb277 ≠ gb269)); have n12_ := Aside0.mk ((by rw [hg]; exact Nat.ne_of_lt (blk_lt (g := gb270) (o := .cells ob2_ 24 (0, 0)) (by bl_; exact BK270.out)) : gb270 ≠ gb277)); have n13_ := Aside0.mk ((by rw [hg]; exact Nat.ne_of_gt (blk_lt (g := gb270) (o := .cells ob2_ 24 (0, 0)) (by bl_; exact BK270.out)) : gb277 ≠ gb270)); clear HO275; clear BK267; clear BK269; clear BK270; clear HB; have HO275 := n0_; have BK267 := n1_; have BK269 := n2_; have BK270 := n3_; have HB := n4_; have BK277 := n5_; have GW277 := n6_; have GE277 := n7_; have NB267_277 := n8_; have NB277_267 := n9_; have NB269_277 := n10_; have NB277_269 := n11_; have NB270_277 := n12_; have NB277_270 := n13_; clear n0_ n1_ n2_ n3_ n4_ n5_ n6_ n7_ n8_ n9_ n10_ n11_ n12_ n13_; clear hb hbox hg; have hnb25 := NB277_267.out; have hnc25 := NB267_277.out; have hnb26 := NB277_269.out; have hnc26 := NB269_277.out; have hnb27 := NB277_270.out; have hnc27 := NB270_277.out; have hcz28_0 : w24.cell? ⟨gb277, 0, none⟩ = some (.int .i64 0) := (blk_cell BK277.out 0).trans rfl; have hcz28_1 : w24.cell? ⟨gb277, 1, none⟩ = some (.slice none 0 0) := (blk_cell BK277.out 1).trans rfl; have hfz28_0 := blk_frozen BK277.out 0; have hfz28_1 := blk_frozen BK277.out 1; obtain ⟨Ao29, co29, eo29⟩ := Kd.S_slice HO275.out; subst eo29))
   (try simp only [Act.put, List.setIfInBounds_toArray, List.set_cons_zero, List.set_cons_succ])
   go_cut [40] (fun v40 wc => ∃ (kq : Nat) (x40_6 : Bool), v40 = .bool x40_6 ∧ Aside0 (depotlaw02_CnfMeans.j0 kq l0_4 l0_5 x40_6 a0_0 l0_1 a0_2 l0_3 = some r) ∧ Aside0 (kq ≤ k) ∧ Aside0 (Kd.S (Kd.slice 3 (Kd.int .i64)) 40 wc w.heap.size (fun _ => True) (.slice Ao29 t273.length co29) t273) ∧ Aside0 (wc.heap[gb267]? = some (.cells #[.int .i64 a0_0, (.slice A0_1 l0_1.length c0_1), .int .i64 a0_2, (.slice A0_3 l0_3.length c0_3), (.slice A0_4 l0_4.length c0_4), (.slice A0_5 l0_5.length c0_5)] 43 (0, 0))) ∧ Aside0 (wc.heap[gb269]? = some (.cells #[.int .i64 a0_0, (.slice A0_1 l0_1.length c0_1)] 24 (0, 0))) ∧ Aside0 (wc.heap[gb270]? = some (.cells #[.int .i64 a0_2, (.slice A0_3 l0_3.length c0_3)] 24 (0, 0))) ∧ Aside0 (wc.heap[gb277]? = some (.cells #[.int .i64 t272, (.slice Ao29 t273.length co29)] 24 (0, 0))) ∧ Aside0 (Below w.heap.size w wc))
   case first =>
    have H := HC7.out
    clear HC7
    by_cases c30 : t276 = 0
    ·rw [if_pos c30] at H
     have c30b0 : (t276 == 0) = true := beq_iff_eq.mpr c30
     have c30b1 : (t276 != 0) = false := bne_eq_false_iff_eq.mpr c30
     clear c30
     (first | rw [c30b0] | (simp only [i64_w, i32_w]; rw [c30b0]) | skip)
     replace H := Option.bind_eq_some_iff.mp H
     obtain ⟨t278, A310, H⟩ := H
     replace H : ((cnf_Satisfies.f k a0_0 l0_1 l0_5).bind fun t279 => (depotlaw02_CnfMeans.j0 k l0_4 l0_5 (t278 != t279) a0_0 l0_1 a0_2 l0_3)) = some r := H
     have A31 := Aside0.mk A310
     clear A310
     replace H := Option.bind_eq_some_iff.mp H
     obtain ⟨t279, A320, H⟩ := H
     replace H : (depotlaw02_CnfMeans.j0 k l0_4 l0_5 (t278 != t279) a0_0 l0_1 a0_2 l0_3) = some r := H
     have A32 := Aside0.mk A320
     clear A320
     have H' := Aside0.mk H
     clear H
     try go_wp2
     have n0_ : Aside0 (Kd.S (Kd.slice 3 (Kd.int .i64)) 40 ((w24.setCell ⟨gb277, 0, none⟩ (.int .i64 t272)).setCell ⟨gb277, 1, none⟩ (.slice Ao29 t273.length co29)) w.heap.size (fun _ => True) (.slice Ao29 t273.length co29) t273) := ⟨by sl_; exact Kd.S_mono (Kd.S_far (p := ⟨gb277, 1, none⟩) (Kd.S_far (p := ⟨gb277, 0, none⟩) (Kd.S_types HO275.out BK277.out (by decide)) (fun _ hk => hk.2) (.int .i64 t272)) (fun _ hk => hk.2) (.slice Ao29 t273.length co29)) (fun _ hk => trivial)⟩
     have n1_ : Aside0 (((w24.setCell ⟨gb277, 0, none⟩ (.int .i64 t272)).setCell ⟨gb277, 1, none⟩ (.slice Ao29 t273.length co29)).heap[gb267]? = some (.cells ob0_ 43 (0, 0))) := ⟨by bl_; refine blk_far ?_ NB267_277.out _; bl_; refine blk_far ?_ NB267_277.out _; bl_; exact BK267.out⟩
     have n2_ : Aside0 (((w24.setCell ⟨gb277, 0, none⟩ (.int .i64 t272)).setCell ⟨gb277, 1, none⟩ (.slice Ao29 t273.length co29)).heap[gb269]? = some (.cells ob1_ 24 (0, 0))) := ⟨by bl_; refine blk_far ?_ NB269_277.out _; bl_; refine blk_far ?_ NB269_277.out _; bl_; exact BK269.out⟩
     have n3_ : Aside0 (((w24.setCell ⟨gb277, 0, none⟩ (.int .i64 t272)).setCell ⟨gb277, 1, none⟩ (.slice Ao29 t273.length co29)).heap[gb270]? = some (.cells ob2_ 24 (0, 0))) := ⟨by bl_; refine blk_far ?_ NB270_277.out _; bl_; refine blk_far ?_ NB270_277.out _; bl_; exact BK270.out⟩
     have n4_ : Aside0 (((w24.setCell ⟨gb277, 0, none⟩ (.int .i64 t272)).setCell ⟨gb277, 1, none⟩ (.slice Ao29 t273.length co29)).heap[gb277]? = some (.cells ob3_ 24 (0, 0))) := ⟨by bl_; refine blk_put (cs := #[.int .i64 t272, .slice none 0 0]) ?_ 1 _ rfl; bl_; refine blk_put (cs := #[.int .i64 0, .slice none 0 0]) ?_ 0 _ rfl; bl_; exact BK277.out⟩
     have n5_ : Aside0 (Below w.heap.size w ((w24.setCell ⟨gb277, 0, none⟩ (.int .i64 t272)).setCell ⟨gb277, 1, none⟩ (.slice Ao29 t273.length co29))) := ⟨by be0_⟩
     (try clear HO275)
     (try clear BK267)
     (try clear BK269)
     (try clear BK270)
     (try clear BK277)
     (try clear HB)
     generalize ((w24.setCell ⟨gb277, 0, none⟩ (.int .i64 t272)).setCell ⟨gb277, 1, none⟩ (.slice Ao29 t273.length co29)) = w33 at n0_ n1_ n2_ n3_ n4_ n5_ ⊢
     have HO275 := n0_
     have BK267 := n1_
     have BK269 := n2_
     have BK270 := n3_
     have BK277 := n4_
     have HB := n5_
     clear n0_ n1_ n2_ n3_ n4_ n5_
     have n0_ := Aside0.mk (Kd.S_drew HO275.out)
     have n1_ := Aside0.mk (blk_drew BK267.out)
     have n2_ := Aside0.mk (blk_drew BK269.out)
     have n3_ := Aside0.mk (blk_drew BK270.out)
     have n4_ := Aside0.mk (blk_drew BK277.out)
     have n5_ := Aside0.mk (below_drew1 HB.out)
     clear HO275
     clear BK267
     clear BK269
     clear BK270
     clear BK277
     clear HB
     have HO275 := n0_
     have BK267 := n1_
     have BK269 := n2_
     have BK270 := n3_
     have BK277 := n4_
     have HB := n5_
     clear n0_ n1_ n2_ n3_ n4_ n5_
     refine start_ (n := 11) (S := fun w' => w'.cell? ⟨gb277, 0, none⟩ = some (.int .i64 t272) ∧ w'.cell? ⟨gb277, 1, none⟩ = some (.slice Ao29 t273.length co29) ∧ w'.cell? ⟨gb269, 0, none⟩ = some (.int .i64 a0_0) ∧ w'.cell? ⟨gb269, 1, none⟩ = some (.slice A0_1 l0_1.length c0_1)) (ds := []) #[false, false, false, false, false, false, false, false, false, false, false] (by kernel_rfl) rfl rfl ⟨(blk_cell BK277.out 0).trans rfl, (blk_cell BK277.out 1).trans rfl, (blk_cell BK269.out 0).trans rfl, (blk_cell BK269.out 1).trans rfl⟩ (fun hHeld => ?_); refine with_tabW depotlaw02_CnfMeans.tab7 depotlaw02_CnfMeans.bits7 (fun HT_ HW_ => ?_)
     generalize w33.drew = w34 at HO275 BK267 BK269 BK270 BK277 HB hHeld ⊢
     refine pure_ (i := 0) (N := some 30) (v := ?_) (a' := ?_) #[true, false, false, false, false, false, false, false, false, false, false] rfl rfl an_ (fun _ _ _ h => h) (Or.inl ⟨by rfl, ?_⟩) ?_ ?_
     rotate_left
     ·intro w'
      go_simp
      with_reducible rfl
     rotate_left
     ·ap_
      rfl
     refine pure_ (i := 1) (N := some 31) (v := ?_) (a' := ?_) #[true, true, false, false, false, false, false, false, false, false, false] rfl rfl an_ (fun _ _ _ h => h) (Or.inl ⟨by rfl, ?_⟩) ?_ ?_
     rotate_left
     ·intro w'
      go_simp
      with_reducible rfl
     rotate_left
     ·ap_
      rfl
     refine pure_ (i := 2) (N := some 32) (v := ?_) (a' := ?_) #[true, true, true, false, false, false, false, false, false, false, false] rfl rfl an_ (fun _ _ _ h => h) (Or.inl ⟨by rfl, ?_⟩) ?_ ?_
     rotate_left
     ·intro w'
      go_simp
      with_reducible rfl
     rotate_left
     ·ap_
      rfl
     refine pure_ (i := 4) (N := some 34) (v := ?_) (a' := ?_) #[true, true, true, false, true, false, false, false, false, false, false] rfl rfl an_ (fun _ _ _ h => h) (Or.inl ⟨by rfl, ?_⟩) ?_ ?_
     rotate_left
     ·intro w'
      go_simp
      with_reducible rfl
     rotate_left
     ·ap_
      rfl
     refine pure_ (i := 7) (N := some 37) (v := ?_) (a' := ?_) #[true, true, true, false, true, false, false, true, false, false, false] rfl rfl an_ (fun _ _ _ h => h) (Or.inl ⟨by rfl, ?_⟩) ?_ ?_
     rotate_left
     ·intro w'
      go_simp
      with_reducible rfl
     rotate_left
     ·ap_
      rfl
     refine take_ (i := 3) (N := some 33) (v := ?_) (a' := ?_) #[true, true, true, true, true, false, false, true, false, false, false] rfl rfl (take_ofW HT_.out HW_.out (by kernel_rfl)) (fun _ _ _ h => h) (Or.inl ⟨by rfl, ?_⟩) hHeld ?_ ?_
     rotate_left
     ·rintro w' ⟨s0, s1, s2, s3⟩
      go_simp
      with_reducible rfl
     rotate_left
     ·ap_
      rfl
     refine take_ (i := 6) (N := some 36) (v := ?_) (a' := ?_) #[true, true, true, true, true, false, true, true, false, false, false] rfl rfl (take_ofW HT_.out HW_.out (by kernel_rfl)) (fun _ _ _ h => h) (Or.inl ⟨by rfl, ?_⟩) hHeld ?_ ?_
     rotate_left
     ·rintro w' ⟨s0, s1, s2, s3⟩
      go_simp
      with_reducible rfl
     rotate_left
     ·ap_
      rfl
     refine one_ (i := 5) (N := some 35) #[true, true, true, true, true, true, true, true, false, false, false] rfl rfl (one_of HT_.out (by kernel_rfl)) (by decide) (fun K hK => ?_)
     refine goes_ Tryd.func18 (by kernel_rfl) rfl #[.agg ob3_, .slice A0_5 l0_5.length c0_5] (by rfl) rfl rfl (by lm_) ?_
     with_reducible refine (cnf_Satisfies.calls k t272 _ _ t273 _ _ l0_5 t278 _ ?side1 ?side2 ?side3 ?side4 A31.out).mono ?_
     (case side1 => repeat (first | exact (Kd.S_reads' HO275.out).2.2 | (with_reducible refine Kd.C_alloc ?_ _) | (with_reducible refine Kd.C_drewN ?_ _) | (with_reducible refine Kd.C_drew ?_)))
     (case side2 => exact (Kd.S_reads' HO275.out).2.1)
     (case side3 => repeat (first | exact (Kd.C_below HR0_5.out HB.out) | (with_reducible refine Kd.C_alloc ?_ _) | (with_reducible refine Kd.C_drewN ?_ _) | (with_reducible refine Kd.C_drew ?_)))
     (case side4 => exact HC0_5.out)
     rintro e w35 ⟨rfl, hb⟩
     refine ⟨_, rfl, ?_⟩
     have n0_ := Aside0.mk (Kd.S_below (by sl_; exact HO275.out) hb)
     have n1_ := Aside0.mk (blk_below (g := gb267) (o := .cells ob0_ 43 (0, 0)) (by bl_; exact BK267.out) hb)
     have n2_ := Aside0.mk (blk_below (g := gb269) (o := .cells ob1_ 24 (0, 0)) (by bl_; exact BK269.out) hb)
     have n3_ := Aside0.mk (blk_below (g := gb270) (o := .cells ob2_ 24 (0, 0)) (by bl_; exact BK270.out) hb)
     have n4_ := Aside0.mk (blk_below (g := gb277) (o := .cells ob3_ 24 (0, 0)) (by bl_; exact BK277.out) hb)
     have n5_ := Aside0.mk (below_step (by be0_) hb)
     clear HO275
     clear BK267
     clear BK269
     clear BK270
     clear BK277
     clear HB
     have HO275 := n0_
     have BK267 := n1_
     have BK269 := n2_
     have BK270 := n3_
     have BK277 := n4_
     have HB := n5_
     clear n0_ n1_ n2_ n3_ n4_ n5_
     (try clear hb)
     (try clear hb2)
     (try clear hk)
     (try clear hi)
     refine hK.out _ _ ⟨(blk_cell BK277.out 0).trans rfl, (blk_cell BK277.out 1).trans rfl, (blk_cell BK269.out 0).trans rfl, (blk_cell BK269.out 1).trans rfl⟩ (fun hHeld => ?_)
     clear hK K
     refine norm_ (a' := ?_) ?_ ?_
     rotate_left
     ·show Act.put _ (some 35) _ = _
      ap_
      rfl
     refine one_ (i := 8) (N := some 38) #[true, true, true, true, true, true, true, true, true, false, false] rfl rfl (one_of HT_.out (by kernel_rfl)) (by decide) (fun K hK => ?_)
     refine goes_ Tryd.func18 (by kernel_rfl) rfl #[.agg ob1_, .slice A0_5 l0_5.length c0_5] (by rfl) rfl rfl (by lm_) ?_
     with_reducible refine (cnf_Satisfies.calls k a0_0 _ _ l0_1 _ _ l0_5 t279 _ ?side1 ?side2 ?side3 ?side4 A32.out).mono ?_
     (case side1 => repeat (first | exact (Kd.C_below HR0_1.out HB.out) | (with_reducible refine Kd.C_alloc ?_ _) | (with_reducible refine Kd.C_drewN ?_ _) | (with_reducible refine Kd.C_drew ?_)))
     (case side2 => exact HC0_1.out)
     (case side3 => repeat (first | exact (Kd.C_below HR0_5.out HB.out) | (with_reducible refine Kd.C_alloc ?_ _) | (with_reducible refine Kd.C_drewN ?_ _) | (with_reducible refine Kd.C_drew ?_)))
     (case side4 => exact HC0_5.out)
     rintro e w36 ⟨rfl, hb⟩
     refine ⟨_, rfl, ?_⟩
     have n0_ := Aside0.mk (Kd.S_below (by sl_; exact HO275.out) hb)
     have n1_ := Aside0.mk (blk_below (g := gb267) (o := .cells ob0_ 43 (0, 0)) (by bl_; exact BK267.out) hb)
     have n2_ := Aside0.mk (blk_below (g := gb269) (o := .cells ob1_ 24 (0, 0)) (by bl_; exact BK269.out) hb)
     have n3_ := Aside0.mk (blk_below (g := gb270) (o := .cells ob2_ 24 (0, 0)) (by bl_; exact BK270.out) hb)
     have n4_ := Aside0.mk (blk_below (g := gb277) (o := .cells ob3_ 24 (0, 0)) (by bl_; exact BK277.out) hb)
     have n5_ := Aside0.mk (below_step (by be0_) hb)
     clear HO275
     clear BK267
     clear BK269
     clear BK270
     clear BK277
     clear HB
     have HO275 := n0_
     have BK267 := n1_
     have BK269 := n2_
     have BK270 := n3_
     have BK277 := n4_
     have HB := n5_
     clear n0_ n1_ n2_ n3_ n4_ n5_
     (try clear hb)
     (try clear hb2)
     (try clear hk)
     (try clear hi)
     refine hK.out _ _ ⟨(blk_cell BK277.out 0).trans rfl, (blk_cell BK277.out 1).trans rfl, (blk_cell BK269.out 0).trans rfl, (blk_cell BK269.out 1).trans rfl⟩ (fun hHeld => ?_)
     clear hK K
     refine norm_ (a' := ?_) ?_ ?_
     rotate_left
     ·show Act.put _ (some 38) _ = _
      ap_
      rfl
     refine pure_ (i := 9) (N := some 39) (v := ?_) (a' := ?_) #[true, true, true, true, true, true, true, true, true, true, false] rfl rfl an_ (fun _ _ _ h => h) (Or.inl ⟨by rfl, ?_⟩) ?_ ?_
     rotate_left
     ·intro w'
      go_simp
      with_reducible rfl
     rotate_left
     ·ap_
      rfl
     refine pure_ (i := 10) (N := some 40) (v := ?_) (a' := ?_) #[true, true, true, true, true, true, true, true, true, true, true] rfl rfl an_ (fun _ _ _ h => h) (Or.inl ⟨by rfl, ?_⟩) ?_ ?_
     rotate_left
     ·intro w'
      go_simp
      with_reducible rfl
     rotate_left
     ·ap_
      rfl
     refine done_ (done_of HT_.out (by kernel_rfl)) ?_
     try go_wp2
     go_meet
     case rel => exact ⟨_, ((t278 != t279)), (by first | rfl | (simp; done) | (simp [*]; done)), H', ⟨by first | omega | exact Nat.le_refl _⟩, ⟨by sl_; exact HO275.out⟩, ⟨by bl_; exact BK267.out⟩, ⟨by bl_; exact BK269.out⟩, ⟨by bl_; exact BK270.out⟩, ⟨by bl_; exact BK277.out⟩, ⟨by be0_⟩⟩
    ·rw [if_neg c30] at H
     have c30b0 : (t276 == 0) = false := beq_eq_false_iff_ne.mpr c30
     have c30b1 : (t276 != 0) = true := bne_iff_ne.mpr c30
     (first | rw [c30b0] | (simp only [i64_w, i32_w]; rw [c30b0]) | skip)
     have H' := Aside0.mk H
     clear H
     try go_wp2
     have n0_ : Aside0 (Kd.S (Kd.slice 3 (Kd.int .i64)) 40 ((w24.setCell ⟨gb277, 0, none⟩ (.int .i64 t272)).setCell ⟨gb277, 1, none⟩ (.slice Ao29 t273.length co29)) w.heap.size (fun _ => True) (.slice Ao29 t273.length co29) t273) := ⟨by sl_; exact Kd.S_mono (Kd.S_far (p := ⟨gb277, 1, none⟩) (Kd.S_far (p := ⟨gb277, 0, none⟩) (Kd.S_types HO275.out BK277.out (by decide)) (fun _ hk => hk.2) (.int .i64 t272)) (fun _ hk => hk.2) (.slice Ao29 t273.length co29)) (fun _ hk => trivial)⟩
     have n1_ : Aside0 (((w24.setCell ⟨gb277, 0, none⟩ (.int .i64 t272)).setCell ⟨gb277, 1, none⟩ (.slice Ao29 t273.length co29)).heap[gb267]? = some (.cells ob0_ 43 (0, 0))) := ⟨by bl_; refine blk_far ?_ NB267_277.out _; bl_; refine blk_far ?_ NB267_277.out _; bl_; exact BK267.out⟩
     have n2_ : Aside0 (((w24.setCell ⟨gb277, 0, none⟩ (.int .i64 t272)).setCell ⟨gb277, 1, none⟩ (.slice Ao29 t273.length co29)).heap[gb269]? = some (.cells ob1_ 24 (0, 0))) := ⟨by bl_; refine blk_far ?_ NB269_277.out _; bl_; refine blk_far ?_ NB269_277.out _; bl_; exact BK269.out⟩
     have n3_ : Aside0 (((w24.setCell ⟨gb277, 0, none⟩ (.int .i64 t272)).setCell ⟨gb277, 1, none⟩ (.slice Ao29 t273.length co29)).heap[gb270]? = some (.cells ob2_ 24 (0, 0))) := ⟨by bl_; refine blk_far ?_ NB270_277.out _; bl_; refine blk_far ?_ NB270_277.out _; bl_; exact BK270.out⟩
     have n4_ : Aside0 (((w24.setCell ⟨gb277, 0, none⟩ (.int .i64 t272)).setCell ⟨gb277, 1, none⟩ (.slice Ao29 t273.length co29)).heap[gb277]? = some (.cells ob3_ 24 (0, 0))) := ⟨by bl_; refine blk_put (cs := #[.int .i64 t272, .slice none 0 0]) ?_ 1 _ rfl; bl_; refine blk_put (cs := #[.int .i64 0, .slice none 0 0]) ?_ 0 _ rfl; bl_; exact BK277.out⟩
     have n5_ : Aside0 (Below w.heap.size w ((w24.setCell ⟨gb277, 0, none⟩ (.int .i64 t272)).setCell ⟨gb277, 1, none⟩ (.slice Ao29 t273.length co29))) := ⟨by be0_⟩
     (try clear HO275)
     (try clear BK267)
     (try clear BK269)
     (try clear BK270)
     (try clear BK277)
     (try clear HB)
     generalize ((w24.setCell ⟨gb277, 0, none⟩ (.int .i64 t272)).setCell ⟨gb277, 1, none⟩ (.slice Ao29 t273.length co29)) = w37 at n0_ n1_ n2_ n3_ n4_ n5_ ⊢
     have HO275 := n0_
     have BK267 := n1_
     have BK269 := n2_
     have BK270 := n3_
     have BK277 := n4_
     have HB := n5_
     clear n0_ n1_ n2_ n3_ n4_ n5_
     have n0_ := Aside0.mk (Kd.S_drew HO275.out)
     have n1_ := Aside0.mk (blk_drew BK267.out)
     have n2_ := Aside0.mk (blk_drew BK269.out)
     have n3_ := Aside0.mk (blk_drew BK270.out)
     have n4_ := Aside0.mk (blk_drew BK277.out)
     have n5_ := Aside0.mk (below_drew1 HB.out)
     clear HO275
     clear BK267
     clear BK269
     clear BK270
     clear BK277
     clear HB
     have HO275 := n0_
     have BK267 := n1_
     have BK269 := n2_
     have BK270 := n3_
     have BK277 := n4_
     have HB := n5_
     clear n0_ n1_ n2_ n3_ n4_ n5_
     refine start_ (n := 11) (S := fun w' => True) (ds := []) #[false, false, false, false, false, false, false, false, false, false, false] (by kernel_rfl) rfl rfl trivial (fun hHeld => ?_); refine with_tabW depotlaw02_CnfMeans.tab7 depotlaw02_CnfMeans.bits7 (fun HT_ HW_ => ?_)
     generalize w37.drew = w38 at HO275 BK267 BK269 BK270 BK277 HB hHeld ⊢
     refine pure_ (i := 0) (N := some 30) (v := ?_) (a' := ?_) #[true, false, false, false, false, false, false, false, false, false, false] rfl rfl an_ (fun _ _ _ h => h) (Or.inl ⟨by rfl, ?_⟩) ?_ ?_
     rotate_left
     ·intro w'
      go_simp
      with_reducible rfl
     rotate_left
     ·ap_
      rfl
     refine pure_ (i := 1) (N := some 31) (v := ?_) (a' := ?_) #[true, true, false, false, false, false, false, false, false, false, false] rfl rfl an_ (fun _ _ _ h => h) (Or.inl ⟨by rfl, ?_⟩) ?_ ?_
     rotate_left
     ·intro w'
      go_simp
      with_reducible rfl
     rotate_left
     ·ap_
      rfl
     refine pure_ (i := 2) (N := some 32) (v := ?_) (a' := ?_) #[true, true, true, false, false, false, false, false, false, false, false] rfl rfl an_ (fun _ _ _ h => h) (Or.inl ⟨by rfl, ?_⟩) ?_ ?_
     rotate_left
     ·intro w'
      go_simp
      with_reducible rfl
     rotate_left
     ·ap_
      rfl
     refine pure_ (i := 3) (N := some 33) (v := undef) (a' := ?_) #[true, true, true, true, false, false, false, false, false, false, false] rfl rfl an_ (fun _ _ _ h => h) (Or.inr ⟨by rfl, rfl⟩) ?_ ?_
     rotate_left
     ·ap_
      rfl
     refine pure_ (i := 4) (N := some 34) (v := undef) (a' := ?_) #[true, true, true, true, true, false, false, false, false, false, false] rfl rfl an_ (fun _ _ _ h => h) (Or.inr ⟨by rfl, rfl⟩) ?_ ?_
     rotate_left
     ·ap_
      rfl
     refine pure_ (i := 5) (N := some 35) (v := undef) (a' := ?_) #[true, true, true, true, true, true, false, false, false, false, false] rfl rfl an_ (fun _ _ _ h => h) (Or.inr ⟨by rfl, rfl⟩) ?_ ?_
     rotate_left
     ·ap_
      rfl
     refine pure_ (i := 6) (N := some 36) (v := undef) (a' := ?_) #[true, true, true, true, true, true, true, false, false, false, false] rfl rfl an_ (fun _ _ _ h => h) (Or.inr ⟨by rfl, rfl⟩) ?_ ?_
     rotate_left
     ·ap_
      rfl
     refine pure_ (i := 7) (N := some 37) (v := undef) (a' := ?_) #[true, true, true, true, true, true, true, true, false, false, false] rfl rfl an_ (fun _ _ _ h => h) (Or.inr ⟨by rfl, rfl⟩) ?_ ?_
     rotate_left
     ·ap_
      rfl
     refine pure_ (i := 8) (N := some 38) (v := undef) (a' := ?_) #[true, true, true, true, true, true, true, true, true, false, false] rfl rfl an_ (fun _ _ _ h => h) (Or.inr ⟨by rfl, rfl⟩) ?_ ?_
     rotate_left
     ·ap_
      rfl
     refine pure_ (i := 9) (N := some 39) (v := undef) (a' := ?_) #[true, true, true, true, true, true, true, true, true, true, false] rfl rfl an_ (fun _ _ _ h => h) (Or.inr ⟨by rfl, rfl⟩) ?_ ?_
     rotate_left
     ·ap_
      rfl
     refine pure_ (i := 10) (N := some 40) (v := ?_) (a' := ?_) #[true, true, true, true, true, true, true, true, true, true, true] rfl rfl an_ (fun _ _ _ h => h) (Or.inl ⟨by rfl, ?_⟩) ?_ ?_
     rotate_left
     ·intro w'
      go_simp
      with_reducible rfl
     rotate_left
     ·ap_
      rfl
     refine done_ (done_of HT_.out (by kernel_rfl)) ?_
     try go_wp2
     go_meet
     case rel => exact ⟨_, (true), (by first | rfl | (simp; done) | (simp [*]; done)), H', ⟨by first | omega | exact Nat.le_refl _⟩, ⟨by sl_; exact HO275.out⟩, ⟨by bl_; exact BK267.out⟩, ⟨by bl_; exact BK269.out⟩, ⟨by bl_; exact BK270.out⟩, ⟨by bl_; exact BK277.out⟩, ⟨by be0_⟩⟩
   case rest =>
    clear HC7
    try clear c1
    try clear c2
    try clear p2
    try clear c3
    try clear c6
    try clear c17
    try clear c18
    try clear c19
    try clear c25
    try clear c26
    try clear c27
    try clear c30
    try clear c30b0
    try clear c30b1
    try clear hcz20_0
    try clear hcz20_1
    try clear hcz22_0
    try clear hcz22_1
    try clear hcz28_0
    try clear hcz28_1
    try clear hfz20_0
    try clear hfz20_1
    try clear hfz22_0
    try clear hfz22_1
    try clear hfz28_0
    try clear hfz28_1
    obtain ⟨kq, x40_6, rfl, HA, HJ6, HO_278001, BK267, BK269, BK270, BK277, HB⟩ := hcut
    cases kq with
    | zero => exact absurd HA.out (by simp [depotlaw02_CnfMeans.j0])
    | succ kj6 =>
     have H := HA.out
     clear HA
     simp only [depotlaw02_CnfMeans.j0] at H
     by_cases c39 : x40_6 = true
     ·subst c39
      have H1 : (some false) = some r := by rw [if_pos rfl] at H; exact H
      clear H
      have H := H1
      clear H1
      obtain rfl := Option.some.inj H
      go_wp2
      go_ret
      exact ⟨by first | rfl | (simp [errW_none, errW_some] <;> rfl) | (simp [*, errW_none, errW_some] <;> rfl), by be0_⟩
     ·replace c39 := Bool.eq_false_iff.mpr c39
      subst c39
      have H1 : ((cnf_Formed.f kj6 a0_2 l0_3).bind fun t280 => (if t280 = true then (depotlaw02_CnfMeans.j1 kj6 l0_4 l0_5 (a0_2 == a0_0) a0_0 l0_1 a0_2 l0_3) else (depotlaw02_CnfMeans.j1 kj6 l0_4 l0_5 false a0_0 l0_1 a0_2 l0_3))) = some r := by rw [if_neg (show ¬ (false = true) by decide)] at H; exact H
      clear H
      have H := H1
      clear H1
      have HC40 := Aside0.mk H
      clear H
      go_upto_region 9 with (fail)
      go_cut [49] (fun v49 wc => ∃ (kq : Nat) (x49_39 : Bool), v49 = .bool x49_39 ∧ Aside0 (depotlaw02_CnfMeans.j1 kq l0_4 l0_5 x49_39 a0_0 l0_1 a0_2 l0_3 = some r) ∧ Aside0 (kq ≤ kj6) ∧ Aside0 (Kd.S (Kd.slice 3 (Kd.int .i64)) 40 wc w.heap.size (fun _ => True) (.slice Ao29 t273.length co29) t273) ∧ Aside0 (wc.heap[gb267]? = some (.cells #[.int .i64 a0_0, (.slice A0_1 l0_1.length c0_1), .int .i64 a0_2, (.slice A0_3 l0_3.length c0_3), (.slice A0_4 l0_4.length c0_4), (.slice A0_5 l0_5.length c0_5)] 43 (0, 0))) ∧ Aside0 (wc.heap[gb269]? = some (.cells #[.int .i64 a0_0, (.slice A0_1 l0_1.length c0_1)] 24 (0, 0))) ∧ Aside0 (wc.heap[gb270]? = some (.cells #[.int .i64 a0_2, (.slice A0_3 l0_3.length c0_3)] 24 (0, 0))) ∧ Aside0 (wc.heap[gb277]? = some (.cells #[.int .i64 t272, (.slice Ao29 t273.length co29)] 24 (0, 0))) ∧ Aside0 (Below w.heap.size w wc))
      case first =>
       have H := HC40.out
       clear HC40
       replace H := Option.bind_eq_some_iff.mp H
       obtain ⟨t280, A410, H⟩ := H
       replace H : (if t280 = true then (depotlaw02_CnfMeans.j1 kj6 l0_4 l0_5 (a0_2 == a0_0) a0_0 l0_1 a0_2 l0_3) else (depotlaw02_CnfMeans.j1 kj6 l0_4 l0_5 false a0_0 l0_1 a0_2 l0_3)) = some r := H
       have A41 := Aside0.mk A410
       clear A410
       by_cases c42 : t280 = true
       ·subst c42
        have H1 : (depotlaw02_CnfMeans.j1 kj6 l0_4 l0_5 (a0_2 == a0_0) a0_0 l0_1 a0_2 l0_3) = some r := by rw [if_pos rfl] at H; exact H
        clear H
        have H := H1
        clear H1
        have H' := Aside0.mk H
        clear H
        have hnb43 := NB270_267.out
        have hnc43 := NB267_270.out
        have hnb44 := NB270_269.out
        have hnc44 := NB269_270.out
        have hnb45 := NB270_277.out
        have hnc45 := NB277_270.out
        have hcz46_0 : wc.cell? ⟨gb270, 0, none⟩ = some (.int .i64 a0_2) := (blk_cell BK270.out 0).trans rfl
        have hcz46_1 : wc.cell? ⟨gb270, 1, none⟩ = some (.slice A0_3 l0_3.length c0_3) := (blk_cell BK270.out 1).trans rfl
        have hfz46_0 := blk_frozen BK270.out 0
        have hfz46_1 := blk_frozen BK270.out 1
        go_wp2_with (first | ((with_reducible refine gate_callee (f := 17) rfl ?_); refine goesL_ (some 42) rfl rfl Tryd.func17 (by kernel_rfl) rfl #[.agg ob2_] rfl (by lm_) ?_; (with_reducible refine (cnf_Formed.calls kj6 a0_2 _ _ l0_3 true _ ?side1 ?side2 A41.out).mono ?_); (case side1 => repeat (first | exact (Kd.C_below HR0_3.out HB.out) | (with_reducible refine Kd.C_alloc ?_ _) | (with_reducible refine Kd.C_drewN ?_ _) | (with_reducible refine Kd.C_drew ?_))); (case side2 => exact HC0_3.out); rintro e w47 ⟨rfl, hb⟩; refine ⟨_, rfl, ?_⟩; have n0_ := Aside0.mk (Kd.S_below (by sl_; exact HO_278001.out) hb); have n1_ := Aside0.mk (blk_below (g := gb267) (o := .cells ob0_ 43 (0, 0)) (by bl_; exact BK267.out) hb); have n2_ := Aside0.mk (blk_below (g := gb269) (o := .cells ob1_ 24 (0, 0)) (by bl_; exact BK269.out) hb); have n3_ := Aside0.mk (blk_below (g := gb270) (o := .cells ob2_ 24 (0, 0)) (by bl_; exact BK270.out) hb); have n4_ := Aside0.mk (blk_below (g := gb277) (o := .cells ob3_ 24 (0, 0)) (by bl_; exact BK277.out) hb); have n5_ := Aside0.mk (below_step (by be0_) hb); clear HO_278001; clear BK267; clear BK269; clear BK270; clear BK277; clear HB; have HO_278001 := n0_; have BK267 := n1_; have BK269 := n2_; have BK270 := n3_; have BK277 := n4_; have HB := n5_; clear n0_ n1_ n2_ n3_ n4_ n5_; (try clear hb); (try clear hb2); (try clear hk); (try clear hi); have hcz48_0 : w47.cell? ⟨gb270, 0, none⟩ = some (.int .i64 a0_2) := (blk_cell BK270.out 0).trans rfl; have hcz48_1 : w47.cell? ⟨gb270, 1, none⟩ = some (.slice A0_3 l0_3.length c0_3) := (blk_cell BK270.out 1).trans rfl; have hfz48_0 := blk_frozen BK270.out 0; have hfz48_1 := blk_frozen BK270.out 1; have hnb49 := NB269_267.out; have hnc49 := NB267_269.out; have hnb50 := NB269_277.out; have hnc50 := NB277_269.out; have hcz51_0 : w47.cell? ⟨gb269, 0, none⟩ = some (.int .i64 a0_0) := (blk_cell BK269.out 0).trans rfl; have hcz51_1 : w47.cell? ⟨gb269, 1, none⟩ = some (.slice A0_1 l0_1.length c0_1) := (blk_cell BK269.out 1).trans rfl; have hfz51_0 := blk_frozen BK269.out 0; have hfz51_1 := blk_frozen BK269.out 1))
        go_meet
        case rel => exact ⟨_, ((a0_2 == a0_0)), (by first | rfl | (simp; done) | (simp [*]; done)), H', ⟨by have := HJ6.out; first | omega | exact Nat.le_refl _⟩, ⟨by sl_; exact HO_278001.out⟩, ⟨by bl_; exact BK267.out⟩, ⟨by bl_; exact BK269.out⟩, ⟨by bl_; exact BK270.out⟩, ⟨by bl_; exact BK277.out⟩, ⟨by be0_⟩⟩
       ·replace c42 := Bool.eq_false_iff.mpr c42
        subst c42
        have H1 : (depotlaw02_CnfMeans.j1 kj6 l0_4 l0_5 false a0_0 l0_1 a0_2 l0_3) = some r := by rw [if_neg (show ¬ (false = true) by decide)] at H; exact H
        clear H
        have H := H1
        clear H1
        have H' := Aside0.mk H
        clear H
        have hnb52 := NB270_267.out
        have hnc52 := NB267_270.out
        have hnb53 := NB270_269.out
        have hnc53 := NB269_270.out
        have hnb54 := NB270_277.out
        have hnc54 := NB277_270.out
        have hcz55_0 : wc.cell? ⟨gb270, 0, none⟩ = some (.int .i64 a0_2) := (blk_cell BK270.out 0).trans rfl
        have hcz55_1 : wc.cell? ⟨gb270, 1, none⟩ = some (.slice A0_3 l0_3.length c0_3) := (blk_cell BK270.out 1).trans rfl
        have hfz55_0 := blk_frozen BK270.out 0
        have hfz55_1 := blk_frozen BK270.out 1
        go_wp2_with (first | ((with_reducible refine gate_callee (f := 17) rfl ?_); refine goesL_ (some 42) rfl rfl Tryd.func17 (by kernel_rfl) rfl #[.agg ob2_] rfl (by lm_) ?_; (with_reducible refine (cnf_Formed.calls kj6 a0_2 _ _ l0_3 false _ ?side1 ?side2 A41.out).mono ?_); (case side1 => repeat (first | exact (Kd.C_below HR0_3.out HB.out) | (with_reducible refine Kd.C_alloc ?_ _) | (with_reducible refine Kd.C_drewN ?_ _) | (with_reducible refine Kd.C_drew ?_))); (case side2 => exact HC0_3.out); rintro e w56 ⟨rfl, hb⟩; refine ⟨_, rfl, ?_⟩; have n0_ := Aside0.mk (Kd.S_below (by sl_; exact HO_278001.out) hb); have n1_ := Aside0.mk (blk_below (g := gb267) (o := .cells ob0_ 43 (0, 0)) (by bl_; exact BK267.out) hb); have n2_ := Aside0.mk (blk_below (g := gb269) (o := .cells ob1_ 24 (0, 0)) (by bl_; exact BK269.out) hb); have n3_ := Aside0.mk (blk_below (g := gb270) (o := .cells ob2_ 24 (0, 0)) (by bl_; exact BK270.out) hb); have n4_ := Aside0.mk (blk_below (g := gb277) (o := .cells ob3_ 24 (0, 0)) (by bl_; exact BK277.out) hb); have n5_ := Aside0.mk (below_step (by be0_) hb); clear HO_278001; clear BK267; clear BK269; clear BK270; clear BK277; clear HB; have HO_278001 := n0_; have BK267 := n1_; have BK269 := n2_; have BK270 := n3_; have BK277 := n4_; have HB := n5_; clear n0_ n1_ n2_ n3_ n4_ n5_; (try clear hb); (try clear hb2); (try clear hk); (try clear hi)))
        go_meet
        case rel => exact ⟨_, (false), (by first | rfl | (simp; done) | (simp [*]; done)), H', ⟨by have := HJ6.out; first | omega | exact Nat.le_refl _⟩, ⟨by sl_; exact HO_278001.out⟩, ⟨by bl_; exact BK267.out⟩, ⟨by bl_; exact BK269.out⟩, ⟨by bl_; exact BK270.out⟩, ⟨by bl_; exact BK277.out⟩, ⟨by be0_⟩⟩
      case rest =>
       clear HC40
       try clear c1
       try clear c2
       try clear p2
       try clear c3
       try clear c4
       try clear c5
       try clear c6
       try clear c17
       try clear c18
       try clear c19
       try clear c25
       try clear c26
       try clear c27
       try clear c30
       try clear c30b0
       try clear c30b1
       try clear c39
       try clear c42
       try clear c43
       try clear c44
       try clear c45
       try clear c49
       try clear c50
       try clear c52
       try clear c53
       try clear c54
       try clear hcz20_0
       try clear hcz20_1
       try clear hcz22_0
       try clear hcz22_1
       try clear hcz28_0
       try clear hcz28_1
       try clear hcz46_0
       try clear hcz46_1
       try clear hcz48_0
       try clear hcz48_1
       try clear hcz51_0
       try clear hcz51_1
       try clear hcz55_0
       try clear hcz55_1
       try clear hfz20_0
       try clear hfz20_1
       try clear hfz22_0
       try clear hfz22_1
       try clear hfz28_0
       try clear hfz28_1
       try clear hfz46_0
       try clear hfz46_1
       try clear hfz48_0
       try clear hfz48_1
       try clear hfz51_0
       try clear hfz51_1
       try clear hfz55_0
       try clear hfz55_1
       try clear p2
       obtain ⟨kq, x49_39, rfl, HA, HJ39, HO_278001, BK267, BK269, BK270, BK277, HB⟩ := hcut
       cases kq with
       | zero => exact absurd HA.out (by simp [depotlaw02_CnfMeans.j1])
       | succ kj39 =>
        have H := HA.out
        clear HA
        simp only [depotlaw02_CnfMeans.j1] at H
        have HC57 := Aside0.mk H
        clear H
        go_upto_if 49 with (fail)
        go_cut [] (fun wc => ∃ (kq : Nat), Aside0 (depotlaw02_CnfMeans.j2 kq l0_4 l0_5 a0_0 l0_1 = some r) ∧ Aside0 (kq ≤ kj39) ∧ Aside0 (Kd.S (Kd.slice 3 (Kd.int .i64)) 40 wc w.heap.size (fun _ => True) (.slice Ao29 t273.length co29) t273) ∧ Aside0 (wc.heap[gb267]? = some (.cells #[.int .i64 a0_0, (.slice A0_1 l0_1.length c0_1), .int .i64 a0_2, (.slice A0_3 l0_3.length c0_3), (.slice A0_4 l0_4.length c0_4), (.slice A0_5 l0_5.length c0_5)] 43 (0, 0))) ∧ Aside0 (wc.heap[gb269]? = some (.cells #[.int .i64 a0_0, (.slice A0_1 l0_1.length c0_1)] 24 (0, 0))) ∧ Aside0 (wc.heap[gb270]? = some (.cells #[.int .i64 a0_2, (.slice A0_3 l0_3.length c0_3)] 24 (0, 0))) ∧ Aside0 (wc.heap[gb277]? = some (.cells #[.int .i64 t272, (.slice Ao29 t273.length co29)] 24 (0, 0))) ∧ Aside0 (Below w.heap.size w wc))
        case first =>
         have H := HC57.out
         clear HC57
         by_cases c58 : x49_39 = true
         ·subst c58
          have H1 : ((cnf_Join.f kj39 a0_0 l0_1 a0_2 l0_3).bind fun bt281 => (if bt281.2.2 = 0 then ((cnf_Satisfies.f kj39 bt281.1 bt281.2.1 l0_5).bind fun t287 => ((cnf_Satisfies.f kj39 a0_0 l0_1 l0_5).bind fun t288 => (if t288 = true then ((cnf_Satisfies.f kj39 a0_2 l0_3 l0_5).bind fun t289 => (if (t287 != t289) = true then (some false) else (depotlaw02_CnfMeans.j2 kj39 l0_4 l0_5 a0_0 l0_1))) else (if (t287 != false) = true then (some false) else (depotlaw02_CnfMeans.j2 kj39 l0_4 l0_5 a0_0 l0_1))))) else (some false))) = some r := by rw [if_pos rfl] at H; exact H
          clear H
          have H := H1
          clear H1
          replace H := Option.bind_eq_some_iff.mp H
          obtain ⟨⟨t281, t282, t285⟩, A590, H⟩ := H
          replace H : (if t285 = 0 then ((cnf_Satisfies.f kj39 t281 t282 l0_5).bind fun t287 => ((cnf_Satisfies.f kj39 a0_0 l0_1 l0_5).bind fun t288 => (if t288 = true then ((cnf_Satisfies.f kj39 a0_2 l0_3 l0_5).bind fun t289 => (if (t287 != t289) = true then (some false) else (depotlaw02_CnfMeans.j2 kj39 l0_4 l0_5 a0_0 l0_1))) else (if (t287 != false) = true then (some false) else (depotlaw02_CnfMeans.j2 kj39 l0_4 l0_5 a0_0 l0_1))))) else (some false)) = some r := H
          have A59 := Aside0.mk A590
          clear A590
          by_cases c60 : t285 = 0
          ·rw [if_pos c60] at H
           have c60b0 : (t285 == 0) = true := beq_iff_eq.mpr c60
           have c60b1 : (t285 != 0) = false := bne_eq_false_iff_eq.mpr c60
           clear c60
           (first | rw [c60b0] | (simp only [i64_w, i32_w]; rw [c60b0]) | skip)
           replace H := Option.bind_eq_some_iff.mp H
           obtain ⟨t287, A610, H⟩ := H
           replace H : ((cnf_Satisfies.f kj39 a0_0 l0_1 l0_5).bind fun t288 => (if t288 = true then ((cnf_Satisfies.f kj39 a0_2 l0_3 l0_5).bind fun t289 => (if (t287 != t289) = true then (some false) else (depotlaw02_CnfMeans.j2 kj39 l0_4 l0_5 a0_0 l0_1))) else (if (t287 != false) = true then (some false) else (depotlaw02_CnfMeans.j2 kj39 l0_4 l0_5 a0_0 l0_1)))) = some r := H
           have A61 := Aside0.mk A610
           clear A610
           replace H := Option.bind_eq_some_iff.mp H
           obtain ⟨t288, A620, H⟩ := H
           replace H : (if t288 = true then ((cnf_Satisfies.f kj39 a0_2 l0_3 l0_5).bind fun t289 => (if (t287 != t289) = true then (some false) else (depotlaw02_CnfMeans.j2 kj39 l0_4 l0_5 a0_0 l0_1))) else (if (t287 != false) = true then (some false) else (depotlaw02_CnfMeans.j2 kj39 l0_4 l0_5 a0_0 l0_1))) = some r := H
           have A62 := Aside0.mk A620
           clear A620
           by_cases c63 : t288 = true
           ·subst c63
            have H1 : ((cnf_Satisfies.f kj39 a0_2 l0_3 l0_5).bind fun t289 => (if (t287 != t289) = true then (some false) else (depotlaw02_CnfMeans.j2 kj39 l0_4 l0_5 a0_0 l0_1))) = some r := by rw [if_pos rfl] at H; exact H
            clear H
            have H := H1
            clear H1
            replace H := Option.bind_eq_some_iff.mp H
            obtain ⟨t289, A640, H⟩ := H
            replace H : (if (t287 != t289) = true then (some false) else (depotlaw02_CnfMeans.j2 kj39 l0_4 l0_5 a0_0 l0_1)) = some r := H
            have A64 := Aside0.mk A640
            clear A640
            by_cases c65 : (t287 != t289) = true
            ·rw [if_pos c65] at H
             have c65b0 : (t287 != t289) = true := c65
             (try (have c65b1 : decide (t287 = t289) = false := by simpa using c65))
             (try (have c65b2 : (t287 == t289) = false := by simpa using c65))
             (try (have c65b3 : ¬ (t287 = t289) := by simpa using c65))
             clear c65
             obtain rfl := Option.some.inj H
             have hnb66 := NB269_267.out
             have hnc66 := NB267_269.out
             have hnb67 := NB269_270.out
             have hnc67 := NB270_269.out
             have hnb68 := NB269_277.out
             have hnc68 := NB277_269.out
             have hcz69_0 : wc.cell? ⟨gb269, 0, none⟩ = some (.int .i64 a0_0) := (blk_cell BK269.out 0).trans rfl
             have hcz69_1 : wc.cell? ⟨gb269, 1, none⟩ = some (.slice A0_1 l0_1.length c0_1) := (blk_cell BK269.out 1).trans rfl
             have hfz69_0 := blk_frozen BK269.out 0
             have hfz69_1 := blk_frozen BK269.out 1
             have hnb70 := NB270_267.out
             have hnc70 := NB267_270.out
             have hnb71 := NB270_277.out
             have hnc71 := NB277_270.out
             have hcz72_0 : wc.cell? ⟨gb270, 0, none⟩ = some (.int .i64 a0_2) := (blk_cell BK270.out 0).trans rfl
             have hcz72_1 : wc.cell? ⟨gb270, 1, none⟩ = some (.slice A0_3 l0_3.length c0_3) := (blk_cell BK270.out 1).trans rfl
             have hfz72_0 := blk_frozen BK270.out 0
             have hfz72_1 := blk_frozen BK270.out 1
             try go_wp2_with (first | ((with_reducible refine gate_callee (f := 19) rfl ?_); refine goesL_ (some 53) rfl rfl Tryd.func19 (by kernel_rfl) rfl #[.agg ob1_, .agg ob2_] rfl (by lm_) ?_; (with_reducible refine (cnf_Join.calls kj39 a0_0 _ _ l0_1 a0_2 _ _ l0_3 t281 t282 t285 _ ?side1 ?side2 ?side3 ?side4 A59.out).mono ?_); (case side1 => repeat (first | exact (Kd.C_below HR0_1.out HB.out) | (with_reducible refine Kd.C_alloc ?_ _) | (with_reducible refine Kd.C_drewN ?_ _) | (with_reducible refine Kd.C_drew ?_))); (case side2 => exact HC0_1.out); (case side3 => repeat (first | exact (Kd.C_below HR0_3.out HB.out) | (with_reducible refine Kd.C_alloc ?_ _) | (with_reducible refine Kd.C_drewN ?_ _) | (with_reducible refine Kd.C_drew ?_))); (case side4 => exact HC0_3.out); rintro e w73 ⟨v283, rfl, ho0, hb⟩; refine ⟨_, rfl, ?_⟩; have n0_ := Aside0.mk (Kd.S_elder' (by sl_; exact HO_278001.out) (Kd.S_base ho0) hb); have n1_ := Aside0.mk (Kd.S_lower (Kd.S_new' ho0 (Kd.S_lt (by sl_; exact HO_278001.out))) (below_size (by be0_))); have n2_ := Aside0.mk (blk_below (g := gb267) (o := .cells ob0_ 43 (0, 0)) (by bl_; exact BK267.out) hb); have n3_ := Aside0.mk (blk_below (g := gb269) (o := .cells ob1_ 24 (0, 0)) (by bl_; exact BK269.out) hb); have n4_ := Aside0.mk (blk_below (g := gb270) (o := .cells ob2_ 24 (0, 0)) (by bl_; exact BK270.out) hb); have n5_ := Aside0.mk (blk_below (g := gb277) (o := .cells ob3_ 24 (0, 0)) (by bl_; exact BK277.out) hb); have n6_ := Aside0.mk (below_step (by be0_) hb); clear HO_278001; clear BK267; clear BK269; clear BK270; clear BK277; clear HB; have HO_278001 := n0_; have HO284 := n1_; have BK267 := n2_; have BK269 := n3_; have BK270 := n4_; have BK277 := n5_; have HB := n6_; clear n0_ n1_ n2_ n3_ n4_ n5_ n6_; ch_) | ((with_reducible refine gate_dst (N := 9) rfl ?_); refine box_event ?hg (N := 9) ?hd (cs := #[.int .i64 0, .slice none 0 0]) (t := 24) ?hr ?_; bx_; intro gb286 hg w74 hbox hb; have n0_ := Aside0.mk (Kd.S_below (by sl_; exact HO_278001.out) hb); have n1_ := Aside0.mk (Kd.S_below (by sl_; exact HO284.out) hb); have n2_ := Aside0.mk (blk_below (g := gb267) (o := .cells ob0_ 43 (0, 0)) (by bl_; exact BK267.out) hb); have n3_ := Aside0.mk (blk_below (g := gb269) (o := .cells ob1_ 24 (0, 0)) (by bl_; exact BK269.out) hb); have n4_ := Aside0.mk (blk_below (g := gb270) (o := .cells ob2_ 24 (0, 0)) (by bl_; exact BK270.out) hb); have n5_ := Aside0.mk (blk_below (g := gb277) (o := .cells ob3_ 24 (0, 0)) (by bl_; exact BK277.out) hb); have n6_ := Aside0.mk (below_step (by be0_) hb); have n7_ := Aside0.mk (hbox); have n8_ := Aside0.mk ((by rw [hg]; exact (below_size (by be0_)) : w.heap.size ≤ gb286)); have n9_ := Aside0.mk ((by rw [hg]; exact (below_size (by be0_)) : w.heap.size ≤ gb286)); have n10_ := Aside0.mk ((by rw [hg]; exact Nat.ne_of_lt (blk_lt (g := gb267) (o := .cells ob0_ 43 (0, 0)) (by bl_; exact BK267.out)) : gb267 ≠ gb286)); have n11_ := Aside0.mk ((by rw [hg]; exact Nat.ne_of_gt (blk_lt (g := gb267) (o := .cells ob0_ 43 (0, 0)) (by bl_; exact BK267.out)) : gb286 ≠ gb267)); have n12_ := Aside0.mk ((by rw [hg]; exact Nat.ne_of_lt (blk_lt (g := gb269) (o := .cells ob1_ 24 (0, 0)) (by bl_; exact BK269.out)) : gb269 ≠ gb286)); have n13_ := Aside0.mk ((by rw [hg]; exact Nat.ne_of_gt (blk_lt (g := gb269) (o := .cells ob1_ 24 (0, 0)) (by bl_; exact BK269.out)) : gb286 ≠ gb269)); have n14_ := Aside0.mk ((by rw [hg]; exact Nat.ne_of_lt (blk_lt (g := gb270) (o := .cells ob2_ 24 (0, 0)) (by bl_; exact BK270.out)) : gb270 ≠ gb286)); have n15_ := Aside0.mk ((by rw [hg]; exact Nat.ne_of_gt (blk_lt (g := gb270) (o := .cells ob2_ 24 (0, 0)) (by bl_; exact BK270.out)) : gb286 ≠ gb270)); have n16_ := Aside0.mk ((by rw [hg]; exact Nat.ne_of_lt (blk_lt (g := gb277) (o := .cells ob3_ 24 (0, 0)) (by bl_; exact BK277.out)) : gb277 ≠ gb286)); have n17_ := Aside0.mk ((by rw [hg]; exact Nat.ne_of_gt (blk_lt (g := gb277) (o := .cells ob3_ 24 (0, 0)) (by bl_; exact BK277.out)) : gb286 ≠ gb277)); clear HO_278001; clear HO284; clear BK267; clear BK269; clear BK270; clear BK277; clear HB; have HO_278001 := n0_; have HO284 := n1_; have BK267 := n2_; have BK269 := n3_; have BK270 := n4_; have BK277 := n5_; have HB := n6_; have BK286 := n7_; have GW286 := n8_; have GE286 := n9_; have NB267_286 := n10_; have NB286_267 := n11_; have NB269_286 := n12_; have NB286_269 := n13_; have NB270_286 := n14_; have NB286_270 := n15_; have NB277_286 := n16_; have NB286_277 := n17_; clear n0_ n1_ n2_ n3_ n4_ n5_ n6_ n7_ n8_ n9_ n10_ n11_ n12_ n13_ n14_ n15_ n16_ n17_; clear hb hbox hg; have hnb75 := NB286_267.out; have hnc75 := NB267_286.out; have hnb76 := NB286_269.out; have hnc76 := NB269_286.out; have hnb77 := NB286_270.out; have hnc77 := NB270_286.out; have hnb78 := NB286_277.out; have hnc78 := NB277_286.out; have hcz79_0 : w74.cell? ⟨gb286, 0, none⟩ = some (.int .i64 0) := (blk_cell BK286.out 0).trans rfl; have hcz79_1 : w74.cell? ⟨gb286, 1, none⟩ = some (.slice none 0 0) := (blk_cell BK286.out 1).trans rfl; have hfz79_0 := blk_frozen BK286.out 0; have hfz79_1 := blk_frozen BK286.out 1; obtain ⟨Ao80, co80, eo80⟩ := Kd.S_slice HO284.out; subst eo80))
             have n0_ : Aside0 (Kd.S (Kd.slice 3 (Kd.int .i64)) 40 ((w74.setCell ⟨gb286, 0, none⟩ (.int .i64 t281)).setCell ⟨gb286, 1, none⟩ (.slice Ao80 t282.length co80)) w.heap.size (fun k_ => some k_ ≠ (.slice Ao80 t282.length co80 : Value).ownBlock) (.slice Ao29 t273.length co29) t273) := ⟨by sl_; exact Kd.S_mono (Kd.S_far (p := ⟨gb286, 1, none⟩) (Kd.S_far (p := ⟨gb286, 0, none⟩) (Kd.S_types HO_278001.out BK286.out (by decide)) (fun _ hk => hk.2) (.int .i64 t281)) (fun _ hk => hk.2) (.slice Ao80 t282.length co80)) (fun _ hk => hk.1.2)⟩
             have n1_ : Aside0 (Kd.S (Kd.slice 3 (Kd.int .i64)) 40 ((w74.setCell ⟨gb286, 0, none⟩ (.int .i64 t281)).setCell ⟨gb286, 1, none⟩ (.slice Ao80 t282.length co80)) w.heap.size (fun k_ => some k_ ≠ (.slice Ao29 t273.length co29 : Value).ownBlock) (.slice Ao80 t282.length co80) t282) := ⟨by sl_; exact Kd.S_mono (Kd.S_far (p := ⟨gb286, 1, none⟩) (Kd.S_far (p := ⟨gb286, 0, none⟩) (Kd.S_types HO284.out BK286.out (by decide)) (fun _ hk => hk.2) (.int .i64 t281)) (fun _ hk => hk.2) (.slice Ao80 t282.length co80)) (fun _ hk => hk.1.2)⟩
             have n2_ : Aside0 (((w74.setCell ⟨gb286, 0, none⟩ (.int .i64 t281)).setCell ⟨gb286, 1, none⟩ (.slice Ao80 t282.length co80)).heap[gb267]? = some (.cells ob0_ 43 (0, 0))) := ⟨by bl_; refine blk_far ?_ NB267_286.out _; bl_; refine blk_far ?_ NB267_286.out _; bl_; exact BK267.out⟩
             have n3_ : Aside0 (((w74.setCell ⟨gb286, 0, none⟩ (.int .i64 t281)).setCell ⟨gb286, 1, none⟩ (.slice Ao80 t282.length co80)).heap[gb269]? = some (.cells ob1_ 24 (0, 0))) := ⟨by bl_; refine blk_far ?_ NB269_286.out _; bl_; refine blk_far ?_ NB269_286.out _; bl_; exact BK269.out⟩
             have n4_ : Aside0 (((w74.setCell ⟨gb286, 0, none⟩ (.int .i64 t281)).setCell ⟨gb286, 1, none⟩ (.slice Ao80 t282.length co80)).heap[gb270]? = some (.cells ob2_ 24 (0, 0))) := ⟨by bl_; refine blk_far ?_ NB270_286.out _; bl_; refine blk_far ?_ NB270_286.out _; bl_; exact BK270.out⟩
             have n5_ : Aside0 (((w74.setCell ⟨gb286, 0, none⟩ (.int .i64 t281)).setCell ⟨gb286, 1, none⟩ (.slice Ao80 t282.length co80)).heap[gb277]? = some (.cells ob3_ 24 (0, 0))) := ⟨by bl_; refine blk_far ?_ NB277_286.out _; bl_; refine blk_far ?_ NB277_286.out _; bl_; exact BK277.out⟩
             have n6_ : Aside0 (((w74.setCell ⟨gb286, 0, none⟩ (.int .i64 t281)).setCell ⟨gb286, 1, none⟩ (.slice Ao80 t282.length co80)).heap[gb286]? = some (.cells #[.int .i64 t281, .slice Ao80 t282.length co80] 24 (0, 0))) := ⟨by bl_; refine blk_put (cs := #[.int .i64 t281, .slice none 0 0]) ?_ 1 _ rfl; bl_; refine blk_put (cs := #[.int .i64 0, .slice none 0 0]) ?_ 0 _ rfl; bl_; exact BK286.out⟩
             have n7_ : Aside0 (Below w.heap.size w ((w74.setCell ⟨gb286, 0, none⟩ (.int .i64 t281)).setCell ⟨gb286, 1, none⟩ (.slice Ao80 t282.length co80))) := ⟨by be1_⟩
             (try clear HO_278001)
             (try clear HO284)
             (try clear BK267)
             (try clear BK269)
             (try clear BK270)
             (try clear BK277)
             (try clear BK286)
             (try clear HB)
             generalize ((w74.setCell ⟨gb286, 0, none⟩ (.int .i64 t281)).setCell ⟨gb286, 1, none⟩ (.slice Ao80 t282.length co80)) = w81 at n0_ n1_ n2_ n3_ n4_ n5_ n6_ n7_ ⊢
             have HO_278001 := n0_
             have HO284 := n1_
             have BK267 := n2_
             have BK269 := n3_
             have BK270 := n4_
             have BK277 := n5_
             have BK286 := n6_
             have HB := n7_
             clear n0_ n1_ n2_ n3_ n4_ n5_ n6_ n7_
             have n0_ := Aside0.mk (Kd.S_drew HO_278001.out)
             have n1_ := Aside0.mk (Kd.S_drew HO284.out)
             have n2_ := Aside0.mk (blk_drew BK267.out)
             have n3_ := Aside0.mk (blk_drew BK269.out)
             have n4_ := Aside0.mk (blk_drew BK270.out)
             have n5_ := Aside0.mk (blk_drew BK277.out)
             have n6_ := Aside0.mk (blk_drew BK286.out)
             have n7_ := Aside0.mk (below_drew1 HB.out)
             clear HO_278001
             clear HO284
             clear BK267
             clear BK269
             clear BK270
             clear BK277
             clear BK286
             clear HB
             have HO_278001 := n0_
             have HO284 := n1_
             have BK267 := n2_
             have BK269 := n3_
             have BK270 := n4_
             have BK277 := n5_
             have BK286 := n6_
             have HB := n7_
             clear n0_ n1_ n2_ n3_ n4_ n5_ n6_ n7_
             refine start_ (n := 16) (S := fun w' => w'.cell? ⟨gb286, 0, none⟩ = some (.int .i64 t281) ∧ w'.cell? ⟨gb286, 1, none⟩ = some (.slice Ao80 t282.length co80) ∧ w'.cell? ⟨gb269, 0, none⟩ = some (.int .i64 a0_0) ∧ w'.cell? ⟨gb269, 1, none⟩ = some (.slice A0_1 l0_1.length c0_1) ∧ w'.cell? ⟨gb270, 0, none⟩ = some (.int .i64 a0_2) ∧ w'.cell? ⟨gb270, 1, none⟩ = some (.slice A0_3 l0_3.length c0_3)) (ds := []) #[false, false, false, false, false, false, false, false, false, false, false, false, false, false, false, false] (by kernel_rfl) rfl rfl ⟨(blk_cell BK286.out 0).trans rfl, (blk_cell BK286.out 1).trans rfl, (blk_cell BK269.out 0).trans rfl, (blk_cell BK269.out 1).trans rfl, (blk_cell BK270.out 0).trans rfl, (blk_cell BK270.out 1).trans rfl⟩ (fun hHeld => ?_); refine with_tabW depotlaw02_CnfMeans.tab11 depotlaw02_CnfMeans.bits11 (fun HT_ HW_ => ?_)
             generalize w81.drew = w82 at HO_278001 HO284 BK267 BK269 BK270 BK277 BK286 HB hHeld ⊢
             refine pure_ (i := 0) (N := some 56) (v := ?_) (a' := ?_) #[true, false, false, false, false, false, false, false, false, false, false, false, false, false, false, false] rfl rfl an_ (fun _ _ _ h => h) (Or.inl ⟨by rfl, ?_⟩) ?_ ?_
             rotate_left
             ·intro w'
              go_simp
              with_reducible rfl
             rotate_left
             ·ap_
              rfl
             refine pure_ (i := 1) (N := some 57) (v := ?_) (a' := ?_) #[true, true, false, false, false, false, false, false, false, false, false, false, false, false, false, false] rfl rfl an_ (fun _ _ _ h => h) (Or.inl ⟨by rfl, ?_⟩) ?_ ?_
             rotate_left
             ·intro w'
              go_simp
              with_reducible rfl
             rotate_left
             ·ap_
              rfl
             refine pure_ (i := 2) (N := some 58) (v := ?_) (a' := ?_) #[true, true, true, false, false, false, false, false, false, false, false, false, false, false, false, false] rfl rfl an_ (fun _ _ _ h => h) (Or.inl ⟨by rfl, ?_⟩) ?_ ?_
             rotate_left
             ·intro w'
              go_simp
              with_reducible rfl
             rotate_left
             ·ap_
              rfl
             refine pure_ (i := 4) (N := some 60) (v := ?_) (a' := ?_) #[true, true, true, false, true, false, false, false, false, false, false, false, false, false, false, false] rfl rfl an_ (fun _ _ _ h => h) (Or.inl ⟨by rfl, ?_⟩) ?_ ?_
             rotate_left
             ·intro w'
              go_simp
              with_reducible rfl
             rotate_left
             ·ap_
              rfl
             refine pure_ (i := 7) (N := some 63) (v := ?_) (a' := ?_) #[true, true, true, false, true, false, false, true, false, false, false, false, false, false, false, false] rfl rfl an_ (fun _ _ _ h => h) (Or.inl ⟨by rfl, ?_⟩) ?_ ?_
             rotate_left
             ·intro w'
              go_simp
              with_reducible rfl
             rotate_left
             ·ap_
              rfl
             refine take_ (i := 3) (N := some 59) (v := ?_) (a' := ?_) #[true, true, true, true, true, false, false, true, false, false, false, false, false, false, false, false] rfl rfl (take_ofW HT_.out HW_.out (by kernel_rfl)) (fun _ _ _ h => h) (Or.inl ⟨by rfl, ?_⟩) hHeld ?_ ?_
             rotate_left
             ·rintro w' ⟨s0, s1, s2, s3, s4, s5⟩
              go_simp
              with_reducible rfl
             rotate_left
             ·ap_
              rfl
             refine take_ (i := 6) (N := some 62) (v := ?_) (a' := ?_) #[true, true, true, true, true, false, true, true, false, false, false, false, false, false, false, false] rfl rfl (take_ofW HT_.out HW_.out (by kernel_rfl)) (fun _ _ _ h => h) (Or.inl ⟨by rfl, ?_⟩) hHeld ?_ ?_
             rotate_left
             ·rintro w' ⟨s0, s1, s2, s3, s4, s5⟩
              go_simp
              with_reducible rfl
             rotate_left
             ·ap_
              rfl
             refine one_ (i := 5) (N := some 61) #[true, true, true, true, true, true, true, true, false, false, false, false, false, false, false, false] rfl rfl (one_of HT_.out (by kernel_rfl)) (by decide) (fun K hK => ?_)
             refine goes_ Tryd.func18 (by kernel_rfl) rfl #[.agg #[.int .i64 t281, .slice Ao80 t282.length co80], .slice A0_5 l0_5.length c0_5] (by rfl) rfl rfl (by lm_) ?_
             with_reducible refine (cnf_Satisfies.calls kj39 t281 _ _ t282 _ _ l0_5 t287 _ ?side1 ?side2 ?side3 ?side4 A61.out).mono ?_
             (case side1 => repeat (first | exact (Kd.S_reads' HO284.out).2.2 | (with_reducible refine Kd.C_alloc ?_ _) | (with_reducible refine Kd.C_drewN ?_ _) | (with_reducible refine Kd.C_drew ?_)))
             (case side2 => exact (Kd.S_reads' HO284.out).2.1)
             (case side3 => repeat (first | exact (Kd.C_below HR0_5.out HB.out) | (with_reducible refine Kd.C_alloc ?_ _) | (with_reducible refine Kd.C_drewN ?_ _) | (with_reducible refine Kd.C_drew ?_)))
             (case side4 => exact HC0_5.out)
             rintro e w83 ⟨rfl, hb⟩
             refine ⟨_, rfl, ?_⟩
             have n0_ := Aside0.mk (Kd.S_below (by sl_; exact HO_278001.out) hb)
             have n1_ := Aside0.mk (Kd.S_below (by sl_; exact HO284.out) hb)
             have n2_ := Aside0.mk (blk_below (g := gb267) (o := .cells ob0_ 43 (0, 0)) (by bl_; exact BK267.out) hb)
             have n3_ := Aside0.mk (blk_below (g := gb269) (o := .cells ob1_ 24 (0, 0)) (by bl_; exact BK269.out) hb)
             have n4_ := Aside0.mk (blk_below (g := gb270) (o := .cells ob2_ 24 (0, 0)) (by bl_; exact BK270.out) hb)
             have n5_ := Aside0.mk (blk_below (g := gb277) (o := .cells ob3_ 24 (0, 0)) (by bl_; exact BK277.out) hb)
             have n6_ := Aside0.mk (blk_below (g := gb286) (o := .cells #[.int .i64 t281, .slice Ao80 t282.length co80] 24 (0, 0)) (by bl_; exact BK286.out) hb)
             have n7_ := Aside0.mk (below_step (by be1_) hb)
             clear HO_278001
             clear HO284
             clear BK267
             clear BK269
             clear BK270
             clear BK277
             clear BK286
             clear HB
             have HO_278001 := n0_
             have HO284 := n1_
             have BK267 := n2_
             have BK269 := n3_
             have BK270 := n4_
             have BK277 := n5_
             have BK286 := n6_
             have HB := n7_
             clear n0_ n1_ n2_ n3_ n4_ n5_ n6_ n7_
             (try clear hb)
             (try clear hb2)
             (try clear hk)
             (try clear hi)
             refine hK.out _ _ ⟨(blk_cell BK286.out 0).trans rfl, (blk_cell BK286.out 1).trans rfl, (blk_cell BK269.out 0).trans rfl, (blk_cell BK269.out 1).trans rfl, (blk_cell BK270.out 0).trans rfl, (blk_cell BK270.out 1).trans rfl⟩ (fun hHeld => ?_)
             clear hK K
             refine norm_ (a' := ?_) ?_ ?_
             rotate_left
             ·show Act.put _ (some 61) _ = _
              ap_
              rfl
             refine one_ (i := 8) (N := some 64) #[true, true, true, true, true, true, true, true, true, false, false, false, false, false, false, false] rfl rfl (one_of HT_.out (by kernel_rfl)) (by decide) (fun K hK => ?_)
             refine goes_ Tryd.func18 (by kernel_rfl) rfl #[.agg ob1_, .slice A0_5 l0_5.length c0_5] (by rfl) rfl rfl (by lm_) ?_
             with_reducible refine (cnf_Satisfies.calls kj39 a0_0 _ _ l0_1 _ _ l0_5 true _ ?side1 ?side2 ?side3 ?side4 A62.out).mono ?_
             (case side1 => repeat (first | exact (Kd.C_below HR0_1.out HB.out) | (with_reducible refine Kd.C_alloc ?_ _) | (with_reducible refine Kd.C_drewN ?_ _) | (with_reducible refine Kd.C_drew ?_)))
             (case side2 => exact HC0_1.out)
             (case side3 => repeat (first | exact (Kd.C_below HR0_5.out HB.out) | (with_reducible refine Kd.C_alloc ?_ _) | (with_reducible refine Kd.C_drewN ?_ _) | (with_reducible refine Kd.C_drew ?_)))
             (case side4 => exact HC0_5.out)
             rintro e w84 ⟨rfl, hb⟩
             refine ⟨_, rfl, ?_⟩
             have n0_ := Aside0.mk (Kd.S_below (by sl_; exact HO_278001.out) hb)
             have n1_ := Aside0.mk (Kd.S_below (by sl_; exact HO284.out) hb)
             have n2_ := Aside0.mk (blk_below (g := gb267) (o := .cells ob0_ 43 (0, 0)) (by bl_; exact BK267.out) hb)
             have n3_ := Aside0.mk (blk_below (g := gb269) (o := .cells ob1_ 24 (0, 0)) (by bl_; exact BK269.out) hb)
             have n4_ := Aside0.mk (blk_below (g := gb270) (o := .cells ob2_ 24 (0, 0)) (by bl_; exact BK270.out) hb)
             have n5_ := Aside0.mk (blk_below (g := gb277) (o := .cells ob3_ 24 (0, 0)) (by bl_; exact BK277.out) hb)
             have n6_ := Aside0.mk (blk_below (g := gb286) (o := .cells #[.int .i64 t281, .slice Ao80 t282.length co80] 24 (0, 0)) (by bl_; exact BK286.out) hb)
             have n7_ := Aside0.mk (below_step (by be1_) hb)
             clear HO_278001
             clear HO284
             clear BK267
             clear BK269
             clear BK270
             clear BK277
             clear BK286
             clear HB
             have HO_278001 := n0_
             have HO284 := n1_
             have BK267 := n2_
             have BK269 := n3_
             have BK270 := n4_
             have BK277 := n5_
             have BK286 := n6_
             have HB := n7_
             clear n0_ n1_ n2_ n3_ n4_ n5_ n6_ n7_
             (try clear hb)
             (try clear hb2)
             (try clear hk)
             (try clear hi)
             refine hK.out _ _ ⟨(blk_cell BK286.out 0).trans rfl, (blk_cell BK286.out 1).trans rfl, (blk_cell BK269.out 0).trans rfl, (blk_cell BK269.out 1).trans rfl, (blk_cell BK270.out 0).trans rfl, (blk_cell BK270.out 1).trans rfl⟩ (fun hHeld => ?_)
             clear hK K
             refine norm_ (a' := ?_) ?_ ?_
             rotate_left
             ·show Act.put _ (some 64) _ = _
              ap_
              rfl
             refine pure_ (i := 9) (N := some 65) (v := ?_) (a' := ?_) #[true, true, true, true, true, true, true, true, true, true, false, false, false, false, false, false] rfl rfl an_ (fun _ _ _ h => h) (Or.inl ⟨by rfl, ?_⟩) ?_ ?_
             rotate_left
             ·intro w'
              go_simp
              with_reducible rfl
             rotate_left
             ·ap_
              rfl
             refine pure_ (i := 11) (N := some 67) (v := ?_) (a' := ?_) #[true, true, true, true, true, true, true, true, true, true, false, true, false, false, false, false] rfl rfl an_ (fun _ _ _ h => h) (Or.inl ⟨by rfl, ?_⟩) ?_ ?_
             rotate_left
             ·intro w'
              go_simp
              with_reducible rfl
             rotate_left
             ·ap_
              rfl
             refine take_ (i := 10) (N := some 66) (v := ?_) (a' := ?_) #[true, true, true, true, true, true, true, true, true, true, true, true, false, false, false, false] rfl rfl (take_ofW HT_.out HW_.out (by kernel_rfl)) (fun _ _ _ h => h) (Or.inl ⟨by rfl, ?_⟩) hHeld ?_ ?_
             rotate_left
             ·rintro w' ⟨s0, s1, s2, s3, s4, s5⟩
              go_simp
              with_reducible rfl
             rotate_left
             ·ap_
              rfl
             refine one_ (i := 12) (N := some 68) #[true, true, true, true, true, true, true, true, true, true, true, true, true, false, false, false] rfl rfl (one_of HT_.out (by kernel_rfl)) (by decide) (fun K hK => ?_)
             refine goes_ Tryd.func18 (by kernel_rfl) rfl #[.agg ob2_, .slice A0_5 l0_5.length c0_5] (by rfl) rfl rfl (by lm_) ?_
             with_reducible refine (cnf_Satisfies.calls kj39 a0_2 _ _ l0_3 _ _ l0_5 t289 _ ?side1 ?side2 ?side3 ?side4 A64.out).mono ?_
             (case side1 => repeat (first | exact (Kd.C_below HR0_3.out HB.out) | (with_reducible refine Kd.C_alloc ?_ _) | (with_reducible refine Kd.C_drewN ?_ _) | (with_reducible refine Kd.C_drew ?_)))
             (case side2 => exact HC0_3.out)
             (case side3 => repeat (first | exact (Kd.C_below HR0_5.out HB.out) | (with_reducible refine Kd.C_alloc ?_ _) | (with_reducible refine Kd.C_drewN ?_ _) | (with_reducible refine Kd.C_drew ?_)))
             (case side4 => exact HC0_5.out)
             rintro e w85 ⟨rfl, hb⟩
             refine ⟨_, rfl, ?_⟩
             have n0_ := Aside0.mk (Kd.S_below (by sl_; exact HO_278001.out) hb)
             have n1_ := Aside0.mk (Kd.S_below (by sl_; exact HO284.out) hb)
             have n2_ := Aside0.mk (blk_below (g := gb267) (o := .cells ob0_ 43 (0, 0)) (by bl_; exact BK267.out) hb)
             have n3_ := Aside0.mk (blk_below (g := gb269) (o := .cells ob1_ 24 (0, 0)) (by bl_; exact BK269.out) hb)
             have n4_ := Aside0.mk (blk_below (g := gb270) (o := .cells ob2_ 24 (0, 0)) (by bl_; exact BK270.out) hb)
             have n5_ := Aside0.mk (blk_below (g := gb277) (o := .cells ob3_ 24 (0, 0)) (by bl_; exact BK277.out) hb)
             have n6_ := Aside0.mk (blk_below (g := gb286) (o := .cells #[.int .i64 t281, .slice Ao80 t282.length co80] 24 (0, 0)) (by bl_; exact BK286.out) hb)
             have n7_ := Aside0.mk (below_step (by be1_) hb)
             clear HO_278001
             clear HO284
             clear BK267
             clear BK269
             clear BK270
             clear BK277
             clear BK286
             clear HB
             have HO_278001 := n0_
             have HO284 := n1_
             have BK267 := n2_
             have BK269 := n3_
             have BK270 := n4_
             have BK277 := n5_
             have BK286 := n6_
             have HB := n7_
             clear n0_ n1_ n2_ n3_ n4_ n5_ n6_ n7_
             (try clear hb)
             (try clear hb2)
             (try clear hk)
             (try clear hi)
             refine hK.out _ _ ⟨(blk_cell BK286.out 0).trans rfl, (blk_cell BK286.out 1).trans rfl, (blk_cell BK269.out 0).trans rfl, (blk_cell BK269.out 1).trans rfl, (blk_cell BK270.out 0).trans rfl, (blk_cell BK270.out 1).trans rfl⟩ (fun hHeld => ?_)
             clear hK K
             refine norm_ (a' := ?_) ?_ ?_
             rotate_left
             ·show Act.put _ (some 68) _ = _
              ap_
              rfl
             refine pure_ (i := 13) (N := some 69) (v := ?_) (a' := ?_) #[true, true, true, true, true, true, true, true, true, true, true, true, true, true, false, false] rfl rfl an_ (fun _ _ _ h => h) (Or.inl ⟨by rfl, ?_⟩) ?_ ?_
             rotate_left
             ·intro w'
              go_simp
              with_reducible rfl
             rotate_left
             ·ap_
              rfl
             refine pure_ (i := 14) (N := some 70) (v := ?_) (a' := ?_) #[true, true, true, true, true, true, true, true, true, true, true, true, true, true, true, false] rfl rfl an_ (fun _ _ _ h => h) (Or.inl ⟨by rfl, ?_⟩) ?_ ?_
             rotate_left
             ·intro w'
              go_simp
              with_reducible rfl
             rotate_left
             ·ap_
              rfl
             refine pure_ (i := 15) (N := some 71) (v := ?_) (a' := ?_) #[true, true, true, true, true, true, true, true, true, true, true, true, true, true, true, true] rfl rfl an_ (fun _ _ _ h => h) (Or.inl ⟨by rfl, ?_⟩) ?_ ?_
             rotate_left
             ·intro w'
              go_simp
              with_reducible rfl
             rotate_left
             ·ap_
              rfl
             refine done_ (done_of HT_.out (by kernel_rfl)) ?_
             try go_wp2
             go_ret
             exact ⟨by first | rfl | (simp [errW_none, errW_some] <;> rfl) | (simp [*, errW_none, errW_some] <;> rfl), by be1_⟩
            ·rw [if_neg c65] at H
             have c65b0 : (t287 != t289) = false := by simpa using c65
             (try (have c65b1 : decide (t287 = t289) = true := by simpa using c65))
             (try (have c65b2 : (t287 == t289) = true := by simpa using c65))
             clear c65
             have H' := Aside0.mk H
             clear H
             have hnb86 := NB269_267.out
             have hnc86 := NB267_269.out
             have hnb87 := NB269_270.out
             have hnc87 := NB270_269.out
             have hnb88 := NB269_277.out
             have hnc88 := NB277_269.out
             have hcz89_0 : wc.cell? ⟨gb269, 0, none⟩ = some (.int .i64 a0_0) := (blk_cell BK269.out 0).trans rfl
             have hcz89_1 : wc.cell? ⟨gb269, 1, none⟩ = some (.slice A0_1 l0_1.length c0_1) := (blk_cell BK269.out 1).trans rfl
             have hfz89_0 := blk_frozen BK269.out 0
             have hfz89_1 := blk_frozen BK269.out 1
             have hnb90 := NB270_267.out
             have hnc90 := NB267_270.out
             have hnb91 := NB270_277.out
             have hnc91 := NB277_270.out
             have hcz92_0 : wc.cell? ⟨gb270, 0, none⟩ = some (.int .i64 a0_2) := (blk_cell BK270.out 0).trans rfl
             have hcz92_1 : wc.cell? ⟨gb270, 1, none⟩ = some (.slice A0_3 l0_3.length c0_3) := (blk_cell BK270.out 1).trans rfl
             have hfz92_0 := blk_frozen BK270.out 0
             have hfz92_1 := blk_frozen BK270.out 1
             try go_wp2_with (first | ((with_reducible refine gate_callee (f := 19) rfl ?_); refine goesL_ (some 53) rfl rfl Tryd.func19 (by kernel_rfl) rfl #[.agg ob1_, .agg ob2_] rfl (by lm_) ?_; (with_reducible refine (cnf_Join.calls kj39 a0_0 _ _ l0_1 a0_2 _ _ l0_3 t281 t282 t285 _ ?side1 ?side2 ?side3 ?side4 A59.out).mono ?_); (case side1 => repeat (first | exact (Kd.C_below HR0_1.out HB.out) | (with_reducible refine Kd.C_alloc ?_ _) | (with_reducible refine Kd.C_drewN ?_ _) | (with_reducible refine Kd.C_drew ?_))); (case side2 => exact HC0_1.out); (case side3 => repeat (first | exact (Kd.C_below HR0_3.out HB.out) | (with_reducible refine Kd.C_alloc ?_ _) | (with_reducible refine Kd.C_drewN ?_ _) | (with_reducible refine Kd.C_drew ?_))); (case side4 => exact HC0_3.out); rintro e w93 ⟨v283, rfl, ho0, hb⟩; refine ⟨_, rfl, ?_⟩; have n0_ := Aside0.mk (Kd.S_elder' (by sl_; exact HO_278001.out) (Kd.S_base ho0) hb); have n1_ := Aside0.mk (Kd.S_lower (Kd.S_new' ho0 (Kd.S_lt (by sl_; exact HO_278001.out))) (below_size (by be0_))); have n2_ := Aside0.mk (blk_below (g := gb267) (o := .cells ob0_ 43 (0, 0)) (by bl_; exact BK267.out) hb); have n3_ := Aside0.mk (blk_below (g := gb269) (o := .cells ob1_ 24 (0, 0)) (by bl_; exact BK269.out) hb); have n4_ := Aside0.mk (blk_below (g := gb270) (o := .cells ob2_ 24 (0, 0)) (by bl_; exact BK270.out) hb); have n5_ := Aside0.mk (blk_below (g := gb277) (o := .cells ob3_ 24 (0, 0)) (by bl_; exact BK277.out) hb); have n6_ := Aside0.mk (below_step (by be0_) hb); clear HO_278001; clear BK267; clear BK269; clear BK270; clear BK277; clear HB; have HO_278001 := n0_; have HO284 := n1_; have BK267 := n2_; have BK269 := n3_; have BK270 := n4_; have BK277 := n5_; have HB := n6_; clear n0_ n1_ n2_ n3_ n4_ n5_ n6_; ch_) | ((with_reducible refine gate_dst (N := 9) rfl ?_); refine box_event ?hg (N := 9) ?hd (cs := #[.int .i64 0, .slice none 0 0]) (t := 24) ?hr ?_; bx_; intro gb286 hg w94 hbox hb; have n0_ := Aside0.mk (Kd.S_below (by sl_; exact HO_278001.out) hb); have n1_ := Aside0.mk (Kd.S_below (by sl_; exact HO284.out) hb); have n2_ := Aside0.mk (blk_below (g := gb267) (o := .cells ob0_ 43 (0, 0)) (by bl_; exact BK267.out) hb); have n3_ := Aside0.mk (blk_below (g := gb269) (o := .cells ob1_ 24 (0, 0)) (by bl_; exact BK269.out) hb); have n4_ := Aside0.mk (blk_below (g := gb270) (o := .cells ob2_ 24 (0, 0)) (by bl_; exact BK270.out) hb); have n5_ := Aside0.mk (blk_below (g := gb277) (o := .cells ob3_ 24 (0, 0)) (by bl_; exact BK277.out) hb); have n6_ := Aside0.mk (below_step (by be0_) hb); have n7_ := Aside0.mk (hbox); have n8_ := Aside0.mk ((by rw [hg]; exact (below_size (by be0_)) : w.heap.size ≤ gb286)); have n9_ := Aside0.mk ((by rw [hg]; exact (below_size (by be0_)) : w.heap.size ≤ gb286)); have n10_ := Aside0.mk ((by rw [hg]; exact Nat.ne_of_lt (blk_lt (g := gb267) (o := .cells ob0_ 43 (0, 0)) (by bl_; exact BK267.out)) : gb267 ≠ gb286)); have n11_ := Aside0.mk ((by rw [hg]; exact Nat.ne_of_gt (blk_lt (g := gb267) (o := .cells ob0_ 43 (0, 0)) (by bl_; exact BK267.out)) : gb286 ≠ gb267)); have n12_ := Aside0.mk ((by rw [hg]; exact Nat.ne_of_lt (blk_lt (g := gb269) (o := .cells ob1_ 24 (0, 0)) (by bl_; exact BK269.out)) : gb269 ≠ gb286)); have n13_ := Aside0.mk ((by rw [hg]; exact Nat.ne_of_gt (blk_lt (g := gb269) (o := .cells ob1_ 24 (0, 0)) (by bl_; exact BK269.out)) : gb286 ≠ gb269)); have n14_ := Aside0.mk ((by rw [hg]; exact Nat.ne_of_lt (blk_lt (g := gb270) (o := .cells ob2_ 24 (0, 0)) (by bl_; exact BK270.out)) : gb270 ≠ gb286)); have n15_ := Aside0.mk ((by rw [hg]; exact Nat.ne_of_gt (blk_lt (g := gb270) (o := .cells ob2_ 24 (0, 0)) (by bl_; exact BK270.out)) : gb286 ≠ gb270)); have n16_ := Aside0.mk ((by rw [hg]; exact Nat.ne_of_lt (blk_lt (g := gb277) (o := .cells ob3_ 24 (0, 0)) (by bl_; exact BK277.out)) : gb277 ≠ gb286)); have n17_ := Aside0.mk ((by rw [hg]; exact Nat.ne_of_gt (blk_lt (g := gb277) (o := .cells ob3_ 24 (0, 0)) (by bl_; exact BK277.out)) : gb286 ≠ gb277)); clear HO_278001; clear HO284; clear BK267; clear BK269; clear BK270; clear BK277; clear HB; have HO_278001 := n0_; have HO284 := n1_; have BK267 := n2_; have BK269 := n3_; have BK270 := n4_; have BK277 := n5_; have HB := n6_; have BK286 := n7_; have GW286 := n8_; have GE286 := n9_; have NB267_286 := n10_; have NB286_267 := n11_; have NB269_286 := n12_; have NB286_269 := n13_; have NB270_286 := n14_; have NB286_270 := n15_; have NB277_286 := n16_; have NB286_277 := n17_; clear n0_ n1_ n2_ n3_ n4_ n5_ n6_ n7_ n8_ n9_ n10_ n11_ n12_ n13_ n14_ n15_ n16_ n17_; clear hb hbox hg; have hnb95 := NB286_267.out; have hnc95 := NB267_286.out; have hnb96 := NB286_269.out; have hnc96 := NB269_286.out; have hnb97 := NB286_270.out; have hnc97 := NB270_286.out; have hnb98 := NB286_277.out; have hnc98 := NB277_286.out; have hcz99_0 : w94.cell? ⟨gb286, 0, none⟩ = some (.int .i64 0) := (blk_cell BK286.out 0).trans rfl; have hcz99_1 : w94.cell? ⟨gb286, 1, none⟩ = some (.slice none 0 0) := (blk_cell BK286.out 1).trans rfl; have hfz99_0 := blk_frozen BK286.out 0; have hfz99_1 := blk_frozen BK286.out 1; obtain ⟨Ao100, co100, eo100⟩ := Kd.S_slice HO284.out; subst eo100))
             have n0_ : Aside0 (Kd.S (Kd.slice 3 (Kd.int .i64)) 40 ((w94.setCell ⟨gb286, 0, none⟩ (.int .i64 t281)).setCell ⟨gb286, 1, none⟩ (.slice Ao100 t282.length co100)) w.heap.size (fun k_ => some k_ ≠ (.slice Ao100 t282.length co100 : Value).ownBlock) (.slice Ao29 t273.length co29) t273) := ⟨by sl_; exact Kd.S_mono (Kd.S_far (p := ⟨gb286, 1, none⟩) (Kd.S_far (p := ⟨gb286, 0, none⟩) (Kd.S_types HO_278001.out BK286.out (by decide)) (fun _ hk => hk.2) (.int .i64 t281)) (fun _ hk => hk.2) (.slice Ao100 t282.length co100)) (fun _ hk => hk.1.2)⟩
             have n1_ : Aside0 (Kd.S (Kd.slice 3 (Kd.int .i64)) 40 ((w94.setCell ⟨gb286, 0, none⟩ (.int .i64 t281)).setCell ⟨gb286, 1, none⟩ (.slice Ao100 t282.length co100)) w.heap.size (fun k_ => some k_ ≠ (.slice Ao29 t273.length co29 : Value).ownBlock) (.slice Ao100 t282.length co100) t282) := ⟨by sl_; exact Kd.S_mono (Kd.S_far (p := ⟨gb286, 1, none⟩) (Kd.S_far (p := ⟨gb286, 0, none⟩) (Kd.S_types HO284.out BK286.out (by decide)) (fun _ hk => hk.2) (.int .i64 t281)) (fun _ hk => hk.2) (.slice Ao100 t282.length co100)) (fun _ hk => hk.1.2)⟩
             have n2_ : Aside0 (((w94.setCell ⟨gb286, 0, none⟩ (.int .i64 t281)).setCell ⟨gb286, 1, none⟩ (.slice Ao100 t282.length co100)).heap[gb267]? = some (.cells ob0_ 43 (0, 0))) := ⟨by bl_; refine blk_far ?_ NB267_286.out _; bl_; refine blk_far ?_ NB267_286.out _; bl_; exact BK267.out⟩
             have n3_ : Aside0 (((w94.setCell ⟨gb286, 0, none⟩ (.int .i64 t281)).setCell ⟨gb286, 1, none⟩ (.slice Ao100 t282.length co100)).heap[gb269]? = some (.cells ob1_ 24 (0, 0))) := ⟨by bl_; refine blk_far ?_ NB269_286.out _; bl_; refine blk_far ?_ NB269_286.out _; bl_; exact BK269.out⟩
             have n4_ : Aside0 (((w94.setCell ⟨gb286, 0, none⟩ (.int .i64 t281)).setCell ⟨gb286, 1, none⟩ (.slice Ao100 t282.length co100)).heap[gb270]? = some (.cells ob2_ 24 (0, 0))) := ⟨by bl_; refine blk_far ?_ NB270_286.out _; bl_; refine blk_far ?_ NB270_286.out _; bl_; exact BK270.out⟩
             have n5_ : Aside0 (((w94.setCell ⟨gb286, 0, none⟩ (.int .i64 t281)).setCell ⟨gb286, 1, none⟩ (.slice Ao100 t282.length co100)).heap[gb277]? = some (.cells ob3_ 24 (0, 0))) := ⟨by bl_; refine blk_far ?_ NB277_286.out _; bl_; refine blk_far ?_ NB277_286.out _; bl_; exact BK277.out⟩
             have n6_ : Aside0 (((w94.setCell ⟨gb286, 0, none⟩ (.int .i64 t281)).setCell ⟨gb286, 1, none⟩ (.slice Ao100 t282.length co100)).heap[gb286]? = some (.cells #[.int .i64 t281, .slice Ao100 t282.length co100] 24 (0, 0))) := ⟨by bl_; refine blk_put (cs := #[.int .i64 t281, .slice none 0 0]) ?_ 1 _ rfl; bl_; refine blk_put (cs := #[.int .i64 0, .slice none 0 0]) ?_ 0 _ rfl; bl_; exact BK286.out⟩
             have n7_ : Aside0 (Below w.heap.size w ((w94.setCell ⟨gb286, 0, none⟩ (.int .i64 t281)).setCell ⟨gb286, 1, none⟩ (.slice Ao100 t282.length co100))) := ⟨by be1_⟩
             (try clear HO_278001)
             (try clear HO284)
             (try clear BK267)
             (try clear BK269)
             (try clear BK270)
             (try clear BK277)
             (try clear BK286)
             (try clear HB)
             generalize ((w94.setCell ⟨gb286, 0, none⟩ (.int .i64 t281)).setCell ⟨gb286, 1, none⟩ (.slice Ao100 t282.length co100)) = w101 at n0_ n1_ n2_ n3_ n4_ n5_ n6_ n7_ ⊢
             have HO_278001 := n0_
             have HO284 := n1_
             have BK267 := n2_
             have BK269 := n3_
             have BK270 := n4_
             have BK277 := n5_
             have BK286 := n6_
             have HB := n7_
             clear n0_ n1_ n2_ n3_ n4_ n5_ n6_ n7_
             have n0_ := Aside0.mk (Kd.S_drew HO_278001.out)
             have n1_ := Aside0.mk (Kd.S_drew HO284.out)
             have n2_ := Aside0.mk (blk_drew BK267.out)
             have n3_ := Aside0.mk (blk_drew BK269.out)
             have n4_ := Aside0.mk (blk_drew BK270.out)
             have n5_ := Aside0.mk (blk_drew BK277.out)
             have n6_ := Aside0.mk (blk_drew BK286.out)
             have n7_ := Aside0.mk (below_drew1 HB.out)
             clear HO_278001
             clear HO284
             clear BK267
             clear BK269
             clear BK270
             clear BK277
             clear BK286
             clear HB
             have HO_278001 := n0_
             have HO284 := n1_
             have BK267 := n2_
             have BK269 := n3_
             have BK270 := n4_
             have BK277 := n5_
             have BK286 := n6_
             have HB := n7_
             clear n0_ n1_ n2_ n3_ n4_ n5_ n6_ n7_
             refine start_ (n := 16) (S := fun w' => w'.cell? ⟨gb286, 0, none⟩ = some (.int .i64 t281) ∧ w'.cell? ⟨gb286, 1, none⟩ = some (.slice Ao100 t282.length co100) ∧ w'.cell? ⟨gb269, 0, none⟩ = some (.int .i64 a0_0) ∧ w'.cell? ⟨gb269, 1, none⟩ = some (.slice A0_1 l0_1.length c0_1) ∧ w'.cell? ⟨gb270, 0, none⟩ = some (.int .i64 a0_2) ∧ w'.cell? ⟨gb270, 1, none⟩ = some (.slice A0_3 l0_3.length c0_3)) (ds := []) #[false, false, false, false, false, false, false, false, false, false, false, false, false, false, false, false] (by kernel_rfl) rfl rfl ⟨(blk_cell BK286.out 0).trans rfl, (blk_cell BK286.out 1).trans rfl, (blk_cell BK269.out 0).trans rfl, (blk_cell BK269.out 1).trans rfl, (blk_cell BK270.out 0).trans rfl, (blk_cell BK270.out 1).trans rfl⟩ (fun hHeld => ?_); refine with_tabW depotlaw02_CnfMeans.tab11 depotlaw02_CnfMeans.bits11 (fun HT_ HW_ => ?_)
             generalize w101.drew = w102 at HO_278001 HO284 BK267 BK269 BK270 BK277 BK286 HB hHeld ⊢
             refine pure_ (i := 0) (N := some 56) (v := ?_) (a' := ?_) #[true, false, false, false, false, false, false, false, false, false, false, false, false, false, false, false] rfl rfl an_ (fun _ _ _ h => h) (Or.inl ⟨by rfl, ?_⟩) ?_ ?_
             rotate_left
             ·intro w'
              go_simp
              with_reducible rfl
             rotate_left
             ·ap_
              rfl
             refine pure_ (i := 1) (N := some 57) (v := ?_) (a' := ?_) #[true, true, false, false, false, false, false, false, false, false, false, false, false, false, false, false] rfl rfl an_ (fun _ _ _ h => h) (Or.inl ⟨by rfl, ?_⟩) ?_ ?_
             rotate_left
             ·intro w'
              go_simp
              with_reducible rfl
             rotate_left
             ·ap_
              rfl
             refine pure_ (i := 2) (N := some 58) (v := ?_) (a' := ?_) #[true, true, true, false, false, false, false, false, false, false, false, false, false, false, false, false] rfl rfl an_ (fun _ _ _ h => h) (Or.inl ⟨by rfl, ?_⟩) ?_ ?_
             rotate_left
             ·intro w'
              go_simp
              with_reducible rfl
             rotate_left
             ·ap_
              rfl
             refine pure_ (i := 4) (N := some 60) (v := ?_) (a' := ?_) #[true, true, true, false, true, false, false, false, false, false, false, false, false, false, false, false] rfl rfl an_ (fun _ _ _ h => h) (Or.inl ⟨by rfl, ?_⟩) ?_ ?_
             rotate_left
             ·intro w'
              go_simp
              with_reducible rfl
             rotate_left
             ·ap_
              rfl
             refine pure_ (i := 7) (N := some 63) (v := ?_) (a' := ?_) #[true, true, true, false, true, false, false, true, false, false, false, false, false, false, false, false] rfl rfl an_ (fun _ _ _ h => h) (Or.inl ⟨by rfl, ?_⟩) ?_ ?_
             rotate_left
             ·intro w'
              go_simp
              with_reducible rfl
             rotate_left
             ·ap_
              rfl
             refine take_ (i := 3) (N := some 59) (v := ?_) (a' := ?_) #[true, true, true, true, true, false, false, true, false, false, false, false, false, false, false, false] rfl rfl (take_ofW HT_.out HW_.out (by kernel_rfl)) (fun _ _ _ h => h) (Or.inl ⟨by rfl, ?_⟩) hHeld ?_ ?_
             rotate_left
             ·rintro w' ⟨s0, s1, s2, s3, s4, s5⟩
              go_simp
              with_reducible rfl
             rotate_left
             ·ap_
              rfl
             refine take_ (i := 6) (N := some 62) (v := ?_) (a' := ?_) #[true, true, true, true, true, false, true, true, false, false, false, false, false, false, false, false] rfl rfl (take_ofW HT_.out HW_.out (by kernel_rfl)) (fun _ _ _ h => h) (Or.inl ⟨by rfl, ?_⟩) hHeld ?_ ?_
             rotate_left
             ·rintro w' ⟨s0, s1, s2, s3, s4, s5⟩
              go_simp
              with_reducible rfl
             rotate_left
             ·ap_
              rfl
             refine one_ (i := 5) (N := some 61) #[true, true, true, true, true, true, true, true, false, false, false, false, false, false, false, false] rfl rfl (one_of HT_.out (by kernel_rfl)) (by decide) (fun K hK => ?_)
             refine goes_ Tryd.func18 (by kernel_rfl) rfl #[.agg #[.int .i64 t281, .slice Ao100 t282.length co100], .slice A0_5 l0_5.length c0_5] (by rfl) rfl rfl (by lm_) ?_
             with_reducible refine (cnf_Satisfies.calls kj39 t281 _ _ t282 _ _ l0_5 t287 _ ?side1 ?side2 ?side3 ?side4 A61.out).mono ?_
             (case side1 => repeat (first | exact (Kd.S_reads' HO284.out).2.2 | (with_reducible refine Kd.C_alloc ?_ _) | (with_reducible refine Kd.C_drewN ?_ _) | (with_reducible refine Kd.C_drew ?_)))
             (case side2 => exact (Kd.S_reads' HO284.out).2.1)
             (case side3 => repeat (first | exact (Kd.C_below HR0_5.out HB.out) | (with_reducible refine Kd.C_alloc ?_ _) | (with_reducible refine Kd.C_drewN ?_ _) | (with_reducible refine Kd.C_drew ?_)))
             (case side4 => exact HC0_5.out)
             rintro e w103 ⟨rfl, hb⟩
             refine ⟨_, rfl, ?_⟩
             have n0_ := Aside0.mk (Kd.S_below (by sl_; exact HO_278001.out) hb)
             have n1_ := Aside0.mk (Kd.S_below (by sl_; exact HO284.out) hb)
             have n2_ := Aside0.mk (blk_below (g := gb267) (o := .cells ob0_ 43 (0, 0)) (by bl_; exact BK267.out) hb)
             have n3_ := Aside0.mk (blk_below (g := gb269) (o := .cells ob1_ 24 (0, 0)) (by bl_; exact BK269.out) hb)
             have n4_ := Aside0.mk (blk_below (g := gb270) (o := .cells ob2_ 24 (0, 0)) (by bl_; exact BK270.out) hb)
             have n5_ := Aside0.mk (blk_below (g := gb277) (o := .cells ob3_ 24 (0, 0)) (by bl_; exact BK277.out) hb)
             have n6_ := Aside0.mk (blk_below (g := gb286) (o := .cells #[.int .i64 t281, .slice Ao100 t282.length co100] 24 (0, 0)) (by bl_; exact BK286.out) hb)
             have n7_ := Aside0.mk (below_step (by be1_) hb)
             clear HO_278001
             clear HO284
             clear BK267
             clear BK269
             clear BK270
             clear BK277
             clear BK286
             clear HB
             have HO_278001 := n0_
             have HO284 := n1_
             have BK267 := n2_
             have BK269 := n3_
             have BK270 := n4_
             have BK277 := n5_
             have BK286 := n6_
             have HB := n7_
             clear n0_ n1_ n2_ n3_ n4_ n5_ n6_ n7_
             (try clear hb)
             (try clear hb2)
             (try clear hk)
             (try clear hi)
             refine hK.out _ _ ⟨(blk_cell BK286.out 0).trans rfl, (blk_cell BK286.out 1).trans rfl, (blk_cell BK269.out 0).trans rfl, (blk_cell BK269.out 1).trans rfl, (blk_cell BK270.out 0).trans rfl, (blk_cell BK270.out 1).trans rfl⟩ (fun hHeld => ?_)
             clear hK K
             refine norm_ (a' := ?_) ?_ ?_
             rotate_left
             ·show Act.put _ (some 61) _ = _
              ap_
              rfl
             refine one_ (i := 8) (N := some 64) #[true, true, true, true, true, true, true, true, true, false, false, false, false, false, false, false] rfl rfl (one_of HT_.out (by kernel_rfl)) (by decide) (fun K hK => ?_)
             refine goes_ Tryd.func18 (by kernel_rfl) rfl #[.agg ob1_, .slice A0_5 l0_5.length c0_5] (by rfl) rfl rfl (by lm_) ?_
             with_reducible refine (cnf_Satisfies.calls kj39 a0_0 _ _ l0_1 _ _ l0_5 true _ ?side1 ?side2 ?side3 ?side4 A62.out).mono ?_
             (case side1 => repeat (first | exact (Kd.C_below HR0_1.out HB.out) | (with_reducible refine Kd.C_alloc ?_ _) | (with_reducible refine Kd.C_drewN ?_ _) | (with_reducible refine Kd.C_drew ?_)))
             (case side2 => exact HC0_1.out)
             (case side3 => repeat (first | exact (Kd.C_below HR0_5.out HB.out) | (with_reducible refine Kd.C_alloc ?_ _) | (with_reducible refine Kd.C_drewN ?_ _) | (with_reducible refine Kd.C_drew ?_)))
             (case side4 => exact HC0_5.out)
             rintro e w104 ⟨rfl, hb⟩
             refine ⟨_, rfl, ?_⟩
             have n0_ := Aside0.mk (Kd.S_below (by sl_; exact HO_278001.out) hb)
             have n1_ := Aside0.mk (Kd.S_below (by sl_; exact HO284.out) hb)
             have n2_ := Aside0.mk (blk_below (g := gb267) (o := .cells ob0_ 43 (0, 0)) (by bl_; exact BK267.out) hb)
             have n3_ := Aside0.mk (blk_below (g := gb269) (o := .cells ob1_ 24 (0, 0)) (by bl_; exact BK269.out) hb)
             have n4_ := Aside0.mk (blk_below (g := gb270) (o := .cells ob2_ 24 (0, 0)) (by bl_; exact BK270.out) hb)
             have n5_ := Aside0.mk (blk_below (g := gb277) (o := .cells ob3_ 24 (0, 0)) (by bl_; exact BK277.out) hb)
             have n6_ := Aside0.mk (blk_below (g := gb286) (o := .cells #[.int .i64 t281, .slice Ao100 t282.length co100] 24 (0, 0)) (by bl_; exact BK286.out) hb)
             have n7_ := Aside0.mk (below_step (by be1_) hb)
             clear HO_278001
             clear HO284
             clear BK267
             clear BK269
             clear BK270
             clear BK277
             clear BK286
             clear HB
             have HO_278001 := n0_
             have HO284 := n1_
             have BK267 := n2_
             have BK269 := n3_
             have BK270 := n4_
             have BK277 := n5_
             have BK286 := n6_
             have HB := n7_
             clear n0_ n1_ n2_ n3_ n4_ n5_ n6_ n7_
             (try clear hb)
             (try clear hb2)
             (try clear hk)
             (try clear hi)
             refine hK.out _ _ ⟨(blk_cell BK286.out 0).trans rfl, (blk_cell BK286.out 1).trans rfl, (blk_cell BK269.out 0).trans rfl, (blk_cell BK269.out 1).trans rfl, (blk_cell BK270.out 0).trans rfl, (blk_cell BK270.out 1).trans rfl⟩ (fun hHeld => ?_)
             clear hK K
             refine norm_ (a' := ?_) ?_ ?_
             rotate_left
             ·show Act.put _ (some 64) _ = _
              ap_
              rfl
             refine pure_ (i := 9) (N := some 65) (v := ?_) (a' := ?_) #[true, true, true, true, true, true, true, true, true, true, false, false, false, false, false, false] rfl rfl an_ (fun _ _ _ h => h) (Or.inl ⟨by rfl, ?_⟩) ?_ ?_
             rotate_left
             ·intro w'
              go_simp
              with_reducible rfl
             rotate_left
             ·ap_
              rfl
             refine pure_ (i := 11) (N := some 67) (v := ?_) (a' := ?_) #[true, true, true, true, true, true, true, true, true, true, false, true, false, false, false, false] rfl rfl an_ (fun _ _ _ h => h) (Or.inl ⟨by rfl, ?_⟩) ?_ ?_
             rotate_left
             ·intro w'
              go_simp
              with_reducible rfl
             rotate_left
             ·ap_
              rfl
             refine take_ (i := 10) (N := some 66) (v := ?_) (a' := ?_) #[true, true, true, true, true, true, true, true, true, true, true, true, false, false, false, false] rfl rfl (take_ofW HT_.out HW_.out (by kernel_rfl)) (fun _ _ _ h => h) (Or.inl ⟨by rfl, ?_⟩) hHeld ?_ ?_
             rotate_left
             ·rintro w' ⟨s0, s1, s2, s3, s4, s5⟩
              go_simp
              with_reducible rfl
             rotate_left
             ·ap_
              rfl
             refine one_ (i := 12) (N := some 68) #[true, true, true, true, true, true, true, true, true, true, true, true, true, false, false, false] rfl rfl (one_of HT_.out (by kernel_rfl)) (by decide) (fun K hK => ?_)
             refine goes_ Tryd.func18 (by kernel_rfl) rfl #[.agg ob2_, .slice A0_5 l0_5.length c0_5] (by rfl) rfl rfl (by lm_) ?_
             with_reducible refine (cnf_Satisfies.calls kj39 a0_2 _ _ l0_3 _ _ l0_5 t289 _ ?side1 ?side2 ?side3 ?side4 A64.out).mono ?_
             (case side1 => repeat (first | exact (Kd.C_below HR0_3.out HB.out) | (with_reducible refine Kd.C_alloc ?_ _) | (with_reducible refine Kd.C_drewN ?_ _) | (with_reducible refine Kd.C_drew ?_)))
             (case side2 => exact HC0_3.out)
             (case side3 => repeat (first | exact (Kd.C_below HR0_5.out HB.out) | (with_reducible refine Kd.C_alloc ?_ _) | (with_reducible refine Kd.C_drewN ?_ _) | (with_reducible refine Kd.C_drew ?_)))
             (case side4 => exact HC0_5.out)
             rintro e w105 ⟨rfl, hb⟩
             refine ⟨_, rfl, ?_⟩
             have n0_ := Aside0.mk (Kd.S_below (by sl_; exact HO_278001.out) hb)
             have n1_ := Aside0.mk (Kd.S_below (by sl_; exact HO284.out) hb)
             have n2_ := Aside0.mk (blk_below (g := gb267) (o := .cells ob0_ 43 (0, 0)) (by bl_; exact BK267.out) hb)
             have n3_ := Aside0.mk (blk_below (g := gb269) (o := .cells ob1_ 24 (0, 0)) (by bl_; exact BK269.out) hb)
             have n4_ := Aside0.mk (blk_below (g := gb270) (o := .cells ob2_ 24 (0, 0)) (by bl_; exact BK270.out) hb)
             have n5_ := Aside0.mk (blk_below (g := gb277) (o := .cells ob3_ 24 (0, 0)) (by bl_; exact BK277.out) hb)
             have n6_ := Aside0.mk (blk_below (g := gb286) (o := .cells #[.int .i64 t281, .slice Ao100 t282.length co100] 24 (0, 0)) (by bl_; exact BK286.out) hb)
             have n7_ := Aside0.mk (below_step (by be1_) hb)
             clear HO_278001
             clear HO284
             clear BK267
             clear BK269
             clear BK270
             clear BK277
             clear BK286
             clear HB
             have HO_278001 := n0_
             have HO284 := n1_
             have BK267 := n2_
             have BK269 := n3_
             have BK270 := n4_
             have BK277 := n5_
             have BK286 := n6_
             have HB := n7_
             clear n0_ n1_ n2_ n3_ n4_ n5_ n6_ n7_
             (try clear hb)
             (try clear hb2)
             (try clear hk)
             (try clear hi)
             refine hK.out _ _ ⟨(blk_cell BK286.out 0).trans rfl, (blk_cell BK286.out 1).trans rfl, (blk_cell BK269.out 0).trans rfl, (blk_cell BK269.out 1).trans rfl, (blk_cell BK270.out 0).trans rfl, (blk_cell BK270.out 1).trans rfl⟩ (fun hHeld => ?_)
             clear hK K
             refine norm_ (a' := ?_) ?_ ?_
             rotate_left
             ·show Act.put _ (some 68) _ = _
              ap_
              rfl
             refine pure_ (i := 13) (N := some 69) (v := ?_) (a' := ?_) #[true, true, true, true, true, true, true, true, true, true, true, true, true, true, false, false] rfl rfl an_ (fun _ _ _ h => h) (Or.inl ⟨by rfl, ?_⟩) ?_ ?_
             rotate_left
             ·intro w'
              go_simp
              with_reducible rfl
             rotate_left
             ·ap_
              rfl
             refine pure_ (i := 14) (N := some 70) (v := ?_) (a' := ?_) #[true, true, true, true, true, true, true, true, true, true, true, true, true, true, true, false] rfl rfl an_ (fun _ _ _ h => h) (Or.inl ⟨by rfl, ?_⟩) ?_ ?_
             rotate_left
             ·intro w'
              go_simp
              with_reducible rfl
             rotate_left
             ·ap_
              rfl
             refine pure_ (i := 15) (N := some 71) (v := ?_) (a' := ?_) #[true, true, true, true, true, true, true, true, true, true, true, true, true, true, true, true] rfl rfl an_ (fun _ _ _ h => h) (Or.inl ⟨by rfl, ?_⟩) ?_ ?_
             rotate_left
             ·intro w'
              go_simp
              with_reducible rfl
             rotate_left
             ·ap_
              rfl
             refine done_ (done_of HT_.out (by kernel_rfl)) ?_
             try go_wp2
             go_meet
             case rel => exact ⟨_, H', ⟨by have := HJ6.out; have := HJ39.out; first | omega | exact Nat.le_refl _⟩, ⟨by sl_; exact Kd.S_mono HO_278001.out (fun _ hk => trivial)⟩, ⟨by bl_; exact BK267.out⟩, ⟨by bl_; exact BK269.out⟩, ⟨by bl_; exact BK270.out⟩, ⟨by bl_; exact BK277.out⟩, ⟨by be1_⟩⟩
           ·replace c63 := Bool.eq_false_iff.mpr c63
            subst c63
            have H1 : (if (t287 != false) = true then (some false) else (depotlaw02_CnfMeans.j2 kj39 l0_4 l0_5 a0_0 l0_1)) = some r := by rw [if_neg (show ¬ (false = true) by decide)] at H; exact H
            clear H
            have H := H1
            clear H1
            by_cases c106 : (t287 != false) = true
            ·rw [if_pos c106] at H
             have c106b0 : (t287 != false) = true := c106
             (try (have c106b1 : decide (t287 = false) = false := by simpa using c106))
             (try (have c106b2 : (t287 == false) = false := by simpa using c106))
             (try (have c106b3 : ¬ (t287 = false) := by simpa using c106))
             clear c106
             obtain rfl := Option.some.inj H
             have hnb107 := NB269_267.out
             have hnc107 := NB267_269.out
             have hnb108 := NB269_270.out
             have hnc108 := NB270_269.out
             have hnb109 := NB269_277.out
             have hnc109 := NB277_269.out
             have hcz110_0 : wc.cell? ⟨gb269, 0, none⟩ = some (.int .i64 a0_0) := (blk_cell BK269.out 0).trans rfl
             have hcz110_1 : wc.cell? ⟨gb269, 1, none⟩ = some (.slice A0_1 l0_1.length c0_1) := (blk_cell BK269.out 1).trans rfl
             have hfz110_0 := blk_frozen BK269.out 0
             have hfz110_1 := blk_frozen BK269.out 1
             have hnb111 := NB270_267.out
             have hnc111 := NB267_270.out
             have hnb112 := NB270_277.out
             have hnc112 := NB277_270.out
             have hcz113_0 : wc.cell? ⟨gb270, 0, none⟩ = some (.int .i64 a0_2) := (blk_cell BK270.out 0).trans rfl
             have hcz113_1 : wc.cell? ⟨gb270, 1, none⟩ = some (.slice A0_3 l0_3.length c0_3) := (blk_cell BK270.out 1).trans rfl
             have hfz113_0 := blk_frozen BK270.out 0
             have hfz113_1 := blk_frozen BK270.out 1
             try go_wp2_with (first | ((with_reducible refine gate_callee (f := 19) rfl ?_); refine goesL_ (some 53) rfl rfl Tryd.func19 (by kernel_rfl) rfl #[.agg ob1_, .agg ob2_] rfl (by lm_) ?_; (with_reducible refine (cnf_Join.calls kj39 a0_0 _ _ l0_1 a0_2 _ _ l0_3 t281 t282 t285 _ ?side1 ?side2 ?side3 ?side4 A59.out).mono ?_); (case side1 => repeat (first | exact (Kd.C_below HR0_1.out HB.out) | (with_reducible refine Kd.C_alloc ?_ _) | (with_reducible refine Kd.C_drewN ?_ _) | (with_reducible refine Kd.C_drew ?_))); (case side2 => exact HC0_1.out); (case side3 => repeat (first | exact (Kd.C_below HR0_3.out HB.out) | (with_reducible refine Kd.C_alloc ?_ _) | (with_reducible refine Kd.C_drewN ?_ _) | (with_reducible refine Kd.C_drew ?_))); (case side4 => exact HC0_3.out); rintro e w114 ⟨v283, rfl, ho0, hb⟩; refine ⟨_, rfl, ?_⟩; have n0_ := Aside0.mk (Kd.S_elder' (by sl_; exact HO_278001.out) (Kd.S_base ho0) hb); have n1_ := Aside0.mk (Kd.S_lower (Kd.S_new' ho0 (Kd.S_lt (by sl_; exact HO_278001.out))) (below_size (by be0_))); have n2_ := Aside0.mk (blk_below (g := gb267) (o := .cells ob0_ 43 (0, 0)) (by bl_; exact BK267.out) hb); have n3_ := Aside0.mk (blk_below (g := gb269) (o := .cells ob1_ 24 (0, 0)) (by bl_; exact BK269.out) hb); have n4_ := Aside0.mk (blk_below (g := gb270) (o := .cells ob2_ 24 (0, 0)) (by bl_; exact BK270.out) hb); have n5_ := Aside0.mk (blk_below (g := gb277) (o := .cells ob3_ 24 (0, 0)) (by bl_; exact BK277.out) hb); have n6_ := Aside0.mk (below_step (by be0_) hb); clear HO_278001; clear BK267; clear BK269; clear BK270; clear BK277; clear HB; have HO_278001 := n0_; have HO284 := n1_; have BK267 := n2_; have BK269 := n3_; have BK270 := n4_; have BK277 := n5_; have HB := n6_; clear n0_ n1_ n2_ n3_ n4_ n5_ n6_; ch_) | ((with_reducible refine gate_dst (N := 9) rfl ?_); refine box_event ?hg (N := 9) ?hd (cs := #[.int .i64 0, .slice none 0 0]) (t := 24) ?hr ?_; bx_; intro gb286 hg w115 hbox hb; have n0_ := Aside0.mk (Kd.S_below (by sl_; exact HO_278001.out) hb); have n1_ := Aside0.mk (Kd.S_below (by sl_; exact HO284.out) hb); have n2_ := Aside0.mk (blk_below (g := gb267) (o := .cells ob0_ 43 (0, 0)) (by bl_; exact BK267.out) hb); have n3_ := Aside0.mk (blk_below (g := gb269) (o := .cells ob1_ 24 (0, 0)) (by bl_; exact BK269.out) hb); have n4_ := Aside0.mk (blk_below (g := gb270) (o := .cells ob2_ 24 (0, 0)) (by bl_; exact BK270.out) hb); have n5_ := Aside0.mk (blk_below (g := gb277) (o := .cells ob3_ 24 (0, 0)) (by bl_; exact BK277.out) hb); have n6_ := Aside0.mk (below_step (by be0_) hb); have n7_ := Aside0.mk (hbox); have n8_ := Aside0.mk ((by rw [hg]; exact (below_size (by be0_)) : w.heap.size ≤ gb286)); have n9_ := Aside0.mk ((by rw [hg]; exact (below_size (by be0_)) : w.heap.size ≤ gb286)); have n10_ := Aside0.mk ((by rw [hg]; exact Nat.ne_of_lt (blk_lt (g := gb267) (o := .cells ob0_ 43 (0, 0)) (by bl_; exact BK267.out)) : gb267 ≠ gb286)); have n11_ := Aside0.mk ((by rw [hg]; exact Nat.ne_of_gt (blk_lt (g := gb267) (o := .cells ob0_ 43 (0, 0)) (by bl_; exact BK267.out)) : gb286 ≠ gb267)); have n12_ := Aside0.mk ((by rw [hg]; exact Nat.ne_of_lt (blk_lt (g := gb269) (o := .cells ob1_ 24 (0, 0)) (by bl_; exact BK269.out)) : gb269 ≠ gb286)); have n13_ := Aside0.mk ((by rw [hg]; exact Nat.ne_of_gt (blk_lt (g := gb269) (o := .cells ob1_ 24 (0, 0)) (by bl_; exact BK269.out)) : gb286 ≠ gb269)); have n14_ := Aside0.mk ((by rw [hg]; exact Nat.ne_of_lt (blk_lt (g := gb270) (o := .cells ob2_ 24 (0, 0)) (by bl_; exact BK270.out)) : gb270 ≠ gb286)); have n15_ := Aside0.mk ((by rw [hg]; exact Nat.ne_of_gt (blk_lt (g := gb270) (o := .cells ob2_ 24 (0, 0)) (by bl_; exact BK270.out)) : gb286 ≠ gb270)); have n16_ := Aside0.mk ((by rw [hg]; exact Nat.ne_of_lt (blk_lt (g := gb277) (o := .cells ob3_ 24 (0, 0)) (by bl_; exact BK277.out)) : gb277 ≠ gb286)); have n17_ := Aside0.mk ((by rw [hg]; exact Nat.ne_of_gt (blk_lt (g := gb277) (o := .cells ob3_ 24 (0, 0)) (by bl_; exact BK277.out)) : gb286 ≠ gb277)); clear HO_278001; clear HO284; clear BK267; clear BK269; clear BK270; clear BK277; clear HB; have HO_278001 := n0_; have HO284 := n1_; have BK267 := n2_; have BK269 := n3_; have BK270 := n4_; have BK277 := n5_; have HB := n6_; have BK286 := n7_; have GW286 := n8_; have GE286 := n9_; have NB267_286 := n10_; have NB286_267 := n11_; have NB269_286 := n12_; have NB286_269 := n13_; have NB270_286 := n14_; have NB286_270 := n15_; have NB277_286 := n16_; have NB286_277 := n17_; clear n0_ n1_ n2_ n3_ n4_ n5_ n6_ n7_ n8_ n9_ n10_ n11_ n12_ n13_ n14_ n15_ n16_ n17_; clear hb hbox hg; have hnb116 := NB286_267.out; have hnc116 := NB267_286.out; have hnb117 := NB286_269.out; have hnc117 := NB269_286.out; have hnb118 := NB286_270.out; have hnc118 := NB270_286.out; have hnb119 := NB286_277.out; have hnc119 := NB277_286.out; have hcz120_0 : w115.cell? ⟨gb286, 0, none⟩ = some (.int .i64 0) := (blk_cell BK286.out 0).trans rfl; have hcz120_1 : w115.cell? ⟨gb286, 1, none⟩ = some (.slice none 0 0) := (blk_cell BK286.out 1).trans rfl; have hfz120_0 := blk_frozen BK286.out 0; have hfz120_1 := blk_frozen BK286.out 1; obtain ⟨Ao121, co121, eo121⟩ := Kd.S_slice HO284.out; subst eo121))
             have n0_ : Aside0 (Kd.S (Kd.slice 3 (Kd.int .i64)) 40 ((w115.setCell ⟨gb286, 0, none⟩ (.int .i64 t281)).setCell ⟨gb286, 1, none⟩ (.slice Ao121 t282.length co121)) w.heap.size (fun k_ => some k_ ≠ (.slice Ao121 t282.length co121 : Value).ownBlock) (.slice Ao29 t273.length co29) t273) := ⟨by sl_; exact Kd.S_mono (Kd.S_far (p := ⟨gb286, 1, none⟩) (Kd.S_far (p := ⟨gb286, 0, none⟩) (Kd.S_types HO_278001.out BK286.out (by decide)) (fun _ hk => hk.2) (.int .i64 t281)) (fun _ hk => hk.2) (.slice Ao121 t282.length co121)) (fun _ hk => hk.1.2)⟩
             have n1_ : Aside0 (Kd.S (Kd.slice 3 (Kd.int .i64)) 40 ((w115.setCell ⟨gb286, 0, none⟩ (.int .i64 t281)).setCell ⟨gb286, 1, none⟩ (.slice Ao121 t282.length co121)) w.heap.size (fun k_ => some k_ ≠ (.slice Ao29 t273.length co29 : Value).ownBlock) (.slice Ao121 t282.length co121) t282) := ⟨by sl_; exact Kd.S_mono (Kd.S_far (p := ⟨gb286, 1, none⟩) (Kd.S_far (p := ⟨gb286, 0, none⟩) (Kd.S_types HO284.out BK286.out (by decide)) (fun _ hk => hk.2) (.int .i64 t281)) (fun _ hk => hk.2) (.slice Ao121 t282.length co121)) (fun _ hk => hk.1.2)⟩
             have n2_ : Aside0 (((w115.setCell ⟨gb286, 0, none⟩ (.int .i64 t281)).setCell ⟨gb286, 1, none⟩ (.slice Ao121 t282.length co121)).heap[gb267]? = some (.cells ob0_ 43 (0, 0))) := ⟨by bl_; refine blk_far ?_ NB267_286.out _; bl_; refine blk_far ?_ NB267_286.out _; bl_; exact BK267.out⟩
             have n3_ : Aside0 (((w115.setCell ⟨gb286, 0, none⟩ (.int .i64 t281)).setCell ⟨gb286, 1, none⟩ (.slice Ao121 t282.length co121)).heap[gb269]? = some (.cells ob1_ 24 (0, 0))) := ⟨by bl_; refine blk_far ?_ NB269_286.out _; bl_; refine blk_far ?_ NB269_286.out _; bl_; exact BK269.out⟩
             have n4_ : Aside0 (((w115.setCell ⟨gb286, 0, none⟩ (.int .i64 t281)).setCell ⟨gb286, 1, none⟩ (.slice Ao121 t282.length co121)).heap[gb270]? = some (.cells ob2_ 24 (0, 0))) := ⟨by bl_; refine blk_far ?_ NB270_286.out _; bl_; refine blk_far ?_ NB270_286.out _; bl_; exact BK270.out⟩
             have n5_ : Aside0 (((w115.setCell ⟨gb286, 0, none⟩ (.int .i64 t281)).setCell ⟨gb286, 1, none⟩ (.slice Ao121 t282.length co121)).heap[gb277]? = some (.cells ob3_ 24 (0, 0))) := ⟨by bl_; refine blk_far ?_ NB277_286.out _; bl_; refine blk_far ?_ NB277_286.out _; bl_; exact BK277.out⟩
             have n6_ : Aside0 (((w115.setCell ⟨gb286, 0, none⟩ (.int .i64 t281)).setCell ⟨gb286, 1, none⟩ (.slice Ao121 t282.length co121)).heap[gb286]? = some (.cells #[.int .i64 t281, .slice Ao121 t282.length co121] 24 (0, 0))) := ⟨by bl_; refine blk_put (cs := #[.int .i64 t281, .slice none 0 0]) ?_ 1 _ rfl; bl_; refine blk_put (cs := #[.int .i64 0, .slice none 0 0]) ?_ 0 _ rfl; bl_; exact BK286.out⟩
             have n7_ : Aside0 (Below w.heap.size w ((w115.setCell ⟨gb286, 0, none⟩ (.int .i64 t281)).setCell ⟨gb286, 1, none⟩ (.slice Ao121 t282.length co121))) := ⟨by be1_⟩
             (try clear HO_278001)
             (try clear HO284)
             (try clear BK267)
             (try clear BK269)
             (try clear BK270)
             (try clear BK277)
             (try clear BK286)
             (try clear HB)
             generalize ((w115.setCell ⟨gb286, 0, none⟩ (.int .i64 t281)).setCell ⟨gb286, 1, none⟩ (.slice Ao121 t282.length co121)) = w122 at n0_ n1_ n2_ n3_ n4_ n5_ n6_ n7_ ⊢
             have HO_278001 := n0_
             have HO284 := n1_
             have BK267 := n2_
             have BK269 := n3_
             have BK270 := n4_
             have BK277 := n5_
             have BK286 := n6_
             have HB := n7_
             clear n0_ n1_ n2_ n3_ n4_ n5_ n6_ n7_
             have n0_ := Aside0.mk (Kd.S_drew HO_278001.out)
             have n1_ := Aside0.mk (Kd.S_drew HO284.out)
             have n2_ := Aside0.mk (blk_drew BK267.out)
             have n3_ := Aside0.mk (blk_drew BK269.out)
             have n4_ := Aside0.mk (blk_drew BK270.out)
             have n5_ := Aside0.mk (blk_drew BK277.out)
             have n6_ := Aside0.mk (blk_drew BK286.out)
             have n7_ := Aside0.mk (below_drew1 HB.out)
             clear HO_278001
             clear HO284
             clear BK267
             clear BK269
             clear BK270
             clear BK277
             clear BK286
             clear HB
             have HO_278001 := n0_
             have HO284 := n1_
             have BK267 := n2_
             have BK269 := n3_
             have BK270 := n4_
             have BK277 := n5_
             have BK286 := n6_
             have HB := n7_
             clear n0_ n1_ n2_ n3_ n4_ n5_ n6_ n7_
             refine start_ (n := 16) (S := fun w' => w'.cell? ⟨gb286, 0, none⟩ = some (.int .i64 t281) ∧ w'.cell? ⟨gb286, 1, none⟩ = some (.slice Ao121 t282.length co121) ∧ w'.cell? ⟨gb269, 0, none⟩ = some (.int .i64 a0_0) ∧ w'.cell? ⟨gb269, 1, none⟩ = some (.slice A0_1 l0_1.length c0_1)) (ds := []) #[false, false, false, false, false, false, false, false, false, false, false, false, false, false, false, false] (by kernel_rfl) rfl rfl ⟨(blk_cell BK286.out 0).trans rfl, (blk_cell BK286.out 1).trans rfl, (blk_cell BK269.out 0).trans rfl, (blk_cell BK269.out 1).trans rfl⟩ (fun hHeld => ?_); refine with_tabW depotlaw02_CnfMeans.tab11 depotlaw02_CnfMeans.bits11 (fun HT_ HW_ => ?_)
             generalize w122.drew = w123 at HO_278001 HO284 BK267 BK269 BK270 BK277 BK286 HB hHeld ⊢
             refine pure_ (i := 0) (N := some 56) (v := ?_) (a' := ?_) #[true, false, false, false, false, false, false, false, false, false, false, false, false, false, false, false] rfl rfl an_ (fun _ _ _ h => h) (Or.inl ⟨by rfl, ?_⟩) ?_ ?_
             rotate_left
             ·intro w'
              go_simp
              with_reducible rfl
             rotate_left
             ·ap_
              rfl
             refine pure_ (i := 1) (N := some 57) (v := ?_) (a' := ?_) #[true, true, false, false, false, false, false, false, false, false, false, false, false, false, false, false] rfl rfl an_ (fun _ _ _ h => h) (Or.inl ⟨by rfl, ?_⟩) ?_ ?_
             rotate_left
             ·intro w'
              go_simp
              with_reducible rfl
             rotate_left
             ·ap_
              rfl
             refine pure_ (i := 2) (N := some 58) (v := ?_) (a' := ?_) #[true, true, true, false, false, false, false, false, false, false, false, false, false, false, false, false] rfl rfl an_ (fun _ _ _ h => h) (Or.inl ⟨by rfl, ?_⟩) ?_ ?_
             rotate_left
             ·intro w'
              go_simp
              with_reducible rfl
             rotate_left
             ·ap_
              rfl
             refine pure_ (i := 4) (N := some 60) (v := ?_) (a' := ?_) #[true, true, true, false, true, false, false, false, false, false, false, false, false, false, false, false] rfl rfl an_ (fun _ _ _ h => h) (Or.inl ⟨by rfl, ?_⟩) ?_ ?_
             rotate_left
             ·intro w'
              go_simp
              with_reducible rfl
             rotate_left
             ·ap_
              rfl
             refine pure_ (i := 7) (N := some 63) (v := ?_) (a' := ?_) #[true, true, true, false, true, false, false, true, false, false, false, false, false, false, false, false] rfl rfl an_ (fun _ _ _ h => h) (Or.inl ⟨by rfl, ?_⟩) ?_ ?_
             rotate_left
             ·intro w'
              go_simp
              with_reducible rfl
             rotate_left
             ·ap_
              rfl
             refine take_ (i := 3) (N := some 59) (v := ?_) (a' := ?_) #[true, true, true, true, true, false, false, true, false, false, false, false, false, false, false, false] rfl rfl (take_ofW HT_.out HW_.out (by kernel_rfl)) (fun _ _ _ h => h) (Or.inl ⟨by rfl, ?_⟩) hHeld ?_ ?_
             rotate_left
             ·rintro w' ⟨s0, s1, s2, s3⟩
              go_simp
              with_reducible rfl
             rotate_left
             ·ap_
              rfl
             refine take_ (i := 6) (N := some 62) (v := ?_) (a' := ?_) #[true, true, true, true, true, false, true, true, false, false, false, false, false, false, false, false] rfl rfl (take_ofW HT_.out HW_.out (by kernel_rfl)) (fun _ _ _ h => h) (Or.inl ⟨by rfl, ?_⟩) hHeld ?_ ?_
             rotate_left
             ·rintro w' ⟨s0, s1, s2, s3⟩
              go_simp
              with_reducible rfl
             rotate_left
             ·ap_
              rfl
             refine one_ (i := 5) (N := some 61) #[true, true, true, true, true, true, true, true, false, false, false, false, false, false, false, false] rfl rfl (one_of HT_.out (by kernel_rfl)) (by decide) (fun K hK => ?_)
             refine goes_ Tryd.func18 (by kernel_rfl) rfl #[.agg #[.int .i64 t281, .slice Ao121 t282.length co121], .slice A0_5 l0_5.length c0_5] (by rfl) rfl rfl (by lm_) ?_
             with_reducible refine (cnf_Satisfies.calls kj39 t281 _ _ t282 _ _ l0_5 t287 _ ?side1 ?side2 ?side3 ?side4 A61.out).mono ?_
             (case side1 => repeat (first | exact (Kd.S_reads' HO284.out).2.2 | (with_reducible refine Kd.C_alloc ?_ _) | (with_reducible refine Kd.C_drewN ?_ _) | (with_reducible refine Kd.C_drew ?_)))
             (case side2 => exact (Kd.S_reads' HO284.out).2.1)
             (case side3 => repeat (first | exact (Kd.C_below HR0_5.out HB.out) | (with_reducible refine Kd.C_alloc ?_ _) | (with_reducible refine Kd.C_drewN ?_ _) | (with_reducible refine Kd.C_drew ?_)))
             (case side4 => exact HC0_5.out)
             rintro e w124 ⟨rfl, hb⟩
             refine ⟨_, rfl, ?_⟩
             have n0_ := Aside0.mk (Kd.S_below (by sl_; exact HO_278001.out) hb)
             have n1_ := Aside0.mk (Kd.S_below (by sl_; exact HO284.out) hb)
             have n2_ := Aside0.mk (blk_below (g := gb267) (o := .cells ob0_ 43 (0, 0)) (by bl_; exact BK267.out) hb)
             have n3_ := Aside0.mk (blk_below (g := gb269) (o := .cells ob1_ 24 (0, 0)) (by bl_; exact BK269.out) hb)
             have n4_ := Aside0.mk (blk_below (g := gb270) (o := .cells ob2_ 24 (0, 0)) (by bl_; exact BK270.out) hb)
             have n5_ := Aside0.mk (blk_below (g := gb277) (o := .cells ob3_ 24 (0, 0)) (by bl_; exact BK277.out) hb)
             have n6_ := Aside0.mk (blk_below (g := gb286) (o := .cells #[.int .i64 t281, .slice Ao121 t282.length co121] 24 (0, 0)) (by bl_; exact BK286.out) hb)
             have n7_ := Aside0.mk (below_step (by be1_) hb)
             clear HO_278001
             clear HO284
             clear BK267
             clear BK269
             clear BK270
             clear BK277
             clear BK286
             clear HB
             have HO_278001 := n0_
             have HO284 := n1_
             have BK267 := n2_
             have BK269 := n3_
             have BK270 := n4_
             have BK277 := n5_
             have BK286 := n6_
             have HB := n7_
             clear n0_ n1_ n2_ n3_ n4_ n5_ n6_ n7_
             (try clear hb)
             (try clear hb2)
             (try clear hk)
             (try clear hi)
             refine hK.out _ _ ⟨(blk_cell BK286.out 0).trans rfl, (blk_cell BK286.out 1).trans rfl, (blk_cell BK269.out 0).trans rfl, (blk_cell BK269.out 1).trans rfl⟩ (fun hHeld => ?_)
             clear hK K
             refine norm_ (a' := ?_) ?_ ?_
             rotate_left
             ·show Act.put _ (some 61) _ = _
              ap_
              rfl
             refine one_ (i := 8) (N := some 64) #[true, true, true, true, true, true, true, true, true, false, false, false, false, false, false, false] rfl rfl (one_of HT_.out (by kernel_rfl)) (by decide) (fun K hK => ?_)
             refine goes_ Tryd.func18 (by kernel_rfl) rfl #[.agg ob1_, .slice A0_5 l0_5.length c0_5] (by rfl) rfl rfl (by lm_) ?_
             with_reducible refine (cnf_Satisfies.calls kj39 a0_0 _ _ l0_1 _ _ l0_5 false _ ?side1 ?side2 ?side3 ?side4 A62.out).mono ?_
             (case side1 => repeat (first | exact (Kd.C_below HR0_1.out HB.out) | (with_reducible refine Kd.C_alloc ?_ _) | (with_reducible refine Kd.C_drewN ?_ _) | (with_reducible refine Kd.C_drew ?_)))
             (case side2 => exact HC0_1.out)
             (case side3 => repeat (first | exact (Kd.C_below HR0_5.out HB.out) | (with_reducible refine Kd.C_alloc ?_ _) | (with_reducible refine Kd.C_drewN ?_ _) | (with_reducible refine Kd.C_drew ?_)))
             (case side4 => exact HC0_5.out)
             rintro e w125 ⟨rfl, hb⟩
             refine ⟨_, rfl, ?_⟩
             have n0_ := Aside0.mk (Kd.S_below (by sl_; exact HO_278001.out) hb)
             have n1_ := Aside0.mk (Kd.S_below (by sl_; exact HO284.out) hb)
             have n2_ := Aside0.mk (blk_below (g := gb267) (o := .cells ob0_ 43 (0, 0)) (by bl_; exact BK267.out) hb)
             have n3_ := Aside0.mk (blk_below (g := gb269) (o := .cells ob1_ 24 (0, 0)) (by bl_; exact BK269.out) hb)
             have n4_ := Aside0.mk (blk_below (g := gb270) (o := .cells ob2_ 24 (0, 0)) (by bl_; exact BK270.out) hb)
             have n5_ := Aside0.mk (blk_below (g := gb277) (o := .cells ob3_ 24 (0, 0)) (by bl_; exact BK277.out) hb)
             have n6_ := Aside0.mk (blk_below (g := gb286) (o := .cells #[.int .i64 t281, .slice Ao121 t282.length co121] 24 (0, 0)) (by bl_; exact BK286.out) hb)
             have n7_ := Aside0.mk (below_step (by be1_) hb)
             clear HO_278001
             clear HO284
             clear BK267
             clear BK269
             clear BK270
             clear BK277
             clear BK286
             clear HB
             have HO_278001 := n0_
             have HO284 := n1_
             have BK267 := n2_
             have BK269 := n3_
             have BK270 := n4_
             have BK277 := n5_
             have BK286 := n6_
             have HB := n7_
             clear n0_ n1_ n2_ n3_ n4_ n5_ n6_ n7_
             (try clear hb)
             (try clear hb2)
             (try clear hk)
             (try clear hi)
             refine hK.out _ _ ⟨(blk_cell BK286.out 0).trans rfl, (blk_cell BK286.out 1).trans rfl, (blk_cell BK269.out 0).trans rfl, (blk_cell BK269.out 1).trans rfl⟩ (fun hHeld => ?_)
             clear hK K
             refine norm_ (a' := ?_) ?_ ?_
             rotate_left
             ·show Act.put _ (some 64) _ = _
              ap_
              rfl
             refine pure_ (i := 9) (N := some 65) (v := ?_) (a' := ?_) #[true, true, true, true, true, true, true, true, true, true, false, false, false, false, false, false] rfl rfl an_ (fun _ _ _ h => h) (Or.inl ⟨by rfl, ?_⟩) ?_ ?_
             rotate_left
             ·intro w'
              go_simp
              with_reducible rfl
             rotate_left
             ·ap_
              rfl
             refine pure_ (i := 10) (N := some 66) (v := undef) (a' := ?_) #[true, true, true, true, true, true, true, true, true, true, true, false, false, false, false, false] rfl rfl an_ (fun _ _ _ h => h) (Or.inr ⟨by rfl, rfl⟩) ?_ ?_
             rotate_left
             ·ap_
              rfl
             refine pure_ (i := 11) (N := some 67) (v := undef) (a' := ?_) #[true, true, true, true, true, true, true, true, true, true, true, true, false, false, false, false] rfl rfl an_ (fun _ _ _ h => h) (Or.inr ⟨by rfl, rfl⟩) ?_ ?_
             rotate_left
             ·ap_
              rfl
             refine pure_ (i := 12) (N := some 68) (v := undef) (a' := ?_) #[true, true, true, true, true, true, true, true, true, true, true, true, true, false, false, false] rfl rfl an_ (fun _ _ _ h => h) (Or.inr ⟨by rfl, rfl⟩) ?_ ?_
             rotate_left
             ·ap_
              rfl
             refine pure_ (i := 13) (N := some 69) (v := ?_) (a' := ?_) #[true, true, true, true, true, true, true, true, true, true, true, true, true, true, false, false] rfl rfl an_ (fun _ _ _ h => h) (Or.inl ⟨by rfl, ?_⟩) ?_ ?_
             rotate_left
             ·intro w'
              go_simp
              with_reducible rfl
             rotate_left
             ·ap_
              rfl
             refine pure_ (i := 14) (N := some 70) (v := ?_) (a' := ?_) #[true, true, true, true, true, true, true, true, true, true, true, true, true, true, true, false] rfl rfl an_ (fun _ _ _ h => h) (Or.inl ⟨by rfl, ?_⟩) ?_ ?_
             rotate_left
             ·intro w'
              go_simp
              with_reducible rfl
             rotate_left
             ·ap_
              rfl
             refine pure_ (i := 15) (N := some 71) (v := ?_) (a' := ?_) #[true, true, true, true, true, true, true, true, true, true, true, true, true, true, true, true] rfl rfl an_ (fun _ _ _ h => h) (Or.inl ⟨by rfl, ?_⟩) ?_ ?_
             rotate_left
             ·intro w'
              go_simp
              with_reducible rfl
             rotate_left
             ·ap_
              rfl
             refine done_ (done_of HT_.out (by kernel_rfl)) ?_
             try go_wp2
             go_ret
             exact ⟨by first | rfl | (simp [errW_none, errW_some] <;> rfl) | (simp [*, errW_none, errW_some] <;> rfl), by be1_⟩
            ·rw [if_neg c106] at H
             have c106b0 : (t287 != false) = false := by simpa using c106
             (try (have c106b1 : decide (t287 = false) = true := by simpa using c106))
             (try (have c106b2 : (t287 == false) = true := by simpa using c106))
             clear c106
             have H' := Aside0.mk H
             clear H
             have hnb126 := NB269_267.out
             have hnc126 := NB267_269.out
             have hnb127 := NB269_270.out
             have hnc127 := NB270_269.out
             have hnb128 := NB269_277.out
             have hnc128 := NB277_269.out
             have hcz129_0 : wc.cell? ⟨gb269, 0, none⟩ = some (.int .i64 a0_0) := (blk_cell BK269.out 0).trans rfl
             have hcz129_1 : wc.cell? ⟨gb269, 1, none⟩ = some (.slice A0_1 l0_1.length c0_1) := (blk_cell BK269.out 1).trans rfl
             have hfz129_0 := blk_frozen BK269.out 0
             have hfz129_1 := blk_frozen BK269.out 1
             have hnb130 := NB270_267.out
             have hnc130 := NB267_270.out
             have hnb131 := NB270_277.out
             have hnc131 := NB277_270.out
             have hcz132_0 : wc.cell? ⟨gb270, 0, none⟩ = some (.int .i64 a0_2) := (blk_cell BK270.out 0).trans rfl
             have hcz132_1 : wc.cell? ⟨gb270, 1, none⟩ = some (.slice A0_3 l0_3.length c0_3) := (blk_cell BK270.out 1).trans rfl
             have hfz132_0 := blk_frozen BK270.out 0
             have hfz132_1 := blk_frozen BK270.out 1
             try go_wp2_with (first | ((with_reducible refine gate_callee (f := 19) rfl ?_); refine goesL_ (some 53) rfl rfl Tryd.func19 (by kernel_rfl) rfl #[.agg ob1_, .agg ob2_] rfl (by lm_) ?_; (with_reducible refine (cnf_Join.calls kj39 a0_0 _ _ l0_1 a0_2 _ _ l0_3 t281 t282 t285 _ ?side1 ?side2 ?side3 ?side4 A59.out).mono ?_); (case side1 => repeat (first | exact (Kd.C_below HR0_1.out HB.out) | (with_reducible refine Kd.C_alloc ?_ _) | (with_reducible refine Kd.C_drewN ?_ _) | (with_reducible refine Kd.C_drew ?_))); (case side2 => exact HC0_1.out); (case side3 => repeat (first | exact (Kd.C_below HR0_3.out HB.out) | (with_reducible refine Kd.C_alloc ?_ _) | (with_reducible refine Kd.C_drewN ?_ _) | (with_reducible refine Kd.C_drew ?_))); (case side4 => exact HC0_3.out); rintro e w133 ⟨v283, rfl, ho0, hb⟩; refine ⟨_, rfl, ?_⟩; have n0_ := Aside0.mk (Kd.S_elder' (by sl_; exact HO_278001.out) (Kd.S_base ho0) hb); have n1_ := Aside0.mk (Kd.S_lower (Kd.S_new' ho0 (Kd.S_lt (by sl_; exact HO_278001.out))) (below_size (by be0_))); have n2_ := Aside0.mk (blk_below (g := gb267) (o := .cells ob0_ 43 (0, 0)) (by bl_; exact BK267.out) hb); have n3_ := Aside0.mk (blk_below (g := gb269) (o := .cells ob1_ 24 (0, 0)) (by bl_; exact BK269.out) hb); have n4_ := Aside0.mk (blk_below (g := gb270) (o := .cells ob2_ 24 (0, 0)) (by bl_; exact BK270.out) hb); have n5_ := Aside0.mk (blk_below (g := gb277) (o := .cells ob3_ 24 (0, 0)) (by bl_; exact BK277.out) hb); have n6_ := Aside0.mk (below_step (by be0_) hb); clear HO_278001; clear BK267; clear BK269; clear BK270; clear BK277; clear HB; have HO_278001 := n0_; have HO284 := n1_; have BK267 := n2_; have BK269 := n3_; have BK270 := n4_; have BK277 := n5_; have HB := n6_; clear n0_ n1_ n2_ n3_ n4_ n5_ n6_; ch_) | ((with_reducible refine gate_dst (N := 9) rfl ?_); refine box_event ?hg (N := 9) ?hd (cs := #[.int .i64 0, .slice none 0 0]) (t := 24) ?hr ?_; bx_; intro gb286 hg w134 hbox hb; have n0_ := Aside0.mk (Kd.S_below (by sl_; exact HO_278001.out) hb); have n1_ := Aside0.mk (Kd.S_below (by sl_; exact HO284.out) hb); have n2_ := Aside0.mk (blk_below (g := gb267) (o := .cells ob0_ 43 (0, 0)) (by bl_; exact BK267.out) hb); have n3_ := Aside0.mk (blk_below (g := gb269) (o := .cells ob1_ 24 (0, 0)) (by bl_; exact BK269.out) hb); have n4_ := Aside0.mk (blk_below (g := gb270) (o := .cells ob2_ 24 (0, 0)) (by bl_; exact BK270.out) hb); have n5_ := Aside0.mk (blk_below (g := gb277) (o := .cells ob3_ 24 (0, 0)) (by bl_; exact BK277.out) hb); have n6_ := Aside0.mk (below_step (by be0_) hb); have n7_ := Aside0.mk (hbox); have n8_ := Aside0.mk ((by rw [hg]; exact (below_size (by be0_)) : w.heap.size ≤ gb286)); have n9_ := Aside0.mk ((by rw [hg]; exact (below_size (by be0_)) : w.heap.size ≤ gb286)); have n10_ := Aside0.mk ((by rw [hg]; exact Nat.ne_of_lt (blk_lt (g := gb267) (o := .cells ob0_ 43 (0, 0)) (by bl_; exact BK267.out)) : gb267 ≠ gb286)); have n11_ := Aside0.mk ((by rw [hg]; exact Nat.ne_of_gt (blk_lt (g := gb267) (o := .cells ob0_ 43 (0, 0)) (by bl_; exact BK267.out)) : gb286 ≠ gb267)); have n12_ := Aside0.mk ((by rw [hg]; exact Nat.ne_of_lt (blk_lt (g := gb269) (o := .cells ob1_ 24 (0, 0)) (by bl_; exact BK269.out)) : gb269 ≠ gb286)); have n13_ := Aside0.mk ((by rw [hg]; exact Nat.ne_of_gt (blk_lt (g := gb269) (o := .cells ob1_ 24 (0, 0)) (by bl_; exact BK269.out)) : gb286 ≠ gb269)); have n14_ := Aside0.mk ((by rw [hg]; exact Nat.ne_of_lt (blk_lt (g := gb270) (o := .cells ob2_ 24 (0, 0)) (by bl_; exact BK270.out)) : gb270 ≠ gb286)); have n15_ := Aside0.mk ((by rw [hg]; exact Nat.ne_of_gt (blk_lt (g := gb270) (o := .cells ob2_ 24 (0, 0)) (by bl_; exact BK270.out)) : gb286 ≠ gb270)); have n16_ := Aside0.mk ((by rw [hg]; exact Nat.ne_of_lt (blk_lt (g := gb277) (o := .cells ob3_ 24 (0, 0)) (by bl_; exact BK277.out)) : gb277 ≠ gb286)); have n17_ := Aside0.mk ((by rw [hg]; exact Nat.ne_of_gt (blk_lt (g := gb277) (o := .cells ob3_ 24 (0, 0)) (by bl_; exact BK277.out)) : gb286 ≠ gb277)); clear HO_278001; clear HO284; clear BK267; clear BK269; clear BK270; clear BK277; clear HB; have HO_278001 := n0_; have HO284 := n1_; have BK267 := n2_; have BK269 := n3_; have BK270 := n4_; have BK277 := n5_; have HB := n6_; have BK286 := n7_; have GW286 := n8_; have GE286 := n9_; have NB267_286 := n10_; have NB286_267 := n11_; have NB269_286 := n12_; have NB286_269 := n13_; have NB270_286 := n14_; have NB286_270 := n15_; have NB277_286 := n16_; have NB286_277 := n17_; clear n0_ n1_ n2_ n3_ n4_ n5_ n6_ n7_ n8_ n9_ n10_ n11_ n12_ n13_ n14_ n15_ n16_ n17_; clear hb hbox hg; have hnb135 := NB286_267.out; have hnc135 := NB267_286.out; have hnb136 := NB286_269.out; have hnc136 := NB269_286.out; have hnb137 := NB286_270.out; have hnc137 := NB270_286.out; have hnb138 := NB286_277.out; have hnc138 := NB277_286.out; have hcz139_0 : w134.cell? ⟨gb286, 0, none⟩ = some (.int .i64 0) := (blk_cell BK286.out 0).trans rfl; have hcz139_1 : w134.cell? ⟨gb286, 1, none⟩ = some (.slice none 0 0) := (blk_cell BK286.out 1).trans rfl; have hfz139_0 := blk_frozen BK286.out 0; have hfz139_1 := blk_frozen BK286.out 1; obtain ⟨Ao140, co140, eo140⟩ := Kd.S_slice HO284.out; subst eo140))
             have n0_ : Aside0 (Kd.S (Kd.slice 3 (Kd.int .i64)) 40 ((w134.setCell ⟨gb286, 0, none⟩ (.int .i64 t281)).setCell ⟨gb286, 1, none⟩ (.slice Ao140 t282.length co140)) w.heap.size (fun k_ => some k_ ≠ (.slice Ao140 t282.length co140 : Value).ownBlock) (.slice Ao29 t273.length co29) t273) := ⟨by sl_; exact Kd.S_mono (Kd.S_far (p := ⟨gb286, 1, none⟩) (Kd.S_far (p := ⟨gb286, 0, none⟩) (Kd.S_types HO_278001.out BK286.out (by decide)) (fun _ hk => hk.2) (.int .i64 t281)) (fun _ hk => hk.2) (.slice Ao140 t282.length co140)) (fun _ hk => hk.1.2)⟩
             have n1_ : Aside0 (Kd.S (Kd.slice 3 (Kd.int .i64)) 40 ((w134.setCell ⟨gb286, 0, none⟩ (.int .i64 t281)).setCell ⟨gb286, 1, none⟩ (.slice Ao140 t282.length co140)) w.heap.size (fun k_ => some k_ ≠ (.slice Ao29 t273.length co29 : Value).ownBlock) (.slice Ao140 t282.length co140) t282) := ⟨by sl_; exact Kd.S_mono (Kd.S_far (p := ⟨gb286, 1, none⟩) (Kd.S_far (p := ⟨gb286, 0, none⟩) (Kd.S_types HO284.out BK286.out (by decide)) (fun _ hk => hk.2) (.int .i64 t281)) (fun _ hk => hk.2) (.slice Ao140 t282.length co140)) (fun _ hk => hk.1.2)⟩
             have n2_ : Aside0 (((w134.setCell ⟨gb286, 0, none⟩ (.int .i64 t281)).setCell ⟨gb286, 1, none⟩ (.slice Ao140 t282.length co140)).heap[gb267]? = some (.cells ob0_ 43 (0, 0))) := ⟨by bl_; refine blk_far ?_ NB267_286.out _; bl_; refine blk_far ?_ NB267_286.out _; bl_; exact BK267.out⟩
             have n3_ : Aside0 (((w134.setCell ⟨gb286, 0, none⟩ (.int .i64 t281)).setCell ⟨gb286, 1, none⟩ (.slice Ao140 t282.length co140)).heap[gb269]? = some (.cells ob1_ 24 (0, 0))) := ⟨by bl_; refine blk_far ?_ NB269_286.out _; bl_; refine blk_far ?_ NB269_286.out _; bl_; exact BK269.out⟩
             have n4_ : Aside0 (((w134.setCell ⟨gb286, 0, none⟩ (.int .i64 t281)).setCell ⟨gb286, 1, none⟩ (.slice Ao140 t282.length co140)).heap[gb270]? = some (.cells ob2_ 24 (0, 0))) := ⟨by bl_; refine blk_far ?_ NB270_286.out _; bl_; refine blk_far ?_ NB270_286.out _; bl_; exact BK270.out⟩
             have n5_ : Aside0 (((w134.setCell ⟨gb286, 0, none⟩ (.int .i64 t281)).setCell ⟨gb286, 1, none⟩ (.slice Ao140 t282.length co140)).heap[gb277]? = some (.cells ob3_ 24 (0, 0))) := ⟨by bl_; refine blk_far ?_ NB277_286.out _; bl_; refine blk_far ?_ NB277_286.out _; bl_; exact BK277.out⟩
             have n6_ : Aside0 (((w134.setCell ⟨gb286, 0, none⟩ (.int .i64 t281)).setCell ⟨gb286, 1, none⟩ (.slice Ao140 t282.length co140)).heap[gb286]? = some (.cells #[.int .i64 t281, .slice Ao140 t282.length co140] 24 (0, 0))) := ⟨by bl_; refine blk_put (cs := #[.int .i64 t281, .slice none 0 0]) ?_ 1 _ rfl; bl_; refine blk_put (cs := #[.int .i64 0, .slice none 0 0]) ?_ 0 _ rfl; bl_; exact BK286.out⟩
             have n7_ : Aside0 (Below w.heap.size w ((w134.setCell ⟨gb286, 0, none⟩ (.int .i64 t281)).setCell ⟨gb286, 1, none⟩ (.slice Ao140 t282.length co140))) := ⟨by be1_⟩
             (try clear HO_278001)
             (try clear HO284)
             (try clear BK267)
             (try clear BK269)
             (try clear BK270)
             (try clear BK277)
             (try clear BK286)
             (try clear HB)
             generalize ((w134.setCell ⟨gb286, 0, none⟩ (.int .i64 t281)).setCell ⟨gb286, 1, none⟩ (.slice Ao140 t282.length co140)) = w141 at n0_ n1_ n2_ n3_ n4_ n5_ n6_ n7_ ⊢
             have HO_278001 := n0_
             have HO284 := n1_
             have BK267 := n2_
             have BK269 := n3_
             have BK270 := n4_
             have BK277 := n5_
             have BK286 := n6_
             have HB := n7_
             clear n0_ n1_ n2_ n3_ n4_ n5_ n6_ n7_
             have n0_ := Aside0.mk (Kd.S_drew HO_278001.out)
             have n1_ := Aside0.mk (Kd.S_drew HO284.out)
             have n2_ := Aside0.mk (blk_drew BK267.out)
             have n3_ := Aside0.mk (blk_drew BK269.out)
             have n4_ := Aside0.mk (blk_drew BK270.out)
             have n5_ := Aside0.mk (blk_drew BK277.out)
             have n6_ := Aside0.mk (blk_drew BK286.out)
             have n7_ := Aside0.mk (below_drew1 HB.out)
             clear HO_278001
             clear HO284
             clear BK267
             clear BK269
             clear BK270
             clear BK277
             clear BK286
             clear HB
             have HO_278001 := n0_
             have HO284 := n1_
             have BK267 := n2_
             have BK269 := n3_
             have BK270 := n4_
             have BK277 := n5_
             have BK286 := n6_
             have HB := n7_
             clear n0_ n1_ n2_ n3_ n4_ n5_ n6_ n7_
             refine start_ (n := 16) (S := fun w' => w'.cell? ⟨gb286, 0, none⟩ = some (.int .i64 t281) ∧ w'.cell? ⟨gb286, 1, none⟩ = some (.slice Ao140 t282.length co140) ∧ w'.cell? ⟨gb269, 0, none⟩ = some (.int .i64 a0_0) ∧ w'.cell? ⟨gb269, 1, none⟩ = some (.slice A0_1 l0_1.length c0_1)) (ds := []) #[false, false, false, false, false, false, false, false, false, false, false, false, false, false, false, false] (by kernel_rfl) rfl rfl ⟨(blk_cell BK286.out 0).trans rfl, (blk_cell BK286.out 1).trans rfl, (blk_cell BK269.out 0).trans rfl, (blk_cell BK269.out 1).trans rfl⟩ (fun hHeld => ?_); refine with_tabW depotlaw02_CnfMeans.tab11 depotlaw02_CnfMeans.bits11 (fun HT_ HW_ => ?_)
             generalize w141.drew = w142 at HO_278001 HO284 BK267 BK269 BK270 BK277 BK286 HB hHeld ⊢
             refine pure_ (i := 0) (N := some 56) (v := ?_) (a' := ?_) #[true, false, false, false, false, false, false, false, false, false, false, false, false, false, false, false] rfl rfl an_ (fun _ _ _ h => h) (Or.inl ⟨by rfl, ?_⟩) ?_ ?_
             rotate_left
             ·intro w'
              go_simp
              with_reducible rfl
             rotate_left
             ·ap_
              rfl
             refine pure_ (i := 1) (N := some 57) (v := ?_) (a' := ?_) #[true, true, false, false, false, false, false, false, false, false, false, false, false, false, false, false] rfl rfl an_ (fun _ _ _ h => h) (Or.inl ⟨by rfl, ?_⟩) ?_ ?_
             rotate_left
             ·intro w'
              go_simp
              with_reducible rfl
             rotate_left
             ·ap_
              rfl
             refine pure_ (i := 2) (N := some 58) (v := ?_) (a' := ?_) #[true, true, true, false, false, false, false, false, false, false, false, false, false, false, false, false] rfl rfl an_ (fun _ _ _ h => h) (Or.inl ⟨by rfl, ?_⟩) ?_ ?_
             rotate_left
             ·intro w'
              go_simp
              with_reducible rfl
             rotate_left
             ·ap_
              rfl
             refine pure_ (i := 4) (N := some 60) (v := ?_) (a' := ?_) #[true, true, true, false, true, false, false, false, false, false, false, false, false, false, false, false] rfl rfl an_ (fun _ _ _ h => h) (Or.inl ⟨by rfl, ?_⟩) ?_ ?_
             rotate_left
             ·intro w'
              go_simp
              with_reducible rfl
             rotate_left
             ·ap_
              rfl
             refine pure_ (i := 7) (N := some 63) (v := ?_) (a' := ?_) #[true, true, true, false, true, false, false, true, false, false, false, false, false, false, false, false] rfl rfl an_ (fun _ _ _ h => h) (Or.inl ⟨by rfl, ?_⟩) ?_ ?_
             rotate_left
             ·intro w'
              go_simp
              with_reducible rfl
             rotate_left
             ·ap_
              rfl
             refine take_ (i := 3) (N := some 59) (v := ?_) (a' := ?_) #[true, true, true, true, true, false, false, true, false, false, false, false, false, false, false, false] rfl rfl (take_ofW HT_.out HW_.out (by kernel_rfl)) (fun _ _ _ h => h) (Or.inl ⟨by rfl, ?_⟩) hHeld ?_ ?_
             rotate_left
             ·rintro w' ⟨s0, s1, s2, s3⟩
              go_simp
              with_reducible rfl
             rotate_left
             ·ap_
              rfl
             refine take_ (i := 6) (N := some 62) (v := ?_) (a' := ?_) #[true, true, true, true, true, false, true, true, false, false, false, false, false, false, false, false] rfl rfl (take_ofW HT_.out HW_.out (by kernel_rfl)) (fun _ _ _ h => h) (Or.inl ⟨by rfl, ?_⟩) hHeld ?_ ?_
             rotate_left
             ·rintro w' ⟨s0, s1, s2, s3⟩
              go_simp
              with_reducible rfl
             rotate_left
             ·ap_
              rfl
             refine one_ (i := 5) (N := some 61) #[true, true, true, true, true, true, true, true, false, false, false, false, false, false, false, false] rfl rfl (one_of HT_.out (by kernel_rfl)) (by decide) (fun K hK => ?_)
             refine goes_ Tryd.func18 (by kernel_rfl) rfl #[.agg #[.int .i64 t281, .slice Ao140 t282.length co140], .slice A0_5 l0_5.length c0_5] (by rfl) rfl rfl (by lm_) ?_
             with_reducible refine (cnf_Satisfies.calls kj39 t281 _ _ t282 _ _ l0_5 t287 _ ?side1 ?side2 ?side3 ?side4 A61.out).mono ?_
             (case side1 => repeat (first | exact (Kd.S_reads' HO284.out).2.2 | (with_reducible refine Kd.C_alloc ?_ _) | (with_reducible refine Kd.C_drewN ?_ _) | (with_reducible refine Kd.C_drew ?_)))
             (case side2 => exact (Kd.S_reads' HO284.out).2.1)
             (case side3 => repeat (first | exact (Kd.C_below HR0_5.out HB.out) | (with_reducible refine Kd.C_alloc ?_ _) | (with_reducible refine Kd.C_drewN ?_ _) | (with_reducible refine Kd.C_drew ?_)))
             (case side4 => exact HC0_5.out)
             rintro e w143 ⟨rfl, hb⟩
             refine ⟨_, rfl, ?_⟩
             have n0_ := Aside0.mk (Kd.S_below (by sl_; exact HO_278001.out) hb)
             have n1_ := Aside0.mk (Kd.S_below (by sl_; exact HO284.out) hb)
             have n2_ := Aside0.mk (blk_below (g := gb267) (o := .cells ob0_ 43 (0, 0)) (by bl_; exact BK267.out) hb)
             have n3_ := Aside0.mk (blk_below (g := gb269) (o := .cells ob1_ 24 (0, 0)) (by bl_; exact BK269.out) hb)
             have n4_ := Aside0.mk (blk_below (g := gb270) (o := .cells ob2_ 24 (0, 0)) (by bl_; exact BK270.out) hb)
             have n5_ := Aside0.mk (blk_below (g := gb277) (o := .cells ob3_ 24 (0, 0)) (by bl_; exact BK277.out) hb)
             have n6_ := Aside0.mk (blk_below (g := gb286) (o := .cells #[.int .i64 t281, .slice Ao140 t282.length co140] 24 (0, 0)) (by bl_; exact BK286.out) hb)
             have n7_ := Aside0.mk (below_step (by be1_) hb)
             clear HO_278001
             clear HO284
             clear BK267
             clear BK269
             clear BK270
             clear BK277
             clear BK286
             clear HB
             have HO_278001 := n0_
             have HO284 := n1_
             have BK267 := n2_
             have BK269 := n3_
             have BK270 := n4_
             have BK277 := n5_
             have BK286 := n6_
             have HB := n7_
             clear n0_ n1_ n2_ n3_ n4_ n5_ n6_ n7_
             (try clear hb)
             (try clear hb2)
             (try clear hk)
             (try clear hi)
             refine hK.out _ _ ⟨(blk_cell BK286.out 0).trans rfl, (blk_cell BK286.out 1).trans rfl, (blk_cell BK269.out 0).trans rfl, (blk_cell BK269.out 1).trans rfl⟩ (fun hHeld => ?_)
             clear hK K
             refine norm_ (a' := ?_) ?_ ?_
             rotate_left
             ·show Act.put _ (some 61) _ = _
              ap_
              rfl
             refine one_ (i := 8) (N := some 64) #[true, true, true, true, true, true, true, true, true, false, false, false, false, false, false, false] rfl rfl (one_of HT_.out (by kernel_rfl)) (by decide) (fun K hK => ?_)
             refine goes_ Tryd.func18 (by kernel_rfl) rfl #[.agg ob1_, .slice A0_5 l0_5.length c0_5] (by rfl) rfl rfl (by lm_) ?_
             with_reducible refine (cnf_Satisfies.calls kj39 a0_0 _ _ l0_1 _ _ l0_5 false _ ?side1 ?side2 ?side3 ?side4 A62.out).mono ?_
             (case side1 => repeat (first | exact (Kd.C_below HR0_1.out HB.out) | (with_reducible refine Kd.C_alloc ?_ _) | (with_reducible refine Kd.C_drewN ?_ _) | (with_reducible refine Kd.C_drew ?_)))
             (case side2 => exact HC0_1.out)
             (case side3 => repeat (first | exact (Kd.C_below HR0_5.out HB.out) | (with_reducible refine Kd.C_alloc ?_ _) | (with_reducible refine Kd.C_drewN ?_ _) | (with_reducible refine Kd.C_drew ?_)))
             (case side4 => exact HC0_5.out)
             rintro e w144 ⟨rfl, hb⟩
             refine ⟨_, rfl, ?_⟩
             have n0_ := Aside0.mk (Kd.S_below (by sl_; exact HO_278001.out) hb)
             have n1_ := Aside0.mk (Kd.S_below (by sl_; exact HO284.out) hb)
             have n2_ := Aside0.mk (blk_below (g := gb267) (o := .cells ob0_ 43 (0, 0)) (by bl_; exact BK267.out) hb)
             have n3_ := Aside0.mk (blk_below (g := gb269) (o := .cells ob1_ 24 (0, 0)) (by bl_; exact BK269.out) hb)
             have n4_ := Aside0.mk (blk_below (g := gb270) (o := .cells ob2_ 24 (0, 0)) (by bl_; exact BK270.out) hb)
             have n5_ := Aside0.mk (blk_below (g := gb277) (o := .cells ob3_ 24 (0, 0)) (by bl_; exact BK277.out) hb)
             have n6_ := Aside0.mk (blk_below (g := gb286) (o := .cells #[.int .i64 t281, .slice Ao140 t282.length co140] 24 (0, 0)) (by bl_; exact BK286.out) hb)
             have n7_ := Aside0.mk (below_step (by be1_) hb)
             clear HO_278001
             clear HO284
             clear BK267
             clear BK269
             clear BK270
             clear BK277
             clear BK286
             clear HB
             have HO_278001 := n0_
             have HO284 := n1_
             have BK267 := n2_
             have BK269 := n3_
             have BK270 := n4_
             have BK277 := n5_
             have BK286 := n6_
             have HB := n7_
             clear n0_ n1_ n2_ n3_ n4_ n5_ n6_ n7_
             (try clear hb)
             (try clear hb2)
             (try clear hk)
             (try clear hi)
             refine hK.out _ _ ⟨(blk_cell BK286.out 0).trans rfl, (blk_cell BK286.out 1).trans rfl, (blk_cell BK269.out 0).trans rfl, (blk_cell BK269.out 1).trans rfl⟩ (fun hHeld => ?_)
             clear hK K
             refine norm_ (a' := ?_) ?_ ?_
             rotate_left
             ·show Act.put _ (some 64) _ = _
              ap_
              rfl
             refine pure_ (i := 9) (N := some 65) (v := ?_) (a' := ?_) #[true, true, true, true, true, true, true, true, true, true, false, false, false, false, false, false] rfl rfl an_ (fun _ _ _ h => h) (Or.inl ⟨by rfl, ?_⟩) ?_ ?_
             rotate_left
             ·intro w'
              go_simp
              with_reducible rfl
             rotate_left
             ·ap_
              rfl
             refine pure_ (i := 10) (N := some 66) (v := undef) (a' := ?_) #[true, true, true, true, true, true, true, true, true, true, true, false, false, false, false, false] rfl rfl an_ (fun _ _ _ h => h) (Or.inr ⟨by rfl, rfl⟩) ?_ ?_
             rotate_left
             ·ap_
              rfl
             refine pure_ (i := 11) (N := some 67) (v := undef) (a' := ?_) #[true, true, true, true, true, true, true, true, true, true, true, true, false, false, false, false] rfl rfl an_ (fun _ _ _ h => h) (Or.inr ⟨by rfl, rfl⟩) ?_ ?_
             rotate_left
             ·ap_
              rfl
             refine pure_ (i := 12) (N := some 68) (v := undef) (a' := ?_) #[true, true, true, true, true, true, true, true, true, true, true, true, true, false, false, false] rfl rfl an_ (fun _ _ _ h => h) (Or.inr ⟨by rfl, rfl⟩) ?_ ?_
             rotate_left
             ·ap_
              rfl
             refine pure_ (i := 13) (N := some 69) (v := ?_) (a' := ?_) #[true, true, true, true, true, true, true, true, true, true, true, true, true, true, false, false] rfl rfl an_ (fun _ _ _ h => h) (Or.inl ⟨by rfl, ?_⟩) ?_ ?_
             rotate_left
             ·intro w'
              go_simp
              with_reducible rfl
             rotate_left
             ·ap_
              rfl
             refine pure_ (i := 14) (N := some 70) (v := ?_) (a' := ?_) #[true, true, true, true, true, true, true, true, true, true, true, true, true, true, true, false] rfl rfl an_ (fun _ _ _ h => h) (Or.inl ⟨by rfl, ?_⟩) ?_ ?_
             rotate_left
             ·intro w'
              go_simp
              with_reducible rfl
             rotate_left
             ·ap_
              rfl
             refine pure_ (i := 15) (N := some 71) (v := ?_) (a' := ?_) #[true, true, true, true, true, true, true, true, true, true, true, true, true, true, true, true] rfl rfl an_ (fun _ _ _ h => h) (Or.inl ⟨by rfl, ?_⟩) ?_ ?_
             rotate_left
             ·intro w'
              go_simp
              with_reducible rfl
             rotate_left
             ·ap_
              rfl
             refine done_ (done_of HT_.out (by kernel_rfl)) ?_
             try go_wp2
             go_meet
             case rel => exact ⟨_, H', ⟨by have := HJ6.out; have := HJ39.out; first | omega | exact Nat.le_refl _⟩, ⟨by sl_; exact Kd.S_mono HO_278001.out (fun _ hk => trivial)⟩, ⟨by bl_; exact BK267.out⟩, ⟨by bl_; exact BK269.out⟩, ⟨by bl_; exact BK270.out⟩, ⟨by bl_; exact BK277.out⟩, ⟨by be1_⟩⟩
          ·rw [if_neg c60] at H
           have c60b0 : (t285 == 0) = false := beq_eq_false_iff_ne.mpr c60
           have c60b1 : (t285 != 0) = true := bne_iff_ne.mpr c60
           (first | rw [c60b0] | (simp only [i64_w, i32_w]; rw [c60b0]) | skip)
           obtain rfl := Option.some.inj H
           have hnb145 := NB269_267.out
           have hnc145 := NB267_269.out
           have hnb146 := NB269_270.out
           have hnc146 := NB270_269.out
           have hnb147 := NB269_277.out
           have hnc147 := NB277_269.out
           have hcz148_0 : wc.cell? ⟨gb269, 0, none⟩ = some (.int .i64 a0_0) := (blk_cell BK269.out 0).trans rfl
           have hcz148_1 : wc.cell? ⟨gb269, 1, none⟩ = some (.slice A0_1 l0_1.length c0_1) := (blk_cell BK269.out 1).trans rfl
           have hfz148_0 := blk_frozen BK269.out 0
           have hfz148_1 := blk_frozen BK269.out 1
           have hnb149 := NB270_267.out
           have hnc149 := NB267_270.out
           have hnb150 := NB270_277.out
           have hnc150 := NB277_270.out
           have hcz151_0 : wc.cell? ⟨gb270, 0, none⟩ = some (.int .i64 a0_2) := (blk_cell BK270.out 0).trans rfl
           have hcz151_1 : wc.cell? ⟨gb270, 1, none⟩ = some (.slice A0_3 l0_3.length c0_3) := (blk_cell BK270.out 1).trans rfl
           have hfz151_0 := blk_frozen BK270.out 0
           have hfz151_1 := blk_frozen BK270.out 1
           try go_wp2_with (first | ((with_reducible refine gate_callee (f := 19) rfl ?_); refine goesL_ (some 53) rfl rfl Tryd.func19 (by kernel_rfl) rfl #[.agg ob1_, .agg ob2_] rfl (by lm_) ?_; (with_reducible refine (cnf_Join.calls kj39 a0_0 _ _ l0_1 a0_2 _ _ l0_3 t281 t282 t285 _ ?side1 ?side2 ?side3 ?side4 A59.out).mono ?_); (case side1 => repeat (first | exact (Kd.C_below HR0_1.out HB.out) | (with_reducible refine Kd.C_alloc ?_ _) | (with_reducible refine Kd.C_drewN ?_ _) | (with_reducible refine Kd.C_drew ?_))); (case side2 => exact HC0_1.out); (case side3 => repeat (first | exact (Kd.C_below HR0_3.out HB.out) | (with_reducible refine Kd.C_alloc ?_ _) | (with_reducible refine Kd.C_drewN ?_ _) | (with_reducible refine Kd.C_drew ?_))); (case side4 => exact HC0_3.out); rintro e w152 ⟨v283, rfl, ho0, hb⟩; refine ⟨_, rfl, ?_⟩; have n0_ := Aside0.mk (Kd.S_elder' (by sl_; exact HO_278001.out) (Kd.S_base ho0) hb); have n1_ := Aside0.mk (Kd.S_lower (Kd.S_new' ho0 (Kd.S_lt (by sl_; exact HO_278001.out))) (below_size (by be0_))); have n2_ := Aside0.mk (blk_below (g := gb267) (o := .cells ob0_ 43 (0, 0)) (by bl_; exact BK267.out) hb); have n3_ := Aside0.mk (blk_below (g := gb269) (o := .cells ob1_ 24 (0, 0)) (by bl_; exact BK269.out) hb); have n4_ := Aside0.mk (blk_below (g := gb270) (o := .cells ob2_ 24 (0, 0)) (by bl_; exact BK270.out) hb); have n5_ := Aside0.mk (blk_below (g := gb277) (o := .cells ob3_ 24 (0, 0)) (by bl_; exact BK277.out) hb); have n6_ := Aside0.mk (below_step (by be0_) hb); clear HO_278001; clear BK267; clear BK269; clear BK270; clear BK277; clear HB; have HO_278001 := n0_; have HO284 := n1_; have BK267 := n2_; have BK269 := n3_; have BK270 := n4_; have BK277 := n5_; have HB := n6_; clear n0_ n1_ n2_ n3_ n4_ n5_ n6_; ch_) | ((with_reducible refine gate_dst (N := 9) rfl ?_); refine box_event ?hg (N := 9) ?hd (cs := #[.int .i64 0, .slice none 0 0]) (t := 24) ?hr ?_; bx_; intro gb286 hg w153 hbox hb; have n0_ := Aside0.mk (Kd.S_below (by sl_; exact HO_278001.out) hb); have n1_ := Aside0.mk (Kd.S_below (by sl_; exact HO284.out) hb); have n2_ := Aside0.mk (blk_below (g := gb267) (o := .cells ob0_ 43 (0, 0)) (by bl_; exact BK267.out) hb); have n3_ := Aside0.mk (blk_below (g := gb269) (o := .cells ob1_ 24 (0, 0)) (by bl_; exact BK269.out) hb); have n4_ := Aside0.mk (blk_below (g := gb270) (o := .cells ob2_ 24 (0, 0)) (by bl_; exact BK270.out) hb); have n5_ := Aside0.mk (blk_below (g := gb277) (o := .cells ob3_ 24 (0, 0)) (by bl_; exact BK277.out) hb); have n6_ := Aside0.mk (below_step (by be0_) hb); have n7_ := Aside0.mk (hbox); have n8_ := Aside0.mk ((by rw [hg]; exact (below_size (by be0_)) : w.heap.size ≤ gb286)); have n9_ := Aside0.mk ((by rw [hg]; exact (below_size (by be0_)) : w.heap.size ≤ gb286)); have n10_ := Aside0.mk ((by rw [hg]; exact Nat.ne_of_lt (blk_lt (g := gb267) (o := .cells ob0_ 43 (0, 0)) (by bl_; exact BK267.out)) : gb267 ≠ gb286)); have n11_ := Aside0.mk ((by rw [hg]; exact Nat.ne_of_gt (blk_lt (g := gb267) (o := .cells ob0_ 43 (0, 0)) (by bl_; exact BK267.out)) : gb286 ≠ gb267)); have n12_ := Aside0.mk ((by rw [hg]; exact Nat.ne_of_lt (blk_lt (g := gb269) (o := .cells ob1_ 24 (0, 0)) (by bl_; exact BK269.out)) : gb269 ≠ gb286)); have n13_ := Aside0.mk ((by rw [hg]; exact Nat.ne_of_gt (blk_lt (g := gb269) (o := .cells ob1_ 24 (0, 0)) (by bl_; exact BK269.out)) : gb286 ≠ gb269)); have n14_ := Aside0.mk ((by rw [hg]; exact Nat.ne_of_lt (blk_lt (g := gb270) (o := .cells ob2_ 24 (0, 0)) (by bl_; exact BK270.out)) : gb270 ≠ gb286)); have n15_ := Aside0.mk ((by rw [hg]; exact Nat.ne_of_gt (blk_lt (g := gb270) (o := .cells ob2_ 24 (0, 0)) (by bl_; exact BK270.out)) : gb286 ≠ gb270)); have n16_ := Aside0.mk ((by rw [hg]; exact Nat.ne_of_lt (blk_lt (g := gb277) (o := .cells ob3_ 24 (0, 0)) (by bl_; exact BK277.out)) : gb277 ≠ gb286)); have n17_ := Aside0.mk ((by rw [hg]; exact Nat.ne_of_gt (blk_lt (g := gb277) (o := .cells ob3_ 24 (0, 0)) (by bl_; exact BK277.out)) : gb286 ≠ gb277)); clear HO_278001; clear HO284; clear BK267; clear BK269; clear BK270; clear BK277; clear HB; have HO_278001 := n0_; have HO284 := n1_; have BK267 := n2_; have BK269 := n3_; have BK270 := n4_; have BK277 := n5_; have HB := n6_; have BK286 := n7_; have GW286 := n8_; have GE286 := n9_; have NB267_286 := n10_; have NB286_267 := n11_; have NB269_286 := n12_; have NB286_269 := n13_; have NB270_286 := n14_; have NB286_270 := n15_; have NB277_286 := n16_; have NB286_277 := n17_; clear n0_ n1_ n2_ n3_ n4_ n5_ n6_ n7_ n8_ n9_ n10_ n11_ n12_ n13_ n14_ n15_ n16_ n17_; clear hb hbox hg; have hnb154 := NB286_267.out; have hnc154 := NB267_286.out; have hnb155 := NB286_269.out; have hnc155 := NB269_286.out; have hnb156 := NB286_270.out; have hnc156 := NB270_286.out; have hnb157 := NB286_277.out; have hnc157 := NB277_286.out; have hcz158_0 : w153.cell? ⟨gb286, 0, none⟩ = some (.int .i64 0) := (blk_cell BK286.out 0).trans rfl; have hcz158_1 : w153.cell? ⟨gb286, 1, none⟩ = some (.slice none 0 0) := (blk_cell BK286.out 1).trans rfl; have hfz158_0 := blk_frozen BK286.out 0; have hfz158_1 := blk_frozen BK286.out 1; obtain ⟨Ao159, co159, eo159⟩ := Kd.S_slice HO284.out; subst eo159))
           have n0_ : Aside0 (Kd.S (Kd.slice 3 (Kd.int .i64)) 40 ((w153.setCell ⟨gb286, 0, none⟩ (.int .i64 t281)).setCell ⟨gb286, 1, none⟩ (.slice Ao159 t282.length co159)) w.heap.size (fun k_ => some k_ ≠ (.slice Ao159 t282.length co159 : Value).ownBlock) (.slice Ao29 t273.length co29) t273) := ⟨by sl_; exact Kd.S_mono (Kd.S_far (p := ⟨gb286, 1, none⟩) (Kd.S_far (p := ⟨gb286, 0, none⟩) (Kd.S_types HO_278001.out BK286.out (by decide)) (fun _ hk => hk.2) (.int .i64 t281)) (fun _ hk => hk.2) (.slice Ao159 t282.length co159)) (fun _ hk => hk.1.2)⟩
           have n1_ : Aside0 (Kd.S (Kd.slice 3 (Kd.int .i64)) 40 ((w153.setCell ⟨gb286, 0, none⟩ (.int .i64 t281)).setCell ⟨gb286, 1, none⟩ (.slice Ao159 t282.length co159)) w.heap.size (fun k_ => some k_ ≠ (.slice Ao29 t273.length co29 : Value).ownBlock) (.slice Ao159 t282.length co159) t282) := ⟨by sl_; exact Kd.S_mono (Kd.S_far (p := ⟨gb286, 1, none⟩) (Kd.S_far (p := ⟨gb286, 0, none⟩) (Kd.S_types HO284.out BK286.out (by decide)) (fun _ hk => hk.2) (.int .i64 t281)) (fun _ hk => hk.2) (.slice Ao159 t282.length co159)) (fun _ hk => hk.1.2)⟩
           have n2_ : Aside0 (((w153.setCell ⟨gb286, 0, none⟩ (.int .i64 t281)).setCell ⟨gb286, 1, none⟩ (.slice Ao159 t282.length co159)).heap[gb267]? = some (.cells ob0_ 43 (0, 0))) := ⟨by bl_; refine blk_far ?_ NB267_286.out _; bl_; refine blk_far ?_ NB267_286.out _; bl_; exact BK267.out⟩
           have n3_ : Aside0 (((w153.setCell ⟨gb286, 0, none⟩ (.int .i64 t281)).setCell ⟨gb286, 1, none⟩ (.slice Ao159 t282.length co159)).heap[gb269]? = some (.cells ob1_ 24 (0, 0))) := ⟨by bl_; refine blk_far ?_ NB269_286.out _; bl_; refine blk_far ?_ NB269_286.out _; bl_; exact BK269.out⟩
           have n4_ : Aside0 (((w153.setCell ⟨gb286, 0, none⟩ (.int .i64 t281)).setCell ⟨gb286, 1, none⟩ (.slice Ao159 t282.length co159)).heap[gb270]? = some (.cells ob2_ 24 (0, 0))) := ⟨by bl_; refine blk_far ?_ NB270_286.out _; bl_; refine blk_far ?_ NB270_286.out _; bl_; exact BK270.out⟩
           have n5_ : Aside0 (((w153.setCell ⟨gb286, 0, none⟩ (.int .i64 t281)).setCell ⟨gb286, 1, none⟩ (.slice Ao159 t282.length co159)).heap[gb277]? = some (.cells ob3_ 24 (0, 0))) := ⟨by bl_; refine blk_far ?_ NB277_286.out _; bl_; refine blk_far ?_ NB277_286.out _; bl_; exact BK277.out⟩
           have n6_ : Aside0 (((w153.setCell ⟨gb286, 0, none⟩ (.int .i64 t281)).setCell ⟨gb286, 1, none⟩ (.slice Ao159 t282.length co159)).heap[gb286]? = some (.cells #[.int .i64 t281, .slice Ao159 t282.length co159] 24 (0, 0))) := ⟨by bl_; refine blk_put (cs := #[.int .i64 t281, .slice none 0 0]) ?_ 1 _ rfl; bl_; refine blk_put (cs := #[.int .i64 0, .slice none 0 0]) ?_ 0 _ rfl; bl_; exact BK286.out⟩
           have n7_ : Aside0 (Below w.heap.size w ((w153.setCell ⟨gb286, 0, none⟩ (.int .i64 t281)).setCell ⟨gb286, 1, none⟩ (.slice Ao159 t282.length co159))) := ⟨by be1_⟩
           (try clear HO_278001)
           (try clear HO284)
           (try clear BK267)
           (try clear BK269)
           (try clear BK270)
           (try clear BK277)
           (try clear BK286)
           (try clear HB)
           generalize ((w153.setCell ⟨gb286, 0, none⟩ (.int .i64 t281)).setCell ⟨gb286, 1, none⟩ (.slice Ao159 t282.length co159)) = w160 at n0_ n1_ n2_ n3_ n4_ n5_ n6_ n7_ ⊢
           have HO_278001 := n0_
           have HO284 := n1_
           have BK267 := n2_
           have BK269 := n3_
           have BK270 := n4_
           have BK277 := n5_
           have BK286 := n6_
           have HB := n7_
           clear n0_ n1_ n2_ n3_ n4_ n5_ n6_ n7_
           have n0_ := Aside0.mk (Kd.S_drew HO_278001.out)
           have n1_ := Aside0.mk (Kd.S_drew HO284.out)
           have n2_ := Aside0.mk (blk_drew BK267.out)
           have n3_ := Aside0.mk (blk_drew BK269.out)
           have n4_ := Aside0.mk (blk_drew BK270.out)
           have n5_ := Aside0.mk (blk_drew BK277.out)
           have n6_ := Aside0.mk (blk_drew BK286.out)
           have n7_ := Aside0.mk (below_drew1 HB.out)
           clear HO_278001
           clear HO284
           clear BK267
           clear BK269
           clear BK270
           clear BK277
           clear BK286
           clear HB
           have HO_278001 := n0_
           have HO284 := n1_
           have BK267 := n2_
           have BK269 := n3_
           have BK270 := n4_
           have BK277 := n5_
           have BK286 := n6_
           have HB := n7_
           clear n0_ n1_ n2_ n3_ n4_ n5_ n6_ n7_
           refine start_ (n := 16) (S := fun w' => True) (ds := []) #[false, false, false, false, false, false, false, false, false, false, false, false, false, false, false, false] (by kernel_rfl) rfl rfl trivial (fun hHeld => ?_); refine with_tabW depotlaw02_CnfMeans.tab11 depotlaw02_CnfMeans.bits11 (fun HT_ HW_ => ?_)
           generalize w160.drew = w161 at HO_278001 HO284 BK267 BK269 BK270 BK277 BK286 HB hHeld ⊢
           refine pure_ (i := 0) (N := some 56) (v := ?_) (a' := ?_) #[true, false, false, false, false, false, false, false, false, false, false, false, false, false, false, false] rfl rfl an_ (fun _ _ _ h => h) (Or.inl ⟨by rfl, ?_⟩) ?_ ?_
           rotate_left
           ·intro w'
            go_simp
            with_reducible rfl
           rotate_left
           ·ap_
            rfl
           refine pure_ (i := 1) (N := some 57) (v := ?_) (a' := ?_) #[true, true, false, false, false, false, false, false, false, false, false, false, false, false, false, false] rfl rfl an_ (fun _ _ _ h => h) (Or.inl ⟨by rfl, ?_⟩) ?_ ?_
           rotate_left
           ·intro w'
            go_simp
            with_reducible rfl
           rotate_left
           ·ap_
            rfl
           refine pure_ (i := 2) (N := some 58) (v := ?_) (a' := ?_) #[true, true, true, false, false, false, false, false, false, false, false, false, false, false, false, false] rfl rfl an_ (fun _ _ _ h => h) (Or.inl ⟨by rfl, ?_⟩) ?_ ?_
           rotate_left
           ·intro w'
            go_simp
            with_reducible rfl
           rotate_left
           ·ap_
            rfl
           refine pure_ (i := 3) (N := some 59) (v := undef) (a' := ?_) #[true, true, true, true, false, false, false, false, false, false, false, false, false, false, false, false] rfl rfl an_ (fun _ _ _ h => h) (Or.inr ⟨by rfl, rfl⟩) ?_ ?_
           rotate_left
           ·ap_
            rfl
           refine pure_ (i := 4) (N := some 60) (v := undef) (a' := ?_) #[true, true, true, true, true, false, false, false, false, false, false, false, false, false, false, false] rfl rfl an_ (fun _ _ _ h => h) (Or.inr ⟨by rfl, rfl⟩) ?_ ?_
           rotate_left
           ·ap_
            rfl
           refine pure_ (i := 5) (N := some 61) (v := undef) (a' := ?_) #[true, true, true, true, true, true, false, false, false, false, false, false, false, false, false, false] rfl rfl an_ (fun _ _ _ h => h) (Or.inr ⟨by rfl, rfl⟩) ?_ ?_
           rotate_left
           ·ap_
            rfl
           refine pure_ (i := 6) (N := some 62) (v := undef) (a' := ?_) #[true, true, true, true, true, true, true, false, false, false, false, false, false, false, false, false] rfl rfl an_ (fun _ _ _ h => h) (Or.inr ⟨by rfl, rfl⟩) ?_ ?_
           rotate_left
           ·ap_
            rfl
           refine pure_ (i := 7) (N := some 63) (v := undef) (a' := ?_) #[true, true, true, true, true, true, true, true, false, false, false, false, false, false, false, false] rfl rfl an_ (fun _ _ _ h => h) (Or.inr ⟨by rfl, rfl⟩) ?_ ?_
           rotate_left
           ·ap_
            rfl
           refine pure_ (i := 8) (N := some 64) (v := undef) (a' := ?_) #[true, true, true, true, true, true, true, true, true, false, false, false, false, false, false, false] rfl rfl an_ (fun _ _ _ h => h) (Or.inr ⟨by rfl, rfl⟩) ?_ ?_
           rotate_left
           ·ap_
            rfl
           refine pure_ (i := 9) (N := some 65) (v := undef) (a' := ?_) #[true, true, true, true, true, true, true, true, true, true, false, false, false, false, false, false] rfl rfl an_ (fun _ _ _ h => h) (Or.inr ⟨by rfl, rfl⟩) ?_ ?_
           rotate_left
           ·ap_
            rfl
           refine pure_ (i := 10) (N := some 66) (v := undef) (a' := ?_) #[true, true, true, true, true, true, true, true, true, true, true, false, false, false, false, false] rfl rfl an_ (fun _ _ _ h => h) (Or.inr ⟨by rfl, rfl⟩) ?_ ?_
           rotate_left
           ·ap_
            rfl
           refine pure_ (i := 11) (N := some 67) (v := undef) (a' := ?_) #[true, true, true, true, true, true, true, true, true, true, true, true, false, false, false, false] rfl rfl an_ (fun _ _ _ h => h) (Or.inr ⟨by rfl, rfl⟩) ?_ ?_
           rotate_left
           ·ap_
            rfl
           refine pure_ (i := 12) (N := some 68) (v := undef) (a' := ?_) #[true, true, true, true, true, true, true, true, true, true, true, true, true, false, false, false] rfl rfl an_ (fun _ _ _ h => h) (Or.inr ⟨by rfl, rfl⟩) ?_ ?_
           rotate_left
           ·ap_
            rfl
           refine pure_ (i := 13) (N := some 69) (v := undef) (a' := ?_) #[true, true, true, true, true, true, true, true, true, true, true, true, true, true, false, false] rfl rfl an_ (fun _ _ _ h => h) (Or.inr ⟨by rfl, rfl⟩) ?_ ?_
           rotate_left
           ·ap_
            rfl
           refine pure_ (i := 14) (N := some 70) (v := undef) (a' := ?_) #[true, true, true, true, true, true, true, true, true, true, true, true, true, true, true, false] rfl rfl an_ (fun _ _ _ h => h) (Or.inr ⟨by rfl, rfl⟩) ?_ ?_
           rotate_left
           ·ap_
            rfl
           refine pure_ (i := 15) (N := some 71) (v := ?_) (a' := ?_) #[true, true, true, true, true, true, true, true, true, true, true, true, true, true, true, true] rfl rfl an_ (fun _ _ _ h => h) (Or.inl ⟨by rfl, ?_⟩) ?_ ?_
           rotate_left
           ·intro w'
            go_simp
            with_reducible rfl
           rotate_left
           ·ap_
            rfl
           refine done_ (done_of HT_.out (by kernel_rfl)) ?_
           try go_wp2
           go_ret
           exact ⟨by first | rfl | (simp [errW_none, errW_some] <;> rfl) | (simp [*, errW_none, errW_some] <;> rfl), by be1_⟩
         ·replace c58 := Bool.eq_false_iff.mpr c58
          subst c58
          have H1 : (depotlaw02_CnfMeans.j2 kj39 l0_4 l0_5 a0_0 l0_1) = some r := by rw [if_neg (show ¬ (false = true) by decide)] at H; exact H
          clear H
          have H := H1
          clear H1
          have H' := Aside0.mk H
          clear H
          go_wp2
          go_meet
          case rel => exact ⟨_, H', ⟨by have := HJ6.out; have := HJ39.out; first | omega | exact Nat.le_refl _⟩, ⟨by sl_; exact HO_278001.out⟩, ⟨by bl_; exact BK267.out⟩, ⟨by bl_; exact BK269.out⟩, ⟨by bl_; exact BK270.out⟩, ⟨by bl_; exact BK277.out⟩, ⟨by be0_⟩⟩
        case rest =>
         clear HC57
         try clear c1
         try clear p2
         try clear c5
         try clear c6
         try clear c10
         try clear c12
         try clear c13
         try clear c14
         try clear c15
         try clear c18
         try clear c19
         try clear c58
         try clear c60
         try clear c60b0
         try clear c60b1
         try clear c106
         try clear c106b0
         try clear c106b1
         try clear c106b2
         try clear c126
         try clear c127
         try clear c128
         try clear c130
         try clear c131
         try clear c135
         try clear c136
         try clear c137
         try clear c138
         try clear c145
         try clear c146
         try clear c147
         try clear c149
         try clear c150
         try clear c154
         try clear c155
         try clear c156
         try clear c157
         try clear hcz129_0
         try clear hcz129_1
         try clear hcz132_0
         try clear hcz132_1
         try clear hcz139_0
         try clear hcz139_1
         try clear hcz148_0
         try clear hcz148_1
         try clear hcz151_0
         try clear hcz151_1
         try clear hcz158_0
         try clear hcz158_1
         try clear hfz129_0
         try clear hfz129_1
         try clear hfz132_0
         try clear hfz132_1
         try clear hfz139_0
         try clear hfz139_1
         try clear hfz148_0
         try clear hfz148_1
         try clear hfz151_0
         try clear hfz151_1
         try clear hfz158_0
         try clear hfz158_1
         obtain ⟨kq, HA, HJ56, HO_278001, BK267, BK269, BK270, BK277, HB⟩ := hcut
         cases kq with
         | zero => exact absurd HA.out (by simp [depotlaw02_CnfMeans.j2])
         | succ kj56 =>
          have H := HA.out
          clear HA
          simp only [depotlaw02_CnfMeans.j2] at H
          have HC162 := Aside0.mk H
          clear H
          go_upto_region 13 with (fail)
          go_cut [82] (fun v82 wc => ∃ (kq : Nat) (x82_161 : Bool), v82 = .bool x82_161 ∧ Aside0 (depotlaw02_CnfMeans.j3 kq l0_4 l0_5 x82_161 a0_0 l0_1 = some r) ∧ Aside0 (kq ≤ kj56) ∧ Aside0 (Kd.S (Kd.slice 3 (Kd.int .i64)) 40 wc w.heap.size (fun _ => True) (.slice Ao29 t273.length co29) t273) ∧ Aside0 (wc.heap[gb267]? = some (.cells #[.int .i64 a0_0, (.slice A0_1 l0_1.length c0_1), .int .i64 a0_2, (.slice A0_3 l0_3.length c0_3), (.slice A0_4 l0_4.length c0_4), (.slice A0_5 l0_5.length c0_5)] 43 (0, 0))) ∧ Aside0 (wc.heap[gb269]? = some (.cells #[.int .i64 a0_0, (.slice A0_1 l0_1.length c0_1)] 24 (0, 0))) ∧ Aside0 (wc.heap[gb270]? = some (.cells #[.int .i64 a0_2, (.slice A0_3 l0_3.length c0_3)] 24 (0, 0))) ∧ Aside0 (wc.heap[gb277]? = some (.cells #[.int .i64 t272, (.slice Ao29 t273.length co29)] 24 (0, 0))) ∧ Aside0 (Below w.heap.size w wc))
          case first =>
           have H := HC162.out
           clear HC162
           by_cases c163 : (l0_5.length : Int) = a0_0
           ·rw [if_pos c163] at H
            have c163b0 : ((l0_5.length : Int) == a0_0) = true := beq_iff_eq.mpr c163
            have c163b1 : ((l0_5.length : Int) != a0_0) = false := bne_eq_false_iff_eq.mpr c163
            clear c163
            (first | rw [c163b0] | (simp only [i64_w, i32_w]; rw [c163b0]) | skip)
            replace H := Option.bind_eq_some_iff.mp H
            obtain ⟨t290, A1640, H⟩ := H
            replace H : (depotlaw02_CnfMeans.j3 kj56 l0_4 l0_5 (!t290) a0_0 l0_1) = some r := H
            have A164 := Aside0.mk A1640
            clear A1640
            have H' := Aside0.mk H
            clear H
            have hnb165 := NB269_267.out
            have hnc165 := NB267_269.out
            have hnb166 := NB269_270.out
            have hnc166 := NB270_269.out
            have hnb167 := NB269_277.out
            have hnc167 := NB277_269.out
            have hcz168_0 : wc.cell? ⟨gb269, 0, none⟩ = some (.int .i64 a0_0) := (blk_cell BK269.out 0).trans rfl
            have hcz168_1 : wc.cell? ⟨gb269, 1, none⟩ = some (.slice A0_1 l0_1.length c0_1) := (blk_cell BK269.out 1).trans rfl
            have hfz168_0 := blk_frozen BK269.out 0
            have hfz168_1 := blk_frozen BK269.out 1
            go_wp2_with (first | (go_at_call 20; (with_reducible refine (depotlaw02_holds.calls kj56 _ _ l0_4 _ _ l0_5 t290 _ ?side1 ?side2 ?side3 ?side4 A164.out).mono ?_); (case side1 => repeat (first | exact (Kd.C_below HR0_4.out HB.out) | (with_reducible refine Kd.C_alloc ?_ _) | (with_reducible refine Kd.C_drewN ?_ _) | (with_reducible refine Kd.C_drew ?_))); (case side2 => exact HC0_4.out); (case side3 => repeat (first | exact (Kd.C_below HR0_5.out HB.out) | (with_reducible refine Kd.C_alloc ?_ _) | (with_reducible refine Kd.C_drewN ?_ _) | (with_reducible refine Kd.C_drew ?_))); (case side4 => exact HC0_5.out); rintro e w' ⟨rfl, ⟨nd, rfl⟩⟩))
            go_meet
            case rel => exact ⟨_, (!t290), (by first | rfl | (simp; done) | (simp [*]; done)), H', ⟨by have := HJ6.out; have := HJ39.out; have := HJ56.out; first | omega | exact Nat.le_refl _⟩, ⟨by sl_; exact HO_278001.out⟩, ⟨by bl_; exact BK267.out⟩, ⟨by bl_; exact BK269.out⟩, ⟨by bl_; exact BK270.out⟩, ⟨by bl_; exact BK277.out⟩, ⟨by be0_⟩⟩
           ·rw [if_neg c163] at H
            have c163b0 : ((l0_5.length : Int) == a0_0) = false := beq_eq_false_iff_ne.mpr c163
            have c163b1 : ((l0_5.length : Int) != a0_0) = true := bne_iff_ne.mpr c163
            (first | rw [c163b0] | (simp only [i64_w, i32_w]; rw [c163b0]) | skip)
            have H' := Aside0.mk H
            clear H
            have hnb169 := NB269_267.out
            have hnc169 := NB267_269.out
            have hnb170 := NB269_270.out
            have hnc170 := NB270_269.out
            have hnb171 := NB269_277.out
            have hnc171 := NB277_269.out
            have hcz172_0 : wc.cell? ⟨gb269, 0, none⟩ = some (.int .i64 a0_0) := (blk_cell BK269.out 0).trans rfl
            have hcz172_1 : wc.cell? ⟨gb269, 1, none⟩ = some (.slice A0_1 l0_1.length c0_1) := (blk_cell BK269.out 1).trans rfl
            have hfz172_0 := blk_frozen BK269.out 0
            have hfz172_1 := blk_frozen BK269.out 1
            go_wp2
            go_meet
            case rel => exact ⟨_, (true), (by first | rfl | (simp; done) | (simp [*]; done)), H', ⟨by have := HJ6.out; have := HJ39.out; have := HJ56.out; first | omega | exact Nat.le_refl _⟩, ⟨by sl_; exact HO_278001.out⟩, ⟨by bl_; exact BK267.out⟩, ⟨by bl_; exact BK269.out⟩, ⟨by bl_; exact BK270.out⟩, ⟨by bl_; exact BK277.out⟩, ⟨by be0_⟩⟩
          case rest =>
           clear HC162
           try clear c1
           try clear p2
           try clear c5
           try clear c6
           try clear c10
           try clear c12
           try clear c13
           try clear c14
           try clear c15
           try clear c16
           try clear c17
           try clear c18
           try clear c19
           try clear c58
           try clear c60
           try clear c60b0
           try clear c60b1
           try clear c106
           try clear c106b0
           try clear c106b1
           try clear c106b2
           try clear c126
           try clear c127
           try clear c128
           try clear c130
           try clear c131
           try clear c135
           try clear c136
           try clear c137
           try clear c138
           try clear c145
           try clear c146
           try clear c147
           try clear c149
           try clear c150
           try clear c154
           try clear c155
           try clear c156
           try clear c157
           try clear c163
           try clear c163b0
           try clear c163b1
           try clear c165
           try clear c166
           try clear c167
           try clear c169
           try clear c170
           try clear c171
           try clear hcz129_0
           try clear hcz129_1
           try clear hcz132_0
           try clear hcz132_1
           try clear hcz139_0
           try clear hcz139_1
           try clear hcz148_0
           try clear hcz148_1
           try clear hcz151_0
           try clear hcz151_1
           try clear hcz158_0
           try clear hcz158_1
           try clear hcz168_0
           try clear hcz168_1
           try clear hcz172_0
           try clear hcz172_1
           try clear hfz129_0
           try clear hfz129_1
           try clear hfz132_0
           try clear hfz132_1
           try clear hfz139_0
           try clear hfz139_1
           try clear hfz148_0
           try clear hfz148_1
           try clear hfz151_0
           try clear hfz151_1
           try clear hfz158_0
           try clear hfz158_1
           try clear hfz168_0
           try clear hfz168_1
           try clear hfz172_0
           try clear hfz172_1
           try clear p2
           obtain ⟨kq, x82_161, rfl, HA, HJ161, HO_278001, BK267, BK269, BK270, BK277, HB⟩ := hcut
           cases kq with
           | zero => exact absurd HA.out (by simp [depotlaw02_CnfMeans.j3])
           | succ kj161 =>
            have H := HA.out
            clear HA
            simp only [depotlaw02_CnfMeans.j3] at H
            by_cases c173 : x82_161 = true
            ·subst c173
             have H1 : (some true) = some r := by rw [if_pos rfl] at H; exact H
             clear H
             have H := H1
             clear H1
             obtain rfl := Option.some.inj H
             go_wp2
             go_ret
             exact ⟨by first | rfl | (simp [errW_none, errW_some] <;> rfl) | (simp [*, errW_none, errW_some] <;> rfl), by be0_⟩
            ·replace c173 := Bool.eq_false_iff.mpr c173
             subst c173
             have H1 : ((cnf_Under.f kj161 a0_0 l0_1 l0_4).bind fun bt291 => (if bt291.2.2 = 0 then ((cnf_Satisfies.f kj161 bt291.1 bt291.2.1 l0_5).bind fun t297 => ((cnf_Satisfies.f kj161 a0_0 l0_1 l0_5).bind fun t298 => (some (t297 == t298)))) else (some false))) = some r := by rw [if_neg (show ¬ (false = true) by decide)] at H; exact H
             clear H
             have H := H1
             clear H1
             replace H := Option.bind_eq_some_iff.mp H
             obtain ⟨⟨t291, t292, t295⟩, A1740, H⟩ := H
             replace H : (if t295 = 0 then ((cnf_Satisfies.f kj161 t291 t292 l0_5).bind fun t297 => ((cnf_Satisfies.f kj161 a0_0 l0_1 l0_5).bind fun t298 => (some (t297 == t298)))) else (some false)) = some r := H
             have A174 := Aside0.mk A1740
             clear A1740
             by_cases c175 : t295 = 0
             ·rw [if_pos c175] at H
              have c175b0 : (t295 == 0) = true := beq_iff_eq.mpr c175
              have c175b1 : (t295 != 0) = false := bne_eq_false_iff_eq.mpr c175
              clear c175
              replace H := Option.bind_eq_some_iff.mp H
              obtain ⟨t297, A1760, H⟩ := H
              replace H : ((cnf_Satisfies.f kj161 a0_0 l0_1 l0_5).bind fun t298 => (some (t297 == t298))) = some r := H
              have A176 := Aside0.mk A1760
              clear A1760
              replace H := Option.bind_eq_some_iff.mp H
              obtain ⟨t298, A1770, H⟩ := H
              replace H : (some (t297 == t298)) = some r := H
              have A177 := Aside0.mk A1770
              clear A1770
              obtain rfl := Option.some.inj H
              have hnb178 := NB269_267.out
              have hnc178 := NB267_269.out
              have hnb179 := NB269_270.out
              have hnc179 := NB270_269.out
              have hnb180 := NB269_277.out
              have hnc180 := NB277_269.out
              have hcz181_0 : wc.cell? ⟨gb269, 0, none⟩ = some (.int .i64 a0_0) := (blk_cell BK269.out 0).trans rfl
              have hcz181_1 : wc.cell? ⟨gb269, 1, none⟩ = some (.slice A0_1 l0_1.length c0_1) := (blk_cell BK269.out 1).trans rfl
              have hfz181_0 := blk_frozen BK269.out 0
              have hfz181_1 := blk_frozen BK269.out 1
              try go_wp2_with (first | ((with_reducible refine gate_callee (f := 21) rfl ?_); refine goesL_ (some 86) rfl rfl Tryd.func21 (by kernel_rfl) rfl #[.agg ob1_, .slice A0_4 l0_4.length c0_4] rfl (by lm_) ?_; (with_reducible refine (cnf_Under.calls kj161 a0_0 _ _ l0_1 _ _ l0_4 t291 t292 t295 _ ?side1 ?side2 ?side3 ?side4 A174.out).mono ?_); (case side1 => repeat (first | exact (Kd.C_below HR0_1.out HB.out) | (with_reducible refine Kd.C_alloc ?_ _) | (with_reducible refine Kd.C_drewN ?_ _) | (with_reducible refine Kd.C_drew ?_))); (case side2 => exact HC0_1.out); (case side3 => repeat (first | exact (Kd.C_below HR0_4.out HB.out) | (with_reducible refine Kd.C_alloc ?_ _) | (with_reducible refine Kd.C_drewN ?_ _) | (with_reducible refine Kd.C_drew ?_))); (case side4 => exact HC0_4.out); rintro e w182 ⟨v293, rfl, ho0, hb⟩; refine ⟨_, rfl, ?_⟩; have n0_ := Aside0.mk (Kd.S_elder' (by sl_; exact HO_278001.out) (Kd.S_base ho0) hb); have n1_ := Aside0.mk (Kd.S_lower (Kd.S_new' ho0 (Kd.S_lt (by sl_; exact HO_278001.out))) (below_size (by be0_))); have n2_ := Aside0.mk (blk_below (g := gb267) (o := .cells ob0_ 43 (0, 0)) (by bl_; exact BK267.out) hb); have n3_ := Aside0.mk (blk_below (g := gb269) (o := .cells ob1_ 24 (0, 0)) (by bl_; exact BK269.out) hb); have n4_ := Aside0.mk (blk_below (g := gb270) (o := .cells ob2_ 24 (0, 0)) (by bl_; exact BK270.out) hb); have n5_ := Aside0.mk (blk_below (g := gb277) (o := .cells ob3_ 24 (0, 0)) (by bl_; exact BK277.out) hb); have n6_ := Aside0.mk (below_step (by be0_) hb); clear HO_278001; clear BK267; clear BK269; clear BK270; clear BK277; clear HB; have HO_278001 := n0_; have HO294 := n1_; have BK267 := n2_; have BK269 := n3_; have BK270 := n4_; have BK277 := n5_; have HB := n6_; clear n0_ n1_ n2_ n3_ n4_ n5_ n6_; ch_) | ((with_reducible refine gate_dst (N := 11) rfl ?_); refine box_event ?hg (N := 11) ?hd (cs := #[.int .i64 0, .slice none 0 0]) (t := 24) ?hr ?_; bx_; intro gb296 hg w183 hbox hb; have n0_ := Aside0.mk (Kd.S_below (by sl_; exact HO_278001.out) hb); have n1_ := Aside0.mk (Kd.S_below (by sl_; exact HO294.out) hb); have n2_ := Aside0.mk (blk_below (g := gb267) (o := .cells ob0_ 43 (0, 0)) (by bl_; exact BK267.out) hb); have n3_ := Aside0.mk (blk_below (g := gb269) (o := .cells ob1_ 24 (0, 0)) (by bl_; exact BK269.out) hb); have n4_ := Aside0.mk (blk_below (g := gb270) (o := .cells ob2_ 24 (0, 0)) (by bl_; exact BK270.out) hb); have n5_ := Aside0.mk (blk_below (g := gb277) (o := .cells ob3_ 24 (0, 0)) (by bl_; exact BK277.out) hb); have n6_ := Aside0.mk (below_step (by be0_) hb); have n7_ := Aside0.mk (hbox); have n8_ := Aside0.mk ((by rw [hg]; exact (below_size (by be0_)) : w.heap.size ≤ gb296)); have n9_ := Aside0.mk ((by rw [hg]; exact (below_size (by be0_)) : w.heap.size ≤ gb296)); have n10_ := Aside0.mk ((by rw [hg]; exact Nat.ne_of_lt (blk_lt (g := gb267) (o := .cells ob0_ 43 (0, 0)) (by bl_; exact BK267.out)) : gb267 ≠ gb296)); have n11_ := Aside0.mk ((by rw [hg]; exact Nat.ne_of_gt (blk_lt (g := gb267) (o := .cells ob0_ 43 (0, 0)) (by bl_; exact BK267.out)) : gb296 ≠ gb267)); have n12_ := Aside0.mk ((by rw [hg]; exact Nat.ne_of_lt (blk_lt (g := gb269) (o := .cells ob1_ 24 (0, 0)) (by bl_; exact BK269.out)) : gb269 ≠ gb296)); have n13_ := Aside0.mk ((by rw [hg]; exact Nat.ne_of_gt (blk_lt (g := gb269) (o := .cells ob1_ 24 (0, 0)) (by bl_; exact BK269.out)) : gb296 ≠ gb269)); have n14_ := Aside0.mk ((by rw [hg]; exact Nat.ne_of_lt (blk_lt (g := gb270) (o := .cells ob2_ 24 (0, 0)) (by bl_; exact BK270.out)) : gb270 ≠ gb296)); have n15_ := Aside0.mk ((by rw [hg]; exact Nat.ne_of_gt (blk_lt (g := gb270) (o := .cells ob2_ 24 (0, 0)) (by bl_; exact BK270.out)) : gb296 ≠ gb270)); have n16_ := Aside0.mk ((by rw [hg]; exact Nat.ne_of_lt (blk_lt (g := gb277) (o := .cells ob3_ 24 (0, 0)) (by bl_; exact BK277.out)) : gb277 ≠ gb296)); have n17_ := Aside0.mk ((by rw [hg]; exact Nat.ne_of_gt (blk_lt (g := gb277) (o := .cells ob3_ 24 (0, 0)) (by bl_; exact BK277.out)) : gb296 ≠ gb277)); clear HO_278001; clear HO294; clear BK267; clear BK269; clear BK270; clear BK277; clear HB; have HO_278001 := n0_; have HO294 := n1_; have BK267 := n2_; have BK269 := n3_; have BK270 := n4_; have BK277 := n5_; have HB := n6_; have BK296 := n7_; have GW296 := n8_; have GE296 := n9_; have NB267_296 := n10_; have NB296_267 := n11_; have NB269_296 := n12_; have NB296_269 := n13_; have NB270_296 := n14_; have NB296_270 := n15_; have NB277_296 := n16_; have NB296_277 := n17_; clear n0_ n1_ n2_ n3_ n4_ n5_ n6_ n7_ n8_ n9_ n10_ n11_ n12_ n13_ n14_ n15_ n16_ n17_; clear hb hbox hg; have hnb184 := NB296_267.out; have hnc184 := NB267_296.out; have hnb185 := NB296_269.out; have hnc185 := NB269_296.out; have hnb186 := NB296_270.out; have hnc186 := NB270_296.out; have hnb187 := NB296_277.out; have hnc187 := NB277_296.out; have hcz188_0 : w183.cell? ⟨gb296, 0, none⟩ = some (.int .i64 0) := (blk_cell BK296.out 0).trans rfl; have hcz188_1 : w183.cell? ⟨gb296, 1, none⟩ = some (.slice none 0 0) := (blk_cell BK296.out 1).trans rfl; have hfz188_0 := blk_frozen BK296.out 0; have hfz188_1 := blk_frozen BK296.out 1; obtain ⟨Ao189, co189, eo189⟩ := Kd.S_slice HO294.out; subst eo189))
              have n0_ : Aside0 (Kd.S (Kd.slice 3 (Kd.int .i64)) 40 ((w183.setCell ⟨gb296, 0, none⟩ (.int .i64 t291)).setCell ⟨gb296, 1, none⟩ (.slice Ao189 t292.length co189)) w.heap.size (fun k_ => some k_ ≠ (.slice Ao189 t292.length co189 : Value).ownBlock) (.slice Ao29 t273.length co29) t273) := ⟨by sl_; exact Kd.S_mono (Kd.S_far (p := ⟨gb296, 1, none⟩) (Kd.S_far (p := ⟨gb296, 0, none⟩) (Kd.S_types HO_278001.out BK296.out (by decide)) (fun _ hk => hk.2) (.int .i64 t291)) (fun _ hk => hk.2) (.slice Ao189 t292.length co189)) (fun _ hk => hk.1.2)⟩
              have n1_ : Aside0 (Kd.S (Kd.slice 3 (Kd.int .i64)) 40 ((w183.setCell ⟨gb296, 0, none⟩ (.int .i64 t291)).setCell ⟨gb296, 1, none⟩ (.slice Ao189 t292.length co189)) w.heap.size (fun k_ => some k_ ≠ (.slice Ao29 t273.length co29 : Value).ownBlock) (.slice Ao189 t292.length co189) t292) := ⟨by sl_; exact Kd.S_mono (Kd.S_far (p := ⟨gb296, 1, none⟩) (Kd.S_far (p := ⟨gb296, 0, none⟩) (Kd.S_types HO294.out BK296.out (by decide)) (fun _ hk => hk.2) (.int .i64 t291)) (fun _ hk => hk.2) (.slice Ao189 t292.length co189)) (fun _ hk => hk.1.2)⟩
              have n2_ : Aside0 (((w183.setCell ⟨gb296, 0, none⟩ (.int .i64 t291)).setCell ⟨gb296, 1, none⟩ (.slice Ao189 t292.length co189)).heap[gb267]? = some (.cells ob0_ 43 (0, 0))) := ⟨by bl_; refine blk_far ?_ NB267_296.out _; bl_; refine blk_far ?_ NB267_296.out _; bl_; exact BK267.out⟩
              have n3_ : Aside0 (((w183.setCell ⟨gb296, 0, none⟩ (.int .i64 t291)).setCell ⟨gb296, 1, none⟩ (.slice Ao189 t292.length co189)).heap[gb269]? = some (.cells ob1_ 24 (0, 0))) := ⟨by bl_; refine blk_far ?_ NB269_296.out _; bl_; refine blk_far ?_ NB269_296.out _; bl_; exact BK269.out⟩
              have n4_ : Aside0 (((w183.setCell ⟨gb296, 0, none⟩ (.int .i64 t291)).setCell ⟨gb296, 1, none⟩ (.slice Ao189 t292.length co189)).heap[gb270]? = some (.cells ob2_ 24 (0, 0))) := ⟨by bl_; refine blk_far ?_ NB270_296.out _; bl_; refine blk_far ?_ NB270_296.out _; bl_; exact BK270.out⟩
              have n5_ : Aside0 (((w183.setCell ⟨gb296, 0, none⟩ (.int .i64 t291)).setCell ⟨gb296, 1, none⟩ (.slice Ao189 t292.length co189)).heap[gb277]? = some (.cells ob3_ 24 (0, 0))) := ⟨by bl_; refine blk_far ?_ NB277_296.out _; bl_; refine blk_far ?_ NB277_296.out _; bl_; exact BK277.out⟩
              have n6_ : Aside0 (((w183.setCell ⟨gb296, 0, none⟩ (.int .i64 t291)).setCell ⟨gb296, 1, none⟩ (.slice Ao189 t292.length co189)).heap[gb296]? = some (.cells #[.int .i64 t291, .slice Ao189 t292.length co189] 24 (0, 0))) := ⟨by bl_; refine blk_put (cs := #[.int .i64 t291, .slice none 0 0]) ?_ 1 _ rfl; bl_; refine blk_put (cs := #[.int .i64 0, .slice none 0 0]) ?_ 0 _ rfl; bl_; exact BK296.out⟩
              have n7_ : Aside0 (Below w.heap.size w ((w183.setCell ⟨gb296, 0, none⟩ (.int .i64 t291)).setCell ⟨gb296, 1, none⟩ (.slice Ao189 t292.length co189))) := ⟨by be4_⟩
              (try clear HO_278001)
              (try clear HO294)
              (try clear BK267)
              (try clear BK269)
              (try clear BK270)
              (try clear BK277)
              (try clear BK296)
              (try clear HB)
              generalize ((w183.setCell ⟨gb296, 0, none⟩ (.int .i64 t291)).setCell ⟨gb296, 1, none⟩ (.slice Ao189 t292.length co189)) = w190 at n0_ n1_ n2_ n3_ n4_ n5_ n6_ n7_ ⊢
              have HO_278001 := n0_
              have HO294 := n1_
              have BK267 := n2_
              have BK269 := n3_
              have BK270 := n4_
              have BK277 := n5_
              have BK296 := n6_
              have HB := n7_
              clear n0_ n1_ n2_ n3_ n4_ n5_ n6_ n7_
              have n0_ := Aside0.mk (Kd.S_drew HO_278001.out)
              have n1_ := Aside0.mk (Kd.S_drew HO294.out)
              have n2_ := Aside0.mk (blk_drew BK267.out)
              have n3_ := Aside0.mk (blk_drew BK269.out)
              have n4_ := Aside0.mk (blk_drew BK270.out)
              have n5_ := Aside0.mk (blk_drew BK277.out)
              have n6_ := Aside0.mk (blk_drew BK296.out)
              have n7_ := Aside0.mk (below_drew1 HB.out)
              clear HO_278001
              clear HO294
              clear BK267
              clear BK269
              clear BK270
              clear BK277
              clear BK296
              clear HB
              have HO_278001 := n0_
              have HO294 := n1_
              have BK267 := n2_
              have BK269 := n3_
              have BK270 := n4_
              have BK277 := n5_
              have BK296 := n6_
              have HB := n7_
              clear n0_ n1_ n2_ n3_ n4_ n5_ n6_ n7_
              refine start_ (n := 12) (S := fun w' => w'.cell? ⟨gb296, 0, none⟩ = some (.int .i64 t291) ∧ w'.cell? ⟨gb296, 1, none⟩ = some (.slice Ao189 t292.length co189) ∧ w'.cell? ⟨gb269, 0, none⟩ = some (.int .i64 a0_0) ∧ w'.cell? ⟨gb269, 1, none⟩ = some (.slice A0_1 l0_1.length c0_1)) (ds := []) #[false, false, false, false, false, false, false, false, false, false, false, false] (by kernel_rfl) rfl rfl ⟨(blk_cell BK296.out 0).trans rfl, (blk_cell BK296.out 1).trans rfl, (blk_cell BK269.out 0).trans rfl, (blk_cell BK269.out 1).trans rfl⟩ (fun hHeld => ?_); refine with_tabW depotlaw02_CnfMeans.tab16 depotlaw02_CnfMeans.bits16 (fun HT_ HW_ => ?_)
              generalize w190.drew = w191 at HO_278001 HO294 BK267 BK269 BK270 BK277 BK296 HB hHeld ⊢
              refine pure_ (i := 0) (N := some 89) (v := ?_) (a' := ?_) #[true, false, false, false, false, false, false, false, false, false, false, false] rfl rfl an_ (fun _ _ _ h => h) (Or.inl ⟨by rfl, ?_⟩) ?_ ?_
              rotate_left
              ·intro w'
               go_simp
               with_reducible rfl
              rotate_left
              ·ap_
               rfl
              refine pure_ (i := 1) (N := some 90) (v := ?_) (a' := ?_) #[true, true, false, false, false, false, false, false, false, false, false, false] rfl rfl an_ (fun _ _ _ h => h) (Or.inl ⟨by rfl, ?_⟩) ?_ ?_
              rotate_left
              ·intro w'
               go_simp
               with_reducible rfl
              rotate_left
              ·ap_
               rfl
              refine pure_ (i := 2) (N := some 91) (v := ?_) (a' := ?_) #[true, true, true, false, false, false, false, false, false, false, false, false] rfl rfl an_ (fun _ _ _ h => h) (Or.inl ⟨by rfl, ?_⟩) ?_ ?_
              rotate_left
              ·intro w'
               go_simp
               with_reducible rfl
              rotate_left
              ·ap_
               rfl
              refine pure_ (i := 4) (N := some 93) (v := ?_) (a' := ?_) #[true, true, true, false, true, false, false, false, false, false, false, false] rfl rfl an_ (fun _ _ _ h => h) (Or.inl ⟨by rfl, ?_⟩) ?_ ?_
              rotate_left
              ·intro w'
               go_simp
               with_reducible rfl
              rotate_left
              ·ap_
               rfl
              refine pure_ (i := 7) (N := some 96) (v := ?_) (a' := ?_) #[true, true, true, false, true, false, false, true, false, false, false, false] rfl rfl an_ (fun _ _ _ h => h) (Or.inl ⟨by rfl, ?_⟩) ?_ ?_
              rotate_left
              ·intro w'
               go_simp
               with_reducible rfl
              rotate_left
              ·ap_
               rfl
              refine take_ (i := 3) (N := some 92) (v := ?_) (a' := ?_) #[true, true, true, true, true, false, false, true, false, false, false, false] rfl rfl (take_ofW HT_.out HW_.out (by kernel_rfl)) (fun _ _ _ h => h) (Or.inl ⟨by rfl, ?_⟩) hHeld ?_ ?_
              rotate_left
              ·rintro w' ⟨s0, s1, s2, s3⟩
               go_simp
               with_reducible rfl
              rotate_left
              ·ap_
               rfl
              refine take_ (i := 6) (N := some 95) (v := ?_) (a' := ?_) #[true, true, true, true, true, false, true, true, false, false, false, false] rfl rfl (take_ofW HT_.out HW_.out (by kernel_rfl)) (fun _ _ _ h => h) (Or.inl ⟨by rfl, ?_⟩) hHeld ?_ ?_
              rotate_left
              ·rintro w' ⟨s0, s1, s2, s3⟩
               go_simp
               with_reducible rfl
              rotate_left
              ·ap_
               rfl
              refine one_ (i := 5) (N := some 94) #[true, true, true, true, true, true, true, true, false, false, false, false] rfl rfl (one_of HT_.out (by kernel_rfl)) (by decide) (fun K hK => ?_)
              refine goes_ Tryd.func18 (by kernel_rfl) rfl #[.agg #[.int .i64 t291, .slice Ao189 t292.length co189], .slice A0_5 l0_5.length c0_5] (by rfl) rfl rfl (by lm_) ?_
              with_reducible refine (cnf_Satisfies.calls kj161 t291 _ _ t292 _ _ l0_5 t297 _ ?side1 ?side2 ?side3 ?side4 A176.out).mono ?_
              (case side1 => repeat (first | exact (Kd.S_reads' HO294.out).2.2 | (with_reducible refine Kd.C_alloc ?_ _) | (with_reducible refine Kd.C_drewN ?_ _) | (with_reducible refine Kd.C_drew ?_)))
              (case side2 => exact (Kd.S_reads' HO294.out).2.1)
              (case side3 => repeat (first | exact (Kd.C_below HR0_5.out HB.out) | (with_reducible refine Kd.C_alloc ?_ _) | (with_reducible refine Kd.C_drewN ?_ _) | (with_reducible refine Kd.C_drew ?_)))
              (case side4 => exact HC0_5.out)
              rintro e w192 ⟨rfl, hb⟩
              refine ⟨_, rfl, ?_⟩
              have n0_ := Aside0.mk (Kd.S_below (by sl_; exact HO_278001.out) hb)
              have n1_ := Aside0.mk (Kd.S_below (by sl_; exact HO294.out) hb)
              have n2_ := Aside0.mk (blk_below (g := gb267) (o := .cells ob0_ 43 (0, 0)) (by bl_; exact BK267.out) hb)
              have n3_ := Aside0.mk (blk_below (g := gb269) (o := .cells ob1_ 24 (0, 0)) (by bl_; exact BK269.out) hb)
              have n4_ := Aside0.mk (blk_below (g := gb270) (o := .cells ob2_ 24 (0, 0)) (by bl_; exact BK270.out) hb)
              have n5_ := Aside0.mk (blk_below (g := gb277) (o := .cells ob3_ 24 (0, 0)) (by bl_; exact BK277.out) hb)
              have n6_ := Aside0.mk (blk_below (g := gb296) (o := .cells #[.int .i64 t291, .slice Ao189 t292.length co189] 24 (0, 0)) (by bl_; exact BK296.out) hb)
              have n7_ := Aside0.mk (below_step (by be4_) hb)
              clear HO_278001
              clear HO294
              clear BK267
              clear BK269
              clear BK270
              clear BK277
              clear BK296
              clear HB
              have HO_278001 := n0_
              have HO294 := n1_
              have BK267 := n2_
              have BK269 := n3_
              have BK270 := n4_
              have BK277 := n5_
              have BK296 := n6_
              have HB := n7_
              clear n0_ n1_ n2_ n3_ n4_ n5_ n6_ n7_
              (try clear hb)
              (try clear hb2)
              (try clear hk)
              (try clear hi)
              refine hK.out _ _ ⟨(blk_cell BK296.out 0).trans rfl, (blk_cell BK296.out 1).trans rfl, (blk_cell BK269.out 0).trans rfl, (blk_cell BK269.out 1).trans rfl⟩ (fun hHeld => ?_)
              clear hK K
              refine norm_ (a' := ?_) ?_ ?_
              rotate_left
              ·show Act.put _ (some 94) _ = _
               ap_
               rfl
              refine one_ (i := 8) (N := some 97) #[true, true, true, true, true, true, true, true, true, false, false, false] rfl rfl (one_of HT_.out (by kernel_rfl)) (by decide) (fun K hK => ?_)
              refine goes_ Tryd.func18 (by kernel_rfl) rfl #[.agg ob1_, .slice A0_5 l0_5.length c0_5] (by rfl) rfl rfl (by lm_) ?_
              with_reducible refine (cnf_Satisfies.calls kj161 a0_0 _ _ l0_1 _ _ l0_5 t298 _ ?side1 ?side2 ?side3 ?side4 A177.out).mono ?_
              (case side1 => repeat (first | exact (Kd.C_below HR0_1.out HB.out) | (with_reducible refine Kd.C_alloc ?_ _) | (with_reducible refine Kd.C_drewN ?_ _) | (with_reducible refine Kd.C_drew ?_)))
              (case side2 => exact HC0_1.out)
              (case side3 => repeat (first | exact (Kd.C_below HR0_5.out HB.out) | (with_reducible refine Kd.C_alloc ?_ _) | (with_reducible refine Kd.C_drewN ?_ _) | (with_reducible refine Kd.C_drew ?_)))
              (case side4 => exact HC0_5.out)
              rintro e w193 ⟨rfl, hb⟩
              refine ⟨_, rfl, ?_⟩
              have n0_ := Aside0.mk (Kd.S_below (by sl_; exact HO_278001.out) hb)
              have n1_ := Aside0.mk (Kd.S_below (by sl_; exact HO294.out) hb)
              have n2_ := Aside0.mk (blk_below (g := gb267) (o := .cells ob0_ 43 (0, 0)) (by bl_; exact BK267.out) hb)
              have n3_ := Aside0.mk (blk_below (g := gb269) (o := .cells ob1_ 24 (0, 0)) (by bl_; exact BK269.out) hb)
              have n4_ := Aside0.mk (blk_below (g := gb270) (o := .cells ob2_ 24 (0, 0)) (by bl_; exact BK270.out) hb)
              have n5_ := Aside0.mk (blk_below (g := gb277) (o := .cells ob3_ 24 (0, 0)) (by bl_; exact BK277.out) hb)
              have n6_ := Aside0.mk (blk_below (g := gb296) (o := .cells #[.int .i64 t291, .slice Ao189 t292.length co189] 24 (0, 0)) (by bl_; exact BK296.out) hb)
              have n7_ := Aside0.mk (below_step (by be4_) hb)
              clear HO_278001
              clear HO294
              clear BK267
              clear BK269
              clear BK270
              clear BK277
              clear BK296
              clear HB
              have HO_278001 := n0_
              have HO294 := n1_
              have BK267 := n2_
              have BK269 := n3_
              have BK270 := n4_
              have BK277 := n5_
              have BK296 := n6_
              have HB := n7_
              clear n0_ n1_ n2_ n3_ n4_ n5_ n6_ n7_
              (try clear hb)
              (try clear hb2)
              (try clear hk)
              (try clear hi)
              refine hK.out _ _ ⟨(blk_cell BK296.out 0).trans rfl, (blk_cell BK296.out 1).trans rfl, (blk_cell BK269.out 0).trans rfl, (blk_cell BK269.out 1).trans rfl⟩ (fun hHeld => ?_)
              clear hK K
              refine norm_ (a' := ?_) ?_ ?_
              rotate_left
              ·show Act.put _ (some 97) _ = _
               ap_
               rfl
              refine pure_ (i := 9) (N := some 98) (v := ?_) (a' := ?_) #[true, true, true, true, true, true, true, true, true, true, false, false] rfl rfl an_ (fun _ _ _ h => h) (Or.inl ⟨by rfl, ?_⟩) ?_ ?_
              rotate_left
              ·intro w'
               go_simp
               with_reducible rfl
              rotate_left
              ·ap_
               rfl
              refine pure_ (i := 10) (N := some 99) (v := ?_) (a' := ?_) #[true, true, true, true, true, true, true, true, true, true, true, false] rfl rfl an_ (fun _ _ _ h => h) (Or.inl ⟨by rfl, ?_⟩) ?_ ?_
              rotate_left
              ·intro w'
               go_simp
               with_reducible rfl
              rotate_left
              ·ap_
               rfl
              refine pure_ (i := 11) (N := some 2) (v := ?_) (a' := ?_) #[true, true, true, true, true, true, true, true, true, true, true, true] rfl rfl an_ (fun _ _ _ h => h) (Or.inl ⟨by rfl, ?_⟩) ?_ ?_
              rotate_left
              ·intro w'
               go_simp
               with_reducible rfl
              rotate_left
              ·ap_
               rfl
              refine done_ (done_of HT_.out (by kernel_rfl)) ?_
              try go_wp2
              go_ret
              exact ⟨by first | rfl | (simp [errW_none, errW_some] <;> rfl) | (simp [*, errW_none, errW_some] <;> rfl), by be4_⟩
             ·rw [if_neg c175] at H
              have c175b0 : (t295 == 0) = false := beq_eq_false_iff_ne.mpr c175
              have c175b1 : (t295 != 0) = true := bne_iff_ne.mpr c175
              obtain rfl := Option.some.inj H
              have hnb194 := NB269_267.out
              have hnc194 := NB267_269.out
              have hnb195 := NB269_270.out
              have hnc195 := NB270_269.out
              have hnb196 := NB269_277.out
              have hnc196 := NB277_269.out
              have hcz197_0 : wc.cell? ⟨gb269, 0, none⟩ = some (.int .i64 a0_0) := (blk_cell BK269.out 0).trans rfl
              have hcz197_1 : wc.cell? ⟨gb269, 1, none⟩ = some (.slice A0_1 l0_1.length c0_1) := (blk_cell BK269.out 1).trans rfl
              have hfz197_0 := blk_frozen BK269.out 0
              have hfz197_1 := blk_frozen BK269.out 1
              try go_wp2_with (first | ((with_reducible refine gate_callee (f := 21) rfl ?_); refine goesL_ (some 86) rfl rfl Tryd.func21 (by kernel_rfl) rfl #[.agg ob1_, .slice A0_4 l0_4.length c0_4] rfl (by lm_) ?_; (with_reducible refine (cnf_Under.calls kj161 a0_0 _ _ l0_1 _ _ l0_4 t291 t292 t295 _ ?side1 ?side2 ?side3 ?side4 A174.out).mono ?_); (case side1 => repeat (first | exact (Kd.C_below HR0_1.out HB.out) | (with_reducible refine Kd.C_alloc ?_ _) | (with_reducible refine Kd.C_drewN ?_ _) | (with_reducible refine Kd.C_drew ?_))); (case side2 => exact HC0_1.out); (case side3 => repeat (first | exact (Kd.C_below HR0_4.out HB.out) | (with_reducible refine Kd.C_alloc ?_ _) | (with_reducible refine Kd.C_drewN ?_ _) | (with_reducible refine Kd.C_drew ?_))); (case side4 => exact HC0_4.out); rintro e w198 ⟨v293, rfl, ho0, hb⟩; refine ⟨_, rfl, ?_⟩; have n0_ := Aside0.mk (Kd.S_elder' (by sl_; exact HO_278001.out) (Kd.S_base ho0) hb); have n1_ := Aside0.mk (Kd.S_lower (Kd.S_new' ho0 (Kd.S_lt (by sl_; exact HO_278001.out))) (below_size (by be0_))); have n2_ := Aside0.mk (blk_below (g := gb267) (o := .cells ob0_ 43 (0, 0)) (by bl_; exact BK267.out) hb); have n3_ := Aside0.mk (blk_below (g := gb269) (o := .cells ob1_ 24 (0, 0)) (by bl_; exact BK269.out) hb); have n4_ := Aside0.mk (blk_below (g := gb270) (o := .cells ob2_ 24 (0, 0)) (by bl_; exact BK270.out) hb); have n5_ := Aside0.mk (blk_below (g := gb277) (o := .cells ob3_ 24 (0, 0)) (by bl_; exact BK277.out) hb); have n6_ := Aside0.mk (below_step (by be0_) hb); clear HO_278001; clear BK267; clear BK269; clear BK270; clear BK277; clear HB; have HO_278001 := n0_; have HO294 := n1_; have BK267 := n2_; have BK269 := n3_; have BK270 := n4_; have BK277 := n5_; have HB := n6_; clear n0_ n1_ n2_ n3_ n4_ n5_ n6_; ch_) | ((with_reducible refine gate_dst (N := 11) rfl ?_); refine box_event ?hg (N := 11) ?hd (cs := #[.int .i64 0, .slice none 0 0]) (t := 24) ?hr ?_; bx_; intro gb296 hg w199 hbox hb; have n0_ := Aside0.mk (Kd.S_below (by sl_; exact HO_278001.out) hb); have n1_ := Aside0.mk (Kd.S_below (by sl_; exact HO294.out) hb); have n2_ := Aside0.mk (blk_below (g := gb267) (o := .cells ob0_ 43 (0, 0)) (by bl_; exact BK267.out) hb); have n3_ := Aside0.mk (blk_below (g := gb269) (o := .cells ob1_ 24 (0, 0)) (by bl_; exact BK269.out) hb); have n4_ := Aside0.mk (blk_below (g := gb270) (o := .cells ob2_ 24 (0, 0)) (by bl_; exact BK270.out) hb); have n5_ := Aside0.mk (blk_below (g := gb277) (o := .cells ob3_ 24 (0, 0)) (by bl_; exact BK277.out) hb); have n6_ := Aside0.mk (below_step (by be0_) hb); have n7_ := Aside0.mk (hbox); have n8_ := Aside0.mk ((by rw [hg]; exact (below_size (by be0_)) : w.heap.size ≤ gb296)); have n9_ := Aside0.mk ((by rw [hg]; exact (below_size (by be0_)) : w.heap.size ≤ gb296)); have n10_ := Aside0.mk ((by rw [hg]; exact Nat.ne_of_lt (blk_lt (g := gb267) (o := .cells ob0_ 43 (0, 0)) (by bl_; exact BK267.out)) : gb267 ≠ gb296)); have n11_ := Aside0.mk ((by rw [hg]; exact Nat.ne_of_gt (blk_lt (g := gb267) (o := .cells ob0_ 43 (0, 0)) (by bl_; exact BK267.out)) : gb296 ≠ gb267)); have n12_ := Aside0.mk ((by rw [hg]; exact Nat.ne_of_lt (blk_lt (g := gb269) (o := .cells ob1_ 24 (0, 0)) (by bl_; exact BK269.out)) : gb269 ≠ gb296)); have n13_ := Aside0.mk ((by rw [hg]; exact Nat.ne_of_gt (blk_lt (g := gb269) (o := .cells ob1_ 24 (0, 0)) (by bl_; exact BK269.out)) : gb296 ≠ gb269)); have n14_ := Aside0.mk ((by rw [hg]; exact Nat.ne_of_lt (blk_lt (g := gb270) (o := .cells ob2_ 24 (0, 0)) (by bl_; exact BK270.out)) : gb270 ≠ gb296)); have n15_ := Aside0.mk ((by rw [hg]; exact Nat.ne_of_gt (blk_lt (g := gb270) (o := .cells ob2_ 24 (0, 0)) (by bl_; exact BK270.out)) : gb296 ≠ gb270)); have n16_ := Aside0.mk ((by rw [hg]; exact Nat.ne_of_lt (blk_lt (g := gb277) (o := .cells ob3_ 24 (0, 0)) (by bl_; exact BK277.out)) : gb277 ≠ gb296)); have n17_ := Aside0.mk ((by rw [hg]; exact Nat.ne_of_gt (blk_lt (g := gb277) (o := .cells ob3_ 24 (0, 0)) (by bl_; exact BK277.out)) : gb296 ≠ gb277)); clear HO_278001; clear HO294; clear BK267; clear BK269; clear BK270; clear BK277; clear HB; have HO_278001 := n0_; have HO294 := n1_; have BK267 := n2_; have BK269 := n3_; have BK270 := n4_; have BK277 := n5_; have HB := n6_; have BK296 := n7_; have GW296 := n8_; have GE296 := n9_; have NB267_296 := n10_; have NB296_267 := n11_; have NB269_296 := n12_; have NB296_269 := n13_; have NB270_296 := n14_; have NB296_270 := n15_; have NB277_296 := n16_; have NB296_277 := n17_; clear n0_ n1_ n2_ n3_ n4_ n5_ n6_ n7_ n8_ n9_ n10_ n11_ n12_ n13_ n14_ n15_ n16_ n17_; clear hb hbox hg; have hnb200 := NB296_267.out; have hnc200 := NB267_296.out; have hnb201 := NB296_269.out; have hnc201 := NB269_296.out; have hnb202 := NB296_270.out; have hnc202 := NB270_296.out; have hnb203 := NB296_277.out; have hnc203 := NB277_296.out; have hcz204_0 : w199.cell? ⟨gb296, 0, none⟩ = some (.int .i64 0) := (blk_cell BK296.out 0).trans rfl; have hcz204_1 : w199.cell? ⟨gb296, 1, none⟩ = some (.slice none 0 0) := (blk_cell BK296.out 1).trans rfl; have hfz204_0 := blk_frozen BK296.out 0; have hfz204_1 := blk_frozen BK296.out 1; obtain ⟨Ao205, co205, eo205⟩ := Kd.S_slice HO294.out; subst eo205))
              have n0_ : Aside0 (Kd.S (Kd.slice 3 (Kd.int .i64)) 40 ((w199.setCell ⟨gb296, 0, none⟩ (.int .i64 t291)).setCell ⟨gb296, 1, none⟩ (.slice Ao205 t292.length co205)) w.heap.size (fun k_ => some k_ ≠ (.slice Ao205 t292.length co205 : Value).ownBlock) (.slice Ao29 t273.length co29) t273) := ⟨by sl_; exact Kd.S_mono (Kd.S_far (p := ⟨gb296, 1, none⟩) (Kd.S_far (p := ⟨gb296, 0, none⟩) (Kd.S_types HO_278001.out BK296.out (by decide)) (fun _ hk => hk.2) (.int .i64 t291)) (fun _ hk => hk.2) (.slice Ao205 t292.length co205)) (fun _ hk => hk.1.2)⟩
              have n1_ : Aside0 (Kd.S (Kd.slice 3 (Kd.int .i64)) 40 ((w199.setCell ⟨gb296, 0, none⟩ (.int .i64 t291)).setCell ⟨gb296, 1, none⟩ (.slice Ao205 t292.length co205)) w.heap.size (fun k_ => some k_ ≠ (.slice Ao29 t273.length co29 : Value).ownBlock) (.slice Ao205 t292.length co205) t292) := ⟨by sl_; exact Kd.S_mono (Kd.S_far (p := ⟨gb296, 1, none⟩) (Kd.S_far (p := ⟨gb296, 0, none⟩) (Kd.S_types HO294.out BK296.out (by decide)) (fun _ hk => hk.2) (.int .i64 t291)) (fun _ hk => hk.2) (.slice Ao205 t292.length co205)) (fun _ hk => hk.1.2)⟩
              have n2_ : Aside0 (((w199.setCell ⟨gb296, 0, none⟩ (.int .i64 t291)).setCell ⟨gb296, 1, none⟩ (.slice Ao205 t292.length co205)).heap[gb267]? = some (.cells ob0_ 43 (0, 0))) := ⟨by bl_; refine blk_far ?_ NB267_296.out _; bl_; refine blk_far ?_ NB267_296.out _; bl_; exact BK267.out⟩
              have n3_ : Aside0 (((w199.setCell ⟨gb296, 0, none⟩ (.int .i64 t291)).setCell ⟨gb296, 1, none⟩ (.slice Ao205 t292.length co205)).heap[gb269]? = some (.cells ob1_ 24 (0, 0))) := ⟨by bl_; refine blk_far ?_ NB269_296.out _; bl_; refine blk_far ?_ NB269_296.out _; bl_; exact BK269.out⟩
              have n4_ : Aside0 (((w199.setCell ⟨gb296, 0, none⟩ (.int .i64 t291)).setCell ⟨gb296, 1, none⟩ (.slice Ao205 t292.length co205)).heap[gb270]? = some (.cells ob2_ 24 (0, 0))) := ⟨by bl_; refine blk_far ?_ NB270_296.out _; bl_; refine blk_far ?_ NB270_296.out _; bl_; exact BK270.out⟩
              have n5_ : Aside0 (((w199.setCell ⟨gb296, 0, none⟩ (.int .i64 t291)).setCell ⟨gb296, 1, none⟩ (.slice Ao205 t292.length co205)).heap[gb277]? = some (.cells ob3_ 24 (0, 0))) := ⟨by bl_; refine blk_far ?_ NB277_296.out _; bl_; refine blk_far ?_ NB277_296.out _; bl_; exact BK277.out⟩
              have n6_ : Aside0 (((w199.setCell ⟨gb296, 0, none⟩ (.int .i64 t291)).setCell ⟨gb296, 1, none⟩ (.slice Ao205 t292.length co205)).heap[gb296]? = some (.cells #[.int .i64 t291, .slice Ao205 t292.length co205] 24 (0, 0))) := ⟨by bl_; refine blk_put (cs := #[.int .i64 t291, .slice none 0 0]) ?_ 1 _ rfl; bl_; refine blk_put (cs := #[.int .i64 0, .slice none 0 0]) ?_ 0 _ rfl; bl_; exact BK296.out⟩
              have n7_ : Aside0 (Below w.heap.size w ((w199.setCell ⟨gb296, 0, none⟩ (.int .i64 t291)).setCell ⟨gb296, 1, none⟩ (.slice Ao205 t292.length co205))) := ⟨by be4_⟩
              (try clear HO_278001)
              (try clear HO294)
              (try clear BK267)
              (try clear BK269)
              (try clear BK270)
              (try clear BK277)
              (try clear BK296)
              (try clear HB)
              generalize ((w199.setCell ⟨gb296, 0, none⟩ (.int .i64 t291)).setCell ⟨gb296, 1, none⟩ (.slice Ao205 t292.length co205)) = w206 at n0_ n1_ n2_ n3_ n4_ n5_ n6_ n7_ ⊢
              have HO_278001 := n0_
              have HO294 := n1_
              have BK267 := n2_
              have BK269 := n3_
              have BK270 := n4_
              have BK277 := n5_
              have BK296 := n6_
              have HB := n7_
              clear n0_ n1_ n2_ n3_ n4_ n5_ n6_ n7_
              have n0_ := Aside0.mk (Kd.S_drew HO_278001.out)
              have n1_ := Aside0.mk (Kd.S_drew HO294.out)
              have n2_ := Aside0.mk (blk_drew BK267.out)
              have n3_ := Aside0.mk (blk_drew BK269.out)
              have n4_ := Aside0.mk (blk_drew BK270.out)
              have n5_ := Aside0.mk (blk_drew BK277.out)
              have n6_ := Aside0.mk (blk_drew BK296.out)
              have n7_ := Aside0.mk (below_drew1 HB.out)
              clear HO_278001
              clear HO294
              clear BK267
              clear BK269
              clear BK270
              clear BK277
              clear BK296
              clear HB
              have HO_278001 := n0_
              have HO294 := n1_
              have BK267 := n2_
              have BK269 := n3_
              have BK270 := n4_
              have BK277 := n5_
              have BK296 := n6_
              have HB := n7_
              clear n0_ n1_ n2_ n3_ n4_ n5_ n6_ n7_
              refine start_ (n := 12) (S := fun w' => True) (ds := []) #[false, false, false, false, false, false, false, false, false, false, false, false] (by kernel_rfl) rfl rfl trivial (fun hHeld => ?_); refine with_tabW depotlaw02_CnfMeans.tab16 depotlaw02_CnfMeans.bits16 (fun HT_ HW_ => ?_)
              generalize w206.drew = w207 at HO_278001 HO294 BK267 BK269 BK270 BK277 BK296 HB hHeld ⊢
              refine pure_ (i := 0) (N := some 89) (v := ?_) (a' := ?_) #[true, false, false, false, false, false, false, false, false, false, false, false] rfl rfl an_ (fun _ _ _ h => h) (Or.inl ⟨by rfl, ?_⟩) ?_ ?_
              rotate_left
              ·intro w'
               go_simp
               with_reducible rfl
              rotate_left
              ·ap_
               rfl
              refine pure_ (i := 1) (N := some 90) (v := ?_) (a' := ?_) #[true, true, false, false, false, false, false, false, false, false, false, false] rfl rfl an_ (fun _ _ _ h => h) (Or.inl ⟨by rfl, ?_⟩) ?_ ?_
              rotate_left
              ·intro w'
               go_simp
               with_reducible rfl
              rotate_left
              ·ap_
               rfl
              refine pure_ (i := 2) (N := some 91) (v := ?_) (a' := ?_) #[true, true, true, false, false, false, false, false, false, false, false, false] rfl rfl an_ (fun _ _ _ h => h) (Or.inl ⟨by rfl, ?_⟩) ?_ ?_
              rotate_left
              ·intro w'
               go_simp
               with_reducible rfl
              rotate_left
              ·ap_
               rfl
              refine pure_ (i := 3) (N := some 92) (v := undef) (a' := ?_) #[true, true, true, true, false, false, false, false, false, false, false, false] rfl rfl an_ (fun _ _ _ h => h) (Or.inr ⟨by rfl, rfl⟩) ?_ ?_
              rotate_left
              ·ap_
               rfl
              refine pure_ (i := 4) (N := some 93) (v := undef) (a' := ?_) #[true, true, true, true, true, false, false, false, false, false, false, false] rfl rfl an_ (fun _ _ _ h => h) (Or.inr ⟨by rfl, rfl⟩) ?_ ?_
              rotate_left
              ·ap_
               rfl
              refine pure_ (i := 5) (N := some 94) (v := undef) (a' := ?_) #[true, true, true, true, true, true, false, false, false, false, false, false] rfl rfl an_ (fun _ _ _ h => h) (Or.inr ⟨by rfl, rfl⟩) ?_ ?_
              rotate_left
              ·ap_
               rfl
              refine pure_ (i := 6) (N := some 95) (v := undef) (a' := ?_) #[true, true, true, true, true, true, true, false, false, false, false, false] rfl rfl an_ (fun _ _ _ h => h) (Or.inr ⟨by rfl, rfl⟩) ?_ ?_
              rotate_left
              ·ap_
               rfl
              refine pure_ (i := 7) (N := some 96) (v := undef) (a' := ?_) #[true, true, true, true, true, true, true, true, false, false, false, false] rfl rfl an_ (fun _ _ _ h => h) (Or.inr ⟨by rfl, rfl⟩) ?_ ?_
              rotate_left
              ·ap_
               rfl
              refine pure_ (i := 8) (N := some 97) (v := undef) (a' := ?_) #[true, true, true, true, true, true, true, true, true, false, false, false] rfl rfl an_ (fun _ _ _ h => h) (Or.inr ⟨by rfl, rfl⟩) ?_ ?_
              rotate_left
              ·ap_
               rfl
              refine pure_ (i := 9) (N := some 98) (v := undef) (a' := ?_) #[true, true, true, true, true, true, true, true, true, true, false, false] rfl rfl an_ (fun _ _ _ h => h) (Or.inr ⟨by rfl, rfl⟩) ?_ ?_
              rotate_left
              ·ap_
               rfl
              refine pure_ (i := 10) (N := some 99) (v := ?_) (a' := ?_) #[true, true, true, true, true, true, true, true, true, true, true, false] rfl rfl an_ (fun _ _ _ h => h) (Or.inl ⟨by rfl, ?_⟩) ?_ ?_
              rotate_left
              ·intro w'
               go_simp
               with_reducible rfl
              rotate_left
              ·ap_
               rfl
              refine pure_ (i := 11) (N := some 2) (v := ?_) (a' := ?_) #[true, true, true, true, true, true, true, true, true, true, true, true] rfl rfl an_ (fun _ _ _ h => h) (Or.inl ⟨by rfl, ?_⟩) ?_ ?_
              rotate_left
              ·intro w'
               go_simp
               with_reducible rfl
              rotate_left
              ·ap_
               rfl
              refine done_ (done_of HT_.out (by kernel_rfl)) ?_
              try go_wp2
              go_ret
              exact ⟨by first | rfl | (simp [errW_none, errW_some] <;> rfl) | (simp [*, errW_none, errW_some] <;> rfl), by be4_⟩
  ·replace c5 := Bool.eq_false_iff.mpr c5
   subst c5
   have H1 : (some true) = some r := by rw [if_neg (show ¬ (false = true) by decide)] at H; exact H
   clear H
   have H := H1
   clear H1
   obtain rfl := Option.some.inj H
   go_enter Tryd.func4, Tryd.ntmps4
   try go_wp2_with (first | ((with_reducible refine gate_dst (N := 1) rfl ?_); refine box_event ?hg (N := 1) ?hd (cs := ob0_) (t := 43) ?hr ?_; bx_; intro gb267 hg w208 hbox hb; have n0_ := Aside0.mk (below_step (by be5_) hb); have n1_ := Aside0.mk (hbox); have n2_ := Aside0.mk ((by rw [hg]; exact (below_size (by be5_)) : w.heap.size ≤ gb267)); have n3_ := Aside0.mk ((by rw [hg]; exact (below_size (by be5_)) : w.heap.size ≤ gb267)); clear HB; have HB := n0_; have BK267 := n1_; have GW267 := n2_; have GE267 := n3_; clear n0_ n1_ n2_ n3_; clear hb hbox hg) | ((with_reducible refine gate_callee (f := 16) rfl ?_); refine goesL_ (some 12) rfl rfl Tryd.func16 (by kernel_rfl) rfl #[] rfl (by lm_) ?_; (with_reducible refine (depotlaw02_awake.calls k  true _ A2.out).mono ?_); rintro e w209 ⟨rfl, hb⟩; refine ⟨_, rfl, ?_⟩; have n0_ := Aside0.mk (blk_below (g := gb267) (o := .cells ob0_ 43 (0, 0)) (by bl_; exact BK267.out) hb); have n1_ := Aside0.mk (below_step (by be3_) hb); clear BK267; clear HB; have BK267 := n0_; have HB := n1_; clear n0_ n1_; (try clear hb); (try clear hb2); (try clear hk); (try clear hi)))
   have n0_ := Aside0.mk (blk_drew BK267.out)
   have n1_ := Aside0.mk (below_drew1 HB.out)
   clear BK267
   clear HB
   have BK267 := n0_
   have HB := n1_
   clear n0_ n1_
   refine start_ (n := 14) (S := fun w' => w'.cell? ⟨gb267, 0, none⟩ = some (.int .i64 a0_0) ∧ w'.cell? ⟨gb267, 1, none⟩ = some (.slice A0_1 l0_1.length c0_1) ∧ w'.cell? ⟨gb267, 2, none⟩ = some (.int .i64 a0_2) ∧ w'.cell? ⟨gb267, 3, none⟩ = some (.slice A0_3 l0_3.length c0_3) ∧ w'.cell? ⟨gb267, 4, none⟩ = some (.slice A0_4 l0_4.length c0_4) ∧ w'.cell? ⟨gb267, 5, none⟩ = some (.slice A0_5 l0_5.length c0_5)) (ds := []) #[false, false, false, false, false, false, false, false, false, false, false, false, false, false] (by kernel_rfl) rfl rfl ⟨(blk_cell BK267.out 0).trans rfl, (blk_cell BK267.out 1).trans rfl, (blk_cell BK267.out 2).trans rfl, (blk_cell BK267.out 3).trans rfl, (blk_cell BK267.out 4).trans rfl, (blk_cell BK267.out 5).trans rfl⟩ (fun hHeld => ?_); refine with_tabW depotlaw02_CnfMeans.tab3 depotlaw02_CnfMeans.bits3 (fun HT_ HW_ => ?_)
   generalize w209.drew = w210 at BK267 HB hHeld ⊢
   refine pure_ (i := 0) (N := some 14) (v := ?_) (a' := ?_) #[true, false, false, false, false, false, false, false, false, false, false, false, false, false] rfl rfl an_ (fun _ _ _ h => h) (Or.inl ⟨by rfl, ?_⟩) ?_ ?_
   rotate_left
   ·intro w'
    go_simp
    with_reducible rfl
   rotate_left
   ·ap_
    rfl
   refine pure_ (i := 2) (N := some 16) (v := ?_) (a' := ?_) #[true, false, true, false, false, false, false, false, false, false, false, false, false, false] rfl rfl an_ (fun _ _ _ h => h) (Or.inl ⟨by rfl, ?_⟩) ?_ ?_
   rotate_left
   ·intro w'
    go_simp
    with_reducible rfl
   rotate_left
   ·ap_
    rfl
   refine pure_ (i := 4) (N := some 18) (v := ?_) (a' := ?_) #[true, false, true, false, true, false, false, false, false, false, false, false, false, false] rfl rfl an_ (fun _ _ _ h => h) (Or.inl ⟨by rfl, ?_⟩) ?_ ?_
   rotate_left
   ·intro w'
    go_simp
    with_reducible rfl
   rotate_left
   ·ap_
    rfl
   refine pure_ (i := 6) (N := some 20) (v := ?_) (a' := ?_) #[true, false, true, false, true, false, true, false, false, false, false, false, false, false] rfl rfl an_ (fun _ _ _ h => h) (Or.inl ⟨by rfl, ?_⟩) ?_ ?_
   rotate_left
   ·intro w'
    go_simp
    with_reducible rfl
   rotate_left
   ·ap_
    rfl
   refine take_ (i := 1) (N := some 15) (v := ?_) (a' := ?_) #[true, true, true, false, true, false, true, false, false, false, false, false, false, false] rfl rfl (take_ofW HT_.out HW_.out (by kernel_rfl)) (fun _ _ _ h => h) (Or.inl ⟨by rfl, ?_⟩) hHeld ?_ ?_
   rotate_left
   ·rintro w' ⟨s0, s1, s2, s3, s4, s5⟩
    go_simp
    with_reducible rfl
   rotate_left
   ·ap_
    rfl
   refine take_ (i := 3) (N := some 17) (v := ?_) (a' := ?_) #[true, true, true, true, true, false, true, false, false, false, false, false, false, false] rfl rfl (take_ofW HT_.out HW_.out (by kernel_rfl)) (fun _ _ _ h => h) (Or.inl ⟨by rfl, ?_⟩) hHeld ?_ ?_
   rotate_left
   ·rintro w' ⟨s0, s1, s2, s3, s4, s5⟩
    go_simp
    with_reducible rfl
   rotate_left
   ·ap_
    rfl
   refine take_ (i := 5) (N := some 19) (v := ?_) (a' := ?_) #[true, true, true, true, true, true, true, false, false, false, false, false, false, false] rfl rfl (take_ofW HT_.out HW_.out (by kernel_rfl)) (fun _ _ _ h => h) (Or.inl ⟨by rfl, ?_⟩) hHeld ?_ ?_
   rotate_left
   ·rintro w' ⟨s0, s1, s2, s3, s4, s5⟩
    go_simp
    with_reducible rfl
   rotate_left
   ·ap_
    rfl
   refine take_ (i := 7) (N := some 21) (v := ?_) (a' := ?_) #[true, true, true, true, true, true, true, true, false, false, false, false, false, false] rfl rfl (take_ofW HT_.out HW_.out (by kernel_rfl)) (fun _ _ _ h => h) (Or.inl ⟨by rfl, ?_⟩) hHeld ?_ ?_
   rotate_left
   ·rintro w' ⟨s0, s1, s2, s3, s4, s5⟩
    go_simp
    with_reducible rfl
   rotate_left
   ·ap_
    rfl
   refine join_ (σ := Nat × Nat) 4 #[true, true, true, true, true, true, true, true, true, true, false, false, false, false] (fun s_ => [(3, .pointer (some ⟨s_.1, 0, none⟩)), (4, .pointer (some ⟨s_.2, 0, none⟩))]) (fun s_ w' => (w'.cell? ⟨gb267, 0, none⟩ = some (.int .i64 a0_0) ∧ w'.cell? ⟨gb267, 1, none⟩ = some (.slice A0_1 l0_1.length c0_1) ∧ w'.cell? ⟨gb267, 2, none⟩ = some (.int .i64 a0_2) ∧ w'.cell? ⟨gb267, 3, none⟩ = some (.slice A0_3 l0_3.length c0_3) ∧ w'.cell? ⟨gb267, 4, none⟩ = some (.slice A0_4 l0_4.length c0_4) ∧ w'.cell? ⟨gb267, 5, none⟩ = some (.slice A0_5 l0_5.length c0_5)) ∧ (w'.heap[gb267]? = some (.cells ob0_ 43 (0, 0))) ∧ (w'.heap[s_.1]? = some (.cells #[.int .i64 0, .slice none 0 0] 24 (0, 0))) ∧ (w'.heap[s_.2]? = some (.cells #[.int .i64 0, .slice none 0 0] 24 (0, 0))) ∧ (w.heap.size ≤ s_.1) ∧ (w.heap.size ≤ s_.1) ∧ (gb267 ≠ s_.1) ∧ (s_.1 ≠ gb267) ∧ (s_.2 ≠ s_.1) ∧ (s_.1 ≠ s_.2) ∧ (w.heap.size ≤ s_.2) ∧ (w.heap.size ≤ s_.2) ∧ (gb267 ≠ s_.2) ∧ (s_.2 ≠ gb267) ∧ (Below w.heap.size w w')) ?_ ?_
   rotate_left
   ·intro hCont
    refine two_ (i := 8) (j := 9) (Ni := some 3) (Nj := some 4) #[true, true, true, true, true, true, true, true, true, false, false, false, false, false] #[true, true, true, true, true, true, true, true, false, true, false, false, false, false] rfl rfl rfl rfl (two_of HT_.out (by kernel_rfl)) (by decide) (by decide) (fun K hK => ?_) (fun K hK => ?_)
    ·skip
     refine box_step ?hg (N := 3) ?hd (cs := #[.int .i64 0, .slice none 0 0]) (t := 24) ?hr ?_; bx_
     intro gb269 hg w211 hbox hb
     have n0_ := Aside0.mk (blk_below (g := gb267) (o := .cells ob0_ 43 (0, 0)) (by bl_; exact BK267.out) hb)
     have n1_ := Aside0.mk (below_step (by be3_) hb)
     have n2_ := Aside0.mk (hbox)
     have n3_ := Aside0.mk ((by rw [hg]; exact (below_size (by be3_)) : w.heap.size ≤ gb269))
     have n4_ := Aside0.mk ((by rw [hg]; exact (below_size (by be3_)) : w.heap.size ≤ gb269))
     have n5_ := Aside0.mk ((by rw [hg]; exact Nat.ne_of_lt (blk_lt (g := gb267) (o := .cells ob0_ 43 (0, 0)) (by bl_; exact BK267.out)) : gb267 ≠ gb269))
     have n6_ := Aside0.mk ((by rw [hg]; exact Nat.ne_of_gt (blk_lt (g := gb267) (o := .cells ob0_ 43 (0, 0)) (by bl_; exact BK267.out)) : gb269 ≠ gb267))
     clear BK267
     clear HB
     have BK267 := n0_
     have HB := n1_
     have BK269 := n2_
     have GW269 := n3_
     have GE269 := n4_
     have NB267_269 := n5_
     have NB269_267 := n6_
     clear n0_ n1_ n2_ n3_ n4_ n5_ n6_
     clear hb hbox hg
     refine hK.out _ _ ⟨(blk_cell BK267.out 0).trans rfl, (blk_cell BK267.out 1).trans rfl, (blk_cell BK267.out 2).trans rfl, (blk_cell BK267.out 3).trans rfl, (blk_cell BK267.out 4).trans rfl, (blk_cell BK267.out 5).trans rfl⟩ (fun hHeld => ?_)
     clear hK K
     refine norm_ (a' := ?_) ?_ ?_
     rotate_left
     ·show Act.put _ (some 3) _ = _
      ap_
      rfl
     refine one_ (i := 9) (N := some 4) #[true, true, true, true, true, true, true, true, true, true, false, false, false, false] rfl rfl (one_of HT_.out (by kernel_rfl)) (by decide) (fun K hK => ?_)
     refine box_step ?hg (N := 4) ?hd (cs := #[.int .i64 0, .slice none 0 0]) (t := 24) ?hr ?_; bx_
     intro gb270 hg w212 hbox hb
     have n0_ := Aside0.mk (blk_below (g := gb267) (o := .cells ob0_ 43 (0, 0)) (by bl_; exact BK267.out) hb)
     have n1_ := Aside0.mk (blk_below (g := gb269) (o := .cells #[.int .i64 0, .slice none 0 0] 24 (0, 0)) (by bl_; exact BK269.out) hb)
     have n2_ := Aside0.mk (below_step (by be6_) hb)
     have n3_ := Aside0.mk (hbox)
     have n4_ := Aside0.mk ((by rw [hg]; exact (below_size (by be6_)) : w.heap.size ≤ gb270))
     have n5_ := Aside0.mk ((by rw [hg]; exact (below_size (by be6_)) : w.heap.size ≤ gb270))
     have n6_ := Aside0.mk ((by rw [hg]; exact Nat.ne_of_lt (blk_lt (g := gb267) (o := .cells ob0_ 43 (0, 0)) (by bl_; exact BK267.out)) : gb267 ≠ gb270))
     have n7_ := Aside0.mk ((by rw [hg]; exact Nat.ne_of_gt (blk_lt (g := gb267) (o := .cells ob0_ 43 (0, 0)) (by bl_; exact BK267.out)) : gb270 ≠ gb267))
     have n8_ := Aside0.mk ((by rw [hg]; exact Nat.ne_of_lt (blk_lt (g := gb269) (o := .cells #[.int .i64 0, .slice none 0 0] 24 (0, 0)) (by bl_; exact BK269.out)) : gb269 ≠ gb270))
     have n9_ := Aside0.mk ((by rw [hg]; exact Nat.ne_of_gt (blk_lt (g := gb269) (o := .cells #[.int .i64 0, .slice none 0 0] 24 (0, 0)) (by bl_; exact BK269.out)) : gb270 ≠ gb269))
     clear BK267
     clear BK269
     clear HB
     have BK267 := n0_
     have BK269 := n1_
     have HB := n2_
     have BK270 := n3_
     have GW270 := n4_
     have GE270 := n5_
     have NB267_270 := n6_
     have NB270_267 := n7_
     have NB269_270 := n8_
     have NB270_269 := n9_
     clear n0_ n1_ n2_ n3_ n4_ n5_ n6_ n7_ n8_ n9_
     clear hb hbox hg
     refine hK.out _ _ ⟨(blk_cell BK267.out 0).trans rfl, (blk_cell BK267.out 1).trans rfl, (blk_cell BK267.out 2).trans rfl, (blk_cell BK267.out 3).trans rfl, (blk_cell BK267.out 4).trans rfl, (blk_cell BK267.out 5).trans rfl⟩ (fun hHeld => ?_)
     clear hK K
     refine norm_ (a' := ?_) ?_ ?_
     rotate_left
     ·show Act.put _ (some 4) _ = _
      ap_
      rfl
     exact norm_ (by simp only [putAll, Act.put, List.setIfInBounds_toArray, List.set_cons_zero, List.set_cons_succ]) (hCont (gb269, gb270) _ ⟨hHeld, (by bl_; exact BK267.out), (by bl_; exact BK269.out), (by bl_; exact BK270.out), GW269.out, GE269.out, NB267_269.out, NB269_267.out, NB270_269.out, NB269_270.out, GW270.out, GE270.out, NB267_270.out, NB270_267.out, (by be2_)⟩)
    ·skip
     refine box_step ?hg (N := 4) ?hd (cs := #[.int .i64 0, .slice none 0 0]) (t := 24) ?hr ?_; bx_
     intro gb270 hg w211 hbox hb
     have n0_ := Aside0.mk (blk_below (g := gb267) (o := .cells ob0_ 43 (0, 0)) (by bl_; exact BK267.out) hb)
     have n1_ := Aside0.mk (below_step (by be3_) hb)
     have n2_ := Aside0.mk (hbox)
     have n3_ := Aside0.mk ((by rw [hg]; exact (below_size (by be3_)) : w.heap.size ≤ gb270))
     have n4_ := Aside0.mk ((by rw [hg]; exact (below_size (by be3_)) : w.heap.size ≤ gb270))
     have n5_ := Aside0.mk ((by rw [hg]; exact Nat.ne_of_lt (blk_lt (g := gb267) (o := .cells ob0_ 43 (0, 0)) (by bl_; exact BK267.out)) : gb267 ≠ gb270))
     have n6_ := Aside0.mk ((by rw [hg]; exact Nat.ne_of_gt (blk_lt (g := gb267) (o := .cells ob0_ 43 (0, 0)) (by bl_; exact BK267.out)) : gb270 ≠ gb267))
     clear BK267
     clear HB
     have BK267 := n0_
     have HB := n1_
     have BK270 := n2_
     have GW270 := n3_
     have GE270 := n4_
     have NB267_270 := n5_
     have NB270_267 := n6_
     clear n0_ n1_ n2_ n3_ n4_ n5_ n6_
     clear hb hbox hg
     refine hK.out _ _ ⟨(blk_cell BK267.out 0).trans rfl, (blk_cell BK267.out 1).trans rfl, (blk_cell BK267.out 2).trans rfl, (blk_cell BK267.out 3).trans rfl, (blk_cell BK267.out 4).trans rfl, (blk_cell BK267.out 5).trans rfl⟩ (fun hHeld => ?_)
     clear hK K
     refine norm_ (a' := ?_) ?_ ?_
     rotate_left
     ·show Act.put _ (some 4) _ = _
      ap_
      rfl
     refine one_ (i := 8) (N := some 3) #[true, true, true, true, true, true, true, true, true, true, false, false, false, false] rfl rfl (one_of HT_.out (by kernel_rfl)) (by decide) (fun K hK => ?_)
     refine box_step ?hg (N := 3) ?hd (cs := #[.int .i64 0, .slice none 0 0]) (t := 24) ?hr ?_; bx_
     intro gb269 hg w212 hbox hb
     have n0_ := Aside0.mk (blk_below (g := gb267) (o := .cells ob0_ 43 (0, 0)) (by bl_; exact BK267.out) hb)
     have n1_ := Aside0.mk (blk_below (g := gb270) (o := .cells #[.int .i64 0, .slice none 0 0] 24 (0, 0)) (by bl_; exact BK270.out) hb)
     have n2_ := Aside0.mk (below_step (by be7_) hb)
     have n3_ := Aside0.mk (hbox)
     have n4_ := Aside0.mk ((by rw [hg]; exact (below_size (by be7_)) : w.heap.size ≤ gb269))
     have n5_ := Aside0.mk ((by rw [hg]; exact (below_size (by be7_)) : w.heap.size ≤ gb269))
     have n6_ := Aside0.mk ((by rw [hg]; exact Nat.ne_of_lt (blk_lt (g := gb267) (o := .cells ob0_ 43 (0, 0)) (by bl_; exact BK267.out)) : gb267 ≠ gb269))
     have n7_ := Aside0.mk ((by rw [hg]; exact Nat.ne_of_gt (blk_lt (g := gb267) (o := .cells ob0_ 43 (0, 0)) (by bl_; exact BK267.out)) : gb269 ≠ gb267))
     have n8_ := Aside0.mk ((by rw [hg]; exact Nat.ne_of_lt (blk_lt (g := gb270) (o := .cells #[.int .i64 0, .slice none 0 0] 24 (0, 0)) (by bl_; exact BK270.out)) : gb270 ≠ gb269))
     have n9_ := Aside0.mk ((by rw [hg]; exact Nat.ne_of_gt (blk_lt (g := gb270) (o := .cells #[.int .i64 0, .slice none 0 0] 24 (0, 0)) (by bl_; exact BK270.out)) : gb269 ≠ gb270))
     clear BK267
     clear BK270
     clear HB
     have BK267 := n0_
     have BK270 := n1_
     have HB := n2_
     have BK269 := n3_
     have GW269 := n4_
     have GE269 := n5_
     have NB267_269 := n6_
     have NB269_267 := n7_
     have NB270_269 := n8_
     have NB269_270 := n9_
     clear n0_ n1_ n2_ n3_ n4_ n5_ n6_ n7_ n8_ n9_
     clear hb hbox hg
     refine hK.out _ _ ⟨(blk_cell BK267.out 0).trans rfl, (blk_cell BK267.out 1).trans rfl, (blk_cell BK267.out 2).trans rfl, (blk_cell BK267.out 3).trans rfl, (blk_cell BK267.out 4).trans rfl, (blk_cell BK267.out 5).trans rfl⟩ (fun hHeld => ?_)
     clear hK K
     refine norm_ (a' := ?_) ?_ ?_
     rotate_left
     ·show Act.put _ (some 3) _ = _
      ap_
      rfl
     exact norm_ (by simp only [putAll, Act.put, List.setIfInBounds_toArray, List.set_cons_zero, List.set_cons_succ]) (hCont (gb269, gb270) _ ⟨hHeld, (by bl_; exact BK267.out), (by bl_; exact BK269.out), (by bl_; exact BK270.out), GW269.out, GE269.out, NB267_269.out, NB269_267.out, NB270_269.out, NB269_270.out, GW270.out, GE270.out, NB267_270.out, NB270_267.out, (by be8_)⟩)
   rintro ⟨gb269, gb270⟩ w213 ⟨hS_, h0_, h1_, h2_, h3_, h4_, h5_, h6_, h7_, h8_, h9_, h10_, h11_, h12_, h13_⟩
   have n0_ : Aside0 (w213.heap[gb267]? = some (.cells ob0_ 43 (0, 0))) := ⟨h0_⟩
   have n1_ : Aside0 (w213.heap[gb269]? = some (.cells #[.int .i64 0, .slice none 0 0] 24 (0, 0))) := ⟨h1_⟩
   have n2_ : Aside0 (w213.heap[gb270]? = some (.cells #[.int .i64 0, .slice none 0 0] 24 (0, 0))) := ⟨h2_⟩
   have n3_ : Aside0 (w.heap.size ≤ gb269) := ⟨h3_⟩
   have n4_ : Aside0 (w.heap.size ≤ gb269) := ⟨h4_⟩
   have n5_ : Aside0 (gb267 ≠ gb269) := ⟨h5_⟩
   have n6_ : Aside0 (gb269 ≠ gb267) := ⟨h6_⟩
   have n7_ : Aside0 (gb270 ≠ gb269) := ⟨h7_⟩
   have n8_ : Aside0 (gb269 ≠ gb270) := ⟨h8_⟩
   have n9_ : Aside0 (w.heap.size ≤ gb270) := ⟨h9_⟩
   have n10_ : Aside0 (w.heap.size ≤ gb270) := ⟨h10_⟩
   have n11_ : Aside0 (gb267 ≠ gb270) := ⟨h11_⟩
   have n12_ : Aside0 (gb270 ≠ gb267) := ⟨h12_⟩
   have n13_ : Aside0 (Below w.heap.size w w213) := ⟨h13_⟩
   clear BK267
   clear HB
   clear h0_ h1_ h2_ h3_ h4_ h5_ h6_ h7_ h8_ h9_ h10_ h11_ h12_ h13_
   have BK267 := n0_
   have BK269 := n1_
   have BK270 := n2_
   have GW269 := n3_
   have GE269 := n4_
   have NB267_269 := n5_
   have NB269_267 := n6_
   have NB270_269 := n7_
   have NB269_270 := n8_
   have GW270 := n9_
   have GE270 := n10_
   have NB267_270 := n11_
   have NB270_267 := n12_
   have HB := n13_
   clear n0_ n1_ n2_ n3_ n4_ n5_ n6_ n7_ n8_ n9_ n10_ n11_ n12_ n13_
   have hHeld : w213.cell? ⟨gb267, 0, none⟩ = some (.int .i64 a0_0) ∧ w213.cell? ⟨gb267, 1, none⟩ = some (.slice A0_1 l0_1.length c0_1) ∧ w213.cell? ⟨gb267, 2, none⟩ = some (.int .i64 a0_2) ∧ w213.cell? ⟨gb267, 3, none⟩ = some (.slice A0_3 l0_3.length c0_3) ∧ w213.cell? ⟨gb267, 4, none⟩ = some (.slice A0_4 l0_4.length c0_4) ∧ w213.cell? ⟨gb267, 5, none⟩ = some (.slice A0_5 l0_5.length c0_5) := hS_
   refine norm_ (a' := ?_) ?_ ?_
   rotate_left
   ·simp only [putAll, Act.put, List.setIfInBounds_toArray, List.set_cons_zero, List.set_cons_succ]
    rfl
   refine one_ (i := 10) (N := none) #[true, true, true, true, true, true, true, true, true, true, true, false, false, false] rfl rfl (one_of HT_.out (by kernel_rfl)) (by decide) (fun K hK => ?_)
   have hs214 : w213.cell? ⟨gb269, 0, none⟩ = some (.int .i64 0) := (blk_cell BK269.out 0).trans rfl
   have hfs214 := blk_frozen BK269.out 0
   have hns214_0 := NB267_269.out
   have hns214_2 := NB270_269.out
   have hms214_0 := NB269_267.out
   have hms214_2 := NB269_270.out
   have hs215 : w213.cell? ⟨gb269, 1, none⟩ = some (.slice none 0 0) := (blk_cell BK269.out 1).trans rfl
   have hfs215 := blk_frozen BK269.out 1
   have hns215_0 := NB267_269.out
   have hns215_2 := NB270_269.out
   have hms215_0 := NB269_267.out
   have hms215_2 := NB269_270.out
   refine skip_ (w1 := ?_) (by rfl) rfl ?_ ?_
   rotate_left
   ·go_simp
    rfl
   refine hK.out _ _ ⟨((cell_far (p := ⟨gb269, _, none⟩) NB267_269.out _).trans (((cell_far (p := ⟨gb269, _, none⟩) NB267_269.out _).trans (hHeld.1)))), ((cell_far (p := ⟨gb269, _, none⟩) NB267_269.out _).trans (((cell_far (p := ⟨gb269, _, none⟩) NB267_269.out _).trans (hHeld.2.1)))), ((cell_far (p := ⟨gb269, _, none⟩) NB267_269.out _).trans (((cell_far (p := ⟨gb269, _, none⟩) NB267_269.out _).trans (hHeld.2.2.1)))), ((cell_far (p := ⟨gb269, _, none⟩) NB267_269.out _).trans (((cell_far (p := ⟨gb269, _, none⟩) NB267_269.out _).trans (hHeld.2.2.2.1)))), ((cell_far (p := ⟨gb269, _, none⟩) NB267_269.out _).trans (((cell_far (p := ⟨gb269, _, none⟩) NB267_269.out _).trans (hHeld.2.2.2.2.1)))), ((cell_far (p := ⟨gb269, _, none⟩) NB267_269.out _).trans (((cell_far (p := ⟨gb269, _, none⟩) NB267_269.out _).trans (hHeld.2.2.2.2.2))))⟩ (fun hHeld => ?_)
   clear hK K
   refine one_ (i := 11) (N := none) #[true, true, true, true, true, true, true, true, true, true, true, true, false, false] rfl rfl (one_of HT_.out (by kernel_rfl)) (by decide) (fun K hK => ?_)
   have hs216 : w213.cell? ⟨gb270, 0, none⟩ = some (.int .i64 0) := (blk_cell BK270.out 0).trans rfl
   have hfs216 := blk_frozen BK270.out 0
   have hns216_0 := NB267_270.out
   have hns216_1 := NB269_270.out
   have hms216_0 := NB270_267.out
   have hms216_1 := NB270_269.out
   have hs217 : w213.cell? ⟨gb270, 1, none⟩ = some (.slice none 0 0) := (blk_cell BK270.out 1).trans rfl
   have hfs217 := blk_frozen BK270.out 1
   have hns217_0 := NB267_270.out
   have hns217_1 := NB269_270.out
   have hms217_0 := NB270_267.out
   have hms217_1 := NB270_269.out
   refine skip_ (w1 := ?_) (by rfl) rfl ?_ ?_
   rotate_left
   ·go_simp
    rfl
   refine hK.out _ _ ⟨((cell_far (p := ⟨gb270, _, none⟩) NB267_270.out _).trans (((cell_far (p := ⟨gb270, _, none⟩) NB267_270.out _).trans (hHeld.1)))), ((cell_far (p := ⟨gb270, _, none⟩) NB267_270.out _).trans (((cell_far (p := ⟨gb270, _, none⟩) NB267_270.out _).trans (hHeld.2.1)))), ((cell_far (p := ⟨gb270, _, none⟩) NB267_270.out _).trans (((cell_far (p := ⟨gb270, _, none⟩) NB267_270.out _).trans (hHeld.2.2.1)))), ((cell_far (p := ⟨gb270, _, none⟩) NB267_270.out _).trans (((cell_far (p := ⟨gb270, _, none⟩) NB267_270.out _).trans (hHeld.2.2.2.1)))), ((cell_far (p := ⟨gb270, _, none⟩) NB267_270.out _).trans (((cell_far (p := ⟨gb270, _, none⟩) NB267_270.out _).trans (hHeld.2.2.2.2.1)))), ((cell_far (p := ⟨gb270, _, none⟩) NB267_270.out _).trans (((cell_far (p := ⟨gb270, _, none⟩) NB267_270.out _).trans (hHeld.2.2.2.2.2))))⟩ (fun hHeld => ?_)
   clear hK K
   refine pure_ (i := 12) (N := some 5) (v := ?_) (a' := ?_) #[true, true, true, true, true, true, true, true, true, true, true, true, true, false] rfl rfl an_ (fun _ _ _ h => h) (Or.inl ⟨by rfl, ?_⟩) ?_ ?_
   rotate_left
   ·intro w'
    go_simp
    with_reducible rfl
   rotate_left
   ·ap_
    rfl
   refine pure_ (i := 13) (N := some 6) (v := ?_) (a' := ?_) #[true, true, true, true, true, true, true, true, true, true, true, true, true, true] rfl rfl an_ (fun _ _ _ h => h) (Or.inl ⟨by rfl, ?_⟩) ?_ ?_
   rotate_left
   ·intro w'
    go_simp
    with_reducible rfl
   rotate_left
   ·ap_
    rfl
   refine done_ (done_of HT_.out (by kernel_rfl)) ?_
   have hnb218 := NB269_267.out
   have hnc218 := NB267_269.out
   have hnb219 := NB269_270.out
   have hnc219 := NB270_269.out
   have hcz220_0 : w213.cell? ⟨gb269, 0, none⟩ = some (.int .i64 0) := (blk_cell BK269.out 0).trans rfl
   have hcz220_1 : w213.cell? ⟨gb269, 1, none⟩ = some (.slice none 0 0) := (blk_cell BK269.out 1).trans rfl
   have hfz220_0 := blk_frozen BK269.out 0
   have hfz220_1 := blk_frozen BK269.out 1
   try go_wp2_with (first | ((with_reducible refine gate_callee (f := 17) rfl ?_); refine goesL_ (some 23) rfl rfl Tryd.func17 (by kernel_rfl) rfl #[.agg ob1_] rfl (by lm_) ?_; (with_reducible refine (cnf_Formed.calls k a0_0 _ _ l0_1 false _ ?side1 ?side2 A4.out).mono ?_); (case side1 => exact Kd.C_below HR0_1.out (by be2_)); (case side2 => exact HC0_1.out); rintro e w221 ⟨rfl, hb⟩; refine ⟨_, rfl, ?_⟩; have n0_ := Aside0.mk (blk_below (g := gb267) (o := .cells ob0_ 43 (0, 0)) (by bl_; refine blk_far ?_ NB267_270.out _; bl_; refine blk_far ?_ NB267_270.out _; bl_; refine blk_far ?_ NB267_269.out _; bl_; refine blk_far ?_ NB267_269.out _; bl_; exact BK267.out) hb); have n1_ := Aside0.mk (blk_below (g := gb269) (o := .cells ob1_ 24 (0, 0)) (by bl_; refine blk_far ?_ NB269_270.out _; bl_; refine blk_far ?_ NB269_270.out _; bl_; refine blk_put (cs := #[.int .i64 a0_0, .slice none 0 0]) ?_ 1 _ rfl; bl_; refine blk_put (cs := #[.int .i64 0, .slice none 0 0]) ?_ 0 _ rfl; bl_; exact BK269.out) hb); have n2_ := Aside0.mk (blk_below (g := gb270) (o := .cells ob2_ 24 (0, 0)) (by bl_; refine blk_put (cs := #[.int .i64 a0_2, .slice none 0 0]) ?_ 1 _ rfl; bl_; refine blk_put (cs := #[.int .i64 0, .slice none 0 0]) ?_ 0 _ rfl; bl_; refine blk_far ?_ NB270_269.out _; bl_; refine blk_far ?_ NB270_269.out _; bl_; exact BK270.out) hb); have n3_ := Aside0.mk (below_step (by be2_) hb); clear BK267; clear BK269; clear BK270; clear HB; have BK267 := n0_; have BK269 := n1_; have BK270 := n2_; have HB := n3_; clear n0_ n1_ n2_ n3_; (try clear hb); (try clear hb2); (try clear hk); (try clear hi)))
   go_ret
   exact ⟨by first | rfl | (simp [errW_none, errW_some] <;> rfl) | (simp [*, errW_none, errW_some] <;> rfl), by be2_⟩
 ·replace c3 := Bool.eq_false_iff.mpr c3
  subst c3
  have H1 : (some false) = some r := by rw [if_neg (show ¬ (false = true) by decide)] at H; exact H
  clear H
  have H := H1
  clear H1
  obtain rfl := Option.some.inj H
  go_enter Tryd.func4, Tryd.ntmps4
  go_wp2_with (first | ((with_reducible refine gate_dst (N := 1) rfl ?_); refine box_event ?hg (N := 1) ?hd (cs := ob0_) (t := 43) ?hr ?_; bx_; intro gb267 hg w222 hbox hb; have n0_ := Aside0.mk (below_step (by be5_) hb); have n1_ := Aside0.mk (hbox); have n2_ := Aside0.mk ((by rw [hg]; exact (below_size (by be5_)) : w.heap.size ≤ gb267)); have n3_ := Aside0.mk ((by rw [hg]; exact (below_size (by be5_)) : w.heap.size ≤ gb267)); clear HB; have HB := n0_; have BK267 := n1_; have GW267 := n2_; have GE267 := n3_; clear n0_ n1_ n2_ n3_; clear hb hbox hg) | ((with_reducible refine gate_callee (f := 16) rfl ?_); refine goesL_ (some 12) rfl rfl Tryd.func16 (by kernel_rfl) rfl #[] rfl (by lm_) ?_; (with_reducible refine (depotlaw02_awake.calls k  false _ A2.out).mono ?_); rintro e w223 ⟨rfl, hb⟩; refine ⟨_, rfl, ?_⟩; have n0_ := Aside0.mk (blk_below (g := gb267) (o := .cells ob0_ 43 (0, 0)) (by bl_; exact BK267.out) hb); have n1_ := Aside0.mk (below_step (by be3_) hb); clear BK267; clear HB; have BK267 := n0_; have HB := n1_; clear n0_ n1_; (try clear hb); (try clear hb2); (try clear hk); (try clear hi)))
  go_ret
  exact ⟨by first | rfl | (simp [errW_none, errW_some] <;> rfl) | (simp [*, errW_none, errW_some] <;> rfl), by be3_⟩

end Go.Proofs.YtggnnnddnppcpaaDoor.PCnfMeans
