/- The resolvents of two tidy clauses in their order: the pivots of both ways, woven. -/
import Derived.Test.YtamefocngapkpaaPivots2
import Derived.Test.YtamefocngapkpaaCollect
import Derived.Test.YtamefocngapkpaaOn
namespace Go.Proofs.YtamefocngapkpaaMath
open Go.RowKit Go.Proofs.YtamefocngapkpaaW.PrintWords
set_option linter.unusedVariables false
set_option linter.unusedSimpArgs false
/-- what follows on a pivot of the other way -/
def bk1 (x y : List Int) (b : Int) : Int × List Int := (b, onOf y x b)
def wst (x y : List Int) (s : List (Int × List Int) × List Int) (v : Int) : List (Int × List Int) × List Int :=
  (s.1 ++ (s.2.takeWhile (fun b => decide (b < v))).map (bk1 x y) ++ [(v, onOf x y v)], s.2.dropWhile (fun b => decide (b < v)))
def wrun (x y : List Int) (bk pre : List Int) : List (Int × List Int) × List Int := pre.foldl (wst x y) ([], bk)
def weave (x y : List Int) : List (Int × List Int) := (wrun x y (pivOf y x) (pivOf x y)).1 ++ (wrun x y (pivOf y x) (pivOf x y)).2.map (bk1 x y)
theorem wrun_snoc (x y bk pre : List Int) (v : Int) : wrun x y bk (pre ++ [v]) = wst x y (wrun x y bk pre) v := by
  unfold wrun
  rw [List.foldl_append]
  rfl
theorem wst_len (x y : List Int) (s : List (Int × List Int) × List Int) (v : Int) : (wst x y s v).1.length + (wst x y s v).2.length = s.1.length + s.2.length + 1 := by
  have h : (s.2.takeWhile (fun b => decide (b < v))).length + (s.2.dropWhile (fun b => decide (b < v))).length = s.2.length := by
    rw [← List.length_append, List.takeWhile_append_dropWhile]
  unfold wst
  simp only [List.length_append, List.length_map, List.length_singleton]
  omega
theorem wrun_len (x y bk : List Int) (pre : List Int) : ∀ s, (pre.foldl (wst x y) s).1.length + (pre.foldl (wst x y) s).2.length = s.1.length + s.2.length + pre.length := by
  induction pre with
  | nil => intro s; simp
  | cons v pre ih =>
    intro s
    rw [List.foldl_cons, ih, wst_len]
    simp only [List.length_cons]
    omega
theorem fold_prefix (x y : List Int) (r : List Int) : ∀ s, s.1 <+: (r.foldl (wst x y) s).1 := by
  induction r with
  | nil => intro s; exact List.prefix_refl _
  | cons v r ih =>
    intro s
    refine List.IsPrefix.trans ?_ (ih _)
    unfold wst
    rw [List.append_assoc]
    exact List.prefix_append _ _
theorem fold_mem (x y pre : List Int) : ∀ (s : List (Int × List Int) × List Int) (b : Int), b ∈ (pre.foldl (wst x y) s).2 → b ∈ s.2 := by
  induction pre with
  | nil => intro s b h; exact h
  | cons v pre ih =>
    intro s b h
    have h1 := ih _ b h
    unfold wst at h1
    exact (List.dropWhile_sublist _).subset h1
theorem wrun_mem {x y pre : List Int} {b : Int} (h : b ∈ (wrun x y (pivOf y x) pre).2) : b ∈ y := by
  have h1 := fold_mem x y pre _ b h
  unfold pivOf at h1
  exact (List.mem_filter.1 h1).1
theorem wrun_weave {x y pre : List Int} (h : pre <+: pivOf x y) : (wrun x y (pivOf y x) pre).1 <+: weave x y := by
  obtain ⟨r, hr⟩ := h
  refine List.IsPrefix.trans ?_ (List.prefix_append _ _)
  rw [← hr]
  unfold wrun
  rw [List.foldl_append]
  exact fold_prefix x y r _
theorem pivOf_prefix (x y : List Int) (k : Nat) : pivOf (x.take k) y <+: pivOf x y := by
  unfold pivOf
  exact (List.take_prefix k x).filter _
theorem pivOf_length (x y : List Int) : (pivOf x y).length ≤ x.length := List.length_filter_le _ _
/-- within a round: some of the back's pivots have been told -/
theorem wst_mid {x y : List Int} {s : List (Int × List Int) × List Int} {v : Int} {d r : List Int} (hs : s.2 = d ++ r) (hd : ∀ b ∈ d, b < v) : ∃ t, (wst x y s v).1 = s.1 ++ d.map (bk1 x y) ++ t := by
  unfold wst
  rw [hs, List.takeWhile_append_of_pos (by simpa using hd), List.map_append]
  exact ⟨(r.takeWhile (fun b => decide (b < v))).map (bk1 x y) ++ [(v, onOf x y v)], by simp⟩
theorem wst_end {x y : List Int} {s : List (Int × List Int) × List Int} {v : Int} {d r : List Int} (hs : s.2 = d ++ r) (hd : ∀ b ∈ d, b < v) (hr : ∀ b r', r = b :: r' → ¬ b < v) : wst x y s v = (s.1 ++ d.map (bk1 x y) ++ [(v, onOf x y v)], r) := by
  have h1 : r.takeWhile (fun b => decide (b < v)) = [] := by
    cases r with
    | nil => rfl
    | cons b r' => simp [hr b r' rfl]
  have h2 : r.dropWhile (fun b => decide (b < v)) = r := by
    cases r with
    | nil => rfl
    | cons b r' => simp [hr b r' rfl]
  unfold wst
  rw [hs, List.takeWhile_append_of_pos (by simpa using hd), List.dropWhile_append_of_pos (by simpa using hd), h1, h2, List.append_nil]
end Go.Proofs.YtamefocngapkpaaMath
