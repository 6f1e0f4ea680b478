/- What cnf.Under answers. -/
import Derived.Test.YtggnnnddnppcpaaCnfBase
import Derived.Test.YtggnnnddnppcpaaLaid
import Derived.Test.YtggnnnddnppcpaaLitsTaut
import Derived.Test.YtggnnnddnppcpaaCnfLeftOf
namespace Go.Proofs.YtggnnnddnppcpaaMath
open Go.Proofs.YtggnnnddnppcpaaMaps
def underP (part c : List Int) : List Int := c.filter (fun l => !part.contains (-l))
def underO (part c : List Int) : Bool := c.any (fun l => part.contains l)
def leftAll (part : List Int) (cs : List (List Int)) : List (List Int) := (cs.filter (fun c => !underO part c)).map (underP part)
def underOf (v : Int) (cs : List (List Int)) (part : List Int) : Int × List (List Int) × Int :=
  if (isFormula v cs && within part v) = true then (if tautIn (tidyOf part) = true then (0, [], 20) else (v, leftAll part cs, 0)) else (0, [], 1)
/-- a map tells of a list's literals 1, of their opposites -1 -/
def Known (l : List Int) (f : Int → Option Int) : Prop := ∀ v, f v = if v ∈ l then some 1 else if -v ∈ l then some (-1) else none
theorem known_step {l : List Int} {y : Int} {f : Int → Option Int} (h : Known l f) (h0 : y ≠ 0) (hn : -y ∉ l) : Known (l ++ [y]) (upd (upd f y 1) (-y) (-1)) := by
  intro v
  by_cases e1 : v = -y
  · subst e1
    rw [upd_same, if_neg (by rw [List.mem_append, List.mem_singleton]; rintro (h | h); exact hn h; omega), if_pos (by simp)]
  · rw [upd_other _ _ e1]
    by_cases e2 : v = y
    · subst e2
      rw [upd_same, if_pos (by simp)]
    · have e3 : -v ≠ y := by omega
      rw [upd_other _ _ e2, h v]
      simp [e2, e3]
theorem leftIn_known {part c : List Int} {f : Int → Option Int} (h : Known part f) : leftIn f c = if underO part c = true then ([], false) else (underP part c, true) := by
  have e1 : ∀ l, ((f l).getD 0 = 1) ↔ l ∈ part := by
    intro l
    rw [h l]
    by_cases a : l ∈ part
    · simp [a]
    · by_cases b : -l ∈ part <;> simp [a, b]
  have e0 : ∀ l, l ∉ part → (((f l).getD 0 = 0) ↔ -l ∉ part) := by
    intro l hl
    rw [h l, if_neg hl]
    by_cases b : -l ∈ part <;> simp [b]
  have e2 : c.any (fun l => decide ((f l).getD 0 = 1)) = underO part c := by
    unfold underO
    congr 1
    funext l
    rw [Bool.eq_iff_iff, decide_eq_true_eq, e1 l, List.contains_iff_mem]
  unfold leftIn
  rw [e2]
  by_cases ho : underO part c = true
  · rw [if_pos ho, if_pos ho]
  · rw [if_neg ho, if_neg ho]
    congr 1
    unfold underP
    refine List.filter_congr fun l hl => ?_
    have hnp : l ∉ part := fun hp => ho (List.any_eq_true.2 ⟨l, hl, List.contains_iff_mem.2 hp⟩)
    rw [Bool.eq_iff_iff, decide_eq_true_eq, e0 l hnp]
    simp
theorem leftAll_take {part : List Int} {cs : List (List Int)} {k : Nat} (hk : k < cs.length) : leftAll part (cs.take (k + 1)) = leftAll part (cs.take k) ++ (if underO part (cs.getD k []) = true then [] else [underP part (cs.getD k [])]) := by
  have e : cs.take (k + 1) = cs.take k ++ [cs.getD k []] := by
    rw [List.take_add_one, List.getElem?_eq_getElem hk, List.getD_eq_getElem?_getD, List.getElem?_eq_getElem hk]; rfl
  unfold leftAll
  rw [e, List.filter_append, List.map_append]
  congr 1
  rw [List.filter_cons]
  cases underO part (cs.getD k []) <;> rfl
theorem leftAll_length (part : List Int) (cs : List (List Int)) : (leftAll part cs).length ≤ cs.length := by
  unfold leftAll
  rw [List.length_map]
  exact List.length_filter_le _ _
theorem untaut {part : List Int} (hs : sound part = true) (h : tautIn (tidyOf part) = false) : ∀ x ∈ part, -x ∉ part := by
  intro x hx hx2
  have h1 : tautIn (tidyOf part) = true := (tautIn_iff (tidyOf part) (rising_tidyOf part) (fun _ h => tidyOf_formed h)).2 ⟨x, (mem_tidyOf x part).2 ⟨hx, sound_mem hs hx⟩, (mem_tidyOf (-x) part).2 ⟨hx2, sound_mem hs hx2⟩⟩
  rw [h] at h1
  cases h1
end Go.Proofs.YtggnnnddnppcpaaMath
namespace Go.Proofs.YtggnnnddnppcpaaHand
open Go.RowKit Go.Proofs.YtggnnnddnppcpaaW.PrintWords Go.Proofs.YtggnnnddnppcpaaW.PrintLast Go.Proofs.YtggnnnddnppcpaaMath Go.Proofs.YtggnnnddnppcpaaMaps Go.Maps
set_option linter.unusedVariables false
set_option linter.unusedSimpArgs false

/-- two variables of a formula in new blocks -/
structure UF (w : World) (a0 a1 z0 z1 : Value) (W : World) : Prop where
  hB : Below w.heap.size w W
  hz : w.heap.size + 2 ≤ W.heap.size
  b0 : W.heap[w.heap.size]? = some (.cells #[a0, a1] 24 (0, 0))
  b1 : W.heap[w.heap.size + 1]? = some (.cells #[z0, z1] 24 (0, 0))
theorem uf (w : World) (a0 a1 z0 z1 : Value) : UF w a0 a1 z0 z1 ((w.alloc (.cells #[a0, a1] 24 (0, 0))).alloc (.cells #[z0, z1] 24 (0, 0))) := by
  refine ⟨by repeat (first | exact Below.refl _ _ | apply below_alloc), by simp, blk_alloc (blk_new _ _) _, ?_⟩
  have := blk_new (w.alloc (.cells #[a0, a1] 24 (0, 0))) (.cells #[z0, z1] 24 (0, 0))
  simpa using this
theorem UF.keep {w : World} {a0 a1 z0 z1 : Value} {W W1 : World} (h : UF w a0 a1 z0 z1 W) (k : Below W.heap.size W W1) : UF w a0 a1 z0 z1 W1 :=
  ⟨below_step h.hB k, Nat.le_trans h.hz k.size, blk_below h.b0 k, blk_below h.b1 k⟩
theorem UF.grown {w : World} {a0 a1 z0 z1 : Value} {W W1 : World} {row : Option Nat} (h : UF w a0 a1 z0 z1 W) (hg : W.grownBy W1 row) (hne : ∀ k, row = some k → w.heap.size + 2 ≤ k) : UF w a0 a1 z0 z1 W1 :=
  ⟨h.hB.grown hg h.hB.size (fun k hk => by have := hne k hk; omega), Nat.le_trans h.hz hg.size, blk_grown h.b0 hg (fun e => by have := hne _ e.symm; omega), blk_grown h.b1 hg (fun e => by have := hne _ e.symm; omega)⟩
theorem UF.grown2 {w : World} {a0 a1 z0 z1 : Value} {W W1 : World} {row : Option Nat} (h : UF w a0 a1 z0 z1 W) (hB' : Below w.heap.size w W1) (hg : W.grownBy W1 row) (h0 : some w.heap.size ≠ row) (h1 : some (w.heap.size + 1) ≠ row) : UF w a0 a1 z0 z1 W1 :=
  ⟨hB', Nat.le_trans h.hz hg.size, blk_grown h.b0 hg h0, blk_grown h.b1 hg h1⟩
theorem im_ne {W : World} {B n c g t : Nat} {f : Int → Option Int} {cells : Array Value} {z : Nat × Nat} (h : IMI W B n f c) (hb : W.heap[g]? = some (.cells cells t z)) : B ≠ g := by
  rintro rfl
  obtain ⟨D, ⟨es, clock, h1, _⟩, _⟩ := h
  rw [hb] at h1
  cases h1
theorem UF.setCell {w : World} {a0 a1 z0 z1 : Value} {W : World} (h : UF w a0 a1 z0 z1 W) {p : Addr} (hp : w.heap.size + 2 ≤ p.block) (u : Value) : UF w a0 a1 z0 z1 (W.setCell p u) :=
  ⟨h.hB.setCell (p := p) (by omega) u, Nat.le_trans h.hz ((Below.refl 0 W).setCell (p := p) (Nat.zero_le _) u).size, blk_far h.b0 (by omega) u, blk_far h.b1 (by omega) u⟩
theorem UF.f0 {w : World} {a0 a1 z0 z1 : Value} {W : World} (h : UF w a0 a1 z0 z1 W) : W.cell? ⟨w.heap.size, 0, none⟩ = some a0 := (blk_cell h.b0 0).trans rfl
theorem UF.f1 {w : World} {a0 a1 z0 z1 : Value} {W : World} (h : UF w a0 a1 z0 z1 W) : W.cell? ⟨w.heap.size, 1, none⟩ = some a1 := (blk_cell h.b0 1).trans rfl
theorem UF.g0 {w : World} {a0 a1 z0 z1 : Value} {W : World} (h : UF w a0 a1 z0 z1 W) : W.cell? ⟨w.heap.size + 1, 0, none⟩ = some z0 := (blk_cell h.b1 0).trans rfl
theorem UF.g1 {w : World} {a0 a1 z0 z1 : Value} {W : World} (h : UF w a0 a1 z0 z1 W) : W.cell? ⟨w.heap.size + 1, 1, none⟩ = some z1 := (blk_cell h.b1 1).trans rfl
theorem UF.y0 {w : World} {a0 a1 z0 z1 : Value} {W : World} (h : UF w a0 a1 z0 z1 W) : W.frozen? ⟨w.heap.size + 1, 0, none⟩ = false := blk_frozen h.b1 0
theorem UF.y1 {w : World} {a0 a1 z0 z1 : Value} {W : World} (h : UF w a0 a1 z0 z1 W) : W.frozen? ⟨w.heap.size + 1, 1, none⟩ = false := blk_frozen h.b1 1

set_option maxHeartbeats 8000000 in
set_option maxRecDepth 100000 in
theorem under_bad (v1 : Int) (A1 A2 : Option Addr) (c1 c2 : Nat) (l1 : List (List Int)) (l2 : List Int) (w : World) (hr1 : Kd.C (Kd.slice 3 (Kd.int .i64)) w A1 l1.length l1) (hc1 : l1.length ≤ c1) (hr2 : Kd.C (Kd.int .i64) w A2 l2.length l2) (hc2 : l2.length ≤ c2)
    (hn : l1.length ≤ 5864062014805) (hs : ∀ c ∈ l1, c.length ≤ 17592186044416) (hn2 : l2.length ≤ 17592186044416) (hbad : (isFormula v1 l1 && within l2 v1) = false) :
    Calls Try.prog 53 #[.agg #[.int .i64 v1, .slice A1 l1.length c1], .slice A2 l2.length c2] w fun e w' => e = .returned (.tuple #[.agg #[.int .i64 0, .slice none 0 0], .int .i64 1]) ∧ Below w.heap.size w w' := by
  have HR1 := Aside0.mk hr1
  have HR2 := Aside0.mk hr2
  have F1 := fun W h => isFormula_calls v1 A1 c1 l1 W h hc1 (by omega) hs
  have F2 := fun W h => within_calls A2 c2 l2 v1 W h hc2 hn2
  cases hf1 : isFormula v1 l1 with
  | false =>
    rw [hf1] at F1
    have HF1 := Aside0.mk F1
    clear F1 F2 hr1 hr2 hc1 hc2 hn hs hn2 hf1 hbad
    go_enter Try.func53, Try.ntmps53
    go_wp2_with fail
    have T0 := uf w (.int .i64 v1) (.slice A1 l1.length c1) (.int .i64 0) (.slice none 0 0)
    generalize hW0 : ((w.alloc (.cells #[.int .i64 v1, .slice A1 l1.length c1] 24 (0, 0))).alloc (.cells #[.int .i64 0, .slice none 0 0] 24 (0, 0))) = W0 at T0 ⊢
    clear hW0
    (with_reducible refine (HF1.out _ (Kd.C_below HR1.out T0.hB)).mono ?_)
    rintro e W1 ⟨rfl, hb⟩
    have T1 := T0.keep hb
    have HT := Aside0.mk T1
    have k0 := T1.g0
    have k1 := T1.g1
    have y0 := T1.y0
    have y1 := T1.y1
    clear T0 hb T1
    go_wp2_with fail
    refine bodyPost_ret (v := .tuple #[.agg #[.int .i64 0, .slice none 0 0], .int .i64 1]) (by simp [results, Try.results53, go_sem, k0, k1]) rfl ?_
    exact ⟨rfl, (HT.out.hB.setCell (p := ⟨w.heap.size + 1, 0, none⟩) (show w.heap.size ≤ w.heap.size + 1 by omega) _).setCell (p := ⟨w.heap.size + 1, 1, none⟩) (show w.heap.size ≤ w.heap.size + 1 by omega) _⟩
  | true =>
    rw [hf1, Bool.true_and] at hbad
    rw [hf1] at F1
    rw [hbad] at F2
    have HF1 := Aside0.mk F1
    have HF2 := Aside0.mk F2
    clear F1 F2 hr1 hr2 hc1 hc2 hn hs hn2 hf1 hbad
    go_enter Try.func53, Try.ntmps53
    go_wp2_with fail
    have T0 := uf w (.int .i64 v1) (.slice A1 l1.length c1) (.int .i64 0) (.slice none 0 0)
    generalize hW0 : ((w.alloc (.cells #[.int .i64 v1, .slice A1 l1.length c1] 24 (0, 0))).alloc (.cells #[.int .i64 0, .slice none 0 0] 24 (0, 0))) = W0 at T0 ⊢
    clear hW0
    (with_reducible refine (HF1.out _ (Kd.C_below HR1.out T0.hB)).mono ?_)
    rintro e W1 ⟨rfl, hb⟩
    have T1 := T0.keep hb
    have f0 := T1.f0
    clear T0 hb
    go_wp2_with fail
    (with_reducible refine (HF2.out _ (Kd.C_below HR2.out T1.hB)).mono ?_)
    rintro e W2 ⟨rfl, hd⟩
    have T2 := T1.keep hd.below
    have HT := Aside0.mk T2
    have k0 := T2.g0
    have k1 := T2.g1
    have y0 := T2.y0
    have y1 := T2.y1
    clear T1 hd T2 f0
    go_wp2_with fail
    refine bodyPost_ret (v := .tuple #[.agg #[.int .i64 0, .slice none 0 0], .int .i64 1]) (by simp [results, Try.results53, go_sem, k0, k1]) rfl ?_
    exact ⟨rfl, (HT.out.hB.setCell (p := ⟨w.heap.size + 1, 0, none⟩) (show w.heap.size ≤ w.heap.size + 1 by omega) _).setCell (p := ⟨w.heap.size + 1, 1, none⟩) (show w.heap.size ≤ w.heap.size + 1 by omega) _⟩
end Go.Proofs.YtggnnnddnppcpaaHand
