/- What cnf.Under answers. -/
import Derived.Test.YtggnnnddnppcpaaClCnfSumsf
import Derived.Test.YtggnnnddnppcpaaClCnfSumsh
import Derived.Test.YtggnnnddnppcpaaClCnfSumsg
import Derived.Deep.RegionHeld3
/-! text YtggnnnddnppcpaaCnfUnder -/
namespace Go.Proofs.YtggnnnddnppcpaaMath
open Go.Proofs.YtggnnnddnppcpaaMaps
def underP (part c : List Int) : List Int := c.filter (fun l => !part.contains (-l))
def underO (part c : List Int) : Bool := c.any (fun l => part.contains l)
def leftAll (part : List Int) (cs : List (List Int)) : List (List Int) := (cs.filter (fun c => !underO part c)).map (underP part)
def underOf (v : Int) (cs : List (List Int)) (part : List Int) : Int × List (List Int) × Int :=
  if (isFormula v cs && within part v) = true then (if tautIn (tidyOf part) = true then (0, [], 20) else (v, leftAll part cs, 0)) else (0, [], 1)
/-- a map tells of a list's literals 1, of their opposites -1 -/
def Known (l : List Int) (f : Int → Option Int) : Prop := ∀ v, f v = if v ∈ l then some 1 else if -v ∈ l then some (-1) else none
theorem known_step {l : List Int} {y : Int} {f : Int → Option Int} (h : Known l f) (h0 : y ≠ 0) (hn : -y ∉ l) : Known (l ++ [y]) (upd (upd f y 1) (-y) (-1)) := by
  intro v
  by_cases e1 : v = -y
  · subst e1
    rw [upd_same, if_neg (by rw [List.mem_append, List.mem_singleton]; rintro (h | h); exact hn h; omega), if_pos (by simp)]
  · rw [upd_other _ _ e1]
    by_cases e2 : v = y
    · subst e2
      rw [upd_same, if_pos (by simp)]
    · have e3 : -v ≠ y := by omega
      rw [upd_other _ _ e2, h v]
      simp [e2, e3]
theorem leftIn_known {part c : List Int} {f : Int → Option Int} (h : Known part f) : leftIn f c = if underO part c = true then ([], false) else (underP part c, true) := by
  have e1 : ∀ l, ((f l).getD 0 = 1) ↔ l ∈ part := by
    intro l
    rw [h l]
    by_cases a : l ∈ part
    · simp [a]
    · by_cases b : -l ∈ part <;> simp [a, b]
  have e0 : ∀ l, l ∉ part → (((f l).getD 0 = 0) ↔ -l ∉ part) := by
    intro l hl
    rw [h l, if_neg hl]
    by_cases b : -l ∈ part <;> simp [b]
  have e2 : c.any (fun l => decide ((f l).getD 0 = 1)) = underO part c := by
    unfold underO
    congr 1
    funext l
    rw [Bool.eq_iff_iff, decide_eq_true_eq, e1 l, List.contains_iff_mem]
  unfold leftIn
  rw [e2]
  by_cases ho : underO part c = true
  · rw [if_pos ho, if_pos ho]
  · rw [if_neg ho, if_neg ho]
    congr 1
    unfold underP
    refine List.filter_congr fun l hl => ?_
    have hnp : l ∉ part := fun hp => ho (List.any_eq_true.2 ⟨l, hl, List.contains_iff_mem.2 hp⟩)
    rw [Bool.eq_iff_iff, decide_eq_true_eq, e0 l hnp]
    simp
theorem leftAll_take {part : List Int} {cs : List (List Int)} {k : Nat} (hk : k < cs.length) : leftAll part (cs.take (k + 1)) = leftAll part (cs.take k) ++ (if underO part (cs.getD k []) = true then [] else [underP part (cs.getD k [])]) := by
  have e : cs.take (k + 1) = cs.take k ++ [cs.getD k []] := by
    rw [List.take_add_one, List.getElem?_eq_getElem hk, List.getD_eq_getElem?_getD, List.getElem?_eq_getElem hk]; rfl
  unfold leftAll
  rw [e, List.filter_append, List.map_append]
  congr 1
  rw [List.filter_cons]
  cases underO part (cs.getD k []) <;> rfl
theorem leftAll_length (part : List Int) (cs : List (List Int)) : (leftAll part cs).length ≤ cs.length := by
  unfold leftAll
  rw [List.length_map]
  exact List.length_filter_le _ _
theorem untaut {part : List Int} (hs : sound part = true) (h : tautIn (tidyOf part) = false) : ∀ x ∈ part, -x ∉ part := by
  intro x hx hx2
  have h1 : tautIn (tidyOf part) = true := (tautIn_iff (tidyOf part) (rising_tidyOf part) (fun _ h => tidyOf_formed h)).2 ⟨x, (mem_tidyOf x part).2 ⟨hx, sound_mem hs hx⟩, (mem_tidyOf (-x) part).2 ⟨hx2, sound_mem hs hx2⟩⟩
  rw [h] at h1
  cases h1
end Go.Proofs.YtggnnnddnppcpaaMath
namespace Go.Proofs.YtggnnnddnppcpaaHand
open Go.RowKit Go.Proofs.YtggnnnddnppcpaaW.PrintWords Go.Proofs.YtggnnnddnppcpaaW.PrintLast Go.Proofs.YtggnnnddnppcpaaMath Go.Proofs.YtggnnnddnppcpaaMaps Go.Maps
set_option linter.unusedVariables false
set_option linter.unusedSimpArgs false

/-- two variables of a formula in new blocks -/
structure UF (w : World) (a0 a1 z0 z1 : Value) (W : World) : Prop where
  hB : Below w.heap.size w W
  hz : w.heap.size + 2 ≤ W.heap.size
  b0 : W.heap[w.heap.size]? = some (.cells #[a0, a1] 24 (0, 0))
  b1 : W.heap[w.heap.size + 1]? = some (.cells #[z0, z1] 24 (0, 0))
theorem uf (w : World) (a0 a1 z0 z1 : Value) : UF w a0 a1 z0 z1 ((w.alloc (.cells #[a0, a1] 24 (0, 0))).alloc (.cells #[z0, z1] 24 (0, 0))) := by
  refine ⟨by repeat (first | exact Below.refl _ _ | apply below_alloc), by simp, blk_alloc (blk_new _ _) _, ?_⟩
  have := blk_new (w.alloc (.cells #[a0, a1] 24 (0, 0))) (.cells #[z0, z1] 24 (0, 0))
  simpa using this
theorem UF.keep {w : World} {a0 a1 z0 z1 : Value} {W W1 : World} (h : UF w a0 a1 z0 z1 W) (k : Below W.heap.size W W1) : UF w a0 a1 z0 z1 W1 :=
  ⟨below_step h.hB k, Nat.le_trans h.hz k.size, blk_below h.b0 k, blk_below h.b1 k⟩
theorem UF.grown {w : World} {a0 a1 z0 z1 : Value} {W W1 : World} {row : Option Nat} (h : UF w a0 a1 z0 z1 W) (hg : W.grownBy W1 row) (hne : ∀ k, row = some k → w.heap.size + 2 ≤ k) : UF w a0 a1 z0 z1 W1 :=
  ⟨h.hB.grown hg h.hB.size (fun k hk => by have := hne k hk; omega), Nat.le_trans h.hz hg.size, blk_grown h.b0 hg (fun e => by have := hne _ e.symm; omega), blk_grown h.b1 hg (fun e => by have := hne _ e.symm; omega)⟩
theorem UF.grown2 {w : World} {a0 a1 z0 z1 : Value} {W W1 : World} {row : Option Nat} (h : UF w a0 a1 z0 z1 W) (hB' : Below w.heap.size w W1) (hg : W.grownBy W1 row) (h0 : some w.heap.size ≠ row) (h1 : some (w.heap.size + 1) ≠ row) : UF w a0 a1 z0 z1 W1 :=
  ⟨hB', Nat.le_trans h.hz hg.size, blk_grown h.b0 hg h0, blk_grown h.b1 hg h1⟩
theorem im_ne {W : World} {B n c g t : Nat} {f : Int → Option Int} {cells : Array Value} {z : Nat × Nat} (h : IMI W B n f c) (hb : W.heap[g]? = some (.cells cells t z)) : B ≠ g := by
  rintro rfl
  obtain ⟨D, ⟨es, clock, h1, _⟩, _⟩ := h
  rw [hb] at h1
  cases h1
theorem UF.setCell {w : World} {a0 a1 z0 z1 : Value} {W : World} (h : UF w a0 a1 z0 z1 W) {p : Addr} (hp : w.heap.size + 2 ≤ p.block) (u : Value) : UF w a0 a1 z0 z1 (W.setCell p u) :=
  ⟨h.hB.setCell (p := p) (by omega) u, Nat.le_trans h.hz ((Below.refl 0 W).setCell (p := p) (Nat.zero_le _) u).size, blk_far h.b0 (by omega) u, blk_far h.b1 (by omega) u⟩
theorem UF.f0 {w : World} {a0 a1 z0 z1 : Value} {W : World} (h : UF w a0 a1 z0 z1 W) : W.cell? ⟨w.heap.size, 0, none⟩ = some a0 := (blk_cell h.b0 0).trans rfl
theorem UF.f1 {w : World} {a0 a1 z0 z1 : Value} {W : World} (h : UF w a0 a1 z0 z1 W) : W.cell? ⟨w.heap.size, 1, none⟩ = some a1 := (blk_cell h.b0 1).trans rfl
theorem UF.g0 {w : World} {a0 a1 z0 z1 : Value} {W : World} (h : UF w a0 a1 z0 z1 W) : W.cell? ⟨w.heap.size + 1, 0, none⟩ = some z0 := (blk_cell h.b1 0).trans rfl
theorem UF.g1 {w : World} {a0 a1 z0 z1 : Value} {W : World} (h : UF w a0 a1 z0 z1 W) : W.cell? ⟨w.heap.size + 1, 1, none⟩ = some z1 := (blk_cell h.b1 1).trans rfl
theorem UF.y0 {w : World} {a0 a1 z0 z1 : Value} {W : World} (h : UF w a0 a1 z0 z1 W) : W.frozen? ⟨w.heap.size + 1, 0, none⟩ = false := blk_frozen h.b1 0
theorem UF.y1 {w : World} {a0 a1 z0 z1 : Value} {W : World} (h : UF w a0 a1 z0 z1 W) : W.frozen? ⟨w.heap.size + 1, 1, none⟩ = false := blk_frozen h.b1 1

set_option maxHeartbeats 8000000 in
set_option maxRecDepth 100000 in
theorem under_bad (v1 : Int) (A1 A2 : Option Addr) (c1 c2 : Nat) (l1 : List (List Int)) (l2 : List Int) (w : World) (hr1 : Kd.C (Kd.slice 3 (Kd.int .i64)) w A1 l1.length l1) (hc1 : l1.length ≤ c1) (hr2 : Kd.C (Kd.int .i64) w A2 l2.length l2) (hc2 : l2.length ≤ c2)
    (hn : l1.length ≤ 5864062014805) (hs : ∀ c ∈ l1, c.length ≤ 17592186044416) (hn2 : l2.length ≤ 17592186044416) (hbad : (isFormula v1 l1 && within l2 v1) = false) :
    Calls Try.prog 53 #[.agg #[.int .i64 v1, .slice A1 l1.length c1], .slice A2 l2.length c2] w fun e w' => e = .returned (.tuple #[.agg #[.int .i64 0, .slice none 0 0], .int .i64 1]) ∧ Below w.heap.size w w' := by
  have HR1 := Aside0.mk hr1
  have HR2 := Aside0.mk hr2
  have F1 := fun W h => isFormula_calls v1 A1 c1 l1 W h hc1 (by omega) hs
  have F2 := fun W h => within_calls A2 c2 l2 v1 W h hc2 hn2
  cases hf1 : isFormula v1 l1 with
  | false =>
    rw [hf1] at F1
    have HF1 := Aside0.mk F1
    clear F1 F2 hr1 hr2 hc1 hc2 hn hs hn2 hf1 hbad
    go_enter Try.func53, Try.ntmps53
    go_wp2_with fail
    have T0 := uf w (.int .i64 v1) (.slice A1 l1.length c1) (.int .i64 0) (.slice none 0 0)
    generalize hW0 : ((w.alloc (.cells #[.int .i64 v1, .slice A1 l1.length c1] 24 (0, 0))).alloc (.cells #[.int .i64 0, .slice none 0 0] 24 (0, 0))) = W0 at T0 ⊢
    clear hW0
    (with_reducible refine (HF1.out _ (Kd.C_below HR1.out T0.hB)).mono ?_)
    rintro e W1 ⟨rfl, hb⟩
    have T1 := T0.keep hb
    have HT := Aside0.mk T1
    have k0 := T1.g0
    have k1 := T1.g1
    have y0 := T1.y0
    have y1 := T1.y1
    clear T0 hb T1
    go_wp2_with fail
    refine bodyPost_ret (v := .tuple #[.agg #[.int .i64 0, .slice none 0 0], .int .i64 1]) (by simp [results, Try.results53, go_sem, k0, k1]) rfl ?_
    exact ⟨rfl, (HT.out.hB.setCell (p := ⟨w.heap.size + 1, 0, none⟩) (show w.heap.size ≤ w.heap.size + 1 by omega) _).setCell (p := ⟨w.heap.size + 1, 1, none⟩) (show w.heap.size ≤ w.heap.size + 1 by omega) _⟩
  | true =>
    rw [hf1, Bool.true_and] at hbad
    rw [hf1] at F1
    rw [hbad] at F2
    have HF1 := Aside0.mk F1
    have HF2 := Aside0.mk F2
    clear F1 F2 hr1 hr2 hc1 hc2 hn hs hn2 hf1 hbad
    go_enter Try.func53, Try.ntmps53
    go_wp2_with fail
    have T0 := uf w (.int .i64 v1) (.slice A1 l1.length c1) (.int .i64 0) (.slice none 0 0)
    generalize hW0 : ((w.alloc (.cells #[.int .i64 v1, .slice A1 l1.length c1] 24 (0, 0))).alloc (.cells #[.int .i64 0, .slice none 0 0] 24 (0, 0))) = W0 at T0 ⊢
    clear hW0
    (with_reducible refine (HF1.out _ (Kd.C_below HR1.out T0.hB)).mono ?_)
    rintro e W1 ⟨rfl, hb⟩
    have T1 := T0.keep hb
    have f0 := T1.f0
    clear T0 hb
    go_wp2_with fail
    (with_reducible refine (HF2.out _ (Kd.C_below HR2.out T1.hB)).mono ?_)
    rintro e W2 ⟨rfl, hd⟩
    have T2 := T1.keep hd.below
    have HT := Aside0.mk T2
    have k0 := T2.g0
    have k1 := T2.g1
    have y0 := T2.y0
    have y1 := T2.y1
    clear T1 hd T2 f0
    go_wp2_with fail
    refine bodyPost_ret (v := .tuple #[.agg #[.int .i64 0, .slice none 0 0], .int .i64 1]) (by simp [results, Try.results53, go_sem, k0, k1]) rfl ?_
    exact ⟨rfl, (HT.out.hB.setCell (p := ⟨w.heap.size + 1, 0, none⟩) (show w.heap.size ≤ w.heap.size + 1 by omega) _).setCell (p := ⟨w.heap.size + 1, 1, none⟩) (show w.heap.size ≤ w.heap.size + 1 by omega) _⟩
end Go.Proofs.YtggnnnddnppcpaaHand
/-! text YtggnnnddnppcpaaCnfModels -/
namespace Go.Proofs.YtggnnnddnppcpaaHand
open Go.RowKit Go.Shelf Go.Proofs.YtggnnnddnppcpaaW.PrintWords Go.Proofs.YtggnnnddnppcpaaW.PrintLast Go.Proofs.YtggnnnddnppcpaaMath Go.Proofs.YtggnnnddnppcpaaCells
set_option linter.unusedVariables false
set_option linter.unusedSimpArgs false

theorem models_stops (n : Nat) (hn : 1 ≤ n) (v : Nat) (cs : List (List Int)) (Bg base0 : Nat) (ok : Nat → Prop) (A : Option Addr) (cap : Nat) (Sv : Nat → Prop) (hv : v ≤ 16) (hf : isFormula (v : Int) cs = true) (hcn : cs.length ≤ 17592186044416) (hcs : ∀ c ∈ cs, c.length ≤ 17592186044416)
    (w : World) (hSrc : Src v cs Bg base0 ok A cap w) (hSok : ∀ k, ok k → ¬ Sv k) (hSg : ¬ Sv Bg) (hSW : ∀ k, Sv k → k < w.heap.size) :
    SeqStopsM Fence.wide n Try.prog 72 #[.pointer (some ⟨Bg, 0, none⟩)] (fun x : Value × List Bool => #[x.1]) (Handed v) (KeepC Sv) (fun xs => xs.map (·.2) = modelsIn v cs) (fun pre => pre.map (·.2) <+: modelsIn v cs) 65536 w := fun l J Jx W hW hJ hJx hY h0 =>
  models2_in n hn l v cs Bg base0 ok A cap Sv hv hf hcn hcs J Jx W hJ (hSrc.keep hW) hSok hSg (fun k hk => Nat.lt_of_lt_of_le (hSW k hk) hW.size) hY h0

theorem nothing_stops (n : Nat) (hn : 1 ≤ n) (v : Nat) (Sv : Nat → Prop) (w : World) :
    SeqStopsM Fence.wide n Try.prog 71 #[] (fun x : Value × List Bool => #[x.1]) (Handed v) (KeepC Sv) (fun xs => xs.map (·.2) = []) (fun pre => False) 65536 w := fun l J Jx W hW hJ hJx hY h0 => by
  refine callsIn_of_wp Try.func71 rfl trivial ?_ rfl
  simp only [Try.ntmps71, List.size_toArray, List.length_cons, List.length_nil, Nat.reduceAdd, Nat.reduceSub, Array.replicate_succ, Array.replicate_zero, List.push_toArray, List.append_toArray, List.nil_append, List.cons_append]
  gi_wp2
  go_end0
  first | exact ⟨⟨_, rfl⟩, h0⟩ | exact ⟨⟨_, rfl⟩, Or.inl ⟨[], rfl, h0⟩⟩

set_option maxHeartbeats 8000000 in
set_option maxRecDepth 100000 in
theorem models_bad (v1 : Int) (A1 : Option Addr) (c1 : Nat) (l1 : List (List Int)) (w : World) (hr1 : Kd.C (Kd.slice 3 (Kd.int .i64)) w A1 l1.length l1) (hc1 : l1.length ≤ c1) (hn : l1.length ≤ 17592186044416) (hs : ∀ c ∈ l1, c.length ≤ 17592186044416) (hbad : (isFormula v1 l1 && decide (v1 ≤ 16)) = false) :
    Calls Try.prog 37 #[.agg #[.int .i64 v1, .slice A1 l1.length c1]] w fun e w' => e = .returned (.func (.func 71) #[] #[]) ∧ Below w.heap.size w w' := by
  have HR1 := Aside0.mk hr1
  have F1 := fun W h => isFormula_calls v1 A1 c1 l1 W h hc1 hn hs
  cases hf1 : isFormula v1 l1 with
  | false =>
    rw [hf1] at F1
    have HF1 := Aside0.mk F1
    clear F1 hr1 hc1 hn hs hf1 hbad
    go_enter Try.func37, Try.ntmps37
    go_wp2_with fail
    have B0 : Below w.heap.size w (w.alloc (.cells #[.int .i64 v1, .slice A1 l1.length c1] 24 (0, 0))) := below_alloc (Below.refl _ _) _
    generalize hW0 : w.alloc (.cells #[.int .i64 v1, .slice A1 l1.length c1] 24 (0, 0)) = W0 at B0 ⊢
    clear hW0
    (with_reducible refine (HF1.out _ (Kd.C_below HR1.out B0)).mono ?_)
    rintro e W1 ⟨rfl, hb⟩
    have B1 := Aside0.mk (below_step B0 hb)
    clear B0 hb
    go_wp2_with fail
    go_ret
    exact ⟨rfl, B1.out⟩
  | true =>
    rw [hf1, Bool.true_and] at hbad
    rw [hf1] at F1
    have HF1 := Aside0.mk F1
    have hgt : decide (v1 > 16) = true := decide_eq_true (by have := of_decide_eq_false hbad; omega)
    have hgt2 : decide (16 < v1) = true := hgt
    clear F1 hr1 hc1 hn hs hf1 hbad
    go_enter Try.func37, Try.ntmps37
    go_wp2_with fail
    have B0 : Below w.heap.size w (w.alloc (.cells #[.int .i64 v1, .slice A1 l1.length c1] 24 (0, 0))) := below_alloc (Below.refl _ _) _
    have k0 := blk_new w (.cells #[.int .i64 v1, .slice A1 l1.length c1] 24 (0, 0))
    generalize hW0 : w.alloc (.cells #[.int .i64 v1, .slice A1 l1.length c1] 24 (0, 0)) = W0 at B0 k0 ⊢
    clear hW0
    (with_reducible refine (HF1.out _ (Kd.C_below HR1.out B0)).mono ?_)
    rintro e W1 ⟨rfl, hb⟩
    have B1 := Aside0.mk (below_step B0 hb)
    have k1 := (blk_cell (blk_below k0 hb) 0).trans rfl
    clear B0 hb k0
    go_wp2_with fail
    go_ret
    exact ⟨rfl, B1.out⟩

theorem src_of {v1 : Int} {l1 : List (List Int)} {Bg base b0 : Nat} {A : Option Addr} {cap : Nat} {W : World} (hv0 : 0 ≤ v1) (hg : W.heap[Bg]? = some (.cells #[.int .i64 v1, .slice A l1.length cap] 24 (0, 0))) (hS : Kd.S (Kd.slice 3 (Kd.int .i64)) 43 W base (fun _ => True) (.slice A l1.length cap) l1) (hb : b0 ≤ base) :
    Src v1.toNat l1 Bg b0 (fun k => b0 ≤ k ∧ k < W.heap.size) A cap W := by
  refine ⟨?_, Kd.S_mono (Kd.S_bound (Kd.S_lower hS hb)) (fun k hk => ⟨hk.2.1, hk.2.2.1⟩)⟩
  rw [Int.toNat_of_nonneg hv0]
  exact hg

set_option maxHeartbeats 8000000 in
set_option maxRecDepth 100000 in
theorem models_good (v1 : Int) (A1 : Option Addr) (c1 : Nat) (l1 : List (List Int)) (w : World) (hr1 : Kd.C (Kd.slice 3 (Kd.int .i64)) w A1 l1.length l1) (hc1 : l1.length ≤ c1) (hn : l1.length ≤ 5864062014805) (hs : ∀ c ∈ l1, c.length ≤ 17592186044416) (hf1 : isFormula v1 l1 = true) (hv : v1 ≤ 16) :
    Calls Try.prog 37 #[.agg #[.int .i64 v1, .slice A1 l1.length c1]] w fun e w' => ∃ (Bg : Nat) (A : Option Addr) (cap : Nat), e = .returned (.func (.func 72) #[] #[.pointer (some ⟨Bg, 0, none⟩)]) ∧ Src v1.toNat l1 Bg w.heap.size (fun k => w.heap.size ≤ k ∧ k < w'.heap.size) A cap w' ∧ w.heap.size ≤ Bg ∧ Bg < w'.heap.size ∧ Below w.heap.size w w' := by
  have HR1 := Aside0.mk hr1
  have F1 := fun W h => isFormula_calls v1 A1 c1 l1 W h hc1 (by omega) hs
  rw [hf1] at F1
  have HF1 := Aside0.mk F1
  have HC1 := Aside0.mk hc1
  have HN := Aside0.mk hn
  have HS := Aside0.mk hs
  have hgt : decide (v1 > 16) = false := decide_eq_false (by omega)
  have HV0 : Aside0 (0 ≤ v1) := ⟨by unfold isFormula at hf1; rw [Bool.and_eq_true, decide_eq_true_eq] at hf1; exact hf1.1.1⟩
  have hgt2 : decide (16 < v1) = false := hgt
  clear F1 hr1 hc1 hn hs hf1
  go_enter Try.func37, Try.ntmps37
  go_wp2_with fail
  have B0 : Below w.heap.size w (w.alloc (.cells #[.int .i64 v1, .slice A1 l1.length c1] 24 (0, 0))) := below_alloc (Below.refl _ _) _
  have k0 := blk_new w (.cells #[.int .i64 v1, .slice A1 l1.length c1] 24 (0, 0))
  generalize hW0 : w.alloc (.cells #[.int .i64 v1, .slice A1 l1.length c1] 24 (0, 0)) = W0 at B0 k0 ⊢
  clear hW0
  (with_reducible refine (HF1.out _ (Kd.C_below HR1.out B0)).mono ?_)
  rintro e W1 ⟨rfl, hb⟩
  have B1 := Aside0.mk (below_step B0 hb)
  have BK1 := Aside0.mk (blk_below k0 hb)
  clear B0 hb k0
  have f0 := (blk_cell BK1.out 0).trans rfl
  have f1 := (blk_cell BK1.out 1).trans rfl
  go_wp2_with fail
  have hkeep : ∀ W : World, W.heap[w.heap.size]? = some (.cells #[.int .i64 v1, .slice A1 l1.length c1] 24 (0, 0)) → W.cell? ⟨w.heap.size, 0, none⟩ = some (.int .i64 v1) ∧ W.cell? ⟨w.heap.size, 1, none⟩ = some (.slice A1 l1.length c1) := fun W h => ⟨(blk_cell h 0).trans rfl, (blk_cell h 1).trans rfl⟩
  have HK := Aside0.mk hkeep
  have HNE : Aside0 (w.heap.size ≠ W1.heap.size) := ⟨Nat.ne_of_lt (blk_lt BK1.out)⟩
  clear hkeep
  go_region_held3 (fun w' => w'.cell? ⟨w.heap.size, 0, none⟩ = some (.int .i64 v1) ∧ w'.cell? ⟨w.heap.size, 1, none⟩ = some (.slice A1 l1.length c1))
    (first | exact HK.out _ BK3.out | exact HK.out _ (blk_far (blk_far BK3.out HNE.out _) HNE.out _) | exact HK.out _ (blk_far BK3.out HNE.out _) | exact HK.out _ (blk_alloc BK3.out _) | exact HK.out _ BK1.out | exact HK.out _ (blk_drew BK1.out) | exact HK.out _ (blk_alloc (blk_drew BK1.out) _) | exact HK.out _ (blk_drew (blk_alloc BK1.out _)) | exact HK.out _ (blk_alloc BK1.out _))
    (first
    | (go_at_call 59; (with_reducible refine (laid_calls A1 c1 [] l1 (.slice none 0 0) (W1.alloc (.cells #[.int .i64 0, .slice none 0 0] 24 (0, 0))).drew (W1.alloc (.cells #[.int .i64 0, .slice none 0 0] 24 (0, 0))).drew (Kd.C_below HR1.out (below_drew (below_alloc B1.out _))) HC1.out (Below.refl _ _) (Kd.S_nil _ _ _ _ _) (by have := HN.out; simp; omega) HS.out).mono ?_); rintro e w3 ⟨v3, rfl, hs3, hb3⟩; have BK3 := Aside0.mk (blk_below (blk_drew (blk_alloc BK1.out _)) hb3); have bkg : w3.heap[W1.heap.size]? = some (.cells #[.int .i64 0, .slice none 0 0] 24 (0, 0)) := blk_below (blk_drew (blk_new W1 (.cells #[.int .i64 0, .slice none 0 0] 24 (0, 0)))) hb3; have kg0 := (blk_cell bkg 0).trans rfl; have kg1 := (blk_cell bkg 1).trans rfl; have yg0 := blk_frozen bkg 0; have yg1 := blk_frozen bkg 1; have BKG := Aside0.mk bkg; clear bkg; obtain ⟨Ao3, co3, eo3⟩ := Kd.S_slice hs3; subst eo3; have HS3 := Aside0.mk hs3; have HB3 := Aside0.mk hb3; clear hs3 hb3)
    | (go_at_call 59; (with_reducible refine (laid_calls A1 c1 [] l1 (.slice none 0 0) W1.drew W1.drew (Kd.C_below HR1.out (below_drew B1.out)) HC1.out (Below.refl _ _) (Kd.S_nil _ _ _ _ _) (by have := HN.out; simp; omega) HS.out).mono ?_); rintro e w3 ⟨v3, rfl, hs3, hb3⟩; have BK3 := Aside0.mk (blk_below (blk_drew BK1.out) hb3); obtain ⟨Ao3, co3, eo3⟩ := Kd.S_slice hs3; subst eo3; have HS3 := Aside0.mk hs3; have HB3 := Aside0.mk hb3; clear hs3 hb3))
  all_goals
    have hs3 := HS3.out
    rw [List.nil_append] at hs3
    go_wp2
    go_ret
    first
    | (refine ⟨w3.heap.size, Ao3, co3, rfl, src_of HV0.out (blk_new _ _) (Kd.S_alloc hs3 _) B1.out.size, ?_, by simp, below_alloc (below_step (below_drew B1.out) HB3.out) _⟩
       exact Nat.le_trans B1.out.size HB3.out.size)
    | (have b2 := blk_put BKG.out 0 (.int .i64 v1) rfl
       refine ⟨W1.heap.size, Ao3, co3, rfl, src_of HV0.out (blk_put b2 1 (.slice Ao3 l1.length co3) rfl) (Kd.S_set (Kd.S_set hs3 BKG.out (by decide) 0 _) b2 (by decide) 1 _) (Nat.le_trans B1.out.size (by simp)), B1.out.size, ?_, ?_⟩
       · exact blk_lt (blk_put b2 1 (.slice Ao3 l1.length co3) rfl)
       · exact ((below_step (below_drew (below_alloc B1.out _)) HB3.out).setCell (p := ⟨W1.heap.size, 0, none⟩) B1.out.size _).setCell (p := ⟨W1.heap.size, 1, none⟩) B1.out.size _)
end Go.Proofs.YtggnnnddnppcpaaHand
/-! text YtggnnnddnppcpaaCnfCountOf -/
namespace Go.Proofs.YtggnnnddnppcpaaMath
def countOf (v : Int) (cs : List (List Int)) : Int × Int := if isFormula v cs = true then (if 16 < v then (0, 4) else ((modelsIn v.toNat cs).length, 0)) else (0, 1)
end Go.Proofs.YtggnnnddnppcpaaMath
namespace Go.Proofs.YtggnnnddnppcpaaHand
open Go.RowKit Go.Shelf Go.Proofs.YtggnnnddnppcpaaW.PrintWords Go.Proofs.YtggnnnddnppcpaaW.PrintLast Go.Proofs.YtggnnnddnppcpaaMath Go.Proofs.YtggnnnddnppcpaaCells
set_option linter.unusedVariables false
set_option linter.unusedSimpArgs false
attribute [local go_sem] Oper.semAt_some

theorem KeepC.set {S : Nat → Prop} (W : World) {b : Nat} (hb : S b) (i : Nat) (u : Value) : KeepC S W (W.setCell ⟨b, i, none⟩ u) :=
  ⟨((Below.refl 0 W).setCell (p := ⟨b, i, none⟩) (Nat.zero_le _) u).size, fun k cells t z hk hs => (Below.heap_setCell W ⟨b, i, none⟩ u k (fun e => hs (by rw [e]; exact hb))).trans hk⟩
theorem Handed.put {v : Nat} (x : Value × List Bool) (W : World) (l : Nat) (o o' : Obj) (h : W.heap[l]? = some o) (hc : o.isCells = false) (hx : Handed v x W) : Handed v x (W.putObj l o') := by
  obtain ⟨h1, base, h2⟩ := hx
  refine ⟨h1, base, Kd.R_mono (Kd.R_move (Kd.R_bound h2) (fun k hk => ?_)) (fun _ _ => trivial)⟩
  obtain ⟨_, _, _, q, _, cells, hcells⟩ := hk
  exact World.putObj_heap_other (fun e => by subst e; rw [h] at hcells; cases hcells; cases hc)

set_option maxHeartbeats 8000000 in
set_option maxRecDepth 100000 in
theorem count_good (v1 : Int) (A1 : Option Addr) (c1 : Nat) (l1 : List (List Int)) (w : World) (hr1 : Kd.C (Kd.slice 3 (Kd.int .i64)) w A1 l1.length l1) (hc1 : l1.length ≤ c1) (hn : l1.length ≤ 5864062014805) (hs : ∀ c ∈ l1, c.length ≤ 17592186044416) (hf1 : isFormula v1 l1 = true) (hv : v1 ≤ 16) :
    Calls Try.prog 40 #[.agg #[.int .i64 v1, .slice A1 l1.length c1]] w fun e w' => e = .returned (.tuple #[.int .i64 (modelsIn v1.toNat l1).length, .int .i64 0]) ∧ Below w.heap.size w w' := by
  have HR1 := Aside0.mk hr1
  have F1 := fun W h => isFormula_calls v1 A1 c1 l1 W h hc1 (by omega) hs
  rw [hf1] at F1
  have HF1 := Aside0.mk F1
  have M := fun W h => models_good v1 A1 c1 l1 W h hc1 hn hs hf1 hv
  have HM := Aside0.mk M
  have HFF := Aside0.mk hf1
  have HV := Aside0.mk hv
  have HV16 : Aside0 (v1.toNat ≤ 16) := ⟨by omega⟩
  have HN := Aside0.mk hn
  have HS := Aside0.mk hs
  have hgt : decide (v1 > 16) = false := decide_eq_false (by omega)
  have hgt2 : decide (16 < v1) = false := hgt
  clear F1 M hr1 hc1 hn hs hf1
  refine (callsIn_wide (n := 6)).1 ?_
  refine callsIn_of_wp_marks Try.func40 rfl trivial ?_ rfl
  simp only [Try.ntmps40, List.size_toArray, List.length_cons, List.length_nil, Nat.reduceAdd, Nat.reduceSub, Array.replicate_succ, Array.replicate_zero, List.push_toArray, List.append_toArray, List.nil_append, List.cons_append]
  gi_wp2
  have B0 : Below w.heap.size w (w.alloc (.cells #[.int .i64 v1, .slice A1 l1.length c1] 24 (0, 0))) := below_alloc (Below.refl _ _) _
  have k0 := blk_new w (.cells #[.int .i64 v1, .slice A1 l1.length c1] 24 (0, 0))
  generalize hW0 : w.alloc (.cells #[.int .i64 v1, .slice A1 l1.length c1] 24 (0, 0)) = W0 at B0 k0 ⊢
  clear hW0
  refine ⟨trivial, ?_⟩
  (with_reducible refine (callsIn_wide.2 (HF1.out _ (Kd.C_below HR1.out B0))).mono ?_)
  rintro e W1 ⟨rfl, hb⟩
  have hw1 : w.heap.size ≤ W1.heap.size := Nat.le_trans B0.size hb.size
  have B1 := below_alloc (below_step B0 hb) (.cells #[.int .i64 0] 3 (0, 0))
  have f0 := (blk_cell (blk_below k0 hb) 0).trans rfl
  have k1 := blk_alloc (blk_below k0 hb) (.cells #[.int .i64 0] 3 (0, 0))
  have g0 := (blk_cell k1 0).trans rfl
  have g1 := (blk_cell k1 1).trans rfl
  have n1 := blk_new W1 (.cells #[.int .i64 0] 3 (0, 0))
  clear hb k0 B0
  gi_wp2
  refine ⟨trivial, ?_⟩
  (with_reducible refine (callsIn_wide.2 (HM.out _ (Kd.C_below HR1.out B1))).mono ?_)
  rintro e W2 ⟨Bg, A, cap, rfl, hsrc, hBg, hBg2, hb2⟩
  have n2 := blk_below n1 hb2
  have B2 := below_step B1 hb2
  have hN : W1.heap.size < W2.heap.size := blk_lt n2
  clear f0 g0 g1 k1 n1 B1 hb2
  gi_wp2
  have HV0 : Aside0 (((v1.toNat : Nat) : Int) = v1) := ⟨by have h := HFF.out; unfold isFormula at h; rw [Bool.and_eq_true, decide_eq_true_eq] at h; omega⟩
  refine wpIn_range_cells rfl (by decide) (gf := 72) (lb := #[.pointer (some ⟨Bg, 0, none⟩)]) rfl trivial (enters_of Try.func72 (by kernel_rfl) rfl)
    (models_stops _ (by decide) v1.toNat l1 Bg _ _ A cap (fun k => k = W1.heap.size) HV16.out (by rw [HV0.out]; exact HFF.out) (by have := HN.out; omega) HS.out W2 hsrc (fun k hk e => by have e' : k = W1.heap.size := e; have := hk.1; simp at this; omega) (fun e => by have e' : Bg = W1.heap.size := e; simp at hBg; omega) (fun k e => by have e' : k = W1.heap.size := e; omega))
    KeepC.trans (fun W l o o' _ h hc => KeepC.put W l o o' h hc) Handed.put (Below.refl _ _) (fun _ => rfl)
    (fun pre W => W.heap[W1.heap.size]? = some (.cells #[.int .i64 pre.length] 3 (0, 0)) ∧ Below w.heap.size w W) (fun _ _ _ => False)
    (fun s A B row hs hg hr => ⟨blk_grown hs.1 hg (fun e => by have h1 := (hr _ e.symm).1; exact absurd h1 (Nat.not_le_of_lt hN)), hs.2.grown hg hs.2.size (fun k e => Nat.le_trans B2.size (hr _ e).1)⟩)
    (fun _ _ _ _ _ hs _ _ => hs) ⟨n2, B2⟩
    (fun x => { tmps := #[.agg #[.int .i64 v1, .slice A1 l1.length c1], .pointer (some ⟨w.heap.size, 0, none⟩), .int .i64 0, .int .i64 0, .pointer (some ⟨W1.heap.size, 0, none⟩), .agg #[.int .i64 v1, .slice A1 l1.length c1], .bool true, .bool false, .pointer (some ⟨w.heap.size, 0, none⟩), .int .i64 v1, .bool false, .agg #[.int .i64 v1, .slice A1 l1.length c1], .func (.func 72) #[] #[.pointer (some ⟨Bg, 0, none⟩)], x.1, undef, undef, undef], defers := [] }) ?assign ?body ?done ?stop
  case assign =>
    intro l x W K hK
    gi_wp2
    first | exact hK | simpa using hK
  case body =>
    rintro l pre x W ⟨hc, hB⟩ _ hlen
    have c0 := (blk_cell hc 0).trans rfl
    have y0 := blk_frozen hc 0
    have hwr : wrap64 ((pre.length : Int) + 1) = ((pre ++ [x]).length : Int) := by rw [w64 (by omega) (by omega)]; simp
    gi_wp2
    refine ⟨(KeepsOthers.setCell _ _ _).from _, KeepC.set (S := fun k => k = W1.heap.size) W (b := W1.heap.size) rfl 0 _, blk_put hc 0 _ ?_, hB.setCell (p := ⟨W1.heap.size, 0, none⟩) hw1 _⟩
    first | rw [hwr]; rfl | (simp; done)
  case done =>
    rintro D xs W hD hxs ⟨hc, hB⟩ hK
    have c0 := (blk_cell hc 0).trans rfl
    gi_wp2
    refine ⟨by simp, .inl ⟨_, _, rfl, run_takeDeferred hK, ?_⟩⟩
    have hl : xs.length = (modelsIn v1.toNat l1).length := by rw [← hxs, List.length_map]
    refine ⟨.tuple #[.int .i64 (xs.length : Int), .int .i64 0], by simp [results, Try.results40, go_sem], by rw [hl], ?_⟩
    exact hB.trans (belowK_b (w := w) (Nat.le_refl _) W D _ _ (Nat.le_trans B2.size hD) hK rfl rfl)
  case stop =>
    rintro D c pre W _ _ h _
    exact h.elim

set_option maxHeartbeats 8000000 in
set_option maxRecDepth 100000 in
theorem count_bad (v1 : Int) (A1 : Option Addr) (c1 : Nat) (l1 : List (List Int)) (w : World) (hr1 : Kd.C (Kd.slice 3 (Kd.int .i64)) w A1 l1.length l1) (hc1 : l1.length ≤ c1) (hn : l1.length ≤ 5864062014805) (hs : ∀ c ∈ l1, c.length ≤ 17592186044416) (hf1 : isFormula v1 l1 = false) :
    Calls Try.prog 40 #[.agg #[.int .i64 v1, .slice A1 l1.length c1]] w fun e w' => e = .returned (.tuple #[.int .i64 0, .int .i64 1]) ∧ Below w.heap.size w w' := by
  have HR1 := Aside0.mk hr1
  have F1 := fun W h => isFormula_calls v1 A1 c1 l1 W h hc1 (by omega) hs
  rw [hf1] at F1
  have HF1 := Aside0.mk F1
  clear F1 hr1 hc1 hn hs hf1
  go_enter Try.func40, Try.ntmps40
  go_wp2_with fail
  have B0 : Below w.heap.size w (w.alloc (.cells #[.int .i64 v1, .slice A1 l1.length c1] 24 (0, 0))) := below_alloc (Below.refl _ _) _
  generalize hW0 : w.alloc (.cells #[.int .i64 v1, .slice A1 l1.length c1] 24 (0, 0)) = W0 at B0 ⊢
  clear hW0
  (with_reducible refine (HF1.out _ (Kd.C_below HR1.out B0)).mono ?_)
  rintro e W1 ⟨rfl, hb⟩
  have B1 := Aside0.mk (below_step B0 hb)
  clear B0 hb
  go_wp2_with fail
  go_ret2
  exact ⟨rfl, B1.out⟩

set_option maxHeartbeats 8000000 in
set_option maxRecDepth 100000 in
theorem count_room (v1 : Int) (A1 : Option Addr) (c1 : Nat) (l1 : List (List Int)) (w : World) (hr1 : Kd.C (Kd.slice 3 (Kd.int .i64)) w A1 l1.length l1) (hc1 : l1.length ≤ c1) (hn : l1.length ≤ 5864062014805) (hs : ∀ c ∈ l1, c.length ≤ 17592186044416) (hf1 : isFormula v1 l1 = true) (hv : 16 < v1) :
    Calls Try.prog 40 #[.agg #[.int .i64 v1, .slice A1 l1.length c1]] w fun e w' => e = .returned (.tuple #[.int .i64 0, .int .i64 4]) ∧ Below w.heap.size w w' := by
  have HR1 := Aside0.mk hr1
  have F1 := fun W h => isFormula_calls v1 A1 c1 l1 W h hc1 (by omega) hs
  rw [hf1] at F1
  have HF1 := Aside0.mk F1
  have hgt : decide (v1 > 16) = true := decide_eq_true hv
  have hgt2 : decide (16 < v1) = true := hgt
  clear F1 hr1 hc1 hn hs hf1
  go_enter Try.func40, Try.ntmps40
  go_wp2_with fail
  have B0 : Below w.heap.size w (w.alloc (.cells #[.int .i64 v1, .slice A1 l1.length c1] 24 (0, 0))) := below_alloc (Below.refl _ _) _
  have k0 := blk_new w (.cells #[.int .i64 v1, .slice A1 l1.length c1] 24 (0, 0))
  generalize hW0 : w.alloc (.cells #[.int .i64 v1, .slice A1 l1.length c1] 24 (0, 0)) = W0 at B0 k0 ⊢
  clear hW0
  (with_reducible refine (HF1.out _ (Kd.C_below HR1.out B0)).mono ?_)
  rintro e W1 ⟨rfl, hb⟩
  have B1 := Aside0.mk (below_step B0 hb)
  have k1 := (blk_cell (blk_below k0 hb) 0).trans rfl
  clear B0 hb k0
  go_wp2_with fail
  go_ret2
  exact ⟨rfl, B1.out⟩

theorem count_calls (v1 : Int) (A1 : Option Addr) (c1 : Nat) (l1 : List (List Int)) (w : World) (hr1 : Kd.C (Kd.slice 3 (Kd.int .i64)) w A1 l1.length l1) (hc1 : l1.length ≤ c1) (hn : l1.length ≤ 5864062014805) (hs : ∀ c ∈ l1, c.length ≤ 17592186044416) :
    Calls Try.prog 40 #[.agg #[.int .i64 v1, .slice A1 l1.length c1]] w fun e w' => e = .returned (.tuple #[.int .i64 (countOf v1 l1).1, .int .i64 (countOf v1 l1).2]) ∧ Below w.heap.size w w' := by
  unfold countOf
  by_cases hf : isFormula v1 l1 = true
  · rw [if_pos hf]
    by_cases hv : 16 < v1
    · rw [if_pos hv]
      exact count_room v1 A1 c1 l1 w hr1 hc1 hn hs hf hv
    · rw [if_neg hv]
      exact count_good v1 A1 c1 l1 w hr1 hc1 hn hs hf (by omega)
  · rw [if_neg hf]
    exact count_bad v1 A1 c1 l1 w hr1 hc1 hn hs (by simpa using hf)
end Go.Proofs.YtggnnnddnppcpaaHand
