/- The law CnfLives: of a formula without clauses over one variable both models are given. -/
import Derived.Test.YtggnnnddnppcpaaCnfCountOf
namespace Go.Proofs.YtggnnnddnppcpaaHand
open Go.RowKit Go.Shelf Go.Proofs.YtggnnnddnppcpaaW.PrintWords Go.Proofs.YtggnnnddnppcpaaW.PrintLast Go.Proofs.YtggnnnddnppcpaaMath Go.Proofs.YtggnnnddnppcpaaCells
set_option linter.unusedVariables false
set_option linter.unusedSimpArgs false
attribute [local go_sem] Oper.semAt_some

/-- the models that are due: false, then true -/
def Due (pre : List (Value × List Bool)) : Prop := pre.map (·.2) = (List.range pre.length).map fun i : Nat => [decide ((i : Int) = 1)]
theorem due_snoc {pre : List (Value × List Bool)} {x : Value × List Bool} (h : Due pre) : Due (pre ++ [x]) ↔ x.2 = [decide ((pre.length : Int) = 1)] := by
  unfold Due at *
  rw [List.map_append, List.length_append, List.length_singleton, List.range_succ, List.map_append, h]
  constructor
  · intro e
    have := List.append_cancel_left e
    simpa using this
  · intro e
    simp [e]
theorem due_prefix {pre : List (Value × List Bool)} (h : pre.map (·.2) <+: modelsIn 1 []) : Due pre := by
  have e : modelsIn 1 [] = [[false], [true]] := by decide
  rw [e] at h
  unfold Due
  match pre, h with
  | [], _ => rfl
  | [a], h =>
    obtain ⟨t, ht⟩ := h
    simp at ht
    simp [ht.1]
  | [a, b], h =>
    obtain ⟨t, ht⟩ := h
    simp at ht
    simp [ht.1, ht.2.1, List.range_succ]
  | a :: b :: c :: r, h =>
    have := h.length_le
    simp at this
theorem due_all {pre : List (Value × List Bool)} (h : pre.map (·.2) = modelsIn 1 []) : pre.length = 2 := by
  have e : modelsIn 1 [] = [[false], [true]] := by decide
  have := congrArg List.length h
  rw [e] at this
  simpa using this

/-- the result's variable and the counter's -/
structure LV (w : World) (r n : Value) (W : World) : Prop where
  hB : Below w.heap.size w W
  hz : w.heap.size + 2 ≤ W.heap.size
  b0 : W.heap[w.heap.size]? = some (.cells #[r] 4 (0, 0))
  b1 : W.heap[w.heap.size + 1]? = some (.cells #[n] 3 (0, 0))
theorem LV.keep {w : World} {r n : Value} {W W1 : World} (h : LV w r n W) (k : Below W.heap.size W W1) : LV w r n W1 :=
  ⟨below_step h.hB k, Nat.le_trans h.hz k.size, blk_below h.b0 k, blk_below h.b1 k⟩
theorem LV.grown {w : World} {r n : Value} {W W1 : World} {row : Option Nat} (h : LV w r n W) (hg : W.grownBy W1 row) (hne : ∀ k, row = some k → w.heap.size + 2 ≤ k) : LV w r n W1 :=
  ⟨h.hB.grown hg h.hB.size (fun k hk => by have := hne k hk; omega), Nat.le_trans h.hz hg.size, blk_grown h.b0 hg (fun e => by have := hne _ e.symm; omega), blk_grown h.b1 hg (fun e => by have := hne _ e.symm; omega)⟩
theorem LV.setR {w : World} {r n : Value} {W : World} (h : LV w r n W) (r' : Value) : LV w r' n (W.setCell ⟨w.heap.size, 0, none⟩ r') :=
  ⟨h.hB.setCell (p := ⟨w.heap.size, 0, none⟩) (Nat.le_refl _) _, Nat.le_trans h.hz ((Below.refl 0 W).setCell (p := ⟨w.heap.size, 0, none⟩) (Nat.zero_le _) r').size, blk_put h.b0 0 r' rfl, blk_far h.b1 (show w.heap.size + 1 ≠ w.heap.size by omega) _⟩
theorem LV.setN {w : World} {r n : Value} {W : World} (h : LV w r n W) (n' : Value) : LV w r n' (W.setCell ⟨w.heap.size + 1, 0, none⟩ n') :=
  ⟨h.hB.setCell (p := ⟨w.heap.size + 1, 0, none⟩) (show w.heap.size ≤ w.heap.size + 1 by omega) _, Nat.le_trans h.hz ((Below.refl 0 W).setCell (p := ⟨w.heap.size + 1, 0, none⟩) (Nat.zero_le _) n').size, blk_far h.b0 (show w.heap.size ≠ w.heap.size + 1 by omega) _, blk_put h.b1 0 n' rfl⟩
theorem lv (w : World) (r n : Value) : LV w r n ((w.alloc (.cells #[r] 4 (0, 0))).alloc (.cells #[n] 3 (0, 0))) := by
  refine ⟨by repeat (first | exact Below.refl _ _ | apply below_alloc), by simp, blk_alloc (blk_new _ _) _, ?_⟩
  have := blk_new (w.alloc (.cells #[r] 4 (0, 0))) (.cells #[n] 3 (0, 0))
  simpa using this

theorem LV.drew {w : World} {r n : Value} {W : World} (h : LV w r n W) : LV w r n W.drew := ⟨below_drew h.hB, h.hz, blk_drew h.b0, blk_drew h.b1⟩
theorem lives_on {w W W1 : World} {pre : List (Value × List Bool)} {x : Value × List Bool} (h : LV w (.bool false) (.int .i64 pre.length) W) (hd : Due pre) (hx : x.2 = [decide ((pre.length : Int) = 1)]) :
    KeepsFrom W1.heap.size W (W.setCell ⟨w.heap.size + 1, 0, none⟩ (.int .i64 ((pre.length : Int) + 1))).drew ∧ KeepC (fun k => k = w.heap.size ∨ k = w.heap.size + 1) W (W.setCell ⟨w.heap.size + 1, 0, none⟩ (.int .i64 ((pre.length : Int) + 1))).drew ∧
      LV w (.bool false) (.int .i64 ((pre ++ [x]).length : Nat)) (W.setCell ⟨w.heap.size + 1, 0, none⟩ (.int .i64 ((pre.length : Int) + 1))).drew ∧ Due (pre ++ [x]) := by
  have e : (((pre ++ [x]).length : Nat) : Int) = (pre.length : Int) + 1 := by simp
  refine ⟨((KeepsOthers.setCell _ _ _).trans (KeepsOthers.drew _)).from _, KeepC.set (S := fun k => k = w.heap.size ∨ k = w.heap.size + 1) W (b := w.heap.size + 1) (.inr rfl) 0 _, ?_, (due_snoc hd).2 hx⟩
  rw [e]
  exact (h.setN _).drew
theorem lives_off {w W W1 : World} {pre : List (Value × List Bool)} {x : Value × List Bool} (h : LV w (.bool false) (.int .i64 pre.length) W) (hd : Due pre) (hx : x.2 ≠ [decide ((pre.length : Int) = 1)]) {W' : World} (hW : W' = (W.setCell ⟨w.heap.size, 0, none⟩ (.bool false)).drew) :
    KeepsFrom W1.heap.size W W' ∧ Code.ret = Code.ret ∧
      LV w (.bool false) (.int .i64 ((pre ++ [x]).length - 1 : Nat)) W' ∧ ¬ Due (pre ++ [x]) := by
  subst hW
  have e : ((((pre ++ [x]).length - 1 : Nat) : Nat) : Int) = (pre.length : Int) := by simp
  refine ⟨((KeepsOthers.setCell _ _ _).trans (KeepsOthers.drew _)).from _, rfl, ?_, fun hh => hx ((due_snoc hd).1 hh)⟩
  rw [e]
  exact (h.setR _).drew
theorem nil_seq (W : World) (b : Nat) : (binOp .eql 49 (.func (.func 72) #[] #[.pointer (some ⟨b, 0, none⟩)]) .nilFunc).run Try.prog W = .ok (.bool false) W := by kernel_rfl

set_option maxHeartbeats 8000000 in
set_option maxRecDepth 100000 in
theorem lives_calls (w : World) : Calls Try.prog 8 #[] w fun e w' => e = .returned (.bool true) ∧ Below w.heap.size w w' := by
  refine (callsIn_wide (n := 6)).1 ?_
  refine callsIn_of_wp_marks Try.func8 rfl trivial ?_ rfl
  simp only [Try.ntmps8, List.size_toArray, List.length_cons, List.length_nil, Nat.reduceAdd, Nat.reduceSub, Array.replicate_succ, Array.replicate_zero, List.push_toArray, List.append_toArray, List.nil_append, List.cons_append]
  gi_wp2
  have T0 := lv w (.bool false) (.int .i64 0)
  generalize hW0 : ((w.alloc (.cells #[.bool false] 4 (0, 0))).alloc (.cells #[.int .i64 0] 3 (0, 0))) = W0 at T0 ⊢
  clear hW0
  refine ⟨trivial, ?_⟩
  have M0 := models_good 1 none 0 [] W0 (Kd.C_nil _ _) (by simp) (by simp) (by simp) (by decide) (by decide)
  rw [List.length_nil] at M0
  (with_reducible refine (callsIn_wide.2 M0).mono ?_)
  clear M0
  rintro e W1 ⟨Bg, A, cap, rfl, hsrc, hBg, hBg2, hb⟩
  have T1 := T0.keep hb
  have hz0 : w.heap.size + 2 ≤ W0.heap.size := T0.hz
  clear T0 hb
  have nf := nil_seq W1 Bg
  gi_wp2
  clear nf
  refine wpIn_range_cells rfl (by decide) (gf := 72) (lb := #[.pointer (some ⟨Bg, 0, none⟩)]) rfl trivial (enters_of Try.func72 (by kernel_rfl) rfl)
    (models_stops _ (by decide) 1 [] Bg _ _ A cap (fun k => k = w.heap.size ∨ k = w.heap.size + 1) (by decide) (by decide) (by simp) (by simp) W1 hsrc (fun k hk e => by have e' : k = w.heap.size ∨ k = w.heap.size + 1 := e; have := hk.1; omega) (fun e => by have e' : Bg = w.heap.size ∨ Bg = w.heap.size + 1 := e; omega) (fun k e => by have e' : k = w.heap.size ∨ k = w.heap.size + 1 := e; have := T1.hz; omega))
    KeepC.trans (fun W l o o' _ h hc => KeepC.put W l o o' h hc) Handed.put (Below.refl _ _) (fun _ => rfl)
    (fun pre W => LV w (.bool false) (.int .i64 pre.length) W ∧ Due pre)
    (fun c pre W => c = .ret ∧ LV w (.bool false) (.int .i64 (pre.length - 1 : Nat)) W ∧ ¬ Due pre)
    (fun s A B row hs hg hr => ⟨hs.1.grown hg (fun k e => Nat.le_trans T1.hz (hr k e).1), hs.2⟩)
    (fun c s A B row hs hg hr => ⟨hs.1, hs.2.1.grown hg (fun k e => Nat.le_trans T1.hz (hr k e).1), hs.2.2⟩) ⟨T1, rfl⟩
    (fun x => { tmps := #[.pointer (some ⟨w.heap.size, 0, none⟩), .pointer (some ⟨w.heap.size + 1, 0, none⟩), .func (.func 72) #[] #[.pointer (some ⟨Bg, 0, none⟩)], x.1, .agg #[.int .i64 1, .slice none 0 0], .func (.func 72) #[] #[.pointer (some ⟨Bg, 0, none⟩)], .func (.func 72) #[] #[.pointer (some ⟨Bg, 0, none⟩)], .bool false, .func (.func 72) #[] #[.pointer (some ⟨Bg, 0, none⟩)], x.1, undef, undef, undef, undef, undef, undef, undef, undef, undef, undef, undef, undef, undef, undef, undef], defers := [] }) ?assign ?body ?done ?stop
  case assign =>
    intro l x W K hK
    gi_wp2
    first | exact hK | simpa using hK
  case body =>
    rintro l pre ⟨u, m⟩ W ⟨hE, hdue⟩ ⟨hml, base, hR⟩ hlen
    replace hR : Kd.R Kd.bool 4 W base (fun _ => True) u m := hR
    replace hml : m.length = 1 := hml
    match m, hml with
    | [b], _ =>
      obtain ⟨Am, cm, rfl⟩ := Kd.R_slice hR
      obtain ⟨ad, rfl, hcell⟩ := Kd.at_bool (Kd.R_reads' hR).2.2 0 (by decide) (by simp)
      have hcell : W.cell? (ad.add 0) = some (.bool b) := hcell
      have f0 := (blk_cell hE.b1 0).trans rfl
      have q0 := (blk_cell hE.b0 0).trans rfl
      have y0 := blk_frozen hE.b0 0
      have y1 := blk_frozen hE.b1 0
      have HE := Aside0.mk hE
      have hmx : Try.prog.follows .mixedOrders = true := by kernel_rfl
      have hc0 : W.cell? ad = some (.bool b) := by simpa [Addr.add] using hcell
      have hwr : wrap64 ((pre.length : Int) + 1) = ((pre.length : Int) + 1) := w64 (by omega) (by omega)
      clear hE
      by_cases hp : (pre.length : Int) = 1
      · have p1 : ((pre.length : Int) == 1) = true := beq_iff_eq.2 hp
        have HP := Aside0.mk hp
        have HD := Aside0.mk hdue
        clear hp hdue
        cases b with
        | true =>
          gi_wp2
          gi_region_with_o (fail)
          all_goals gi_wp2
          all_goals exact lives_on HE.out HD.out (by show [_] = [_]; rw [decide_eq_true HP.out])
        | false =>
          gi_wp2
          gi_region_with_o (fail)
          all_goals gi_wp2
          all_goals exact lives_off HE.out HD.out (by show [_] ≠ [_]; rw [decide_eq_true HP.out]; decide) rfl
      · have p1 : ((pre.length : Int) == 1) = false := beq_eq_false_iff_ne.2 hp
        have HP := Aside0.mk hp
        have HD := Aside0.mk hdue
        clear hp hdue
        cases b with
        | false =>
          gi_wp2
          gi_region_with_o (fail)
          all_goals gi_wp2
          all_goals exact lives_on HE.out HD.out (by show [_] = [_]; rw [decide_eq_false HP.out])
        | true =>
          gi_wp2
          gi_region_with_o (fail)
          all_goals gi_wp2
          all_goals exact lives_off HE.out HD.out (by show [_] ≠ [_]; rw [decide_eq_false HP.out]; decide) rfl
  case done =>
    rintro D xs W hD hxs ⟨hE, hdue⟩ hK
    have f0 := (blk_cell hE.b1 0).trans rfl
    have q0 := (blk_cell hE.b0 0).trans rfl
    have y0 := blk_frozen hE.b0 0
    have hn := due_all hxs
    rw [hn] at f0
    have HE := Aside0.mk hE
    clear hE hxs hdue hn
    gi_wp2
    have E2 := HE.out.setR (.bool true)
    have hK2 := (KeepsOthers.setCell W ⟨w.heap.size, 0, none⟩ (.bool true)).same D _ hK rfl
    generalize (W.setCell ⟨w.heap.size, 0, none⟩ (.bool true)) = WF at E2 hK2 ⊢
    refine ⟨by simp, .inl ⟨_, _, rfl, run_takeDeferred hK2, ?_⟩⟩
    have E3 := E2.grown (grownBy_putObj' WF D (.deferred none)) (fun k e => by cases e; exact Nat.le_trans T1.hz hD)
    have r0 := (blk_cell E3.b0 0).trans rfl
    exact ⟨.bool true, by simp [results, Try.results8, go_sem, r0], rfl, E3.hB⟩
  case stop =>
    rintro D c pre W hD hpre ⟨rfl, hE, hx⟩ hK
    exact absurd (due_prefix hpre) hx
end Go.Proofs.YtggnnnddnppcpaaHand
namespace Go.Proofs.Ytggnnnddnppcpaa.PCnfLives
open Go.RowKit
def depotlaw02_CnfLives.f : Option Bool := some true
theorem depotlaw02_CnfLives.calls (r : Bool) (w : World) (h : depotlaw02_CnfLives.f = some r) :
    Calls Try.prog 8 #[] w fun e w' => e = .returned (.bool r) ∧ Below w.heap.size w w' := by
  obtain rfl := Option.some.inj h
  exact Go.Proofs.YtggnnnddnppcpaaHand.lives_calls w
end Go.Proofs.Ytggnnnddnppcpaa.PCnfLives
