/- What cnf.Models answers: an iterator over the models, in the order of counting; or over nothing. -/
import Derived.Test.YtggnnnddnppcpaaClCnfModelsi
import Derived.Test.YtggnnnddnppcpaaClCnfModelsj
import Derived.Deep.RegionHeld3
import Derived.RangeFuncWrites
import Derived.RangeFuncCalls
/-! text YtggnnnddnppcpaaCnfModels -/
namespace Go.Proofs.YtggnnnddnppcpaaHand
open Go.RowKit Go.Shelf Go.Proofs.YtggnnnddnppcpaaW.PrintWords Go.Proofs.YtggnnnddnppcpaaW.PrintLast Go.Proofs.YtggnnnddnppcpaaMath Go.Proofs.YtggnnnddnppcpaaCells
set_option linter.unusedVariables false
set_option linter.unusedSimpArgs false

theorem models_stops (n : Nat) (hn : 1 ≤ n) (v : Nat) (cs : List (List Int)) (Bg base0 : Nat) (ok : Nat → Prop) (A : Option Addr) (cap : Nat) (Sv : Nat → Prop) (hv : v ≤ 16) (hf : isFormula (v : Int) cs = true) (hcn : cs.length ≤ 17592186044416) (hcs : ∀ c ∈ cs, c.length ≤ 17592186044416)
    (w : World) (hSrc : Src v cs Bg base0 ok A cap w) (hSok : ∀ k, ok k → ¬ Sv k) (hSg : ¬ Sv Bg) (hSW : ∀ k, Sv k → k < w.heap.size) :
    SeqStopsM Fence.wide n Try.prog 72 #[.pointer (some ⟨Bg, 0, none⟩)] (fun x : Value × List Bool => #[x.1]) (Handed v) (KeepC Sv) (fun xs => xs.map (·.2) = modelsIn v cs) (fun pre => pre.map (·.2) <+: modelsIn v cs) 65536 w := fun l J Jx W hW hJ hJx hY h0 =>
  models2_in n hn l v cs Bg base0 ok A cap Sv hv hf hcn hcs J Jx W hJ (hSrc.keep hW) hSok hSg (fun k hk => Nat.lt_of_lt_of_le (hSW k hk) hW.size) hY h0

theorem nothing_stops (n : Nat) (hn : 1 ≤ n) (v : Nat) (Sv : Nat → Prop) (w : World) :
    SeqStopsM Fence.wide n Try.prog 71 #[] (fun x : Value × List Bool => #[x.1]) (Handed v) (KeepC Sv) (fun xs => xs.map (·.2) = []) (fun pre => False) 65536 w := fun l J Jx W hW hJ hJx hY h0 => by
  refine callsIn_of_wp Try.func71 rfl trivial ?_ rfl
  simp only [Try.ntmps71, List.size_toArray, List.length_cons, List.length_nil, Nat.reduceAdd, Nat.reduceSub, Array.replicate_succ, Array.replicate_zero, List.push_toArray, List.append_toArray, List.nil_append, List.cons_append]
  gi_wp2
  go_end0
  first | exact ⟨⟨_, rfl⟩, h0⟩ | exact ⟨⟨_, rfl⟩, Or.inl ⟨[], rfl, h0⟩⟩

set_option maxHeartbeats 8000000 in
set_option maxRecDepth 100000 in
theorem models_bad (v1 : Int) (A1 : Option Addr) (c1 : Nat) (l1 : List (List Int)) (w : World) (hr1 : Kd.C (Kd.slice 3 (Kd.int .i64)) w A1 l1.length l1) (hc1 : l1.length ≤ c1) (hn : l1.length ≤ 17592186044416) (hs : ∀ c ∈ l1, c.length ≤ 17592186044416) (hbad : (isFormula v1 l1 && decide (v1 ≤ 16)) = false) :
    Calls Try.prog 37 #[.agg #[.int .i64 v1, .slice A1 l1.length c1]] w fun e w' => e = .returned (.func (.func 71) #[] #[]) ∧ Below w.heap.size w w' := by
  have HR1 := Aside0.mk hr1
  have F1 := fun W h => isFormula_calls v1 A1 c1 l1 W h hc1 hn hs
  cases hf1 : isFormula v1 l1 with
  | false =>
    rw [hf1] at F1
    have HF1 := Aside0.mk F1
    clear F1 hr1 hc1 hn hs hf1 hbad
    go_enter Try.func37, Try.ntmps37
    go_wp2_with fail
    have B0 : Below w.heap.size w (w.alloc (.cells #[.int .i64 v1, .slice A1 l1.length c1] 24 (0, 0))) := below_alloc (Below.refl _ _) _
    generalize hW0 : w.alloc (.cells #[.int .i64 v1, .slice A1 l1.length c1] 24 (0, 0)) = W0 at B0 ⊢
    clear hW0
    (with_reducible refine (HF1.out _ (Kd.C_below HR1.out B0)).mono ?_)
    rintro e W1 ⟨rfl, hb⟩
    have B1 := Aside0.mk (below_step B0 hb)
    clear B0 hb
    go_wp2_with fail
    go_ret
    exact ⟨rfl, B1.out⟩
  | true =>
    rw [hf1, Bool.true_and] at hbad
    rw [hf1] at F1
    have HF1 := Aside0.mk F1
    have hgt : decide (v1 > 16) = true := decide_eq_true (by have := of_decide_eq_false hbad; omega)
    have hgt2 : decide (16 < v1) = true := hgt
    clear F1 hr1 hc1 hn hs hf1 hbad
    go_enter Try.func37, Try.ntmps37
    go_wp2_with fail
    have B0 : Below w.heap.size w (w.alloc (.cells #[.int .i64 v1, .slice A1 l1.length c1] 24 (0, 0))) := below_alloc (Below.refl _ _) _
    have k0 := blk_new w (.cells #[.int .i64 v1, .slice A1 l1.length c1] 24 (0, 0))
    generalize hW0 : w.alloc (.cells #[.int .i64 v1, .slice A1 l1.length c1] 24 (0, 0)) = W0 at B0 k0 ⊢
    clear hW0
    (with_reducible refine (HF1.out _ (Kd.C_below HR1.out B0)).mono ?_)
    rintro e W1 ⟨rfl, hb⟩
    have B1 := Aside0.mk (below_step B0 hb)
    have k1 := (blk_cell (blk_below k0 hb) 0).trans rfl
    clear B0 hb k0
    go_wp2_with fail
    go_ret
    exact ⟨rfl, B1.out⟩

theorem src_of {v1 : Int} {l1 : List (List Int)} {Bg base b0 : Nat} {A : Option Addr} {cap : Nat} {W : World} (hv0 : 0 ≤ v1) (hg : W.heap[Bg]? = some (.cells #[.int .i64 v1, .slice A l1.length cap] 24 (0, 0))) (hS : Kd.S (Kd.slice 3 (Kd.int .i64)) 43 W base (fun _ => True) (.slice A l1.length cap) l1) (hb : b0 ≤ base) :
    Src v1.toNat l1 Bg b0 (fun k => b0 ≤ k ∧ k < W.heap.size) A cap W := by
  refine ⟨?_, Kd.S_mono (Kd.S_bound (Kd.S_lower hS hb)) (fun k hk => ⟨hk.2.1, hk.2.2.1⟩)⟩
  rw [Int.toNat_of_nonneg hv0]
  exact hg

set_option maxHeartbeats 8000000 in
set_option maxRecDepth 100000 in
theorem models_good (v1 : Int) (A1 : Option Addr) (c1 : Nat) (l1 : List (List Int)) (w : World) (hr1 : Kd.C (Kd.slice 3 (Kd.int .i64)) w A1 l1.length l1) (hc1 : l1.length ≤ c1) (hn : l1.length ≤ 5864062014805) (hs : ∀ c ∈ l1, c.length ≤ 17592186044416) (hf1 : isFormula v1 l1 = true) (hv : v1 ≤ 16) :
    Calls Try.prog 37 #[.agg #[.int .i64 v1, .slice A1 l1.length c1]] w fun e w' => ∃ (Bg : Nat) (A : Option Addr) (cap : Nat), e = .returned (.func (.func 72) #[] #[.pointer (some ⟨Bg, 0, none⟩)]) ∧ Src v1.toNat l1 Bg w.heap.size (fun k => w.heap.size ≤ k ∧ k < w'.heap.size) A cap w' ∧ w.heap.size ≤ Bg ∧ Bg < w'.heap.size ∧ Below w.heap.size w w' := by
  have HR1 := Aside0.mk hr1
  have F1 := fun W h => isFormula_calls v1 A1 c1 l1 W h hc1 (by omega) hs
  rw [hf1] at F1
  have HF1 := Aside0.mk F1
  have HC1 := Aside0.mk hc1
  have HN := Aside0.mk hn
  have HS := Aside0.mk hs
  have hgt : decide (v1 > 16) = false := decide_eq_false (by omega)
  have HV0 : Aside0 (0 ≤ v1) := ⟨by unfold isFormula at hf1; rw [Bool.and_eq_true, decide_eq_true_eq] at hf1; exact hf1.1.1⟩
  have hgt2 : decide (16 < v1) = false := hgt
  clear F1 hr1 hc1 hn hs hf1
  go_enter Try.func37, Try.ntmps37
  go_wp2_with fail
  have B0 : Below w.heap.size w (w.alloc (.cells #[.int .i64 v1, .slice A1 l1.length c1] 24 (0, 0))) := below_alloc (Below.refl _ _) _
  have k0 := blk_new w (.cells #[.int .i64 v1, .slice A1 l1.length c1] 24 (0, 0))
  generalize hW0 : w.alloc (.cells #[.int .i64 v1, .slice A1 l1.length c1] 24 (0, 0)) = W0 at B0 k0 ⊢
  clear hW0
  (with_reducible refine (HF1.out _ (Kd.C_below HR1.out B0)).mono ?_)
  rintro e W1 ⟨rfl, hb⟩
  have B1 := Aside0.mk (below_step B0 hb)
  have BK1 := Aside0.mk (blk_below k0 hb)
  clear B0 hb k0
  have f0 := (blk_cell BK1.out 0).trans rfl
  have f1 := (blk_cell BK1.out 1).trans rfl
  go_wp2_with fail
  have hkeep : ∀ W : World, W.heap[w.heap.size]? = some (.cells #[.int .i64 v1, .slice A1 l1.length c1] 24 (0, 0)) → W.cell? ⟨w.heap.size, 0, none⟩ = some (.int .i64 v1) ∧ W.cell? ⟨w.heap.size, 1, none⟩ = some (.slice A1 l1.length c1) := fun W h => ⟨(blk_cell h 0).trans rfl, (blk_cell h 1).trans rfl⟩
  have HK := Aside0.mk hkeep
  have HNE : Aside0 (w.heap.size ≠ W1.heap.size) := ⟨Nat.ne_of_lt (blk_lt BK1.out)⟩
  clear hkeep
  go_region_held3 (fun w' => w'.cell? ⟨w.heap.size, 0, none⟩ = some (.int .i64 v1) ∧ w'.cell? ⟨w.heap.size, 1, none⟩ = some (.slice A1 l1.length c1))
    (first | exact HK.out _ BK3.out | exact HK.out _ (blk_far (blk_far BK3.out HNE.out _) HNE.out _) | exact HK.out _ (blk_far BK3.out HNE.out _) | exact HK.out _ (blk_alloc BK3.out _) | exact HK.out _ BK1.out | exact HK.out _ (blk_drew BK1.out) | exact HK.out _ (blk_alloc (blk_drew BK1.out) _) | exact HK.out _ (blk_drew (blk_alloc BK1.out _)) | exact HK.out _ (blk_alloc BK1.out _))
    (first
    | (go_at_call 59; (with_reducible refine (laid_calls A1 c1 [] l1 (.slice none 0 0) (W1.alloc (.cells #[.int .i64 0, .slice none 0 0] 24 (0, 0))).drew (W1.alloc (.cells #[.int .i64 0, .slice none 0 0] 24 (0, 0))).drew (Kd.C_below HR1.out (below_drew (below_alloc B1.out _))) HC1.out (Below.refl _ _) (Kd.S_nil _ _ _ _ _) (by have := HN.out; simp; omega) HS.out).mono ?_); rintro e w3 ⟨v3, rfl, hs3, hb3⟩; have BK3 := Aside0.mk (blk_below (blk_drew (blk_alloc BK1.out _)) hb3); have bkg : w3.heap[W1.heap.size]? = some (.cells #[.int .i64 0, .slice none 0 0] 24 (0, 0)) := blk_below (blk_drew (blk_new W1 (.cells #[.int .i64 0, .slice none 0 0] 24 (0, 0)))) hb3; have kg0 := (blk_cell bkg 0).trans rfl; have kg1 := (blk_cell bkg 1).trans rfl; have yg0 := blk_frozen bkg 0; have yg1 := blk_frozen bkg 1; have BKG := Aside0.mk bkg; clear bkg; obtain ⟨Ao3, co3, eo3⟩ := Kd.S_slice hs3; subst eo3; have HS3 := Aside0.mk hs3; have HB3 := Aside0.mk hb3; clear hs3 hb3)
    | (go_at_call 59; (with_reducible refine (laid_calls A1 c1 [] l1 (.slice none 0 0) W1.drew W1.drew (Kd.C_below HR1.out (below_drew B1.out)) HC1.out (Below.refl _ _) (Kd.S_nil _ _ _ _ _) (by have := HN.out; simp; omega) HS.out).mono ?_); rintro e w3 ⟨v3, rfl, hs3, hb3⟩; have BK3 := Aside0.mk (blk_below (blk_drew BK1.out) hb3); obtain ⟨Ao3, co3, eo3⟩ := Kd.S_slice hs3; subst eo3; have HS3 := Aside0.mk hs3; have HB3 := Aside0.mk hb3; clear hs3 hb3))
  all_goals
    have hs3 := HS3.out
    rw [List.nil_append] at hs3
    go_wp2
    go_ret
    first
    | (refine ⟨w3.heap.size, Ao3, co3, rfl, src_of HV0.out (blk_new _ _) (Kd.S_alloc hs3 _) B1.out.size, ?_, by simp, below_alloc (below_step (below_drew B1.out) HB3.out) _⟩
       exact Nat.le_trans B1.out.size HB3.out.size)
    | (have b2 := blk_put BKG.out 0 (.int .i64 v1) rfl
       refine ⟨W1.heap.size, Ao3, co3, rfl, src_of HV0.out (blk_put b2 1 (.slice Ao3 l1.length co3) rfl) (Kd.S_set (Kd.S_set hs3 BKG.out (by decide) 0 _) b2 (by decide) 1 _) (Nat.le_trans B1.out.size (by simp)), B1.out.size, ?_, ?_⟩
       · exact blk_lt (blk_put b2 1 (.slice Ao3 l1.length co3) rfl)
       · exact ((below_step (below_drew (below_alloc B1.out _)) HB3.out).setCell (p := ⟨W1.heap.size, 0, none⟩) B1.out.size _).setCell (p := ⟨W1.heap.size, 1, none⟩) B1.out.size _)
end Go.Proofs.YtggnnnddnppcpaaHand
/-! text YtggnnnddnppcpaaRangeOwn -/
namespace Go.Proofs.YtggnnnddnppcpaaOwn
open Go Go.RowKit
set_option linter.unusedVariables false
variable {F : Fence} {n : Nat} {P : Program}

/-- from A to B: new blocks, and turns of blocks of M alone -/
structure Grow (M : Nat → Prop) (A B : World) : Prop where
  os : B.os = A.os
  tape : B.tape = A.tape
  output : B.output = A.output
  size : A.heap.size ≤ B.heap.size
  block : ∀ k, k < A.heap.size → ¬ M k → B.heap[k]? = A.heap[k]?
theorem Grow.refl (M : Nat → Prop) (A : World) : Grow M A A := ⟨rfl, rfl, rfl, Nat.le_refl _, fun _ _ _ => rfl⟩
theorem Grow.trans {M M' : Nat → Prop} {A B C : World} (h : Grow M A B) (k : Grow M' B C) (hM : ∀ k, M' k → M k ∨ A.heap.size ≤ k) : Grow M A C :=
  ⟨k.os.trans h.os, k.tape.trans h.tape, k.output.trans h.output, Nat.le_trans h.size k.size, fun i hi hn => (k.block i (Nat.lt_of_lt_of_le hi h.size) (fun e => by rcases hM i e with h | h; exact hn h; omega)).trans (h.block i hi hn)⟩
theorem Grow.mono {M M' : Nat → Prop} {A B : World} (h : Grow M A B) (hM : ∀ k, M k → M' k) : Grow M' A B := ⟨h.os, h.tape, h.output, h.size, fun k hk hn => h.block k hk (fun e => hn (hM k e))⟩
theorem Grow.of_grownBy {M : Nat → Prop} {A B : World} {row : Option Nat} (h : A.grownBy B row) (hr : ∀ r, row = some r → M r) : Grow M A B := ⟨h.os, h.tape, h.output, h.size, fun k hk hn => h.block k hk (fun e => hn (hr k e.symm))⟩
theorem Grow.of_below {M : Nat → Prop} {A B : World} (h : Below A.heap.size A B) : Grow M A B := ⟨h.os, h.tape, h.output, h.size, fun k hk _ => h.block k hk⟩
theorem Grow.put {M : Nat → Prop} {A : World} {l : Nat} (o : Obj) (h : M l) : Grow M A (A.putObj l o) := Grow.of_grownBy (grownBy_putObj' A l o) (fun r e => by cases e; exact h)
theorem Grow.below {M : Nat → Prop} {A B : World} {n₀ : Nat} (h : Grow M A B) (hn : n₀ ≤ A.heap.size) (hM : ∀ k, M k → n₀ ≤ k) : Below n₀ A B := ⟨h.os, h.tape, h.output, h.size, fun k hk => h.block k (Nat.lt_of_lt_of_le hk hn) (fun e => Nat.not_le_of_lt hk (hM k e))⟩
/-- M's blocks lie as they lay -/
def KeptD (M : Nat → Prop) (A B : World) : Prop := A.heap.size ≤ B.heap.size ∧ ∀ k o, M k → A.heap[k]? = some o → B.heap[k]? = some o
theorem KeptD.refl (M : Nat → Prop) (A : World) : KeptD M A A := ⟨Nat.le_refl _, fun _ _ _ h => h⟩
theorem KeptD.trans {M : Nat → Prop} {A B C : World} (h : KeptD M A B) (k : KeptD M B C) : KeptD M A C := ⟨Nat.le_trans h.1 k.1, fun i o hi ho => k.2 i o hi (h.2 i o hi ho)⟩
theorem KeptD.mono {M M' : Nat → Prop} {A B : World} (h : KeptD M A B) (hM : ∀ k, M' k → M k) : KeptD M' A B := ⟨h.1, fun k o hk ho => h.2 k o (hM k hk) ho⟩
theorem KeptD.of_below {M : Nat → Prop} {A B : World} (h : Below A.heap.size A B) : KeptD M A B := ⟨h.size, fun k o _ ho => (h.block k (Array.getElem?_eq_some_iff.1 ho).1).trans ho⟩
theorem KeptD.setCell {M : Nat → Prop} {A : World} {p : Addr} (h : ¬ M p.block) (u : Value) : KeptD M A (A.setCell p u) :=
  ⟨((Below.refl 0 A).setCell (p := p) (Nat.zero_le _) u).size, fun k o hk ho => (Below.heap_setCell A p u k (fun e => h (by rw [← e]; exact hk))).trans ho⟩
theorem KeptD.of_grownBy {M : Nat → Prop} {A B : World} {row : Option Nat} (h : A.grownBy B row) (hr : ∀ r, row = some r → ¬ M r) : KeptD M A B :=
  ⟨h.size, fun k o hk ho => (h.block k (Array.getElem?_eq_some_iff.1 ho).1 (fun e => hr k e.symm hk)).trans ho⟩
theorem KeptD.alloc {M : Nat → Prop} (A : World) (o : Obj) : KeptD M A (A.alloc o) := KeptD.of_grownBy (World.grownBy_alloc A o none) (fun r e => by cases e)
/-- M and what is new from A to B -/
def More (M : Nat → Prop) (A B : World) (M1 : Nat → Prop) : Prop := ∀ k, M1 k → M k ∨ (A.heap.size ≤ k ∧ k < B.heap.size)
theorem More.refl (M : Nat → Prop) (A B : World) : More M A B M := fun _ h => .inl h
/-- what a caller holds may go on, whatever the iterator lays and turns of its own -/
def OwnD {β : Type} (I : (Nat → Prop) → β → World → Prop) : Prop := ∀ M M1 s A B, I M s A → Grow M A B → More M A B M1 → I M1 s B
/-- the iterator's contract: Rd: the blocks that it reads and never turns -/
def SeqD {α : Type} (F : Fence) (n : Nat) (P : Program) (g : Nat) (lb : Array Value) (encs : α → Array Value) (Hd : World → (Nat → Prop) → α → World → Prop) (Rd : Nat → Prop) (S Sp : List α → Prop) (N : Nat) (w : World) : Prop :=
  ∀ (l : Nat) (J Jx : (Nat → Prop) → List α → World → Prop) (W : World), Below w.heap.size w W → OwnD J → OwnD Jx →
    (∀ M M1 pre x A W1, J M pre A → Grow M A W1 → More M A W1 M1 → (∀ k, M k → M1 k) → Hd A M1 x W1 → pre.length < N → YieldAt F (n - 1) P l (encs x) W1 fun e W' =>
      (e = .returned (.bool true) ∧ J M1 (pre ++ [x]) W' ∧ KeptD (fun k => M1 k ∨ Rd k) W1 W') ∨ (e = .returned (.bool false) ∧ Jx M1 (pre ++ [x]) W' ∧ KeptD (fun k => M1 k ∨ Rd k) W1 W')) →
    J (fun _ => False) [] W →
    CallsIn F n P g (#[.func (.yield l) #[] #[]] ++ lb) W fun e W' => (∃ v, e = .returned v) ∧ ∃ M, ((∃ xs, S xs ∧ J M xs W') ∨ (∃ pre, Sp pre ∧ Jx M pre W'))
/-- what a body has to show -/
def ownPostD {β : Type} (Rd M : Nat → Prop) (I : (Nat → Prop) → β → World → Prop) (Ix : Code → (Nat → Prop) → β → World → Prop) (s : β) (W : World) : Exit → Act → World → Prop
  | .normal, _, W' => KeptD (fun k => M k ∨ Rd k) W W' ∧ I M s W'
  | .ret, _, W' => KeptD (fun k => M k ∨ Rd k) W W' ∧ Ix .ret M s W'
  | .exit id, _, W' => KeptD (fun k => M k ∨ Rd k) W W' ∧ Ix (.exit id) M s W'
  | .goto t, _, W' => KeptD (fun k => M k ∨ Rd k) W W' ∧ Ix (.goto t) M s W'
  | _, _, _ => False
/-- a record's two blocks beside M -/
def With (B : Nat) (M : Nat → Prop) (k : Nat) : Prop := M k ∨ k = B ∨ k = B + 1

theorem wpIn_range_own {α : Type} {g : Operand} {ps : Array Tmp} {assign body : Code} {Q : Exit → Act → World → Prop} {a : Act} {w : World}
    (h1 : 1 ≤ n) {gf : Nat} {lb : Array Value} (hro : F.round = none) (hg : a.eval g = .func (.func gf) #[] lb) (hFg : F.fn gf) (eg : ∀ args w, (callFunc gf args).run P w = .ok (.enter gf args) w)
    {encs : α → Array Value} {Hd : World → (Nat → Prop) → α → World → Prop} {Rd : Nat → Prop} {S Sp : List α → Prop} {N : Nat} {w0 : World} (hseq : SeqD F (n - 1) P gf lb encs Hd Rd S Sp N w0)
    (hHd : ∀ A M M' x W W', Hd A M x W → (∀ k, M' k → M k ∨ k < A.heap.size) → (∀ k cs t z, A.heap.size ≤ k → W.heap[k]? = some (.cells cs t z) → W'.heap[k]? = some (.cells cs t z)) → Hd A M' x W')
    (hRd : ∀ k, Rd k → k < w0.heap.size) (hb0 : Below w0.heap.size w0 w) (hps : ∀ x, (encs x).size = ps.size)
    (I : (Nat → Prop) → List α → World → Prop) (Ix : Code → (Nat → Prop) → List α → World → Prop) (hI : OwnD I) (hIx : ∀ c, OwnD (Ix c)) (h0 : I (fun _ => False) [] w) (a₁ : α → Act)
    (hassign : ∀ (l : Nat) (x : α) (W : World) (K : Act → World → Prop), K (a₁ x) W →
      assign.wpIn (F.inRound l) (n - 1 - 1) P (Exit.then K (fun _ _ _ => False)) { tmps := (ps.zip (encs x)).foldl (fun t (p, v) => t.setIfInBounds p v) a.tmps, defers := [] } W)
    (hbody : ∀ (l : Nat) (M M1 : Nat → Prop) (pre : List α) (x : α) (A W : World), I M pre A → Grow M A W → More M A W M1 → (∀ k, M k → M1 k) → M w.heap.size → M (w.heap.size + 1) → w.heap.size + 2 ≤ A.heap.size → Hd A M1 x W → pre.length < N → body.wpIn (F.inRound l) (n - 1 - 1) P (ownPostD Rd M1 I Ix (pre ++ [x]) W) (a₁ x) W)
    (hdone : ∀ (M : Nat → Prop) (xs : List α) (W : World), M w.heap.size → S xs → I M xs W → W.heap[w.heap.size]? = some (.deferred (some [])) → Q .normal { a with defers := { target := .collected w.heap.size, args := #[] } :: a.defers } W)
    (hstop : ∀ (M : Nat → Prop) (c : Code) (pre : List α) (W : World), M w.heap.size → Sp pre → Ix c M pre W → W.heap[w.heap.size]? = some (.deferred (some [])) → c.wpIn F n P Q { a with defers := { target := .collected w.heap.size, args := #[] } :: a.defers } W) :
    (Code.rangeFunc g ps assign body).wpIn F n P Q a w := by
  refine wpIn_rangeFunc ?_
  intro fn hfn
  rw [hro]
  obtain ⟨rec, hrec⟩ : ∃ rec : LoopState → Option Code → Loop, rec = fun st pe => { state := st, pending := pe, fn, tmps := a.tmps, params := ps, assign, body, defers := w.heap.size } := ⟨_, rfl⟩
  obtain ⟨W1, hW1⟩ : ∃ W1, (w.alloc (.deferred (some []))).alloc (.loop (rec .ready none)) = W1 := ⟨_, rfl⟩
  have hz1 : W1.heap.size = w.heap.size + 2 := by rw [← hW1]; simp
  have hL1 : W1.heap[w.heap.size + 1]? = some (.loop (rec .ready none)) := by
    rw [← hW1]
    have := World.alloc_heap_new (w.alloc (.deferred (some []))) (.loop (rec .ready none))
    rwa [World.size_alloc] at this
  have hK1 : W1.heap[w.heap.size]? = some (.deferred (some [])) := by
    rw [← hW1]
    exact (Below.heap_alloc _ _ _ (by simp)).trans (World.alloc_heap_new w _)
  have hG1 : Below w.heap.size w W1 := by rw [← hW1]; exact ((Below.refl _ w).alloc (Nat.le_refl _) _).alloc (by simp) _
  have hb1 : Below w0.heap.size w0 W1 := hb0.trans (hG1.mono hb0.size)
  have hRlt : ∀ k, Rd k → k < w.heap.size := fun k hk => Nat.lt_of_lt_of_le (hRd k hk) hb0.size
  have hI1 : I (With w.heap.size (fun _ => False)) [] W1 := hI _ _ _ _ _ h0 (Grow.of_below hG1) (fun k hk => by rcases hk with h | h | h; exact .inl h; exact .inr (by omega); exact .inr (by omega))
  refine ⟨w.heap.size + 1, [{ target := .collected w.heap.size, args := #[] }], W1, { target := .fn (.func gf) lb, args := #[.func (.yield (w.heap.size + 1)) #[] #[]] }, W1, gf,
    #[.func (.yield (w.heap.size + 1)) #[] #[]] ++ lb, W1, ?_, ?_, ?_, ?_, fun _ => h1, ?_⟩
  · rw [← hW1, hrec]; exact run_enterLoop_outer _ _ _ _ _
  · simp only [resolve, hg]
    simp [go_sem]
  · intro f' hf'
    simp [Target.leads] at hf'
    subst hf'
    exact hFg
  · simp [invoke, go_sem, eg]
  · refine (hseq (w.heap.size + 1)
      (fun M pre W => I (With w.heap.size M) pre W ∧ W.heap[w.heap.size + 1]? = some (.loop (rec .ready none)) ∧ W.heap[w.heap.size]? = some (.deferred (some [])) ∧ ¬ M w.heap.size ∧ ¬ M (w.heap.size + 1))
      (fun M pre W => ∃ c, Ix c (With w.heap.size M) pre W ∧ W.heap[w.heap.size + 1]? = some (.loop (rec .done (some c))) ∧ W.heap[w.heap.size]? = some (.deferred (some [])) ∧ ¬ M w.heap.size ∧ ¬ M (w.heap.size + 1))
      W1 hb1 ?_ ?_ ?_ ⟨hI1, hL1, hK1, fun h => h, fun h => h⟩).mono ?_
    · rintro M M1 s A B ⟨hi, hl, hk, n1, n2⟩ hg' hm
      have l1 := (Array.getElem?_eq_some_iff.1 hl).1
      have l2 := (Array.getElem?_eq_some_iff.1 hk).1
      refine ⟨hI _ _ _ _ _ hi (hg'.mono fun k h => .inl h) (fun k h => ?_), (hg'.block _ l1 n2).trans hl, (hg'.block _ l2 n1).trans hk, fun h => ?_, fun h => ?_⟩
      · rcases h with h | h
        · rcases hm k h with h | h
          · exact .inl (.inl h)
          · exact .inr h
        · exact .inl (.inr h)
      · rcases hm _ h with h | h
        · exact n1 h
        · omega
      · rcases hm _ h with h | h
        · exact n2 h
        · omega
    · rintro M M1 s A B ⟨c, hi, hl, hk, n1, n2⟩ hg' hm
      have l1 := (Array.getElem?_eq_some_iff.1 hl).1
      have l2 := (Array.getElem?_eq_some_iff.1 hk).1
      refine ⟨c, hIx c _ _ _ _ _ hi (hg'.mono fun k h => .inl h) (fun k h => ?_), (hg'.block _ l1 n2).trans hl, (hg'.block _ l2 n1).trans hk, fun h => ?_, fun h => ?_⟩
      · rcases h with h | h
        · rcases hm k h with h | h
          · exact .inl (.inl h)
          · exact .inr h
        · exact .inl (.inr h)
      · rcases hm _ h with h | h
        · exact n1 h
        · omega
      · rcases hm _ h with h | h
        · exact n2 h
        · omega
    · rintro M M1 pre x A W ⟨hi, hlA, hkA, n1, n2⟩ hgr hm hsub hx hlen
      have l1 := (Array.getElem?_eq_some_iff.1 hlA).1
      have l2 := (Array.getElem?_eq_some_iff.1 hkA).1
      have hl := (hgr.block _ l1 n2).trans hlA
      have hk := (hgr.block _ l2 n1).trans hkA
      have m1 : ¬ M1 w.heap.size := fun h => by rcases hm _ h with h | h; exact n1 h; omega
      have m2 : ¬ M1 (w.heap.size + 1) := fun h => by rcases hm _ h with h | h; exact n2 h; omega
      have hlt : w.heap.size + 1 < W.heap.size := (Array.getElem?_eq_some_iff.1 hl).1
      have hy := run_yield (P := P) (args := encs x) hl (by rw [hrec]; exact hps x)
      rw [hrec] at hy
      refine ⟨fn, _, assign, body, hy, roundIn_of_wpIn hfn (hassign _ x W _ ⟨_, run_beginRound hl (by rw [hrec]), ?_⟩)⟩
      have hl2 : (W.putObj (w.heap.size + 1) (.loop { rec .ready none with state := .busy })).heap[w.heap.size + 1]? = some (.loop { rec .ready none with state := .busy }) := World.putObj_heap_same hlt
      have hk2 : (W.putObj (w.heap.size + 1) (.loop { rec .ready none with state := .busy })).heap[w.heap.size]? = some (.deferred (some [])) := (World.putObj_heap_other (by omega)).trans hk
      have hgp : Grow (With w.heap.size M) A (W.putObj (w.heap.size + 1) (.loop { rec .ready none with state := .busy })) := (hgr.mono fun k h => .inl h).trans (Grow.put (M := With w.heap.size M) _ (.inr (.inr rfl))) (fun k h => .inl h)
      have hmp : More (With w.heap.size M) A (W.putObj (w.heap.size + 1) (.loop { rec .ready none with state := .busy })) (With w.heap.size M1) := fun k h => by
        rcases h with h | h
        · rcases hm k h with h | h
          · exact .inl (.inl h)
          · exact .inr ⟨h.1, Nat.lt_of_lt_of_le h.2 (grownBy_putObj' W _ _).size⟩
        · exact .inl (.inr h)
      have hxp : Hd A (With w.heap.size M1) x (W.putObj (w.heap.size + 1) (.loop { rec .ready none with state := .busy })) := hHd _ _ _ _ _ _ hx
        (fun k h => by rcases h with h | h; exact .inl h; exact .inr (by omega))
        (fun k cs t z hkk hcs => (World.putObj_heap_other (fun e => by subst e; rw [hl] at hcs; cases hcs)).trans hcs)
      refine wpIn_mono (hbody _ (With w.heap.size M) (With w.heap.size M1) pre x A _ hi hgp hmp (fun k h => by rcases h with h | h; exact .inl (hsub k h); exact .inr h) (.inr (.inl rfl)) (.inr (.inr rfl)) (by omega) hxp hlen) ?_
      have fin : ∀ (jump : Option Code) (W3 : World), KeptD (fun k => With w.heap.size M1 k ∨ Rd k) (W.putObj (w.heap.size + 1) (.loop { rec .ready none with state := .busy })) W3 →
          (Instr.endRound (w.heap.size + 1) jump).run P W3 = .ok (.bool jump.isNone) (W3.putObj (w.heap.size + 1) (.loop (rec (if jump.isNone then .ready else .done) jump))) ∧
          W3.heap[w.heap.size + 1]? = some (.loop { rec .ready none with state := .busy }) ∧
          (W3.putObj (w.heap.size + 1) (.loop (rec (if jump.isNone then .ready else .done) jump))).heap[w.heap.size + 1]? = some (.loop (rec (if jump.isNone then .ready else .done) jump)) ∧
          (W3.putObj (w.heap.size + 1) (.loop (rec (if jump.isNone then .ready else .done) jump))).heap[w.heap.size]? = some (.deferred (some [])) := fun jump W3 hk3 => by
        have hl3 := hk3.2 _ _ (.inl (.inr (.inr rfl))) hl2
        have := run_endRound (P := P) jump hl3
        rw [hrec] at this ⊢
        exact ⟨this, by rw [hrec] at hl3; exact hl3, World.putObj_heap_same (Array.getElem?_eq_some_iff.1 hl3).1, (World.putObj_heap_other (by omega)).trans (hk3.2 _ _ (.inl (.inr (.inl rfl))) hk2)⟩
      have left : ∀ (c : Code) (W3 : World), KeptD (fun k => With w.heap.size M1 k ∨ Rd k) (W.putObj (w.heap.size + 1) (.loop { rec .ready none with state := .busy })) W3 → Ix c (With w.heap.size M1) (pre ++ [x]) W3 → _ := fun c W3 hk3 hi3 => by
        obtain ⟨hr, hl3, hl4, hk4⟩ := fin (some c) W3 hk3
        have mr : ¬ (M1 (w.heap.size + 1) ∨ Rd (w.heap.size + 1)) := fun h => h.elim m2 (fun h => by have := hRlt _ h; omega)
        exact (⟨_, _, hr, .inr ⟨rfl, ⟨c, hIx c _ _ _ _ _ hi3 (Grow.put _ (.inr (.inr rfl))) (More.refl _ _ _), hl4, hk4, m1, m2⟩, ((KeptD.of_grownBy (grownBy_putObj' W _ _) (fun r e => by cases e; exact mr)).trans (hk3.mono fun k h => h.elim (fun h => .inl (.inl h)) .inr)).trans (KeptD.of_grownBy (grownBy_putObj' W3 _ _) (fun r e => by cases e; exact mr))⟩⟩ : ∃ v W4, (Instr.endRound (w.heap.size + 1) (some c)).run P W3 = .ok v W4 ∧ ((Ending.returned v = .returned (.bool true) ∧ (I (With w.heap.size M1) (pre ++ [x]) W4 ∧ W4.heap[w.heap.size + 1]? = some (.loop (rec .ready none)) ∧ W4.heap[w.heap.size]? = some (.deferred (some [])) ∧ ¬ M1 w.heap.size ∧ ¬ M1 (w.heap.size + 1)) ∧ KeptD (fun k => M1 k ∨ Rd k) W W4) ∨ (Ending.returned v = .returned (.bool false) ∧ (∃ c, Ix c (With w.heap.size M1) (pre ++ [x]) W4 ∧ W4.heap[w.heap.size + 1]? = some (.loop (rec .done (some c))) ∧ W4.heap[w.heap.size]? = some (.deferred (some [])) ∧ ¬ M1 w.heap.size ∧ ¬ M1 (w.heap.size + 1)) ∧ KeptD (fun k => M1 k ∨ Rd k) W W4)))
      rintro e a3 W3 hp
      cases e with
      | normal =>
        obtain ⟨hk3, hi3⟩ := hp
        obtain ⟨hr, hl3, hl4, hk4⟩ := fin none W3 hk3
        refine ⟨_, _, hr, .inl ⟨rfl, ⟨hI _ _ _ _ _ hi3 (Grow.put _ (.inr (.inr rfl))) (More.refl _ _ _), hl4, hk4, m1, m2⟩, ?_⟩⟩
        have mr : ¬ (M1 (w.heap.size + 1) ∨ Rd (w.heap.size + 1)) := fun h => h.elim m2 (fun h => by have := hRlt _ h; omega)
        refine ((KeptD.of_grownBy (grownBy_putObj' W _ _) (fun r e => by cases e; exact mr)).trans (hk3.mono fun k h => h.elim (fun h => .inl (.inl h)) .inr)).trans (KeptD.of_grownBy (grownBy_putObj' W3 _ _) (fun r e => by cases e; exact mr))
      | ret => exact left .ret W3 hp.1 hp.2
      | exit id => exact left (.exit id) W3 hp.1 hp.2
      | goto t => exact left (.goto t) W3 hp.1 hp.2
      | panic ch => exact hp.elim
      | outgrown => exact hp.elim
    · rintro e W2 ⟨⟨v, rfl⟩, M, (⟨xs, hS, hi, hl, hk, n1, n2⟩ | ⟨pre, hSp, c, hi, hl, hk, n1, n2⟩)⟩
      · exact ⟨none, _, by have := run_endLoop (P := P) hl (by rw [hrec]; simp); rw [hrec] at this; exact this, hdone _ xs _ (.inr (.inl rfl)) hS (hI _ _ _ _ _ hi (Grow.put _ (.inr (.inr rfl))) (More.refl _ _ _)) ((World.putObj_heap_other (by omega)).trans hk)⟩
      · exact ⟨some c, _, by have := run_endLoop (P := P) hl (by rw [hrec]; simp); rw [hrec] at this; exact this, hstop _ c pre _ (.inr (.inl rfl)) hSp (hIx c _ _ _ _ _ hi (Grow.put _ (.inr (.inr rfl))) (More.refl _ _ _)) ((World.putObj_heap_other (by omega)).trans hk)⟩
end Go.Proofs.YtggnnnddnppcpaaOwn
