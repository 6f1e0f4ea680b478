/- What lits.Resolvents' iterator holds between two rounds. -/
import Derived.Test.YtamefocngapkpaaClLitsMeetsi
import Derived.OrdersIn
import Derived.OrdersHeld
import Derived.RangeFuncCalls
/-! text YtamefocngapkpaaResolvents0 -/
namespace Go.Proofs.YtamefocngapkpaaHand
open Go.RowKit Go.Sort Go.Lib Go.Shelf Go.Proofs.YtamefocngapkpaaW.PrintWords Go.Proofs.YtamefocngapkpaaW.PrintLast Go.Proofs.YtamefocngapkpaaMath Go.Proofs.YtamefocngapkpaaOwn
attribute [local go_sem] Oper.semAt_some
set_option linter.unusedVariables false
set_option linter.unusedSimpArgs false

/-- what is handed out: a row of its own, new since A, none of the iterator's -/
def HandI (A : World) (M : Nat → Prop) (p : Int × Value × List Int) (W : World) : Prop := OwnInts W A.heap.size p.2.1 p.2.2 ∧ (∀ k, p.2.1.ownBlock = some k → ¬ M k) ∧ (∀ z ∈ p.2.2, formed z = true) ∧ p.2.2.length ≤ 2097152
theorem HandI.move (A : World) (M M' : Nat → Prop) (p : Int × Value × List Int) (W W' : World) (h : HandI A M p W) (hM : ∀ k, M' k → M k ∨ k < A.heap.size) (hW : ∀ k cs t z, A.heap.size ≤ k → W.heap[k]? = some (.cells cs t z) → W'.heap[k]? = some (.cells cs t z)) : HandI A M' p W' := by
  obtain ⟨h1, h2, h3⟩ := h
  have hb : ∀ k, p.2.1.ownBlock = some k → A.heap.size ≤ k ∧ W'.heap[k]? = W.heap[k]? := fun k hk => by
    rcases h1.2 with ⟨e, _⟩ | ⟨g, cap, cur, e, hg, hc, _⟩
    · rw [e] at hk; simp [Value.ownBlock] at hk
    · rw [e] at hk
      simp [Value.ownBlock] at hk
      subst hk
      exact ⟨hg, (hW g _ _ _ hg hc).trans hc.symm⟩
  refine ⟨own_move h1 fun k hk => (hb k hk).2, fun k hk h4 => ?_, h3⟩
  rcases hM k h4 with h5 | h5
  · exact h2 k hk h5
  · have := (hb k hk).1
    omega
theorem on_good (p q : List Int) (v : Int) : (∀ z ∈ onOf p q v, formed z = true) ∧ (onOf p q v).length ≤ 2097152 := ⟨fun _ h => tidyOf_formed h, formed_count (onOf p q v) (rising_tidyOf _) (fun _ h => tidyOf_formed h)⟩
/-- two boxes with two tidy lists -/
structure Two (x y : List Int) (Bx By gx cx gy cy base : Nat) (W : World) : Prop where
  hx : W.heap[Bx]? = some (.cells #[.slice (some ⟨gx, 0, none⟩) x.length cx] 26 (0, 0))
  hy : W.heap[By]? = some (.cells #[.slice (some ⟨gy, 0, none⟩) y.length cy] 26 (0, 0))
  ox : OwnInts W base (.slice (some ⟨gx, 0, none⟩) x.length cx) x
  oy : OwnInts W base (.slice (some ⟨gy, 0, none⟩) y.length cy) y
theorem Two.move {x y : List Int} {Bx By gx cx gy cy base : Nat} {W W' : World} (h : Two x y Bx By gx cx gy cy base W) (k : ∀ k, (k = Bx ∨ k = By ∨ k = gx ∨ k = gy) → W'.heap[k]? = W.heap[k]?) : Two x y Bx By gx cx gy cy base W' :=
  ⟨(k Bx (by simp)).trans h.hx, (k By (by simp)).trans h.hy, own_move h.ox (fun j hj => k j (by simp [Value.ownBlock] at hj; simp [hj])), own_move h.oy (fun j hj => k j (by simp [Value.ownBlock] at hj; simp [hj]))⟩
theorem Two.lt {x y : List Int} {Bx By gx cx gy cy base : Nat} {W : World} (h : Two x y Bx By gx cx gy cy base W) : ∀ k, (k = Bx ∨ k = By ∨ k = gx ∨ k = gy) → k < W.heap.size := four_lt h.hx h.hy h.ox h.oy
theorem Two.below {x y : List Int} {Bx By gx cx gy cy base : Nat} {W W' : World} (h : Two x y Bx By gx cx gy cy base W) (k : Below W.heap.size W W') : Two x y Bx By gx cx gy cy base W' := h.move fun j hj => k.block j (h.lt j hj)

/-- what the iterator holds: the two lists; its box with yield; what is left of the back's pivots -/
structure RV (l : Nat) (x y : List Int) (b0 bb Bx By gx cx gy cy base gb : Nat) (bk : List Int) (W : World) : Prop where
  two : Two x y Bx By gx cx gy cy base W
  hb0 : W.heap[b0]? = some (.cells #[.func (.yield l) #[] #[]] 65 (0, 0))
  hg : gb < W.heap.size
  hbb : ∃ A c, W.heap[bb]? = some (.cells #[.slice A bk.length c] 26 (0, 0)) ∧ bk.length ≤ c ∧ ∀ W' : World, W'.heap[gb]? = W.heap[gb]? → Kd.C (Kd.int .i64) W' A bk.length bk
def RIt (b0 bb Bx By gx gy gb k : Nat) : Prop := k = b0 ∨ k = bb ∨ k = gb ∨ k = Bx ∨ k = By ∨ k = gx ∨ k = gy
section
variable {l : Nat} {x y : List Int} {b0 bb Bx By gx cx gy cy base gb : Nat} {bk : List Int} {W W' : World}
theorem RV.lt (h : RV l x y b0 bb Bx By gx cx gy cy base gb bk W) {k : Nat} (hk : RIt b0 bb Bx By gx gy gb k) : k < W.heap.size := by
  obtain ⟨A, c, hb, _⟩ := h.hbb
  rcases hk with rfl | rfl | rfl | hk
  · exact blk_lt h.hb0
  · exact blk_lt hb
  · exact h.hg
  · exact h.two.lt k hk
theorem RV.move (h : RV l x y b0 bb Bx By gx cx gy cy base gb bk W) (k : ∀ k, RIt b0 bb Bx By gx gy gb k → W'.heap[k]? = W.heap[k]?) : RV l x y b0 bb Bx By gx cx gy cy base gb bk W' := by
  obtain ⟨A, c, hb, hc, hC⟩ := h.hbb
  refine ⟨h.two.move fun j hj => k j (.inr (.inr (.inr hj))), (k b0 (.inl rfl)).trans h.hb0, ?_, A, c, (k bb (.inr (.inl rfl))).trans hb, hc, fun W2 h2 => hC W2 (h2.trans (k gb (.inr (.inr (.inl rfl)))))⟩
  have e := k gb (.inr (.inr (.inl rfl)))
  rw [Array.getElem?_eq_getElem h.hg] at e
  exact blk_lt e
theorem RV.below (h : RV l x y b0 bb Bx By gx cx gy cy base gb bk W) (k : Below W.heap.size W W') : RV l x y b0 bb Bx By gx cx gy cy base gb bk W' := h.move fun j hj => k.block j (h.lt hj)
theorem RV.kept {M : Nat → Prop} (h : RV l x y b0 bb Bx By gx cx gy cy base gb bk W) (k : KeptD M W W') (hM : ∀ k, RIt b0 bb Bx By gx gy gb k → M k) : RV l x y b0 bb Bx By gx cx gy cy base gb bk W' := h.move fun j hj => by
  have hl := h.lt hj
  rw [Array.getElem?_eq_getElem hl]
  exact k.2 j _ (hM j hj) (Array.getElem?_eq_getElem hl)
/-- the back's next pivot is told -/
theorem RV.next {b : Int} {A : Option Addr} {c : Nat} (h : RV l x y b0 bb Bx By gx cx gy cy base gb (b :: bk) W) (hb : W.heap[bb]? = some (.cells #[.slice A (bk.length + 1) c] 26 (0, 0))) (hne : bb ≠ b0 ∧ bb ≠ gb ∧ bb ≠ Bx ∧ bb ≠ By ∧ bb ≠ gx ∧ bb ≠ gy) :
    RV l x y b0 bb Bx By gx cx gy cy base gb bk (W.setCell ⟨bb, 0, none⟩ (.slice (if c = 1 then A else A.map (·.add 1)) bk.length (c - 1))) := by
  obtain ⟨A', c', hb', hc, hC⟩ := h.hbb
  rw [hb] at hb'
  simp only [List.length_cons, Option.some.injEq, Obj.cells.injEq, Array.mk.injEq, List.cons.injEq, Value.slice.injEq, and_true, true_and] at hb'
  obtain ⟨rfl, rfl⟩ := hb'
  obtain ⟨n1, n2, n3, n4, n5, n6⟩ := hne
  have far : ∀ j, j ≠ bb → (W.setCell ⟨bb, 0, none⟩ (.slice (if c = 1 then A else A.map (·.add 1)) bk.length (c - 1))).heap[j]? = W.heap[j]? := fun j hj => Below.heap_setCell W ⟨bb, 0, none⟩ _ j hj
  refine ⟨h.two.move fun j hj => far j (by rintro rfl; rcases hj with h | h | h | h <;> contradiction), (far b0 (fun e => n1 e.symm)).trans h.hb0, ?_, _, _, blk_put hb 0 _ rfl, ?_, ?_⟩
  · exact Nat.lt_of_lt_of_le h.hg ((Below.refl 0 W).setCell (p := ⟨bb, 0, none⟩) (Nat.zero_le _) _).size
  · simp only [List.length_cons] at hc
    omega
  · intro W2 h2
    have h3 := hC W2 (h2.trans (far gb (fun e => n2 e.symm)))
    have h4 := Kd.C_drop (k := Kd.int .i64) (m := 1) h3 (by simp) hc
    rw [show 1 * (Kd.int .i64).sz = 1 from rfl] at h4
    simpa using h4
end
/-- a list that a call has made, as the back's pivots -/
theorem own_back {W : World} {b1 z : Nat} {v : Value} {xs : List Int} (h : OwnInts W b1 v xs) (hz : z < W.heap.size) (hzb : z ≤ b1) : ∃ A c gb, v = .slice A xs.length c ∧ xs.length ≤ c ∧ gb < W.heap.size ∧ (gb = z ∨ b1 ≤ gb ∧ some gb = v.ownBlock) ∧ ∀ W' : World, W'.heap[gb]? = W.heap[gb]? → Kd.C (Kd.int .i64) W' A xs.length xs := by
  obtain ⟨A, c, rfl⟩ := Kd.R_slice (own_R h)
  have hle := (Kd.R_reads' (own_R h)).2.1
  rcases h.2 with ⟨e, h0⟩ | ⟨g, cap, cur, e, hbg, hgb, _⟩
  · have hx : xs = [] := by cases xs with | nil => rfl | cons a r => simp at h0
    subst hx
    injection e with e1 _ e2
    subst e1
    subst e2
    exact ⟨none, 0, z, rfl, Nat.le_refl _, hz, .inl rfl, fun W' _ => Kd.C_nil _ _⟩
  · injection e with e1 _ e2
    subst e1
    subst e2
    refine ⟨some ⟨g, 0, none⟩, _, g, rfl, hle, blk_lt hgb, .inr ⟨hbg, rfl⟩, fun W' hW => ?_⟩
    exact (Kd.R_reads' (own_R (own_move h (fun j hj => by simp [Value.ownBlock] at hj; rw [← hj]; exact hW)))).2.2
theorem R_own {W : World} {base : Nat} {v : Value} {xs : List Int} (h : Kd.R (Kd.int .i64) 3 W base (fun _ => True) v xs) : OwnInts W base v xs := by
  obtain ⟨_, cs, ho, hl, hr⟩ := h
  have e : cs = nums .i64 xs := by
    refine List.ext_getElem? fun j => ?_
    rcases Nat.lt_or_ge j xs.length with hj | hj
    · have := hr j xs[j] (List.getElem?_eq_getElem hj)
      have h2 : (cs.drop (j * 1)).take 1 = [Value.int .i64 xs[j]] := this
      rw [Nat.mul_one] at h2
      have h3 := congrArg (fun l => l[0]?) h2
      simp only [List.getElem?_take, List.getElem?_drop] at h3
      simp at h3
      rw [h3]
      simp [nums, List.getElem?_eq_getElem hj]
    · have hl2 : cs.length = xs.length := by rw [hl]; exact Nat.mul_one _
      rw [List.getElem?_eq_none (by omega), List.getElem?_eq_none (by simp [nums]; omega)]
  rw [e] at ho
  exact ho

theorem roundIn_wide {l : Nat} {n m : Nat} {P : Program} {li : Nat} {f : FuncId} {tmps : Array Value} {assign body : Code} {w : World} {R : Ending → World → Prop} (h : RoundIn Fence.wide n P l f tmps assign body w R) : RoundIn (Fence.wide.inRound li) m P l f tmps assign body w R :=
  ⟨h.1, fun c cs _ => h.2 c cs (room_wide _)⟩
theorem roundIn_wide0 {l : Nat} {n m : Nat} {P : Program} {f : FuncId} {tmps : Array Value} {assign body : Code} {w : World} {R : Ending → World → Prop} (h : RoundIn Fence.wide n P l f tmps assign body w R) : RoundIn Fence.wide m P l f tmps assign body w R :=
  ⟨h.1, fun c cs _ => h.2 c cs (room_wide _)⟩

/-- the round's answer as one truth -/
theorem round_bool {l n : Nat} {P : Program} {li : Nat} {f : FuncId} {tmps : Array Value} {assign body : Code} {w : World} {p q : World → Prop} (h : RoundIn Fence.wide n P l f tmps assign body w fun e W' => (e = .returned (.bool true) ∧ p W') ∨ (e = .returned (.bool false) ∧ q W')) (m : Nat) :
    RoundIn (Fence.wide.inRound li) m P l f tmps assign body w fun e W' => ∃ b : Bool, e = .returned (.bool b) ∧ Aside0 ((b = true ∧ p W') ∨ (b = false ∧ q W')) := (roundIn_wide h).mono fun e W' hh => by
  rcases hh with ⟨rfl, h⟩ | ⟨rfl, h⟩
  · exact ⟨true, rfl, ⟨.inl ⟨rfl, h⟩⟩⟩
  · exact ⟨false, rfl, ⟨.inr ⟨rfl, h⟩⟩⟩

/-- how many of the back's pivots are left, read off the world -/
def backLen (bb : Nat) (W : World) : Nat := match W.heap[bb]? with
  | some (.cells cs _ _) => (match cs.toList with | [.slice _ n _] => n | _ => 0)
  | _ => 0
theorem backLen_eq {bb n c t : Nat} {A : Option Addr} {W : World} (h : W.heap[bb]? = some (.cells #[.slice A n c] t (0, 0))) : backLen bb W = n := by
  unfold backLen
  rw [h]

/-- what is told so far, with the caller's own -/
structure RJ (J : (Nat → Prop) → List (Int × Value × List Int) → World → Prop) (l : Nat) (x y : List Int) (b0 bb Bx By gx cx gy cy base gb Ba Bb : Nat) (Mi Mo : Nat → Prop) (es : List (Int × Value × List Int)) (told : List (Int × List Int)) (bk : List Int) (W : World) : Prop where
  hj : J Mo es W
  he : es.map (fun p => (p.1, p.2.2)) = told
  hv : RV l x y b0 bb Bx By gx cx gy cy base gb bk W
  hi : ∀ k, Mi k → Mo k
  hn : ∀ k, RIt b0 bb Bx By gx gy gb k → ¬ Mi k
  hm : ∀ k, (k = b0 ∨ k = bb ∨ k = gb ∨ k = Ba ∨ k = Bb) → Mo k
  hs : ∀ k, Mo k → k < W.heap.size
def RI (J : (Nat → Prop) → List (Int × Value × List Int) → World → Prop) (l : Nat) (x y : List Int) (b0 bb Bx By gx cx gy cy base gb Ba Bb : Nat) (Mi : Nat → Prop) (pre : List Int) (W : World) : Prop :=
  ∃ Mo es, RJ J l x y b0 bb Bx By gx cx gy cy base gb Ba Bb Mi Mo es (wrun x y (pivOf y x) pre).1 (wrun x y (pivOf y x) pre).2 W
def RX (Jx : (Nat → Prop) → List (Int × Value × List Int) → World → Prop) (x y : List Int) (c : Code) (Mi : Nat → Prop) (pre : List Int) (W : World) : Prop :=
  c = .ret ∧ ∃ Mo es, Jx Mo es W ∧ es.map (fun p => (p.1, p.2.2)) <+: (wrun x y (pivOf y x) pre).1 ∧ (∀ k, Mi k → Mo k)
section
variable {J Jx : (Nat → Prop) → List (Int × Value × List Int) → World → Prop} {l : Nat} {x y : List Int} {b0 bb Bx By gx cx gy cy base gb Ba Bb : Nat} {Mi Mo : Nat → Prop} {es : List (Int × Value × List Int)} {told : List (Int × List Int)} {bk : List Int} {A B W : World}
theorem RJ.step (h : RJ J l x y b0 bb Bx By gx cx gy cy base gb Ba Bb Mi Mo es told bk A) (hJ : OwnD J) (hg : Grow Mi A B) {M1 : Nat → Prop} (hm : More Mi A B M1) : RJ J l x y b0 bb Bx By gx cx gy cy base gb Ba Bb M1 (fun k => Mo k ∨ (A.heap.size ≤ k ∧ k < B.heap.size)) es told bk B where
  hj := hJ _ _ _ _ _ h.hj (hg.mono h.hi) (fun k hk => hk)
  he := h.he
  hv := h.hv.move fun k hk => hg.block k (h.hv.lt hk) (h.hn k hk)
  hi := fun k hk => (hm k hk).imp (h.hi k) id
  hn := fun k hk h1 => by
    rcases hm k h1 with h2 | h2
    · exact h.hn k hk h2
    · have := h.hv.lt hk
      omega
  hm := fun k hk => .inl (h.hm k hk)
  hs := fun k hk => by
    rcases hk with hk | hk
    · exact Nat.lt_of_lt_of_le (h.hs k hk) hg.size
    · exact hk.2
theorem RI.own (hJ : OwnD J) : OwnD (RI J l x y b0 bb Bx By gx cx gy cy base gb Ba Bb) := fun M M1 s A B ⟨Mo, es, h⟩ hg hm => ⟨_, es, h.step hJ hg hm⟩
theorem RX.own (hJx : OwnD Jx) (c : Code) : OwnD (RX Jx x y c) := fun M M1 s A B ⟨hc, Mo, es, h, hp, hi⟩ hg hm => ⟨hc, (fun k => Mo k ∨ (A.heap.size ≤ k ∧ k < B.heap.size)), es, hJx _ _ _ _ _ h (hg.mono hi) (fun k hk => hk), hp, fun k hk => (hm k hk).imp (hi k) id⟩
theorem RJ.yield (h : RJ J l x y b0 bb Bx By gx cx gy cy base gb Ba Bb Mi Mo es told bk A) (hb : Below A.heap.size A B) {u : Value} {row : List Int} (v : Int) (ho : OwnInts B A.heap.size u row) (hrow : (∀ z ∈ row, formed z = true) ∧ row.length ≤ 2097152) :
    ∃ M1, Grow Mo A B ∧ More Mo A B M1 ∧ (∀ k, Mo k → M1 k) ∧ HandI A M1 (v, u, row) B ∧ (∀ k, Mi k → M1 k) ∧ ∀ W6, KeptD (fun k => M1 k ∨ (k = Bx ∨ k = By ∨ k = gx ∨ k = gy)) B W6 →
      (∀ k, RIt b0 bb Bx By gx gy gb k → W6.heap[k]? = A.heap[k]?) ∧ KeptD (fun k => Mi k ∨ (k = Ba ∨ k = Bb ∨ k = gx ∨ k = gy)) A W6 ∧ (J M1 (es ++ [(v, u, row)]) W6 → RJ J l x y b0 bb Bx By gx cx gy cy base gb Ba Bb Mi M1 (es ++ [(v, u, row)]) (told ++ [(v, row)]) bk W6) := by
  refine ⟨fun k => Mo k ∨ (A.heap.size ≤ k ∧ k < B.heap.size ∧ u.ownBlock ≠ some k), Grow.of_below hb, fun k hk => hk.imp id (fun h => ⟨h.1, h.2.1⟩), fun k hk => .inl hk, ⟨ho, fun k hk h1 => ?_, hrow⟩, fun k hk => .inl (h.hi k hk), fun W6 hk => ?_⟩
  · rcases h1 with h1 | h1
    · have h2 := h.hs k h1
      rcases ho.2 with ⟨e, _⟩ | ⟨g, cap, cur, e, hg, _⟩
      · rw [e] at hk; simp [Value.ownBlock] at hk
      · rw [e] at hk
        simp [Value.ownBlock] at hk
        omega
    · exact h1.2.2 hk
  · have h6 : ∀ k, RIt b0 bb Bx By gx gy gb k → W6.heap[k]? = A.heap[k]? := fun k hr => by
      have hl := h.hv.lt hr
      rw [Array.getElem?_eq_getElem hl]
      refine hk.2 k _ ?_ ((hb.block k hl).trans (Array.getElem?_eq_getElem hl))
      rcases hr with rfl | rfl | rfl | hr
      · exact .inl (.inl (h.hm _ (by simp)))
      · exact .inl (.inl (h.hm _ (by simp)))
      · exact .inl (.inl (h.hm _ (by simp)))
      · exact .inr hr
    refine ⟨h6, ?_, fun hj => ⟨hj, by simp [h.he], h.hv.move h6, fun k hk => .inl (h.hi k hk), h.hn, fun k hk => .inl (h.hm k hk), fun k h1 => ?_⟩⟩
    · refine (KeptD.of_below hb).trans (hk.mono fun k h1 => ?_)
      rcases h1 with h1 | rfl | rfl | rfl | rfl
      · exact .inl (.inl (h.hi k h1))
      · exact .inl (.inl (h.hm _ (by simp)))
      · exact .inl (.inl (h.hm _ (by simp)))
      · exact .inr (by simp)
      · exact .inr (by simp)
    · have := hb.size
      have := hk.1
      rcases h1 with h1 | h1
      · have := h.hs k h1; omega
      · omega
theorem RJ.next {b : Int} (h : RJ J l x y b0 bb Bx By gx cx gy cy base gb Ba Bb Mi Mo es told (b :: bk) W) (hJ : OwnD J) {Ad : Option Addr} {c : Nat} (hb : W.heap[bb]? = some (.cells #[.slice Ad (bk.length + 1) c] 26 (0, 0))) (hne : bb ≠ b0 ∧ bb ≠ gb ∧ bb ≠ Bx ∧ bb ≠ By ∧ bb ≠ gx ∧ bb ≠ gy) :
    RJ J l x y b0 bb Bx By gx cx gy cy base gb Ba Bb Mi Mo es told bk (W.setCell ⟨bb, 0, none⟩ (.slice (if c = 1 then Ad else Ad.map (·.add 1)) bk.length (c - 1))) where
  hj := hJ _ _ _ _ _ h.hj (Grow.of_grownBy (grownBy_setCell' W bb _) (fun r e => by cases e; exact h.hm _ (by simp))) (More.refl _ _ _)
  he := h.he
  hv := h.hv.next hb hne
  hi := h.hi
  hn := h.hn
  hm := h.hm
  hs := fun k hk => Nat.lt_of_lt_of_le (h.hs k hk) ((Below.refl 0 W).setCell (p := ⟨bb, 0, none⟩) (Nat.zero_le _) _).size
end
theorem on_any (p q : List Int) (gp cp gq cq base : Nat) (v : Int) (wr W' : World) {Bp Bq : Nat} (h : Two p q Bp Bq gp cp gq cq base wr) (hb : Below wr.heap.size wr W') (hlp : p.length ≤ 2097152) (hlq : q.length ≤ 2097152) (hv : -9223372036854775807 ≤ v ∧ v ≤ 9223372036854775807) :
    Calls Try.prog 69 #[.slice (some ⟨gp, 0, none⟩) p.length cp, .slice (some ⟨gq, 0, none⟩) q.length cq, .int .i64 v] W' fun e w' => ∃ u : Value, e = .returned u ∧ OwnInts w' wr.heap.size u (onOf p q v) ∧ Below wr.heap.size wr w' := by
  have h2 := h.below hb
  have r1 := Kd.R_reads' (own_R h2.ox)
  have r2 := Kd.R_reads' (own_R h2.oy)
  refine (on_calls (some ⟨gp, 0, none⟩) (some ⟨gq, 0, none⟩) cp cq p q v W' r1.2.2 r1.2.1 r2.2.2 r2.2.1 (by omega) (by omega) hv).mono ?_
  rintro e w' ⟨u, he, hR, hb2⟩
  exact ⟨u, he, own_weaken (R_own hR) hb.size, below_step hb hb2⟩
section
variable {J Jx : (Nat → Prop) → List (Int × Value × List Int) → World → Prop} {l : Nat} {x y : List Int} {b0 bb Bx By gx cx gy cy base gb Ba Bb : Nat} {Mi Mo : Nat → Prop} {es : List (Int × Value × List Int)} {pre d r : List Int} {v : Int} {A B W : World}
theorem RJ.done (h : RJ J l x y b0 bb Bx By gx cx gy cy base gb Ba Bb Mi Mo es ((wrun x y (pivOf y x) pre).1 ++ d.map (bk1 x y) ++ [(v, onOf x y v)]) r W) (hs : (wrun x y (pivOf y x) pre).2 = d ++ r ∧ ∀ b ∈ d, b < v) (hr : ∀ b r', r = b :: r' → ¬ b < v) :
    RI J l x y b0 bb Bx By gx cx gy cy base gb Ba Bb Mi (pre ++ [v]) W := by
  refine ⟨Mo, es, ?_⟩
  rw [wrun_snoc, wst_end hs.1 hs.2 hr]
  exact h
theorem RJ.left (h : RJ J l x y b0 bb Bx By gx cx gy cy base gb Ba Bb Mi Mo es ((wrun x y (pivOf y x) pre).1 ++ d.map (bk1 x y)) r A) (hs : (wrun x y (pivOf y x) pre).2 = d ++ r ∧ ∀ b ∈ d, b < v) (hr : ∀ b r', r = b :: r' → ¬ b < v) {M2 : Nat → Prop} {u : Value} (hx : Jx M2 (es ++ [(v, u, onOf x y v)]) W) (hi : ∀ k, Mi k → M2 k) :
    RX Jx x y .ret Mi (pre ++ [v]) W := by
  refine ⟨rfl, M2, _, hx, ?_, hi⟩
  rw [wrun_snoc, wst_end hs.1 hs.2 hr]
  simp [h.he]
theorem RJ.left2 {b : Int} (h : RJ J l x y b0 bb Bx By gx cx gy cy base gb Ba Bb Mi Mo es ((wrun x y (pivOf y x) pre).1 ++ d.map (bk1 x y)) (b :: r) A) (hs : (wrun x y (pivOf y x) pre).2 = d ++ b :: r ∧ ∀ b ∈ d, b < v) (hb : b < v) {M2 : Nat → Prop} {u : Value} (hx : Jx M2 (es ++ [(b, u, onOf y x b)]) W) (hi : ∀ k, Mi k → M2 k) :
    RX Jx x y .ret Mi (pre ++ [v]) W := by
  refine ⟨rfl, M2, _, hx, ?_, hi⟩
  rw [wrun_snoc]
  obtain ⟨t, ht⟩ := wst_mid (x := x) (y := y) (v := v) (d := d ++ [b]) (r := r) (by rw [hs.1, List.append_assoc]; rfl) (fun c hc => by
    rcases List.mem_append.1 hc with hc | hc
    · exact hs.2 c hc
    · rw [List.mem_singleton] at hc; subst hc; exact hb)
  rw [ht]
  refine ⟨t, ?_⟩
  simp [h.he, bk1]
theorem RJ.few (h : RJ J l x y b0 bb Bx By gx cx gy cy base gb Ba Bb Mi Mo es ((wrun x y (pivOf y x) pre).1 ++ d.map (bk1 x y)) r A) (hs : (wrun x y (pivOf y x) pre).2 = d ++ r) (hx : x.length ≤ 2097152) (hy : y.length ≤ 2097152) (hp : pre.length < x.length) : es.length < 4194304 := by
  have h1 := congrArg List.length h.he
  have h2 := wrun_len x y (pivOf y x) pre ([], pivOf y x)
  have h3 := congrArg List.length hs
  have h4 := pivOf_length y x
  unfold wrun at h1 h3
  simp only [List.length_map, List.length_append, List.length_nil] at h1 h2 h3
  omega
end
end Go.Proofs.YtamefocngapkpaaHand
/-! text YtamefocngapkpaaRegionD -/
namespace Go.Proofs.YtamefocngapkpaaOwn
open Go
set_option linter.unusedVariables false
section
variable {F : Fence} {n : Nat} {P : Program} {ops : Array Oper} {Q : Exit → Act → World → Prop} {md : Region.Mode} {S : World → Prop}
/-- no operation is a defer statement -/
def noDefer (ops : Array Oper) : Bool := ops.all fun o => match o.op with | .defer _ => false | _ => true
theorem noDefer_spec (h : noDefer ops = true) {j : Nat} {o : Oper} (ho : ops[j]? = some o) : ∀ c, o.op ≠ .defer c := by
  intro c hc
  obtain ⟨hj, rfl⟩ := Array.getElem?_eq_some_iff.1 ho
  have := Array.all_eq_true.1 h j hj
  rw [hc] at this
  cases this
def wpAnyS (F : Fence) (n : Nat) (P : Program) (md : Region.Mode) (ops : Array Oper) (Q : Exit → Act → World → Prop) (S : World → Prop) : Nat → Array Bool → Act → World → Prop
  | 0, listed, a, w => Region.ready md ops listed = [] ∧ Q .normal a w
  | fuel + 1, listed, a, w =>
    (Region.ready md ops listed = [] → Q .normal a w) ∧
    ∀ i ∈ Region.ready md ops listed, wpOpIn F n P ops Q i (fun a' w' => S w' ∧ wpAnyS F n P md ops Q S fuel (listed.setIfInBounds i true) a' w') a w
theorem wpAnyIn_of_S : ∀ (fuel : Nat) (listed : Array Bool) (a : Act) (w : World), wpAnyS F n P md ops Q S fuel listed a w → wpAnyIn F n P md ops Q fuel listed a w
  | 0, _, _, _, h => h
  | fuel + 1, _, _, _, h => ⟨h.1, fun i hi => wpOpIn_mono (fun a' w' h' => wpAnyIn_of_S fuel _ a' w' h'.2) (h.2 i hi)⟩
theorem YieldsIf.wpOpS {i : Nat} {o : Oper} {v : Value} {a : Act} (hF : ∀ f, F.fn f) (hi : ops[i]? = some o) (hd : ∀ c, o.op ≠ .defer c) (hy : YieldsIf P ops S o v a)
    {K : Act → World → Prop} {w : World} (hS : S w) (h : K (a.put o.dst v) w) : wpOpIn F n P ops Q i K a w := by
  unfold Go.wpOpIn
  simp only [hi]
  rcases hy with ⟨hw, hv⟩ | ⟨hw, rfl⟩
  · simp only [hw, if_true, Oper.wpIn, Oper.semAt_eq F.round a.eval o hd, hv w hS, Oper.uponIn]; exact ⟨fun f _ => hF f, h⟩
  · simp only [hw, Bool.false_eq_true, if_false]; exact ⟨fun f _ => hF f, h⟩
theorem wpOpS_put {j : Nat} {oi oj : Oper} {v : Value} (hF : ∀ f, F.fn f) (hd : ∀ c, oj.op ≠ .defer c) (hj : ops[j]? = some oj) (hap : oi.apart ops oj = true)
    (hsi : ∀ cs b, oi.op ≠ .select cs b) (hsj : ∀ cs b, oj.op ≠ .select cs b)
    (hQ : ∀ c a w, Q (.panic c) (a.put oi.dst v) w → Q (.panic c) a w) {K : Act → World → Prop} {a : Act} {w : World}
    (hy : YieldsIf P ops S oi v a) (h : wpOpIn F n P ops Q j K (a.put oi.dst v) w) :
    wpOpIn F n P ops Q j (fun a' w' => YieldsIf P ops S oi v a' ∧ K (a'.put oi.dst v) w') a w := by
  obtain ⟨h1, h2, h3⟩ := Oper.apart_spec hap
  have keep : ∀ (a : Act), YieldsIf P ops S oi v a → ∀ u, YieldsIf P ops S oi v (a.put oj.dst u) := fun a hy u =>
    hy.of_same (execOp_put oi hsi a oj.dst u h3) (wanted_put oi a oj.dst u h3)
  have keepD : ∀ d, YieldsIf P ops S oi v { a with defers := d :: a.defers } := fun d => hy.of_same rfl rfl
  unfold wpOpIn at *
  simp only [hj] at *
  rw [wanted_put oj a oi.dst v h1] at h
  split
  · rename_i hw
    simp only [hw, if_true] at h
    unfold Oper.wpIn at *
    refine ⟨fun f _ => hF f, ?_⟩
    have h := h.2
    rw [Oper.semAt_eq F.round _ oj hd, execOp_put oj hsj a oi.dst v h1] at h
    rw [Oper.semAt_eq F.round _ oj hd]
    generalize (execOp a.eval oj).run P w = r at *
    cases r with
    | ok x w' =>
      cases x <;> simp only [Oper.uponIn] at h ⊢
      case value u => exact ⟨keep a hy u, by rw [← Act.put_comm a v u h2]; exact h⟩
      case skip => exact ⟨keep a hy _, by rw [← Act.put_comm a v undef h2]; exact h⟩
      case defer d =>
        refine ⟨keep _ (keepD d) _, ?_⟩
        rw [← Act.put_comm _ v undef h2, ← Act.put_defers]
        exact h
      case enter f args =>
        refine ⟨h.1, CallsIn.mono h.2 fun e w'' he => ?_⟩
        cases e with
        | returned u => exact ⟨keep a hy u, by rw [← Act.put_comm a v u h2]; exact he⟩
        | panicked c => exact hQ _ _ _ he
        | outgrown => exact he
      case row row args => exact ⟨h.1, RowsIn.mono h.2 fun u w'' he => ⟨keep a hy u, by rw [← Act.put_comm a v u h2]; exact he⟩⟩
      case round l f tmps assign body =>
        refine ⟨h.1, RoundIn.mono h.2 fun e w'' he => ?_⟩
        cases e with
        | returned u => exact ⟨keep a hy u, by rw [← Act.put_comm a v u h2]; exact he⟩
        | panicked c => exact hQ _ _ _ he
        | outgrown => exact he
    | halt x w' =>
      cases x <;> simp only [Oper.uponIn] at h ⊢
      case panic u => exact hQ _ _ _ h
  · rename_i hw
    simp only [hw] at h
    exact ⟨fun f _ => hF f, keep a hy _, by rw [← Act.put_comm a v undef h2]; exact h.2⟩
theorem wpAnyS_first {i : Nat} {oi : Oper} {v : Value} (hF : ∀ f, F.fn f) (hnd : noDefer ops = true) (hi : ops[i]? = some oi) (hsel : ∀ (j : Nat) (o : Oper) cs b, ops[j]? = some o → o.op ≠ .select cs b)
    (hQ : ∀ c a w, Q (.panic c) (a.put oi.dst v) w → Q (.panic c) a w) :
    ∀ (fuel : Nat) (listed : Array Bool) (a : Act) (w : World),
      (∀ j oj, ops[j]? = some oj → j ≠ i → listed.getD j true = false → (∀ e ∈ oj.after, Region.binds md e = true → e.on ≠ i) → oi.apart ops oj = true) →
      i ∈ Region.ready md ops listed → YieldsIf P ops S oi v a → S w →
      wpAnyS F n P md ops Q S fuel (listed.setIfInBounds i true) (a.put oi.dst v) w → wpAnyS F n P md ops Q S (fuel + 1) listed a w := by
  intro fuel
  induction fuel with
  | zero =>
    intro listed a w _ hr hy hS H
    refine ⟨fun h => (by rw [h] at hr; cases hr), fun j hj => ?_⟩
    by_cases hji : j = i
    · subst hji; exact YieldsIf.wpOpS hF hi (noDefer_spec hnd hi) hy hS ⟨hS, H⟩
    · have := ready_mono hj hji
      rw [H.1] at this
      cases this
  | succ fuel ih =>
    intro listed a w hfree hr hy hS H
    refine ⟨fun h => (by rw [h] at hr; cases hr), fun j hj => ?_⟩
    by_cases hji : j = i
    · subst hji; exact YieldsIf.wpOpS hF hi (noDefer_spec hnd hi) hy hS ⟨hS, H⟩
    · have h1 := H.2 j (ready_mono hj hji)
      obtain ⟨hjun, oj, hoj, hall⟩ := mem_ready.1 hj
      have hnot : ∀ e ∈ oj.after, Region.binds md e = true → e.on ≠ i := fun e he hb heq => by
        have h1 := hall e he hb
        have h0 := (mem_ready.1 hr).1
        rw [heq] at h1
        rcases Nat.lt_or_ge i listed.size with h' | h'
        · simp [h'] at h0 h1; rw [h0] at h1; cases h1
        · simp [Array.getElem?_eq_none h'] at h1
      have h2 := wpOpS_put hF (noDefer_spec hnd hoj) hoj (hfree j oj hoj hji hjun hnot) (fun cs b => hsel i oi cs b hi) (fun cs b => hsel j oj cs b hoj) hQ hy h1
      have hfree' : ∀ k ok, ops[k]? = some ok → k ≠ i → (listed.setIfInBounds j true).getD k true = false →
          (∀ e ∈ ok.after, Region.binds md e = true → e.on ≠ i) → oi.apart ops ok = true := fun k ok hk hki hun hno => by
        refine hfree k ok hk hki ?_ hno
        by_cases hjk : j = k
        · subst hjk; exact hjun
        · rw [getD_set_ne true hjk] at hun; exact hun
      refine wpOpIn_mono (fun a' w' h3 => ⟨h3.2.1, ih (listed.setIfInBounds j true) a' w' hfree' (ready_mono hr (Ne.symm hji)) h3.1 h3.2.1 ?_⟩) h2
      rw [Array.setIfInBounds_comm _ _ hji]
      exact h3.2.2
theorem wpAnyS_take {i : Nat} {oi : Oper} {v : Value} {fuel : Nat} {listed : Array Bool} {a : Act} {w : World} (hF : ∀ f, F.fn f) (hnd : noDefer ops = true) (hi : ops[i]? = some oi)
    (hs : Region.noSelect ops = true) (hf : Region.free md ops listed i = true) (hr : (Region.ready md ops listed).contains i = true)
    (hQ : ∀ c a w, Q (.panic c) (a.put oi.dst v) w → Q (.panic c) a w) (hw : Region.wanted oi (yielded ops a.tmps) = true) (hy : ∀ w, S w → (execOp a.eval oi).run P w = .ok (.value v) w) (hS : S w)
    (h : wpAnyS F n P md ops Q S fuel (listed.setIfInBounds i true) (a.put oi.dst v) w) : wpAnyS F n P md ops Q S (fuel + 1) listed a w :=
  wpAnyS_first hF hnd hi (Region.noSelect_spec hs) hQ fuel listed a w (Region.free_spec hi hf) (by simpa using hr) (.inl ⟨hw, hy⟩) hS h
/-- one operation alone may come up -/
theorem wpAnyS_one {i : Nat} {o : Oper} {fuel : Nat} {listed : Array Bool} {a : Act} {w : World} (hr : Region.ready md ops listed = [i]) (ho : ops[i]? = some o) (hw : Region.wanted o (yielded ops a.tmps) = true)
    (h : ∀ K' : Act → World → Prop, (∀ a w, S w → wpAnyS F n P md ops Q S fuel (listed.setIfInBounds i true) a w → K' a w) → Oper.wpIn F n P o a w K' Q) : wpAnyS F n P md ops Q S (fuel + 1) listed a w := by
  refine ⟨fun h0 => (by rw [hr] at h0; cases h0), fun j hj => ?_⟩
  rw [hr, List.mem_singleton] at hj
  subst hj
  refine wpOpIn_step ho fun K' hK => ?_
  rw [if_pos hw]
  exact h K' (fun a w h1 h2 => hK a w ⟨h1, h2⟩)
/-- two operations may come up -/
theorem wpAnyS_two {i j : Nat} {oi oj : Oper} {fuel : Nat} {listed : Array Bool} {a : Act} {w : World} (hr : Region.ready md ops listed = [i, j]) (hi : ops[i]? = some oi) (hj : ops[j]? = some oj) (wi : Region.wanted oi (yielded ops a.tmps) = true) (wj : Region.wanted oj (yielded ops a.tmps) = true)
    (h1 : ∀ K' : Act → World → Prop, (∀ a w, S w → wpAnyS F n P md ops Q S fuel (listed.setIfInBounds i true) a w → K' a w) → Oper.wpIn F n P oi a w K' Q)
    (h2 : ∀ K' : Act → World → Prop, (∀ a w, S w → wpAnyS F n P md ops Q S fuel (listed.setIfInBounds j true) a w → K' a w) → Oper.wpIn F n P oj a w K' Q) : wpAnyS F n P md ops Q S (fuel + 1) listed a w := by
  refine ⟨fun h0 => (by rw [hr] at h0; cases h0), fun k hk => ?_⟩
  rw [hr, List.mem_cons, List.mem_singleton] at hk
  rcases hk with rfl | rfl
  · refine wpOpIn_step hi fun K' hK => ?_
    rw [if_pos wi]
    exact h1 K' (fun a w h1 h2 => hK a w ⟨h1, h2⟩)
  · refine wpOpIn_step hj fun K' hK => ?_
    rw [if_pos wj]
    exact h2 K' (fun a w h1 h2 => hK a w ⟨h1, h2⟩)
theorem wpAnyS_done {listed : Array Bool} {a : Act} {w : World} (hr : Region.ready md ops listed = []) (h : Q .normal a w) :
    ∀ fuel, wpAnyS F n P md ops Q S fuel listed a w
  | 0 => ⟨hr, h⟩
  | _ + 1 => ⟨fun _ => h, by rw [hr]; simp⟩
theorem wpIn_region_S {id : Nat} {a : Act} {w : World} (hm : P.follows .mixedOrders = true)
    (h : wpAnyS F n P .any ops Q S ops.size (Array.replicate ops.size false) a w.drew) : (Code.region id ops true).wpIn F n P Q a w :=
  wpIn_region_any hm (wpAnyIn_of_S _ _ _ _ h)
/-- Q, but False at a panic -/
def noPan (Q : Exit → Act → World → Prop) : Exit → Act → World → Prop
  | .panic _, _, _ => False
  | e, a, w => Q e a w
theorem wpIn_region_N {id : Nat} {a : Act} {w : World} (hm : P.follows .mixedOrders = true)
    (h : wpAnyS F n P .any ops (noPan Q) S ops.size (Array.replicate ops.size false) a w.drew) : (Code.region id ops true).wpIn F n P Q a w :=
  wpIn_mono (wpIn_region_S hm h) fun e a w h => by cases e <;> first | exact h | exact (h : False).elim
theorem wpAnyS_doneN {listed : Array Bool} {a : Act} {w : World} (hr : Region.ready md ops listed = []) (h : Q .normal a w) (fuel : Nat) : wpAnyS F n P md ops (noPan Q) S fuel listed a w := wpAnyS_done (Q := noPan Q) hr (show noPan Q .normal a w from h) fuel
end
end Go.Proofs.YtamefocngapkpaaOwn
