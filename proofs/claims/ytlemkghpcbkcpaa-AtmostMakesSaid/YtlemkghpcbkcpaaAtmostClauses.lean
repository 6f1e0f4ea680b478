/- What atmost.clauses answers: the clauses behind one another, each in new memory. -/
import Derived.Test.YtlemkghpcbkcpaaAtmost
namespace Go.Proofs.YtlemkghpcbkcpaaMath
open Go.RowKit Go.Proofs.YtlemkghpcbkcpaaW.PrintWords
/-- a helper's number as the code reckons it -/
def svw (k first i j : Int) : Int := wrap64 (wrap64 (wrap64 (first + wrap64 (wrap64 (i - 1) * k)) + j) - 1)
theorem svw_eq {k first i j : Int} (hk : 0 ≤ k ∧ k ≤ 1048576) (hf : 0 ≤ first ∧ first ≤ 1048577) (hi : 0 ≤ i ∧ i ≤ 1048577) (hj : 0 ≤ j ∧ j ≤ 1048577) : svw k first i j = sv k first i j := by
  have h1 : (i - 1) * k ≤ 1048577 * 1048576 := Int.mul_le_mul (by omega) hk.2 hk.1 (by omega)
  have h2 : -1048576 ≤ (i - 1) * k := by
    have : (0 - 1) * k ≤ (i - 1) * k := Int.mul_le_mul_of_nonneg_right (by omega) hk.1
    omega
  unfold svw sv
  rw [w64 (x := i - 1) (by omega) (by omega), w64 (x := (i - 1) * k) (by omega) (by omega), w64 (x := first + (i - 1) * k) (by omega) (by omega), w64 (x := first + (i - 1) * k + j) (by omega) (by omega), w64 (by omega) (by omega)]
theorem sv_bd {k first i j : Int} {n : Int} (hk : 1 ≤ k ∧ k ≤ 1048576) (hf : 1 ≤ first) (hn : first + (n - 1) * k ≤ 1048577) (hi : 1 ≤ i ∧ i ≤ n - 1) (hj : 1 ≤ j ∧ j ≤ k) : 1 ≤ sv k first i j ∧ sv k first i j ≤ 1048576 := by
  have h0 : 0 ≤ (i - 1) * k := Int.mul_nonneg (by omega) (by omega)
  have h1 : (i - 1) * k ≤ (n - 1 - 1) * k := Int.mul_le_mul_of_nonneg_right (by omega) (by omega)
  have h2 : (n - 1 - 1) * k = (n - 1) * k - k := by rw [Int.sub_mul (n - 1) 1 k]; omega
  unfold sv
  omega
end Go.Proofs.YtlemkghpcbkcpaaMath
namespace Go.Proofs.YtlemkghpcbkcpaaHand
open Go.RowKit Go.Proofs.YtlemkghpcbkcpaaW.PrintWords Go.Proofs.YtlemkghpcbkcpaaW.PrintLast Go.Proofs.YtlemkghpcbkcpaaMath Go.Proofs.YtlemkghpcbkcpaaMaps Go.Maps
set_option linter.unusedVariables false
set_option linter.unusedSimpArgs false

theorem s_calls (Bf Bk : Nat) (k first i j : Int) (w : World) (hf : w.cell? ⟨Bf, 0, none⟩ = some (.int .i64 first)) (hk : w.cell? ⟨Bk, 0, none⟩ = some (.int .i64 k)) :
    Calls Try.prog 36 #[.int .i64 i, .int .i64 j, .pointer (some ⟨Bf, 0, none⟩), .pointer (some ⟨Bk, 0, none⟩)] w fun e w' => e = .returned (.int .i64 (svw k first i j)) ∧ w' = w := by
  go_enter Try.func36, Try.ntmps36
  go_wp2
  go_ret
  exact ⟨rfl, rfl⟩

/-- the clauses that lie in the variable at block Bc -/
structure CW (w0 : World) (Bc : Nat) (W : World) (xs : List (List Int)) : Prop where
  hB : Below w0.heap.size w0 W
  hc0 : w0.heap.size ≤ Bc
  c : ∃ v, W.heap[Bc]? = some (.cells #[v] 34 (0, 0)) ∧ Kd.S (Kd.slice 3 (Kd.int .i64)) 33 W w0.heap.size (fun _ => True) v xs
theorem CW.below {w0 : World} {Bc : Nat} {W W1 : World} {xs : List (List Int)} (h : CW w0 Bc W xs) (hb : Below W.heap.size W W1) : CW w0 Bc W1 xs := by
  obtain ⟨v, h1, h2⟩ := h.c
  exact ⟨below_then h.hB h.hB.size hb, h.hc0, v, (hb.block Bc (lt_of_block h1)).trans h1, Kd.S_below h2 hb⟩
theorem CW.drew {w0 : World} {Bc : Nat} {W : World} {xs : List (List Int)} (h : CW w0 Bc W xs) : CW w0 Bc W.drew xs := h.below (below_drew (Below.refl _ _))
theorem CW.start (w0 : World) : CW w0 w0.heap.size (w0.alloc (.cells #[.slice none 0 0] 34)) [] :=
  ⟨(Below.refl _ _).alloc (Nat.le_refl _) _, Nat.le_refl _, _, heap_alloc_new _ _, Kd.S_nil _ _ _ _ _⟩
theorem CW.lt {w0 : World} {Bc : Nat} {W : World} {xs : List (List Int)} (h : CW w0 Bc W xs) : Bc < W.heap.size := by
  obtain ⟨v, h1, _⟩ := h.c
  exact lt_of_block h1

theorem infoRow : (Try.prog.info? 33).map (fun i => (i.zero, i.size, i.bytes)) = some (some (.slice none 0 0), 1, 24) := by kernel_rfl

set_option maxHeartbeats 1000000 in
theorem put_any (w0 : World) (Bc : Nat) (W : World) (xs : List (List Int)) (ys : List Int) (h : CW w0 Bc W xs) (hn : xs.length < 5864062014805) (hy : ys.length ≤ 9223372036854775807) :
    Calls Try.prog 47 #[.slice (some ⟨W.heap.size, 0, none⟩) ys.length ys.length, .pointer (some ⟨Bc, 0, none⟩)] (W.alloc (.cells (nums .i64 ys).toArray 3)) fun e w' => e = .returned (.tuple #[]) ∧ CW w0 Bc w' (xs ++ [ys]) := by
  obtain ⟨W1, hW1⟩ : ∃ W1, W1 = W.alloc (.cells (nums .i64 ys).toArray 3) := ⟨_, rfl⟩
  obtain ⟨v, hb, hs⟩ := h.c
  have hlt := lt_of_block hb
  have hal : Below W.heap.size W W1 := by rw [hW1]; exact (Below.refl _ _).alloc (Nat.le_refl _) _
  have hb1 : W1.heap[Bc]? = some (.cells #[v] 34 (0, 0)) := (hal.block Bc hlt).trans hb
  have hown : W1.ownsRow w0.heap.size 3 1 (.slice (some ⟨W.heap.size, 0, none⟩) ys.length ys.length) ys.length (nums .i64 ys) := by rw [hW1]; exact own_lit W _ _ _ ys h.hB.size hy
  have hR : Kd.R (Kd.int .i64) 3 W1 w0.heap.size (fun _ => True) (.slice (some ⟨W.heap.size, 0, none⟩) ys.length ys.length) ys := Kd.R_of_own hown (fun _ _ => trivial)
  have hs1 : Kd.S (Kd.slice 3 (Kd.int .i64)) 33 W1 w0.heap.size (fun k => True ∧ some k ≠ (Value.slice (some ⟨W.heap.size, 0, none⟩) ys.length ys.length).ownBlock) v xs :=
    Kd.S_elder' hs (fun k hk => by simp [Value.ownBlock] at hk; omega) hal
  have hB1 : Below w0.heap.size w0 W1 := below_then h.hB h.hB.size hal
  have hsz : w0.heap.size ≤ W1.heap.size := hB1.size
  have hBc0 := h.hc0
  have HB1 := Aside0.mk hB1
  have HBL := Aside0.mk hb1
  have HS := Aside0.mk hs1
  have HR := Aside0.mk hR
  have HN := Aside0.mk hn
  have HSZ := Aside0.mk hsz
  have HC0 := Aside0.mk hBc0
  rw [← hW1]
  have c1 := cell_of_one hb1
  have z1 := free_of_one hb1
  have HLT : Aside0 (Bc < W1.heap.size) := ⟨lt_of_block hb1⟩
  clear hB1 hs1 hR hown hb1 hal hs hb h hlt hW1 hsz hn hBc0
  generalize W.heap.size = g at *
  go_enter Try.func47, Try.ntmps47
  go_wp2_with ((with_reducible refine gate_builtin (b := .append) (xs := #[.tmp 3, .tmp 5]) rfl ?_); at_builtin; refine Kd.S_append (Kd.slice 3 (Kd.int .i64)) (w0 := w0) w0.heap.size rfl (.tmp 3) (.tmp 5) 34 33 (.slice none 0 0) 24 rfl Try.underlying34 infoRow rfl (by decide) (by omega) v xs ys [.slice (some ⟨g, 0, none⟩) ys.length ys.length] (fun _ => True) (fun k_ => some k_ = (.slice (some ⟨g, 0, none⟩) ys.length ys.length : Value).ownBlock) rfl rfl ?aP ?aK (fun _ _ => trivial) ?aO ?aB ?aS ?aL ?_; (case aP => exact Kd.M_row (Kd.R_tight rfl HR.out)); (case aK => exact fun k hk => ⟨trivial, fun e => by obtain ⟨cells, hc⟩ := Kd.S_typed HS.out k e.symm; obtain ⟨cells', hc'⟩ := Kd.R_typed HR.out k hk.symm; rw [hc] at hc'; injection hc' with hc'; injection hc' with _ hc'; exact absurd hc' (by decide)⟩); (case aO => exact Kd.S_mono HS.out (fun k hk => hk)); (case aB => exact HB1.out); (case aS => exact HSZ.out); (case aL => have := HN.out; omega); intro v2 w2 ho hb hg hat; obtain ⟨A2, cap2, e2⟩ := Kd.S_slice ho; rw [List.length_append, List.length_singleton] at e2; subst e2; have HO2 := Aside0.mk ho; have HB2 := Aside0.mk hb; have HG2 := Aside0.mk hg; have HBc2 : Aside0 (w2.heap[Bc]? = some (.cells #[v] 34 (0, 0))) := ⟨(hg.block Bc HLT.out (fun e => by obtain ⟨cells, hc⟩ := Kd.S_typed HS.out Bc e.symm; rw [HBL.out] at hc; injection hc with hc; injection hc with _ hc; exact absurd hc (by decide))).trans HBL.out⟩; have c2 := cell_of_one HBc2.out; have z2 := free_of_one HBc2.out; clear ho hb hg hat)
  go_end0
  refine ⟨rfl, ⟨HB2.out.setCell (p := ⟨Bc, 0, none⟩) HC0.out _, HC0.out, _, one_setCell HBc2.out, Kd.S_set HO2.out HBc2.out (by decide) 0 _⟩⟩

theorem put1 (w0 : World) (Bc : Nat) (W : World) (xs : List (List Int)) (a : Int) (h : CW w0 Bc W xs) (hn : xs.length < 5864062014805) :
    Calls Try.prog 47 #[.slice (some ⟨W.heap.size, 0, none⟩) 1 1, .pointer (some ⟨Bc, 0, none⟩)] (W.alloc (.cells #[.int .i64 a] 3)) fun e w' => e = .returned (.tuple #[]) ∧ CW w0 Bc w' (xs ++ [[a]]) :=
  put_any w0 Bc W xs [a] h hn (by simp)
theorem put2 (w0 : World) (Bc : Nat) (W : World) (xs : List (List Int)) (a b : Int) (h : CW w0 Bc W xs) (hn : xs.length < 5864062014805) :
    Calls Try.prog 47 #[.slice (some ⟨W.heap.size, 0, none⟩) 2 2, .pointer (some ⟨Bc, 0, none⟩)] (W.alloc (.cells #[.int .i64 a, .int .i64 b] 3)) fun e w' => e = .returned (.tuple #[]) ∧ CW w0 Bc w' (xs ++ [[a, b]]) :=
  put_any w0 Bc W xs [a, b] h hn (by simp)
theorem put2d (w0 : World) (Bc : Nat) (W : World) (xs : List (List Int)) (a b : Int) (h : CW w0 Bc W xs) (hn : xs.length < 5864062014805) :
    Calls Try.prog 47 #[.slice (some ⟨W.heap.size, 0, none⟩) 2 2, .pointer (some ⟨Bc, 0, none⟩)] (W.alloc (.cells #[.int .i64 a, .int .i64 b] 3)).drew fun e w' => e = .returned (.tuple #[]) ∧ CW w0 Bc w' (xs ++ [[a, b]]) :=
  put2 w0 Bc W.drew xs a b h.drew hn
theorem put3 (w0 : World) (Bc : Nat) (W : World) (xs : List (List Int)) (a b c : Int) (h : CW w0 Bc W xs) (hn : xs.length < 5864062014805) :
    Calls Try.prog 47 #[.slice (some ⟨W.heap.size, 0, none⟩) 3 3, .pointer (some ⟨Bc, 0, none⟩)] (W.alloc (.cells #[.int .i64 a, .int .i64 b, .int .i64 c] 3)) fun e w' => e = .returned (.tuple #[]) ∧ CW w0 Bc w' (xs ++ [[a, b, c]]) :=
  put_any w0 Bc W xs [a, b, c] h hn (by simp)
end Go.Proofs.YtlemkghpcbkcpaaHand
