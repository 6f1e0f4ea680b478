/- What cnf.next does: it counts on. -/
import Derived.Test.YtggnnnddnppcpaaTidy
import Derived.BigRegion
namespace Go.Proofs.YtggnnnddnppcpaaMath
/-- so many places counted on; false: that was the last -/
def nextIn : Nat → List Bool → List Bool × Bool
  | 0, m => (m, false)
  | _ + 1, [] => ([], false)
  | _ + 1, false :: m => (true :: m, true)
  | n + 1, true :: m => (false :: (nextIn n m).1, (nextIn n m).2)
end Go.Proofs.YtggnnnddnppcpaaMath
namespace Go.Proofs.YtggnnnddnppcpaaHand
open Go.RowKit Go.Proofs.YtggnnnddnppcpaaW.PrintWords Go.Proofs.YtggnnnddnppcpaaW.PrintLast Go.Proofs.YtggnnnddnppcpaaMath
set_option linter.unusedVariables false
set_option linter.unusedSimpArgs false
/-- sixteen truths in a block -/
def bits (m : List Bool) : Array Value := (m.map Value.bool).toArray

theorem bits_put (i : Nat) (c : Bool) (r : List Bool) : (bits (List.replicate i false ++ c :: r)).setIfInBounds i (.bool !c) = bits (List.replicate i false ++ (!c) :: r) := by
  unfold bits
  simp [List.set_append_right]
theorem grown_set {w wr : World} {b : Nat} (h : w.grownBy wr (some b)) (i : Nat) (u : Value) : w.grownBy (wr.setCell ⟨b, i, none⟩ u).drew (some b) := by
  have h1 := (Below.refl b wr).setCell (p := ⟨b, i, none⟩) (Nat.le_refl _) u
  refine ⟨h1.os.trans h.os, h1.tape.trans h.tape, h1.output.trans h.output, Nat.le_trans h.size h1.size, fun k hk hne => ?_⟩
  have hkb : k ≠ b := fun e => hne (by rw [e])
  exact (Below.heap_setCell wr ⟨b, i, none⟩ u k hkb).trans (h.block k hk hne)

set_option maxHeartbeats 4000000 in
set_option maxRecDepth 100000 in
theorem next_calls (b v : Nat) (m : List Bool) (w : World) (hl : m.length = 16) (hv : v ≤ 16) (hb : w.heap[b]? = some (.cells (bits m) 84 (0, 0))) :
    Calls Try.prog 73 #[.pointer (some ⟨b, 0, none⟩), .int .i64 (v : Int)] w fun e w' => e = .returned (.bool (nextIn v m).2) ∧ w'.heap[b]? = some (.cells (bits (nextIn v m).1) 84 (0, 0)) ∧ w.grownBy w' (some b) := by
  go_enter Try.func73, Try.ntmps73
  go_wp2
  go_loopw [5, 7] (fun _ v7 wr => ∃ (i : Nat) (x : Int) (r : List Bool), v7 = .int .i64 x ∧ Aside0 (x = i ∧ i ≤ v ∧ r.length + i = 16 ∧ (nextIn v m) = (List.replicate i false ++ (nextIn (v - i) r).1, (nextIn (v - i) r).2)) ∧ Aside0 (wr.heap[b]? = some (.cells (bits (List.replicate i false ++ r)) 84 (0, 0))) ∧ Aside0 (w.grownBy wr (some b))) (fun _ i _ => v - (intOf i).toNat)
  case atStart => exact ⟨0, 0, m, rfl, ⟨rfl, Nat.zero_le _, by omega, by simp⟩, ⟨by simpa using hb⟩, ⟨rfl, rfl, rfl, Nat.le_refl _, fun _ _ _ => rfl⟩⟩
  case round =>
    obtain ⟨i, x, r, rfl, HX, HB, HG⟩ := hrel
    obtain ⟨hxi, hi, hr, hn⟩ := HX.out
    by_cases hlt : i < v
    · have p1 : 0 ≤ x := by omega
      have q1 : x < 16 := by omega
      have p2 := eq_true p1
      have q2 := eq_true q1
      have q3 : decide (x < (v : Int)) = true := decide_eq_true (by omega)
      cases r with
      | nil => simp at hr; omega
      | cons c r =>
        have hcell : wr.cell? ⟨b, i, none⟩ = some (.bool c) := by
          refine (blk_cell HB.out i).trans ?_
          simp [bits, List.getElem?_append_right]
        have hfz : wr.frozen? ⟨b, i, none⟩ = false := blk_frozen HB.out _
        have p3 : (0 : Int) ≤ (i : Int) := by omega
        have q4 : (i : Int) < 16 := by omega
        subst hxi
        go_wp2
        go_region
        have HB2 := Aside0.mk (blk_drew (blk_put HB.out i (.bool !c) (bits_put i c r)))
        have HG2 : Aside0 (w.grownBy (wr.setCell ⟨b, i, none⟩ (.bool !c)).drew (some b)) := ⟨grown_set HG.out i _⟩
        have hi2 : i < (List.replicate i false ++ (!c) :: r).length := by simp
        have hcell2 : ((wr.setCell ⟨b, i, none⟩ (.bool !c)).drew).cell? ⟨b, i, none⟩ = some (.bool !c) := by
          refine (blk_cell HB2.out i).trans ?_
          simp [bits, List.getElem?_append_right]
        have HR : Aside0 (r.length + (i + 1) = 16 ∧ i + 1 ≤ v) := ⟨by simp at hr; omega, by omega⟩
        have hvi : v - i = (v - (i + 1)) + 1 := by omega
        rw [hvi] at hn
        generalize (wr.setCell ⟨b, i, none⟩ (.bool !c)).drew = W2 at HB2 HG2 hcell2 ⊢
        have HX2 : Aside0 (wrap64 ((i : Int) + 1) = ((i + 1 : Nat) : Int)) := ⟨by rw [w64 (by omega) (by omega)]; omega⟩
        have hm : (intOf (.int .i64 (wrap64 ((i : Int) + 1)))).toNat = i + 1 := by rw [HX2.out]; simp [intOf]
        have hm0 : (intOf (.int .i64 (i : Int))).toNat = i := by simp [intOf]
        have HMS : Aside0 (v - (intOf (.int .i64 (wrap64 ((i : Int) + 1)))).toNat < v - (intOf (.int .i64 (i : Int))).toNat) := ⟨by rw [hm, hm0]; omega⟩
        cases c with
        | false =>
          have HN : Aside0 (nextIn v m = (List.replicate i false ++ true :: r, true)) := ⟨hn⟩
          clear hn hr HX HB HG hm hm0
          simp only [Bool.not_false] at hcell2 HB2
          go_wp2
          go_ret
          rw [HN.out]
          exact ⟨rfl, HB2.out, HG2.out⟩
        | true =>
          have HN : Aside0 (nextIn v m = (List.replicate (i + 1) false ++ (nextIn (v - (i + 1)) r).1, (nextIn (v - (i + 1)) r).2)) := ⟨by rw [hn, List.replicate_succ']; simp [nextIn]⟩
          have HB3 : Aside0 (W2.heap[b]? = some (.cells (bits (List.replicate (i + 1) false ++ r)) 84 (0, 0))) := by
            have := HB2.out
            rw [List.replicate_succ']
            exact ⟨by simpa using this⟩
          clear hn hr HX HB HG hm hm0
          simp only [Bool.not_true] at hcell2
          go_wp2
          go_roundw
          case measure => first | exact HMS.out | (have := HR.out; simp [intOf]; omega)
          case rel => exact ⟨i + 1, _, r, rfl, ⟨by first | exact HX2.out | omega, HR.out.2, HR.out.1, HN.out⟩, HB3, HG2⟩
    · obtain rfl : i = v := by omega
      have q3 : decide (x < (i : Int)) = false := decide_eq_false (by omega)
      have HN : Aside0 (nextIn i m = (List.replicate i false ++ r, false)) := ⟨by rw [hn, Nat.sub_self]; rfl⟩
      clear hxi hi hr hn hlt HX
      go_wp2
      go_ret
      rw [HN.out]
      exact ⟨rfl, HB.out, HG.out⟩
end Go.Proofs.YtggnnnddnppcpaaHand
