/- What lits.Without answers: the tidy list without one number, in new memory. -/
import Derived.Test.YtamefocngapkpaaTidy
namespace Go.Proofs.YtamefocngapkpaaHand
open Go.RowKit Go.Sort Go.Lib Go.Shelf Go.Proofs.YtamefocngapkpaaW.PrintWords Go.Proofs.YtamefocngapkpaaW.PrintLast Go.Proofs.YtamefocngapkpaaMath
set_option linter.unusedVariables false
set_option linter.unusedSimpArgs false

theorem is_gives (l x : Int) (B : Nat) (W : World) (hc : W.cell? ⟨B, 0, none⟩ = some (.int .i64 l)) :
    FnGives Try.prog 61 #[.pointer (some ⟨B, 0, none⟩)] #[.int .i64 x] (.bool (x == l)) W := by
  show Calls Try.prog 61 #[.int .i64 x, .pointer (some ⟨B, 0, none⟩)] W _
  go_enter Try.func61, Try.ntmps61
  go_wp2
  all_goals (go_ret; exact ⟨rfl, 0, rfl⟩)
theorem is_pred (l : Int) (B : Nat) (w : World) (hB : B < w.heap.size) (hcell : w.cell? ⟨B, 0, none⟩ = some (.int .i64 l)) :
    PredAt Try.prog 61 #[.pointer (some ⟨B, 0, none⟩)] (Value.int .i64) (fun x => x == l) w :=
  fun W x hb => is_gives l x B W ((hb.cell (p := ⟨B, 0, none⟩) hB).trans hcell)
theorem is_over (l : Int) (B blk off size : Nat) (w : World) (hB : B < w.heap.size) (hne : B ≠ blk) (hcell : w.cell? ⟨B, 0, none⟩ = some (.int .i64 l)) :
    PredOver Try.prog 61 #[.pointer (some ⟨B, 0, none⟩)] (Value.int .i64) (fun x => x == l) blk off size w :=
  fun n os dk x _ => is_gives l x B _ (by
    unfold sortWorld
    rw [cell?_grow _ _ _ (by show B < (putRow _ _ _ _ _).heap.size; rw [size_putRow]; exact hB), cell?_putRow_other _ _ blk off _ _ (Or.inl hne)]
    exact hcell)
theorem delete_calls (W : World) (base g cap B : Nat) (l : Int) (zs : List Int) (h : OwnInts W base (.slice (some ⟨g, 0, none⟩) zs.length cap) zs) (hB : B < W.heap.size) (hne : B ≠ g) (hc : W.cell? ⟨B, 0, none⟩ = some (.int .i64 l)) :
    Calls Try.prog 60 #[.slice (some ⟨g, 0, none⟩) zs.length cap, .func (.func 61) #[] #[.pointer (some ⟨B, 0, none⟩)]] W fun e W' => e = .returned (.slice (some ⟨g, 0, none⟩) (zs.filter fun x => !(x == l)).length cap) ∧
      OwnInts W' base (.slice (some ⟨g, 0, none⟩) (zs.filter fun x => !(x == l)).length cap) (zs.filter fun x => !(x == l)) ∧ W.grownBy W' (some g) := by
  obtain ⟨hH, hg, hcap, hmx⟩ := own_holds h
  have hcon := AnyE.slices_DeleteFunc Try.deleteF (Value.int .i64) (fun _ => rfl) (fun x => x == l) 61 #[.pointer (some ⟨B, 0, none⟩)] (enters_of Try.func61 (by kernel_rfl) rfl) 0 (fun w => by kernel_rfl) g 0 cap zs.toArray W
    (is_pred l B W hB hc) (is_over l B g 0 _ W hB hne hc) hH (by simpa using hmx) (by simpa using hcap)
  change Calls Try.prog 60 _ _ _ at hcon
  simp only [List.size_toArray] at hcon
  refine hcon.mono ?_
  rintro e W' ⟨rfl, q, rfl⟩
  have hle := List.length_filter_le (fun x : Int => !(x == l)) zs
  have hl : ((zs.filter fun x => !(x == l)) ++ List.replicate (zs.length - (zs.filter fun x => !(x == l)).length) (0 : Int)).length = zs.length := by
    rw [List.length_append, List.length_replicate]
    omega
  have ho := own_put (n := q) (os := #[]) h hl
  simp only [grow_empty] at ho
  refine ⟨rfl, ?_, ho.2⟩
  have hcut := own_cut ho.1 (m := (zs.filter fun x => !(x == l)).length) (by rw [hl]; exact hle)
  have e3 : (nums .i64 ((zs.filter fun x => !(x == l)) ++ List.replicate (zs.length - (zs.filter fun x => !(x == l)).length) (0 : Int))).take (zs.filter fun x => !(x == l)).length = nums .i64 (zs.filter fun x => !(x == l)) := by
    rw [nums_append, List.take_append_of_le_length (Nat.le_of_eq (nums_length _ _).symm), List.take_of_length_le (Nat.le_of_eq (nums_length _ _))]
  rw [e3] at hcut
  exact hcut

set_option maxHeartbeats 4000000 in
set_option maxRecDepth 100000 in
theorem without_calls (A0 : Option Addr) (c0 : Nat) (l0 : List Int) (a1 : Int) (w : World) (hr0 : Kd.C (Kd.int .i64) w A0 l0.length l0) (hc0 : l0.length ≤ c0) (hn : l0.length ≤ 17592186044416) :
    Calls Try.prog 25 #[.slice A0 l0.length c0, .int .i64 a1] w fun e w' => ∃ v0_ : Value, e = .returned (v0_) ∧ Kd.R (Kd.int .i64) 3 w' w.heap.size (fun _ => True) v0_ ((tidyOf l0).filter fun x => !(x == a1)) ∧ Below w.heap.size w w' := by
  have T := fun W h => tidy_own A0 c0 l0 W h hc0 hn
  have HT := Aside0.mk T
  have HR0 := Aside0.mk hr0
  clear T hr0 hc0 hn
  go_enter Try.func25, Try.ntmps25
  go_wp2_with fail
  (with_reducible refine (HT.out _ (Kd.C_alloc HR0.out _)).mono ?_)
  rintro e w1 ⟨g, cap, rfl, ho, hb⟩
  have hb0 : Below w.heap.size w w1 := below_step (below_alloc (Below.refl _ _) _) hb
  have hg : w.heap.size + 1 ≤ g := by
    have := own_base ho g rfl
    simpa using this
  have hsz : w.heap.size < w1.heap.size := by
    have := hb.size
    simp at this
    omega
  have hcell : w1.cell? ⟨w.heap.size, 0, none⟩ = some (.int .i64 a1) := (hb.cell (p := ⟨w.heap.size, 0, none⟩) (by simp)).trans (by simp)
  have hob : OwnInts w1 w.heap.size (.slice (some ⟨g, 0, none⟩) (tidyOf l0).length cap) (tidyOf l0) := own_weaken ho (by simp)
  have D := delete_calls w1 w.heap.size g cap w.heap.size a1 (tidyOf l0) hob hsz (by omega) hcell
  have HD := Aside0.mk D
  have HB := Aside0.mk hb0
  have HG : Aside0 (w.heap.size ≤ g) := ⟨by omega⟩
  clear D hb0 hb hg hsz hcell hob ho
  go_wp2_with fail
  (with_reducible refine HD.out.mono ?_)
  rintro e w2 ⟨rfl, ho2, hg2⟩
  have HO2 := Aside0.mk ho2
  have HB2 : Aside0 (Below w.heap.size w w2) := ⟨HB.out.grown hg2 HB.out.size (fun j hj => by cases hj; exact HG.out)⟩
  clear ho2 hg2
  go_wp2
  go_ret
  exact ⟨_, rfl, own_R HO2.out, HB2.out⟩

end Go.Proofs.YtamefocngapkpaaHand
