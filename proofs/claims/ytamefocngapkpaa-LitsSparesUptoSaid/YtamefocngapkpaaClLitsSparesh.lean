/- What lits.Without answers: the tidy list without one number, in new memory. -/
import Derived.Test.YtamefocngapkpaaClLitsSparesd
/-! text YtamefocngapkpaaWithout -/
namespace Go.Proofs.YtamefocngapkpaaHand
open Go.RowKit Go.Sort Go.Lib Go.Shelf Go.Proofs.YtamefocngapkpaaW.PrintWords Go.Proofs.YtamefocngapkpaaW.PrintLast Go.Proofs.YtamefocngapkpaaMath
set_option linter.unusedVariables false
set_option linter.unusedSimpArgs false

theorem is_gives (l x : Int) (B : Nat) (W : World) (hc : W.cell? ⟨B, 0, none⟩ = some (.int .i64 l)) :
    FnGives Try.prog 61 #[.pointer (some ⟨B, 0, none⟩)] #[.int .i64 x] (.bool (x == l)) W := by
  show Calls Try.prog 61 #[.int .i64 x, .pointer (some ⟨B, 0, none⟩)] W _
  go_enter Try.func61, Try.ntmps61
  go_wp2
  all_goals (go_ret; exact ⟨rfl, 0, rfl⟩)
theorem is_pred (l : Int) (B : Nat) (w : World) (hB : B < w.heap.size) (hcell : w.cell? ⟨B, 0, none⟩ = some (.int .i64 l)) :
    PredAt Try.prog 61 #[.pointer (some ⟨B, 0, none⟩)] (Value.int .i64) (fun x => x == l) w :=
  fun W x hb => is_gives l x B W ((hb.cell (p := ⟨B, 0, none⟩) hB).trans hcell)
theorem is_over (l : Int) (B blk off size : Nat) (w : World) (hB : B < w.heap.size) (hne : B ≠ blk) (hcell : w.cell? ⟨B, 0, none⟩ = some (.int .i64 l)) :
    PredOver Try.prog 61 #[.pointer (some ⟨B, 0, none⟩)] (Value.int .i64) (fun x => x == l) blk off size w :=
  fun n os dk x _ => is_gives l x B _ (by
    unfold sortWorld
    rw [cell?_grow _ _ _ (by show B < (putRow _ _ _ _ _).heap.size; rw [size_putRow]; exact hB), cell?_putRow_other _ _ blk off _ _ (Or.inl hne)]
    exact hcell)
theorem delete_calls (W : World) (base g cap B : Nat) (l : Int) (zs : List Int) (h : OwnInts W base (.slice (some ⟨g, 0, none⟩) zs.length cap) zs) (hB : B < W.heap.size) (hne : B ≠ g) (hc : W.cell? ⟨B, 0, none⟩ = some (.int .i64 l)) :
    Calls Try.prog 60 #[.slice (some ⟨g, 0, none⟩) zs.length cap, .func (.func 61) #[] #[.pointer (some ⟨B, 0, none⟩)]] W fun e W' => e = .returned (.slice (some ⟨g, 0, none⟩) (zs.filter fun x => !(x == l)).length cap) ∧
      OwnInts W' base (.slice (some ⟨g, 0, none⟩) (zs.filter fun x => !(x == l)).length cap) (zs.filter fun x => !(x == l)) ∧ W.grownBy W' (some g) := by
  obtain ⟨hH, hg, hcap, hmx⟩ := own_holds h
  have hcon := AnyE.slices_DeleteFunc Try.deleteF (Value.int .i64) (fun _ => rfl) (fun x => x == l) 61 #[.pointer (some ⟨B, 0, none⟩)] (enters_of Try.func61 (by kernel_rfl) rfl) 0 (fun w => by kernel_rfl) g 0 cap zs.toArray W
    (is_pred l B W hB hc) (is_over l B g 0 _ W hB hne hc) hH (by simpa using hmx) (by simpa using hcap)
  change Calls Try.prog 60 _ _ _ at hcon
  simp only [List.size_toArray] at hcon
  refine hcon.mono ?_
  rintro e W' ⟨rfl, q, rfl⟩
  have hle := List.length_filter_le (fun x : Int => !(x == l)) zs
  have hl : ((zs.filter fun x => !(x == l)) ++ List.replicate (zs.length - (zs.filter fun x => !(x == l)).length) (0 : Int)).length = zs.length := by
    rw [List.length_append, List.length_replicate]
    omega
  have ho := own_put (n := q) (os := #[]) h hl
  simp only [grow_empty] at ho
  refine ⟨rfl, ?_, ho.2⟩
  have hcut := own_cut ho.1 (m := (zs.filter fun x => !(x == l)).length) (by rw [hl]; exact hle)
  have e3 : (nums .i64 ((zs.filter fun x => !(x == l)) ++ List.replicate (zs.length - (zs.filter fun x => !(x == l)).length) (0 : Int))).take (zs.filter fun x => !(x == l)).length = nums .i64 (zs.filter fun x => !(x == l)) := by
    rw [nums_append, List.take_append_of_le_length (Nat.le_of_eq (nums_length _ _).symm), List.take_of_length_le (Nat.le_of_eq (nums_length _ _))]
  rw [e3] at hcut
  exact hcut

set_option maxHeartbeats 4000000 in
set_option maxRecDepth 100000 in
theorem without_calls (A0 : Option Addr) (c0 : Nat) (l0 : List Int) (a1 : Int) (w : World) (hr0 : Kd.C (Kd.int .i64) w A0 l0.length l0) (hc0 : l0.length ≤ c0) (hn : l0.length ≤ 17592186044416) :
    Calls Try.prog 25 #[.slice A0 l0.length c0, .int .i64 a1] w fun e w' => ∃ v0_ : Value, e = .returned (v0_) ∧ Kd.R (Kd.int .i64) 3 w' w.heap.size (fun _ => True) v0_ ((tidyOf l0).filter fun x => !(x == a1)) ∧ Below w.heap.size w w' := by
  have T := fun W h => tidy_own A0 c0 l0 W h hc0 hn
  have HT := Aside0.mk T
  have HR0 := Aside0.mk hr0
  clear T hr0 hc0 hn
  go_enter Try.func25, Try.ntmps25
  go_wp2_with fail
  (with_reducible refine (HT.out _ (Kd.C_alloc HR0.out _)).mono ?_)
  rintro e w1 ⟨g, cap, rfl, ho, hb⟩
  have hb0 : Below w.heap.size w w1 := below_step (below_alloc (Below.refl _ _) _) hb
  have hg : w.heap.size + 1 ≤ g := by
    have := own_base ho g rfl
    simpa using this
  have hsz : w.heap.size < w1.heap.size := by
    have := hb.size
    simp at this
    omega
  have hcell : w1.cell? ⟨w.heap.size, 0, none⟩ = some (.int .i64 a1) := (hb.cell (p := ⟨w.heap.size, 0, none⟩) (by simp)).trans (by simp)
  have hob : OwnInts w1 w.heap.size (.slice (some ⟨g, 0, none⟩) (tidyOf l0).length cap) (tidyOf l0) := own_weaken ho (by simp)
  have D := delete_calls w1 w.heap.size g cap w.heap.size a1 (tidyOf l0) hob hsz (by omega) hcell
  have HD := Aside0.mk D
  have HB := Aside0.mk hb0
  have HG : Aside0 (w.heap.size ≤ g) := ⟨by omega⟩
  clear D hb0 hb hg hsz hcell hob ho
  go_wp2_with fail
  (with_reducible refine HD.out.mono ?_)
  rintro e w2 ⟨rfl, ho2, hg2⟩
  have HO2 := Aside0.mk ho2
  have HB2 : Aside0 (Below w.heap.size w w2) := ⟨HB.out.grown hg2 HB.out.size (fun j hj => by cases hj; exact HG.out)⟩
  clear ho2 hg2
  go_wp2
  go_ret
  exact ⟨_, rfl, own_R HO2.out, HB2.out⟩

end Go.Proofs.YtamefocngapkpaaHand
/-! text YtamefocngapkpaaJoin -/
namespace Go.Proofs.YtamefocngapkpaaHand
open Go.RowKit Go.Sort Go.Lib Go.Shelf Go.Proofs.YtamefocngapkpaaW.PrintWords Go.Proofs.YtamefocngapkpaaW.PrintLast Go.Proofs.YtamefocngapkpaaMath
set_option linter.unusedVariables false
set_option linter.unusedSimpArgs false

theorem grow_calls (n : Nat) (hn : n * 8 ≤ 140737488355328) (w : World) :
    Calls Try.prog 77 #[.slice none 0 0, .int .i64 n] w fun e w' => ∃ v : Value, e = .returned v ∧ OwnInts w' w.heap.size v [] ∧ Below w.heap.size w w' := by
  rcases Nat.eq_zero_or_pos n with h0 | h0
  · subst h0
    have h := Any8.slices_Grow_room Try.growF none 0 0 0 w (Nat.le_refl _) (by omega) (by omega) (by omega)
    change Calls Try.prog 77 _ _ _ at h
    refine h.mono ?_
    rintro e w' ⟨rfl, rfl⟩
    exact ⟨_, rfl, own_nil _ _ _ _, Below.refl _ _⟩
  · obtain ⟨i0, hi, hz0, hz1, hz2⟩ := info_parts infoI
    have h := Any8.slices_Grow_grow Try.growF i0 (.int .i64 0) hi hz0 (by omega) none 0 0 n [] w (Nat.le_refl _) (by omega) (by rw [hz2]; omega) (by omega) (by simp) (fun _ => rfl) (fun a h => by cases h)
    change Calls Try.prog 77 _ _ _ at h
    refine h.mono ?_
    rintro e w' ⟨rfl, rfl⟩
    refine ⟨_, rfl, ⟨rfl, .inr ⟨w.heap.size, _, _, rfl, Nat.le_refl _, heap_alloc_new _ _, Nat.zero_le _, grownCap_le_maxLen _ _ _ _ (by simp only [maxLen]; omega), ?_, by simp [nums]⟩⟩, (below_drew (Below.refl _ _)).alloc (by simp) _⟩
    have h2 := grownCap_ge w (0 + n) 0 (Try.growF_ren.t 25)
    generalize grownCap w (0 + n) 0 (Try.growF_ren.t 25) = cp at h2 ⊢
    simp only [Builtin.zeroCells, Array.size_append, List.size_toArray, List.length_nil, Value.cells]
    simp
    omega

set_option maxHeartbeats 4000000 in
set_option maxRecDepth 100000 in
theorem concat_calls (B : Nat) (A0 A1 : Option Addr) (c0 c1 : Nat) (l0 l1 : List Int) (w : World) (hB : B < w.heap.size) (h0 : w.cell? ⟨B, 0, none⟩ = some (.slice A0 l0.length c0)) (h1 : w.cell? ⟨B, 1, none⟩ = some (.slice A1 l1.length c1))
    (hr0 : Kd.C (Kd.int .i64) w A0 l0.length l0) (hr1 : Kd.C (Kd.int .i64) w A1 l1.length l1) (hn : (l0.length + l1.length) * 8 ≤ 140737488355328) :
    Calls Try.prog 62 #[.slice (some ⟨B, 0, none⟩) 2 2] w fun e w' => ∃ v : Value, e = .returned v ∧ OwnInts w' w.heap.size v (l0 ++ l1) ∧ Below w.heap.size w w' := by
  have HR0 := Aside0.mk hr0
  have HR1 := Aside0.mk hr1
  have HN := Aside0.mk hn
  have H0 := Aside0.mk h0
  have H1 := Aside0.mk h1
  have HBB := Aside0.mk hB
  obtain ⟨z, hz⟩ : ∃ z : Int, z = ((l0.length + l1.length : Nat) : Int) := ⟨_, rfl⟩
  have G : ∀ w, Calls Try.prog 77 #[.slice none 0 0, .int .i64 z] w fun e w' => ∃ v : Value, e = .returned v ∧ OwnInts w' w.heap.size v [] ∧ Below w.heap.size w w' := fun w => by rw [hz]; exact grow_calls (l0.length + l1.length) hn w
  have HG := Aside0.mk G
  have s1 : wrap64 (l0.length : Int) = (l0.length : Int) := w64 (by omega) (by omega)
  have s2 : wrap64 ((l0.length : Int) + (l1.length : Int)) = z := by rw [hz, w64 (by omega) (by omega)]; omega
  have p0 : decide (z < 0) = false := decide_eq_false (by omega)
  clear G hr0 hr1 hn hB hz
  go_enter Try.func62, Try.ntmps62
  go_wp2
  go_loop [3, 5, 11] (fun v3 _ v11 => ∃ (k : Nat) (x y : Int), v11 = .int .i64 x ∧ v3 = .int .i64 y ∧ Aside0 (x = k ∧ k ≤ 2 ∧ y = (if k = 0 then 0 else if k = 1 then (l0.length : Int) else z))) (fun _ _ i => 2 - (intOf i).toNat)
  case atStart => exact ⟨0, 0, 0, rfl, rfl, ⟨rfl, by omega, rfl⟩⟩
  case round =>
    obtain ⟨k, x, y, rfl, rfl, HX⟩ := hrel
    obtain ⟨hx, hk, hy⟩ := HX.out
    clear HX
    have hc : k = 0 ∨ k = 1 ∨ k = 2 := by omega
    rcases hc with rfl | rfl | rfl
    · obtain rfl : x = 0 := hx
      obtain rfl : y = 0 := hy
      clear hk
      go_wp2
      go_round
      case measure => simp [intOf]
      case rel => exact ⟨1, _, _, rfl, rfl, ⟨by decide, by omega, by simp [s1]⟩⟩
    · obtain rfl : x = 1 := hx
      obtain rfl : y = (l0.length : Int) := hy
      clear hk
      go_wp2
      go_round
      case measure => simp [intOf]
      case rel => exact ⟨2, _, _, rfl, rfl, ⟨by decide, by omega, by simp [s2]⟩⟩
    · obtain rfl : x = 2 := hx
      obtain rfl : y = z := hy
      clear hk
      go_wp2_with fail
      (with_reducible refine (HG.out _).mono ?_)
      rintro e w1 ⟨v, rfl, ho, hb⟩
      have HO := Aside0.mk ho
      have HB := Aside0.mk hb
      clear ho hb
      go_wp2
      go_loopw [6, 8, 27] (fun v6 _ v27 wr => ∃ (k : Nat) (x : Int), v27 = .int .i64 x ∧ Aside0 (x = k ∧ k ≤ 2) ∧ Aside0 (OwnInts wr w.heap.size v6 (if k = 0 then ([] : List Int) else if k = 1 then ([] : List Int) ++ l0 else ([] : List Int) ++ l0 ++ l1)) ∧ Aside0 (Below w.heap.size w wr)) (fun _ _ i _ => 2 - (intOf i).toNat)
      case atStart => exact ⟨0, 0, rfl, ⟨rfl, by omega⟩, ⟨HO.out⟩, ⟨HB.out⟩⟩
      case round =>
        clear HO HB
        obtain ⟨k, x, rfl, HX, HO, HB⟩ := hrel
        obtain ⟨hx, hk⟩ := HX.out
        clear HX
        have hc : k = 0 ∨ k = 1 ∨ k = 2 := by omega
        rcases hc with rfl | rfl | rfl
        · obtain rfl : x = 0 := hx
          clear hk
          replace HO : Aside0 (OwnInts _ w.heap.size _ ([] : List Int)) := HO
          have k0 := (HB.out.cell (p := ⟨B, 0, none⟩) HBB.out).trans h0
          go_wp2_with ((with_reducible refine gate_builtin (b := .append) (xs := #[.tmp 31, .tmp 32]) rfl ?_); at_builtin; refine print_append_row (w0 := w) w.heap.size rfl (.tmp 31) (.tmp 32) 26 3 .i64 8 rfl Try.underlying26 infoI (by decide) _ ([] : List Int) l0 A0 _ _ rfl rfl ?aO ?aR ?aB ?aS ?aL ?_; (case aO => exact HO.out); (case aR => exact Kd.reads_of_C (Kd.C_below HR0.out HB.out)); (case aB => exact HB.out); (case aS => exact HB.out.size); (case aL => have := HN.out; simp; omega); intro v1 w2 ho1 hb1 hg1 hat; have HO1 := Aside0.mk ho1; have HB1 := Aside0.mk hb1; clear ho1 hb1 hg1 hat)
          go_roundw
          case measure => simp [intOf]
          case rel => exact ⟨1, _, rfl, ⟨by decide, by omega⟩, ⟨HO1.out⟩, ⟨HB1.out⟩⟩
        · obtain rfl : x = 1 := hx
          clear hk
          replace HO : Aside0 (OwnInts _ w.heap.size _ (([] : List Int) ++ l0)) := HO
          have k1 := (HB.out.cell (p := ⟨B, 1, none⟩) HBB.out).trans h1
          go_wp2_with ((with_reducible refine gate_builtin (b := .append) (xs := #[.tmp 31, .tmp 32]) rfl ?_); at_builtin; refine print_append_row (w0 := w) w.heap.size rfl (.tmp 31) (.tmp 32) 26 3 .i64 8 rfl Try.underlying26 infoI (by decide) _ (([] : List Int) ++ l0) l1 A1 _ _ rfl rfl ?aO ?aR ?aB ?aS ?aL ?_; (case aO => exact HO.out); (case aR => exact Kd.reads_of_C (Kd.C_below HR1.out HB.out)); (case aB => exact HB.out); (case aS => exact HB.out.size); (case aL => have := HN.out; simp; omega); intro v1 w2 ho1 hb1 hg1 hat; have HO1 := Aside0.mk ho1; have HB1 := Aside0.mk hb1; clear ho1 hb1 hg1 hat)
          go_roundw
          case measure => simp [intOf]
          case rel => exact ⟨2, _, rfl, ⟨by decide, by omega⟩, ⟨HO1.out⟩, ⟨HB1.out⟩⟩
        · obtain rfl : x = 2 := hx
          clear hk
          replace HO : Aside0 (OwnInts _ w.heap.size _ (([] : List Int) ++ l0 ++ l1)) := HO
          go_wp2
          go_ret
          exact ⟨_, rfl, by simpa using HO.out, HB.out⟩

theorem concat_reads (B : Nat) (A0 A1 : Option Addr) (c0 c1 : Nat) (l0 l1 : List Int) (w : World) (hB : B < w.heap.size) (h0 : w.cell? ⟨B, 0, none⟩ = some (.slice A0 l0.length c0)) (h1 : w.cell? ⟨B, 1, none⟩ = some (.slice A1 l1.length c1))
    (hr0 : Kd.C (Kd.int .i64) w A0 l0.length l0) (hr1 : Kd.C (Kd.int .i64) w A1 l1.length l1) (hn : (l0.length + l1.length) * 8 ≤ 140737488355328) :
    Calls Try.prog 62 #[.slice (some ⟨B, 0, none⟩) 2 2] w fun e w' => ∃ (zs : List Int) (A : Option Addr) (c : Nat), Aside0 (zs = l0 ++ l1) ∧ e = .returned (.slice A zs.length c) ∧ zs.length ≤ c ∧ Kd.C (Kd.int .i64) w' A zs.length zs ∧ Below w.heap.size w w' := by
  refine (concat_calls B A0 A1 c0 c1 l0 l1 w hB h0 h1 hr0 hr1 hn).mono ?_
  rintro e w' ⟨v, rfl, ho, hb⟩
  obtain ⟨A, c, rfl, hl, hC⟩ := Kd.R_reads (own_R ho)
  exact ⟨_, A, c, ⟨rfl⟩, rfl, hl, hC, hb⟩

set_option maxHeartbeats 4000000 in
set_option maxRecDepth 100000 in
theorem join_calls (A0 A1 : Option Addr) (c0 c1 : Nat) (l0 l1 : List Int) (w : World) (hr0 : Kd.C (Kd.int .i64) w A0 l0.length l0) (hc0 : l0.length ≤ c0) (hr1 : Kd.C (Kd.int .i64) w A1 l1.length l1) (hc1 : l1.length ≤ c1) (hn : l0.length + l1.length ≤ 17592186044416) :
    Calls Try.prog 26 #[.slice A0 l0.length c0, .slice A1 l1.length c1] w fun e w' => ∃ v0_ : Value, e = .returned (v0_) ∧ Kd.R (Kd.int .i64) 3 w' w.heap.size (fun _ => True) v0_ (tidyOf (l0 ++ l1)) ∧ Below w.heap.size w w' := by
  have HR0 := Aside0.mk hr0
  have HR1 := Aside0.mk hr1
  have HN := Aside0.mk hn
  clear hr0 hc0 hr1 hc1 hn
  go_enter Try.func26, Try.ntmps26
  go_wp2_with fail
  (with_reducible refine (concat_reads _ A0 A1 c0 c1 l0 l1 _ ?h1 ?h2 ?h3 ?h4 ?h5 ?h6).mono ?_)
  case h1 => simp
  case h2 => simp
  case h3 => simp
  case h4 => exact Kd.C_alloc HR0.out _
  case h5 => exact Kd.C_alloc HR1.out _
  case h6 => have := HN.out; omega
  rintro e w1 ⟨zs, A, c, HZ, rfl, hl, hC, hb⟩
  have hb0 : Below w.heap.size w w1 := below_step (below_alloc (Below.refl _ _) _) hb
  have hzl : zs.length ≤ 17592186044416 := by have := HN.out; rw [HZ.out]; simp; omega
  have T := tidy_calls A c zs w1 hC hl hzl
  clear hzl
  have HT := Aside0.mk T
  have HB := Aside0.mk hb0
  clear T hb0 hb hl hC
  go_wp2_with fail
  (with_reducible refine HT.out.mono ?_)
  rintro e w2 ⟨v2, rfl, ho2, hb2⟩
  rw [HZ.out] at ho2
  have HO2 := Aside0.mk (Kd.R_lower ho2 HB.out.size)
  have HB2 : Aside0 (Below w.heap.size w w2) := ⟨below_step HB.out hb2⟩
  clear ho2 hb2
  go_wp2
  go_ret
  exact ⟨_, rfl, HO2.out, HB2.out⟩

end Go.Proofs.YtamefocngapkpaaHand
