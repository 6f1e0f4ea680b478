/- What atmost's parts answer: whether variables are unlike; a helper's number; a clause put behind the others. -/
import Derived.Test.YtlemkghpcbkcpaaClAtmostKeepsg
import Derived.Test.YtlemkghpcbkcpaaWApart
import Derived.StillTailTactics
import Derived.OneCell
/-! text YtlemkghpcbkcpaaAtmost -/
namespace Go.Proofs.YtlemkghpcbkcpaaHand
open Go.RowKit Go.Proofs.YtlemkghpcbkcpaaW.PrintWords Go.Proofs.YtlemkghpcbkcpaaW.PrintLast Go.Proofs.YtlemkghpcbkcpaaMath Go.Proofs.YtlemkghpcbkcpaaMaps Go.Maps
set_option linter.unusedVariables false
set_option linter.unusedSimpArgs false

theorem helpers_calls (n k r : Int) (w : World) (hn : 0 ≤ n) (hn2 : n ≤ 1048576) (hk : 0 ≤ k) (h : helpersOf n k = r) : Calls Try.prog 31 #[.int .i64 n, .int .i64 k] w fun e w' => e = .returned (.int .i64 r) ∧ w = w' := by
  unfold helpersOf at h
  by_cases h0 : k = 0
  · subst h0
    obtain rfl : r = 0 := by simpa using h.symm
    clear h hn hn2 hk
    go_enter Try.func31, Try.ntmps31
    go_wp2
    go_ret
    exact ⟨rfl, rfl⟩
  · have e0 : (k == 0) = false := beq_eq_false_iff_ne.mpr h0
    by_cases h1 : k ≥ n
    · have e1 : decide (k ≥ n) = true := decide_eq_true h1
      have e2 : decide (n ≤ k) = true := decide_eq_true h1
      rw [if_pos (.inr h1)] at h
      subst h
      clear hn hn2 hk h0 h1
      go_enter Try.func31, Try.ntmps31
      go_wp2
      go_ret
      exact ⟨rfl, rfl⟩
    · have e1 : decide (k ≥ n) = false := decide_eq_false h1
      have e2 : decide (n ≤ k) = false := decide_eq_false h1
      rw [if_neg (by omega)] at h
      have hb : 0 ≤ (n - 1) * k := Int.mul_nonneg (by omega) hk
      have hb2 : (n - 1) * k ≤ 1048576 * 1048576 := Int.mul_le_mul (by omega) (by omega) hk (by omega)
      have HR : Aside0 (wrap64 (wrap64 (n - 1) * k) = r) := ⟨by rw [w64 (x := n - 1) (by omega) (by omega), w64 (by omega) (by omega)]; exact h⟩
      clear hn hn2 hk h0 h1 hb hb2 h
      go_enter Try.func31, Try.ntmps31
      go_wp2
      go_ret
      exact ⟨by rw [← HR.out]; rfl, rfl⟩

/-! ### unlike -/
theorem mapK : Keyed Try.prog 3 := int_keyed Try.underlying3
theorem zeroI (w : World) : (zeroValue 3).run Try.prog w = .ok (.int .i64 0) w := by kernel_rfl
abbrev IMI (W : World) (B n : Nat) (f : Int → Option Int) (c : Nat) : Prop := IM Try.prog 3 intKeys (intElem Try.prog 3 Try.underlying3) W B n f c
theorem hkeyI {x : Int} (h : -9223372036854775808 ≤ x ∧ x ≤ 9223372036854775807) : keyOf Try.prog 3 (.int .i64 x) = some (intKeys.kl x) := keyOf_int_mk Try.underlying3 (WalkArith.wf_i64 h)

theorem im_look_run {W : World} {B n c : Nat} {f : Int → Option Int} (h : IMI W B n f c) (v : Int) (hv : -9223372036854775808 ≤ v ∧ v ≤ 9223372036854775807) : (Instr.lookup 58 (.map (some B)) (.int .i64 v) false).run Try.prog W = .ok (.int .i64 ((f v).getD 0)) W :=
  h.look mapK Try.underlying58 (z := (0 : Int)) (zeroI _) (show (Lit.int .i64 0).wf = true by decide) (hkeyI hv)

/-- the variables of so many are unlike: what is seen -/
def Seen (l : List Int) (k : Nat) (f : Int → Option Int) : Prop := ∀ v, f v = if v ∈ (l.take k).map varOf then some 1 else none
theorem seen_step {l : List Int} {k : Nat} {f : Int → Option Int} (hk : k < l.length) (h : Seen l k f) : Seen l (k + 1) (upd f (varOf (rd l (k : Int))) 1) := by
  intro v
  rw [take_rd hk, List.map_append, List.map_cons, List.map_nil]
  by_cases hv : v = varOf (rd l (k : Int))
  · subst hv
    rw [upd_same, if_pos (by simp)]
  · rw [upd_other _ _ hv, h v]
    simp [hv]
theorem unlike_bad0 {l : List Int} {k : Nat} (hk : k < l.length) (h : formed (rd l (k : Int)) = false) : unlikeOf l = false := by
  cases hu : unlikeOf l with
  | false => rfl
  | true => rw [sound_mem (unlike_sound hu) (rd_mem hk)] at h; cases h
theorem unlike_bad1 {l : List Int} {k : Nat} (hk : k < l.length) (h : varOf (rd l (k : Int)) ∈ (l.take k).map varOf) : unlikeOf l = false := by
  cases hu : unlikeOf l with
  | false => rfl
  | true =>
    unfold unlikeOf at hu
    rw [Bool.and_eq_true, decide_eq_true_eq] at hu
    have h2 := hu.2
    rw [← List.take_append_drop k l, drop_rd hk, List.map_append, List.map_cons, List.nodup_append] at h2
    exact absurd rfl (h2.2.2 _ h _ (by simp))
theorem unlike_good {l : List Int} (h1 : ∀ x ∈ l, formed x = true) (h2 : (l.map varOf).Nodup) : unlikeOf l = true := by
  unfold unlikeOf
  rw [Bool.and_eq_true, decide_eq_true_eq]
  exact ⟨List.all_eq_true.2 h1, h2⟩
theorem nodup_step {l : List Int} {k : Nat} (hk : k < l.length) (h : ((l.take k).map varOf).Nodup) (hn : ¬ varOf (rd l (k : Int)) ∈ (l.take k).map varOf) : ((l.take (k + 1)).map varOf).Nodup := by
  rw [take_rd hk, List.map_append, List.map_cons, List.map_nil, List.nodup_append]
  refine ⟨h, by simp, ?_⟩
  intro a ha b hb
  rw [List.mem_singleton] at hb
  subst hb
  rintro rfl
  exact hn ha

set_option maxHeartbeats 4000000 in
set_option maxRecDepth 100000 in
theorem unlike_calls (A0 : Option Addr) (c0 : Nat) (l0 : List Int) (w : World) (hr0 : Kd.C (Kd.int .i64) w A0 l0.length l0) (hn : l0.length ≤ 17592186044416) :
    Calls Try.prog 34 #[.slice A0 l0.length c0] w fun e w' => e = .returned (.bool (unlikeOf l0)) ∧ Below w.heap.size w w' := by
  have HR0 := Aside0.mk hr0
  have HN := Aside0.mk hn
  have hmm := @run_makeMap Try.prog
  clear hn hr0
  go_enter Try.func34, Try.ntmps34
  go_wp2
  go_loopw [10] (fun v10 wr => ∃ (k : Nat) (x : Int) (f : Int → Option Int) (c : Nat), v10 = .int .i64 x ∧ Aside0 (x = k ∧ k ≤ l0.length) ∧ Aside0 (IMI wr w.heap.size k f c ∧ Seen l0 k f ∧ (∀ x ∈ l0.take k, formed x = true) ∧ ((l0.take k).map varOf).Nodup) ∧ Aside0 (Below w.heap.size w wr)) (fun i _ => l0.length - (intOf i).toNat)
  case atStart => exact ⟨0, 0, fun _ => none, 0, rfl, ⟨rfl, Nat.zero_le _⟩, ⟨IM.made w, fun v => by simp, by simp, by simp⟩, ⟨(Below.refl _ _).alloc (Nat.le_refl _) _⟩⟩
  case round =>
    obtain ⟨k, x, f, c, rfl, HX, HM, HB⟩ := hrel
    obtain ⟨hxk, hk⟩ := HX.out
    by_cases hlt : k < l0.length
    · have p1 : 0 ≤ x := by omega
      have q1 : x < (l0.length : Int) := by omega
      obtain ⟨ad, e1, hcell⟩ := Kd.at_int (Kd.C_below HR0.out HB.out) x p1 q1
      subst e1
      have p2 := eq_true p1
      have q2 := eq_true q1
      have q3 : decide (x < (l0.length : Int)) = true := decide_eq_true q1
      have HX2 : Aside0 (wrap64 (x + 1) = ((k + 1 : Nat) : Int) ∧ k + 1 ≤ l0.length) := by
        have := HN.out
        exact ⟨by rw [w64 (by omega) (by omega)]; omega, by omega⟩
      have hm : (intOf (.int .i64 (wrap64 (x + 1)))).toNat = k + 1 := by rw [HX2.out.1]; simp [intOf]
      have hm0 : (intOf (.int .i64 x)).toNat = k := by rw [hxk]; simp [intOf]
      have HMS : Aside0 (l0.length - (intOf (.int .i64 (wrap64 (x + 1)))).toNat < l0.length - (intOf (.int .i64 x)).toNat) := ⟨by rw [hm, hm0]; omega⟩
      have HLT := Aside0.mk hlt
      have hrd : rd l0 x = rd l0 (k : Int) := by rw [hxk]
      rw [hrd] at hcell
      obtain ⟨y, hy⟩ : ∃ y, y = rd l0 (k : Int) := ⟨_, rfl⟩
      rw [← hy] at hcell
      have HY := Aside0.mk hy
      have V := fun w => var_calls y (varOf y) w rfl
      cases hf : formed y with
      | false =>
        have HU : Aside0 (unlikeOf l0 = false) := ⟨unlike_bad0 hlt (by rw [← hy]; exact hf)⟩
        rw [varOf_none hf] at V
        clear hf hm hm0 hxk hk hlt p1 q1 hrd hy HX
        go_wp2_with (go_at_call 35; (with_reducible refine (V _).mono ?_); rintro e w' ⟨rfl, ⟨nd, rfl⟩⟩)
        go_ret
        exact ⟨by rw [HU.out]; rfl, pw_below_drewN HB.out _⟩
      | true =>
        have hvb := varOf_formed hf
        obtain ⟨v, hv⟩ : ∃ v, v = varOf y := ⟨_, rfl⟩
        rw [← hv] at V hvb
        have z0 : (v == 0) = false := beq_eq_false_iff_ne.mpr (by omega)
        have HV := Aside0.mk hv
        have HVB := Aside0.mk hvb
        have HF := Aside0.mk hf
        by_cases hin : v ∈ (l0.take k).map varOf
        · have hfv : f v = some 1 := by rw [HM.out.2.1 v, if_pos hin]
          have L : ∀ nd, (Instr.lookup 58 (.map (some w.heap.size)) (.int .i64 v) false).run Try.prog (wr.drewN nd) = .ok (.int .i64 1) (wr.drewN nd) := fun nd => by
            have := im_look_run (IM.drewN HM.out.1 nd) v (by omega)
            rwa [hfv] at this
          have HU : Aside0 (unlikeOf l0 = false) := ⟨unlike_bad1 hlt (by rw [← hy, ← hv]; exact hin)⟩
          clear hf hm hm0 hxk hk hlt p1 q1 hrd hy HX hvb hv hin hfv
          go_wp2_with (go_at_call 35; (with_reducible refine (V _).mono ?_); rintro e w' ⟨rfl, ⟨nd, rfl⟩⟩)
          go_ret
          exact ⟨by rw [HU.out]; rfl, pw_below_drewN HB.out _⟩
        · have hfv : f v = none := by rw [HM.out.2.1 v, if_neg hin]
          have L : ∀ nd, (Instr.lookup 58 (.map (some w.heap.size)) (.int .i64 v) false).run Try.prog (wr.drewN nd) = .ok (.int .i64 0) (wr.drewN nd) := fun nd => by
            have := im_look_run (IM.drewN HM.out.1 nd) v (by omega)
            rwa [hfv] at this
          have HFV := Aside0.mk hfv
          have HIN := Aside0.mk hin
          clear hf hm hm0 hxk hk hlt p1 q1 hrd hy HX hvb hv hin hfv
          go_wp2_with (first
            | (go_at_call 35; (with_reducible refine (V _).mono ?_); rintro e w' ⟨rfl, ⟨nd, rfl⟩⟩)
            | (at_mapUpdate; refine im_store_int _ Try.underlying3 rfl _ _ _ 58 rfl mapK Try.underlying58 rfl (IM.drewN HM.out.1 _) (by have := HLT.out; have := HN.out; unfold maxLen; omega) _ v 1 rfl rfl (hkeyI (by have := HVB.out; omega)) (by decide) ?_; intro w1 him hg))
          go_roundw
          case measure => exact HMS.out
          case rel =>
            refine ⟨k + 1, _, upd f v 1, _, rfl, HX2, ⟨him, ?_, ?_, ?_⟩, ⟨(pw_below_drewN HB.out _).grown hg (by have := HB.out.size; exact this) (fun j hj => by cases hj; exact Nat.le_refl _)⟩⟩
            · have := seen_step HLT.out HM.out.2.1
              rw [← HY.out, ← HV.out] at this
              exact this
            · intro z hz
              rw [take_rd HLT.out, List.mem_append, List.mem_singleton] at hz
              rcases hz with hz | rfl
              · exact HM.out.2.2.1 z hz
              · rw [← HY.out]; exact HF.out
            · exact nodup_step HLT.out HM.out.2.2.2 (by rw [← HY.out, ← HV.out]; exact HIN.out)
    · obtain rfl : k = l0.length := by omega
      have q3 : decide (x < (l0.length : Int)) = false := decide_eq_false (by omega)
      have HU : Aside0 (unlikeOf l0 = true) := by
        obtain ⟨_, _, h1, h2⟩ := HM.out
        rw [List.take_length] at h1 h2
        exact ⟨unlike_good h1 h2⟩
      clear hxk hk hlt HX HM
      go_wp2
      go_ret
      exact ⟨by rw [HU.out]; rfl, HB.out⟩
end Go.Proofs.YtlemkghpcbkcpaaHand
/-! text YtlemkghpcbkcpaaAtmostClauses -/
namespace Go.Proofs.YtlemkghpcbkcpaaMath
open Go.RowKit Go.Proofs.YtlemkghpcbkcpaaW.PrintWords
/-- a helper's number as the code reckons it -/
def svw (k first i j : Int) : Int := wrap64 (wrap64 (wrap64 (first + wrap64 (wrap64 (i - 1) * k)) + j) - 1)
theorem svw_eq {k first i j : Int} (hk : 0 ≤ k ∧ k ≤ 1048576) (hf : 0 ≤ first ∧ first ≤ 1048577) (hi : 0 ≤ i ∧ i ≤ 1048577) (hj : 0 ≤ j ∧ j ≤ 1048577) : svw k first i j = sv k first i j := by
  have h1 : (i - 1) * k ≤ 1048577 * 1048576 := Int.mul_le_mul (by omega) hk.2 hk.1 (by omega)
  have h2 : -1048576 ≤ (i - 1) * k := by
    have : (0 - 1) * k ≤ (i - 1) * k := Int.mul_le_mul_of_nonneg_right (by omega) hk.1
    omega
  unfold svw sv
  rw [w64 (x := i - 1) (by omega) (by omega), w64 (x := (i - 1) * k) (by omega) (by omega), w64 (x := first + (i - 1) * k) (by omega) (by omega), w64 (x := first + (i - 1) * k + j) (by omega) (by omega), w64 (by omega) (by omega)]
theorem sv_bd {k first i j : Int} {n : Int} (hk : 1 ≤ k ∧ k ≤ 1048576) (hf : 1 ≤ first) (hn : first + (n - 1) * k ≤ 1048577) (hi : 1 ≤ i ∧ i ≤ n - 1) (hj : 1 ≤ j ∧ j ≤ k) : 1 ≤ sv k first i j ∧ sv k first i j ≤ 1048576 := by
  have h0 : 0 ≤ (i - 1) * k := Int.mul_nonneg (by omega) (by omega)
  have h1 : (i - 1) * k ≤ (n - 1 - 1) * k := Int.mul_le_mul_of_nonneg_right (by omega) (by omega)
  have h2 : (n - 1 - 1) * k = (n - 1) * k - k := by rw [Int.sub_mul (n - 1) 1 k]; omega
  unfold sv
  omega
end Go.Proofs.YtlemkghpcbkcpaaMath
namespace Go.Proofs.YtlemkghpcbkcpaaHand
open Go.RowKit Go.Proofs.YtlemkghpcbkcpaaW.PrintWords Go.Proofs.YtlemkghpcbkcpaaW.PrintLast Go.Proofs.YtlemkghpcbkcpaaMath Go.Proofs.YtlemkghpcbkcpaaMaps Go.Maps
set_option linter.unusedVariables false
set_option linter.unusedSimpArgs false

theorem s_calls (Bf Bk : Nat) (k first i j : Int) (w : World) (hf : w.cell? ⟨Bf, 0, none⟩ = some (.int .i64 first)) (hk : w.cell? ⟨Bk, 0, none⟩ = some (.int .i64 k)) :
    Calls Try.prog 36 #[.int .i64 i, .int .i64 j, .pointer (some ⟨Bf, 0, none⟩), .pointer (some ⟨Bk, 0, none⟩)] w fun e w' => e = .returned (.int .i64 (svw k first i j)) ∧ w' = w := by
  go_enter Try.func36, Try.ntmps36
  go_wp2
  go_ret
  exact ⟨rfl, rfl⟩

/-- the clauses that lie in the variable at block Bc -/
structure CW (w0 : World) (Bc : Nat) (W : World) (xs : List (List Int)) : Prop where
  hB : Below w0.heap.size w0 W
  hc0 : w0.heap.size ≤ Bc
  c : ∃ v, W.heap[Bc]? = some (.cells #[v] 34 (0, 0)) ∧ Kd.S (Kd.slice 3 (Kd.int .i64)) 33 W w0.heap.size (fun _ => True) v xs
theorem CW.below {w0 : World} {Bc : Nat} {W W1 : World} {xs : List (List Int)} (h : CW w0 Bc W xs) (hb : Below W.heap.size W W1) : CW w0 Bc W1 xs := by
  obtain ⟨v, h1, h2⟩ := h.c
  exact ⟨below_then h.hB h.hB.size hb, h.hc0, v, (hb.block Bc (lt_of_block h1)).trans h1, Kd.S_below h2 hb⟩
theorem CW.drew {w0 : World} {Bc : Nat} {W : World} {xs : List (List Int)} (h : CW w0 Bc W xs) : CW w0 Bc W.drew xs := h.below (below_drew (Below.refl _ _))
theorem CW.start (w0 : World) : CW w0 w0.heap.size (w0.alloc (.cells #[.slice none 0 0] 34)) [] :=
  ⟨(Below.refl _ _).alloc (Nat.le_refl _) _, Nat.le_refl _, _, heap_alloc_new _ _, Kd.S_nil _ _ _ _ _⟩
theorem CW.lt {w0 : World} {Bc : Nat} {W : World} {xs : List (List Int)} (h : CW w0 Bc W xs) : Bc < W.heap.size := by
  obtain ⟨v, h1, _⟩ := h.c
  exact lt_of_block h1

theorem infoRow : (Try.prog.info? 33).map (fun i => (i.zero, i.size, i.bytes)) = some (some (.slice none 0 0), 1, 24) := by kernel_rfl

set_option maxHeartbeats 1000000 in
theorem put_any (w0 : World) (Bc : Nat) (W : World) (xs : List (List Int)) (ys : List Int) (h : CW w0 Bc W xs) (hn : xs.length < 5864062014805) (hy : ys.length ≤ 9223372036854775807) :
    Calls Try.prog 47 #[.slice (some ⟨W.heap.size, 0, none⟩) ys.length ys.length, .pointer (some ⟨Bc, 0, none⟩)] (W.alloc (.cells (nums .i64 ys).toArray 3)) fun e w' => e = .returned (.tuple #[]) ∧ CW w0 Bc w' (xs ++ [ys]) := by
  obtain ⟨W1, hW1⟩ : ∃ W1, W1 = W.alloc (.cells (nums .i64 ys).toArray 3) := ⟨_, rfl⟩
  obtain ⟨v, hb, hs⟩ := h.c
  have hlt := lt_of_block hb
  have hal : Below W.heap.size W W1 := by rw [hW1]; exact (Below.refl _ _).alloc (Nat.le_refl _) _
  have hb1 : W1.heap[Bc]? = some (.cells #[v] 34 (0, 0)) := (hal.block Bc hlt).trans hb
  have hown : W1.ownsRow w0.heap.size 3 1 (.slice (some ⟨W.heap.size, 0, none⟩) ys.length ys.length) ys.length (nums .i64 ys) := by rw [hW1]; exact own_lit W _ _ _ ys h.hB.size hy
  have hR : Kd.R (Kd.int .i64) 3 W1 w0.heap.size (fun _ => True) (.slice (some ⟨W.heap.size, 0, none⟩) ys.length ys.length) ys := Kd.R_of_own hown (fun _ _ => trivial)
  have hs1 : Kd.S (Kd.slice 3 (Kd.int .i64)) 33 W1 w0.heap.size (fun k => True ∧ some k ≠ (Value.slice (some ⟨W.heap.size, 0, none⟩) ys.length ys.length).ownBlock) v xs :=
    Kd.S_elder' hs (fun k hk => by simp [Value.ownBlock] at hk; omega) hal
  have hB1 : Below w0.heap.size w0 W1 := below_then h.hB h.hB.size hal
  have hsz : w0.heap.size ≤ W1.heap.size := hB1.size
  have hBc0 := h.hc0
  have HB1 := Aside0.mk hB1
  have HBL := Aside0.mk hb1
  have HS := Aside0.mk hs1
  have HR := Aside0.mk hR
  have HN := Aside0.mk hn
  have HSZ := Aside0.mk hsz
  have HC0 := Aside0.mk hBc0
  rw [← hW1]
  have c1 := cell_of_one hb1
  have z1 := free_of_one hb1
  have HLT : Aside0 (Bc < W1.heap.size) := ⟨lt_of_block hb1⟩
  clear hB1 hs1 hR hown hb1 hal hs hb h hlt hW1 hsz hn hBc0
  generalize W.heap.size = g at *
  go_enter Try.func47, Try.ntmps47
  go_wp2_with ((with_reducible refine gate_builtin (b := .append) (xs := #[.tmp 3, .tmp 5]) rfl ?_); at_builtin; refine Kd.S_append (Kd.slice 3 (Kd.int .i64)) (w0 := w0) w0.heap.size rfl (.tmp 3) (.tmp 5) 34 33 (.slice none 0 0) 24 rfl Try.underlying34 infoRow rfl (by decide) (by omega) v xs ys [.slice (some ⟨g, 0, none⟩) ys.length ys.length] (fun _ => True) (fun k_ => some k_ = (.slice (some ⟨g, 0, none⟩) ys.length ys.length : Value).ownBlock) rfl rfl ?aP ?aK (fun _ _ => trivial) ?aO ?aB ?aS ?aL ?_; (case aP => exact Kd.M_row (Kd.R_tight rfl HR.out)); (case aK => exact fun k hk => ⟨trivial, fun e => by obtain ⟨cells, hc⟩ := Kd.S_typed HS.out k e.symm; obtain ⟨cells', hc'⟩ := Kd.R_typed HR.out k hk.symm; rw [hc] at hc'; injection hc' with hc'; injection hc' with _ hc'; exact absurd hc' (by decide)⟩); (case aO => exact Kd.S_mono HS.out (fun k hk => hk)); (case aB => exact HB1.out); (case aS => exact HSZ.out); (case aL => have := HN.out; omega); intro v2 w2 ho hb hg hat; obtain ⟨A2, cap2, e2⟩ := Kd.S_slice ho; rw [List.length_append, List.length_singleton] at e2; subst e2; have HO2 := Aside0.mk ho; have HB2 := Aside0.mk hb; have HG2 := Aside0.mk hg; have HBc2 : Aside0 (w2.heap[Bc]? = some (.cells #[v] 34 (0, 0))) := ⟨(hg.block Bc HLT.out (fun e => by obtain ⟨cells, hc⟩ := Kd.S_typed HS.out Bc e.symm; rw [HBL.out] at hc; injection hc with hc; injection hc with _ hc; exact absurd hc (by decide))).trans HBL.out⟩; have c2 := cell_of_one HBc2.out; have z2 := free_of_one HBc2.out; clear ho hb hg hat)
  go_end0
  refine ⟨rfl, ⟨HB2.out.setCell (p := ⟨Bc, 0, none⟩) HC0.out _, HC0.out, _, one_setCell HBc2.out, Kd.S_set HO2.out HBc2.out (by decide) 0 _⟩⟩

theorem put1 (w0 : World) (Bc : Nat) (W : World) (xs : List (List Int)) (a : Int) (h : CW w0 Bc W xs) (hn : xs.length < 5864062014805) :
    Calls Try.prog 47 #[.slice (some ⟨W.heap.size, 0, none⟩) 1 1, .pointer (some ⟨Bc, 0, none⟩)] (W.alloc (.cells #[.int .i64 a] 3)) fun e w' => e = .returned (.tuple #[]) ∧ CW w0 Bc w' (xs ++ [[a]]) :=
  put_any w0 Bc W xs [a] h hn (by simp)
theorem put2 (w0 : World) (Bc : Nat) (W : World) (xs : List (List Int)) (a b : Int) (h : CW w0 Bc W xs) (hn : xs.length < 5864062014805) :
    Calls Try.prog 47 #[.slice (some ⟨W.heap.size, 0, none⟩) 2 2, .pointer (some ⟨Bc, 0, none⟩)] (W.alloc (.cells #[.int .i64 a, .int .i64 b] 3)) fun e w' => e = .returned (.tuple #[]) ∧ CW w0 Bc w' (xs ++ [[a, b]]) :=
  put_any w0 Bc W xs [a, b] h hn (by simp)
theorem put2d (w0 : World) (Bc : Nat) (W : World) (xs : List (List Int)) (a b : Int) (h : CW w0 Bc W xs) (hn : xs.length < 5864062014805) :
    Calls Try.prog 47 #[.slice (some ⟨W.heap.size, 0, none⟩) 2 2, .pointer (some ⟨Bc, 0, none⟩)] (W.alloc (.cells #[.int .i64 a, .int .i64 b] 3)).drew fun e w' => e = .returned (.tuple #[]) ∧ CW w0 Bc w' (xs ++ [[a, b]]) :=
  put2 w0 Bc W.drew xs a b h.drew hn
theorem put3 (w0 : World) (Bc : Nat) (W : World) (xs : List (List Int)) (a b c : Int) (h : CW w0 Bc W xs) (hn : xs.length < 5864062014805) :
    Calls Try.prog 47 #[.slice (some ⟨W.heap.size, 0, none⟩) 3 3, .pointer (some ⟨Bc, 0, none⟩)] (W.alloc (.cells #[.int .i64 a, .int .i64 b, .int .i64 c] 3)) fun e w' => e = .returned (.tuple #[]) ∧ CW w0 Bc w' (xs ++ [[a, b, c]]) :=
  put_any w0 Bc W xs [a, b, c] h hn (by simp)
end Go.Proofs.YtlemkghpcbkcpaaHand
