/- lits.Join at lists of any length that memory bears: slices.Grow, slices.Concat and lits.Tidy up to 2^48 bytes; appends stay within the room that was made. -/
import Derived.Test.YtamefocngapkpaaClLitsSparesh
import Derived.Lib.AppendZerosOnto
import Derived.Lib.AppendZeros
import Derived.Test.YtamefocngapkpaaClLitsSparesd
import Derived.RangeFuncNested
import Derived.RangeFuncBound
import Derived.RangeFuncCalls
import Derived.RangeFuncLeaves
import Derived.Shelf.Abstract
import Derived.Shelf.RegionOpen
import Derived.WalkKit
import Derived.OwnWalkIn
import Derived.TacticsInMore
import Derived.LoopNIn
import Derived.LoopIn
/-! text YtamefocngapkpaaWide -/
namespace Go.Proofs.YtamefocngapkpaaHand
open Go.RowKit Go.Sort Go.Lib Go.Shelf Go.Proofs.YtamefocngapkpaaW.PrintWords Go.Proofs.YtamefocngapkpaaW.PrintLast Go.Proofs.YtamefocngapkpaaMath
set_option linter.unusedVariables false
set_option linter.unusedSimpArgs false

theorem room_append {P : Program} {ops : Array Oper} {rest : List Oper} {o : Oper} {a : Act} {Q : Exit → Act → World → Prop} {w0 W : World} (base : Nat) (hgd : o.guard = none) (s x : Operand) (t e : TypeId) (k : IntKind) (bytes : Nat)
    (ho : o.op = .call { callee := .builtin .append, args := #[s, x], argTypes := #[t, t] })
    (ht : P.underlying t = some (.slice e)) (hinfo : (P.info? e).map (fun i => (i.zero, i.size, i.bytes)) = some (some (.int k 0), 1, bytes))
    (g cap : Nat) (xs ys : List Int) (A : Option Addr) (m c : Nat) (hs : a.eval s = .slice (some ⟨g, 0, none⟩) xs.length cap) (hx : a.eval x = .slice A m c)
    (HO : W.ownsRow base e 1 (.slice (some ⟨g, 0, none⟩) xs.length cap) xs.length (nums k xs)) (HR : ReadsInt W k A m ys) (HB : Below base w0 W) (hbase : base ≤ W.heap.size) (hroom : xs.length + m ≤ cap)
    (h : ∀ w1, w1.ownsRow base e 1 (.slice (some ⟨g, 0, none⟩) (xs ++ ys).length cap) (xs ++ ys).length (nums k (xs ++ ys)) → Below base w0 w1 → W.grownBy w1 (some g) → wpList P ops Q rest (a.put o.dst (.slice (some ⟨g, 0, none⟩) (xs ++ ys).length cap)) w1) :
    wpList P ops Q (o :: rest) a W := by
  obtain ⟨i0, hi, hzz⟩ := Option.map_eq_some_iff.1 hinfo
  simp only [Prod.mk.injEq] at hzz
  obtain ⟨hz0, hz1, hz2⟩ := hzz
  have hm : ys.length = m := HR.1
  have hlen : (xs ++ ys).length = xs.length + m := by rw [List.length_append, hm]
  have hrun : ∃ w1, (Builtin.append_ #[t, t] o.type #[.slice (some ⟨g, 0, none⟩) xs.length cap, .slice A m c]).run P W = .ok (.slice (some ⟨g, 0, none⟩) (xs.length + m) cap) w1 ∧ w1.ownsRow base e 1 (.slice (some ⟨g, 0, none⟩) (xs ++ ys).length cap) (xs ++ ys).length (nums k (xs ++ ys)) ∧ W.grownBy w1 (some g) := by
    rcases A with _ | ad
    · have h0 : m = 0 := by
        rcases Nat.eq_zero_or_pos m with h0 | h0
        · exact h0
        · obtain ⟨ad, h, _⟩ := HR.2.2 h0
          cases h
      subst h0
      obtain rfl : ys = [] := List.eq_nil_of_length_eq_zero hm
      refine ⟨W, ?_, by simpa using HO, World.grownBy.refl W _⟩
      have hnc : xs.length ≤ cap := by omega
      simp [Builtin.append_, run_underlying ht, sizeOf, typeInfo, hi, Builtin.lenOf, Builtin.firstCells, hnc, storeCells]
    · have hcells : ∀ j u, (nums k ys)[j]? = some u → W.cell? (ad.add j) = some u := by
        intro j u hu
        have hj : j < ys.length := by
          rcases Nat.lt_or_ge j ys.length with h | h
          · exact h
          · simp [nums, List.getElem?_eq_none h] at hu
        obtain ⟨ad', h', hc⟩ := HR.2.2 (by omega)
        injection h' with h'
        subst h'
        have := hc j (by omega)
        simp [nums, List.getElem?_eq_getElem hj] at hu
        subst hu
        rw [this]
        simp [List.getD_eq_getElem?_getD, List.getElem?_eq_getElem hj]
      have hone : ∀ u ∈ nums k ys, u.oneCell' = true := by intro u hu; simp only [nums, List.mem_map] at hu; obtain ⟨q, _, rfl⟩ := hu; rfl
      rcases HO.2 with ⟨h0, _⟩ | ⟨g', cap', cur, hv, hbg, hg, hnc, hcm, hcs, htake⟩
      · cases h0
      · cases hv
        have hnl : (nums k ys).length = m * 1 := by simp [nums, hm]
        have hr := run_append_room (P := P) W t o.type e i0 ht hi g xs.length cap cur hg ad m c (nums k ys) (by rw [hz1]; exact hnl) hcells hone hroom (by rw [hz1, hnl, hcs]; omega)
        refine ⟨_, hr, ?_, ⟨rfl, rfl, rfl, by simp, fun k _ hk => setRow_other W g k _ (fun e => hk (by simp [e]))⟩⟩
        have hxl : (nums k xs).length = xs.length := by simp [nums]
        have hown : W.ownsRow base e 1 (.slice (some ⟨g, 0, none⟩) xs.length cap) xs.length (nums k xs) := HO
        refine ⟨by simp [nums], .inr ⟨g, cap, _, rfl, hbg, setRow_heap W g cur _ e _ hg, by rw [hlen]; exact hroom, hcm, ?_, ?_⟩⟩
        · simp only [List.size_toArray, List.length_append, List.length_take, List.length_drop, Array.length_toList, hz1, hnl]
          omega
        · rw [hz1, htake]
          have e1 : nums k xs ++ nums k ys = nums k (xs ++ ys) := by simp [nums]
          rw [e1]
          have e2 : (xs ++ ys).length * 1 = (nums k (xs ++ ys)).length := by simp [nums]
          rw [e2]
          exact List.take_left
  obtain ⟨w1, hr, hown, hg⟩ := hrun
  refine wpList_plain hgd fun K hK => ?_
  unfold Oper.wp execOp
  simp only [ho, resolve, invoke, builtin, Sem.run_bind, Sem.run_pure, Result.andThen_ok, List.map_toArray, List.map_cons, List.map_nil, hs, hx, hr]
  have := h w1 hown (HB.grown hg hbase (own_base HO)) hg
  rw [hlen] at this
  exact hK _ _ this

set_option maxHeartbeats 4000000 in
set_option maxRecDepth 100000 in
theorem grow_wide (n : Nat) (h0 : 0 < n) (hn : n ≤ 35184372088832) (w : World) :
    Calls Try.prog 77 #[.slice none 0 0, .int .i64 n] w fun e w' => ∃ cap : Nat, e = .returned (.slice (some ⟨w.heap.size, 0, none⟩) 0 cap) ∧ n ≤ cap ∧ OwnInts w' w.heap.size (.slice (some ⟨w.heap.size, 0, none⟩) 0 cap) [] ∧ Below w.heap.size w w' := by
  obtain ⟨i0, hi, hz0, hz1, hz2⟩ := info_parts infoI
  have h1 : ¬ ((n : Int) < 0) := by omega
  have h2 : wrap64 ((0 : Int) - 0) = 0 := by unfold wrap64; omega
  have h3 : wrap64 ((n : Int) - 0) = (n : Int) := by unfold wrap64; omega
  have h4 : (n : Int) > 0 := by omega
  have hold : (Builtin.firstCells i0.size 0 (.slice none 0 0)).run Try.prog w.drew = .ok ([] : List Value).toArray w.drew := run_firstCells_none w.drew i0.size 0 0 0
  have hrz : ∀ ty, (Builtin.append_ #[26, 3] ty #[.slice none 0 0, .int .i64 (n : Int)]).run Try.prog w =
      .ok (.slice (some ⟨w.heap.size, 0, none⟩) n (grownCap w n 0 3)) (w.drew.alloc (.cells (Builtin.zeroCells #[.int .i64 0] n ++ Builtin.zeroCells #[.int .i64 0] (grownCap w n 0 3 - n)) 3)) := fun ty => by
    have h := Lib.run_append_grow_zeros w 26 3 ty 3 i0 (.int .i64 0) .i64 .i64 Try.underlying26 Try.underlying3 hi hz0 none 0 0 [] hold n h0 (by rw [hz1]; omega) (by omega) (by omega) (by rw [hz2]; omega) (by rw [Nat.zero_add, nextslicecap_zero h0, hz2]; omega)
    simpa [Value.cells] using h
  have hGn : n ≤ grownCap w n 0 3 := grownCap_ge w _ _ _
  have hGm : grownCap w n 0 3 ≤ maxLen := grownCap_le_maxLen _ _ _ _ (by simp only [maxLen]; omega)
  obtain ⟨G, hG⟩ : ∃ G, G = grownCap w n 0 3 := ⟨_, rfl⟩
  rw [← hG] at hrz hGn hGm
  have hG63 : G ≤ 9223372036854775807 := by unfold maxLen at hGm; omega
  have HOWN : Aside0 (OwnInts (w.drew.alloc (.cells (Builtin.zeroCells #[.int .i64 0] n ++ Builtin.zeroCells #[.int .i64 0] (G - n)) 3)) w.heap.size (.slice (some ⟨w.heap.size, 0, none⟩) 0 G) []) := by
    refine ⟨⟨rfl, .inr ⟨w.heap.size, _, _, rfl, Nat.le_refl _, heap_alloc_new w.drew _, Nat.zero_le _, hGm, ?_, by simp [nums]⟩⟩⟩
    simp only [Array.size_append, size_zeroCells]
    simp
    omega
  have HGN := Aside0.mk hGn
  clear hG hold hi hz0 hz1 hz2 hGm hn
  go_enter Try.func77, Try.ntmps77
  go_wp2_with (at_builtin; refine Lib.wpList_append_run _ rfl _ _ _ _ rfl _ _ rfl rfl _ _ (hrz _) ?_)
  all_goals (go_ret; exact ⟨G, rfl, HGN.out, HOWN.out, (below_drew (Below.refl _ _)).alloc (by simp) _⟩)
set_option maxHeartbeats 4000000 in
set_option maxRecDepth 100000 in
theorem concat_wide (B : Nat) (A0 A1 : Option Addr) (c0 c1 : Nat) (l0 l1 : List Int) (w : World) (hB : B < w.heap.size) (h0 : w.cell? ⟨B, 0, none⟩ = some (.slice A0 l0.length c0)) (h1 : w.cell? ⟨B, 1, none⟩ = some (.slice A1 l1.length c1))
    (hr0 : Kd.C (Kd.int .i64) w A0 l0.length l0) (hr1 : Kd.C (Kd.int .i64) w A1 l1.length l1) (h00 : 0 < l0.length + l1.length) (hn : l0.length + l1.length ≤ 35184372088832) :
    Calls Try.prog 62 #[.slice (some ⟨B, 0, none⟩) 2 2] w fun e w' => ∃ v : Value, e = .returned v ∧ OwnInts w' w.heap.size v (l0 ++ l1) ∧ Below w.heap.size w w' := by
  have HR0 := Aside0.mk hr0
  have HR1 := Aside0.mk hr1
  have HN := Aside0.mk hn
  have H0 := Aside0.mk h0
  have H1 := Aside0.mk h1
  have HBB := Aside0.mk hB
  obtain ⟨z, hz⟩ : ∃ z : Int, z = ((l0.length + l1.length : Nat) : Int) := ⟨_, rfl⟩
  have G : ∀ w, Calls Try.prog 77 #[.slice none 0 0, .int .i64 z] w fun e w' => ∃ cap : Nat, e = .returned (.slice (some ⟨w.heap.size, 0, none⟩) 0 cap) ∧ l0.length + l1.length ≤ cap ∧ OwnInts w' w.heap.size (.slice (some ⟨w.heap.size, 0, none⟩) 0 cap) [] ∧ Below w.heap.size w w' := fun w => by rw [hz]; exact grow_wide (l0.length + l1.length) h00 hn w
  have HG := Aside0.mk G
  have s1 : wrap64 (l0.length : Int) = (l0.length : Int) := w64 (by omega) (by omega)
  have s2 : wrap64 ((l0.length : Int) + (l1.length : Int)) = z := by rw [hz, w64 (by omega) (by omega)]; omega
  have p0 : decide (z < 0) = false := decide_eq_false (by omega)
  clear G hr0 hr1 hn hB hz
  go_enter Try.func62, Try.ntmps62
  go_wp2
  go_loop [3, 5, 11] (fun v3 _ v11 => ∃ (k : Nat) (x y : Int), v11 = .int .i64 x ∧ v3 = .int .i64 y ∧ Aside0 (x = k ∧ k ≤ 2 ∧ y = (if k = 0 then 0 else if k = 1 then (l0.length : Int) else z))) (fun _ _ i => 2 - (intOf i).toNat)
  case atStart => exact ⟨0, 0, 0, rfl, rfl, ⟨rfl, by omega, rfl⟩⟩
  case round =>
    obtain ⟨k, x, y, rfl, rfl, HX⟩ := hrel
    obtain ⟨hx, hk, hy⟩ := HX.out
    clear HX
    have hc : k = 0 ∨ k = 1 ∨ k = 2 := by omega
    rcases hc with rfl | rfl | rfl
    · obtain rfl : x = 0 := hx
      obtain rfl : y = 0 := hy
      clear hk
      go_wp2
      go_round
      case measure => simp [intOf]
      case rel => exact ⟨1, _, _, rfl, rfl, ⟨by decide, by omega, by simp [s1]⟩⟩
    · obtain rfl : x = 1 := hx
      obtain rfl : y = (l0.length : Int) := hy
      clear hk
      go_wp2
      go_round
      case measure => simp [intOf]
      case rel => exact ⟨2, _, _, rfl, rfl, ⟨by decide, by omega, by simp [s2]⟩⟩
    · obtain rfl : x = 2 := hx
      obtain rfl : y = z := hy
      clear hk
      go_wp2_with fail
      (with_reducible refine (HG.out _).mono ?_)
      rintro e w1 ⟨cap, rfl, hcap, ho, hb⟩
      have HCAP := Aside0.mk hcap
      clear hcap
      have HO := Aside0.mk ho
      have HB := Aside0.mk hb
      clear ho hb
      go_wp2
      go_loopw [6, 8, 27] (fun v6 _ v27 wr => ∃ (k : Nat) (x : Int) (zs : List Int), v27 = .int .i64 x ∧ v6 = .slice (some ⟨w.heap.size, 0, none⟩) zs.length cap ∧ Aside0 (zs = (if k = 0 then ([] : List Int) else if k = 1 then ([] : List Int) ++ l0 else ([] : List Int) ++ l0 ++ l1)) ∧ Aside0 (x = k ∧ k ≤ 2) ∧ Aside0 (OwnInts wr w.heap.size (.slice (some ⟨w.heap.size, 0, none⟩) zs.length cap) zs) ∧ Aside0 (Below w.heap.size w wr)) (fun _ _ i _ => 2 - (intOf i).toNat)
      case atStart => exact ⟨0, 0, [], rfl, rfl, ⟨rfl⟩, ⟨rfl, by omega⟩, ⟨HO.out⟩, ⟨HB.out⟩⟩
      case round =>
        clear HO HB
        obtain ⟨k, x, zs, rfl, rfl, HZ, HX, HO, HB⟩ := hrel
        obtain ⟨hx, hk⟩ := HX.out
        clear HX
        have hc : k = 0 ∨ k = 1 ∨ k = 2 := by omega
        rcases hc with rfl | rfl | rfl
        · obtain rfl : x = 0 := hx
          clear hk
          have HL : Aside0 (zs.length + l0.length ≤ cap) := ⟨by have := HZ.out; have := HCAP.out; simp only [if_true] at *; subst_vars; simp; omega⟩
          have k0 := (HB.out.cell (p := ⟨B, 0, none⟩) HBB.out).trans h0
          go_wp2_with ((with_reducible refine gate_builtin (b := .append) (xs := #[.tmp 31, .tmp 32]) rfl ?_); at_builtin; refine room_append (w0 := w) w.heap.size rfl (.tmp 31) (.tmp 32) 26 3 .i64 8 rfl Try.underlying26 infoI w.heap.size cap zs l0 A0 _ _ rfl rfl ?aO ?aR ?aB ?aS ?aL ?_; (case aO => exact HO.out); (case aR => exact Kd.reads_of_C (Kd.C_below HR0.out HB.out)); (case aB => exact HB.out); (case aS => exact HB.out.size); (case aL => exact HL.out); intro w2 ho1 hb1 hg1; have HO1 := Aside0.mk ho1; have HB1 := Aside0.mk hb1; clear ho1 hb1 hg1)
          go_roundw
          case measure => simp [intOf]
          case rel => exact ⟨1, _, zs ++ l0, rfl, by rw [List.length_append], ⟨by rw [HZ.out]; rfl⟩, ⟨by decide, by omega⟩, ⟨HO1.out⟩, ⟨HB1.out⟩⟩
        · obtain rfl : x = 1 := hx
          clear hk
          have HL : Aside0 (zs.length + l1.length ≤ cap) := ⟨by have hz := HZ.out; have hcap := HCAP.out; rw [hz]; simp; omega⟩
          have k1 := (HB.out.cell (p := ⟨B, 1, none⟩) HBB.out).trans h1
          go_wp2_with ((with_reducible refine gate_builtin (b := .append) (xs := #[.tmp 31, .tmp 32]) rfl ?_); at_builtin; refine room_append (w0 := w) w.heap.size rfl (.tmp 31) (.tmp 32) 26 3 .i64 8 rfl Try.underlying26 infoI w.heap.size cap zs l1 A1 _ _ rfl rfl ?aO ?aR ?aB ?aS ?aL ?_; (case aO => exact HO.out); (case aR => exact Kd.reads_of_C (Kd.C_below HR1.out HB.out)); (case aB => exact HB.out); (case aS => exact HB.out.size); (case aL => exact HL.out); intro w2 ho1 hb1 hg1; have HO1 := Aside0.mk ho1; have HB1 := Aside0.mk hb1; clear ho1 hb1 hg1)
          go_roundw
          case measure => simp [intOf]
          case rel => exact ⟨2, _, zs ++ l1, rfl, by rw [List.length_append], ⟨by rw [HZ.out]; rfl⟩, ⟨by decide, by omega⟩, ⟨HO1.out⟩, ⟨HB1.out⟩⟩
        · obtain rfl : x = 2 := hx
          clear hk
          go_wp2
          go_ret
          have e : zs = l0 ++ l1 := by rw [HZ.out]; simp
          have ho := HO.out
          subst e
          exact ⟨_, rfl, ho, HB.out⟩

theorem sort_wide (W : World) (base g cap : Nat) (xs : List Int) (h : OwnInts W base (.slice (some ⟨g, 0, none⟩) xs.length cap) xs) (hn : xs.length ≤ 35184372088832) :
    Calls Try.prog 57 #[.slice (some ⟨g, 0, none⟩) xs.length cap, .func (.func 58) #[] #[]] W fun e W' => e = .returned (.tuple #[]) ∧
      ∃ ys : List Int, ys.Perm xs ∧ (∀ i j, i < j → j < ys.toArray.size → idxOf ys.toArray[i]! ≤ idxOf ys.toArray[j]!) ∧ OwnInts W' base (.slice (some ⟨g, 0, none⟩) ys.length cap) ys ∧ ys.length = xs.length ∧ W.grownBy W' (some g) := by
  obtain ⟨hH, hg, _, _⟩ := own_holds h
  have hc := Try.slices_SortFunc (Value.int .i64) (fun _ => rfl) byIdx swoIdx 58 #[] g 0 cap xs.toArray W (enters_of Try.func58 (by kernel_rfl) rfl) (cmp_lays _ _ _ _) hH hg (by simp; omega)
  simp only [List.size_toArray] at hc
  refine hc.mono ?_
  rintro e W' ⟨rfl, d', n, os, hp, hs, rfl⟩
  have hl : d'.toList.length = xs.length := by have := hp.1; simpa using this
  have ho := own_put (n := n) (os := os) h hl
  refine ⟨rfl, d'.toList, ?_, ?_, ?_, hl, ?_⟩
  · have := hp.2.2
    have hsz : d'.size = xs.length := by simpa using hl
    rw [← hsz] at this
    simp only [Array.extract_size] at this
    have e2 : (xs.toArray.extract 0 d'.size) = xs.toArray := by
      rw [hsz, show xs.length = xs.toArray.size by simp, Array.extract_size]
    rw [e2] at this
    simpa using this
  · intro i j hij hj
    have hsz : d'.size = xs.length := by simpa using hl
    have := hs i j (Nat.zero_le _) hij (by simpa [hsz] using hj)
    rw [ltIdx] at this
    simp only [Array.toArray_toList]
    simpa using this
  · simpa [sortWorld] using ho.1
  · simpa [sortWorld] using ho.2

theorem reads_lit (W : World) (y : Int) : ReadsInt (W.alloc (.cells #[.int .i64 y] 3)) .i64 (some ⟨W.heap.size, 0, none⟩) 1 [y] := by
  refine ⟨rfl, by omega, fun _ => ⟨_, rfl, fun j hj => ?_⟩⟩
  obtain rfl : j = 0 := by omega
  exact World.news_of_block (cs := #[.int .i64 y]) (t := 3) (fr := (0, 0)) (heap_alloc_new W _) 0 _ rfl
set_option maxHeartbeats 4000000 in
set_option maxRecDepth 100000 in
theorem tidy_wide (A0 : Option Addr) (c0 : Nat) (l0 : List Int) (w : World) (hr0 : Kd.C (Kd.int .i64) w A0 l0.length l0) (hc0 : l0.length ≤ c0) (hn : l0.length ≤ 35184372088832) :
    Calls Try.prog 23 #[.slice A0 l0.length c0] w fun e w' => ∃ g cap, e = .returned (.slice (some ⟨g, 0, none⟩) (tidyOf l0).length cap) ∧ OwnInts w' w.heap.size (.slice (some ⟨g, 0, none⟩) (tidyOf l0).length cap) (tidyOf l0) ∧ Below w.heap.size w w' := by
  have HR0 := Aside0.mk hr0
  have HN := Aside0.mk hn
  obtain ⟨i0, hi, hz0, hz1, hz2⟩ := info_parts infoI
  have hmk : ∀ u : World, (Instr.makeSlice 26 (.int .i64 0) (.int .i64 (l0.length : Int))).run Try.prog u = .ok (.slice (some ⟨u.heap.size, 0, none⟩) 0 l0.length) (u.alloc (.cells (madeCells #[.int .i64 0] l0.length) 3)) := fun u => by
    have h := run_make (P := Try.prog) (w := u) 26 3 i0 (.int .i64 0) Try.underlying26 hi hz0 .i64 .i64 0 (l0.length : Int) (by omega) (by omega) (by rw [hz2]; omega) (by omega)
    have e : ((l0.length : Int)).toNat = l0.length := by omega
    rw [e] at h
    simpa [hz1, Value.cells] using h
  clear hn hc0 hr0 hi hz0 hz1 hz2
  go_enter Try.func23, Try.ntmps23
  go_wp2
  go_loopw [3, 5, 11] (fun v3 v5 v11 wr => ∃ (k : Nat) (x : Int) (zs : List Int), v11 = .int .i64 x ∧ v3 = .slice (some ⟨w.heap.size, 0, none⟩) zs.length l0.length ∧ Aside0 (zs = (l0.take k).filter formed) ∧ Aside0 (x = k ∧ k ≤ l0.length) ∧ Aside0 (OwnInts wr w.heap.size (.slice (some ⟨w.heap.size, 0, none⟩) zs.length l0.length) zs) ∧ Aside0 (Below w.heap.size w wr)) (fun _ _ i _ => l0.length - (intOf i).toNat)
  case atStart =>
    refine ⟨0, 0, [], rfl, rfl, ⟨rfl⟩, ⟨rfl, Nat.zero_le _⟩, ⟨?_⟩, ⟨(Below.refl _ _).alloc (Nat.le_refl _) _⟩⟩
    exact own_made0 w w.heap.size l0.length 3 (.int .i64 0) (Nat.le_refl _) (by have := HN.out; omega)
  case round =>
    obtain ⟨k, x, zs, rfl, rfl, HZ, HX, HO, HB⟩ := hrel
    obtain ⟨hxk, hk⟩ := HX.out
    by_cases hlt : k < l0.length
    · have p1 : 0 ≤ x := by omega
      have q1 : x < (l0.length : Int) := by omega
      obtain ⟨ad, e1, hcell⟩ := Kd.at_int (Kd.C_below HR0.out HB.out) x p1 q1
      subst e1
      have p2 := eq_true p1
      have q2 := eq_true q1
      have q3 : decide (x < (l0.length : Int)) = true := decide_eq_true q1
      have ht : (l0.take (k + 1)).filter formed = (l0.take k).filter formed ++ (if formed (rd l0 x) = true then [rd l0 x] else []) := by
        rw [hxk, take_rd hlt, List.filter_append]
        cases h : formed (rd l0 k) <;> simp [h]
      have HX2 : Aside0 (wrap64 (x + 1) = ((k + 1 : Nat) : Int) ∧ k + 1 ≤ l0.length) := by
        have := HN.out
        exact ⟨by rw [w64 (by omega) (by omega)]; omega, by omega⟩
      have hm : (intOf (.int .i64 (wrap64 (x + 1)))).toNat = k + 1 := by rw [HX2.out.1]; simp [intOf]
      have hm0 : (intOf (.int .i64 x)).toNat = k := by rw [hxk]; simp [intOf]
      have HM : Aside0 (l0.length - (intOf (.int .i64 (wrap64 (x + 1)))).toNat < l0.length - (intOf (.int .i64 x)).toNat) := ⟨by rw [hm, hm0]; omega⟩
      have HL : Aside0 (zs.length + 1 ≤ l0.length) := by
        have h1 := List.length_filter_le formed (l0.take k)
        rw [List.length_take] at h1
        have hz := HZ.out
        rw [hz]
        exact ⟨by omega⟩
      cases hf : formed (rd l0 x) with
      | false =>
        have F := fun w => formed_calls (rd l0 x) false w hf
        rw [hf] at ht
        simp only [Bool.false_eq_true, if_false, List.append_nil] at ht
        have HT := Aside0.mk ht
        clear ht hf hm hm0 hxk hk hlt p1 q1
        go_wp2_with (go_at_call 15; (with_reducible refine (F _).mono ?_); rintro e w' ⟨rfl, ⟨nd, rfl⟩⟩)
        go_roundw
        case measure => exact HM.out
        case rel => exact ⟨k + 1, _, zs, rfl, rfl, ⟨by rw [HT.out]; exact HZ.out⟩, HX2, ⟨HO.out⟩, ⟨pw_below_drewN HB.out _⟩⟩
      | true =>
        have F := fun w => formed_calls (rd l0 x) true w hf
        rw [hf] at ht
        simp only [if_true] at ht
        have HT := Aside0.mk ht
        clear ht hf hm hm0 hxk hk hlt p1 q1
        go_wp2_with (first | (go_at_call 15; (with_reducible refine (F _).mono ?_); rintro e w' ⟨rfl, ⟨nd, rfl⟩⟩) | ((with_reducible refine gate_builtin (b := .append) (xs := #[.tmp 17, .tmp 19]) rfl ?_); at_builtin; refine room_append (w0 := w) w.heap.size rfl (.tmp 17) (.tmp 19) 26 3 .i64 8 rfl Try.underlying26 infoI w.heap.size l0.length zs [rd l0 x] _ 1 1 rfl rfl ?aO ?aR ?aB ?aS ?aL ?_; (case aO => exact HO.out.alloc _); (case aR => exact reads_lit _ _); (case aB => exact (pw_below_drewN HB.out _).alloc HB.out.size _); (case aS => have := HB.out.size; simp; omega); (case aL => exact HL.out); intro w1 ho hb hg; have HO1 := Aside0.mk ho; have HB1 := Aside0.mk hb; clear ho hb hg))
        go_roundw
        case measure => exact HM.out
        case rel => exact ⟨k + 1, _, zs ++ [rd l0 x], rfl, by rw [List.length_append, List.length_singleton], ⟨by rw [HT.out, HZ.out]⟩, HX2, ⟨HO1.out⟩, ⟨HB1.out⟩⟩
    · obtain rfl : k = l0.length := by omega
      have q3 : decide (x < (l0.length : Int)) = false := decide_eq_false (by omega)
      have hz := HZ.out
      rw [List.take_length] at hz
      have ho := HO.out
      clear HO hxk hk hlt HX HZ
      have HXS := Aside0.mk hz
      have hlen : zs.length ≤ 35184372088832 := by
        have h1 := List.length_filter_le formed l0
        rw [← HXS.out] at h1
        have := HN.out
        omega
      clear hz
      have S := fun W => sort_wide W w.heap.size w.heap.size l0.length zs
      have HS := Aside0.mk S
      have HO := Aside0.mk ho
      have HLE := Aside0.mk hlen
      have HBG : Aside0 (w.heap.size ≤ w.heap.size) := ⟨Nat.le_refl _⟩
      clear S ho hlen
      go_wp2_with fail
      (with_reducible refine (HS.out _ HO.out HLE.out).mono ?_)
      rintro e w1 ⟨rfl, ys, hp, hs, ho1, hl1, hg1⟩
      have C := fun W h => compact_calls W w.heap.size w.heap.size l0.length ys h
      rw [hl1] at C ho1
      have HC := Aside0.mk C
      have HO1 := Aside0.mk ho1
      have HP := Aside0.mk hp
      have HS1 := Aside0.mk hs
      have HB1 : Aside0 (Below w.heap.size w w1) := ⟨HB.out.grown hg1 HB.out.size (fun j hj => by cases hj; exact HBG.out)⟩
      clear C ho1 hp hs hl1 hg1
      go_wp2_with fail
      (with_reducible refine (HC.out _ HO1.out).mono ?_)
      rintro e w2 ⟨rfl, ho2, hg2⟩
      have e5 : Go.Lib.compact ys = tidyOf l0 := by
        have := compact_tidy l0 ys.toArray (by rw [← HXS.out]; exact HP.out) HS1.out
        simpa using this
      have HO2 : Aside0 (OwnInts w2 w.heap.size (.slice (some ⟨w.heap.size, 0, none⟩) (tidyOf l0).length l0.length) (tidyOf l0)) := ⟨by rw [← e5]; exact ho2⟩
      have HB2 : Aside0 (Below w.heap.size w w2) := ⟨HB1.out.grown hg2 HB1.out.size (fun j hj => by cases hj; exact HBG.out)⟩
      have E5 := Aside0.mk e5
      clear e5 ho2 hg2
      go_wp2
      go_ret
      exact ⟨w.heap.size, l0.length, by rw [← E5.out]; rfl, HO2.out, HB2.out⟩


theorem concat_reads_wide (B : Nat) (A0 A1 : Option Addr) (c0 c1 : Nat) (l0 l1 : List Int) (w : World) (hB : B < w.heap.size) (h0 : w.cell? ⟨B, 0, none⟩ = some (.slice A0 l0.length c0)) (h1 : w.cell? ⟨B, 1, none⟩ = some (.slice A1 l1.length c1))
    (hr0 : Kd.C (Kd.int .i64) w A0 l0.length l0) (hr1 : Kd.C (Kd.int .i64) w A1 l1.length l1) (h00 : 0 < l0.length + l1.length) (hn : l0.length + l1.length ≤ 35184372088832) :
    Calls Try.prog 62 #[.slice (some ⟨B, 0, none⟩) 2 2] w fun e w' => ∃ (zs : List Int) (A : Option Addr) (c : Nat), Aside0 (zs = l0 ++ l1) ∧ e = .returned (.slice A zs.length c) ∧ zs.length ≤ c ∧ Kd.C (Kd.int .i64) w' A zs.length zs ∧ Below w.heap.size w w' := by
  refine (concat_wide B A0 A1 c0 c1 l0 l1 w hB h0 h1 hr0 hr1 h00 hn).mono ?_
  rintro e w' ⟨v, rfl, ho, hb⟩
  obtain ⟨A, c, rfl, hl, hC⟩ := Kd.R_reads (own_R ho)
  exact ⟨_, A, c, ⟨rfl⟩, rfl, hl, hC, hb⟩

set_option maxHeartbeats 4000000 in
set_option maxRecDepth 100000 in
theorem join_wide (A0 A1 : Option Addr) (c0 c1 : Nat) (l0 l1 : List Int) (w : World) (hr0 : Kd.C (Kd.int .i64) w A0 l0.length l0) (hc0 : l0.length ≤ c0) (hr1 : Kd.C (Kd.int .i64) w A1 l1.length l1) (hc1 : l1.length ≤ c1) (h00 : 0 < l0.length + l1.length) (hn : l0.length + l1.length ≤ 35184372088832) :
    Calls Try.prog 26 #[.slice A0 l0.length c0, .slice A1 l1.length c1] w fun e w' => ∃ v0_ : Value, e = .returned (v0_) ∧ Kd.R (Kd.int .i64) 3 w' w.heap.size (fun _ => True) v0_ (tidyOf (l0 ++ l1)) ∧ Below w.heap.size w w' := by
  have HR0 := Aside0.mk hr0
  have HR1 := Aside0.mk hr1
  have HN := Aside0.mk hn
  have H00 := Aside0.mk h00
  clear hr0 hc0 hr1 hc1 hn h00
  go_enter Try.func26, Try.ntmps26
  go_wp2_with fail
  (with_reducible refine (concat_reads_wide _ A0 A1 c0 c1 l0 l1 _ ?h1 ?h2 ?h3 ?h4 ?h5 ?h6 ?h7).mono ?_)
  case h1 => simp
  case h2 => simp
  case h3 => simp
  case h4 => exact Kd.C_alloc HR0.out _
  case h5 => exact Kd.C_alloc HR1.out _
  case h6 => exact H00.out
  case h7 => exact HN.out
  rintro e w1 ⟨zs, A, c, HZ, rfl, hl, hC, hb⟩
  have hb0 : Below w.heap.size w w1 := below_step (below_alloc (Below.refl _ _) _) hb
  have hzl : zs.length ≤ 35184372088832 := by have := HN.out; rw [HZ.out]; simp; omega
  have T := (tidy_wide A c zs w1 hC hl hzl).mono (R' := fun e w' => ∃ v0_ : Value, e = .returned (v0_) ∧ Kd.R (Kd.int .i64) 3 w' w1.heap.size (fun _ => True) v0_ (tidyOf zs) ∧ Below w1.heap.size w1 w') fun e w' ⟨g, cap, he, ho, hb⟩ => ⟨_, he, own_R ho, hb⟩
  clear hzl
  have HT := Aside0.mk T
  have HB := Aside0.mk hb0
  clear T hb0 hb hl hC
  go_wp2_with fail
  (with_reducible refine HT.out.mono ?_)
  rintro e w2 ⟨v2, rfl, ho2, hb2⟩
  rw [HZ.out] at ho2
  have HO2 := Aside0.mk (Kd.R_lower ho2 HB.out.size)
  have HB2 : Aside0 (Below w.heap.size w w2) := ⟨below_step HB.out hb2⟩
  clear ho2 hb2
  go_wp2
  go_ret
  exact ⟨_, rfl, HO2.out, HB2.out⟩

theorem join_any (A0 A1 : Option Addr) (c0 c1 : Nat) (l0 l1 : List Int) (w : World) (hr0 : Kd.C (Kd.int .i64) w A0 l0.length l0) (hc0 : l0.length ≤ c0) (hr1 : Kd.C (Kd.int .i64) w A1 l1.length l1) (hc1 : l1.length ≤ c1) (hn : l0.length + l1.length ≤ 35184372088832) :
    Calls Try.prog 26 #[.slice A0 l0.length c0, .slice A1 l1.length c1] w fun e w' => ∃ v0_ : Value, e = .returned (v0_) ∧ Kd.R (Kd.int .i64) 3 w' w.heap.size (fun _ => True) v0_ (tidyOf (l0 ++ l1)) ∧ Below w.heap.size w w' := by
  rcases Nat.eq_zero_or_pos (l0.length + l1.length) with h | h
  · exact join_calls A0 A1 c0 c1 l0 l1 w hr0 hc0 hr1 hc1 (by omega)
  · exact join_wide A0 A1 c0 c1 l0 l1 w hr0 hc0 hr1 hc1 h hn

end Go.Proofs.YtamefocngapkpaaHand
/-! text YtamefocngapkpaaPivots -/
namespace Go.Proofs.YtamefocngapkpaaMath
open Go.RowKit Go.Proofs.YtamefocngapkpaaW.PrintWords
def isPiv (b : List Int) (v : Int) : Bool := decide (0 ≤ v) && b.contains (-v)
def pivOf (a b : List Int) : List Int := a.filter (isPiv b)
theorem pivOf_take {a b : List Int} {k : Nat} (h : k < a.length) : pivOf (a.take (k + 1)) b = pivOf (a.take k) b ++ (if isPiv b (rd a (k : Int)) = true then [rd a (k : Int)] else []) := by
  unfold pivOf
  rw [take_rd h, List.filter_append]
  cases hh : isPiv b (rd a (k : Int)) <;> simp [hh]
end Go.Proofs.YtamefocngapkpaaMath
namespace Go.Proofs.YtamefocngapkpaaHand
open Go.RowKit Go.Sort Go.Lib Go.Shelf Go.Proofs.YtamefocngapkpaaW.PrintWords Go.Proofs.YtamefocngapkpaaW.PrintLast Go.Proofs.YtamefocngapkpaaMath
attribute [local go_sem] Oper.semAt_some
set_option linter.unusedVariables false
set_option linter.unusedSimpArgs false

theorem sortWorld_same {enc : Int → Value} {W : World} {g n : Nat} {d : Array Int} {os : Array Obj} (h : Holds enc W g 0 d) : sortWorld enc W g 0 n d os = grow (W.drewN n) os := by
  have h0 := sortWorld_start enc W g 0 d h
  unfold sortWorld at h0 ⊢
  rw [grow_empty] at h0
  have := putRow_drewN enc W 0 n g 0 d
  rw [Nat.zero_add] at this
  rw [← this, h0]

theorem search_quiet (W : World) (base g cap : Nat) (xs : List Int) (l : Int) (h : OwnInts W base (.slice (some ⟨g, 0, none⟩) xs.length cap) xs) (hr : Rising xs) (hf : ∀ x ∈ xs, formed x = true) (hl : formed l = true) (hn : xs.length < 4611686018427387904) :
    Calls Try.prog 64 #[.slice (some ⟨g, 0, none⟩) xs.length cap, .int .i64 l, .func (.func 58) #[] #[]] W fun e W' => ∃ n : Int, e = .returned (.tuple #[.int .i64 n, .bool (xs.contains l)]) ∧ W.grownBy W' none := by
  obtain ⟨hH, hg, _, _⟩ := own_holds h
  have hcmp : CmpLaysT Try.prog 58 #[] (Value.int .i64) (.int .i64 l) (fun x => byIdx x l) g 0 xs.toArray.size W := by
    intro m os dk _ x
    refine (byIndex_calls x l _).mono ?_
    rintro e w' ⟨rfl, ⟨q, rfl⟩⟩
    exact ⟨rfl, q, #[], rfl⟩
  have hmono : ∀ a b, a ≤ b → b < xs.toArray.size → (fun x => byIdx x l) xs.toArray[b]! < 0 → (fun x => byIdx x l) xs.toArray[a]! < 0 := by
    intro a b hab hb hlt
    rcases Nat.eq_or_lt_of_le hab with rfl | hab
    · exact hlt
    · simp only [List.size_toArray] at hb
      have e1 : xs.toArray[b]! = xs[b] := by simp [hb]
      have e2 : xs.toArray[a]! = xs[a]'(by omega) := by simp [show a < xs.length by omega]
      have := List.pairwise_iff_getElem.1 hr a b (by omega) hb hab
      simp only [e1, e2, byIdx] at hlt ⊢
      omega
  have hc := Any.slices_BinarySearchFunc Try.searchF (Value.int .i64) (fun _ => rfl) (.int .i64 l) (fun x => byIdx x l) 58 #[] g 0 cap xs.toArray W (enters_of Try.func58 (by kernel_rfl) rfl) hcmp hH hg (by simpa using hn) hmono
  refine Calls.mono hc ?_
  rintro e W' ⟨rfl, n, os, rfl⟩
  have hm := search_math l hl xs hr hf
  have e1 : xs.toArray.toList = xs := by simp
  have hb : (decide (xs.countP (fun x => decide (byIdx x l < 0)) < xs.length) && decide (byIdx (xs.toArray[xs.countP (fun x => decide (byIdx x l < 0))]!) l = 0)) = xs.contains l := by
    rw [Bool.eq_iff_iff]
    simp only [Bool.and_eq_true, decide_eq_true_eq, List.contains_iff_mem]
    exact hm
  rw [e1, List.size_toArray, hb]
  refine ⟨_, rfl, ?_⟩
  rw [sortWorld_same hH]
  refine ⟨rfl, rfl, rfl, by simp [grow, World.drewN], fun k hk _ => ?_⟩
  simp only [grow, World.drewN]
  rw [Array.getElem?_append_left hk]

set_option maxRecDepth 100000 in
set_option maxHeartbeats 4000000 in
theorem pivots1_in (n : Nat) (hn : 1 ≤ n) (l Ba Bb n₀ g1 c1 g2 c2 base : Nat) (xs ys : List Int) (hys : Rising ys) (hyf : ∀ x ∈ ys, formed x = true) (hxf : ∀ x ∈ xs, formed x = true) (hxl : xs.length ≤ 2097152) (hyl : ys.length ≤ 2097152) (hBa' : Ba < n₀) (hBb' : Bb < n₀) (hg1 : g1 < n₀) (hg2 : g2 < n₀)
    (J Jx : List Int → World → Prop) (W : World) (hn₀ : n₀ ≤ W.heap.size) (hJ : AbidesFrom W.heap.size J)
    (hY : ∀ pre x W, J pre W → pre.length < xs.length → YieldAt Fence.wide (n - 1) Try.prog l #[.int .i64 x] W fun e W' =>
      (e = .returned (.bool true) ∧ J (pre ++ [x]) W' ∧ Below n₀ W W') ∨ (e = .returned (.bool false) ∧ Jx (pre ++ [x]) W'))
    (hBa : W.cell? ⟨Ba, 0, none⟩ = some (.slice (some ⟨g1, 0, none⟩) xs.length c1)) (hBb : W.cell? ⟨Bb, 0, none⟩ = some (.slice (some ⟨g2, 0, none⟩) ys.length c2))
    (hc : ∀ j, j < xs.length → W.cell? ⟨g1, j, none⟩ = some (.int .i64 (rd xs (j : Int)))) (ho : OwnInts W base (.slice (some ⟨g2, 0, none⟩) ys.length c2) ys) (h0 : J [] W) :
    CallsIn Fence.wide n Try.prog 79 #[.func (.yield l) #[] #[], .pointer (some ⟨Ba, 0, none⟩), .pointer (some ⟨Bb, 0, none⟩)] W fun e W' => (∃ v, e = .returned v) ∧
      ((∃ zs, zs = pivOf xs ys ∧ J zs W') ∨ (∃ pre, (∃ k, k ≤ xs.length ∧ pre = pivOf (xs.take k) ys) ∧ Jx pre W')) := by
  refine callsIn_of_wp Try.func79 rfl trivial ?_ rfl
  simp only [Try.ntmps79, List.size_toArray, List.length_cons, List.length_nil, Nat.reduceAdd, Nat.reduceSub, Array.replicate_succ, Array.replicate_zero, List.push_toArray, List.append_toArray, List.nil_append, List.cons_append]
  gi_wp2
  gi_loopw [10] (fun i wr => ∃ k : Nat, k ≤ xs.length ∧ i = .int .i64 k ∧ J (pivOf (xs.take k) ys) wr ∧ Below n₀ W wr)
    (fun i _ => xs.length - (intOf i).toNat)
  case atStart => exact ⟨0, Nat.zero_le _, rfl, h0, Below.refl _ _⟩
  case round =>
    obtain ⟨k, hk, rfl, hJs, hnx⟩ := hrel
    by_cases hlt : k < xs.length
    · have hcx := (hnx.cell (p := ⟨g1, k, none⟩) hg1).trans (hc k hlt)
      have hb2 := (hnx.cell (p := ⟨Bb, 0, none⟩) hBb').trans hBb
      have hpt := pivOf_take (b := ys) hlt
      have hfx := hxf _ (rd_mem hlt)
      have hbd := formed_bd hfx
      generalize rd xs (k : Int) = x at *
      have hneg : wrap64 (-x) = -x := by unfold wrap64; omega
      by_cases c0 : x < 0
      · have e0 : isPiv ys x = false := by unfold isPiv; rw [decide_eq_false (by omega), Bool.false_and]
        have c0' : decide (x < 0) = true := decide_eq_true c0
        gi_wp2
        go_roundw
        case rel => exact ⟨k + 1, by omega, by simp, by rw [hpt, e0]; simpa using hJs, hnx⟩
        case measure => simp [intOf]; omega
      · have c0' : decide (x < 0) = false := decide_eq_false c0
        have hfn : formed (-x) = true := by rw [formed_neg]; exact hfx
        have hown : OwnInts wr base (.slice (some ⟨g2, 0, none⟩) ys.length c2) ys := own_move ho (fun j hj => hnx.block j (by simp [Value.ownBlock] at hj; omega))
        have S := search_quiet wr base g2 c2 ys (-x) hown hys hyf hfn (by omega)
        cases hcn : ys.contains (-x) with
        | false =>
          have e0 : isPiv ys x = false := by unfold isPiv; rw [hcn, Bool.and_false]
          rw [hcn] at S
          have HSS := Aside0.mk S
          clear S
          gi_wp2
          refine ⟨trivial, ?_⟩
          (with_reducible refine (callsIn_wide.2 HSS.out).mono ?_)
          rintro e w2 ⟨q, rfl, hgb⟩
          gi_wp2
          refine ⟨fun _ h => (by cases h), ?_⟩
          gi_wp2
          have hJ2 := hJ _ wr w2 none hJs hgb (by intro r hr; cases hr)
          have hb2 : Below n₀ wr w2 := ⟨hgb.os, hgb.tape, hgb.output, hgb.size, fun i hi => hgb.block i (by have := hnx.size; omega) (by simp)⟩
          go_roundw
          case rel => exact ⟨k + 1, by omega, by simp, by rw [hpt, e0]; simpa using hJ2, hnx.trans hb2⟩
          case measure => simp [intOf]; omega
        | true =>
          have e0 : isPiv ys x = true := by unfold isPiv; rw [hcn, decide_eq_true (by omega)]; rfl
          rw [hcn] at S
          have HSS := Aside0.mk S
          clear S
          gi_wp2
          refine ⟨trivial, ?_⟩
          (with_reducible refine (callsIn_wide.2 HSS.out).mono ?_)
          rintro e w2 ⟨q, rfl, hgb⟩
          have hJ2 := hJ _ wr w2 none hJs hgb (by intro r hr; cases hr)
          have hb2 : Below n₀ wr w2 := ⟨hgb.os, hgb.tape, hgb.output, hgb.size, fun i hi => hgb.block i (by have := hnx.size; omega) (by simp)⟩
          obtain ⟨fn, tmps, assign, body, hy, hR⟩ := hY _ x w2 hJ2 (by unfold pivOf; have := List.length_filter_le (isPiv ys) (xs.take k); rw [List.length_take] at this; omega)
          gi_wp2
          refine hR.mono ?_
          rintro e W3 (⟨rfl, hJ3, hk3⟩ | ⟨rfl, hJx3⟩)
          · gi_wp2
            go_roundw
            case rel => exact ⟨k + 1, by omega, by simp, by rw [hpt, e0]; exact hJ3, hnx.trans (hb2.trans hk3)⟩
            case measure => simp [intOf]; omega
          · gi_wp2
            refine bodyPost_ret (results_none rfl _ _ _) rfl ?_
            exact ⟨⟨_, rfl⟩, .inr ⟨_, ⟨k + 1, by omega, by rw [hpt, e0]; rfl⟩, hJx3⟩⟩
    · obtain rfl : k = xs.length := by omega
      gi_wp2
      go_end0
      exact ⟨⟨_, rfl⟩, .inl ⟨_, by rw [List.take_length], hJs⟩⟩

theorem pivots_calls (A1 A2 : Option Addr) (n1 n2 c1 c2 : Nat) (w : World) :
    Calls Try.prog 68 #[.slice A1 n1 c1, .slice A2 n2 c2] w fun e w' => e = .returned (.func (.func 79) #[] #[.pointer (some ⟨w.heap.size, 0, none⟩), .pointer (some ⟨w.heap.size + 1, 0, none⟩)]) ∧ w' = (w.alloc (.cells #[.slice A1 n1 c1] 26)).alloc (.cells #[.slice A2 n2 c2] 26) := by
  go_enter Try.func68, Try.ntmps68
  go_wp2
  go_ret
  exact ⟨rfl, rfl⟩

theorem pivots_stops (n : Nat) (hn : 1 ≤ n) (Ba Bb g1 c1 g2 c2 base : Nat) (xs ys : List Int) (hys : Rising ys) (hyf : ∀ x ∈ ys, formed x = true) (hxf : ∀ x ∈ xs, formed x = true) (hxl : xs.length ≤ 2097152) (hyl : ys.length ≤ 2097152) (w : World) (hBa' : Ba < w.heap.size) (hBb' : Bb < w.heap.size) (hg1 : g1 < w.heap.size) (hg2 : g2 < w.heap.size)
    (hBa : w.cell? ⟨Ba, 0, none⟩ = some (.slice (some ⟨g1, 0, none⟩) xs.length c1)) (hBb : w.cell? ⟨Bb, 0, none⟩ = some (.slice (some ⟨g2, 0, none⟩) ys.length c2))
    (hc : ∀ j, j < xs.length → w.cell? ⟨g1, j, none⟩ = some (.int .i64 (rd xs (j : Int)))) (ho : OwnInts w base (.slice (some ⟨g2, 0, none⟩) ys.length c2) ys) :
    SeqStopsK Fence.wide n Try.prog 79 #[.pointer (some ⟨Ba, 0, none⟩), .pointer (some ⟨Bb, 0, none⟩)] (fun x : Int => #[Value.int .i64 x]) (Below w.heap.size) (fun zs => zs = pivOf xs ys) (fun pre => ∃ k, k ≤ xs.length ∧ pre = pivOf (xs.take k) ys) xs.length w := fun l J Jx W hW hJ hJx hY h0 => by
  refine (pivots1_in n hn l Ba Bb w.heap.size g1 c1 g2 c2 base xs ys hys hyf hxf hxl hyl hBa' hBb' hg1 hg2 J Jx W hW.size hJ hY ((hW.cell (p := ⟨Ba, 0, none⟩) hBa').trans hBa) ((hW.cell (p := ⟨Bb, 0, none⟩) hBb').trans hBb) (fun j hj => (hW.cell (p := ⟨g1, j, none⟩) hg1).trans (hc j hj)) (own_move ho (fun j hj => hW.block j (by simp [Value.ownBlock] at hj; omega))) h0).mono ?_
  rintro e W' ⟨he, ⟨zs, hz, hj⟩ | ⟨pre, hp, hj⟩⟩
  · exact ⟨he, .inl ⟨zs, hz, hj⟩⟩
  · exact ⟨he, .inr ⟨pre, hp, hj⟩⟩
end Go.Proofs.YtamefocngapkpaaHand
/-! text YtamefocngapkpaaOn -/
namespace Go.Proofs.YtamefocngapkpaaMath
open Go.RowKit Go.Proofs.YtamefocngapkpaaW.PrintWords
/-- the literals of the list but one, tidy -/
def lessOf (c : List Int) (l : Int) : List Int := (tidyOf c).filter fun x => !(x == l)
theorem lessOf_length (c : List Int) (l : Int) : (lessOf c l).length ≤ 2097152 := Nat.le_trans (List.length_filter_le _ _) (formed_count (tidyOf c) (rising_tidyOf _) (fun _ h => tidyOf_formed h))
/-- what follows from both on v -/
def onOf (a b : List Int) (v : Int) : List Int := tidyOf (lessOf a v ++ lessOf b (-v))
end Go.Proofs.YtamefocngapkpaaMath
namespace Go.Proofs.YtamefocngapkpaaHand
open Go.RowKit Go.Sort Go.Lib Go.Shelf Go.Proofs.YtamefocngapkpaaW.PrintWords Go.Proofs.YtamefocngapkpaaW.PrintLast Go.Proofs.YtamefocngapkpaaMath
set_option linter.unusedVariables false
set_option linter.unusedSimpArgs false

set_option maxHeartbeats 4000000 in
set_option maxRecDepth 100000 in
theorem on_calls (A0 A1 : Option Addr) (c0 c1 : Nat) (l0 l1 : List Int) (v : Int) (w : World) (hr0 : Kd.C (Kd.int .i64) w A0 l0.length l0) (hc0 : l0.length ≤ c0) (hr1 : Kd.C (Kd.int .i64) w A1 l1.length l1) (hc1 : l1.length ≤ c1)
    (hn0 : l0.length ≤ 17592186044416) (hn1 : l1.length ≤ 17592186044416) (hv : -9223372036854775807 ≤ v ∧ v ≤ 9223372036854775807) :
    Calls Try.prog 69 #[.slice A0 l0.length c0, .slice A1 l1.length c1, .int .i64 v] w fun e w' => ∃ v0_ : Value, e = .returned (v0_) ∧ Kd.R (Kd.int .i64) 3 w' w.heap.size (fun _ => True) v0_ (onOf l0 l1 v) ∧ Below w.heap.size w w' := by
  have HR0 := Aside0.mk hr0
  have HR1 := Aside0.mk hr1
  have W0 := fun w (h : Kd.C (Kd.int .i64) w A0 l0.length l0) => without_calls A0 c0 l0 v w h hc0 hn0
  have W1 := fun w (h : Kd.C (Kd.int .i64) w A1 l1.length l1) => without_calls A1 c1 l1 (-v) w h hc1 hn1
  have hneg : wrap64 (-v) = -v := by unfold wrap64; omega
  have z0 := lessOf_length l0 v
  have z1 := lessOf_length l1 (-v)
  unfold lessOf at z0 z1
  obtain ⟨r, hr⟩ : ∃ r, r = onOf l0 l1 v := ⟨_, rfl⟩
  rw [← hr]
  unfold onOf lessOf at hr
  generalize (tidyOf l0).filter (fun x => !(x == v)) = y0 at W0 z0 hr
  generalize (tidyOf l1).filter (fun x => !(x == -v)) = y1 at W1 z1 hr
  rw [← hneg] at W1
  have HW0 := Aside0.mk W0
  have HW1 := Aside0.mk W1
  have HZ : Aside0 (y0.length + y1.length ≤ 17592186044416) := ⟨by omega⟩
  have HR := Aside0.mk hr
  clear W0 W1 hr0 hr1 hn0 hn1 z0 z1 hr hc0 hc1 hv hneg
  go_enter Try.func69, Try.ntmps69
  go_wp2_with fail
  (with_reducible refine (HW0.out _ HR0.out).mono ?_)
  rintro e w1 ⟨v1, rfl, ho, hb⟩
  obtain ⟨Ao1, co1, eo1⟩ := Kd.R_slice ho
  subst eo1
  have HO1 := Aside0.mk ho
  have HB := Aside0.mk hb
  clear ho hb
  go_wp2_with fail
  (with_reducible refine (HW1.out _ (Kd.C_below HR1.out HB.out)).mono ?_)
  rintro e w2 ⟨v2, rfl, ho, hb⟩
  obtain ⟨Ao2, co2, eo2⟩ := Kd.R_slice ho
  subst eo2
  have HO12 := Aside0.mk (Kd.R_below HO1.out hb)
  have HO2 := Aside0.mk ho
  have HB2 : Aside0 (Below w.heap.size w w2) := ⟨below_step HB.out hb⟩
  clear ho hb
  go_wp2_with fail
  (with_reducible refine (join_calls Ao1 Ao2 co1 co2 y0 y1 w2 (Kd.R_reads' HO12.out).2.2 (Kd.R_reads' HO12.out).2.1 (Kd.R_reads' HO2.out).2.2 (Kd.R_reads' HO2.out).2.1 HZ.out).mono ?_)
  rintro e w3 ⟨v3, rfl, ho, hb⟩
  rw [← HR.out] at ho
  have HO3 := Aside0.mk (Kd.R_lower ho HB2.out.size)
  have HB3 : Aside0 (Below w.heap.size w w3) := ⟨below_step HB2.out hb⟩
  clear ho hb
  go_wp2
  go_ret
  exact ⟨_, rfl, HO3.out, HB3.out⟩
end Go.Proofs.YtamefocngapkpaaHand
