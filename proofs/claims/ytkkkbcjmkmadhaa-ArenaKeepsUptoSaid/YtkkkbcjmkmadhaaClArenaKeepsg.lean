/- What lits.Tidy answers: the literals of the list, rising by place, each once, in new memory. -/
import Derived.Test.YtkkkbcjmkmadhaaClArenaKeepsf
import Derived.Sort.OwnSortedInts
import Derived.Lib.RowBridge
import Derived.Test.YtkkkbcjmkmadhaaClArenaKeepsd
import Derived.Test.YtkkkbcjmkmadhaaClArenaKeepse
import Derived.Test.YtkkkbcjmkmadhaaWMore
/-! text YtkkkbcjmkmadhaaTidy -/
namespace Go.Proofs.YtkkkbcjmkmadhaaHand
open Go.RowKit Go.Sort Go.Lib Go.Shelf Go.Proofs.YtkkkbcjmkmadhaaW.PrintWords Go.Proofs.YtkkkbcjmkmadhaaW.PrintLast Go.Proofs.YtkkkbcjmkmadhaaMath
set_option linter.unusedVariables false
set_option linter.unusedSimpArgs false

/-! rows of ints of the call's own -/
abbrev OwnInts (W : World) (base : Nat) (v : Value) (xs : List Int) : Prop := W.ownsRow base 3 1 v xs.length (nums .i64 xs)
theorem own_R {W : World} {base : Nat} {v : Value} {xs : List Int} (h : OwnInts W base v xs) : Kd.R (Kd.int .i64) 3 W base (fun _ => True) v xs := by
  have hl : xs.length * 1 = xs.length := Nat.mul_one _
  refine ⟨fun _ _ => trivial, ⟨nums .i64 xs, h, ?_⟩⟩
  refine ⟨by simp [nums, Kd.int, Kd.scalar], ?_⟩
  intro j p hj
  have hlt : j < xs.length := by
    rcases Nat.lt_or_ge j xs.length with h | h
    · exact h
    · rw [List.getElem?_eq_none h] at hj
      cases hj
  have e : xs[j] = p := by
    rw [List.getElem?_eq_getElem hlt] at hj
    exact Option.some.inj hj
  show ((nums .i64 xs).drop (j * 1)).take 1 = [Value.int .i64 p]
  rw [Nat.mul_one, nums, ← List.map_drop, ← List.map_take]
  rw [List.drop_eq_getElem_cons hlt, e]
  rfl
theorem own_cut {W : World} {base : Nat} {e : TypeId} {g n cap m : Nat} {xs : List Value} (h : W.ownsRow base e 1 (.slice (some ⟨g, 0, none⟩) n cap) n xs) (hm : m ≤ n) : W.ownsRow base e 1 (.slice (some ⟨g, 0, none⟩) m cap) m (xs.take m) := by
  obtain ⟨h1, h2⟩ := h
  refine ⟨by rw [List.length_take]; omega, .inr ?_⟩
  rcases h2 with ⟨h2, _⟩ | ⟨g', cap', cur, hv, hb, hh, h3, h4, h5, h6⟩
  · cases h2
  · cases hv
    refine ⟨g, cap, cur, rfl, hb, hh, by omega, h4, h5, ?_⟩
    rw [← h6, List.take_take]
    congr 1
    omega
theorem own_made0 (W : World) (base m : Nat) (e : TypeId) (z : Value) (hb : base ≤ W.heap.size) (hm : m ≤ 9223372036854775807) :
    (W.alloc (.cells (madeCells #[z] m) e)).ownsRow base e 1 (.slice (some ⟨W.heap.size, 0, none⟩) 0 m) 0 [] :=
  ⟨rfl, .inr ⟨W.heap.size, m, _, rfl, hb, heap_alloc_new W _, Nat.zero_le _, by simpa [maxLen] using hm, by simp [size_madeCells], by simp⟩⟩

/-- The same row, its cells written anew by the library. -/
theorem own_put {W : World} {base g cap n : Nat} {os : Array Obj} {xs ys : List Int} (h : OwnInts W base (.slice (some ⟨g, 0, none⟩) xs.length cap) xs) (hl : ys.length = xs.length) :
    OwnInts (grow (putRow (Value.int .i64) (Sort.ahead W n) g 0 ys.toArray) os) base (.slice (some ⟨g, 0, none⟩) ys.length cap) ys ∧ W.grownBy (grow (putRow (Value.int .i64) (Sort.ahead W n) g 0 ys.toArray) os) (some g) := by
  rcases h.2 with ⟨h0, _⟩ | ⟨g', cap', cur, hv, hb, hh, h1, h2, h3, h4⟩
  · cases h0
  · cases hv
    refine ⟨?_, grownBy_sortedI _⟩
    have := ownsRow_sortedI (n := n) (os := os) hl hb hh h1 h2 h3
    rw [← hl] at this
    exact this
theorem own_holds {W : World} {base g cap : Nat} {xs : List Int} (h : OwnInts W base (.slice (some ⟨g, 0, none⟩) xs.length cap) xs) : Holds (Value.int .i64) W g 0 xs.toArray ∧ g < W.heap.size ∧ xs.length ≤ cap ∧ xs.length ≤ 9223372036854775807 := by
  rcases h.2 with ⟨h0, _⟩ | ⟨g', cap', cur, hv, hb, hh, h1, h2, h3, h4⟩
  · cases h0
  · cases hv
    refine ⟨holds_of_blockI hh (by rw [← Nat.mul_one xs.length]; exact h4), (Array.getElem?_eq_some_iff.1 hh).1, h1, ?_⟩
    simp only [maxLen] at h2
    omega
theorem ltIdx (a b : Int) : Go.Proofs.ltOf byIdx a b = decide (idxOf a < idxOf b) := by
  unfold Go.Proofs.ltOf byIdx
  rw [Bool.eq_iff_iff]
  simp only [decide_eq_true_eq]
  omega
theorem swoIdx : SWO (Go.Proofs.ltOf byIdx) where
  irrefl x := by rw [ltIdx]; simp
  trans x y z h1 h2 := by rw [ltIdx] at *; simp at *; omega
  ntrans x y z h1 h2 := by rw [ltIdx] at *; simp at *; omega
theorem cmp_lays (blk off size : Nat) (w : World) : CmpLays1 Try.prog 114 #[] (Value.int .i64) byIdx blk off size w := by
  refine CmpReads.lays ?_
  intro m os dk _ x y
  refine (byIndex_calls x y _).mono ?_
  rintro e w' ⟨rfl, ⟨q, rfl⟩⟩
  exact ⟨rfl, q, rfl⟩
theorem sort_calls (W : World) (base g cap : Nat) (xs : List Int) (h : OwnInts W base (.slice (some ⟨g, 0, none⟩) xs.length cap) xs) (hn : xs.length ≤ 17592186044416) :
    Calls Try.prog 113 #[.slice (some ⟨g, 0, none⟩) xs.length cap, .func (.func 114) #[] #[]] W fun e W' => e = .returned (.tuple #[]) ∧
      ∃ ys : List Int, ys.Perm xs ∧ (∀ i j, i < j → j < ys.toArray.size → idxOf ys.toArray[i]! ≤ idxOf ys.toArray[j]!) ∧ OwnInts W' base (.slice (some ⟨g, 0, none⟩) ys.length cap) ys ∧ ys.length = xs.length ∧ W.grownBy W' (some g) := by
  obtain ⟨hH, hg, _, _⟩ := own_holds h
  have hc := Try.slices_SortFunc (Value.int .i64) (fun _ => rfl) byIdx swoIdx 114 #[] g 0 cap xs.toArray W (enters_of Try.func114 (by kernel_rfl) rfl) (cmp_lays _ _ _ _) hH hg (by simp; omega)
  simp only [List.size_toArray] at hc
  refine hc.mono ?_
  rintro e W' ⟨rfl, d', n, os, hp, hs, rfl⟩
  have hl : d'.toList.length = xs.length := by have := hp.1; simpa using this
  have ho := own_put (n := n) (os := os) h hl
  refine ⟨rfl, d'.toList, ?_, ?_, ?_, hl, ?_⟩
  · have := hp.2.2
    have hsz : d'.size = xs.length := by simpa using hl
    rw [← hsz] at this
    simp only [Array.extract_size] at this
    have e2 : (xs.toArray.extract 0 d'.size) = xs.toArray := by
      rw [hsz, show xs.length = xs.toArray.size by simp, Array.extract_size]
    rw [e2] at this
    simpa using this
  · intro i j hij hj
    have hsz : d'.size = xs.length := by simpa using hl
    have := hs i j (Nat.zero_le _) hij (by simpa [hsz] using hj)
    rw [ltIdx] at this
    simp only [Array.toArray_toList]
    simpa using this
  · simpa [sortWorld] using ho.1
  · simpa [sortWorld] using ho.2
theorem compact_calls (W : World) (base g cap : Nat) (zs : List Int) (h : OwnInts W base (.slice (some ⟨g, 0, none⟩) zs.length cap) zs) :
    Calls Try.prog 115 #[.slice (some ⟨g, 0, none⟩) zs.length cap] W fun e W' => e = .returned (.slice (some ⟨g, 0, none⟩) (Go.Lib.compact zs).length cap) ∧
      OwnInts W' base (.slice (some ⟨g, 0, none⟩) (Go.Lib.compact zs).length cap) (Go.Lib.compact zs) ∧ W.grownBy W' (some g) := by
  obtain ⟨hH, hg, hcap, hmx⟩ := own_holds h
  refine (Try.slices_Compact_int g 0 cap zs W hH hmx hcap).mono ?_
  rintro e W' ⟨rfl, q, rfl⟩
  have hle : (Go.Lib.compact zs).length ≤ zs.length := Go.Lib.compact_length_le zs
  have hl : (Go.Lib.compact zs ++ List.replicate (zs.length - (Go.Lib.compact zs).length) (0 : Int)).length = zs.length := by
    rw [List.length_append, List.length_replicate]
    omega
  have ho := own_put (n := q) (os := #[]) h hl
  simp only [grow_empty] at ho
  refine ⟨rfl, ?_, ho.2⟩
  have hcut := own_cut ho.1 (m := (Go.Lib.compact zs).length) (by rw [hl]; exact hle)
  have e3 : (nums .i64 (Go.Lib.compact zs ++ List.replicate (zs.length - (Go.Lib.compact zs).length) (0 : Int))).take (Go.Lib.compact zs).length = nums .i64 (Go.Lib.compact zs) := by
    rw [nums_append, List.take_append_of_le_length (Nat.le_of_eq (nums_length _ _).symm), List.take_of_length_le (Nat.le_of_eq (nums_length _ _))]
  rw [e3] at hcut
  exact hcut

theorem infoI : (Try.prog.info? 3).map (fun i => (i.zero, i.size, i.bytes)) = some (some (.int .i64 0), 1, 8) := by kernel_rfl

set_option maxHeartbeats 4000000 in
set_option maxRecDepth 100000 in
theorem tidy_own (A0 : Option Addr) (c0 : Nat) (l0 : List Int) (w : World) (hr0 : Kd.C (Kd.int .i64) w A0 l0.length l0) (hc0 : l0.length ≤ c0) (hn : l0.length ≤ 17592186044416) :
    Calls Try.prog 102 #[.slice A0 l0.length c0] w fun e w' => ∃ g cap, e = .returned (.slice (some ⟨g, 0, none⟩) (tidyOf l0).length cap) ∧ OwnInts w' w.heap.size (.slice (some ⟨g, 0, none⟩) (tidyOf l0).length cap) (tidyOf l0) ∧ Below w.heap.size w w' := by
  have HR0 := Aside0.mk hr0
  have HN := Aside0.mk hn
  obtain ⟨i0, hi, hz0, hz1, hz2⟩ := info_parts infoI
  have hmk : ∀ u : World, (Instr.makeSlice 27 (.int .i64 0) (.int .i64 (l0.length : Int))).run Try.prog u = .ok (.slice (some ⟨u.heap.size, 0, none⟩) 0 l0.length) (u.alloc (.cells (madeCells #[.int .i64 0] l0.length) 3)) := fun u => by
    have h := run_make (P := Try.prog) (w := u) 27 3 i0 (.int .i64 0) Try.underlying27 hi hz0 .i64 .i64 0 (l0.length : Int) (by omega) (by omega) (by rw [hz2]; omega) (by omega)
    have e : ((l0.length : Int)).toNat = l0.length := by omega
    rw [e] at h
    simpa [hz1, Value.cells] using h
  clear hn hc0 hr0 hi hz0 hz1 hz2
  go_enter Try.func102, Try.ntmps102
  go_wp2
  go_loopw [3, 5, 11] (fun v3 v5 v11 wr => ∃ (k g : Nat) (x : Int), v11 = .int .i64 x ∧ Aside0 (x = k ∧ k ≤ l0.length) ∧ Aside0 (v3.ownBlock = some g) ∧ Aside0 (OwnInts wr w.heap.size v3 ((l0.take k).filter formed)) ∧ Aside0 (Below w.heap.size w wr)) (fun _ _ i _ => l0.length - (intOf i).toNat)
  case atStart =>
    refine ⟨0, w.heap.size, 0, rfl, ⟨rfl, Nat.zero_le _⟩, ⟨rfl⟩, ⟨?_⟩, ⟨(Below.refl _ _).alloc (Nat.le_refl _) _⟩⟩
    exact own_made0 w w.heap.size l0.length 3 (.int .i64 0) (Nat.le_refl _) (by have := HN.out; omega)
  case round =>
    obtain ⟨k, g, x, rfl, HX, HG, HO, HB⟩ := hrel
    obtain ⟨hxk, hk⟩ := HX.out
    by_cases hlt : k < l0.length
    · have p1 : 0 ≤ x := by omega
      have q1 : x < (l0.length : Int) := by omega
      obtain ⟨ad, e1, hcell⟩ := Kd.at_int (Kd.C_below HR0.out HB.out) x p1 q1
      subst e1
      have p2 := eq_true p1
      have q2 := eq_true q1
      have q3 : decide (x < (l0.length : Int)) = true := decide_eq_true q1
      have ht : (l0.take (k + 1)).filter formed = (l0.take k).filter formed ++ (if formed (rd l0 x) = true then [rd l0 x] else []) := by
        rw [hxk, take_rd hlt, List.filter_append]
        cases h : formed (rd l0 k) <;> simp [h]
      have HX2 : Aside0 (wrap64 (x + 1) = ((k + 1 : Nat) : Int) ∧ k + 1 ≤ l0.length) := by
        have := HN.out
        exact ⟨by rw [w64 (by omega) (by omega)]; omega, by omega⟩
      have hm : (intOf (.int .i64 (wrap64 (x + 1)))).toNat = k + 1 := by rw [HX2.out.1]; simp [intOf]
      have hm0 : (intOf (.int .i64 x)).toNat = k := by rw [hxk]; simp [intOf]
      have HM : Aside0 (l0.length - (intOf (.int .i64 (wrap64 (x + 1)))).toNat < l0.length - (intOf (.int .i64 x)).toNat) := ⟨by rw [hm, hm0]; omega⟩
      have HL : Aside0 (((l0.take k).filter formed).length + 1 ≤ 17592186044416) := by
        have h1 := List.length_filter_le formed (l0.take k)
        rw [List.length_take] at h1
        have := HN.out
        exact ⟨by omega⟩
      cases hf : formed (rd l0 x) with
      | false =>
        have F := fun w => formed_calls (rd l0 x) false w hf
        rw [hf] at ht
        simp only [Bool.false_eq_true, if_false, List.append_nil] at ht
        have HT := Aside0.mk ht
        clear ht hf hm hm0 hxk hk hlt p1 q1
        go_wp2_with (go_at_call 62; (with_reducible refine (F _).mono ?_); rintro e w' ⟨rfl, ⟨nd, rfl⟩⟩)
        go_roundw
        case measure => exact HM.out
        case rel => exact ⟨k + 1, g, _, rfl, HX2, HG, ⟨by rw [HT.out]; exact HO.out⟩, ⟨pw_below_drewN HB.out _⟩⟩
      | true =>
        have F := fun w => formed_calls (rd l0 x) true w hf
        rw [hf] at ht
        simp only [if_true] at ht
        have HT := Aside0.mk ht
        clear ht hf hm hm0 hxk hk hlt p1 q1
        generalize hxs : (l0.take k).filter formed = xs at HO HT HL
        clear hxs
        go_wp2_with (first | (go_at_call 62; (with_reducible refine (F _).mono ?_); rintro e w' ⟨rfl, ⟨nd, rfl⟩⟩) | ((with_reducible refine gate_builtin (b := .append) (xs := #[.tmp 17, .tmp 19]) rfl ?_); at_builtin; refine print_append_num (w0 := w) w.heap.size rfl (.tmp 17) (.tmp 19) 27 3 .i64 8 rfl Try.underlying27 infoI (by decide) _ xs (rd l0 x) rfl rfl ?aO ?aB ?aS ?aL ?_; (case aO => exact HO.out); (case aB => exact pw_below_drewN HB.out _); (case aS => exact HB.out.size); (case aL => have := HL.out; omega); intro v1 w1 ho hb hg hat; have HO1 := Aside0.mk ho; have HB1 := Aside0.mk hb; have HG1 := Aside0.mk hat; clear ho hb hg hat))
        go_roundw
        case measure => exact HM.out
        case rel =>
          rcases HG1.out with h | ⟨b, h, _⟩
          · exact ⟨k + 1, g, _, rfl, HX2, ⟨h.trans HG.out⟩, ⟨by rw [HT.out]; exact HO1.out⟩, ⟨HB1.out⟩⟩
          · exact ⟨k + 1, b, _, rfl, HX2, ⟨h⟩, ⟨by rw [HT.out]; exact HO1.out⟩, ⟨HB1.out⟩⟩
    · obtain rfl : k = l0.length := by omega
      have q3 : decide (x < (l0.length : Int)) = false := decide_eq_false (by omega)
      have ho := HO.out
      rw [List.take_length] at ho
      clear HO hxk hk hlt HX
      obtain ⟨xs, hxs⟩ : ∃ xs, xs = l0.filter formed := ⟨_, rfl⟩
      rw [← hxs] at ho
      have HXS := Aside0.mk hxs
      clear hxs
      obtain ⟨cap, rfl⟩ : ∃ cap, u3 = .slice (some ⟨g, 0, none⟩) xs.length cap := by
        rcases ho.2 with ⟨h0, _⟩ | ⟨g', cap', cur, hv, hb, hh, h1, h2, h3, h4⟩
        · have := HG.out
          rw [h0] at this
          cases this
        · have hq := HG.out
          rw [hv] at hq
          injection hq with hq
          subst hq
          exact ⟨_, hv⟩
      have hlen : xs.length ≤ 17592186044416 := by
        have h1 := List.length_filter_le formed l0
        rw [← HXS.out] at h1
        have := HN.out
        omega
      have S := fun W => sort_calls W w.heap.size g cap xs
      have HS := Aside0.mk S
      have HO := Aside0.mk ho
      have HLE := Aside0.mk hlen
      have HBG : Aside0 (w.heap.size ≤ g) := ⟨own_base ho g rfl⟩
      clear S ho hlen
      have e4 : ((l0.take l0.length).filter formed) = xs := by rw [List.take_length, HXS.out]
      go_wp2_with fail
      (with_reducible refine (HS.out _ HO.out HLE.out).mono ?_)
      rintro e w1 ⟨rfl, ys, hp, hs, ho1, hl1, hg1⟩
      have C := fun W h => compact_calls W w.heap.size g cap ys h
      rw [hl1] at C ho1
      have HC := Aside0.mk C
      have HO1 := Aside0.mk ho1
      have HP := Aside0.mk hp
      have HS1 := Aside0.mk hs
      have HB1 : Aside0 (Below w.heap.size w w1) := ⟨HB.out.grown hg1 HB.out.size (fun j hj => by cases hj; exact HBG.out)⟩
      clear C ho1 hp hs hl1 hg1
      go_wp2_with fail
      (with_reducible refine (HC.out _ HO1.out).mono ?_)
      rintro e w2 ⟨rfl, ho2, hg2⟩
      have e5 : Go.Lib.compact ys = tidyOf l0 := by
        have := compact_tidy l0 ys.toArray (by rw [← HXS.out]; exact HP.out) HS1.out
        simpa using this
      have HO2 : Aside0 (OwnInts w2 w.heap.size (.slice (some ⟨g, 0, none⟩) (tidyOf l0).length cap) (tidyOf l0)) := ⟨by rw [← e5]; exact ho2⟩
      have HB2 : Aside0 (Below w.heap.size w w2) := ⟨HB1.out.grown hg2 HB1.out.size (fun j hj => by cases hj; exact HBG.out)⟩
      have E5 := Aside0.mk e5
      clear e5 ho2 hg2
      go_wp2
      go_ret
      exact ⟨g, cap, by rw [← E5.out]; rfl, HO2.out, HB2.out⟩

theorem tidy_calls (A0 : Option Addr) (c0 : Nat) (l0 : List Int) (w : World) (hr0 : Kd.C (Kd.int .i64) w A0 l0.length l0) (hc0 : l0.length ≤ c0) (hn : l0.length ≤ 17592186044416) :
    Calls Try.prog 102 #[.slice A0 l0.length c0] w fun e w' => ∃ v0_ : Value, e = .returned (v0_) ∧ Kd.R (Kd.int .i64) 3 w' w.heap.size (fun _ => True) v0_ (tidyOf l0) ∧ Below w.heap.size w w' :=
  (tidy_own A0 c0 l0 w hr0 hc0 hn).mono fun e w' ⟨g, cap, he, ho, hb⟩ => ⟨_, he, own_R ho, hb⟩

end Go.Proofs.YtkkkbcjmkmadhaaHand
/-! text YtkkkbcjmkmadhaaArenaBase -/
namespace Go.Proofs.YtkkkbcjmkmadhaaOwn
open Go Go.RowKit Go.Proofs.YtkkkbcjmkmadhaaW.PrintWords Go.Proofs.YtkkkbcjmkmadhaaW.PrintLast
set_option linter.unusedVariables false
set_option linter.unusedSimpArgs false
section
variable {w W W1 : World} {X : Nat → Prop} {l : List Asr}
/-- a row of numbers has grown, as append tells it -/
theorem Sep.grownRow (h : Sep w X l W) (hX : ∀ b, X b → b < W.heap.size) (i : Nat) {k : IntKind} {e : Nat} {v v1 : Value} {xs ys : List Int} (hi : l[i]? = some (.row (Kd.int k) e v xs)) (ho : W1.ownsRow 0 e 1 v1 ys.length (nums k ys)) (hg : W.grownBy W1 v.ownBlock) (hat : v1.ownBlock = v.ownBlock ∨ ∃ b, v1.ownBlock = some b ∧ W.heap.size ≤ b) : Sep w X (l.set i (.row (Kd.int k) e v1 ys)) W1 :=
  h.upd i hi (M := fun k => some k = v.ownBlock) (Grow.of_grownBy hg fun r e => e.symm) hX (fun ok hA b hb _ => hA.1 b hb.symm) fun ok hA hnew => Kd.R_of_own ho fun b hb => by
    rcases hat with hat | ⟨c, hc, hle⟩
    · exact hA.1 b (by rw [← hat]; exact hb)
    · rw [hc] at hb
      injection hb with hb
      subst hb
      exact hnew _ hle
theorem Sep.ownRow (h : Sep w X l W) (i : Nat) {k : IntKind} {e : Nat} {v : Value} {xs : List Int} (hi : l[i]? = some (.row (Kd.int k) e v xs)) : W.ownsRow 0 e 1 v xs.length (nums k xs) := Kd.own_of_R (h.get i hi)
theorem Sep.rowSlice (h : Sep w X l W) (i : Nat) {k : IntKind} {e : Nat} {v : Value} {xs : List Int} (hi : l[i]? = some (.row (Kd.int k) e v xs)) : ∃ A c, v = .slice A xs.length c := Kd.R_slice (h.get i hi)
theorem Sep.rowReads (h : Sep w X l W) (i : Nat) {k : IntKind} {e : Nat} {A : Option Addr} {n c : Nat} {xs : List Int} (hi : l[i]? = some (.row (Kd.int k) e (.slice A n c) xs)) : n = xs.length ∧ n ≤ c ∧ Kd.C (Kd.int k) W A xs.length xs := Kd.R_reads' (h.get i hi)
/-- a new row in a free place -/
theorem Sep.fillRow (h : Sep w X l W) (hX : ∀ b, X b → b < W.heap.size) (i : Nat) (hi : l[i]? = some .emp) {k : IntKind} {e : Nat} {v : Value} {xs : List Int} (ho : W1.ownsRow W.heap.size e 1 v xs.length (nums k xs)) (hb : Below W.heap.size W W1) : Sep w X (l.set i (.row (Kd.int k) e v xs)) W1 :=
  h.fill i hi hb hX (row_of (base := W.heap.size) (ok := fun _ => True) (Kd.R_of_own ho fun _ _ => trivial))
end
end Go.Proofs.YtkkkbcjmkmadhaaOwn
namespace Go.Proofs.YtkkkbcjmkmadhaaHand
open Go.RowKit Go.Proofs.YtkkkbcjmkmadhaaW.PrintWords Go.Proofs.YtkkkbcjmkmadhaaW.PrintLast Go.Proofs.YtkkkbcjmkmadhaaMath Go.Proofs.YtkkkbcjmkmadhaaMaps Go.Maps Go.Proofs.YtkkkbcjmkmadhaaOwn
set_option linter.unusedVariables false
set_option linter.unusedSimpArgs false
abbrev nX : Nat → Prop := fun _ => False
theorem nX_lt {W : World} : ∀ b, nX b → b < W.heap.size := fun _ h => h.elim
abbrev kI : Kd Int := Kd.int .i64
/-- the arena's variable -/
abbrev aB (b : Nat) (vw : Value) (B : Nat) (vo : Value) : Asr := .blk b (.cells #[vw, .map (some B), vo] 94 (0, 0))
noncomputable abbrev aM (B n : Nat) (f : Int → Option Bool) (c : Nat) : Asr := .im Try.prog 34 intKeys markElem B n f c
/-- an arena: its variable, its words, its marks, its order -/
noncomputable abbrev arL (b : Nat) (L : List Cl) (n : Nat) (vw : Value) (B : Nat) (vo : Value) : List Asr := [aB b vw B vo, .row kI 3 vw (wordsOf L), aM B n (marksOf L) (countOf L), .row kI 34 vo (orderOf L)]
/-- an arena as one thing: n stores at most into its marks -/
noncomputable def arA (b : Nat) (L : List Cl) (n : Nat) : Asr := .ex fun q : Value × Nat × Value => .all (arL b L n q.1 q.2.1 q.2.2)
theorem ar_open {w W : World} {l : List Asr} {b n : Nat} {L : List Cl} (h : Sep w nX l W) (i : Nat) (hi : l[i]? = some (arA b L n)) : ∃ Aw cw B Ao co, Sep w nX (arL b L n (.slice Aw (wordsOf L).length cw) B (.slice Ao (orderOf L).length co) ++ l.set i .emp) W := by
  obtain ⟨⟨vw, B, vo⟩, h1⟩ := h.exOpen i hi
  have h2 := h1.opened i (List.getElem?_set_self (List.getElem?_eq_some_iff.1 hi).1)
  rw [List.set_set] at h2
  obtain ⟨Aw, cw, ew⟩ := h2.rowSlice 1 rfl
  obtain ⟨Ao, co, eo⟩ := h2.rowSlice 3 rfl
  have ew' : vw = .slice Aw (wordsOf L).length cw := ew
  have eo' : vo = .slice Ao (orderOf L).length co := eo
  subst ew'
  subst eo'
  exact ⟨Aw, cw, B, Ao, co, h2⟩
theorem ar_shut {w W : World} {l : List Asr} {b n : Nat} {L : List Cl} {vw vo : Value} {B : Nat} (h : Sep w nX (arL b L n vw B vo ++ l) W) (i : Nat) (hi : l[i]? = some .emp) : Sep w nX (l.set i (arA b L n)) W := by
  have h1 := h.shut i hi
  have h2 := h1.exShut (A := fun q : Value × Nat × Value => Asr.all (arL b L n q.1 q.2.1 q.2.2)) (x := (vw, B, vo)) i (List.getElem?_set_self (List.getElem?_eq_some_iff.1 hi).1)
  rw [List.set_set] at h2
  exact h2
theorem new_sep {w W : World} {l : List Asr} (h : Sep w nX l W) (i : Nat) (hi : l[i]? = some .emp) :
    Calls Try.prog 19 #[] W fun e W' => ∃ b, e = .returned (.pointer (some ⟨b, 0, none⟩)) ∧ Sep w nX (l.set i (arA b [] 0)) W' := by
  refine (new_calls W).mono ?_
  rintro e W' ⟨rfl, rfl⟩
  refine ⟨_, rfl, ?_⟩
  have hb : Below W.heap.size W ((W.alloc (.map #[] 0)).alloc (.cells #[.slice none 0 0, .map (some W.heap.size), .slice none 0 0] 94)) := below_alloc (below_alloc (Below.refl _ _) _) _
  refine h.fill i hi hb nX_lt ⟨(.slice none 0 0, W.heap.size, .slice none 0 0), fun b => if b = W.heap.size then 2 else 0, fun j A hj => ?_⟩
  match j, hj with
  | 0, hj =>
    obtain rfl := Option.some.inj hj
    refine ⟨⟨if_neg (by omega), by omega⟩, ?_⟩
    have := World.alloc_heap_new (W.alloc (.map #[] 0)) (.cells #[.slice none 0 0, .map (some W.heap.size), .slice none 0 0] 94)
    simpa using this
  | 1, hj => obtain rfl := Option.some.inj hj; exact Kd.R_nil _ _ _ _ _
  | 2, hj =>
    obtain rfl := Option.some.inj hj
    refine ⟨⟨if_pos rfl, Nat.le_refl _⟩, ?_⟩
    exact (IM.made W).alloc _
  | 3, hj => obtain rfl := Option.some.inj hj; exact Kd.R_nil _ _ _ _ _
  | j + 4, hj => cases hj
set_option maxHeartbeats 4000000 in
set_option maxRecDepth 100000 in
theorem count_sep {w W : World} {R : List Asr} {b n B : Nat} {L : List Cl} {vw vo : Value} (h : Sep w nX (arL b L n vw B vo ++ R) W) :
    Calls Try.prog 30 #[.pointer (some ⟨b, 0, none⟩)] W fun e W' => e = .returned (.int .i64 (countOf L : Nat)) ∧ W' = W := by
  have f1 : W.cell? ⟨b, 1, none⟩ = some (.map (some B)) := (h.cell 0 1 rfl).trans rfl
  have LN := fun ty => (h.imGet 2 rfl).len Try.underlying92 ty
  clear h
  go_enter Try.func30, Try.ntmps30
  go_wp2
  go_ret
  exact ⟨rfl, rfl⟩
set_option maxHeartbeats 4000000 in
set_option maxRecDepth 100000 in
theorem words_sep {w W : World} {R : List Asr} {b n B : Nat} {L : List Cl} {Aw : Option Addr} {cw : Nat} {vo : Value} (h : Sep w nX (arL b L n (.slice Aw (wordsOf L).length cw) B vo ++ R) W) :
    Calls Try.prog 42 #[.pointer (some ⟨b, 0, none⟩)] W fun e W' => e = .returned (.int .i64 (sizeL L : Nat)) ∧ W' = W := by
  have f0 : W.cell? ⟨b, 0, none⟩ = some (.slice Aw (wordsOf L).length cw) := (h.cell 0 0 rfl).trans rfl
  rw [wordsOf_length] at f0
  clear h
  go_enter Try.func42, Try.ntmps42
  go_wp2
  go_ret
  exact ⟨rfl, rfl⟩
set_option maxHeartbeats 4000000 in
set_option maxRecDepth 100000 in
theorem field_mark (q : Bool) (W : World) : (Instr.field 96 (.agg #[.bool q]) 0).run Try.prog W = .ok (.bool q) W := by kernel_rfl
set_option maxHeartbeats 4000000 in
set_option maxRecDepth 100000 in
theorem learnt_sep {w W : World} {R : List Asr} {b n B : Nat} {L : List Cl} {vw vo : Value} (h : Sep w nX (arL b L n vw B vo ++ R) W) (r : Int) (hr : -9223372036854775808 ≤ r ∧ r ≤ 9223372036854775807) :
    Calls Try.prog 44 #[.pointer (some ⟨b, 0, none⟩), .int .i64 r] W fun e W' => e = .returned (.bool ((marksOf L r).getD false)) ∧ W' = W := by
  have f1 : W.cell? ⟨b, 1, none⟩ = some (.map (some B)) := (h.cell 0 1 rfl).trans rfl
  have L1 : (Instr.lookup 92 (.map (some B)) (.int .i64 r) false).run Try.prog W = .ok (.agg #[.bool ((marksOf L r).getD false)]) W :=
    (h.imGet 2 rfl).look keyR Try.underlying92 (z := false) (zeroM _) trivial (hkeyR hr)
  have F1 := field_mark ((marksOf L r).getD false) W
  clear h hr
  generalize (marksOf L r).getD false = q at *
  go_enter Try.func44, Try.ntmps44
  go_wp2
  go_ret
  exact ⟨rfl, rfl⟩
set_option maxHeartbeats 4000000 in
set_option maxRecDepth 100000 in
theorem own_calls (A0 : Option Addr) (c0 : Nat) (l0 : List Int) (n0 : Nat) (w : World) (hn0 : n0 = l0.length) (hr0 : Kd.C (Kd.int .i64) w A0 l0.length l0) (hn : l0.length ≤ 8796093022208) :
    Calls Try.prog 57 #[.slice A0 n0 c0] w fun e w' => ∃ A c, e = .returned (.slice A l0.length c) ∧ Kd.R (Kd.int .i64) 3 w' w.heap.size (fun _ => True) (.slice A l0.length c) l0 ∧ Below w.heap.size w w' := by
  subst hn0
  obtain ⟨i0, hi, hz0, hz1, hz2⟩ := info_parts infoI
  have hmk : ∀ u : World, (Instr.makeSlice 27 (.int .i64 0) (.int .i64 (l0.length : Int))).run Try.prog u = .ok (.slice (some ⟨u.heap.size, 0, none⟩) 0 l0.length) (u.alloc (.cells (madeCells #[.int .i64 0] l0.length) 3)) := fun u => by
    have h := run_make (P := Try.prog) (w := u) 27 3 i0 (.int .i64 0) Try.underlying27 hi hz0 .i64 .i64 0 (l0.length : Int) (by omega) (by omega) (by rw [hz2]; omega) (by omega)
    have e : ((l0.length : Int)).toNat = l0.length := by omega
    rw [e] at h
    simpa [hz1, Value.cells] using h
  have HO0 := Aside0.mk (own_made0 w w.heap.size l0.length 3 (.int .i64 0) (Nat.le_refl _) (by omega))
  have HB0 := Aside0.mk (below_alloc (Below.refl w.heap.size w) (.cells (madeCells #[.int .i64 0] l0.length) 3))
  have HR0 := Aside0.mk (Kd.C_below hr0 HB0.out)
  have HN := Aside0.mk hn
  clear hn hr0 hi hz0 hz1 hz2
  go_enter Try.func57, Try.ntmps57
  go_wp2_with ((with_reducible refine gate_builtin (b := .append) (xs := #[.tmp 5, .tmp 6]) rfl ?_); at_builtin; refine print_append_row (w0 := w) w.heap.size rfl (.tmp 5) (.tmp 6) 27 3 .i64 8 rfl Try.underlying27 infoI (by decide) _ ([] : List Int) l0 A0 _ _ rfl rfl ?aO ?aR ?aB ?aS ?aL ?_; (case aO => exact HO0.out); (case aR => exact Kd.reads_of_C HR0.out); (case aB => exact HB0.out); (case aS => exact HB0.out.size); (case aL => have := HN.out; simp; omega); intro v1 w1 ho hb hg hat; have HO1 := Aside0.mk ho; have HB1 := Aside0.mk hb; clear ho hb hg hat)
  go_ret
  have ho := HO1.out
  rw [List.nil_append] at ho
  obtain ⟨A, c, e⟩ := Kd.R_slice (own_R ho)
  subst e
  exact ⟨A, c, rfl, own_R ho, HB1.out⟩
theorem cut_C {W : World} {ad : Addr} {nw x q : Nat} {ws P Q : List Int} {c : Cl} {from_ : Int} (h : Kd.C (Kd.int .i64) W (some ad) nw ws) (hw : ws = P ++ c.words ++ Q) (hx : P.length = x) (hf : from_ = ((x + 1 : Nat) : Int)) (hq : q = c.lits.length) (h0 : 0 < q) : Kd.C (Kd.int .i64) W (some (ad.add from_.toNat)) q c.lits := by
  obtain rfl : nw = ws.length := h.1.symm
  have hl : ws.length = P.length + (c.lits.length + 1) + Q.length := by rw [hw, List.length_append, List.length_append]; rfl
  have h1 := Kd.C_mid (lo := x + 1) (hi := x + 1 + q) (c := ws.length) h (by omega) (by omega) (Nat.le_refl _)
  have e : (ws.take (x + 1 + q)).drop (x + 1) = c.lits := by
    rw [hw, ← hx, hq, Cl.words]
    have e1 : (P ++ (((c.lits.length : Int)) :: c.lits) ++ Q).take (P.length + 1 + c.lits.length) = P ++ ((c.lits.length : Int) :: c.lits) := by
      rw [List.take_append_of_le_length (by simp; omega), List.take_of_length_le (by simp; omega)]
    rw [e1, show P ++ ((c.lits.length : Int) :: c.lits) = (P ++ [(c.lits.length : Int)]) ++ c.lits by simp]
    exact List.drop_left' (by simp)
  rw [e, if_neg (by omega), ← hq] at h1
  rw [hf, Int.toNat_natCast]
  have h2 : (some ad).map (fun a => a.add ((x + 1) * (Kd.int .i64).sz)) = some (ad.add (x + 1)) := by show some (ad.add ((x + 1) * 1)) = _; rw [Nat.mul_one]
  rw [h2] at h1
  exact h1
theorem cut_facts {x y nw cw P Q : Nat} (h : nw = P + (y + 1) + Q) (hx : P = x) (hn : nw ≤ 8796093022208) (hc : nw ≤ cw) : x + 1 + y ≤ nw ∧ (0 : Int) ≤ (x : Int) ∧ (x : Int) < (nw : Int) ∧ x < nw ∧ ∃ from_ to_ : Int, wrap64 ((x : Int) + 1) = from_ ∧ wrap64 (from_ + (y : Int)) = to_ ∧ 0 ≤ from_ ∧ from_ ≤ to_ ∧ to_ ≤ (cw : Int) ∧ from_ = ((x + 1 : Nat) : Int) ∧ to_ = ((x + 1 + y : Nat) : Int) :=
  ⟨by omega, by omega, by omega, by omega, ((x + 1 : Nat) : Int), ((x + 1 + y : Nat) : Int), w64s (by omega), by rw [w64 (by omega) (by omega)]; omega, by omega, by omega, by omega, rfl, rfl⟩
set_option maxHeartbeats 4000000 in
set_option maxRecDepth 100000 in
theorem cut_sep {w W : World} {R : List Asr} {b n B : Nat} {L : List Cl} {Aw : Option Addr} {cw : Nat} {vo : Value} (h : Sep w nX (arL b L n (.slice Aw (wordsOf L).length cw) B vo ++ R) W) {p : Nat × Cl} (hp : p ∈ placed 0 L) (hsz : sizeL L ≤ 8796093022208) (r : Int) (hr : r = (p.1 : Int)) :
    Calls Try.prog 58 #[.pointer (some ⟨b, 0, none⟩), .int .i64 r] W fun e W' => (∃ A, e = .returned (.slice A p.2.lits.length p.2.lits.length) ∧ Kd.C (Kd.int .i64) W A p.2.lits.length p.2.lits) ∧ W' = W := by
  subst hr
  have f0 : W.cell? ⟨b, 0, none⟩ = some (.slice Aw (wordsOf L).length cw) := (h.cell 0 0 rfl).trans rfl
  obtain ⟨_, hcw, hC⟩ := h.rowReads 1 rfl
  obtain ⟨P0, Q0, hw, hpl⟩ := placed_words hp
  rw [Nat.add_zero] at hpl
  have hlen : (wordsOf L).length = P0.length + (p.2.lits.length + 1) + Q0.length := by rw [hw, List.length_append, List.length_append]; rfl
  rw [← wordsOf_length] at hsz
  obtain ⟨hpq, p1, p2, p3, from_, to_, w1, w2, s0, s1, s2, hfrom, hto⟩ := cut_facts hlen hpl hsz hcw
  obtain ⟨ad, e1, hcell⟩ := Kd.at_int hC (p.1 : Int) p1 p2
  have hrd : rd (wordsOf L) (p.1 : Int) = (p.2.lits.length : Int) := by
    rw [rd_nat p3]
    simp [hw, ← hpl, Cl.words]
  rw [hrd, Int.toNat_natCast] at hcell
  subst e1
  have HH := Aside0.mk h
  have HC := Aside0.mk hC
  have HCW := Aside0.mk hcw
  have HPQ := Aside0.mk hpq
  have HTO := Aside0.mk hto
  have HFROM := Aside0.mk hfrom
  have HW := Aside0.mk hw
  have HPL := Aside0.mk hpl
  obtain ⟨q, hq⟩ : ∃ q : Nat, q = p.2.lits.length := ⟨_, rfl⟩
  rw [← hq] at hcell w2 ⊢
  have HQ := Aside0.mk hq
  generalize (wordsOf L).length = nw at *
  clear h hC hw hpl hlen hq hto hfrom hpq hcw hsz p3 hrd
  go_enter Try.func58, Try.ntmps58
  go_wp2
  case inr =>
    rename_i hz
    go_ret
    have e1 : to_.toNat - from_.toNat = q := by rw [HTO.out, HFROM.out, Int.toNat_natCast, Int.toNat_natCast, HQ.out]; omega
    refine ⟨⟨some (ad.add from_.toNat), by first | (simp [e1]; done) | rfl, ?_⟩, rfl⟩
    have hq0 : 0 < q := by rw [HTO.out, HFROM.out, Int.toNat_natCast, Int.toNat_natCast, ← HQ.out] at h; omega
    exact cut_C HC.out HW.out HPL.out HFROM.out (by rw [HQ.out]) hq0
  case inl =>
    rename_i hz
    go_ret
    have hq0 : q = 0 := by rw [HTO.out, HFROM.out, Int.toNat_natCast, Int.toNat_natCast, ← HQ.out] at h; omega
    have hl : p.2.lits = [] := List.length_eq_zero_iff.1 (by rw [← HQ.out]; exact hq0)
    rw [hl]
    subst hq0
    exact ⟨⟨some ad, rfl, ⟨rfl, by simp, fun h => absurd h (Nat.lt_irrefl 0)⟩⟩, rfl⟩
set_option maxHeartbeats 4000000 in
set_option maxRecDepth 100000 in
theorem get_none {w W : World} {R : List Asr} {b n B : Nat} {L : List Cl} {vw vo : Value} (h : Sep w nX (arL b L n vw B vo ++ R) W) (r : Int) (hr : -9223372036854775808 ≤ r ∧ r ≤ 9223372036854775807) (hm : marksOf L r = none) :
    Calls Try.prog 26 #[.pointer (some ⟨b, 0, none⟩), .int .i64 r] W fun e W' => e = .returned (.tuple #[.slice none 0 0, .bool false]) ∧ Below W.heap.size W W' := by
  have f1 : W.cell? ⟨b, 1, none⟩ = some (.map (some B)) := (h.cell 0 1 rfl).trans rfl
  have L1 : (Instr.lookup 92 (.map (some B)) (.int .i64 r) true).run Try.prog W = .ok (.tuple #[.agg #[.bool false], .bool false]) W := by
    have := (h.imGet 2 rfl).look_ok keyR Try.underlying92 (z := false) (zeroM _) trivial (hkeyR hr)
    rwa [hm] at this
  clear h hr hm
  go_enter Try.func26, Try.ntmps26
  go_wp2
  go_ret2
  exact ⟨by first | rfl | (simp; done), by repeat (first | exact Below.refl _ _ | apply Below.setCell | apply below_alloc)⟩
set_option maxHeartbeats 4000000 in
set_option maxRecDepth 100000 in
theorem get_some {w W : World} {R : List Asr} {b n B : Nat} {L : List Cl} {Aw : Option Addr} {cw : Nat} {vo : Value} (h : Sep w nX (arL b L n (.slice Aw (wordsOf L).length cw) B vo ++ R) W) {p : Nat × Cl} (hp : p ∈ placed 0 L) (hl : p.2.live = true) (hsz : sizeL L ≤ 8796093022208) (r : Int) (hr : r = (p.1 : Int)) :
    Calls Try.prog 26 #[.pointer (some ⟨b, 0, none⟩), .int .i64 r] W fun e W' => ∃ A c, e = .returned (.tuple #[.slice A p.2.lits.length c, .bool true]) ∧ Kd.R (Kd.int .i64) 3 W' W.heap.size (fun _ => True) (.slice A p.2.lits.length c) p.2.lits ∧ Below W.heap.size W W' := by
  have f1 : W.cell? ⟨b, 1, none⟩ = some (.map (some B)) := (h.cell 0 1 rfl).trans rfl
  have hbd := placed_bd hp
  rw [Nat.zero_add] at hbd
  have hpl : p.2.lits.length ≤ 8796093022208 := by have := hbd.2; unfold Cl.len at this; omega
  have L1 : (Instr.lookup 92 (.map (some B)) (.int .i64 r) true).run Try.prog W = .ok (.tuple #[.agg #[.bool p.2.learnt], .bool true]) W := by
    have := (h.imGet 2 rfl).look_ok keyR Try.underlying92 (z := false) (zeroM _) trivial (hkeyR (x := r) (by subst hr; omega))
    rw [hr, marksOf_live hp, if_pos hl] at this
    rw [hr]
    exact this
  have HS := Aside0.mk (h.keep (below_alloc (Below.refl _ _) (.cells #[.bool p.2.learnt] 96)))
  have HCUT := Aside0.mk (cut_sep HS.out hp hsz r hr)
  have HPL := Aside0.mk hpl
  generalize p.2.learnt = q at *
  clear h hp hl hsz hr hbd hpl
  go_enter Try.func26, Try.ntmps26
  go_wp2_with (first
    | (go_at_call 58; go_loud ((with_reducible refine HCUT.out.mono ?_); rintro e w1 ⟨⟨A1, rfl, hC1⟩, rfl⟩; have HC1 := Aside0.mk hC1; clear hC1))
    | (go_at_call 57; (with_reducible refine (own_calls A1 _ p.2.lits _ _ rfl HC1.out HPL.out).mono ?_); rintro e w2 ⟨A2, c2, rfl, hR2, hb2⟩; have HR2 := Aside0.mk hR2; have HB2 := Aside0.mk hb2; clear hR2 hb2))
  go_ret2
  refine ⟨A2, c2, by first | rfl | (simp; done), Kd.R_lower HR2.out (by simp), ?_⟩
  exact below_step (below_alloc (Below.refl _ _) _) HB2.out
end Go.Proofs.YtkkkbcjmkmadhaaHand
