/- What unit.Why answers. -/
import Derived.Test.YtkkkbcjmkmadhaaClUnitWhysd
import Derived.Test.YtkkkbcjmkmadhaaClUnitWhysj
import Derived.WalkMore
import Derived.Test.YtkkkbcjmkmadhaaClUnitWhysa
/-! text YtkkkbcjmkmadhaaUnitWhy -/
namespace Go.Proofs.YtkkkbcjmkmadhaaHand
open Go.RowKit Go.Proofs.YtkkkbcjmkmadhaaW.PrintWords Go.Proofs.YtkkkbcjmkmadhaaW.PrintLast Go.Proofs.YtkkkbcjmkmadhaaMath Go.Proofs.YtkkkbcjmkmadhaaMaps Go.Maps Go.Proofs.Ytkkkbcjmkmadhaa.PUnitWhys
set_option linter.unusedVariables false
set_option linter.unusedSimpArgs false
def lenOf : Value → Nat
  | .slice _ n _ => n
  | _ => 0
theorem wf_nat1 {q : Nat} (h : q ≤ 35184372088832) : (Lit.int .i64 ((q + 1 : Nat) : Int)).wf = true := WalkArith.wf_i64 (by omega)
theorem w64_nat1 {q : Nat} (h : q ≤ 35184372088832) : wrap64 ((q : Int) + 1) = ((q + 1 : Nat) : Int) := w64s (by omega)
theorem imI_ne {W : World} {B n c g t : Nat} {f : Int → Option Int} {cells : Array Value} {z : Nat × Nat} (h : IMI W B n f c) (hb : W.heap[g]? = some (.cells cells t z)) : B ≠ g := by
  rintro rfl
  obtain ⟨D, ⟨es, clock, h1, _⟩, _⟩ := h
  rw [hb] at h1
  cases h1
theorem R_imap {α : Type} {d : Kd α} {e base : Nat} {ok : Nat → Prop} {W w1 : World} {v : Value} {xs : List α} {B n c : Nat} {f : Int → Option Int} (h : Kd.R d e W base ok v xs) (hm : IMI W B n f c) (hg : W.grownBy w1 (some B)) : Kd.R d e w1 base ok v xs := by
  refine Kd.R_mono (Kd.R_move (Kd.R_bound h) (fun k hk => hg.block k hk.2.2.1 (fun he => ?_))) (fun _ hk => hk.1)
  injection he with he
  subst he
  obtain ⟨_, _, _, q, hq, cells, hc⟩ := hk
  exact imI_ne hm hc rfl
theorem R_slice8 {α : Type} {d : Kd α} {e base : Nat} {ok : Nat → Prop} {W : World} {v : Value} {xs : List α} {x : α} (h : Kd.R d e W base ok v (xs ++ [x])) : ∃ n A c, v = .slice A n c ∧ n = xs.length + 1 := by
  obtain ⟨A, c, e⟩ := Kd.R_slice h
  exact ⟨_, A, c, e, by simp⟩
theorem infoC : (Try.prog.info? 129).map (fun i => (i.zero, i.size, i.bytes)) = some (some (.agg #[(.int .i64 0), (.int .i64 0)]), 2, 16) := by kernel_rfl
set_option maxHeartbeats 4000000 in
set_option maxRecDepth 100000 in
theorem why_bad (v1 : Int) (A1 A2 : Option Addr) (c1 c2 : Nat) (l1 : List (List Int)) (l2 : List Int) (w : World) (hr1 : Kd.C (Kd.slice 3 (Kd.int .i64)) w A1 l1.length l1) (hc1 : l1.length ≤ c1) (hr2 : Kd.C (Kd.int .i64) w A2 l2.length l2) (hc2 : l2.length ≤ c2)
    (hn : l1.length ≤ 5864062014805) (hs : ∀ c ∈ l1, c.length ≤ 17592186044416) (hn2 : l2.length ≤ 17592186044416) (hf : (isFormula v1 l1 && sound l2) = false) :
    Calls Try.prog 49 #[.agg #[.int .i64 v1, .slice A1 l1.length c1], .slice A2 l2.length c2] w fun e w' => e = .returned (.tuple #[.slice none 0 0, .int .i64 0, .int .i64 1]) ∧ Below w.heap.size w w' := by
  have HR1 := Aside0.mk hr1
  have HR2 := Aside0.mk hr2
  have F1 := fun W h h2 => asked_calls v1 A1 A2 c1 c2 l1 l2 W h hc1 h2 hc2 (by omega) hs hn2
  rw [hf] at F1
  simp only [Bool.false_eq_true, if_false] at F1
  have HF1 := Aside0.mk F1
  have HB := Aside0.mk (below_alloc (Below.refl w.heap.size w) (.cells #[.int .i64 v1, .slice A1 l1.length c1] 51 (0, 0)))
  clear F1 hr1 hr2 hc1 hc2 hn hs hn2 hf
  go_enter Try.func49, Try.ntmps49
  go_wp2_with fail
  go_step3
  go_wp2_with (go_at_call 81; (with_reducible refine (HF1.out _ (Kd.C_below HR1.out HB.out) (Kd.C_below HR2.out HB.out)).mono ?_); rintro e W1 ⟨rfl, hb⟩; have HB1 := Aside0.mk (below_step HB.out hb); clear hb)
  rw [Exit.noGoto_ret]
  go_ret3
  exact ⟨by first | rfl | simp, HB1.out⟩
set_option maxHeartbeats 4000000 in
set_option maxRecDepth 100000 in
theorem why_taut (v1 : Int) (A1 A2 : Option Addr) (c1 c2 : Nat) (l1 : List (List Int)) (l2 : List Int) (w : World) (hr1 : Kd.C (Kd.slice 3 (Kd.int .i64)) w A1 l1.length l1) (hc1 : l1.length ≤ c1) (hr2 : Kd.C (Kd.int .i64) w A2 l2.length l2) (hc2 : l2.length ≤ c2)
    (hn : l1.length ≤ 5864062014805) (hs : ∀ c ∈ l1, c.length ≤ 17592186044416) (hn2 : l2.length ≤ 17592186044416) (hf : (isFormula v1 l1 && sound l2) = true) (ht : tautIn (tidyOf l2) = true) :
    Calls Try.prog 49 #[.agg #[.int .i64 v1, .slice A1 l1.length c1], .slice A2 l2.length c2] w fun e w' => e = .returned (.tuple #[.slice none 0 0, .int .i64 0, .int .i64 20]) ∧ Below w.heap.size w w' := by
  have HR1 := Aside0.mk hr1
  have HR2 := Aside0.mk hr2
  have F1 := fun W h h2 => asked_calls v1 A1 A2 c1 c2 l1 l2 W h hc1 h2 hc2 (by omega) hs hn2
  have F3 := fun W h => taut_calls A2 c2 l2 W h hc2 hn2
  rw [hf] at F1
  simp only [if_true] at F1
  rw [ht] at F3
  have HF1 := Aside0.mk F1
  have HF3 := Aside0.mk F3
  have HB := Aside0.mk (below_alloc (Below.refl w.heap.size w) (.cells #[.int .i64 v1, .slice A1 l1.length c1] 51 (0, 0)))
  clear F1 F3 hr1 hr2 hc1 hc2 hn hs hn2 hf ht
  go_enter Try.func49, Try.ntmps49
  go_wp2_with fail
  go_step3
  go_wp2_with (first
    | (go_at_call 81; (with_reducible refine (HF1.out _ (Kd.C_below HR1.out HB.out) (Kd.C_below HR2.out HB.out)).mono ?_); rintro e W1 ⟨rfl, hb⟩; have HB1 := Aside0.mk (below_step HB.out hb); clear hb)
    | (go_at_call 82; (with_reducible refine (HF3.out _ (Kd.C_below HR2.out HB1.out)).mono ?_); rintro e W2 ⟨rfl, hb⟩; have HB2 := Aside0.mk (below_step HB1.out hb); clear hb))
  rw [Exit.noGoto_ret]
  go_ret3
  exact ⟨by first | rfl | simp, HB2.out⟩
/-- what holds behind a literal's being put -/
structure WhyAt (w : World) (B : Nat) (l1 : List (List Int)) (l2 : List Int) (r : List (Int × Int) × Int) (K : List Int) (acc : List (Int × Int)) (f : Int → Option Int) (cnt m : Nat) (L : List S129) (bx : Array Value) (v : Value) (W : World) : Prop where
  hB : Below w.heap.size w W
  box : W.heap[w.heap.size]? = some (.cells bx 51 (0, 0))
  map : IMI W B (l2.length + acc.length) f cnt
  tal : Tally f K
  go : whyGo l1 m K acc = some r
  fuel : m + acc.length = 1048577
  len : K.length ≤ l2.length + acc.length
  out : L = causes acc
  row : Kd.R k129 129 W w.heap.size (fun _ => True) v L
theorem whyGo_head {cs : List (List Int)} {m : Nat} {K : List Int} {acc : List (Int × Int)} {r : List (Int × Int) × Int} (h : whyGo cs m K acc = some r) : (firstGo K cs 0).2.1 = 2 ∧ r = (acc, (firstGo K cs 0).1) ∨ (firstGo K cs 0).2.1 = 0 ∧ r = (acc, -1) ∨ (firstGo K cs 0).2.1 = 3 ∧ ∃ m', m = m' + 1 ∧ whyGo cs m' ((firstGo K cs 0).2.2 :: K) (acc ++ [((firstGo K cs 0).2.2, (firstGo K cs 0).1)]) = some r := by
  cases m with
  | zero => simp [whyGo] at h
  | succ m =>
    simp only [whyGo] at h
    rcases firstGo_kind K cs 0 with h0 | h0 | h0
    · rw [if_neg (by omega), if_neg (by omega)] at h
      exact .inr (.inl ⟨h0, (Option.some.inj h).symm⟩)
    · rw [if_pos h0] at h
      exact .inl ⟨h0, (Option.some.inj h).symm⟩
    · rw [if_neg (by omega), if_pos h0] at h
      exact .inr (.inr ⟨h0, m, rfl, h⟩)
theorem first_drop {K : List Int} {l : List (List Int)} {k : Nat} {row : List Int} (hlt : k < l.length) (hrow : l.getD k [] = row) (h : firstGo K l 0 = firstGo K (l.drop k) (k : Int)) : firstGo K l 0 = if (standGo K row 0).1 = 2 ∨ (standGo K row 0).1 = 3 then ((k : Int), (standGo K row 0).1, (standGo K row 0).2) else firstGo K (l.drop (k + 1)) ((k + 1 : Nat) : Int) := by
  have e : l.drop k = row :: l.drop (k + 1) := by
    rw [← hrow, List.getD_eq_getElem?_getD, List.getElem?_eq_getElem hlt]
    exact List.drop_eq_getElem_cons hlt
  rw [h, e]
  simp only [firstGo, Int.natCast_add, Int.natCast_one]
theorem stand_snd (K : List Int) (c : List Int) : ∀ o, (standGo K c o).1 ≠ 3 → (standGo K c o).2 = 0 := by
  induction c with
  | nil => intro o h; simp only [standGo] at h ⊢; split at h <;> simp_all
  | cons x r ih =>
    intro o h
    simp only [standGo] at h ⊢
    split
    · rfl
    · rename_i h1
      rw [if_neg h1] at h
      split
      · rename_i h2; rw [if_pos h2] at h; exact ih o h
      · rename_i h2
        rw [if_neg h2] at h
        split
        · rfl
        · rename_i h3; rw [if_neg h3] at h; exact ih x h
set_option maxHeartbeats 16000000 in
set_option maxRecDepth 100000 in
theorem why_good (v1 : Int) (A1 A2 : Option Addr) (c1 c2 : Nat) (l1 : List (List Int)) (l2 : List Int) (w : World) (hr1 : Kd.C (Kd.slice 3 (Kd.int .i64)) w A1 l1.length l1) (hc1 : l1.length ≤ c1) (hr2 : Kd.C (Kd.int .i64) w A2 l2.length l2) (hc2 : l2.length ≤ c2)
    (hn : l1.length ≤ 5864062014805) (hs : ∀ c ∈ l1, c.length ≤ 17592186044416) (hn2 : l2.length ≤ 17592186044416) (hf : (isFormula v1 l1 && sound l2) = true) (ht : tautIn (tidyOf l2) = false) (r : List (Int × Int) × Int) (m0 : Nat) (hm0' : m0 = 1048577) (hr : whyGo l1 m0 l2 [] = some r) :
    Calls Try.prog 49 #[.agg #[.int .i64 v1, .slice A1 l1.length c1], .slice A2 l2.length c2] w fun e w' => ∃ A c, e = .returned (.tuple #[.slice A r.1.length c, .int .i64 r.2, .int .i64 0]) ∧ r.1.length ≤ c ∧ Kd.C k129 w' A (causes r.1).length (causes r.1) ∧ Below w.heap.size w w' := by
  have HR1 := Aside0.mk hr1
  have HR2 := Aside0.mk hr2
  have F1 := fun W h h2 => asked_calls v1 A1 A2 c1 c2 l1 l2 W h hc1 h2 hc2 (by omega) hs hn2
  have F3 := fun W h => taut_calls A2 c2 l2 W h hc2 hn2
  have HSB : Aside0 (∀ y ∈ l2, y.natAbs ≤ 1048576 ∧ y ≠ 0) := ⟨fun y hy => by
    rw [Bool.and_eq_true] at hf
    have := formed_iff.1 (sound_mem hf.2 hy)
    omega⟩
  have HCB : Aside0 (∀ c ∈ l1, ∀ y ∈ c, y.natAbs ≤ 1048576 ∧ y ≠ 0) := ⟨fun c hc y hy => by
    rw [Bool.and_eq_true] at hf
    have := formed_iff.1 (within_lit (isFormula_clause hf.1 hc) hy).1
    omega⟩
  rw [hf] at F1
  simp only [if_true] at F1
  rw [ht] at F3
  have HF1 := Aside0.mk F1
  have HF3 := Aside0.mk F3
  have HN := Aside0.mk hn
  have HS := Aside0.mk hs
  have HN2 := Aside0.mk hn2
  have HR := Aside0.mk hr
  have HM0 := Aside0.mk hm0'
  have hmm := @run_makeMap Try.prog
  have HB := Aside0.mk (below_alloc (Below.refl w.heap.size w) (.cells #[.int .i64 v1, .slice A1 l1.length c1] 51 (0, 0)))
  have HX0 := Aside0.mk (blk_new w (.cells #[.int .i64 v1, .slice A1 l1.length c1] 51 (0, 0)))
  clear F1 F3 hr1 hr2 hc1 hc2 hn hs hn2 hf ht hr hm0'
  go_enter Try.func49, Try.ntmps49
  go_wp2_with fail
  go_step3
  go_wp2_with (first
    | (go_at_call 81; (with_reducible refine (HF1.out _ (Kd.C_below HR1.out HB.out) (Kd.C_below HR2.out HB.out)).mono ?_); rintro e W1 ⟨rfl, hb⟩; have HB1 := Aside0.mk (below_step HB.out hb); have HX1 := Aside0.mk (blk_below HX0.out hb); clear hb)
    | (go_at_call 82; (with_reducible refine (HF3.out _ (Kd.C_below HR2.out HB1.out)).mono ?_); rintro e W2 ⟨rfl, hb⟩; have HB2 := Aside0.mk (below_step HB1.out hb); have HX2 := Aside0.mk (blk_below HX1.out hb); clear hb))
  clear HB HX0 HB1 HX1 HF1 HF3
  go_loopw [10, 26] (fun _ v26 wr => ∃ (k : Nat) (x : Int) (f : Int → Option Int) (c : Nat), v26 = .int .i64 x ∧ Aside0 (x = k ∧ k ≤ l2.length) ∧ Aside0 (IMI wr W2.heap.size k f c ∧ Tally f (l2.take k)) ∧ Aside0 (wr.heap[w.heap.size]? = some (.cells #[.int .i64 v1, .slice A1 l1.length c1] 51 (0, 0))) ∧ Aside0 (Below w.heap.size w wr)) (fun _ i _ => l2.length - (intOf i).toNat)
  case atStart => exact ⟨0, 0, fun _ => none, 0, rfl, ⟨rfl, Nat.zero_le _⟩, ⟨IM.made W2, fun v => by simp⟩, ⟨blk_alloc HX2.out _⟩, ⟨below_alloc HB2.out _⟩⟩
  case round =>
    have HZ : Aside0 (w.heap.size < W2.heap.size) := ⟨blk_lt HX2.out⟩
    clear HB2 HX2
    obtain ⟨k, x, f, c, rfl, HX, HM, HBX, HB⟩ := hrel
    obtain ⟨hxk, hk⟩ := HX.out
    by_cases hlt : k < l2.length
    · have p1 : 0 ≤ x := by omega
      have q1 : x < (l2.length : Int) := by omega
      obtain ⟨ad, e1, hcell⟩ := Kd.at_int (Kd.C_below HR2.out HB.out) x p1 q1
      subst e1
      have p2 := eq_true p1
      have q2 := eq_true q1
      have q3 : decide (x < (l2.length : Int)) = true := decide_eq_true q1
      have HX2 : Aside0 (wrap64 (x + 1) = ((k + 1 : Nat) : Int) ∧ k + 1 ≤ l2.length) := by
        have := HN2.out
        exact ⟨by rw [w64 (by omega) (by omega)]; omega, by omega⟩
      have hm : (intOf (.int .i64 (wrap64 (x + 1)))).toNat = k + 1 := by rw [HX2.out.1]; simp [intOf]
      have hm0 : (intOf (.int .i64 x)).toNat = k := by rw [hxk]; simp [intOf]
      have HMS : Aside0 (l2.length - (intOf (.int .i64 (wrap64 (x + 1)))).toNat < l2.length - (intOf (.int .i64 x)).toNat) := ⟨by rw [hm, hm0]; omega⟩
      have hrd : rd l2 x = rd l2 (k : Int) := by rw [hxk]
      rw [hrd] at hcell
      have HTK : Aside0 (l2.take (k + 1) = l2.take k ++ [rd l2 (k : Int)]) := ⟨take_rd hlt⟩
      have hbd := HSB.out _ (rd_mem hlt)
      obtain ⟨y, hy⟩ : ∃ y, y = rd l2 (k : Int) := ⟨_, rfl⟩
      rw [← hy] at hcell hbd HTK
      have L : (Instr.lookup 124 (.map (some W2.heap.size)) (.int .i64 y) false).run Try.prog wr = .ok (.int .i64 ((f y).getD 0)) wr := im_look_run HM.out.1 y (by omega)
      have hq := HM.out.2 y
      have hql : (l2.take k).count y ≤ 35184372088832 := by
        have h1 := List.count_le_length (a := y) (l := l2.take k)
        rw [List.length_take] at h1
        have := HN2.out
        omega
      rw [hq] at L
      have HTS := Aside0.mk (tally_snoc HM.out.2 y)
      generalize (l2.take k).count y = q at L hql HTS
      have hw : wrap64 ((q : Int) + 1) = ((q + 1 : Nat) : Int) := w64_nat1 hql
      have HQL : Aside0 ((Lit.int .i64 ((q + 1 : Nat) : Int)).wf = true) := ⟨wf_nat1 hql⟩
      have HBD := Aside0.mk hbd
      have HLT := Aside0.mk hlt
      clear hm hm0 hxk hk hlt p1 q1 hrd hy HX hq hql hbd
      go_wp2_with (at_mapUpdate; refine im_store_int _ Try.underlying3 rfl _ _ _ 124 rfl mapK Try.underlying124 rfl HM.out.1 (by have := HLT.out; have := HN2.out; unfold maxLen; omega) _ y ((q + 1 : Nat) : Int) rfl (by first | rfl | go_simp) (hkeyI (by have := HBD.out; omega)) HQL.out ?_; intro w5 him5 hg5; have HM5 := Aside0.mk him5; have HG5 := Aside0.mk hg5; clear him5 hg5)
      go_roundw
      case measure => exact HMS.out
      case rel =>
        refine ⟨k + 1, _, _, _, rfl, HX2, ⟨HM5.out, ?_⟩, ⟨blk_grown HBX.out HG5.out (by have := HZ.out; intro e; injection e with e; omega)⟩, ⟨HB.out.grown HG5.out HB.out.size (fun k' hk' => by have := HZ.out; injection hk' with hk'; omega)⟩⟩
        rw [HTK.out]
        have := HTS.out
        rw [show ((q : Int) + 1) = ((q + 1 : Nat) : Int) by omega] at this
        exact this
    · obtain rfl : k = l2.length := by omega
      have q3 : decide (x < (l2.length : Int)) = false := decide_eq_false (by omega)
      have hkn := HM.out.2
      rw [List.take_length] at hkn
      have HW0 : Aside0 (WhyAt w W2.heap.size l1 l2 r l2 [] f c m0 [] #[.int .i64 v1, .slice A1 l1.length c1] (.slice none 0 0) wr) := ⟨⟨HB.out, HBX.out, HM.out.1, hkn, HR.out, HM0.out, Nat.le_refl _, rfl, Kd.R_nil _ _ _ _ _⟩⟩
      clear hxk hk hlt HX hkn HR2 HM HBX HB HR
      go_wp2
      go_step3
      go_wp2
      go_loopw [4, 11, 12, 13, 14] (fun v4 _ _ _ _ wr => ∃ (K : List Int) (acc : List (Int × Int)) (f : Int → Option Int) (cnt m n : Nat) (L : List S129) (A : Option Addr) (ca : Nat), v4 = .slice A n ca ∧ Aside0 (n = L.length) ∧ Aside0 (WhyAt w W2.heap.size l1 l2 r K acc f cnt m L #[.int .i64 v1, .slice A1 l1.length c1] (.slice A n ca) wr)) (fun v4 _ _ _ _ _ => 1048578 - lenOf v4)
      case atStart => exact ⟨l2, [], f, c, m0, 0, [], none, 0, rfl, ⟨rfl⟩, HW0⟩
      case round =>
        clear HW0
        obtain ⟨K, acc, f, cnt, m, n, L, A, ca, rfl, HNL, HW⟩ := hrel
        have f0 := (blk_cell HW.out.box 0).trans rfl
        have f1 := (blk_cell HW.out.box 1).trans rfl
        go_wp2
        go_loopw [4, 11, 12, 13, 14, 38] (fun v4 _ _ _ _ v38 wi => ∃ (k : Nat) (x : Int), v38 = .int .i64 x ∧ v4 = .slice A n ca ∧ wi = wr ∧ Aside0 (x = k ∧ k ≤ l1.length) ∧ Aside0 (firstGo K l1 0 = firstGo K (l1.drop k) (k : Int))) (fun _ _ _ _ _ i _ => l1.length - (intOf i).toNat)
        case atStart => exact ⟨0, 0, rfl, rfl, rfl, ⟨rfl, Nat.zero_le _⟩, ⟨by simp⟩⟩
        case round =>
          obtain ⟨k, x, rfl, rfl, rfl, HX, HF⟩ := hrel
          obtain ⟨hxk, hk⟩ := HX.out
          by_cases hlt : k < l1.length
          · have p1 : 0 ≤ x := by omega
            have q1 : x < (l1.length : Int) := by omega
            obtain ⟨ad, Ar, cr, e1, hcell, hlc, hrow⟩ := row_at (Kd.C_below HR1.out HW.out.hB) x p1 q1
            subst e1
            have p2 := eq_true p1
            have q2 := eq_true q1
            have q3' : decide (x < (l1.length : Int)) = true := decide_eq_true q1
            have hgd : l1.getD x.toNat [] = l1.getD k [] := by rw [hxk]; rfl
            rw [hgd] at hcell hrow hlc
            have hmem : l1.getD k [] ∈ l1 := by rw [List.getD_eq_getElem?_getD, List.getElem?_eq_getElem hlt]; exact List.getElem_mem hlt
            have HX2 : Aside0 (wrap64 (x + 1) = ((k + 1 : Nat) : Int) ∧ k + 1 ≤ l1.length) := by
              have := HN.out
              exact ⟨by rw [w64 (by omega) (by omega)]; omega, by omega⟩
            have hm : (intOf (.int .i64 (wrap64 (x + 1)))).toNat = k + 1 := by rw [HX2.out.1]; simp [intOf]
            have hm0 : (intOf (.int .i64 x)).toNat = k := by rw [hxk]; simp [intOf]
            have HMS : Aside0 (l1.length - (intOf (.int .i64 (wrap64 (x + 1)))).toNat < l1.length - (intOf (.int .i64 x)).toNat) := ⟨by rw [hm, hm0]; omega⟩
            have HFD := Aside0.mk (first_drop hlt rfl HF.out)
            have SY := says_calls Ar cr (l1.getD k []) W2.heap.size (l2.length + acc.length) cnt f K wr hrow (HS.out _ hmem) (HCB.out _ hmem) HW.out.map HW.out.tal
            have HKD := Aside0.mk (standGo_kind K (l1.getD k []) 0)
            have HSN := Aside0.mk (stand_snd K (l1.getD k []) 0)
            have HUN := Aside0.mk (standGo_unit K (l1.getD k []) 0)
            have HBR := Aside0.mk (HCB.out _ hmem)
            have HXK := Aside0.mk hxk
            clear hm hm0 hxk hk hlt p1 q1 hrow hmem HX hgd HF
            generalize l1.getD k [] = row at *
            by_cases k2 : (standGo K row 0).1 = 2
            · have hz := HSN.out (by rw [k2]; decide)
              rw [show decide ((standGo K row 0).1 = 2) = true from decide_eq_true k2, hz] at SY
              have hf := HFD.out
              rw [if_pos (.inl k2), k2, hz] at hf
              have hr2 : r = (acc, (k : Int)) := by
                rcases whyGo_head HW.out.go with ⟨h1, h2⟩ | ⟨h1, h2⟩ | ⟨h1, h2⟩
                · rw [h2, hf]
                · rw [hf] at h1; cases h1
                · rw [hf] at h1; cases h1
              have HR2' := Aside0.mk hr2
              have SYB := Aside0.mk SY
              have HCL := Aside0.mk (Kd.R_reads' HW.out.row)
              have hcl := HCL.out.2.1
              clear hz hf hr2 k2 SY HFD HSN HUN HKD
              go_wp2_with (first
                | (go_at_call 83; (with_reducible refine SYB.out.mono ?_); rintro e w5 ⟨rfl, rfl⟩)
                | (go_at_call 84; (with_reducible refine (clip_calls A n ca _ hcl).mono ?_); rintro e w6 ⟨rfl, rfl⟩))
              rw [Exit.noGoto_ret]
              go_ret3
              rw [HR2'.out]
              have ho := HW.out.out
              have hl : n = acc.length := by rw [HNL.out, ho, causes, List.length_map]
              have hC := HCL.out.2.2
              rw [ho] at hC
              have hB9 := HW.out.hB
              subst hl
              exact ⟨A, acc.length, by first | rfl | (simp; done) | (simp [HXK.out]; done), Nat.le_refl _, hC, hB9⟩
            · by_cases k3 : (standGo K row 0).1 = 3
              · have hu := HUN.out (standGo K row 0).2 (by rw [← k3])
                rw [show decide ((standGo K row 0).1 = 2) = false from decide_eq_false k2] at SY
                have hf := HFD.out
                rw [if_pos (.inr k3), k3] at hf
                have hu2 : (standGo K row 0).2 ∈ row := by
                  rcases hu.2 with h | h
                  · exact absurd h hu.1
                  · exact h.1
                have hbu := HBR.out _ hu2
                obtain ⟨y, hy⟩ : ∃ y, y = (standGo K row 0).2 := ⟨_, rfl⟩
                rw [← hy] at SY hf hbu hu
                obtain ⟨m', hm', hgo⟩ : ∃ m', m = m' + 1 ∧ whyGo l1 m' (y :: K) (acc ++ [(y, (k : Int))]) = some r := by
                  rcases whyGo_head HW.out.go with ⟨h1, h2⟩ | ⟨h1, h2⟩ | ⟨h1, m', h2, h3⟩
                  · rw [hf] at h1; cases h1
                  · rw [hf] at h1; cases h1
                  · rw [hf] at h3; exact ⟨m', h2, h3⟩
                have L1 : (Instr.lookup 124 (.map (some W2.heap.size)) (.int .i64 y) false).run Try.prog wr = .ok (.int .i64 ((f y).getD 0)) wr := im_look_run HW.out.map y (by omega)
                have hq := HW.out.tal y
                have hql : K.count y ≤ 35184372088832 := by
                  have h1 := List.count_le_length (a := y) (l := K)
                  have h2 := HW.out.len
                  have h3 := HW.out.fuel
                  have := HN2.out
                  omega
                rw [hq] at L1
                have HTS := Aside0.mk (tally_cons HW.out.tal y)
                generalize K.count y = q at L1 hql HTS
                have hw := w64_nat1 hql
                have HQL := Aside0.mk (wf_nat1 hql)
                have HBD := Aside0.mk hbu
                have HGO := Aside0.mk hgo
                have HMM := Aside0.mk hm'
                have hy0 : (y != 0) = true := by simp [hbu.2]
                have SYB := Aside0.mk SY
                have HNB : Aside0 (l2.length + acc.length < maxLen ∧ acc.length < 1048577) := by
                  have h2 := HW.out.len
                  have h3 := HW.out.fuel
                  have := HN2.out
                  exact ⟨by unfold maxLen; omega, by omega⟩
                have HNL9 : Aside0 (L.length = acc.length) := ⟨by rw [HW.out.out, causes, List.length_map]⟩
                clear hf k2 k3 SY HFD HSN HUN HKD hu hu2 hy hm' hgo hq hql
                go_wp2_with (first
                  | (go_at_call 83; (with_reducible refine SYB.out.mono ?_); rintro e w5 ⟨rfl, rfl⟩)
                  | (at_mapUpdate; refine im_store_int _ Try.underlying3 rfl _ _ _ 124 rfl mapK Try.underlying124 rfl HW.out.map HNB.out.1 _ y ((q + 1 : Nat) : Int) rfl (by first | rfl | go_simp) (hkeyI (by have := HBD.out; omega)) HQL.out ?_; intro w7 him7 hg7; have HM7 := Aside0.mk him7; have HB7 := Aside0.mk (HW.out.hB.grown hg7 HW.out.hB.size (fun k' hk' => by have := HZ.out; injection hk' with hk'; omega)); have HX7 := Aside0.mk (blk_grown HW.out.box hg7 (by have := HZ.out; intro e; injection e with e; omega)); have HO7 := Aside0.mk (R_imap HW.out.row HW.out.map hg7); clear him7 hg7)
                  | ((with_reducible refine gate_builtin (b := .append) (xs := #[.tmp 59, .tmp 63]) rfl ?_); at_builtin; refine Kd.R_append k129 (w0 := w) w.heap.size rfl (.tmp 59) (.tmp 63) 86 129 (.agg #[(.int .i64 0), (.int .i64 0)]) 16 rfl Try.underlying86 infoC rfl (by decide) (by omega) (.slice A n ca) L (⟨y, x⟩ : S129) [.int .i64 y, .int .i64 x] (fun _ => True) (fun _ => False) rfl rfl ?aP (fun _ hk => hk.elim) ?aF ?aO ?aB ?aS ?aL ?_; (case aP => exact k129_mkM _ _ _ (⟨y, x⟩ : S129)); (case aF => exact (fun _ _ => trivial)); (case aO => exact HO7.out); (case aB => exact HB7.out); (case aS => exact HB7.out.size); (case aL => have := HNB.out.2; have h9 := HNL9.out; omega); intro v8 w8 ho hb hg hat; have HO8 := Aside0.mk ho; have HB8 := Aside0.mk hb; have HG8 := Aside0.mk hg; have HM8 := Aside0.mk (HM7.out.kept hg (fun e => by obtain ⟨cells, hc⟩ := Kd.R_typed HO7.out _ e.symm; exact imI_ne HM7.out hc rfl)); have HX8 := Aside0.mk (blk_grown HX7.out hg (Kd.R_ne HO7.out HX7.out (by decide))); obtain ⟨n8, A8, c8, e8, hn8⟩ := R_slice8 ho; subst e8; have HN8 := Aside0.mk hn8; clear ho hb hg hat hn8))
                go_roundw
                case measure =>
                  have h1 := HN8.out
                  have h2 := HNL.out
                  have h3 := HNL9.out
                  have h4 := HNB.out.2
                  show 1048578 - n8 < 1048578 - n
                  omega
                case rel =>
                  refine ⟨y :: K, acc ++ [(y, (k : Int))], upd f y ((q + 1 : Nat) : Int), (if (f y).isSome = true then cnt else cnt + 1), m', n8, L ++ [⟨y, x⟩], A8, c8, rfl, ⟨by rw [HN8.out, List.length_append, List.length_singleton]⟩, ⟨⟨HB8.out, HX8.out, ?_, ?_, HGO.out, ?_, ?_, ?_, HO8.out⟩⟩⟩
                  · exact IM.mono HM8.out (by rw [List.length_append, List.length_singleton]; omega)
                  · have := HTS.out
                    rw [show ((q : Int) + 1) = ((q + 1 : Nat) : Int) by omega] at this
                    exact this
                  · have h1 := HMM.out
                    have h2 := HW.out.fuel
                    rw [List.length_append, List.length_singleton]
                    omega
                  · have h2 := HW.out.len
                    rw [List.length_append, List.length_singleton, List.length_cons]
                    omega
                  · rw [HW.out.out, HXK.out, causes, causes, List.map_append]
                    rfl
              · have hz := HSN.out k3
                rw [show decide ((standGo K row 0).1 = 2) = false from decide_eq_false k2, hz] at SY
                have hf := HFD.out
                rw [if_neg (fun h => h.elim k2 k3)] at hf
                have HF2 := Aside0.mk hf
                have SYB := Aside0.mk SY
                clear hz hf k2 k3 SY HFD HSN HUN HKD
                go_wp2_with (go_at_call 83; (with_reducible refine SYB.out.mono ?_); rintro e w5 ⟨rfl, rfl⟩)
                go_roundw
                case measure => exact HMS.out
                case rel => exact ⟨k + 1, _, rfl, rfl, by first | rfl | trivial, HX2, HF2⟩
          · obtain rfl : k = l1.length := by omega
            have q3' : decide (x < (l1.length : Int)) = false := decide_eq_false (by omega)
            have hf := HF.out
            rw [List.drop_length] at hf
            have hr2 : r = (acc, -1) := by
              rcases whyGo_head HW.out.go with ⟨h1, h2⟩ | ⟨h1, h2⟩ | ⟨h1, h2⟩
              · rw [hf] at h1; cases h1
              · exact h2
              · rw [hf] at h1; cases h1
            have HR2' := Aside0.mk hr2
            have HCL := Aside0.mk (Kd.R_reads' HW.out.row)
            have hcl := HCL.out.2.1
            clear hxk hk hlt HX HF hf hr2
            go_wp2_with (go_at_call 84; (with_reducible refine (clip_calls A n ca _ hcl).mono ?_); rintro e w6 ⟨rfl, rfl⟩)
            rw [Exit.noGoto_ret]
            go_ret3
            rw [HR2'.out]
            have ho := HW.out.out
            have hl : n = acc.length := by rw [HNL.out, ho, causes, List.length_map]
            have hC := HCL.out.2.2
            rw [ho] at hC
            have hB9 := HW.out.hB
            subst hl
            exact ⟨A, acc.length, by first | rfl | (simp; done), Nat.le_refl _, hC, hB9⟩
theorem why_calls (v1 : Int) (A1 A2 : Option Addr) (c1 c2 : Nat) (l1 : List (List Int)) (l2 : List Int) (w : World) (hr1 : Kd.C (Kd.slice 3 (Kd.int .i64)) w A1 l1.length l1) (hc1 : l1.length ≤ c1) (hr2 : Kd.C (Kd.int .i64) w A2 l2.length l2) (hc2 : l2.length ≤ c2)
    (hn : l1.length ≤ 5864062014805) (hs : ∀ c ∈ l1, c.length ≤ 17592186044416) (hn2 : l2.length ≤ 17592186044416) :
    Calls Try.prog 49 #[.agg #[.int .i64 v1, .slice A1 l1.length c1], .slice A2 l2.length c2] w fun e w' => ∃ A c, e = .returned (.tuple #[.slice A (causes (whyOf v1 l1 l2).1).length c, .int .i64 (whyOf v1 l1 l2).2.1, .int .i64 (whyOf v1 l1 l2).2.2]) ∧ (causes (whyOf v1 l1 l2).1).length ≤ c ∧ Kd.C k129 w' A (causes (whyOf v1 l1 l2).1).length (causes (whyOf v1 l1 l2).1) ∧ Below w.heap.size w w' := by
  unfold whyOf
  by_cases hg : (isFormula v1 l1 && sound l2) = true
  · rw [if_pos hg]
    by_cases ht : tautIn (tidyOf l2) = true
    · rw [if_pos ht]
      refine (why_taut v1 A1 A2 c1 c2 l1 l2 w hr1 hc1 hr2 hc2 hn hs hn2 hg ht).mono ?_
      rintro e w' ⟨he, hb⟩
      exact ⟨none, 0, he, Nat.le_refl _, (Kd.R_reads' (Kd.R_nil k129 129 w' 0 (fun _ => True))).2.2, hb⟩
    · rw [if_neg ht]
      rw [Bool.and_eq_true] at hg
      obtain ⟨r, hr⟩ := why_some hg.1 l2
      rw [hr]
      refine (why_good v1 A1 A2 c1 c2 l1 l2 w hr1 hc1 hr2 hc2 hn hs hn2 (by rw [Bool.and_eq_true]; exact hg) (by simpa using ht) r _ rfl hr).mono ?_
      rintro e w' ⟨A, c, he, hc, hC, hb⟩
      have hl : (causes r.1).length = r.1.length := by rw [causes, List.length_map]
      exact ⟨A, c, by rw [Option.getD_some, hl]; exact he, by rw [Option.getD_some, hl]; exact hc, hC, hb⟩
  · rw [if_neg hg]
    refine (why_bad v1 A1 A2 c1 c2 l1 l2 w hr1 hc1 hr2 hc2 hn hs hn2 (by simpa using hg)).mono ?_
    rintro e w' ⟨he, hb⟩
    exact ⟨none, 0, he, Nat.le_refl _, (Kd.R_reads' (Kd.R_nil k129 129 w' 0 (fun _ => True))).2.2, hb⟩
end Go.Proofs.YtkkkbcjmkmadhaaHand
/-! text YtkkkbcjmkmadhaaUnitLaw -/
namespace Go.Proofs.YtkkkbcjmkmadhaaHand
open Go.RowKit Go.Proofs.YtkkkbcjmkmadhaaW.PrintWords Go.Proofs.YtkkkbcjmkmadhaaW.PrintLast Go.Proofs.YtkkkbcjmkmadhaaMath Go.Proofs.Ytkkkbcjmkmadhaa.PUnitWhys
set_option linter.unusedVariables false
set_option linter.unusedSimpArgs false
theorem whyOf_length (v : Int) (cs : List (List Int)) (facts : List Int) : (causes (whyOf v cs facts).1).length ≤ 17592186044416 := by
  unfold whyOf
  split
  · split
    · simp [causes]
    · cases h : whyGo cs 1048577 facts [] with
      | none => simp [causes]
      | some r =>
        have := whyGo_length cs _ _ _ _ h
        simp only [Option.getD_some, causes, List.length_map]
        simp only [List.length_nil] at this
        omega
  · simp [causes]
set_option maxHeartbeats 8000000 in
set_option maxRecDepth 100000 in
theorem whys_calls (v : Int) (A0 A1 : Option Addr) (c0 c1 : Nat) (cs : List (List Int)) (l : List Int) (w : World) (hr0 : Kd.C (Kd.slice 3 (Kd.int .i64)) w A0 cs.length cs) (hc0 : cs.length ≤ c0) (hr1 : Kd.C (Kd.int .i64) w A1 l.length l) (hc1 : l.length ≤ c1)
    (hn : cs.length ≤ 5864062014805) (hs : ∀ c ∈ cs, c.length < 17592186044416) (hl : l.length < 17592186044416) :
    Calls Try.prog 13 #[.agg #[.int .i64 v, .slice A0 cs.length c0], .slice A1 l.length c1] w fun e w' => e = .returned (.bool true) ∧ Below w.heap.size w w' := by
  obtain ⟨k1, h1⟩ := (depotref00_CopyFormula_ev v cs hn hs).rounds
  obtain ⟨k2, h2⟩ := (depotref00_CopyInts_ev l hl).rounds
  obtain ⟨k3, h3⟩ := (why_ev v cs l hn (fun c hc => Nat.le_of_lt (hs c hc)) (Nat.le_of_lt hl)).rounds
  obtain ⟨k4, h4⟩ := (same_ev (causes (whyOf v cs l).1) (whyOf_length v cs l)).rounds
  have F1 := fun W h => depotref00_CopyFormula.calls k1 v A0 c0 cs v cs W h hc0 h1
  have F2 := fun W h => depotref00_CopyInts.calls k2 A1 c1 l l W h hc1 h2
  have F3 := fun W h h9 => depotref06_Why.calls k3 v A0 c0 cs A1 c1 l _ _ _ W h hc0 h9 hc1 h3
  have F4 := fun (A B : Option Addr) (a b : Nat) W h h7 h8 h9 => depotlaw06_same.calls k4 A a (causes (whyOf v cs l).1) B b (causes (whyOf v cs l).1) true W h h7 h8 h9 h4
  have FW := fun (A : Option Addr) (c : Nat) (B : Option Addr) (d : Nat) W h h7 h8 h9 => why_calls v A B c d cs l W h h7 h8 h9 hn (fun c hc => Nat.le_of_lt (hs c hc)) (Nat.le_of_lt hl)
  have HF1 := Aside0.mk F1
  have HF2 := Aside0.mk F2
  have HF3 := Aside0.mk F3
  have HF4 := Aside0.mk F4
  have HFW := Aside0.mk FW
  have HR0 := Aside0.mk hr0
  have HR1 := Aside0.mk hr1
  have HB := Aside0.mk (below_alloc (Below.refl w.heap.size w) (.cells #[.int .i64 v, .slice A0 cs.length c0] 51 (0, 0)))
  have HX0 := Aside0.mk (blk_new w (.cells #[.int .i64 v, .slice A0 cs.length c0] 51 (0, 0)))
  clear F1 F2 F3 F4 FW hr0 hc0 hr1 hc1 hn hs hl h1 h2 h3 h4
  generalize (whyOf v cs l).2.1 = at1 at *
  generalize (whyOf v cs l).2.2 = at2 at *
  generalize causes (whyOf v cs l).1 = L at *
  go_enter Try.func13, Try.ntmps13
  go_wp2_with (first
    | (go_at_call 36; (with_reducible refine (HF1.out _ (Kd.C_below HR0.out HB.out)).mono ?_); rintro e W1 ⟨v1, rfl, hS1, hb1⟩; have HB1 := Aside0.mk (below_step HB.out hb1); have HX1 := Aside0.mk (blk_below HX0.out hb1); obtain ⟨Af, cf, ef⟩ := Kd.S_slice hS1; subst ef; have HS1 := Aside0.mk (Kd.S_reads' hS1); clear hS1 hb1)
    | (go_at_call 18; (with_reducible refine (HF2.out _ (Kd.C_below HR1.out HB1.out)).mono ?_); rintro e W2 ⟨v2, rfl, hS2, hb2⟩; have HB2 := Aside0.mk (below_step HB1.out hb2); have HX2 := Aside0.mk (blk_below HX1.out hb2); obtain ⟨Ai, ci, ei⟩ := Kd.R_slice hS2; subst ei; have HS2 := Aside0.mk (Kd.R_reads' hS2); have HS1' := Aside0.mk (Kd.C_below HS1.out.2.2 hb2); clear hS2 hb2)
    | (go_at_call 49; (with_reducible refine (HFW.out _ _ _ _ _ HS1'.out HS1.out.2.1 HS2.out.2.2 HS2.out.2.1).mono ?_); rintro e W3 ⟨A3, c3, rfl, hc3, hC3, hb3⟩; have HB3 := Aside0.mk (below_step HB2.out hb3); have HX3 := Aside0.mk (blk_below HX2.out hb3); have HC3 := Aside0.mk (And.intro hc3 hC3); have f0 := (blk_cell HX3.out 0).trans rfl; have f1 := (blk_cell HX3.out 1).trans rfl; clear hC3 hb3 hc3)
    | (go_at_call 50; (with_reducible refine (HF3.out _ (Kd.C_below HR0.out HB3.out) (Kd.C_below HR1.out HB3.out)).mono ?_); rintro e W4 ⟨v4, rfl, hR4, hb4⟩; have HB4 := Aside0.mk (below_step HB3.out hb4); obtain ⟨A4, c4, e4⟩ := Kd.R_slice hR4; subst e4; have HS4 := Aside0.mk (Kd.R_reads' hR4); have HC4 := Aside0.mk (Kd.C_below HC3.out.2 hb4); clear hR4 hb4)
    | (go_at_call 51; (with_reducible refine (HF4.out _ _ _ _ _ HC4.out HC3.out.1 HS4.out.2.2 HS4.out.2.1).mono ?_); rintro e W5 ⟨rfl, ⟨nd, rfl⟩⟩))
  go_ret
  exact ⟨by first | rfl | (simp; done), pw_below_drewN HB4.out _⟩
end Go.Proofs.YtkkkbcjmkmadhaaHand
namespace Go.Proofs.Ytkkkbcjmkmadhaa.PUnitWhys
open Go.RowKit Go.Proofs.YtkkkbcjmkmadhaaW.PrintWords Go.Proofs.YtkkkbcjmkmadhaaW.PrintLast
set_option linter.unusedVariables false
def depotlaw06_UnitWhys.f (a0_0 : Int) (l0_1 : List (List Int)) (l1 : List Int) : Option Bool := if l0_1.length ≤ 5864062014805 ∧ (∀ c ∈ l0_1, c.length < 17592186044416) ∧ l1.length < 17592186044416 then some true else none
theorem depotlaw06_UnitWhys.calls (a0_0 : Int) (A0_1 : Option Addr) (c0_1 : Nat) (l0_1 : List (List Int)) (A1 : Option Addr) (c1 : Nat) (l1 : List Int) (r : Bool) (w : World) (hr0_1 : Kd.C (Kd.slice 3 (Kd.int .i64)) w A0_1 l0_1.length l0_1) (hc0_1 : l0_1.length ≤ c0_1) (hr1 : Kd.C (Kd.int .i64) w A1 l1.length l1) (hc1 : l1.length ≤ c1) (h : depotlaw06_UnitWhys.f a0_0 l0_1 l1 = some r) :
    Calls Try.prog 13 #[.agg #[.int .i64 a0_0, .slice A0_1 l0_1.length c0_1], .slice A1 l1.length c1] w fun e w' => e = .returned (.bool r) ∧ Below w.heap.size w w' := by
  unfold depotlaw06_UnitWhys.f at h
  split at h
  · rename_i hh
    obtain rfl := Option.some.inj h
    exact Go.Proofs.YtkkkbcjmkmadhaaHand.whys_calls a0_0 A0_1 A1 c0_1 c1 l0_1 l1 w hr0_1 hc0_1 hr1 hc1 hh.1 hh.2.1 hh.2.2
  · cases h
#print axioms depotlaw06_UnitWhys.calls
end Go.Proofs.Ytkkkbcjmkmadhaa.PUnitWhys
/-! text YtkkkbcjmkmadhaaStatUnitWhys -/
namespace Go.Proofs.Ytkkkbcjmkmadhaa.PUnitWhys
open Go.RowKit Go.Proofs.YtkkkbcjmkmadhaaW.PrintWords Go.Proofs.YtkkkbcjmkmadhaaW.PrintLast Go.Proofs.YtkkkbcjmkmadhaaW.PrintMore Go.Proofs.YtkkkbcjmkmadhaaOpens
set_option linter.unusedVariables false
set_option linter.unusedSimpArgs false
def Stmt : Prop := ∀ (a0_0 : Int) (l0_1 : List (List (Int))) (l1 : List (Int)), (((Lit.int .i64 a0_0).wf = true) ∧ (l0_1.length * 24 ≤ 140737488351232 ∧ ∀ y1 ∈ l0_1, y1.length * 8 ≤ 140737488351232 ∧ ∀ y2 ∈ y1, (Lit.int .i64 y2).wf = true)) → (l1.length * 8 ≤ 140737488351232 ∧ ∀ y5 ∈ l1, (Lit.int .i64 y5).wf = true) → depotlaw06_UnitWhys.f a0_0 l0_1 l1 = some true
theorem walk (P : Stmt) (a0_0 : Int) (A0_1 : Option Addr) (c0_1 : Nat) (l0_1 : List (List (Int))) (A1 : Option Addr) (c1 : Nat) (l1 : List (Int)) (w : World) (hr0_1 : Kd.C (Kd.slice 3 (Kd.int .i64)) w A0_1 l0_1.length l0_1) (hc0_1 : l0_1.length ≤ c0_1) (hr1 : Kd.C (Kd.int .i64) w A1 l1.length l1) (hc1 : l1.length ≤ c1) (ok0 : ((Lit.int .i64 a0_0).wf = true) ∧ (l0_1.length * 24 ≤ 140737488351232 ∧ ∀ y1 ∈ l0_1, y1.length * 8 ≤ 140737488351232 ∧ ∀ y2 ∈ y1, (Lit.int .i64 y2).wf = true)) (ok1 : l1.length * 8 ≤ 140737488351232 ∧ ∀ y5 ∈ l1, (Lit.int .i64 y5).wf = true) :
    Calls Try.prog 13 #[.agg #[.int .i64 a0_0, .slice A0_1 l0_1.length c0_1], .slice A1 l1.length c1] w fun e w' => e = .returned (.bool true) ∧ Below w.heap.size w w' := by
  have h := P a0_0 l0_1 l1 ok0 ok1
  refine (depotlaw06_UnitWhys.calls a0_0 A0_1 c0_1 l0_1 A1 c1 l1 true w hr0_1 hc0_1 hr1 hc1 h).mono ?_
  rintro e w' ⟨rfl, hd⟩
  exact ⟨rfl, hd⟩
end Go.Proofs.Ytkkkbcjmkmadhaa.PUnitWhys
/-! text YtkkkbcjmkmadhaaPureUnitWhys -/
namespace Go.Proofs.Ytkkkbcjmkmadhaa.Pure
open Go.RowKit Go.Proofs.Ytkkkbcjmkmadhaa.PUnitWhys Go.Proofs.YtkkkbcjmkmadhaaW.PrintWords Go.Proofs.YtkkkbcjmkmadhaaW.PrintLast Go.Proofs.YtkkkbcjmkmadhaaOpens
set_option linter.unusedVariables false

theorem UnitWhys : PUnitWhys.Stmt := by
  intro v l facts ok1 ok2
  unfold depotlaw06_UnitWhys.f
  have hn : l.length ≤ 5864062014805 := by have := ok1.2.1; omega
  have hs : ∀ c ∈ l, c.length < 17592186044416 := fun c hc => by have := (ok1.2.2 c hc).1; omega
  have hp : facts.length < 17592186044416 := by have := ok2.1; omega
  rw [if_pos ⟨hn, hs, hp⟩]

end Go.Proofs.Ytkkkbcjmkmadhaa.Pure
