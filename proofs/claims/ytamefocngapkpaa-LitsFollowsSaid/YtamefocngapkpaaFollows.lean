/- The law LitsFollows answers true. -/
import Derived.Test.YtamefocngapkpaaFollowsMath
import Derived.Test.YtamefocngapkpaaFollowsBase
import Derived.Test.YtamefocngapkpaaResolventsCall
import Derived.Test.YtamefocngapkpaaResolve
import Derived.Sort.CutIn
namespace Go.Proofs.YtamefocngapkpaaHand
open Go.RowKit Go.Sort Go.Lib Go.Shelf Go.Proofs.YtamefocngapkpaaW.PrintWords Go.Proofs.YtamefocngapkpaaW.PrintLast Go.Proofs.YtamefocngapkpaaMath Go.Proofs.YtamefocngapkpaaOwn Go.Proofs.Ytamefocngapkpaa.PLitsFollows
attribute [local go_sem] Oper.semAt_some
set_option linter.unusedVariables false
set_option linter.unusedSimpArgs false

/-- the law's own variables in new blocks: two lists, a number, truths, the result -/
structure FB (w : World) (va vb vv vm vr : Value) (W : World) : Prop where
  hB : Below w.heap.size w W
  hz : w.heap.size + 5 ≤ W.heap.size
  b0 : W.heap[w.heap.size]? = some (.cells #[va] 26 (0, 0))
  b1 : W.heap[w.heap.size + 1]? = some (.cells #[vb] 26 (0, 0))
  b2 : W.heap[w.heap.size + 1 + 1]? = some (.cells #[vv] 3 (0, 0))
  b3 : W.heap[w.heap.size + 1 + 1 + 1]? = some (.cells #[vm] 33 (0, 0))
  b4 : W.heap[w.heap.size + 1 + 1 + 1 + 1]? = some (.cells #[vr] 4 (0, 0))
theorem fb (w : World) (va vb vv vm vr : Value) : FB w va vb vv vm vr (((((w.alloc (.cells #[va] 26 (0, 0))).alloc (.cells #[vb] 26 (0, 0))).alloc (.cells #[vv] 3 (0, 0))).alloc (.cells #[vm] 33 (0, 0))).alloc (.cells #[vr] 4 (0, 0))) := by
  refine ⟨by repeat (first | exact Below.refl _ _ | apply below_alloc), by simp, blk_alloc (blk_alloc (blk_alloc (blk_alloc (blk_new _ _) _) _) _) _, ?_, ?_, ?_, ?_⟩
  · have := blk_new (w.alloc (.cells #[va] 26 (0, 0))) (.cells #[vb] 26 (0, 0))
    exact blk_alloc (blk_alloc (blk_alloc (by simpa using this) _) _) _
  · have := blk_new ((w.alloc (.cells #[va] 26 (0, 0))).alloc (.cells #[vb] 26 (0, 0))) (.cells #[vv] 3 (0, 0))
    exact blk_alloc (blk_alloc (by simpa using this) _) _
  · have := blk_new (((w.alloc (.cells #[va] 26 (0, 0))).alloc (.cells #[vb] 26 (0, 0))).alloc (.cells #[vv] 3 (0, 0))) (.cells #[vm] 33 (0, 0))
    exact blk_alloc (by simpa using this) _
  · have := blk_new ((((w.alloc (.cells #[va] 26 (0, 0))).alloc (.cells #[vb] 26 (0, 0))).alloc (.cells #[vv] 3 (0, 0))).alloc (.cells #[vm] 33 (0, 0))) (.cells #[vr] 4 (0, 0))
    simpa using this
section
variable {w : World} {va vb vv vm vr : Value} {W W1 : World}
theorem FB.keep (h : FB w va vb vv vm vr W) (k : Below W.heap.size W W1) : FB w va vb vv vm vr W1 :=
  ⟨below_step h.hB k, Nat.le_trans h.hz k.size, blk_below h.b0 k, blk_below h.b1 k, blk_below h.b2 k, blk_below h.b3 k, blk_below h.b4 k⟩
theorem FB.grow {M : Nat → Prop} (h : FB w va vb vv vm vr W) (hg : Grow M W W1) (hM : ∀ k, M k → w.heap.size + 5 ≤ k) : FB w va vb vv vm vr W1 := by
  have hb : Below (w.heap.size + 5) W W1 := hg.below h.hz hM
  have far : ∀ k, k < w.heap.size + 5 → W1.heap[k]? = W.heap[k]? := fun k hk => hb.block k hk
  exact ⟨h.hB.trans (hb.mono (by omega)), Nat.le_trans h.hz hg.size, (far _ (by omega)).trans h.b0, (far _ (by omega)).trans h.b1, (far _ (by omega)).trans h.b2, (far _ (by omega)).trans h.b3, (far _ (by omega)).trans h.b4⟩
theorem FB.set (h : FB w va vb vv vm vr W) (u : Value) : FB w va vb vv vm u (W.setCell ⟨w.heap.size + 1 + 1 + 1 + 1, 0, none⟩ u) :=
  ⟨h.hB.setCell (p := ⟨w.heap.size + 1 + 1 + 1 + 1, 0, none⟩) (show w.heap.size ≤ w.heap.size + 1 + 1 + 1 + 1 by omega) _, Nat.le_trans h.hz ((Below.refl 0 W).setCell (p := ⟨w.heap.size + 1 + 1 + 1 + 1, 0, none⟩) (Nat.zero_le _) u).size, blk_far h.b0 (by simp <;> omega) _, blk_far h.b1 (by simp <;> omega) _, blk_far h.b2 (by simp <;> omega) _, blk_far h.b3 (by simp) _, blk_put h.b4 0 u rfl⟩
end

theorem FB.drew {w : World} {va vb vv vm vr : Value} {W : World} (h : FB w va vb vv vm vr W) : FB w va vb vv vm vr W.drew := ⟨below_drew h.hB, h.hz, blk_drew h.b0, blk_drew h.b1, blk_drew h.b2, blk_drew h.b3, blk_drew h.b4⟩
theorem FB.far {w : World} {va vb vv vm vr : Value} {W : World} (h : FB w va vb vv vm vr W) {p : Addr} (hp : w.heap.size + 5 ≤ p.block) (u : Value) : FB w va vb vv vm vr (W.setCell p u) :=
  ⟨h.hB.setCell (p := p) (by omega) _, Nat.le_trans h.hz ((Below.refl 0 W).setCell (p := p) (Nat.zero_le _) u).size, blk_far h.b0 (by omega) _, blk_far h.b1 (by omega) _, blk_far h.b2 (by omega) _, blk_far h.b3 (by omega) _, blk_far h.b4 (by omega) _⟩
/-- a row of numbers lies in no block of another type -/
theorem own_apart {W : World} {base Br t : Nat} {v : Value} {xs : List Int} {cs : Array Value} (h : OwnInts W base v xs) (hb : W.heap[Br]? = some (.cells cs t (0, 0))) (ht : t ≠ 3) : ∀ k, v.ownBlock = some k → k ≠ Br := fun k hk e => by
  subst e
  rcases h.2 with ⟨e, _⟩ | ⟨g, cap, cur, e, _, hg, _⟩
  · rw [e] at hk; simp [Value.ownBlock] at hk
  · rw [e] at hk
    simp [Value.ownBlock] at hk
    subst hk
    rw [hg] at hb
    simp at hb
    exact ht hb.2.symm
/-- with the resolvent's variable -/
structure FR (w : World) (va vb vv vm vo : Value) (r : List Int) (Br : Nat) (Ar : Option Addr) (cr : Nat) (W : World) : Prop where
  fb : FB w va vb vv vm vo W
  br : W.heap[Br]? = some (.cells #[.slice Ar r.length cr] 26 (0, 0))
  own : OwnInts W (w.heap.size + 5) (.slice Ar r.length cr) r
  hb : w.heap.size + 5 ≤ Br

theorem FR.keep {w : World} {va vb vv vm vo : Value} {r : List Int} {Br : Nat} {Ar : Option Addr} {cr : Nat} {W W1 : World} (h : FR w va vb vv vm vo r Br Ar cr W) (k : Below W.heap.size W W1) : FR w va vb vv vm vo r Br Ar cr W1 :=
  ⟨h.fb.keep k, blk_below h.br k, own_move h.own (fun j hj => k.block j (own_lt h.own j hj)), h.hb⟩
/-- with the counter, in block Bn, behind all the law's other blocks -/
structure FN (w : World) (va vb vv vm vo : Value) (r : List Int) (Br : Nat) (Ar : Option Addr) (cr : Nat) (Bn : Nat) (x : Value) (W : World) : Prop where
  fr : FR w va vb vv vm vo r Br Ar cr W
  bn : W.heap[Bn]? = some (.cells #[x] 3 (0, 0))
  zr : Br < Bn
  zo : ∀ k, (Value.slice Ar r.length cr).ownBlock = some k → k < Bn
  n5 : w.heap.size + 5 ≤ Bn
  zz : Bn + 1 ≤ W.heap.size
section
variable {w : World} {va vb vv vm vo x : Value} {r : List Int} {Br : Nat} {Ar : Option Addr} {cr Bn : Nat} {W W1 : World}
theorem FN.new (h : FR w va vb vv vm vo r Br Ar cr W) : FN w va vb vv vm vo r Br Ar cr W.heap.size x (W.alloc (.cells #[x] 3 (0, 0))) :=
  ⟨h.keep (below_alloc (Below.refl _ _) _), blk_new _ _, (Array.getElem?_eq_some_iff.1 h.br).1, fun k hk => own_lt h.own k hk, h.fb.hz, by simp⟩
theorem FN.grow {M : Nat → Prop} (h : FN w va vb vv vm vo r Br Ar cr Bn x W) (hg : Grow M W W1) (hM : ∀ k, M k → Bn + 1 ≤ k) : FN w va vb vv vm vo r Br Ar cr Bn x W1 := by
  have hb : Below (Bn + 1) W W1 := hg.below h.zz hM
  have n5 := h.n5
  have zr := h.zr
  refine ⟨⟨h.fr.fb.grow hg (fun k hk => by have := hM k hk; omega), (hb.block Br (by omega)).trans h.fr.br, own_move h.fr.own (fun k hk => hb.block k (by have := h.zo k hk; omega)), h.fr.hb⟩, (hb.block Bn (by omega)).trans h.bn, zr, h.zo, n5, Nat.le_trans h.zz hg.size⟩
theorem FN.keep (h : FN w va vb vv vm vo r Br Ar cr Bn x W) (k : Below W.heap.size W W1) : FN w va vb vv vm vo r Br Ar cr Bn x W1 := h.grow (M := fun _ => False) (Grow.of_below k) (fun _ h => h.elim)
theorem FN.drew (h : FN w va vb vv vm vo r Br Ar cr Bn x W) : FN w va vb vv vm vo r Br Ar cr Bn x W.drew := h.keep (below_drew (Below.refl _ _))
theorem FN.put (h : FN w va vb vv vm vo r Br Ar cr Bn x W) (u : Value) : FN w va vb vv vm vo r Br Ar cr Bn u (W.setCell ⟨Bn, 0, none⟩ u) :=
  ⟨⟨h.fr.fb.far (p := ⟨Bn, 0, none⟩) h.n5 u, blk_far h.fr.br (by have := h.zr; simp; omega) _, own_move h.fr.own (fun k hk => Below.heap_setCell W ⟨Bn, 0, none⟩ u k (by have := h.zo k hk; simp; omega)), h.fr.hb⟩, blk_put h.bn 0 u rfl, h.zr, h.zo, h.n5, Nat.le_trans h.zz ((Below.refl 0 W).setCell (p := ⟨Bn, 0, none⟩) (Nat.zero_le _) u).size⟩
end
/-- the resolvents' lists, behind block Z -/
structure RT (a b : List Int) (Bx By gx cx gy cy base Z : Nat) (W : World) : Prop where
  two : Two (tidyOf a) (tidyOf b) Bx By gx cx gy cy base W
  hz : Z ≤ base
  hx : base ≤ Bx
  hy : base ≤ By
theorem nil_seq (W : World) (Bx By : Nat) : (binOp .eql 43 (.func (.func 71) #[] #[.pointer (some ⟨By, 0, none⟩), .pointer (some ⟨Bx, 0, none⟩)]) .nilFunc).run Try.prog W = .ok (.bool false) W := by kernel_rfl
namespace WideFn
@[scoped simp, scoped go_sem] theorem wide_fn (f : FuncId) : Fence.wide.fn f = True := rfl
end WideFn
theorem res_cases (a b : List Int) (v : Int) : ((sound a && sound b) = false ∧ resOf a b v = ([], 1)) ∨ ((sound a && sound b) = true ∧ v < 1 ∧ resOf a b v = ([], 1)) ∨ ((sound a && sound b) = true ∧ ¬ v < 1 ∧ v > 1048576 ∧ resOf a b v = ([], 1)) ∨
    ((sound a && sound b) = true ∧ ¬ v < 1 ∧ ¬ v > 1048576 ∧ a.contains v = false ∧ resOf a b v = ([], 10)) ∨ ((sound a && sound b) = true ∧ ¬ v < 1 ∧ ¬ v > 1048576 ∧ a.contains v = true ∧ b.contains (-v) = false ∧ resOf a b v = ([], 10)) ∨
    ((sound a && sound b) = true ∧ ¬ v < 1 ∧ ¬ v > 1048576 ∧ a.contains v = true ∧ b.contains (-v) = true ∧ resOf a b v = (onOf a b v, 0)) := by
  unfold resOf
  cases hs : (sound a && sound b) with
  | false => simp
  | true =>
    by_cases h1 : v < 1
    · right; left
      rw [decide_eq_false (by omega)]
      exact ⟨rfl, h1, rfl⟩
    · by_cases h2 : v > 1048576
      · right; right; left
        rw [decide_eq_false (by omega)]
        exact ⟨rfl, h1, h2, rfl⟩
      · right; right; right
        rw [decide_eq_true (by omega)]
        obtain ⟨sa, sb⟩ := (Bool.and_eq_true _ _).mp hs
        have hf : formed v = true := by rw [formed_iff]; omega
        have hm : (pivOf (tidyOf a) (tidyOf b)).contains v = (a.contains v && b.contains (-v)) := by
          rw [Bool.eq_iff_iff, Bool.and_eq_true, List.contains_iff_mem, List.contains_iff_mem, List.contains_iff_mem]
          unfold pivOf isPiv
          rw [List.mem_filter, mem_tidyOf, Bool.and_eq_true, List.contains_iff_mem, mem_tidyOf, formed_neg]
          have hp : decide (v > 0) = true := by simp; omega
          simp [hf]
          omega
        rw [hm]
        refine ?_
        cases ha : a.contains v with
        | false => exact .inl ⟨rfl, h1, h2, rfl, rfl⟩
        | true =>
          cases hb : b.contains (-v) with
          | false => exact .inr (.inl ⟨rfl, h1, h2, rfl, rfl, rfl⟩)
          | true => exact .inr (.inr ⟨rfl, h1, h2, rfl, rfl, rfl⟩)

set_option maxRecDepth 100000 in
set_option maxHeartbeats 8000000 in
theorem follows_calls (A0 A1 A3 : Option Addr) (c0 c1 c3 : Nat) (a b : List Int) (v : Int) (m : List Bool) (w : World) (hra : Kd.C (Kd.int .i64) w A0 a.length a) (hca : a.length ≤ c0) (hrb : Kd.C (Kd.int .i64) w A1 b.length b) (hcb : b.length ≤ c1) (hrm : Kd.C Kd.bool w A3 m.length m) (hcm : m.length ≤ c3)
    (na : a.length < 17592186044416) (nb : b.length < 17592186044416) (hv : -9223372036854775808 ≤ v ∧ v ≤ 9223372036854775807) :
    Calls Try.prog 13 #[.slice A0 a.length c0, .slice A1 b.length c1, .int .i64 v, .slice A3 m.length c3] w fun e w' => e = .returned (.bool true) ∧ Below w.heap.size w w' := by
  have HRA := Aside0.mk hra
  have HRB := Aside0.mk hrb
  have HRM := Aside0.mk hrm
  have S0 := fun W h => fsound_calls A0 c0 a W h hca (by omega)
  have S1 := fun W h => fsound_calls A1 c1 b W h hcb (by omega)
  have HS0 := Aside0.mk S0
  have HS1 := Aside0.mk S1
  have HNN := Aside0.mk (And.intro na nb)
  have HCC := Aside0.mk (And.intro hca (And.intro hcb hcm))
  have HV := Aside0.mk hv
  clear S0 S1 hra hrb hrm na nb hca hcb hcm hv
  refine (callsIn_wide (n := 12)).1 ?_
  refine callsIn_of_wp_marks Try.func13 rfl trivial ?_ rfl
  simp only [Try.ntmps13, List.size_toArray, List.length_cons, List.length_nil, Nat.reduceAdd, Nat.reduceSub, Array.replicate_succ, Array.replicate_zero, List.push_toArray, List.append_toArray, List.nil_append, List.cons_append]
  gi_upto_region 1 with fail
  have T0 := fb w (.slice A0 a.length c0) (.slice A1 b.length c1) (.int .i64 v) (.slice A3 m.length c3) (.bool false)
  generalize hW0 : ((((w.alloc (.cells #[.slice A0 a.length c0] 26 (0, 0))).alloc (.cells #[.slice A1 b.length c1] 26 (0, 0))).alloc (.cells #[.int .i64 v] 3 (0, 0))).alloc (.cells #[.slice A3 m.length c3] 33 (0, 0))).alloc (.cells #[.bool false] 4 (0, 0)) = W0 at T0 ⊢
  clear hW0
  have HT0 := Aside0.mk T0
  gi_cut [9] from 17 (fun s9 wc => s9 = .bool (sound a && sound b) ∧ Aside0 (FB w (.slice A0 a.length c0) (.slice A1 b.length c1) (.int .i64 v) (.slice A3 m.length c3) (.bool false) wc))
  case first =>
    as_aux_lemma =>
      have f0 := (blk_cell T0.b0 0).trans rfl
      clear T0
      gi_wp2
      refine ⟨trivial, ?_⟩
      (with_reducible refine (callsIn_wide.2 (HS0.out _ (Kd.C_below HRA.out HT0.out.hB))).mono ?_)
      rintro e W1 ⟨rfl, hd⟩
      have T1 := HT0.out.keep hd.below
      have f1 := (blk_cell T1.b1 0).trans rfl
      have HT1 := Aside0.mk T1
      clear hd T1 f0
      cases hs : sound a with
      | false =>
        gi_wp2
        refine ⟨trivial, ?_⟩
        gi_wp2
        gi_meet
        case rel => exact ⟨by rw [hs]; rfl, HT1⟩
      | true =>
        gi_wp2
        refine ⟨trivial, ?_⟩
        (with_reducible refine (callsIn_wide.2 (HS1.out _ (Kd.C_below HRB.out HT1.out.hB))).mono ?_)
        rintro e W2 ⟨rfl, hd⟩
        have HT2 := Aside0.mk (HT1.out.keep hd.below)
        clear hd f1
        gi_wp2
        gi_meet
        case rel => exact ⟨by rw [hs]; rfl, HT2⟩
  case rest =>
    obtain ⟨rfl, HT⟩ := hcut
    clear HT0 T0
    have hmx : Try.prog.follows .mixedOrders = true := by kernel_rfl
    gi_upto_region 2 with fail
    gi_cut [10, 11] from 17 (fun s10 s11 wd => ∃ (Br : Nat) (Ar : Option Addr) (cr : Nat) (rs : List Int) (cd : Int), s10 = .pointer (some ⟨Br, 0, none⟩) ∧ s11 = .int .i64 cd ∧ resOf a b v = (rs, cd) ∧ Aside0 (FR w (.slice A0 a.length c0) (.slice A1 b.length c1) (.int .i64 v) (.slice A3 m.length c3) (.bool false) rs Br Ar cr wd))
    case first =>
      as_aux_lemma =>
        have FD := HT.out.drew
        refine wpIn_region_N (S := FB w (.slice A0 a.length c0) (.slice A1 b.length c1) (.int .i64 v) (.slice A3 m.length c3) (.bool false)) hmx ?_
        refine wpAnyS_take (i := 0) (v := .slice A0 a.length c0) (fun _ => trivial) (by kernel_rfl) rfl (by kernel_rfl) (by kernel_rfl) (by kernel_rfl) (fun _ _ _ h => h) (by rfl) (fun W' hS => by have c := (blk_cell hS.b0 0).trans rfl; go_simp) FD ?_
        refine wpAnyS_take (i := 2) (v := .slice A1 b.length c1) (fun _ => trivial) (by kernel_rfl) rfl (by kernel_rfl) (by kernel_rfl) (by kernel_rfl) (fun _ _ _ h => h) (by rfl) (fun W' hS => by have c := (blk_cell hS.b1 0).trans rfl; go_simp) FD ?_
        refine wpAnyS_take (i := 4) (v := .int .i64 v) (fun _ => trivial) (by kernel_rfl) rfl (by kernel_rfl) (by kernel_rfl) (by kernel_rfl) (fun _ _ _ h => h) (by rfl) (fun W' hS => by have c := (blk_cell hS.b2 0).trans rfl; go_simp) FD ?_
        refine wpAnyS_two (i := 1) (j := 9) (by kernel_rfl) rfl rfl (by rfl) (by rfl) (fun K' hK => ?_) (fun K' hK => ?_)
        · go_simp
          refine ⟨trivial, ?_⟩
          (with_reducible refine (callsIn_wide.2 (fcopied_calls A0 c0 a _ (Kd.C_below HRA.out FD.hB) HCC.out.1 HNN.out.1)).mono ?_)
          rintro e V1 ⟨u1, rfl, hu, hb⟩
          obtain ⟨Au1, cu1, rfl⟩ := Kd.R_slice hu
          have C1 := (Kd.R_reads' hu).2
          have F1 := FD.keep hb
          refine hK _ _ F1 ?_
          clear hu hb hK
          refine wpAnyS_two (i := 3) (j := 9) (by kernel_rfl) rfl rfl (by rfl) (by rfl) (fun K' hK => ?_) (fun K' hK => ?_)
          · go_simp
            refine ⟨trivial, ?_⟩
            (with_reducible refine (callsIn_wide.2 (fcopied_calls A1 c1 b _ (Kd.C_below HRB.out F1.hB) HCC.out.2.1 HNN.out.2)).mono ?_)
            rintro e V2 ⟨u2, rfl, hu, hb⟩
            obtain ⟨Au2, cu2, rfl⟩ := Kd.R_slice hu
            have C2 := (Kd.R_reads' hu).2
            replace C1 := And.intro C1.1 (Kd.C_below C1.2 hb)
            have F2 := F1.keep hb
            refine hK _ _ F2 ?_
            clear hu hb hK
            refine wpAnyS_two (i := 5) (j := 9) (by kernel_rfl) rfl rfl (by rfl) (by rfl) (fun K' hK => ?_) (fun K' hK => ?_)
            · go_simp
              refine ⟨trivial, ?_⟩
              (with_reducible refine (callsIn_wide.2 (resolve_calls Au1 Au2 cu1 cu2 a b v _ C1.2 C1.1 C2.2 C2.1 (by have := HNN.out.1; omega) (by have := HNN.out.2; omega))).mono ?_)
              rintro e V3 ⟨ur, rfl, hu, hb⟩
              obtain ⟨Ar, cr, rfl⟩ := Kd.R_slice hu
              have ho := own_weaken (R_own hu) F2.hz
              have F3 := F2.keep hb
              refine hK _ _ F3 ?_
              clear hu hb hK
              refine wpAnyS_take (i := 6) (v := .tuple #[.slice Ar (resOf a b v).1.length cr, .int .i64 (resOf a b v).2]) (fun _ => trivial) (by kernel_rfl) rfl (by kernel_rfl) (by kernel_rfl) (by kernel_rfl) (fun _ _ _ h => h) (by rfl) (fun W' hS => by go_simp) F3 ?_
              refine wpAnyS_take (i := 7) (v := .slice Ar (resOf a b v).1.length cr) (fun _ => trivial) (by kernel_rfl) rfl (by kernel_rfl) (by kernel_rfl) (by kernel_rfl) (fun _ _ _ h => h) (by rfl) (fun W' hS => by go_simp) F3 ?_
              refine wpAnyS_take (i := 8) (v := .int .i64 (resOf a b v).2) (fun _ => trivial) (by kernel_rfl) rfl (by kernel_rfl) (by kernel_rfl) (by kernel_rfl) (fun _ _ _ h => h) (by rfl) (fun W' hS => by go_simp) F3 ?_
              refine wpAnyS_one (i := 9) (by kernel_rfl) rfl (by rfl) (fun K' hK => ?_)
              go_simp
              have hb : Below (V3).heap.size (V3) ((V3).alloc (.cells #[.slice none 0 0] 26 (0, 0))) := below_alloc (Below.refl _ _) _
              have F4 := F3.keep hb
              have br4 : ((V3).alloc (.cells #[.slice none 0 0] 26 (0, 0))).heap[V3.heap.size]? = some (.cells #[.slice none 0 0] 26 (0, 0)) := blk_new (V3) _
              have hbr : w.heap.size + 5 ≤ V3.heap.size := F3.hz
              replace ho := own_move ho (fun k hk => hb.block k (own_lt ho k hk))
              refine hK _ _ F4 ?_
              clear hK hb
              obtain ⟨Br, hBr⟩ : ∃ Br, Br = V3.heap.size := ⟨_, rfl⟩
              rw [← hBr] at br4 hbr ⊢
              generalize ((V3).alloc (.cells #[.slice none 0 0] 26 (0, 0))) = V4 at *
              clear hBr
              have q := (blk_cell br4 0).trans rfl
              have y := blk_frozen br4 0
              refine wpAnyS_one (i := 10) (by kernel_rfl) rfl (by rfl) (fun K' hK => ?_)
              go_simp
              have ne := own_apart ho br4 (by decide)
              have FS := F4.far (p := ⟨Br, 0, none⟩) hbr (.slice Ar (resOf a b v).1.length cr)
              have brS := blk_put br4 0 (.slice Ar (resOf a b v).1.length cr) rfl
              replace ho := own_move ho (fun k hk => Below.heap_setCell V4 ⟨Br, 0, none⟩ (.slice Ar (resOf a b v).1.length cr) k (ne k hk))
              refine hK _ _ FS ?_
              clear hK q y
              refine wpAnyS_take (i := 11) (v := .int .i64 (resOf a b v).2) (fun _ => trivial) (by kernel_rfl) rfl (by kernel_rfl) (by kernel_rfl) (by kernel_rfl) (fun _ _ _ h => h) (by rfl) (fun W' hS => by go_simp) FS ?_
              refine wpAnyS_doneN (by kernel_rfl) ?_ _
              gi_wp2
              gi_meet
              case rel => exact ⟨Br, Ar, cr, _, _, rfl, rfl, rfl, ⟨FS, brS, ho, hbr⟩⟩
            · go_simp
              have hb : Below (V2).heap.size (V2) ((V2).alloc (.cells #[.slice none 0 0] 26 (0, 0))) := below_alloc (Below.refl _ _) _
              have F3 := F2.keep hb
              have br3 : ((V2).alloc (.cells #[.slice none 0 0] 26 (0, 0))).heap[V2.heap.size]? = some (.cells #[.slice none 0 0] 26 (0, 0)) := blk_new (V2) _
              have hbr : w.heap.size + 5 ≤ V2.heap.size := F2.hz
              replace C1 := And.intro C1.1 (Kd.C_below C1.2 hb)
              replace C2 := And.intro C2.1 (Kd.C_below C2.2 hb)
              refine hK _ _ F3 ?_
              clear hK hb
              obtain ⟨Br, hBr⟩ : ∃ Br, Br = V2.heap.size := ⟨_, rfl⟩
              rw [← hBr] at br3 hbr ⊢
              generalize ((V2).alloc (.cells #[.slice none 0 0] 26 (0, 0))) = V3 at *
              clear hBr
              refine wpAnyS_one (i := 5) (by kernel_rfl) rfl (by rfl) (fun K' hK => ?_)
              go_simp
              refine ⟨trivial, ?_⟩
              (with_reducible refine (callsIn_wide.2 (resolve_calls Au1 Au2 cu1 cu2 a b v _ C1.2 C1.1 C2.2 C2.1 (by have := HNN.out.1; omega) (by have := HNN.out.2; omega))).mono ?_)
              rintro e V4 ⟨ur, rfl, hu, hb⟩
              obtain ⟨Ar, cr, rfl⟩ := Kd.R_slice hu
              have ho := own_weaken (R_own hu) F3.hz
              have F4 := F3.keep hb
              have br4 := blk_below br3 hb
              refine hK _ _ F4 ?_
              clear hu hb hK
              refine wpAnyS_take (i := 6) (v := .tuple #[.slice Ar (resOf a b v).1.length cr, .int .i64 (resOf a b v).2]) (fun _ => trivial) (by kernel_rfl) rfl (by kernel_rfl) (by kernel_rfl) (by kernel_rfl) (fun _ _ _ h => h) (by rfl) (fun W' hS => by go_simp) F4 ?_
              refine wpAnyS_take (i := 7) (v := .slice Ar (resOf a b v).1.length cr) (fun _ => trivial) (by kernel_rfl) rfl (by kernel_rfl) (by kernel_rfl) (by kernel_rfl) (fun _ _ _ h => h) (by rfl) (fun W' hS => by go_simp) F4 ?_
              refine wpAnyS_take (i := 8) (v := .int .i64 (resOf a b v).2) (fun _ => trivial) (by kernel_rfl) rfl (by kernel_rfl) (by kernel_rfl) (by kernel_rfl) (fun _ _ _ h => h) (by rfl) (fun W' hS => by go_simp) F4 ?_
              have q := (blk_cell br4 0).trans rfl
              have y := blk_frozen br4 0
              refine wpAnyS_one (i := 10) (by kernel_rfl) rfl (by rfl) (fun K' hK => ?_)
              go_simp
              have ne := own_apart ho br4 (by decide)
              have FS := F4.far (p := ⟨Br, 0, none⟩) hbr (.slice Ar (resOf a b v).1.length cr)
              have brS := blk_put br4 0 (.slice Ar (resOf a b v).1.length cr) rfl
              replace ho := own_move ho (fun k hk => Below.heap_setCell V4 ⟨Br, 0, none⟩ (.slice Ar (resOf a b v).1.length cr) k (ne k hk))
              refine hK _ _ FS ?_
              clear hK q y
              refine wpAnyS_take (i := 11) (v := .int .i64 (resOf a b v).2) (fun _ => trivial) (by kernel_rfl) rfl (by kernel_rfl) (by kernel_rfl) (by kernel_rfl) (fun _ _ _ h => h) (by rfl) (fun W' hS => by go_simp) FS ?_
              refine wpAnyS_doneN (by kernel_rfl) ?_ _
              gi_wp2
              gi_meet
              case rel => exact ⟨Br, Ar, cr, _, _, rfl, rfl, rfl, ⟨FS, brS, ho, hbr⟩⟩
          · go_simp
            have hb : Below (V1).heap.size (V1) ((V1).alloc (.cells #[.slice none 0 0] 26 (0, 0))) := below_alloc (Below.refl _ _) _
            have F2 := F1.keep hb
            have br2 : ((V1).alloc (.cells #[.slice none 0 0] 26 (0, 0))).heap[V1.heap.size]? = some (.cells #[.slice none 0 0] 26 (0, 0)) := blk_new (V1) _
            have hbr : w.heap.size + 5 ≤ V1.heap.size := F1.hz
            replace C1 := And.intro C1.1 (Kd.C_below C1.2 hb)
            refine hK _ _ F2 ?_
            clear hK hb
            obtain ⟨Br, hBr⟩ : ∃ Br, Br = V1.heap.size := ⟨_, rfl⟩
            rw [← hBr] at br2 hbr ⊢
            generalize ((V1).alloc (.cells #[.slice none 0 0] 26 (0, 0))) = V2 at *
            clear hBr
            refine wpAnyS_one (i := 3) (by kernel_rfl) rfl (by rfl) (fun K' hK => ?_)
            go_simp
            refine ⟨trivial, ?_⟩
            (with_reducible refine (callsIn_wide.2 (fcopied_calls A1 c1 b _ (Kd.C_below HRB.out F2.hB) HCC.out.2.1 HNN.out.2)).mono ?_)
            rintro e V3 ⟨u2, rfl, hu, hb⟩
            obtain ⟨Au2, cu2, rfl⟩ := Kd.R_slice hu
            have C2 := (Kd.R_reads' hu).2
            replace C1 := And.intro C1.1 (Kd.C_below C1.2 hb)
            have F3 := F2.keep hb
            have br3 := blk_below br2 hb
            refine hK _ _ F3 ?_
            clear hu hb hK
            refine wpAnyS_one (i := 5) (by kernel_rfl) rfl (by rfl) (fun K' hK => ?_)
            go_simp
            refine ⟨trivial, ?_⟩
            (with_reducible refine (callsIn_wide.2 (resolve_calls Au1 Au2 cu1 cu2 a b v _ C1.2 C1.1 C2.2 C2.1 (by have := HNN.out.1; omega) (by have := HNN.out.2; omega))).mono ?_)
            rintro e V4 ⟨ur, rfl, hu, hb⟩
            obtain ⟨Ar, cr, rfl⟩ := Kd.R_slice hu
            have ho := own_weaken (R_own hu) F3.hz
            have F4 := F3.keep hb
            have br4 := blk_below br3 hb
            refine hK _ _ F4 ?_
            clear hu hb hK
            refine wpAnyS_take (i := 6) (v := .tuple #[.slice Ar (resOf a b v).1.length cr, .int .i64 (resOf a b v).2]) (fun _ => trivial) (by kernel_rfl) rfl (by kernel_rfl) (by kernel_rfl) (by kernel_rfl) (fun _ _ _ h => h) (by rfl) (fun W' hS => by go_simp) F4 ?_
            refine wpAnyS_take (i := 7) (v := .slice Ar (resOf a b v).1.length cr) (fun _ => trivial) (by kernel_rfl) rfl (by kernel_rfl) (by kernel_rfl) (by kernel_rfl) (fun _ _ _ h => h) (by rfl) (fun W' hS => by go_simp) F4 ?_
            refine wpAnyS_take (i := 8) (v := .int .i64 (resOf a b v).2) (fun _ => trivial) (by kernel_rfl) rfl (by kernel_rfl) (by kernel_rfl) (by kernel_rfl) (fun _ _ _ h => h) (by rfl) (fun W' hS => by go_simp) F4 ?_
            have q := (blk_cell br4 0).trans rfl
            have y := blk_frozen br4 0
            refine wpAnyS_one (i := 10) (by kernel_rfl) rfl (by rfl) (fun K' hK => ?_)
            go_simp
            have ne := own_apart ho br4 (by decide)
            have FS := F4.far (p := ⟨Br, 0, none⟩) hbr (.slice Ar (resOf a b v).1.length cr)
            have brS := blk_put br4 0 (.slice Ar (resOf a b v).1.length cr) rfl
            replace ho := own_move ho (fun k hk => Below.heap_setCell V4 ⟨Br, 0, none⟩ (.slice Ar (resOf a b v).1.length cr) k (ne k hk))
            refine hK _ _ FS ?_
            clear hK q y
            refine wpAnyS_take (i := 11) (v := .int .i64 (resOf a b v).2) (fun _ => trivial) (by kernel_rfl) rfl (by kernel_rfl) (by kernel_rfl) (by kernel_rfl) (fun _ _ _ h => h) (by rfl) (fun W' hS => by go_simp) FS ?_
            refine wpAnyS_doneN (by kernel_rfl) ?_ _
            gi_wp2
            gi_meet
            case rel => exact ⟨Br, Ar, cr, _, _, rfl, rfl, rfl, ⟨FS, brS, ho, hbr⟩⟩
        · go_simp
          have hb : Below (wc.drew).heap.size (wc.drew) ((wc.drew).alloc (.cells #[.slice none 0 0] 26 (0, 0))) := below_alloc (Below.refl _ _) _
          have F1 := FD.keep hb
          have br1 : ((wc.drew).alloc (.cells #[.slice none 0 0] 26 (0, 0))).heap[wc.heap.size]? = some (.cells #[.slice none 0 0] 26 (0, 0)) := blk_new (wc.drew) _
          have hbr : w.heap.size + 5 ≤ wc.heap.size := FD.hz
          have hw : (wc.alloc (.cells #[.slice none 0 0] 26 (0, 0))).drew = wc.drew.alloc (.cells #[.slice none 0 0] 26 (0, 0)) := rfl
          rw [hw]
          clear hw
          refine hK _ _ F1 ?_
          clear hK hb
          obtain ⟨Br, hBr⟩ : ∃ Br, Br = wc.heap.size := ⟨_, rfl⟩
          rw [← hBr] at br1 hbr ⊢
          generalize ((wc.drew).alloc (.cells #[.slice none 0 0] 26 (0, 0))) = V1 at *
          clear hBr
          refine wpAnyS_one (i := 1) (by kernel_rfl) rfl (by rfl) (fun K' hK => ?_)
          go_simp
          refine ⟨trivial, ?_⟩
          (with_reducible refine (callsIn_wide.2 (fcopied_calls A0 c0 a _ (Kd.C_below HRA.out F1.hB) HCC.out.1 HNN.out.1)).mono ?_)
          rintro e V2 ⟨u1, rfl, hu, hb⟩
          obtain ⟨Au1, cu1, rfl⟩ := Kd.R_slice hu
          have C1 := (Kd.R_reads' hu).2
          have F2 := F1.keep hb
          have br2 := blk_below br1 hb
          refine hK _ _ F2 ?_
          clear hu hb hK
          refine wpAnyS_one (i := 3) (by kernel_rfl) rfl (by rfl) (fun K' hK => ?_)
          go_simp
          refine ⟨trivial, ?_⟩
          (with_reducible refine (callsIn_wide.2 (fcopied_calls A1 c1 b _ (Kd.C_below HRB.out F2.hB) HCC.out.2.1 HNN.out.2)).mono ?_)
          rintro e V3 ⟨u2, rfl, hu, hb⟩
          obtain ⟨Au2, cu2, rfl⟩ := Kd.R_slice hu
          have C2 := (Kd.R_reads' hu).2
          replace C1 := And.intro C1.1 (Kd.C_below C1.2 hb)
          have F3 := F2.keep hb
          have br3 := blk_below br2 hb
          refine hK _ _ F3 ?_
          clear hu hb hK
          refine wpAnyS_one (i := 5) (by kernel_rfl) rfl (by rfl) (fun K' hK => ?_)
          go_simp
          refine ⟨trivial, ?_⟩
          (with_reducible refine (callsIn_wide.2 (resolve_calls Au1 Au2 cu1 cu2 a b v _ C1.2 C1.1 C2.2 C2.1 (by have := HNN.out.1; omega) (by have := HNN.out.2; omega))).mono ?_)
          rintro e V4 ⟨ur, rfl, hu, hb⟩
          obtain ⟨Ar, cr, rfl⟩ := Kd.R_slice hu
          have ho := own_weaken (R_own hu) F3.hz
          have F4 := F3.keep hb
          have br4 := blk_below br3 hb
          refine hK _ _ F4 ?_
          clear hu hb hK
          refine wpAnyS_take (i := 6) (v := .tuple #[.slice Ar (resOf a b v).1.length cr, .int .i64 (resOf a b v).2]) (fun _ => trivial) (by kernel_rfl) rfl (by kernel_rfl) (by kernel_rfl) (by kernel_rfl) (fun _ _ _ h => h) (by rfl) (fun W' hS => by go_simp) F4 ?_
          refine wpAnyS_take (i := 7) (v := .slice Ar (resOf a b v).1.length cr) (fun _ => trivial) (by kernel_rfl) rfl (by kernel_rfl) (by kernel_rfl) (by kernel_rfl) (fun _ _ _ h => h) (by rfl) (fun W' hS => by go_simp) F4 ?_
          refine wpAnyS_take (i := 8) (v := .int .i64 (resOf a b v).2) (fun _ => trivial) (by kernel_rfl) rfl (by kernel_rfl) (by kernel_rfl) (by kernel_rfl) (fun _ _ _ h => h) (by rfl) (fun W' hS => by go_simp) F4 ?_
          have q := (blk_cell br4 0).trans rfl
          have y := blk_frozen br4 0
          refine wpAnyS_one (i := 10) (by kernel_rfl) rfl (by rfl) (fun K' hK => ?_)
          go_simp
          have ne := own_apart ho br4 (by decide)
          have FS := F4.far (p := ⟨Br, 0, none⟩) hbr (.slice Ar (resOf a b v).1.length cr)
          have brS := blk_put br4 0 (.slice Ar (resOf a b v).1.length cr) rfl
          replace ho := own_move ho (fun k hk => Below.heap_setCell V4 ⟨Br, 0, none⟩ (.slice Ar (resOf a b v).1.length cr) k (ne k hk))
          refine hK _ _ FS ?_
          clear hK q y
          refine wpAnyS_take (i := 11) (v := .int .i64 (resOf a b v).2) (fun _ => trivial) (by kernel_rfl) rfl (by kernel_rfl) (by kernel_rfl) (by kernel_rfl) (fun _ _ _ h => h) (by rfl) (fun W' hS => by go_simp) FS ?_
          refine wpAnyS_doneN (by kernel_rfl) ?_ _
          gi_wp2
          gi_meet
          case rel => exact ⟨Br, Ar, cr, _, _, rfl, rfl, rfl, ⟨FS, brS, ho, hbr⟩⟩
    case rest =>
      obtain ⟨Br, Ar, cr, rs, cd, rfl, rfl, hres, HR⟩ := hcut
      rcases res_cases a b v with ⟨hs, e⟩ | ⟨hs, h1, e⟩ | ⟨hs, h1, h2, e⟩ | ⟨hs, h1, h2, h3, e⟩ | ⟨hs, h1, h2, h3, h4, e⟩ | ⟨hs, h1, h2, h3, h4, e⟩
      · obtain ⟨rfl, rfl⟩ := Prod.mk.inj (e.symm.trans hres)
        clear hres e hmx HT HS0 HS1
        have f0 := (blk_cell HR.out.fb.b0 0).trans rfl
        have f1 := (blk_cell HR.out.fb.b1 0).trans rfl
        have f2 := (blk_cell HR.out.fb.b2 0).trans rfl
        have q4 := (blk_cell HR.out.fb.b4 0).trans rfl
        have y4 := blk_frozen HR.out.fb.b4 0
        have fr := (blk_cell HR.out.br 0).trans rfl
        rw [hs]
        gi_wp2
        have E2 := HR.out.fb.set (.bool true)
        generalize (wc.setCell ⟨w.heap.size + 1 + 1 + 1 + 1, 0, none⟩ (.bool true)) = WF at E2 ⊢
        have r0 := (blk_cell E2.b4 0).trans rfl
        exact ⟨.bool true, by simp [results, Try.results13, go_sem, r0], rfl, E2.hB⟩
      · obtain ⟨rfl, rfl⟩ := Prod.mk.inj (e.symm.trans hres)
        clear hres e hmx HT HS0 HS1
        have f0 := (blk_cell HR.out.fb.b0 0).trans rfl
        have f1 := (blk_cell HR.out.fb.b1 0).trans rfl
        have f2 := (blk_cell HR.out.fb.b2 0).trans rfl
        have q4 := (blk_cell HR.out.fb.b4 0).trans rfl
        have y4 := blk_frozen HR.out.fb.b4 0
        have fr := (blk_cell HR.out.br 0).trans rfl
        rw [hs]
        have p1 := eq_true h1
        gi_wp2
        have E2 := HR.out.fb.set (.bool true)
        generalize (wc.setCell ⟨w.heap.size + 1 + 1 + 1 + 1, 0, none⟩ (.bool true)) = WF at E2 ⊢
        have r0 := (blk_cell E2.b4 0).trans rfl
        exact ⟨.bool true, by simp [results, Try.results13, go_sem, r0], rfl, E2.hB⟩
      · obtain ⟨rfl, rfl⟩ := Prod.mk.inj (e.symm.trans hres)
        clear hres e hmx HT HS0 HS1
        have f0 := (blk_cell HR.out.fb.b0 0).trans rfl
        have f1 := (blk_cell HR.out.fb.b1 0).trans rfl
        have f2 := (blk_cell HR.out.fb.b2 0).trans rfl
        have q4 := (blk_cell HR.out.fb.b4 0).trans rfl
        have y4 := blk_frozen HR.out.fb.b4 0
        have fr := (blk_cell HR.out.br 0).trans rfl
        rw [hs]
        have p1 := eq_false h1
        have p2 := eq_true h2
        gi_wp2
        have E2 := HR.out.fb.set (.bool true)
        generalize (wc.setCell ⟨w.heap.size + 1 + 1 + 1 + 1, 0, none⟩ (.bool true)) = WF at E2 ⊢
        have r0 := (blk_cell E2.b4 0).trans rfl
        exact ⟨.bool true, by simp [results, Try.results13, go_sem, r0], rfl, E2.hB⟩
      · obtain ⟨rfl, rfl⟩ := Prod.mk.inj (e.symm.trans hres)
        clear hres e hmx HT HS0 HS1
        have f0 := (blk_cell HR.out.fb.b0 0).trans rfl
        have f1 := (blk_cell HR.out.fb.b1 0).trans rfl
        have f2 := (blk_cell HR.out.fb.b2 0).trans rfl
        have q4 := (blk_cell HR.out.fb.b4 0).trans rfl
        have y4 := blk_frozen HR.out.fb.b4 0
        have fr := (blk_cell HR.out.br 0).trans rfl
        rw [hs]
        have p1 := eq_false h1
        have p2 := eq_false h2
        have W0' := fun W h => fwithin_calls A0 c0 a v W h HCC.out.1 (by have := HNN.out.1; omega)
        rw [h3] at W0'
        have HWA := Aside0.mk W0'
        clear W0' hs h3 h1 h2
        gi_wp2
        refine ⟨trivial, ?_⟩
        (with_reducible refine (callsIn_wide.2 (HWA.out _ (Kd.C_below HRA.out HR.out.fb.hB))).mono ?_)
        rintro e W1 ⟨rfl, hd⟩
        have R1 := HR.out.keep hd.below
        have q4 := (blk_cell R1.fb.b4 0).trans rfl
        have y4 := blk_frozen R1.fb.b4 0
        have fr := (blk_cell R1.br 0).trans rfl
        have HR1 := Aside0.mk R1
        clear R1 hd f0 f1 f2 HR
        gi_wp2
        refine ⟨trivial, ?_⟩
        gi_wp2
        have E2 := HR1.out.fb.set (.bool true)
        generalize (W1.setCell ⟨w.heap.size + 1 + 1 + 1 + 1, 0, none⟩ (.bool true)) = WF at E2 ⊢
        have r0 := (blk_cell E2.b4 0).trans rfl
        exact ⟨.bool true, by simp [results, Try.results13, go_sem, r0], rfl, E2.hB⟩
      · obtain ⟨rfl, rfl⟩ := Prod.mk.inj (e.symm.trans hres)
        clear hres e hmx HT HS0 HS1
        have f0 := (blk_cell HR.out.fb.b0 0).trans rfl
        have f1 := (blk_cell HR.out.fb.b1 0).trans rfl
        have f2 := (blk_cell HR.out.fb.b2 0).trans rfl
        have q4 := (blk_cell HR.out.fb.b4 0).trans rfl
        have y4 := blk_frozen HR.out.fb.b4 0
        have fr := (blk_cell HR.out.br 0).trans rfl
        rw [hs]
        have p1 := eq_false h1
        have p2 := eq_false h2
        have pw : wrap64 (-v) = -v := w64 (by omega) (by omega)
        have WA := fun W h => fwithin_calls A0 c0 a v W h HCC.out.1 (by have := HNN.out.1; omega)
        have WB := fun W h => fwithin_calls A1 c1 b (-v) W h HCC.out.2.1 (by have := HNN.out.2; omega)
        rw [h3] at WA
        rw [h4] at WB
        have HWA := Aside0.mk WA
        have HWB := Aside0.mk WB
        have HVV := Aside0.mk (And.intro h1 h2)
        have HSS := Aside0.mk hs
        have HM := Aside0.mk (And.intro h3 h4)
        clear WA WB hs h3 h4 h1 h2
        gi_wp2
        refine ⟨trivial, ?_⟩
        (with_reducible refine (callsIn_wide.2 (HWA.out _ (Kd.C_below HRA.out HR.out.fb.hB))).mono ?_)
        rintro e W1 ⟨rfl, hd⟩
        have R1 := HR.out.keep hd.below
        have f1 := (blk_cell R1.fb.b1 0).trans rfl
        have f2 := (blk_cell R1.fb.b2 0).trans rfl
        have HR1 := Aside0.mk R1
        clear R1 hd f0 q4 y4 fr HR
        gi_wp2
        refine ⟨trivial, ?_⟩
        (with_reducible refine (callsIn_wide.2 (HWB.out _ (Kd.C_below HRB.out HR1.out.fb.hB))).mono ?_)
        rintro e W2 ⟨rfl, hd⟩
        have R2 := HR1.out.keep hd.below
        have q4 := (blk_cell R2.fb.b4 0).trans rfl
        have y4 := blk_frozen R2.fb.b4 0
        have fr := (blk_cell R2.br 0).trans rfl
        have HR2 := Aside0.mk R2
        clear R2 hd f1 f2 HR1 HWA HWB
        gi_wp2
        have E2 := HR2.out.fb.set (.bool true)
        generalize (W2.setCell ⟨w.heap.size + 1 + 1 + 1 + 1, 0, none⟩ (.bool true)) = WF at E2 ⊢
        have r0 := (blk_cell E2.b4 0).trans rfl
        exact ⟨.bool true, by simp [results, Try.results13, go_sem, r0], rfl, E2.hB⟩
      · obtain ⟨rfl, rfl⟩ := Prod.mk.inj (e.symm.trans hres)
        clear hres e hmx HT HS0 HS1
        have f0 := (blk_cell HR.out.fb.b0 0).trans rfl
        have f1 := (blk_cell HR.out.fb.b1 0).trans rfl
        have f2 := (blk_cell HR.out.fb.b2 0).trans rfl
        have q4 := (blk_cell HR.out.fb.b4 0).trans rfl
        have y4 := blk_frozen HR.out.fb.b4 0
        have fr := (blk_cell HR.out.br 0).trans rfl
        rw [hs]
        have p1 := eq_false h1
        have p2 := eq_false h2
        have pw : wrap64 (-v) = -v := w64 (by omega) (by omega)
        have WA := fun W h => fwithin_calls A0 c0 a v W h HCC.out.1 (by have := HNN.out.1; omega)
        have WB := fun W h => fwithin_calls A1 c1 b (-v) W h HCC.out.2.1 (by have := HNN.out.2; omega)
        rw [h3] at WA
        rw [h4] at WB
        have HWA := Aside0.mk WA
        have HWB := Aside0.mk WB
        have HVV := Aside0.mk (And.intro h1 h2)
        have HSS := Aside0.mk hs
        have HM := Aside0.mk (And.intro h3 h4)
        clear WA WB hs h3 h4 h1 h2
        gi_wp2
        refine ⟨trivial, ?_⟩
        (with_reducible refine (callsIn_wide.2 (HWA.out _ (Kd.C_below HRA.out HR.out.fb.hB))).mono ?_)
        rintro e W1 ⟨rfl, hd⟩
        have R1 := HR.out.keep hd.below
        have f1 := (blk_cell R1.fb.b1 0).trans rfl
        have f2 := (blk_cell R1.fb.b2 0).trans rfl
        have HR1 := Aside0.mk R1
        clear R1 hd f0 q4 y4 fr HR
        gi_wp2
        refine ⟨trivial, ?_⟩
        (with_reducible refine (callsIn_wide.2 (HWB.out _ (Kd.C_below HRB.out HR1.out.fb.hB))).mono ?_)
        rintro e W2 ⟨rfl, hd⟩
        have R2 := HR1.out.keep hd.below
        have q4 := (blk_cell R2.fb.b4 0).trans rfl
        have y4 := blk_frozen R2.fb.b4 0
        have fr := (blk_cell R2.br 0).trans rfl
        have HR2 := Aside0.mk R2
        clear R2 hd f1 f2 HR1 HWA HWB
        gi_upto_region 9 with fail
        clear q4 y4 fr f1 f2
        have HNR : Aside0 ((onOf a b v).length ≤ 4194304) := ⟨by have := onOf_len a b v; omega⟩
        have HE1 : Aside0 (∀ x ∈ onOf a b v, (a.contains x = true ∧ x ≠ v) ∨ (b.contains x = true ∧ x ≠ -v)) := ⟨fun x hx => by have := (mem_onOf.1 hx).2; rw [List.contains_iff_mem, List.contains_iff_mem]; exact this⟩
        have HTR : Aside0 (a.any (trIn m) = true → b.any (trIn m) = true → (onOf a b v).any (trIn m) = true) := ⟨on_tr (by have := HVV.out.1; omega) ((Bool.and_eq_true _ _).mp HSS.out).1 ((Bool.and_eq_true _ _).mp HSS.out).2⟩
        have HSR : Aside0 (sound (onOf a b v) = true) := ⟨List.all_eq_true.2 fun x hx => (mem_onOf.1 hx).1⟩
        have HWV : Aside0 ((v, onOf a b v) ∈ weave (tidyOf a) (tidyOf b)) := ⟨by
          have h := weave_has (piv_mem ((Bool.and_eq_true _ _).mp HSS.out).1 ((Bool.and_eq_true _ _).mp HSS.out).2 HVV.out.1 HM.out.1 HM.out.2)
          rwa [onOf_tidy] at h⟩
        generalize onOf a b v = rr at HR2 HNR HE1 HTR HSR HWV ⊢
        gi_cut [12] from 17 (fun v12 wd => v12 = .int .i64 0 ∧ Aside0 (FR w (.slice A0 a.length c0) (.slice A1 b.length c1) (.int .i64 v) (.slice A3 m.length c3) (.bool false) rr Br Ar cr wd))
        case first =>
          as_aux_lemma =>
            gi_wp2
            gi_meet
            case rel => exact ⟨rfl, HR2⟩
        clear HR2
        obtain ⟨rfl, HR2⟩ := hcut
        gi_step
        gi_cut [12] from 17 (fun _ wd => Aside0 (FR w (.slice A0 a.length c0) (.slice A1 b.length c1) (.int .i64 v) (.slice A3 m.length c3) (.bool false) rr Br Ar cr wd))
        case first =>
          as_aux_lemma =>
            gi_wp2
            gi_loopw [12] (fun v12 wr => ∃ k : Nat, v12 = .int .i64 k ∧ Aside0 (k ≤ rr.length) ∧ Aside0 (FR w (.slice A0 a.length c0) (.slice A1 b.length c1) (.int .i64 v) (.slice A3 m.length c3) (.bool false) rr Br Ar cr wr)) (fun i _ => rr.length - (intOf i).toNat)
            case atStart => exact ⟨0, rfl, ⟨Nat.zero_le _⟩, ⟨HR2.out⟩⟩
            case round =>
              clear HR2
              obtain ⟨k, rfl, HK, HR2⟩ := hrel
              have fr := (blk_cell HR2.out.br 0).trans rfl
              by_cases hlt : k < rr.length
              · have hlt' : decide ((k : Int) < (rr.length : Int)) = true := decide_eq_true (by omega)
                have HK1 : Aside0 (k + 1 ≤ rr.length) := ⟨hlt⟩
                have l1 : (0 : Int) ≤ (k : Int) := by omega
                have l2 : (k : Int) < (rr.length : Int) := by omega
                have l3 := eq_true l1
                have l4 := eq_true l2
                have pw2 : wrap64 ((k : Int) + 1) = ((k + 1 : Nat) : Int) := by have := HNR.out; rw [w64 (by omega) (by omega)]; omega
                have hm : (intOf (.int .i64 ((k + 1 : Nat) : Int))).toNat = k + 1 := by simp [intOf]; try omega
                have hm0 : (intOf (.int .i64 (k : Int))).toNat = k := by simp [intOf]
                have HM1 : Aside0 (rr.length - (intOf (.int .i64 ((k + 1 : Nat) : Int))).toNat < rr.length - (intOf (.int .i64 (k : Int))).toNat) := ⟨by rw [hm, hm0]; omega⟩
                obtain ⟨ad, e1, hcell⟩ := Kd.at_int ((Kd.R_reads' (own_R HR2.out.own)).2.2) (k : Int) (by omega) (by omega)
                have hx := HE1.out (rd rr (k : Int)) (rd_mem hlt)
                subst e1
                rw [Int.toNat_natCast] at hcell
                have QA := fun n q => fwithin_q (n := n) A0 c0 a (rd rr (k : Int)) wr q (Kd.C_below HRA.out HR2.out.fb.hB) HCC.out.1 (by have := HNN.out.1; omega)
                have QB := fun n q => fwithin_q (n := n) A1 c1 b (rd rr (k : Int)) wr q (Kd.C_below HRB.out HR2.out.fb.hB) HCC.out.2.1 (by have := HNN.out.2; omega)
                generalize rd rr (k : Int) = x at hcell hx QA QB
                have f0 := (blk_cell HR2.out.fb.b0 0).trans rfl
                have f1 := (blk_cell HR2.out.fb.b1 0).trans rfl
                have f2 := (blk_cell HR2.out.fb.b2 0).trans rfl
                have HP2 := Aside0.mk pw2
                clear hm hm0 hlt HSS HM HVV p1 p2 pw2
                have hx' : (a.contains x = true ∧ (x != v) = true) ∨ ((a.contains x = false ∨ (a.contains x = true ∧ (x != v) = false)) ∧ b.contains x = true ∧ (x != -v) = true) := by
                  by_cases h1 : x = v
                  · rcases hx with ⟨_, h⟩ | ⟨h3, h4⟩
                    · exact absurd h1 h
                    · refine .inr ⟨?_, h3, by simp [h4]⟩
                      cases hh : a.contains x with
                      | false => exact .inl rfl
                      | true => exact .inr ⟨rfl, by simp [h1]⟩
                  · cases hh : a.contains x with
                    | true => exact .inl ⟨rfl, by simp [h1]⟩
                    | false =>
                      rcases hx with ⟨h, _⟩ | ⟨h3, h4⟩
                      · rw [hh] at h; cases h
                      · exact .inr ⟨.inl rfl, h3, by simp [h4]⟩
                clear hx
                rcases hx' with ⟨h1, h2⟩ | ⟨h1 | ⟨h1, h2⟩, h3, h4⟩
                · rw [h1] at QA
                  have HQA := Aside0.mk QA
                  clear QA QB h1
                  gi_wp2
                  open WideFn in gi_quiet (exact HQA.out _ _)
                  gi_wp2
                  go_roundw
                  case measure => rw [HP2.out]; exact HM1.out
                  case rel => exact ⟨k + 1, by rw [HP2.out], HK1, ⟨HR2.out.keep (pw_below_drewN (Below.refl _ _) _)⟩⟩
                · rw [h1] at QA
                  rw [h3] at QB
                  have HQA := Aside0.mk QA
                  have HQB := Aside0.mk QB
                  clear QA QB h1 h3
                  gi_wp2
                  open WideFn in gi_quiet (first | (with_reducible exact HQA.out _ _) | (with_reducible exact HQB.out _ _))
                  gi_wp2
                  go_roundw
                  case measure => rw [HP2.out]; exact HM1.out
                  case rel => exact ⟨k + 1, by rw [HP2.out], HK1, ⟨HR2.out.keep (pw_below_drewN (Below.refl _ _) _)⟩⟩
                · rw [h1] at QA
                  rw [h3] at QB
                  have HQA := Aside0.mk QA
                  have HQB := Aside0.mk QB
                  clear QA QB h1 h3
                  gi_wp2
                  open WideFn in gi_quiet (first | (with_reducible exact HQA.out _ _) | (with_reducible exact HQB.out _ _))
                  gi_wp2
                  go_roundw
                  case measure => rw [HP2.out]; exact HM1.out
                  case rel => exact ⟨k + 1, by rw [HP2.out], HK1, ⟨HR2.out.keep (pw_below_drewN (Below.refl _ _) _)⟩⟩
              · clear p1 p2 pw
                have hlt' : decide ((k : Int) < (rr.length : Int)) = false := decide_eq_false (by omega)
                gi_wp2
                gi_meet
                case rel => exact HR2
        case rest =>
          have HR3 := hcut
          clear HR2 hcut
          gi_upto_region 14 with fail
          gi_cut [124] from 17 (fun s124 wd => s124 = .bool false ∧ Aside0 (FR w (.slice A0 a.length c0) (.slice A1 b.length c1) (.int .i64 v) (.slice A3 m.length c3) (.bool false) rr Br Ar cr wd))
          case first =>
            as_aux_lemma =>
              have f0 := (blk_cell HR3.out.fb.b0 0).trans rfl
              have f1 := (blk_cell HR3.out.fb.b1 0).trans rfl
              have f3 := (blk_cell HR3.out.fb.b3 0).trans rfl
              have fr := (blk_cell HR3.out.br 0).trans rfl
              have CA := fun W (h : FR w (.slice A0 a.length c0) (.slice A1 b.length c1) (.int .i64 v) (.slice A3 m.length c3) (.bool false) rr Br Ar cr W) => fholds_calls A3 A0 c3 c0 m a W (Kd.C_below HRM.out h.fb.hB) HCC.out.2.2 (Kd.C_below HRA.out h.fb.hB) HCC.out.1 ((Bool.and_eq_true _ _).mp HSS.out).1 (by have := HNN.out.1; omega)
              have CB := fun W (h : FR w (.slice A0 a.length c0) (.slice A1 b.length c1) (.int .i64 v) (.slice A3 m.length c3) (.bool false) rr Br Ar cr W) => fholds_calls A3 A1 c3 c1 m b W (Kd.C_below HRM.out h.fb.hB) HCC.out.2.2 (Kd.C_below HRB.out h.fb.hB) HCC.out.2.1 ((Bool.and_eq_true _ _).mp HSS.out).2 (by have := HNN.out.2; omega)
              have CR := fun W (h : FR w (.slice A0 a.length c0) (.slice A1 b.length c1) (.int .i64 v) (.slice A3 m.length c3) (.bool false) rr Br Ar cr W) => fholds_calls A3 Ar c3 cr m rr W (Kd.C_below HRM.out h.fb.hB) HCC.out.2.2 (Kd.R_reads' (own_R h.own)).2.2 (Kd.R_reads' (own_R h.own)).2.1 HSR.out (by have := HNR.out; omega)
              cases h1 : a.any (trIn m) with
              | false =>
                rw [h1] at CA
                have HA := Aside0.mk CA
                clear CA CB CR h1
                gi_wp2
                refine ⟨trivial, ?_⟩
                (with_reducible refine (callsIn_wide.2 (HA.out _ HR3.out)).mono ?_)
                rintro e W3 ⟨rfl, hd⟩
                have HR4 := Aside0.mk (HR3.out.keep hd.below)
                clear hd f0 f1 f3 fr HR3
                gi_wp2
                refine ⟨trivial, ?_⟩
                gi_wp2
                refine ⟨trivial, ?_⟩
                gi_wp2
                gi_meet
                case rel => exact ⟨rfl, HR4⟩
              | true =>
                cases h2 : b.any (trIn m) with
                | false =>
                  rw [h1] at CA
                  rw [h2] at CB
                  have HA := Aside0.mk CA
                  have HB := Aside0.mk CB
                  clear CA CB CR h1 h2
                  gi_wp2
                  refine ⟨trivial, ?_⟩
                  (with_reducible refine (callsIn_wide.2 (HA.out _ HR3.out)).mono ?_)
                  rintro e W3 ⟨rfl, hd⟩
                  have HR4 := Aside0.mk (HR3.out.keep hd.below)
                  clear hd f0 f1 f3 fr HR3
                  have f1 := (blk_cell HR4.out.fb.b1 0).trans rfl
                  have f3 := (blk_cell HR4.out.fb.b3 0).trans rfl
                  gi_wp2
                  refine ⟨trivial, ?_⟩
                  (with_reducible refine (callsIn_wide.2 (HB.out _ HR4.out)).mono ?_)
                  rintro e W4 ⟨rfl, hd⟩
                  have HR5 := Aside0.mk (HR4.out.keep hd.below)
                  clear hd f1 f3 HR4
                  gi_wp2
                  refine ⟨trivial, ?_⟩
                  gi_wp2
                  gi_meet
                  case rel => exact ⟨rfl, HR5⟩
                | true =>
                  have h3 := HTR.out h1 h2
                  rw [h1] at CA
                  rw [h2] at CB
                  rw [h3] at CR
                  have HA := Aside0.mk CA
                  have HB := Aside0.mk CB
                  have HC := Aside0.mk CR
                  clear CA CB CR h1 h2 h3
                  gi_wp2
                  refine ⟨trivial, ?_⟩
                  (with_reducible refine (callsIn_wide.2 (HA.out _ HR3.out)).mono ?_)
                  rintro e W3 ⟨rfl, hd⟩
                  have HR4 := Aside0.mk (HR3.out.keep hd.below)
                  clear hd f0 f1 f3 fr HR3
                  have f1 := (blk_cell HR4.out.fb.b1 0).trans rfl
                  have f3 := (blk_cell HR4.out.fb.b3 0).trans rfl
                  gi_wp2
                  refine ⟨trivial, ?_⟩
                  (with_reducible refine (callsIn_wide.2 (HB.out _ HR4.out)).mono ?_)
                  rintro e W4 ⟨rfl, hd⟩
                  have HR5 := Aside0.mk (HR4.out.keep hd.below)
                  clear hd f1 f3 HR4
                  have f3 := (blk_cell HR5.out.fb.b3 0).trans rfl
                  have fr := (blk_cell HR5.out.br 0).trans rfl
                  gi_wp2
                  refine ⟨trivial, ?_⟩
                  (with_reducible refine (callsIn_wide.2 (HC.out _ HR5.out)).mono ?_)
                  rintro e W5 ⟨rfl, hd⟩
                  have HR6 := Aside0.mk (HR5.out.keep hd.below)
                  clear hd f3 fr HR5
                  gi_wp2
                  gi_meet
                  case rel => exact ⟨rfl, HR6⟩
          case rest =>
            clear HR3 HTR HE1
            obtain ⟨rfl, HR3⟩ := hcut
            gi_upto_region 17 with fail
            have hN0 := FN.new (x := .int .i64 0) HR3.out
            obtain ⟨Bn, hBn⟩ : ∃ Bn, Bn = wc.heap.size := ⟨_, rfl⟩
            rw [← hBn] at hN0 ⊢
            generalize wc.alloc (.cells #[.int .i64 0] 3 (0, 0)) = WN at hN0 ⊢
            have HN := Aside0.mk hN0
            clear hN0 hBn HR3
            have hmx : Try.prog.follows .mixedOrders = true := by kernel_rfl
            gi_cut [14] from 17 (fun s14 wd => ∃ Bx By gx cx gy cy base : Nat, s14 = .func (.func 71) #[] #[.pointer (some ⟨By, 0, none⟩), .pointer (some ⟨Bx, 0, none⟩)] ∧ Aside0 (RT a b Bx By gx cx gy cy base (Bn + 1) wd) ∧ Aside0 (FN w (.slice A0 a.length c0) (.slice A1 b.length c1) (.int .i64 v) (.slice A3 m.length c3) (.bool false) rr Br Ar cr Bn (.int .i64 0) wd))
            case first =>
              as_aux_lemma =>
                have F0 := HN.out.drew
                refine wpIn_region_N (S := FN w (.slice A0 a.length c0) (.slice A1 b.length c1) (.int .i64 v) (.slice A3 m.length c3) (.bool false) rr Br Ar cr Bn (.int .i64 0) ) hmx ?_
                refine wpAnyS_take (i := 0) (v := .slice A0 a.length c0) (fun _ => trivial) (by kernel_rfl) rfl (by kernel_rfl) (by kernel_rfl) (by kernel_rfl) (fun _ _ _ h => h) (by rfl) (fun W' hS => by have c := (blk_cell hS.fr.fb.b0 0).trans rfl; go_simp) F0 ?_
                refine wpAnyS_take (i := 2) (v := .slice A1 b.length c1) (fun _ => trivial) (by kernel_rfl) rfl (by kernel_rfl) (by kernel_rfl) (by kernel_rfl) (fun _ _ _ h => h) (by rfl) (fun W' hS => by have c := (blk_cell hS.fr.fb.b1 0).trans rfl; go_simp) F0 ?_
                refine wpAnyS_one (i := 1) (by kernel_rfl) rfl (by rfl) (fun K' hK => ?_)
                go_simp
                refine ⟨trivial, ?_⟩
                (with_reducible refine (callsIn_wide.2 (fcopied_calls A0 c0 a _ (Kd.C_below HRA.out F0.fr.fb.hB) HCC.out.1 HNN.out.1)).mono ?_)
                rintro e V1 ⟨u1, rfl, hu, hb⟩
                obtain ⟨Au1, cu1, rfl⟩ := Kd.R_slice hu
                have C1 := (Kd.R_reads' hu).2
                have F1 := F0.keep hb
                refine hK _ _ F1 ?_
                clear hu hb hK
                refine wpAnyS_one (i := 3) (by kernel_rfl) rfl (by rfl) (fun K' hK => ?_)
                go_simp
                refine ⟨trivial, ?_⟩
                (with_reducible refine (callsIn_wide.2 (fcopied_calls A1 c1 b _ (Kd.C_below HRB.out F1.fr.fb.hB) HCC.out.2.1 HNN.out.2)).mono ?_)
                rintro e V2 ⟨u2, rfl, hu, hb⟩
                obtain ⟨Au2, cu2, rfl⟩ := Kd.R_slice hu
                have C2 := (Kd.R_reads' hu).2
                replace C1 := And.intro C1.1 (Kd.C_below C1.2 hb)
                have F2 := F1.keep hb
                refine hK _ _ F2 ?_
                clear hu hb hK
                refine wpAnyS_one (i := 4) (by kernel_rfl) rfl (by rfl) (fun K' hK => ?_)
                go_simp
                refine ⟨trivial, ?_⟩
                (with_reducible refine (callsIn_wide.2 (resolvents_good Au1 Au2 cu1 cu2 a b V2 C1.2 C2.2 C1.1 C2.1 (by have := HNN.out.1; omega) (by have := HNN.out.2; omega) ((Bool.and_eq_true _ _).mp HSS.out).1 ((Bool.and_eq_true _ _).mp HSS.out).2)).mono ?_)
                rintro e V3 ⟨Bx, By, gx, cx, gy, cy, rfl, hT, hxy, hb⟩
                have F3 := F2.keep hb
                have HRT : Aside0 (RT a b Bx By gx cx gy cy V2.heap.size (Bn + 1) V3) := ⟨⟨hT, F2.zz, hxy.1, hxy.2⟩⟩
                refine hK _ _ F3 ?_
                clear hT hxy hb hK C1 C2
                refine wpAnyS_take (i := 5) (v := .func (.func 71) #[] #[.pointer (some ⟨By, 0, none⟩), .pointer (some ⟨Bx, 0, none⟩)]) (fun _ => trivial) (by kernel_rfl) rfl (by kernel_rfl) (by kernel_rfl) (by kernel_rfl) (fun _ _ _ h => h) (by rfl) (fun W' hS => by go_simp) F3 ?_
                refine wpAnyS_doneN (by kernel_rfl) ?_ _
                gi_wp2
                gi_meet
                case rel => exact ⟨Bx, By, gx, cx, gy, cy, V2.heap.size, rfl, HRT, ⟨F3⟩⟩
            case rest =>
              clear HN
              obtain ⟨Bx, By, gx, cx, gy, cy, base, rfl, HRT, HN⟩ := hcut
              have nf := nil_seq wc Bx By
              gi_upto_region 20 with fail
              gi_wp2
              clear nf
              have hT := HRT.out
              have ownI : OwnD (fun (M : Nat → Prop) (pre : List (Int × Value × List Int)) (W : World) => (∀ k, M k → Bn + 1 ≤ k) ∧ FN w (.slice A0 a.length c0) (.slice A1 b.length c1) (.int .i64 v) (.slice A3 m.length c3) (.bool false) rr Br Ar cr Bn (.int .i64 (cntOf v rr pre : Nat)) W) := fun M M1 pre A B h hg hm => ⟨fun k hk => by rcases hm k hk with h1 | h1; exact h.1 k h1; exact Nat.le_trans h.2.zz h1.1, h.2.grow hg h.1⟩
              have HOI := Aside0.mk ownI
              have hRd : ∀ k, (k = Bx ∨ k = By ∨ k = gx ∨ k = gy) → Bn + 1 ≤ k := fun k hk => by
                have h1 := hT.hx; have h2 := hT.hy; have h3 := hT.hz
                have h4 := own_base hT.two.ox gx rfl
                have h5 := own_base hT.two.oy gy rfl
                rcases hk with rfl | rfl | rfl | rfl <;> omega
              have HRD := Aside0.mk hRd
              refine wpIn_range_own (by decide) (gf := 71) (lb := #[.pointer (some ⟨By, 0, none⟩), .pointer (some ⟨Bx, 0, none⟩)]) rfl rfl trivial (enters_of Try.func71 (by kernel_rfl) rfl) (resolvents_own a b Bx By gx cx gy cy base 11 (by decide) wc hT.two)
                HandI.move hT.two.lt (Below.refl _ _) (fun _ => rfl)
                (fun (M : Nat → Prop) (pre : List (Int × Value × List Int)) (W : World) => (∀ k, M k → Bn + 1 ≤ k) ∧ FN w (.slice A0 a.length c0) (.slice A1 b.length c1) (.int .i64 v) (.slice A3 m.length c3) (.bool false) rr Br Ar cr Bn (.int .i64 (cntOf v rr pre : Nat)) W)
                (fun c (M : Nat → Prop) (pre : List (Int × Value × List Int)) (W : World) => c = .ret ∧ ∃ p ∈ pre, a.any (trIn m) = true ∧ b.any (trIn m) = true ∧ p.2.2.any (trIn m) = false)
                ownI (fun c M M1 pre A B h _ _ => h) ⟨fun _ h => h.elim, HN.out⟩
                (fun p => { tmps := #[.slice A0 a.length c0, .slice A1 b.length c1, .int .i64 v, .slice A3 m.length c3, .pointer (some ⟨w.heap.size, 0, none⟩), .pointer (some ⟨w.heap.size + 1, 0, none⟩), .pointer (some ⟨w.heap.size + 1 + 1, 0, none⟩), .pointer (some ⟨w.heap.size + 1 + 1 + 1, 0, none⟩), .pointer (some ⟨w.heap.size + 1 + 1 + 1 + 1, 0, none⟩), .bool true, .pointer (some ⟨Br, 0, none⟩), .int .i64 0, u12, .pointer (some ⟨Bn, 0, none⟩), .func (.func 71) #[] #[.pointer (some ⟨By, 0, none⟩), .pointer (some ⟨Bx, 0, none⟩)], .int .i64 p.1, p.2.1, u17, u18, u19, u20, u21, u22, u23, u24, u25, u26, u27, u28, u29, u30, u31, u32, u33, u34, u35, u36, u37, u38, u39, u40, u41, u42, u43, u44, u45, u46, u47, u48, u49, u50, u51, u52, u53, u54, u55, u56, u57, u58, u59, u60, u61, u62, u63, u64, u65, u66, u67, u68, u69, u70, u71, u72, u73, u74, u75, u76, u77, u78, u79, u80, u81, u82, u83, u84, u85, u86, u87, u88, u89, u90, u91, u92, u93, u94, u95, u96, u97, u98, u99, u100, u101, u102, u103, u104, u105, u106, u107, u108, u109, u110, u111, u112, u113, u114, u115, u116, u117, u118, u119, u120, u121, u122, u123, u124, u125, u126, u127, u128, u129, .func (.func 71) #[] #[.pointer (some ⟨By, 0, none⟩), .pointer (some ⟨Bx, 0, none⟩)], .bool false, .func (.func 71) #[] #[.pointer (some ⟨By, 0, none⟩), .pointer (some ⟨Bx, 0, none⟩)], .int .i64 p.1, p.2.1, u135, u136, u137, u138, u139, u140, u141, u142, u143, u144, u145, u146, u147, u148, u149, u150, u151, u152, u153, u154, u155, u156, u157, u158, u159, u160], defers := [] }) ?assign ?body ?done ?stop
              case assign =>
                intro l x W K hK
                clear hT ownI hRd
                gi_wp2
                first | exact hK | simpa using hK
              case body =>
                rintro li M M1 pre ⟨x, u, s⟩ A5 W5 hI hg hm hsub hMD hML hsz hHd hlen
                obtain ⟨hM1, hF⟩ := ownI _ _ _ _ _ hI hg hm
                obtain ⟨ho, hnm, hfs, hls⟩ := hHd
                replace ho : OwnInts W5 A5.heap.size u s := ho
                replace hfs : ∀ z ∈ s, formed z = true := hfs
                replace hls : s.length ≤ 2097152 := hls
                obtain ⟨As, cs, rfl⟩ := Kd.R_slice (own_R ho)
                have HC := Aside0.mk (Kd.R_reads' (own_R ho)).2
                have HF := Aside0.mk (And.intro hF (Below.refl W5.heap.size W5))
                have HM1 := Aside0.mk hM1
                have HS : Aside0 (sound s = true ∧ s.length ≤ 2097152) := ⟨List.all_eq_true.2 hfs, hls⟩
                have HL := Aside0.mk hlen
                have HAP : Aside0 (∀ k, k < Bn + 1 → ¬ (M1 k ∨ (k = Bx ∨ k = By ∨ k = gx ∨ k = gy))) := ⟨fun k hk h => by rcases h with h | h; have := hM1 k h; omega; have := hRd k h; omega⟩
                clear hT ownI hRd hI hg hm hsub hMD hML hsz hlen hM1 hF ho hnm hfs hls HN HWV HOI HRT
                dsimp only
                gi_upto_region 23 with fail
                gi_cut [148] from 17 (fun s148 wd => s148 = .bool (a.any (trIn m) && b.any (trIn m) && !(s.any (trIn m))) ∧ Aside0 (FN w (.slice A0 a.length c0) (.slice A1 b.length c1) (.int .i64 v) (.slice A3 m.length c3) (.bool false) rr Br Ar cr Bn (.int .i64 (cntOf v rr pre : Nat)) wd ∧ Below W5.heap.size W5 wd))
                case first =>
                  as_aux_lemma =>
                    have CA := fun W (h : FN w (.slice A0 a.length c0) (.slice A1 b.length c1) (.int .i64 v) (.slice A3 m.length c3) (.bool false) rr Br Ar cr Bn (.int .i64 (cntOf v rr pre : Nat)) W ∧ Below W5.heap.size W5 W) => fholds_calls A3 A0 c3 c0 m a W (Kd.C_below HRM.out h.1.fr.fb.hB) HCC.out.2.2 (Kd.C_below HRA.out h.1.fr.fb.hB) HCC.out.1 ((Bool.and_eq_true _ _).mp HSS.out).1 (by have := HNN.out.1; omega)
                    have CB := fun W (h : FN w (.slice A0 a.length c0) (.slice A1 b.length c1) (.int .i64 v) (.slice A3 m.length c3) (.bool false) rr Br Ar cr Bn (.int .i64 (cntOf v rr pre : Nat)) W ∧ Below W5.heap.size W5 W) => fholds_calls A3 A1 c3 c1 m b W (Kd.C_below HRM.out h.1.fr.fb.hB) HCC.out.2.2 (Kd.C_below HRB.out h.1.fr.fb.hB) HCC.out.2.1 ((Bool.and_eq_true _ _).mp HSS.out).2 (by have := HNN.out.2; omega)
                    have CR := fun W (h : FN w (.slice A0 a.length c0) (.slice A1 b.length c1) (.int .i64 v) (.slice A3 m.length c3) (.bool false) rr Br Ar cr Bn (.int .i64 (cntOf v rr pre : Nat)) W ∧ Below W5.heap.size W5 W) => fholds_calls A3 As c3 cs m s W (Kd.C_below HRM.out h.1.fr.fb.hB) HCC.out.2.2 (Kd.C_below HC.out.2 h.2) HC.out.1 HS.out.1 (by have := HS.out.2; omega)
                    have HA := Aside0.mk CA
                    have HB := Aside0.mk CB
                    have HD := Aside0.mk CR
                    clear CA CB CR
                    obtain ⟨x1, hx1⟩ : ∃ x1, a.any (trIn m) = x1 := ⟨_, rfl⟩
                    obtain ⟨x2, hx2⟩ : ∃ x2, b.any (trIn m) = x2 := ⟨_, rfl⟩
                    obtain ⟨x3, hx3⟩ : ∃ x3, s.any (trIn m) = x3 := ⟨_, rfl⟩
                    rw [hx1] at HA
                    rw [hx2] at HB
                    rw [hx3] at HD
                    have HX := Aside0.mk (And.intro hx1 (And.intro hx2 hx3))
                    clear hx1 hx2 hx3
                    have f0 := (blk_cell HF.out.1.fr.fb.b0 0).trans rfl
                    have f3 := (blk_cell HF.out.1.fr.fb.b3 0).trans rfl
                    cases x1 with
                    | false =>
                      gi_wp2
                      refine ⟨trivial, ?_⟩
                      (with_reducible refine (CallsIn.inRound li (callsIn_wide.2 (HA.out _ HF.out))).mono ?_)
                      rintro e W6 ⟨rfl, hd⟩
                      have HG := Aside0.mk (And.intro (HF.out.1.keep hd.below) (below_step HF.out.2 hd.below))
                      clear hd HF
                      clear f0 f3
                      gi_wp2
                      refine ⟨trivial, ?_⟩
                      gi_wp2
                      refine ⟨trivial, ?_⟩
                      gi_wp2
                      gi_meet
                      case rel => exact ⟨by rw [HX.out.1]; rfl, HG⟩
                    | true =>
                      gi_wp2
                      refine ⟨trivial, ?_⟩
                      (with_reducible refine (CallsIn.inRound li (callsIn_wide.2 (HA.out _ HF.out))).mono ?_)
                      rintro e W6 ⟨rfl, hd⟩
                      have HG := Aside0.mk (And.intro (HF.out.1.keep hd.below) (below_step HF.out.2 hd.below))
                      clear hd HF
                      clear f0 f3
                      have f1 := (blk_cell HG.out.1.fr.fb.b1 0).trans rfl
                      have f3 := (blk_cell HG.out.1.fr.fb.b3 0).trans rfl
                      cases x2 with
                      | false =>
                        gi_wp2
                        refine ⟨trivial, ?_⟩
                        (with_reducible refine (CallsIn.inRound li (callsIn_wide.2 (HB.out _ HG.out))).mono ?_)
                        rintro e W6 ⟨rfl, hd⟩
                        have HI := Aside0.mk (And.intro (HG.out.1.keep hd.below) (below_step HG.out.2 hd.below))
                        clear hd HG
                        clear f1 f3
                        gi_wp2
                        refine ⟨trivial, ?_⟩
                        gi_wp2
                        gi_meet
                        case rel => exact ⟨by rw [HX.out.1, HX.out.2.1]; rfl, HI⟩
                      | true =>
                        gi_wp2
                        refine ⟨trivial, ?_⟩
                        (with_reducible refine (CallsIn.inRound li (callsIn_wide.2 (HB.out _ HG.out))).mono ?_)
                        rintro e W6 ⟨rfl, hd⟩
                        have HI := Aside0.mk (And.intro (HG.out.1.keep hd.below) (below_step HG.out.2 hd.below))
                        clear hd HG
                        clear f1 f3
                        have f3 := (blk_cell HI.out.1.fr.fb.b3 0).trans rfl
                        gi_wp2
                        refine ⟨trivial, ?_⟩
                        (with_reducible refine (CallsIn.inRound li (callsIn_wide.2 (HD.out _ HI.out))).mono ?_)
                        rintro e W6 ⟨rfl, hd⟩
                        have HJ := Aside0.mk (And.intro (HI.out.1.keep hd.below) (below_step HI.out.2 hd.below))
                        clear hd HI
                        clear f3
                        gi_wp2
                        gi_meet
                        case rel => exact ⟨by rw [HX.out.1, HX.out.2.1, HX.out.2.2]; cases x3 <;> rfl, HJ⟩
                case rest =>
                  clear HF
                  obtain ⟨rfl, HF⟩ := hcut
                  cases hb : (a.any (trIn m) && b.any (trIn m) && !(s.any (trIn m))) with
                  | true =>
                    have q4 := (blk_cell HF.out.1.fr.fb.b4 0).trans rfl
                    have y4 := blk_frozen HF.out.1.fr.fb.b4 0
                    have HBB := Aside0.mk hb
                    clear hb
                    gi_wp2
                    refine ⟨(KeptD.of_below HF.out.2).trans (KeptD.setCell (p := ⟨w.heap.size + 1 + 1 + 1 + 1, 0, none⟩) (HAP.out _ (by have := HF.out.1.n5; show w.heap.size + 1 + 1 + 1 + 1 < Bn + 1; omega)) _), rfl, (x, .slice As s.length cs, s), by simp, ?_⟩
                    have := HBB.out
                    simp only [Bool.and_eq_true, Bool.not_eq_true'] at this
                    exact ⟨this.1.1, this.1.2, this.2⟩
                  | false =>
                    clear hb
                    have CS := fun W (h : FN w (.slice A0 a.length c0) (.slice A1 b.length c1) (.int .i64 v) (.slice A3 m.length c3) (.bool false) rr Br Ar cr Bn (.int .i64 (cntOf v rr pre : Nat)) W ∧ Below W5.heap.size W5 W) => fsame_calls As Ar cs cr s rr W (Kd.C_below HC.out.2 h.2) HC.out.1 (Kd.R_reads' (own_R h.1.fr.own)).2.2 (Kd.R_reads' (own_R h.1.fr.own)).2.1 (by have := HS.out.2; omega)
                    have f2 := (blk_cell HF.out.1.fr.fb.b2 0).trans rfl
                    have fr := (blk_cell HF.out.1.fr.br 0).trans rfl
                    by_cases hx : x = v
                    · have HX := Aside0.mk hx
                      have px : (x == v) = true := beq_iff_eq.2 hx
                      clear hx
                      cases hs : (s == rr) with
                      | true =>
                        rw [hs] at CS
                        have HCS := Aside0.mk CS
                        have HSQ := Aside0.mk hs
                        clear CS hs
                        gi_wp2
                        refine ⟨trivial, ?_⟩
                        (with_reducible refine (CallsIn.inRound li (callsIn_wide.2 (HCS.out _ HF.out))).mono ?_)
                        rintro e W6 ⟨rfl, hd⟩
                        have HG := Aside0.mk (And.intro (HF.out.1.keep hd.below) (below_step HF.out.2 hd.below))
                        clear hd HF
                        clear f2 fr
                        have fn := (blk_cell HG.out.1.bn 0).trans rfl
                        have yn := blk_frozen HG.out.1.bn 0
                        gi_wp2
                        have hw : wrap64 (((cntOf v rr pre : Nat) : Int) + 1) = ((cntOf v rr (pre ++ [(x, .slice As s.length cs, s)]) : Nat) : Int) := by
                          have h1 := cntOf_le v rr pre
                          have h2 := HL.out
                          rw [w64 (by omega) (by omega), cntOf_yes HX.out (beq_iff_eq.1 HSQ.out)]
                          omega
                        rw [hw]
                        exact ⟨(KeptD.of_below HG.out.2).trans (KeptD.setCell (p := ⟨Bn, 0, none⟩) (HAP.out _ (Nat.lt_succ_self _)) _), HM1.out, HG.out.1.put _⟩
                      | false =>
                        rw [hs] at CS
                        have HCS := Aside0.mk CS
                        have HSQ := Aside0.mk hs
                        clear CS hs
                        gi_wp2
                        refine ⟨trivial, ?_⟩
                        (with_reducible refine (CallsIn.inRound li (callsIn_wide.2 (HCS.out _ HF.out))).mono ?_)
                        rintro e W6 ⟨rfl, hd⟩
                        have HG := Aside0.mk (And.intro (HF.out.1.keep hd.below) (below_step HF.out.2 hd.below))
                        clear hd HF
                        clear f2 fr
                        gi_wp2
                        have hc : cntOf v rr (pre ++ [(x, .slice As s.length cs, s)]) = cntOf v rr pre := cntOf_no (by rw [HSQ.out, Bool.and_false])
                        exact ⟨KeptD.of_below HG.out.2, HM1.out, by rw [hc]; exact HG.out.1⟩
                    · have px : (x == v) = false := beq_eq_false_iff_ne.2 hx
                      have HX := Aside0.mk px
                      clear hx CS
                      gi_wp2
                      refine ⟨trivial, ?_⟩
                      gi_wp2
                      have hc : cntOf v rr (pre ++ [(x, .slice As s.length cs, s)]) = cntOf v rr pre := cntOf_no (by rw [HX.out, Bool.false_and])
                      exact ⟨KeptD.of_below HF.out.2, HM1.out, by rw [hc]; exact HF.out.1⟩
              case done =>
                rintro M xs W hMb hS ⟨hM1, hF⟩ hK
                have hpos : 0 < cntOf v rr xs := cntOf_pos (by rw [hS]; exact HWV.out)
                have hD := hM1 _ hMb
                generalize cntOf v rr xs = N at hpos hF
                have p0 : decide (((N : Nat) : Int) > 0) = true := decide_eq_true (by omega)
                have p1 : (((N : Nat) : Int) > 0) = True := eq_true (by omega)
                have p2 : (0 < ((N : Nat) : Int)) = True := eq_true (by omega)
                have p3 : (0 < N) = True := eq_true hpos
                have f0 := (blk_cell hF.bn 0).trans rfl
                have q4 := (blk_cell hF.fr.fb.b4 0).trans rfl
                have y4 := blk_frozen hF.fr.fb.b4 0
                have HF := Aside0.mk hF
                have HK := Aside0.mk hK
                have HD := Aside0.mk hD
                clear hT ownI hRd hF hM1 hMb hS hpos hK hD
                gi_wp2
                have E2 := HF.out.fr.fb.set (.bool true)
                have hK2 := (KeepsOthers.setCell W ⟨w.heap.size + 1 + 1 + 1 + 1, 0, none⟩ (.bool true)).same wc.heap.size _ HK.out rfl
                generalize (W.setCell ⟨w.heap.size + 1 + 1 + 1 + 1, 0, none⟩ (.bool true)) = WF at E2 hK2 ⊢
                refine ⟨by simp, .inl ⟨_, _, rfl, run_takeDeferred hK2, ?_⟩⟩
                have E3 := E2.grow (M := fun k => k = wc.heap.size) (Grow.put (.deferred none) rfl) (fun k e => by have := HD.out; have := HF.out.n5; omega)
                have r0 := (blk_cell E3.b4 0).trans rfl
                exact ⟨.bool true, by simp [results, Try.results13, go_sem, r0], rfl, E3.hB⟩
              case stop =>
                rintro M c pre W hMb hSp ⟨rfl, p, hp, h1, h2, h3⟩ hK
                have hm : (p.1, p.2.2) ∈ weave (tidyOf a) (tidyOf b) := hSp.subset (List.mem_map.2 ⟨p, hp, rfl⟩)
                have := weave_tr ((Bool.and_eq_true _ _).mp HSS.out).1 ((Bool.and_eq_true _ _).mp HSS.out).2 h1 h2 hm
                rw [h3] at this
                cases this
end Go.Proofs.YtamefocngapkpaaHand
