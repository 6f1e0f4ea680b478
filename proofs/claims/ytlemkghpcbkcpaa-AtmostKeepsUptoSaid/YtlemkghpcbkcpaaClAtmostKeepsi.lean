/- What atmost.clauses answers: the walk. -/
import Derived.Test.YtlemkghpcbkcpaaClAtmostKeepsh
import Derived.BigFrame
import Derived.Deep.DeepCutAuto
import Derived.Deep.RegionWith
import Derived.BigRegion
import Derived.Deep.QuietTactic
import Derived.BigQuiet
/-! text YtlemkghpcbkcpaaAtmostWalk -/
namespace Go.Proofs.YtlemkghpcbkcpaaHand
open Go.RowKit Go.Proofs.YtlemkghpcbkcpaaW.PrintWords Go.Proofs.YtlemkghpcbkcpaaW.PrintLast Go.Proofs.YtlemkghpcbkcpaaMath Go.Proofs.YtlemkghpcbkcpaaMaps Go.Maps
set_option linter.unusedVariables false
set_option linter.unusedSimpArgs false

theorem round_facts {n k : Nat} {x : Int} (hxk : x = k) (hlt : k < n) (hn : n ≤ 17592186044416) : wrap64 (x + 1) = ((k + 1 : Nat) : Int) ∧ n - (intOf (.int .i64 (wrap64 (x + 1)))).toNat < n - (intOf (.int .i64 x)).toNat := by
  have e : wrap64 (x + 1) = ((k + 1 : Nat) : Int) := by rw [w64 (by omega) (by omega)]; omega
  refine ⟨e, ?_⟩
  rw [e, hxk]
  simp [intOf]
  omega

set_option maxHeartbeats 4000000 in
set_option maxRecDepth 100000 in
theorem clauses_zero (A0 : Option Addr) (c0 : Nat) (l0 : List Int) (s : Value) (first : Int) (w : World) (hr0 : Kd.C (Kd.int .i64) w A0 l0.length l0) (hs : sound l0 = true) (hn : l0.length ≤ 1048576) :
    Calls Try.prog 37 #[.slice A0 l0.length c0, .int .i64 0, s] w fun e w' => ∃ v : Value, e = .returned v ∧ Kd.S (Kd.slice 3 (Kd.int .i64)) 33 w' w.heap.size (fun _ => True) v (clausesOf l0 0 first) ∧ Below w.heap.size w w' := by
  have HR0 := Aside0.mk hr0
  have HN := Aside0.mk hn
  have HS := Aside0.mk hs
  clear hr0 hn hs
  go_enter Try.func37, Try.ntmps37
  go_wp2
  go_loopw [23] (fun v23 wr => ∃ (k : Nat) (x : Int), v23 = .int .i64 x ∧ Aside0 (x = k ∧ k ≤ l0.length) ∧ Aside0 (CW w w.heap.size wr ((l0.take k).map fun x => [-x]))) (fun i _ => l0.length - (intOf i).toNat)
  case atStart => exact ⟨0, 0, rfl, ⟨rfl, Nat.zero_le _⟩, ⟨CW.start w⟩⟩
  case round =>
    obtain ⟨k, x, rfl, HX, HC⟩ := hrel
    obtain ⟨hxk, hk⟩ := HX.out
    by_cases hlt : k < l0.length
    · have p1 : 0 ≤ x := by omega
      have q1 : x < (l0.length : Int) := by omega
      obtain ⟨ad, e1, hcell⟩ := Kd.at_int (Kd.C_below HR0.out HC.out.hB) x p1 q1
      subst e1
      have p2 := eq_true p1
      have q2 := eq_true q1
      have q3 : decide (x < (l0.length : Int)) = true := decide_eq_true q1
      have rf := round_facts hxk hlt (by have := HN.out; omega)
      have RF := Aside0.mk rf
      have HE : Aside0 ((l0.take (k + 1)).map (fun x => [-x]) = (l0.take k).map (fun x => [-x]) ++ [[wrap64 (-(rd l0 x))]]) := by
        have hb := formed_bd (sound_mem HS.out (rd_mem hlt))
        rw [take_rd hlt, List.map_append, hxk, w64 (by omega) (by omega)]
        exact ⟨rfl⟩
      have HLE : Aside0 (((l0.take k).map fun x => [-x]).length < 5864062014805) := by
        rw [List.length_map, List.length_take]
        have := HN.out
        exact ⟨by omega⟩
      have HK1 : Aside0 (k + 1 ≤ l0.length) := ⟨by omega⟩
      clear hxk hk hlt p1 q1 HX rf
      go_wp2_with (go_at_call 47; (with_reducible refine (put1 w _ _ _ _ HC.out HLE.out).mono ?_); rintro e w1 ⟨rfl, hc⟩; have HC1 := Aside0.mk hc; clear hc)
      go_roundw
      case measure => exact RF.out.2
      case rel => exact ⟨k + 1, _, rfl, ⟨RF.out.1, HK1.out⟩, ⟨by rw [HE.out]; exact HC1.out⟩⟩
    · obtain rfl : k = l0.length := by omega
      have q3 : decide (x < (l0.length : Int)) = false := decide_eq_false (by omega)
      have hc := HC.out
      rw [List.take_length] at hc
      obtain ⟨v, hb, hS⟩ := hc.c
      have c1 := cell_of_one hb
      have HSS := Aside0.mk hS
      have HBB := Aside0.mk hc.hB
      clear hxk hk hlt HX HC hc hb hS
      go_wp2
      go_ret
      exact ⟨_, rfl, HSS.out, HBB.out⟩

theorem rd_neg {l : List Int} (hs : sound l = true) {i : Int} (h0 : 0 ≤ i) (h1 : i < l.length) : wrap64 (-(rd l i)) = -(rd l i) := by
  obtain ⟨k, rfl⟩ := Int.eq_ofNat_of_zero_le h0
  have hb := formed_bd (sound_mem hs (rd_mem (show k < l.length by omega)))
  exact w64 (by omega) (by omega)

theorem add_zero' (ad : Addr) : ad.add 0 = ad := by unfold Addr.add; split <;> simp_all
theorem wrapI (x : Int) (h1 : -9223372036854775808 ≤ x) (h2 : x ≤ 9223372036854775807) : IntKind.i64.wrap x = x := IntWalk.i64_in _ ⟨h1, h2⟩
structure Good (n k : Nat) (kI first : Int) : Prop where
  k0 : 0 < k
  kn : k < n
  n1 : n ≤ 1048576
  f1 : 1 ≤ first
  hh : first + ((n : Int) - 1) * k ≤ 1048577
  kI : kI = k
theorem Good.f2 {n k : Nat} {kI first : Int} (g : Good n k kI first) : first ≤ 1048577 := by
  have h1 := g.hh
  have h2 := g.kn
  have h3 := g.k0
  have : 0 ≤ ((n : Int) - 1) * k := Int.mul_nonneg (by omega) (by omega)
  omega
theorem Good.sv {n k : Nat} {kI first : Int} (g : Good n k kI first) {i j : Int} (hi : 1 ≤ i ∧ i ≤ (n : Int) - 1) (hj : 1 ≤ j ∧ j ≤ k) : svw kI first i j = sv k first i j ∧ wrap64 (-(svw kI first i j)) = -(sv k first i j) := by
  have f2 := g.f2
  have e := svw_eq (k := kI) (first := first) (i := i) (j := j) (by have := g.kI; have := g.kn; have := g.n1; omega) (by have := g.f1; omega) (by have := g.n1; omega) (by have := g.kn; have := g.n1; omega)
  rw [e, g.kI]
  have b := sv_bd (k := k) (first := first) (i := i) (j := j) (n := n) (by have := g.k0; have := g.kn; have := g.n1; omega) g.f1 g.hh hi hj
  exact ⟨rfl, w64 (by omega) (by omega)⟩
def PT1 (l : List Int) (k : Nat) (first : Int) (j : Nat) : List (List Int) := [[-(rd l 0), sv k first 1 1]] ++ (List.range j).map (fun j : Nat => [-(sv k first 1 ((j : Int) + 2))])
def PT2 (l : List Int) (k : Nat) (first : Int) (m : Nat) : List (List Int) := PT1 l k first (k - 1) ++ (List.range m).flatMap (midAt l k first)
theorem PT1_step (l : List Int) (k : Nat) (first : Int) (j : Nat) : PT1 l k first (j + 1) = PT1 l k first j ++ [[-(sv k first 1 ((j : Int) + 2))]] := by
  unfold PT1
  rw [List.range_succ, List.map_append, List.append_assoc]
  rfl
theorem PT2_step (l : List Int) (k : Nat) (first : Int) (m : Nat) : PT2 l k first (m + 1) = PT2 l k first m ++ midAt l k first m := by
  unfold PT2
  rw [List.range_succ, List.flatMap_append, List.append_assoc]
  simp
theorem PT1_length (l : List Int) (k : Nat) (first : Int) (j : Nat) : (PT1 l k first j).length = j + 1 := by
  simp [PT1]
theorem PT2_length (l : List Int) (k : Nat) (hk : 0 < k) (first : Int) (m : Nat) : (PT2 l k first m).length = k + m * (2 * k + 1) := by
  unfold PT2
  rw [List.length_append, PT1_length, List.length_flatMap, sum_const_range _ (midAt_length l k hk first)]
  omega
theorem PT2_small {n k : Nat} {kI first : Int} (g : Good n k kI first) (l : List Int) {m : Nat} (hm : m ≤ n) : (PT2 l k first m).length + 2 * k + 10 < 5864062014805 := by
  rw [PT2_length l k g.k0]
  have h1 := g.n1
  have h2 := g.kn
  have : m * (2 * k + 1) ≤ 1048576 * 2097153 := Nat.mul_le_mul (by omega) (by omega)
  omega
def inner (l : List Int) (k : Nat) (first : Int) (m h : Nat) : List (List Int) := (List.range h).flatMap fun h : Nat => [[-(rd l ((m : Int) + 1)), -(sv k first ((m : Int) + 1) ((h : Int) + 1)), sv k first ((m : Int) + 2) ((h : Int) + 2)], [-(sv k first ((m : Int) + 1) ((h : Int) + 2)), sv k first ((m : Int) + 2) ((h : Int) + 2)]]
theorem inner_step (l : List Int) (k : Nat) (first : Int) (m h : Nat) : inner l k first m (h + 1) = inner l k first m h ++ [[-(rd l ((m : Int) + 1)), -(sv k first ((m : Int) + 1) ((h : Int) + 1)), sv k first ((m : Int) + 2) ((h : Int) + 2)], [-(sv k first ((m : Int) + 1) ((h : Int) + 2)), sv k first ((m : Int) + 2) ((h : Int) + 2)]] := by
  unfold inner
  rw [List.range_succ, List.flatMap_append]
  simp
theorem inner_length (l : List Int) (k : Nat) (first : Int) (m h : Nat) : (inner l k first m h).length = 2 * h := by
  unfold inner
  rw [List.length_flatMap]
  exact (sum_const_range (c := 2) _ (fun _ => rfl)).trans (Nat.mul_comm _ _)
theorem round_facts' {n k : Nat} {x N : Int} (hN : N = n) (hxk : x = k) (hlt : k < n) (hn : n ≤ 17592186044416) : wrap64 (x + 1) = ((k + 1 : Nat) : Int) ∧ N.toNat - (intOf (.int .i64 (wrap64 (x + 1)))).toNat < N.toNat - (intOf (.int .i64 x)).toNat := by
  subst hN
  have := round_facts hxk hlt hn
  rwa [Int.toNat_natCast]

set_option maxHeartbeats 16000000 in
set_option maxRecDepth 100000 in
theorem clauses_pos (A0 : Option Addr) (c0 : Nat) (l0 : List Int) (k : Nat) (kI first : Int) (Bf Bk : Nat) (w : World) (hr0 : Kd.C (Kd.int .i64) w A0 l0.length l0) (hs : sound l0 = true) (hg : Good l0.length k kI first)
    (cf : w.cell? ⟨Bf, 0, none⟩ = some (.int .i64 first)) (ck : w.cell? ⟨Bk, 0, none⟩ = some (.int .i64 kI)) (lf : Bf < w.heap.size) (lk : Bk < w.heap.size) :
    Calls Try.prog 37 #[.slice A0 l0.length c0, .int .i64 kI, .func (.func 36) #[] #[.pointer (some ⟨Bf, 0, none⟩), .pointer (some ⟨Bk, 0, none⟩)]] w fun e w' => ∃ v : Value, e = .returned v ∧ Kd.S (Kd.slice 3 (Kd.int .i64)) 33 w' w.heap.size (fun _ => True) v (clausesOf l0 k first) ∧ Below w.heap.size w w' := by
  have HR0 := Aside0.mk hr0
  have HG := Aside0.mk hg
  have HS := Aside0.mk hs
  have SC : ∀ (W : World) (i j : Int), Below w.heap.size w W → Calls Try.prog 36 #[.int .i64 i, .int .i64 j, .pointer (some ⟨Bf, 0, none⟩), .pointer (some ⟨Bk, 0, none⟩)] W fun e w' => e = .returned (.int .i64 (svw kI first i j)) ∧ w' = W := fun W i j hB =>
    s_calls Bf Bk kI first i j W ((hB.cell (p := ⟨Bf, 0, none⟩) lf).trans cf) ((hB.cell (p := ⟨Bk, 0, none⟩) lk).trans ck)
  have HSC := Aside0.mk SC
  obtain ⟨g0, g1, g2, g3, g4, g5⟩ := hg
  have k0 : (kI == 0) = false := beq_eq_false_iff_ne.mpr (by omega)
  obtain ⟨ad, e1, hcell⟩ := Kd.at_int (HR0.out) 0 (by omega) (by omega)
  subst e1
  have hcell0 : (w.alloc (.cells #[.slice none 0 0] 34)).cell? ad = some (.int .i64 (rd l0 0)) := by
    have := Kd.at_int (Kd.C_below HR0.out (CW.start w).hB) 0 (by omega) (by omega)
    obtain ⟨ad', e, h⟩ := this
    cases e
    rwa [show ad.add (0 : Int).toNat = ad from add_zero' ad] at h
  have q0 : (0 < l0.length) = True := eq_true (by omega)
  obtain ⟨K1, hK1⟩ : ∃ K1, wrap64 (kI - 1) = K1 := ⟨_, rfl⟩
  obtain ⟨N1, hN1⟩ : ∃ N1, wrap64 ((l0.length : Int) - 1) = N1 := ⟨_, rfl⟩
  obtain ⟨N2, hN2⟩ : ∃ N2, wrap64 ((l0.length : Int) - 2) = N2 := ⟨_, rfl⟩
  have HK : Aside0 (K1 = ((k - 1 : Nat) : Int) ∧ N1 = ((l0.length - 1 : Nat) : Int) ∧ N2 = ((l0.length - 2 : Nat) : Int)) := by
    refine ⟨?_, ?_, ?_⟩
    · rw [← hK1, w64 (by omega) (by omega)]; omega
    · rw [← hN1, w64 (by omega) (by omega)]; omega
    · rw [← hN2, w64 (by omega) (by omega)]; omega
  clear SC hs hr0 g0 g1 g2 g3 g4 g5 cf ck lf lk hcell
  go_enter Try.func37, Try.ntmps37
  go_upto_region 11 with fail
  go_cut [44] (fun _ wx => CW w w.heap.size wx (PT1 l0 k first 0))
  case first =>
    have C0 := CW.start w
    obtain ⟨W0, hW0⟩ : ∃ W0, W0 = w.alloc (.cells #[.slice none 0 0] 34) := ⟨_, rfl⟩
    rw [← hW0] at C0 hcell0 ⊢
    have HC := Aside0.mk C0
    clear C0 hW0
    have HE : Aside0 (([] : List (List Int)) ++ [[IntKind.i64.wrap (-(rd l0 0)), svw kI first 1 1]] = PT1 l0 k first 0) := by
      have g := HG.out
      have g0 := g.k0
      have g1 := g.kn
      have hb := formed_bd (sound_mem HS.out (rd_mem (show 0 < l0.length by omega)))
      rw [Int.ofNat_zero] at hb
      rw [wrapI _ (by omega) (by omega), (g.sv (i := 1) (j := 1) (by omega) (by omega)).1]
      exact ⟨rfl⟩
    go_region_with (first
      | (go_at_call 36; (with_reducible refine (HSC.out _ _ _ (by first | exact HC.out.hB | exact HC.out.drew.hB)).mono ?_); rintro e w' ⟨rfl, rfl⟩)
      | (go_at_call 47; (with_reducible refine (put2d w _ _ [] _ _ HC.out (by simp)).mono ?_); rintro e w1 ⟨rfl, hc⟩; have HC1 := Aside0.mk hc; clear hc))
    all_goals (go_wp2_with fail; go_meet; rw [← HE.out]; exact HC1.out)
  case rest =>
    have HC := Aside0.mk hcut
    clear hcut hcell0
    go_wp2
    rw [hK1]
    go_loopw [47] (fun v47 wr => ∃ (j : Nat) (x : Int), v47 = .int .i64 x ∧ Aside0 (x = j ∧ j ≤ k - 1) ∧ Aside0 (CW w w.heap.size wr (PT1 l0 k first j))) (fun i _ => K1.toNat - (intOf i).toNat)
    case atStart => exact ⟨0, 0, rfl, ⟨rfl, Nat.zero_le _⟩, ⟨HC.out⟩⟩
    case round =>
      clear HC
      obtain ⟨j, x, rfl, HX, HC⟩ := hrel
      obtain ⟨hxj, hj⟩ := HX.out
      have g := HG.out
      have g0 := g.k0
      have g1 := g.kn
      have g2 := g.n1
      have hK := HK.out
      by_cases hlt : j < k - 1
      · have q3 : decide (x < K1) = true := decide_eq_true (by omega)
        have RF := Aside0.mk (round_facts' hK.1 hxj hlt (by omega))
        obtain ⟨x2, hx2⟩ : ∃ x2, wrap64 (x + 2) = x2 := ⟨_, rfl⟩
        have hx2' : x2 = (j : Int) + 2 := by rw [← hx2, w64 (by omega) (by omega)]; omega
        have HE : Aside0 (PT1 l0 k first (j + 1) = PT1 l0 k first j ++ [[wrap64 (-(svw kI first 1 x2))]]) := by
          rw [PT1_step, (g.sv (i := 1) (j := x2) (by omega) (by omega)).2, hx2']
          exact ⟨rfl⟩
        have HL : Aside0 ((PT1 l0 k first j).length < 5864062014805) := ⟨by rw [PT1_length]; omega⟩
        have HJ : Aside0 (j + 1 ≤ k - 1) := ⟨by omega⟩
        clear hxj hj g g0 g1 g2 hK hlt hx2' HX
        go_wp2_with (first
          | (go_at_call 36; (with_reducible refine (HSC.out _ _ _ HC.out.hB).mono ?_); rintro e w' ⟨rfl, rfl⟩)
          | (go_at_call 47; (with_reducible refine (put1 w _ _ _ _ HC.out HL.out).mono ?_); rintro e w1 ⟨rfl, hc⟩; have HC1 := Aside0.mk hc; clear hc))
        go_roundw
        case measure => exact RF.out.2
        case rel =>
          exact ⟨j + 1, _, rfl, ⟨RF.out.1, HJ.out⟩, ⟨by rw [HE.out]; exact HC1.out⟩⟩
      · obtain rfl : j = k - 1 := by omega
        have q3 : decide (x < K1) = false := decide_eq_false (by omega)
        have HC2 : Aside0 (CW w w.heap.size wr (PT2 l0 k first 0)) := by
          unfold PT2
          rw [show (List.range 0).flatMap (midAt l0 k first) = [] from rfl, List.append_nil]
          exact ⟨HC.out⟩
        clear hxj hj g g0 g1 g2 hK hlt HX HC
        go_wp2
        rw [hN2]
        go_loopw [61] (fun v61 wr => ∃ (m : Nat) (x : Int), v61 = .int .i64 x ∧ Aside0 (x = m ∧ m ≤ l0.length - 2) ∧ Aside0 (CW w w.heap.size wr (PT2 l0 k first m))) (fun i _ => N2.toNat - (intOf i).toNat)
        case atStart => exact ⟨0, 0, rfl, ⟨rfl, Nat.zero_le _⟩, ⟨HC2.out⟩⟩
        case round =>
          clear HC2 q3
          obtain ⟨m, x, rfl, HX, HC⟩ := hrel
          obtain ⟨hxm, hm⟩ := HX.out
          have g := HG.out
          have g0 := g.k0
          have g1 := g.kn
          have g2 := g.n1
          have hK := HK.out
          by_cases hlt : m < l0.length - 2
          · have q3 : decide (x < N2) = true := decide_eq_true (by omega)
            have rf := round_facts' hK.2.2 hxm hlt (by omega)
            obtain ⟨x1, hx1⟩ : ∃ x1, IntKind.i64.wrap (x + 1) = x1 := ⟨_, rfl⟩
            rw [← IntWalk.i64_left, hx1] at rf
            have RF := Aside0.mk rf
            clear rf
            obtain ⟨x2, hx2⟩ : ∃ x2, IntKind.i64.wrap (x + 2) = x2 := ⟨_, rfl⟩
            have e1 : x1 = (m : Int) + 1 := by rw [← hx1, wrapI _ (by omega) (by omega)]; omega
            have e2 : x2 = (m : Int) + 2 := by rw [← hx2, wrapI _ (by omega) (by omega)]; omega
            obtain ⟨i1, hi1⟩ : ∃ i1, wrap64 (x2 - 1) = i1 := ⟨_, rfl⟩
            have e3 : i1 = (m : Int) + 1 := by rw [← hi1, w64 (by omega) (by omega)]; omega
            have p1 : 0 ≤ x1 := by omega
            have q1 : x1 < (l0.length : Int) := by omega
            obtain ⟨ad', ea, hcell⟩ := Kd.at_int (Kd.C_below HR0.out HC.out.hB) x1 p1 q1
            cases ea
            have p2 := eq_true p1
            have q2 := eq_true q1
            have hb := formed_bd (sound_mem HS.out (rd_mem (show m + 1 < l0.length by omega)))
            rw [show ((m + 1 : Nat) : Int) = x1 by omega] at hb
            obtain ⟨y, hy⟩ : ∃ y, IntKind.i64.wrap (-(rd l0 x1)) = y := ⟨_, rfl⟩
            have ey : y = -(rd l0 ((m : Int) + 1)) := by rw [← hy, wrapI _ (by omega) (by omega), e1]
            have HY := Aside0.mk ey
            have HI : Aside0 (x2 = (m : Int) + 2 ∧ i1 = (m : Int) + 1 ∧ m < l0.length - 2) := ⟨⟨e2, e3, hlt⟩⟩
            have HSM : Aside0 ((PT2 l0 k first m).length + 2 * k + 10 < 5864062014805) := ⟨PT2_small g l0 (by omega)⟩
            clear hxm hm g g0 g1 g2 hK hlt HX e1 e2 e3 p1 q1 hb ey
            obtain ⟨xs, hxs⟩ : ∃ xs, xs = PT2 l0 k first m := ⟨_, rfl⟩
            rw [← hxs] at HC HSM
            have HXS := Aside0.mk hxs
            clear hxs
            go_wp2
            go_quiet (fail)
            generalize hq : World.drewN wr _ = W0
            have HC0 : Aside0 (CW w w.heap.size W0 xs) := ⟨by rw [← hq]; exact HC.out.below (pw_below_drewN (Below.refl _ _) _)⟩
            clear hq hcell HC
            go_wp2_with (go_at_call 36; (with_reducible refine (HSC.out _ _ _ HC0.out.hB).mono ?_); rintro e w' ⟨rfl, rfl⟩)
            (with_reducible refine (put2 w _ _ _ _ _ HC0.out (by have := HSM.out; omega)).mono ?_)
            rintro e W1 ⟨rfl, hc⟩
            have HC1 := Aside0.mk hc
            clear hc HC0
            go_wp2_with (go_at_call 36; (with_reducible refine (HSC.out _ _ _ HC1.out.hB).mono ?_); rintro e w' ⟨rfl, rfl⟩)
            (with_reducible refine (put2 w _ _ _ _ _ HC1.out (by have := HSM.out; simp only [List.length_append, List.length_cons, List.length_nil]; omega)).mono ?_)
            rintro e W2 ⟨rfl, hc⟩
            have HC2 := Aside0.mk hc
            clear hc HC1
            obtain ⟨ys, hys⟩ : ∃ ys, ys = (xs ++ [[y, svw kI first x2 1]]) ++ [[wrap64 (-(svw kI first i1 1)), svw kI first x2 1]] := ⟨_, rfl⟩
            rw [← hys] at HC2
            have HYS := Aside0.mk hys
            have HYL : Aside0 (ys.length + 2 * k + 5 < 5864062014805) := ⟨by rw [hys]; have := HSM.out; simp only [List.length_append, List.length_cons, List.length_nil]; omega⟩
            clear hys
            go_wp2
            rw [hK1]
            go_loopw [92] (fun v92 wr => ∃ (h : Nat) (x' : Int), v92 = .int .i64 x' ∧ Aside0 (x' = h ∧ h ≤ k - 1) ∧ Aside0 (CW w w.heap.size wr (ys ++ inner l0 k first m h))) (fun i _ => K1.toNat - (intOf i).toNat)
            case atStart => exact ⟨0, 0, rfl, ⟨rfl, Nat.zero_le _⟩, ⟨by rw [show inner l0 k first m 0 = [] from rfl, List.append_nil]; exact HC2.out⟩⟩
            case round =>
              clear HC2 q3
              obtain ⟨h, x', rfl, HX, HC⟩ := hrel
              obtain ⟨hxh, hh⟩ := HX.out
              have g := HG.out
              have g0 := g.k0
              have g1 := g.kn
              have g2 := g.n1
              have hK := HK.out
              obtain ⟨e2, e3, hm⟩ := HI.out
              by_cases hlt : h < k - 1
              · have q3 : decide (x' < K1) = true := decide_eq_true (by omega)
                have RF' := Aside0.mk (round_facts' hK.1 hxh hlt (by omega))
                obtain ⟨xj, hxj⟩ : ∃ xj, wrap64 (x' + 2) = xj := ⟨_, rfl⟩
                have e4 : xj = (h : Int) + 2 := by rw [← hxj, w64 (by omega) (by omega)]; omega
                obtain ⟨j1, hj1⟩ : ∃ j1, wrap64 (xj - 1) = j1 := ⟨_, rfl⟩
                have e5 : j1 = (h : Int) + 1 := by rw [← hj1, w64 (by omega) (by omega)]; omega
                have HE : Aside0 (ys ++ inner l0 k first m (h + 1) = ((ys ++ inner l0 k first m h) ++ [[y, wrap64 (-(svw kI first i1 j1)), svw kI first x2 xj]]) ++ [[wrap64 (-(svw kI first i1 xj)), svw kI first x2 xj]]) := by
                  rw [inner_step, (g.sv (i := i1) (j := j1) (by omega) (by omega)).2, (g.sv (i := i1) (j := xj) (by omega) (by omega)).2, (g.sv (i := x2) (j := xj) (by omega) (by omega)).1, HY.out, e2, e3, e4, e5]
                  exact ⟨by simp⟩
                have HL : Aside0 ((ys ++ inner l0 k first m h).length + 1 < 5864062014805) := ⟨by rw [List.length_append, inner_length]; have := HYL.out; omega⟩
                have HJ : Aside0 (h + 1 ≤ k - 1) := ⟨by omega⟩
                clear hxh hh g g0 g1 g2 hK hlt HX e2 e3 e4 e5 hm
                obtain ⟨zs, hzs⟩ : ∃ zs, zs = ys ++ inner l0 k first m h := ⟨_, rfl⟩
                rw [← hzs] at HC HL HE
                clear hzs
                go_wp2_with (go_at_call 36; (with_reducible refine (HSC.out _ _ _ HC.out.hB).mono ?_); rintro e w' ⟨rfl, rfl⟩)
                (with_reducible refine (put3 w _ _ _ _ _ _ HC.out (by have := HL.out; omega)).mono ?_)
                rintro e V1 ⟨rfl, hc⟩
                have HC1 := Aside0.mk hc
                clear hc HC
                go_wp2_with (go_at_call 36; (with_reducible refine (HSC.out _ _ _ HC1.out.hB).mono ?_); rintro e w' ⟨rfl, rfl⟩)
                (with_reducible refine (put2 w _ _ _ _ _ HC1.out (by have := HL.out; simp only [List.length_append, List.length_cons, List.length_nil]; omega)).mono ?_)
                rintro e V2 ⟨rfl, hc⟩
                have HC2 := Aside0.mk hc
                clear hc HC1
                go_wp2
                go_roundw
                case measure => exact RF'.out.2
                case rel => exact ⟨h + 1, _, rfl, ⟨RF'.out.1, HJ.out⟩, ⟨by rw [HE.out]; exact HC2.out⟩⟩
              · obtain rfl : h = k - 1 := by omega
                have q3 : decide (x' < K1) = false := decide_eq_false (by omega)
                have HE : Aside0 (PT2 l0 k first (m + 1) = (ys ++ inner l0 k first m (k - 1)) ++ [[y, wrap64 (-(svw kI first i1 kI))]]) := by
                  rw [PT2_step, HYS.out, (g.sv (i := i1) (j := kI) (by omega) (by have := g.kI; omega)).2, (g.sv (i := i1) (j := 1) (by omega) (by omega)).2, (g.sv (i := x2) (j := 1) (by omega) (by omega)).1, HXS.out, HY.out, e2, e3, g.kI]
                  exact ⟨by simp [midAt, inner]⟩
                have HL : Aside0 ((ys ++ inner l0 k first m (k - 1)).length < 5864062014805) := ⟨by rw [List.length_append, inner_length]; have := HYL.out; omega⟩
                have HJ : Aside0 (m + 1 ≤ l0.length - 2) := ⟨by omega⟩
                clear hxh hh g g0 g1 g2 hK hlt HX e2 e3 hm
                obtain ⟨zs, hzs⟩ : ∃ zs, zs = ys ++ inner l0 k first m (k - 1) := ⟨_, rfl⟩
                rw [← hzs] at HC HL HE
                clear hzs
                go_wp2_with (go_at_call 36; (with_reducible refine (HSC.out _ _ _ HC.out.hB).mono ?_); rintro e w' ⟨rfl, rfl⟩)
                (with_reducible refine (put2 w _ _ _ _ _ HC.out HL.out).mono ?_)
                rintro e V1 ⟨rfl, hc⟩
                have HC1 := Aside0.mk hc
                clear hc HC
                go_wp2
                go_roundw
                case measure => exact RF.out.2
                case rel => exact ⟨m + 1, _, rfl, ⟨RF.out.1, HJ.out⟩, ⟨by rw [HE.out]; exact HC1.out⟩⟩
          · obtain rfl : m = l0.length - 2 := by omega
            have q3 : decide (x < N2) = false := decide_eq_false (by omega)
            obtain ⟨NN, hNN⟩ : ∃ NN, IntKind.i64.wrap ((l0.length : Int) - 1) = NN := ⟨_, rfl⟩
            have eN : NN = (l0.length : Int) - 1 := by rw [← hNN, wrapI _ (by omega) (by omega)]
            have p1 : 0 ≤ NN := by omega
            have q1 : NN < (l0.length : Int) := by omega
            obtain ⟨ad', ea, hcell⟩ := Kd.at_int (Kd.C_below HR0.out HC.out.hB) NN p1 q1
            cases ea
            have p2 := eq_true p1
            have q2 := eq_true q1
            have hb := formed_bd (sound_mem HS.out (rd_mem (show l0.length - 1 < l0.length by omega)))
            rw [show ((l0.length - 1 : Nat) : Int) = NN by omega] at hb
            have HE : Aside0 (clausesOf l0 k first = PT2 l0 k first (l0.length - 2) ++ [[IntKind.i64.wrap (-(rd l0 NN)), IntKind.i64.wrap (-(svw kI first NN kI))]]) := by
              rw [wrapI _ (by omega) (by omega), IntWalk.i64_left, (g.sv (i := NN) (j := kI) (by omega) (by have := g.kI; omega)).2, g.kI, eN]
              unfold clausesOf PT2 PT1
              rw [if_neg (by omega)]
              exact ⟨rfl⟩
            have HL : Aside0 ((PT2 l0 k first (l0.length - 2)).length < 5864062014805) := ⟨by have := PT2_small g l0 (m := l0.length - 2) (by omega); omega⟩
            clear hxm hm g g0 g1 g2 hK hlt HX p1 q1 hb eN
            go_upto_region 32 with fail
            go_cut [151] (fun _ wx => CW w w.heap.size wx (clausesOf l0 k first))
            case first =>
              go_region_with (first
                | (go_at_call 36; (with_reducible refine (HSC.out _ _ _ (by first | exact HC.out.hB | exact HC.out.drew.hB)).mono ?_); rintro e w' ⟨rfl, rfl⟩)
                | (go_at_call 47; (with_reducible refine (put2d w _ _ _ _ _ HC.out HL.out).mono ?_); rintro e w1 ⟨rfl, hc⟩; have HC1 := Aside0.mk hc; clear hc))
              all_goals (go_wp2_with fail; go_meet; rw [HE.out]; exact HC1.out)
            case rest =>
              obtain ⟨v, hb, hS⟩ := hcut.c
              have c1 := cell_of_one hb
              have HSS := Aside0.mk hS
              have HBB := Aside0.mk hcut.hB
              clear hcut hb hS
              go_wp2
              go_ret
              exact ⟨_, rfl, HSS.out, HBB.out⟩
end Go.Proofs.YtlemkghpcbkcpaaHand
/-! text YtlemkghpcbkcpaaAtmostMost -/
namespace Go.Proofs.YtlemkghpcbkcpaaHand
open Go.RowKit Go.Proofs.YtlemkghpcbkcpaaW.PrintWords Go.Proofs.YtlemkghpcbkcpaaW.PrintLast Go.Proofs.YtlemkghpcbkcpaaMath Go.Proofs.YtlemkghpcbkcpaaMaps Go.Maps
set_option linter.unusedVariables false
set_option linter.unusedSimpArgs false

structure Two (w : World) (a b : Value) (W : World) : Prop where
  hz : w.heap.size + 2 ≤ W.heap.size
  hB : Below w.heap.size w W
  f4 : W.cell? ⟨w.heap.size, 0, none⟩ = some a
  f5 : W.cell? ⟨w.heap.size + 1, 0, none⟩ = some b
theorem two (w : World) (a b : Value) (ta tb : Nat) (W : World) (h : W = (w.alloc (.cells #[a] ta)).alloc (.cells #[b] tb)) : Two w a b W := by
  subst h
  refine ⟨by simp, by repeat (first | exact Below.refl _ _ | apply below_alloc), ?_, ?_⟩ <;> simp [go_sem]
theorem Two.keep {w : World} {a b : Value} {W W1 : World} (h : Two w a b W) (k : Below W.heap.size W W1) : Two w a b W1 := by
  obtain ⟨hz, hB, f4, f5⟩ := h
  refine ⟨Nat.le_trans hz k.size, below_then hB hB.size k, ?_, ?_⟩
  · exact (k.cell (p := ⟨w.heap.size, 0, none⟩) (show w.heap.size < _ by omega)).trans f4
  · exact (k.cell (p := ⟨w.heap.size + 1, 0, none⟩) (show w.heap.size + 1 < _ by omega)).trans f5
theorem Two.drewN {w : World} {a b : Value} {W : World} (h : Two w a b W) (n : Nat) : Two w a b (W.drewN n) := h.keep (pw_below_drewN (Below.refl _ _) _)

def badK (l : List Int) (k first : Int) : Bool := decide (k < 0 ∨ first < 1 ∨ first > 1048577 ∨ (k < (l.length : Int) ∧ helpersOf l.length k > 1048577 - first))
theorem quiet_var {y : Int} {w : World} {n : Nat} : Calls Try.prog 35 #[.int .i64 y] (w.drewN n) fun e w'' => e = .returned (.int .i64 (varOf y)) ∧ ∃ m, w'' = w.drewN m :=
  Calls.quiet_of ((var_calls y (varOf y) _ rfl).mono fun _ _ h => ⟨h.1, h.2.out⟩)

set_option maxHeartbeats 8000000 in
set_option maxRecDepth 100000 in
theorem atmost_calls (A0 : Option Addr) (c0 : Nat) (l0 : List Int) (k first : Int) (w : World) (hr0 : Kd.C (Kd.int .i64) w A0 l0.length l0) (hn : l0.length ≤ 17592186044416) (hkb : -9223372036854775808 ≤ k ∧ k ≤ 9223372036854775807) :
    Calls Try.prog 17 #[.slice A0 l0.length c0, .int .i64 k, .int .i64 first] w fun e w' => ∃ v : Value, e = .returned (.tuple #[v, .int .i64 (atmostOf l0 k first).2.1, .int .i64 (atmostOf l0 k first).2.2]) ∧ Kd.S (Kd.slice 3 (Kd.int .i64)) 33 w' w.heap.size (fun _ => True) v (atmostOf l0 k first).1 ∧ Below w.heap.size w w' := by
  have HR0 := Aside0.mk hr0
  have UC := fun W (h : Kd.C (Kd.int .i64) W A0 l0.length l0) => unlike_calls A0 c0 l0 W h hn
  have HUC := Aside0.mk UC
  have HN := Aside0.mk hn
  have HKB := Aside0.mk hkb
  clear UC hr0 hn hkb
  go_enter Try.func17, Try.ntmps17
  go_wp2_with fail
  obtain ⟨W0, hW0⟩ : ∃ W0, W0 = (w.alloc (.cells #[.int .i64 k] 3)).alloc (.cells #[.int .i64 first] 3) := ⟨_, rfl⟩
  rw [← hW0]
  have T0 := two w _ _ _ _ W0 hW0
  clear hW0
  (with_reducible refine (HUC.out _ (Kd.C_below HR0.out T0.hB)).mono ?_)
  rintro e W1 ⟨rfl, hb⟩
  have HT1 := Aside0.mk (T0.keep hb)
  clear T0 hb
  cases hu : unlikeOf l0 with
  | false =>
    have HE : Aside0 (atmostOf l0 k first = ([], 0, 1)) := ⟨by unfold atmostOf; rw [if_pos hu]⟩
    clear hu
    go_wp2_with fail
    go_ret3
    rw [HE.out]
    exact ⟨_, rfl, Kd.S_nil _ _ _ _ _, HT1.out.hB⟩
  | true =>
    have HU := Aside0.mk hu
    clear hu
    obtain ⟨b, hb⟩ : ∃ b, b = badK l0 k first := ⟨_, rfl⟩
    have HBD := Aside0.mk hb
    clear hb
    go_upto_region 4 with fail
    go_cut [40] (fun s40 wx => s40 = .bool b ∧ Two w (.int .i64 k) (.int .i64 first) wx)
    case first =>
      have f4 := HT1.out.f4
      have f5 := HT1.out.f5
      have hb := HBD.out
      unfold badK at hb
      by_cases c1 : k < 0
      · have d1 : decide (k < 0) = true := decide_eq_true c1
        obtain rfl : b = true := by rw [hb]; simp [c1]
        clear hb c1
        go_quiet (fail)
        go_wp2_with fail
        go_meet
        exact ⟨rfl, HT1.out.drewN _⟩
      · have d1 : decide (k < 0) = false := decide_eq_false c1
        by_cases c2 : first < 1
        · have d2 : decide (first < 1) = true := decide_eq_true c2
          obtain rfl : b = true := by rw [hb]; simp [c2]
          clear hb c1 c2
          go_quiet (fail)
          go_wp2_with fail
          go_meet
          exact ⟨rfl, HT1.out.drewN _⟩
        · have d2 : decide (first < 1) = false := decide_eq_false c2
          by_cases c3 : first > 1048577
          · have d3 : decide (first > 1048577) = true := decide_eq_true c3
            have d3' : decide (1048577 < first) = true := decide_eq_true c3
            obtain rfl : b = true := by rw [hb]; simp [c3]
            clear hb c1 c2 c3
            go_quiet (fail)
            go_wp2_with fail
            go_meet
            exact ⟨rfl, HT1.out.drewN _⟩
          · have d3 : decide (first > 1048577) = false := decide_eq_false c3
            have d3' : decide (1048577 < first) = false := decide_eq_false c3
            by_cases c4 : k < (l0.length : Int)
            · have d4 : decide (k < (l0.length : Int)) = true := decide_eq_true c4
              have hl := unlike_length HU.out
              obtain ⟨R, hR⟩ : ∃ R, IntKind.i64.wrap (1048577 - first) = R := ⟨_, rfl⟩
              have eR : R = 1048577 - first := by rw [← hR, wrapI _ (by omega) (by omega)]
              obtain ⟨q, hq⟩ : ∃ q, helpersOf l0.length k = q := ⟨_, rfl⟩
              have HC := fun W => helpers_calls l0.length k q W (by omega) (by omega) (by omega) hq
              have d5 : decide (R < q) = b := by rw [hb, hq, eR, Bool.eq_iff_iff]; simp; omega
              have d5' : decide (q > R) = b := d5
              have HHC := Aside0.mk HC
              clear hb c1 c2 c3 c4 hl eR hq HC
              go_quiet ((go_at_call 31; exact Calls.quiet_of_same ((HHC.out _).mono fun _ _ h => ⟨h.1, h.2.symm⟩)))
              go_wp2_with fail
              go_meet
              exact ⟨rfl, HT1.out.drewN _⟩
            · have d4 : decide (k < (l0.length : Int)) = false := decide_eq_false c4
              obtain rfl : b = false := by rw [hb]; simp [c1, c2, c3, c4]
              clear hb c1 c2 c3 c4
              go_quiet (fail)
              go_wp2_with fail
              go_meet
              exact ⟨rfl, HT1.out.drewN _⟩
    case rest =>
      obtain ⟨rfl, hT⟩ := hcut
      have HT := Aside0.mk hT
      clear hT HT1
      cases b with
      | true =>
        have HE : Aside0 (atmostOf l0 k first = ([], 0, 2)) := ⟨by
          unfold atmostOf
          rw [if_neg (by rw [HU.out]; simp), if_pos]
          have := HBD.out
          unfold badK at this
          exact of_decide_eq_true this.symm⟩
        go_wp2_with fail
        go_ret3
        rw [HE.out]
        exact ⟨_, rfl, Kd.S_nil _ _ _ _ _, HT.out.hB⟩
      | false =>
        have hbd0 := HBD.out
        unfold badK at hbd0
        have hbd := of_decide_eq_false hbd0.symm
        clear hbd0
        have hl := unlike_length HU.out
        have hk0 : 0 ≤ k := by omega
        have hf0 : 1 ≤ first ∧ first ≤ 1048577 := by omega
        have HA : Aside0 (0 ≤ k ∧ 1 ≤ first ∧ first ≤ 1048577 ∧ l0.length ≤ 1048576 ∧ (k < (l0.length : Int) → helpersOf l0.length k ≤ 1048577 - first)) := ⟨⟨hk0, hf0.1, hf0.2, hl, fun h => by omega⟩⟩
        have HND : Aside0 (¬ (k < 0 ∨ first < 1 ∨ first > 1048577 ∨ (k < (l0.length : Int) ∧ helpersOf l0.length k > 1048577 - first))) := ⟨hbd⟩
        clear hbd hl hk0 hf0
        go_wp2_with fail
        go_loopw [6, 43] (fun v6 v43 wr => ∃ (j : Nat) (x : Int), v6 = .slice none 0 0 ∧ v43 = .int .i64 x ∧ Aside0 (x = j ∧ j ≤ l0.length) ∧ Aside0 ((∀ y ∈ l0.take j, varOf y < first) ∧ Two w (.int .i64 k) (.int .i64 first) wr)) (fun _ i _ => l0.length - (intOf i).toNat)
        case atStart => exact ⟨0, 0, rfl, rfl, ⟨rfl, Nat.zero_le _⟩, ⟨by simp, HT.out⟩⟩
        case round =>
          clear HT
          obtain ⟨j, x, rfl, rfl, HX, HM⟩ := hrel
          obtain ⟨hxj, hj⟩ := HX.out
          by_cases hlt : j < l0.length
          · have p1 : 0 ≤ x := by omega
            have q1 : x < (l0.length : Int) := by omega
            obtain ⟨ad, e1, hcell⟩ := Kd.at_int (Kd.C_below HR0.out HM.out.2.hB) x p1 q1
            subst e1
            have p2 := eq_true p1
            have q2 := eq_true q1
            have q3 : decide (x < (l0.length : Int)) = true := decide_eq_true q1
            have RF := Aside0.mk (round_facts hxj hlt (by have := HN.out; omega))
            have f5 := HM.out.2.f5
            obtain ⟨y, hy⟩ : ∃ y, y = rd l0 x := ⟨_, rfl⟩
            rw [← hy] at hcell
            have hmem : y ∈ l0 := by rw [hy, hxj]; exact rd_mem hlt
            have htk : l0.take (j + 1) = l0.take j ++ [y] := by rw [hy, hxj, take_rd hlt]
            by_cases hv : first ≤ varOf y
            · have d1 : decide (first ≤ varOf y) = true := decide_eq_true hv
              have HE : Aside0 (atmostOf l0 k first = ([], 0, 2)) := ⟨by
                unfold atmostOf
                rw [if_neg (by rw [HU.out]; simp), if_neg HND.out, if_pos]
                exact List.any_eq_true.2 ⟨y, hmem, d1⟩⟩
              clear hxj hj hlt p1 q1 hy hv hmem htk HX
              go_wp2_with fail
              go_quiet ((go_at_call 35; exact quiet_var))
              go_wp2_with fail
              go_ret3
              rw [HE.out]
              exact ⟨_, rfl, Kd.S_nil _ _ _ _ _, (HM.out.2.drewN _).hB⟩
            · have d1 : decide (first ≤ varOf y) = false := decide_eq_false hv
              have HALL : Aside0 (∀ z ∈ l0.take (j + 1), varOf z < first) := ⟨by
                rw [htk]
                intro z hz
                rcases List.mem_append.1 hz with hz | hz
                · exact HM.out.1 z hz
                · rw [List.mem_singleton.1 hz]; omega⟩
              have HJ : Aside0 (j + 1 ≤ l0.length) := ⟨hlt⟩
              clear hxj hj hlt p1 q1 hy hv hmem htk HX
              go_wp2_with fail
              go_quiet ((go_at_call 35; exact quiet_var))
              go_wp2_with fail
              go_roundw
              case measure => exact RF.out.2
              case rel => exact ⟨j + 1, _, rfl, rfl, ⟨RF.out.1, HJ.out⟩, ⟨HALL.out, HM.out.2.drewN _⟩⟩
          · obtain rfl : j = l0.length := by omega
            have q3 : decide (x < (l0.length : Int)) = false := decide_eq_false (by omega)
            have f4 := HM.out.2.f4
            have f5 := HM.out.2.f5
            have hall := HM.out.1
            rw [List.take_length] at hall
            have hnone : ¬ (l0.any fun x => decide (first ≤ varOf x)) = true := by
              intro h
              obtain ⟨z, hz, h2⟩ := List.any_eq_true.1 h
              have h3 := of_decide_eq_true h2
              have := hall z hz
              omega
            obtain ⟨a0, a1, a2, a3, a4⟩ := HA.out
            obtain ⟨q, hq⟩ : ∃ q, helpersOf l0.length k = q := ⟨_, rfl⟩
            have HC := Aside0.mk (fun W => helpers_calls l0.length k q W (by omega) (by omega) a0 hq)
            by_cases c4 : k < (l0.length : Int)
            · have d4 : decide (k < (l0.length : Int)) = true := decide_eq_true c4
              have hqb : 0 ≤ q ∧ q ≤ 1048577 - first := by
                refine ⟨?_, by rw [← hq]; exact a4 c4⟩
                rw [← hq]
                unfold helpersOf
                split
                · exact Int.le_refl _
                · exact Int.mul_nonneg (by omega) a0
              have HE : Aside0 (atmostOf l0 k first = (clausesOf l0 k.toNat first, first + q, 0)) := ⟨by
                unfold atmostOf
                rw [if_neg (by rw [HU.out]; simp), if_neg HND.out, if_neg hnone, if_pos c4, hq]⟩
              have HQ : Aside0 (wrap64 (first + q) = first + q) := ⟨w64 (by omega) (by omega)⟩
              have CC : Calls Try.prog 37 #[.slice A0 l0.length c0, .int .i64 k, .func (.func 36) #[] #[.pointer (some ⟨w.heap.size + 1, 0, none⟩), .pointer (some ⟨w.heap.size, 0, none⟩)]] wr fun e w' => ∃ v : Value, e = .returned v ∧ Kd.S (Kd.slice 3 (Kd.int .i64)) 33 w' wr.heap.size (fun _ => True) v (clausesOf l0 k.toNat first) ∧ Below wr.heap.size wr w' := by
                rcases Int.lt_or_eq_of_le a0 with hk | hk
                · refine clauses_pos A0 c0 l0 k.toNat k first (w.heap.size + 1) w.heap.size wr (Kd.C_below HR0.out HM.out.2.hB) (unlike_sound HU.out) ⟨by omega, by omega, a3, a1, ?_, by omega⟩ f5 f4 (by have := HM.out.2.hz; omega) (by have := HM.out.2.hz; omega)
                  have h5 := a4 c4
                  unfold helpersOf at h5
                  rw [if_neg (by omega)] at h5
                  rw [show ((k.toNat : Nat) : Int) = k by omega]
                  omega
                · subst hk
                  exact clauses_zero A0 c0 l0 _ first wr (Kd.C_below HR0.out HM.out.2.hB) (unlike_sound HU.out) a3
              have HCC := Aside0.mk CC
              clear CC a0 a1 a2 a3 a4 hnone hall hq hqb c4 hxj hj hlt HX
              go_wp2_with fail
              (with_reducible refine (HCC.out).mono ?_)
              rintro e W5 ⟨v, rfl, hs, hb⟩
              have HT5 := Aside0.mk (HM.out.2.keep hb)
              have HS5 := Aside0.mk (Kd.S_lower hs (show w.heap.size ≤ wr.heap.size by have := HM.out.2.hz; omega))
              clear hs hb f4 f5
              have f4 := HT5.out.f4
              have f5 := HT5.out.f5
              go_wp2_with fail
              go_quiet ((go_at_call 31; exact Calls.quiet_of_same ((HC.out _).mono fun _ _ h => ⟨h.1, h.2.symm⟩)))
              go_wp2_with fail
              go_ret3
              rw [HE.out]
              exact ⟨v, by show Ending.returned (.tuple #[v, .int .i64 (wrap64 (first + q)), .int .i64 0]) = _; rw [HQ.out], Kd.S_drewN HS5.out _, (HT5.out.drewN _).hB⟩
            · have d4 : decide (k < (l0.length : Int)) = false := decide_eq_false c4
              obtain rfl : q = 0 := by
                rw [← hq]
                unfold helpersOf
                rw [if_pos (by omega)]
              have HE : Aside0 (atmostOf l0 k first = ([], first + 0, 0)) := ⟨by
                unfold atmostOf
                rw [if_neg (by rw [HU.out]; simp), if_neg HND.out, if_neg hnone, if_neg c4, hq]⟩
              have HQ : Aside0 (wrap64 first = first + 0) := ⟨by rw [w64 (by omega) (by omega)]; omega⟩
              clear a0 a1 a2 a3 a4 hnone hall hq c4 hxj hj hlt HX
              go_wp2_with fail
              go_quiet ((go_at_call 31; exact Calls.quiet_of_same ((HC.out _).mono fun _ _ h => ⟨h.1, h.2.symm⟩)))
              go_wp2_with fail
              go_ret3
              rw [HE.out]
              exact ⟨.slice none 0 0, by show Ending.returned (.tuple #[.slice none 0 0, .int .i64 (wrap64 first), .int .i64 0]) = _; rw [HQ.out], Kd.S_nil _ _ _ _ _, (HM.out.2.drewN _).hB⟩
end Go.Proofs.YtlemkghpcbkcpaaHand
