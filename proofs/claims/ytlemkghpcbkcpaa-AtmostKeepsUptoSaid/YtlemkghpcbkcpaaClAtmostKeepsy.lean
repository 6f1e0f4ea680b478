/- AtmostKeepsUptoSaid: for every input the law AtmostKeeps returns true, and what came in reads as before. Condition: what comes in is of bulk at most 1048576. Written by row.py. -/
import Derived.Test.YtlemkghpcbkcpaaClAtmostKeepsx
import Derived.Test.YtlemkghpcbkcpaaClAtmostKeepsm
import Derived.Test.YtlemkghpcbkcpaaClAtmostKeepsf
import Derived.Test.YtlemkghpcbkcpaaRows
import Derived.WalkKit
import Derived.ProofKit
import Derived.OpenShut
import Derived.ShutString
import Derived.ChangeOld
import Derived.Below
import Derived.SizedLaws
import Derived.Lib.SmallJoins
import Derived.JoinedCond
import Derived.Deep.CondSized
/-! text YtlemkghpcbkcpaaAk -/
namespace Go.Proofs.YtlemkghpcbkcpaaHand
open Go.RowKit Go.Proofs.YtlemkghpcbkcpaaW.PrintWords Go.Proofs.YtlemkghpcbkcpaaW.PrintLast Go.Proofs.YtlemkghpcbkcpaaMath Go.Proofs.YtlemkghpcbkcpaaOwn Go.Proofs.Ytlemkghpcbkcpaa.PAtmostKeeps
set_option linter.unusedVariables false
set_option linter.unusedSimpArgs false
theorem four_a {a b c d : List (List Int)} (ha : a.length ≤ 1073741824 ∧ ∀ x ∈ a, x.length ≤ 3) (hb : b.length ≤ 1073741824 ∧ ∀ x ∈ b, x.length ≤ 3) (hc : c.length ≤ 1073741824 ∧ ∀ x ∈ c, x.length ≤ 3) (hd : d.length ≤ 1073741824 ∧ ∀ x ∈ d, x.length ≤ 3) :
    (∀ x ∈ [a, b, c, d], x.length ≤ 1099511627776) ∧ (∀ x ∈ [a, b, c, d].flatten, x.length ≤ 1099511627776) ∧ [a, b, c, d].flatten.length ≤ 1099511627776 := by
  refine ⟨fun x hx => ?_, fun x hx => ?_, ?_⟩
  · simp only [List.mem_cons, List.not_mem_nil, or_false] at hx
    rcases hx with rfl | rfl | rfl | rfl <;> omega
  · simp only [List.flatten_cons, List.flatten_nil, List.append_nil, List.mem_append] at hx
    rcases hx with h | h | h | h
    · have := ha.2 x h; omega
    · have := hb.2 x h; omega
    · have := hc.2 x h; omega
    · have := hd.2 x h; omega
  · simp only [List.flatten_cons, List.flatten_nil, List.append_nil, List.length_append]
    omega
theorem three_a {a b c : List Bool} (ha : a.length ≤ 1073741824) (hb : b.length ≤ 1073741824) (hc : c.length ≤ 1073741824) : ∀ x ∈ [a, b, c], x.length ≤ 1099511627776 := by
  intro x hx
  simp only [List.mem_cons, List.not_mem_nil, or_false] at hx
  rcases hx with rfl | rfl | rfl <;> omega

set_option maxHeartbeats 8000000 in
set_option maxRecDepth 100000 in
theorem ak_calls (A0 A1 A3 : Option Addr) (c0 c1 c3 : Nat) (l m : List Int) (k : Int) (on : List Bool) (w : World) (hr0 : Kd.C (Kd.int .i64) w A0 l.length l) (hc0 : l.length ≤ c0) (hr1 : Kd.C (Kd.int .i64) w A1 m.length m) (hc1 : m.length ≤ c1) (hr3 : Kd.C Kd.bool w A3 on.length on) (hc3 : on.length ≤ c3)
    (nl : l.length ≤ 1048576) (nm : m.length ≤ 1048576) (non : on.length ≤ 1048576) (hk : -9223372036854775808 ≤ k ∧ k ≤ 9223372036854775807) :
    Calls Try.prog 8 #[.slice A0 l.length c0, .slice A1 m.length c1, .int .i64 k, .slice A3 on.length c3] w fun e w' => e = .returned (.bool true) ∧ Below w.heap.size w w' := by
  have HR0 := Aside0.mk hr0
  have HR1 := Aside0.mk hr1
  have HR3 := Aside0.mk hr3
  have HN := Aside0.mk (And.intro nl (And.intro nm non))
  have HC := Aside0.mk (And.intro hc0 (And.intro hc1 hc3))
  have HK := Aside0.mk hk
  clear hr0 hr1 hr3 hc0 hc1 hc3 nl nm non
  have HX : Aside0 (∀ (W : World) b, (fun _ : Nat => False) b → b < W.heap.size) := ⟨fun _ _ h => h.elim⟩
  have H0 : Aside0 (Sep w (fun _ => False) [] w) := ⟨Sep.start (Below.refl _ _) _⟩
  go_enter Try.func8, Try.ntmps8
  by_cases hk64 : k > 64
  · have p1 : decide (k > 64) = true := decide_eq_true hk64
    clear hk64 hk
    go_wp2_with fail
    go_ret
    exact ⟨rfl, Below.refl _ _⟩
  have p1 : decide (k > 64) = false := decide_eq_false hk64
  have HK64 : Aside0 (k ≤ 64) := ⟨by omega⟩
  have HK1 : Aside0 ((-9223372036854775808 ≤ wrap64 (k + 1) ∧ wrap64 (k + 1) ≤ 9223372036854775807) ∧ wrap64 (k + 1) ≤ 65) := ⟨by rw [w64 (by omega) (by omega)]; omega⟩
  have HL1 := Aside0.mk (atmostOf_small l k 1000 HN.out.1 (by omega))
  have HL3 := Aside0.mk (atmostOf_small m (wrap64 (k + 1)) 900 HN.out.2.1 HK1.out.2)
  have HF1 := Aside0.mk (fillOf_small on k HN.out.2.2 (by omega))
  clear hk64 hk
  go_wp2_with fail
  (with_reducible refine (lent_calls A0 c0 l _ (Kd.C_below HR0.out H0.out.hB) HC.out.1 (by have := HN.out; omega)).mono ?_)
  rintro e W1 ⟨u, rfl, hu, hb⟩
  obtain ⟨gx, cx, rfl, _⟩ := Kd.R_form hu (by rw [lentOf_length]; omega)
  obtain ⟨ax, hax⟩ : ∃ q, q = (⟨gx, 0, none⟩ : Addr) := ⟨_, rfl⟩
  rw [← hax] at hu ⊢
  obtain ⟨nx, hnx⟩ : ∃ q, q = (lentOf l).length := ⟨_, rfl⟩
  rw [← hnx] at hu ⊢
  have HNx : Aside0 (nx = l.length + 64) := ⟨by rw [hnx, lentOf_length]⟩
  have hlex : l.length ≤ cx := by have := (Kd.R_reads' hu).2.1; have := HNx.out; omega
  have hlx : (l.length : Int) ≤ (cx : Int) := by omega
  clear hax hnx
  have H1 : Aside0 (Sep w (fun _ => False) [rI (.slice (some ax) nx cx) (lentOf l)] W1) := ⟨H0.out.push hb (HX.out _) (row_of hu)⟩
  clear H0
  clear hu hb
  go_wp2_with fail
  (with_reducible refine (lentB_calls A3 c3 on _ (Kd.C_below HR3.out H1.out.hB) HC.out.2.2 (by have := HN.out; omega)).mono ?_)
  rintro e W2 ⟨u, rfl, hu, hb⟩
  obtain ⟨gb, cb, rfl, _⟩ := Kd.R_form hu (by rw [lentB_length]; omega)
  obtain ⟨ab, hab⟩ : ∃ q, q = (⟨gb, 0, none⟩ : Addr) := ⟨_, rfl⟩
  rw [← hab] at hu ⊢
  obtain ⟨nb, hnb⟩ : ∃ q, q = (lentB on).length := ⟨_, rfl⟩
  rw [← hnb] at hu ⊢
  have HNb : Aside0 (nb = on.length + 64) := ⟨by rw [hnb, lentB_length]⟩
  have hleb : on.length ≤ cb := by have := (Kd.R_reads' hu).2.1; have := HNb.out; omega
  have hlb : (on.length : Int) ≤ (cb : Int) := by omega
  clear hab hnb
  have H2 : Aside0 (Sep w (fun _ => False) [rI (.slice (some ax) nx cx) (lentOf l), rB (.slice (some ab) nb cb) (lentB on)] W2) := ⟨H1.out.push hb (HX.out _) (row_of hu)⟩
  clear H1
  clear hu hb
  go_wp2_with fail
  (with_reducible refine (atmost_n rfl (some ax) cx k 1000 _ (head_C H2.out 0 rfl (ys := l) (by rw [lentOf_length]; omega) (lent_take l) rfl) (by have := HN.out; omega) HK.out).mono ?_)
  rintro e W3 ⟨u, rfl, hS, hb⟩
  obtain ⟨Ap1, cp1, rfl⟩ : ∃ A c, u = .slice A (atmostOf l k 1000).1.length c := Kd.S_slice hS
  have H3 : Aside0 (Sep w (fun _ => False) [rI (.slice (some ax) nx cx) (lentOf l), rB (.slice (some ab) nb cb) (lentB on), sC (.slice Ap1 (atmostOf l k 1000).1.length cp1) (atmostOf l k 1000).1] W3) := ⟨H2.out.push hb (HX.out _) hS⟩
  clear H2
  clear hS hb
  go_wp2_with fail
  (with_reducible refine (fill_n rfl (some ab) cb k _ (head_CB H3.out 1 rfl (ys := on) (by rw [lentB_length]; omega) (lentB_take on) rfl) hleb (by have := HN.out; omega) HK64.out).mono ?_)
  rintro e W4 ⟨u, rfl, hS, hb⟩
  obtain ⟨Af1, cf1, rfl⟩ : ∃ A c, u = .slice A (fillOf on k).1.length c := Kd.R_slice hS
  have H4 : Aside0 (Sep w (fun _ => False) [rI (.slice (some ax) nx cx) (lentOf l), rB (.slice (some ab) nb cb) (lentB on), sC (.slice Ap1 (atmostOf l k 1000).1.length cp1) (atmostOf l k 1000).1, rB (.slice Af1 (fillOf on k).1.length cf1) (fillOf on k).1] W4) := ⟨H3.out.push hb (HX.out _) hS⟩
  clear H3
  clear hS hb
  go_wp2_with fail
  (with_reducible refine (kept_calls (some ax) A0 nx cx c0 l _ (by rw [HNx.out, lentOf_length]) (row_len H4.out 0 rfl).2.2 (row_len H4.out 0 rfl).2.1 (Kd.C_below HR0.out H4.out.hB) HC.out.1 (by have := HN.out; omega)).mono ?_)
  rintro e W5 ⟨rfl, hd⟩
  have H5 : Aside0 (Sep w (fun _ => False) [rI (.slice (some ax) nx cx) (lentOf l), rB (.slice (some ab) nb cb) (lentB on), sC (.slice Ap1 (atmostOf l k 1000).1.length cp1) (atmostOf l k 1000).1, rB (.slice Af1 (fillOf on k).1.length cf1) (fillOf on k).1] W5) := ⟨H4.out.keep hd.below⟩
  clear H4
  clear hd
  go_wp2_with fail
  (with_reducible refine (keptB_calls (some ab) A3 nb cb c3 on _ (by rw [HNb.out, lentB_length]) (row_lenB H5.out 1 rfl).2.2 (row_lenB H5.out 1 rfl).2.1 (Kd.C_below HR3.out H5.out.hB) HC.out.2.2 (by have := HN.out; omega)).mono ?_)
  rintro e W6 ⟨rfl, hd⟩
  have H6 : Aside0 (Sep w (fun _ => False) [rI (.slice (some ax) nx cx) (lentOf l), rB (.slice (some ab) nb cb) (lentB on), sC (.slice Ap1 (atmostOf l k 1000).1.length cp1) (atmostOf l k 1000).1, rB (.slice Af1 (fillOf on k).1.length cf1) (fillOf on k).1] W6) := ⟨H5.out.keep hd.below⟩
  clear H5
  clear hd
  go_wp2_with fail
  (with_reducible refine (copyInts_c A1 c1 m _ (Kd.C_below HR1.out H6.out.hB) HC.out.2.1 HN.out.2.1).mono ?_)
  rintro e W7 ⟨u, rfl, hu, hb⟩
  obtain ⟨Am, cm, rfl⟩ := Kd.R_slice hu
  have HCM := Aside0.mk (Kd.R_reads' hu).2.2
  have H7 : Aside0 (Sep w (fun _ => False) [rI (.slice (some ax) nx cx) (lentOf l), rB (.slice (some ab) nb cb) (lentB on), sC (.slice Ap1 (atmostOf l k 1000).1.length cp1) (atmostOf l k 1000).1, rB (.slice Af1 (fillOf on k).1.length cf1) (fillOf on k).1] W7) := ⟨H6.out.keep hb⟩
  clear H6
  clear hu hb
  go_wp2_with fail
  (with_reducible refine (atmost_n rfl Am cm (wrap64 (k + 1)) 900 _ HCM.out (by have := HN.out; omega) HK1.out.1).mono ?_)
  rintro e W8 ⟨u, rfl, hS, hb⟩
  obtain ⟨Ap3, cp3, rfl⟩ : ∃ A c, u = .slice A (atmostOf m (wrap64 (k + 1)) 900).1.length c := Kd.S_slice hS
  have H8 : Aside0 (Sep w (fun _ => False) [rI (.slice (some ax) nx cx) (lentOf l), rB (.slice (some ab) nb cb) (lentB on), sC (.slice Ap1 (atmostOf l k 1000).1.length cp1) (atmostOf l k 1000).1, rB (.slice Af1 (fillOf on k).1.length cf1) (fillOf on k).1, sC (.slice Ap3 (atmostOf m (wrap64 (k + 1)) 900).1.length cp3) (atmostOf m (wrap64 (k + 1)) 900).1] W8) := ⟨H7.out.push hb (HX.out _) hS⟩
  clear H7
  clear hS hb
  clear HCM
  go_wp2_with fail
  (with_reducible refine (atmost_n rfl (some ax) cx k 1000 _ (head_C H8.out 0 rfl (ys := l) (by rw [lentOf_length]; omega) (lent_take l) rfl) (by have := HN.out; omega) HK.out).mono ?_)
  rintro e W9 ⟨u, rfl, hS, hb⟩
  obtain ⟨Ap2, cp2, rfl⟩ : ∃ A c, u = .slice A (atmostOf l k 1000).1.length c := Kd.S_slice hS
  have H9 : Aside0 (Sep w (fun _ => False) [rI (.slice (some ax) nx cx) (lentOf l), rB (.slice (some ab) nb cb) (lentB on), sC (.slice Ap1 (atmostOf l k 1000).1.length cp1) (atmostOf l k 1000).1, rB (.slice Af1 (fillOf on k).1.length cf1) (fillOf on k).1, sC (.slice Ap3 (atmostOf m (wrap64 (k + 1)) 900).1.length cp3) (atmostOf m (wrap64 (k + 1)) 900).1, sC (.slice Ap2 (atmostOf l k 1000).1.length cp2) (atmostOf l k 1000).1] W9) := ⟨H8.out.push hb (HX.out _) hS⟩
  clear H8
  clear hS hb
  go_wp2_with fail
  (with_reducible refine (fill_n rfl (some ab) cb k _ (head_CB H9.out 1 rfl (ys := on) (by rw [lentB_length]; omega) (lentB_take on) rfl) hleb (by have := HN.out; omega) HK64.out).mono ?_)
  rintro e W10 ⟨u, rfl, hS, hb⟩
  obtain ⟨Af2, cf2, rfl⟩ : ∃ A c, u = .slice A (fillOf on k).1.length c := Kd.R_slice hS
  have H10 : Aside0 (Sep w (fun _ => False) [rI (.slice (some ax) nx cx) (lentOf l), rB (.slice (some ab) nb cb) (lentB on), sC (.slice Ap1 (atmostOf l k 1000).1.length cp1) (atmostOf l k 1000).1, rB (.slice Af1 (fillOf on k).1.length cf1) (fillOf on k).1, sC (.slice Ap3 (atmostOf m (wrap64 (k + 1)) 900).1.length cp3) (atmostOf m (wrap64 (k + 1)) 900).1, sC (.slice Ap2 (atmostOf l k 1000).1.length cp2) (atmostOf l k 1000).1, rB (.slice Af2 (fillOf on k).1.length cf2) (fillOf on k).1] W10) := ⟨H9.out.push hb (HX.out _) hS⟩
  clear H9
  clear hS hb
  go_wp2_with fail
  (with_reducible refine (ref_n rfl A0 c0 k 1000 _ (Kd.C_below HR0.out H10.out.hB) HC.out.1 (by have := HN.out; omega) HK.out.2).mono ?_)
  rintro e W11 ⟨Aw1, cw1, rfl, hc, hS, hb⟩
  have HCw1 := Aside0.mk hc
  have H11 : Aside0 (Sep w (fun _ => False) [rI (.slice (some ax) nx cx) (lentOf l), rB (.slice (some ab) nb cb) (lentB on), sC (.slice Ap1 (atmostOf l k 1000).1.length cp1) (atmostOf l k 1000).1, rB (.slice Af1 (fillOf on k).1.length cf1) (fillOf on k).1, sC (.slice Ap3 (atmostOf m (wrap64 (k + 1)) 900).1.length cp3) (atmostOf m (wrap64 (k + 1)) 900).1, sC (.slice Ap2 (atmostOf l k 1000).1.length cp2) (atmostOf l k 1000).1, rB (.slice Af2 (fillOf on k).1.length cf2) (fillOf on k).1, fC Aw1 (atmostOf l k 1000).1] W11) := ⟨H10.out.push hb (HX.out _) hS⟩
  clear H10
  clear hc hS hb
  go_wp2_with fail
  (with_reducible refine (refFill_n rfl A3 c3 k _ (Kd.C_below HR3.out H11.out.hB) HC.out.2.2 (by have := HN.out; omega) HK64.out).mono ?_)
  rintro e W12 ⟨u, rfl, hS, hb⟩
  obtain ⟨Au1, cu1, rfl⟩ : ∃ A c, u = .slice A (fillOf on k).1.length c := Kd.R_slice hS
  have H12 : Aside0 (Sep w (fun _ => False) [rI (.slice (some ax) nx cx) (lentOf l), rB (.slice (some ab) nb cb) (lentB on), sC (.slice Ap1 (atmostOf l k 1000).1.length cp1) (atmostOf l k 1000).1, rB (.slice Af1 (fillOf on k).1.length cf1) (fillOf on k).1, sC (.slice Ap3 (atmostOf m (wrap64 (k + 1)) 900).1.length cp3) (atmostOf m (wrap64 (k + 1)) 900).1, sC (.slice Ap2 (atmostOf l k 1000).1.length cp2) (atmostOf l k 1000).1, rB (.slice Af2 (fillOf on k).1.length cf2) (fillOf on k).1, fC Aw1 (atmostOf l k 1000).1, rB (.slice Au1 (fillOf on k).1.length cu1) (fillOf on k).1] W12) := ⟨H11.out.push hb (HX.out _) hS⟩
  clear H11
  clear hS hb
  go_wp2_with fail
  (with_reducible refine (sameClauses_c Ap2 Aw1 cp2 cw1 (atmostOf l k 1000).1 _ (Kd.S_reads' (H12.out.get 5 rfl)).2.2 (Kd.S_reads' (H12.out.get 5 rfl)).2.1 (foot_now (H12.out.get 7 rfl)) HCw1.out (by have := HL1.out.1; omega) (fun x hx => by have := HL1.out.2 x hx; omega)).mono ?_)
  rintro e W13 ⟨rfl, hd⟩
  have H13 : Aside0 (Sep w (fun _ => False) [rI (.slice (some ax) nx cx) (lentOf l), rB (.slice (some ab) nb cb) (lentB on), sC (.slice Ap1 (atmostOf l k 1000).1.length cp1) (atmostOf l k 1000).1, rB (.slice Af1 (fillOf on k).1.length cf1) (fillOf on k).1, sC (.slice Ap3 (atmostOf m (wrap64 (k + 1)) 900).1.length cp3) (atmostOf m (wrap64 (k + 1)) 900).1, sC (.slice Ap2 (atmostOf l k 1000).1.length cp2) (atmostOf l k 1000).1, rB (.slice Af2 (fillOf on k).1.length cf2) (fillOf on k).1, fC Aw1 (atmostOf l k 1000).1, rB (.slice Au1 (fillOf on k).1.length cu1) (fillOf on k).1] W13) := ⟨H12.out.keep hd.below⟩
  clear H12
  clear hd
  go_wp2_with fail
  (with_reducible refine (sameBools_c Af2 Au1 cf2 cu1 (fillOf on k).1 _ (Kd.R_reads' (H13.out.get 6 rfl)).2.2 (Kd.R_reads' (H13.out.get 6 rfl)).2.1 (Kd.R_reads' (H13.out.get 8 rfl)).2.2 (Kd.R_reads' (H13.out.get 8 rfl)).2.1 (by have := HF1.out; omega)).mono ?_)
  rintro e W14 ⟨rfl, hd⟩
  have H14 : Aside0 (Sep w (fun _ => False) [rI (.slice (some ax) nx cx) (lentOf l), rB (.slice (some ab) nb cb) (lentB on), sC (.slice Ap1 (atmostOf l k 1000).1.length cp1) (atmostOf l k 1000).1, rB (.slice Af1 (fillOf on k).1.length cf1) (fillOf on k).1, sC (.slice Ap3 (atmostOf m (wrap64 (k + 1)) 900).1.length cp3) (atmostOf m (wrap64 (k + 1)) 900).1, sC (.slice Ap2 (atmostOf l k 1000).1.length cp2) (atmostOf l k 1000).1, rB (.slice Af2 (fillOf on k).1.length cf2) (fillOf on k).1, fC Aw1 (atmostOf l k 1000).1, rB (.slice Au1 (fillOf on k).1.length cu1) (fillOf on k).1] W14) := ⟨H13.out.keep hd.below⟩
  clear H13
  clear hd
  go_wp2_with fail
  have HOx := Aside0.mk (over_calls H14.out 0 rfl (HX.out _) (by rw [lentOf_length]; have := HN.out; omega))
  clear H14
  (with_reducible refine (HOx.out).mono ?_)
  rintro e W15 ⟨rfl, ox, hox, hsep⟩
  have H15 : Aside0 (Sep w (fun _ => False) [rI (.slice (some ax) nx cx) ox, rB (.slice (some ab) nb cb) (lentB on), sC (.slice Ap1 (atmostOf l k 1000).1.length cp1) (atmostOf l k 1000).1, rB (.slice Af1 (fillOf on k).1.length cf1) (fillOf on k).1, sC (.slice Ap3 (atmostOf m (wrap64 (k + 1)) 900).1.length cp3) (atmostOf m (wrap64 (k + 1)) 900).1, sC (.slice Ap2 (atmostOf l k 1000).1.length cp2) (atmostOf l k 1000).1, rB (.slice Af2 (fillOf on k).1.length cf2) (fillOf on k).1, fC Aw1 (atmostOf l k 1000).1, rB (.slice Au1 (fillOf on k).1.length cu1) (fillOf on k).1] W15) := ⟨hsep⟩
  obtain ⟨l2, hl2⟩ : ∃ q, q = ox.take l.length := ⟨_, rfl⟩
  have HO2x : Aside0 (l.length = l2.length ∧ ox.take l.length = l2 ∧ l.length ≤ ox.length) := ⟨by rw [lentOf_length] at hox; exact ⟨by rw [hl2, List.length_take]; omega, hl2.symm, by omega⟩⟩
  clear hsep hox hl2 HOx
  go_wp2_with fail
  have HOb := Aside0.mk (overB_calls H15.out 1 rfl (HX.out _) (by rw [lentB_length]; have := HN.out; omega))
  clear H15
  (with_reducible refine (HOb.out).mono ?_)
  rintro e W16 ⟨rfl, ob, hob, hsep⟩
  have H16 : Aside0 (Sep w (fun _ => False) [rI (.slice (some ax) nx cx) ox, rB (.slice (some ab) nb cb) ob, sC (.slice Ap1 (atmostOf l k 1000).1.length cp1) (atmostOf l k 1000).1, rB (.slice Af1 (fillOf on k).1.length cf1) (fillOf on k).1, sC (.slice Ap3 (atmostOf m (wrap64 (k + 1)) 900).1.length cp3) (atmostOf m (wrap64 (k + 1)) 900).1, sC (.slice Ap2 (atmostOf l k 1000).1.length cp2) (atmostOf l k 1000).1, rB (.slice Af2 (fillOf on k).1.length cf2) (fillOf on k).1, fC Aw1 (atmostOf l k 1000).1, rB (.slice Au1 (fillOf on k).1.length cu1) (fillOf on k).1] W16) := ⟨hsep⟩
  obtain ⟨on2, hon2⟩ : ∃ q, q = ob.take on.length := ⟨_, rfl⟩
  have HO2b : Aside0 (on.length = on2.length ∧ ob.take on.length = on2 ∧ on.length ≤ ob.length) := ⟨by rw [lentB_length] at hob; exact ⟨by rw [hon2, List.length_take]; omega, hon2.symm, by omega⟩⟩
  clear hsep hob hon2 HOb
  go_wp2_with fail
  (with_reducible refine (sameClauses_c Ap1 Aw1 cp1 cw1 (atmostOf l k 1000).1 _ (Kd.S_reads' (H16.out.get 2 rfl)).2.2 (Kd.S_reads' (H16.out.get 2 rfl)).2.1 (foot_now (H16.out.get 7 rfl)) HCw1.out (by have := HL1.out.1; omega) (fun x hx => by have := HL1.out.2 x hx; omega)).mono ?_)
  rintro e W17 ⟨rfl, hd⟩
  have H17 : Aside0 (Sep w (fun _ => False) [rI (.slice (some ax) nx cx) ox, rB (.slice (some ab) nb cb) ob, sC (.slice Ap1 (atmostOf l k 1000).1.length cp1) (atmostOf l k 1000).1, rB (.slice Af1 (fillOf on k).1.length cf1) (fillOf on k).1, sC (.slice Ap3 (atmostOf m (wrap64 (k + 1)) 900).1.length cp3) (atmostOf m (wrap64 (k + 1)) 900).1, sC (.slice Ap2 (atmostOf l k 1000).1.length cp2) (atmostOf l k 1000).1, rB (.slice Af2 (fillOf on k).1.length cf2) (fillOf on k).1, fC Aw1 (atmostOf l k 1000).1, rB (.slice Au1 (fillOf on k).1.length cu1) (fillOf on k).1] W17) := ⟨H16.out.keep hd.below⟩
  clear H16
  clear hd
  go_wp2_with fail
  (with_reducible refine (sameBools_c Af1 Au1 cf1 cu1 (fillOf on k).1 _ (Kd.R_reads' (H17.out.get 3 rfl)).2.2 (Kd.R_reads' (H17.out.get 3 rfl)).2.1 (Kd.R_reads' (H17.out.get 8 rfl)).2.2 (Kd.R_reads' (H17.out.get 8 rfl)).2.1 (by have := HF1.out; omega)).mono ?_)
  rintro e W18 ⟨rfl, hd⟩
  have H18 : Aside0 (Sep w (fun _ => False) [rI (.slice (some ax) nx cx) ox, rB (.slice (some ab) nb cb) ob, sC (.slice Ap1 (atmostOf l k 1000).1.length cp1) (atmostOf l k 1000).1, rB (.slice Af1 (fillOf on k).1.length cf1) (fillOf on k).1, sC (.slice Ap3 (atmostOf m (wrap64 (k + 1)) 900).1.length cp3) (atmostOf m (wrap64 (k + 1)) 900).1, sC (.slice Ap2 (atmostOf l k 1000).1.length cp2) (atmostOf l k 1000).1, rB (.slice Af2 (fillOf on k).1.length cf2) (fillOf on k).1, fC Aw1 (atmostOf l k 1000).1, rB (.slice Au1 (fillOf on k).1.length cu1) (fillOf on k).1] W18) := ⟨H17.out.keep hd.below⟩
  clear H17
  clear hd
  go_wp2_with fail
  (with_reducible refine (fill_n HO2b.out.1 (some ab) cb k _ (head_CB H18.out 1 rfl (ys := on2) HO2b.out.2.2 HO2b.out.2.1 HO2b.out.1.symm) hleb (by have := HN.out; omega) HK64.out).mono ?_)
  rintro e W19 ⟨u, rfl, hS, hb⟩
  obtain ⟨Af4, cf4, rfl⟩ : ∃ A c, u = .slice A (fillOf on2 k).1.length c := Kd.R_slice hS
  have H19 : Aside0 (Sep w (fun _ => False) [rI (.slice (some ax) nx cx) ox, rB (.slice (some ab) nb cb) ob, sC (.slice Ap1 (atmostOf l k 1000).1.length cp1) (atmostOf l k 1000).1, rB (.slice Af1 (fillOf on k).1.length cf1) (fillOf on k).1, sC (.slice Ap3 (atmostOf m (wrap64 (k + 1)) 900).1.length cp3) (atmostOf m (wrap64 (k + 1)) 900).1, sC (.slice Ap2 (atmostOf l k 1000).1.length cp2) (atmostOf l k 1000).1, rB (.slice Af2 (fillOf on k).1.length cf2) (fillOf on k).1, fC Aw1 (atmostOf l k 1000).1, rB (.slice Au1 (fillOf on k).1.length cu1) (fillOf on k).1, rB (.slice Af4 (fillOf on2 k).1.length cf4) (fillOf on2 k).1] W19) := ⟨H18.out.push hb (HX.out _) hS⟩
  clear H18
  clear hS hb
  go_wp2_with fail
  (with_reducible refine (refFill_n HO2b.out.1 (some ab) cb k _ (head_CB H19.out 1 rfl (ys := on2) HO2b.out.2.2 HO2b.out.2.1 HO2b.out.1.symm) hleb (by have := HN.out; omega) HK64.out).mono ?_)
  rintro e W20 ⟨u, rfl, hS, hb⟩
  obtain ⟨Au2, cu2, rfl⟩ : ∃ A c, u = .slice A (fillOf on2 k).1.length c := Kd.R_slice hS
  have H20 : Aside0 (Sep w (fun _ => False) [rI (.slice (some ax) nx cx) ox, rB (.slice (some ab) nb cb) ob, sC (.slice Ap1 (atmostOf l k 1000).1.length cp1) (atmostOf l k 1000).1, rB (.slice Af1 (fillOf on k).1.length cf1) (fillOf on k).1, sC (.slice Ap3 (atmostOf m (wrap64 (k + 1)) 900).1.length cp3) (atmostOf m (wrap64 (k + 1)) 900).1, sC (.slice Ap2 (atmostOf l k 1000).1.length cp2) (atmostOf l k 1000).1, rB (.slice Af2 (fillOf on k).1.length cf2) (fillOf on k).1, fC Aw1 (atmostOf l k 1000).1, rB (.slice Au1 (fillOf on k).1.length cu1) (fillOf on k).1, rB (.slice Af4 (fillOf on2 k).1.length cf4) (fillOf on2 k).1, rB (.slice Au2 (fillOf on2 k).1.length cu2) (fillOf on2 k).1] W20) := ⟨H19.out.push hb (HX.out _) hS⟩
  clear H19
  clear hS hb
  have HF4 := Aside0.mk (fillOf_small on2 k (by have := HO2b.out.1; have := HN.out; omega) HK64.out)
  go_wp2_with fail
  (with_reducible refine (sameBools_c Af4 Au2 cf4 cu2 (fillOf on2 k).1 _ (Kd.R_reads' (H20.out.get 9 rfl)).2.2 (Kd.R_reads' (H20.out.get 9 rfl)).2.1 (Kd.R_reads' (H20.out.get 10 rfl)).2.2 (Kd.R_reads' (H20.out.get 10 rfl)).2.1 (by have := HF4.out; omega)).mono ?_)
  rintro e W21 ⟨rfl, hd⟩
  have H21 : Aside0 (Sep w (fun _ => False) [rI (.slice (some ax) nx cx) ox, rB (.slice (some ab) nb cb) ob, sC (.slice Ap1 (atmostOf l k 1000).1.length cp1) (atmostOf l k 1000).1, rB (.slice Af1 (fillOf on k).1.length cf1) (fillOf on k).1, sC (.slice Ap3 (atmostOf m (wrap64 (k + 1)) 900).1.length cp3) (atmostOf m (wrap64 (k + 1)) 900).1, sC (.slice Ap2 (atmostOf l k 1000).1.length cp2) (atmostOf l k 1000).1, rB (.slice Af2 (fillOf on k).1.length cf2) (fillOf on k).1, fC Aw1 (atmostOf l k 1000).1, rB (.slice Au1 (fillOf on k).1.length cu1) (fillOf on k).1, rB (.slice Af4 (fillOf on2 k).1.length cf4) (fillOf on2 k).1, rB (.slice Au2 (fillOf on2 k).1.length cu2) (fillOf on2 k).1] W21) := ⟨H20.out.keep hd.below⟩
  clear H20
  clear hd
  go_wp2_with fail
  (with_reducible refine (atmost_n HO2x.out.1 (some ax) cx k 1000 _ (head_C H21.out 0 rfl (ys := l2) HO2x.out.2.2 HO2x.out.2.1 HO2x.out.1.symm) (by have := HN.out; omega) HK.out).mono ?_)
  rintro e W22 ⟨u, rfl, hS, hb⟩
  obtain ⟨Ap4, cp4, rfl⟩ : ∃ A c, u = .slice A (atmostOf l2 k 1000).1.length c := Kd.S_slice hS
  have H22 : Aside0 (Sep w (fun _ => False) [rI (.slice (some ax) nx cx) ox, rB (.slice (some ab) nb cb) ob, sC (.slice Ap1 (atmostOf l k 1000).1.length cp1) (atmostOf l k 1000).1, rB (.slice Af1 (fillOf on k).1.length cf1) (fillOf on k).1, sC (.slice Ap3 (atmostOf m (wrap64 (k + 1)) 900).1.length cp3) (atmostOf m (wrap64 (k + 1)) 900).1, sC (.slice Ap2 (atmostOf l k 1000).1.length cp2) (atmostOf l k 1000).1, rB (.slice Af2 (fillOf on k).1.length cf2) (fillOf on k).1, fC Aw1 (atmostOf l k 1000).1, rB (.slice Au1 (fillOf on k).1.length cu1) (fillOf on k).1, rB (.slice Af4 (fillOf on2 k).1.length cf4) (fillOf on2 k).1, rB (.slice Au2 (fillOf on2 k).1.length cu2) (fillOf on2 k).1, sC (.slice Ap4 (atmostOf l2 k 1000).1.length cp4) (atmostOf l2 k 1000).1] W22) := ⟨H21.out.push hb (HX.out _) hS⟩
  clear H21
  clear hS hb
  go_wp2_with fail
  (with_reducible refine (ref_n HO2x.out.1 (some ax) cx k 1000 _ (head_C H22.out 0 rfl (ys := l2) HO2x.out.2.2 HO2x.out.2.1 HO2x.out.1.symm) hlex (by have := HN.out; omega) HK.out.2).mono ?_)
  rintro e W23 ⟨Aw2, cw2, rfl, hc, hS, hb⟩
  have HCw2 := Aside0.mk hc
  have H23 : Aside0 (Sep w (fun _ => False) [rI (.slice (some ax) nx cx) ox, rB (.slice (some ab) nb cb) ob, sC (.slice Ap1 (atmostOf l k 1000).1.length cp1) (atmostOf l k 1000).1, rB (.slice Af1 (fillOf on k).1.length cf1) (fillOf on k).1, sC (.slice Ap3 (atmostOf m (wrap64 (k + 1)) 900).1.length cp3) (atmostOf m (wrap64 (k + 1)) 900).1, sC (.slice Ap2 (atmostOf l k 1000).1.length cp2) (atmostOf l k 1000).1, rB (.slice Af2 (fillOf on k).1.length cf2) (fillOf on k).1, fC Aw1 (atmostOf l k 1000).1, rB (.slice Au1 (fillOf on k).1.length cu1) (fillOf on k).1, rB (.slice Af4 (fillOf on2 k).1.length cf4) (fillOf on2 k).1, rB (.slice Au2 (fillOf on2 k).1.length cu2) (fillOf on2 k).1, sC (.slice Ap4 (atmostOf l2 k 1000).1.length cp4) (atmostOf l2 k 1000).1, fC Aw2 (atmostOf l2 k 1000).1] W23) := ⟨H22.out.push hb (HX.out _) hS⟩
  clear H22
  clear hc hS hb
  have HL4 := Aside0.mk (atmostOf_small l2 k 1000 (by have := HO2x.out.1; have := HN.out; omega) (by have := HK64.out; omega))
  go_wp2_with fail
  (with_reducible refine (sameClauses_c Ap4 Aw2 cp4 cw2 (atmostOf l2 k 1000).1 _ (Kd.S_reads' (H23.out.get 11 rfl)).2.2 (Kd.S_reads' (H23.out.get 11 rfl)).2.1 (foot_now (H23.out.get 12 rfl)) HCw2.out (by have := HL4.out.1; omega) (fun x hx => by have := HL4.out.2 x hx; omega)).mono ?_)
  rintro e W24 ⟨rfl, hd⟩
  have H24 : Aside0 (Sep w (fun _ => False) [rI (.slice (some ax) nx cx) ox, rB (.slice (some ab) nb cb) ob, sC (.slice Ap1 (atmostOf l k 1000).1.length cp1) (atmostOf l k 1000).1, rB (.slice Af1 (fillOf on k).1.length cf1) (fillOf on k).1, sC (.slice Ap3 (atmostOf m (wrap64 (k + 1)) 900).1.length cp3) (atmostOf m (wrap64 (k + 1)) 900).1, sC (.slice Ap2 (atmostOf l k 1000).1.length cp2) (atmostOf l k 1000).1, rB (.slice Af2 (fillOf on k).1.length cf2) (fillOf on k).1, fC Aw1 (atmostOf l k 1000).1, rB (.slice Au1 (fillOf on k).1.length cu1) (fillOf on k).1, rB (.slice Af4 (fillOf on2 k).1.length cf4) (fillOf on2 k).1, rB (.slice Au2 (fillOf on2 k).1.length cu2) (fillOf on2 k).1, sC (.slice Ap4 (atmostOf l2 k 1000).1.length cp4) (atmostOf l2 k 1000).1, fC Aw2 (atmostOf l2 k 1000).1] W24) := ⟨H23.out.keep hd.below⟩
  clear H23
  clear hd
  have HMD := H24.out.made (apartK 33 (Kd.slice 3 (Kd.int .i64))) rfl 34 [(2, (.slice Ap1 (atmostOf l k 1000).1.length cp1), (atmostOf l k 1000).1), (5, (.slice Ap2 (atmostOf l k 1000).1.length cp2), (atmostOf l k 1000).1), (4, (.slice Ap3 (atmostOf m (wrap64 (k + 1)) 900).1.length cp3), (atmostOf m (wrap64 (k + 1)) 900).1), (11, (.slice Ap4 (atmostOf l2 k 1000).1.length cp4), (atmostOf l2 k 1000).1)] (fun q r hq => by
    rcases q with _ | _ | _ | _ | q
    · injection hq with hq; subst hq; exact ⟨_, rfl, fun ok h => ⟨_, rfl, h⟩⟩
    · injection hq with hq; subst hq; exact ⟨_, rfl, fun ok h => ⟨_, rfl, h⟩⟩
    · injection hq with hq; subst hq; exact ⟨_, rfl, fun ok h => ⟨_, rfl, h⟩⟩
    · injection hq with hq; subst hq; exact ⟨_, rfl, fun ok h => ⟨_, rfl, h⟩⟩
    · simp at hq) (show [2, 5, 4, 11].Nodup by decide) (HX.out _) (show 4 ≤ maxLen by decide)
  obtain ⟨ok4, hP4, hK4⟩ := Sep.use HMD 13 rfl (by simp)
  have HP4 := Aside0.mk hP4
  have HK4 := Aside0.mk hK4
  clear hP4 hK4 HMD H24
  have HCL : Aside0 (Calls Try.prog 28 #[.slice (some ⟨W24.heap.size, 0, none⟩) 4 4] (W24.alloc (.cells #[(.slice Ap1 (atmostOf l k 1000).1.length cp1), (.slice Ap2 (atmostOf l k 1000).1.length cp2), (.slice Ap3 (atmostOf m (wrap64 (k + 1)) 900).1.length cp3), (.slice Ap4 (atmostOf l2 k 1000).1.length cp4)] 34)) fun e w' => e = .returned (.bool true) ∧ Grow (fun b => ok4 b ∧ b < (W24.alloc (.cells #[(.slice Ap1 (atmostOf l k 1000).1.length cp1), (.slice Ap2 (atmostOf l k 1000).1.length cp2), (.slice Ap3 (atmostOf m (wrap64 (k + 1)) 900).1.length cp3), (.slice Ap4 (atmostOf l2 k 1000).1.length cp4)] 34)).heap.size) (W24.alloc (.cells #[(.slice Ap1 (atmostOf l k 1000).1.length cp1), (.slice Ap2 (atmostOf l k 1000).1.length cp2), (.slice Ap3 (atmostOf m (wrap64 (k + 1)) 900).1.length cp3), (.slice Ap4 (atmostOf l2 k 1000).1.length cp4)] 34)) w') := ⟨apartClauses_calls _ 4 [(atmostOf l k 1000).1, (atmostOf l k 1000).1, (atmostOf m (wrap64 (k + 1)) 900).1, (atmostOf l2 k 1000).1] ok4 _ HP4.out (show 4 ≤ _ by decide) (four_a HL1.out HL1.out HL3.out HL4.out).1 (four_a HL1.out HL1.out HL3.out HL4.out).2.1 (four_a HL1.out HL1.out HL3.out HL4.out).2.2⟩
  go_wp2_with fail
  (with_reducible refine (HCL.out).mono ?_)
  rintro e W25 ⟨rfl, hg⟩
  have H25 : Aside0 (Sep w (fun _ => False) [rI (.slice (some ax) nx cx) ox, rB (.slice (some ab) nb cb) ob, .emp, rB (.slice Af1 (fillOf on k).1.length cf1) (fillOf on k).1, .emp, .emp, rB (.slice Af2 (fillOf on k).1.length cf2) (fillOf on k).1, fC Aw1 (atmostOf l k 1000).1, rB (.slice Au1 (fillOf on k).1.length cu1) (fillOf on k).1, rB (.slice Af4 (fillOf on2 k).1.length cf4) (fillOf on2 k).1, rB (.slice Au2 (fillOf on2 k).1.length cu2) (fillOf on2 k).1, .emp, fC Aw2 (atmostOf l2 k 1000).1, .emp] W25) := ⟨HK4.out W25 .emp hg trivial⟩
  clear hg HK4 HP4 HCL
  have HMD := H25.out.made (Kd.slice 4 Kd.bool) rfl 26 [(3, (.slice Af1 (fillOf on k).1.length cf1), (fillOf on k).1), (6, (.slice Af2 (fillOf on k).1.length cf2), (fillOf on k).1), (9, (.slice Af4 (fillOf on2 k).1.length cf4), (fillOf on2 k).1)] (fun q r hq => by
    rcases q with _ | _ | _ | q
    · injection hq with hq; subst hq; exact ⟨_, rfl, fun ok h => ⟨_, rfl, h⟩⟩
    · injection hq with hq; subst hq; exact ⟨_, rfl, fun ok h => ⟨_, rfl, h⟩⟩
    · injection hq with hq; subst hq; exact ⟨_, rfl, fun ok h => ⟨_, rfl, h⟩⟩
    · simp at hq) (show [3, 6, 9].Nodup by decide) (HX.out _) (show 3 ≤ maxLen by decide)
  obtain ⟨ok3, hP3, hK3⟩ := Sep.use HMD 14 rfl (by simp)
  have HP3 := Aside0.mk hP3
  have HK3 := Aside0.mk hK3
  clear hP3 hK3 HMD H25
  have HBL : Aside0 (Calls Try.prog 29 #[.slice (some ⟨W25.heap.size, 0, none⟩) 3 3] (W25.alloc (.cells #[(.slice Af1 (fillOf on k).1.length cf1), (.slice Af2 (fillOf on k).1.length cf2), (.slice Af4 (fillOf on2 k).1.length cf4)] 26)) fun e w' => e = .returned (.bool true) ∧ Grow (fun b => ok3 b ∧ b < (W25.alloc (.cells #[(.slice Af1 (fillOf on k).1.length cf1), (.slice Af2 (fillOf on k).1.length cf2), (.slice Af4 (fillOf on2 k).1.length cf4)] 26)).heap.size) (W25.alloc (.cells #[(.slice Af1 (fillOf on k).1.length cf1), (.slice Af2 (fillOf on k).1.length cf2), (.slice Af4 (fillOf on2 k).1.length cf4)] 26)) w') := ⟨apartBools_S HP3.out (show 3 ≤ _ by decide) (three_a HF1.out HF1.out HF4.out)⟩
  go_wp2_with fail
  (with_reducible refine (HBL.out).mono ?_)
  rintro e W26 ⟨rfl, hg⟩
  have HE := Aside0.mk (HK3.out W26 .emp hg trivial).hB
  clear hg HK3 HP3 HBL
  go_wp2_with fail
  go_ret
  exact ⟨rfl, HE.out⟩
end Go.Proofs.YtlemkghpcbkcpaaHand
/-! text YtlemkghpcbkcpaaAkLaw -/
namespace Go.Proofs.Ytlemkghpcbkcpaa.PAtmostKeeps
open Go.RowKit Go.Proofs.YtlemkghpcbkcpaaW.PrintWords Go.Proofs.YtlemkghpcbkcpaaW.PrintLast
set_option linter.unusedVariables false
def depotlaw27_AtmostKeeps.f (l0 l1 : List Int) (a2 : Int) (l3 : List Bool) : Option Bool := if l0.length ≤ 1048576 ∧ l1.length ≤ 1048576 ∧ l3.length ≤ 1048576 ∧ -9223372036854775808 ≤ a2 ∧ a2 ≤ 9223372036854775807 then some true else none
theorem depotlaw27_AtmostKeeps.calls (A0 : Option Addr) (c0 : Nat) (l0 : List Int) (A1 : Option Addr) (c1 : Nat) (l1 : List Int) (a2 : Int) (A3 : Option Addr) (c3 : Nat) (l3 : List Bool) (r : Bool) (w : World) (hr0 : Kd.C (Kd.int .i64) w A0 l0.length l0) (hc0 : l0.length ≤ c0) (hr1 : Kd.C (Kd.int .i64) w A1 l1.length l1) (hc1 : l1.length ≤ c1) (hr3 : Kd.C Kd.bool w A3 l3.length l3) (hc3 : l3.length ≤ c3) (h : depotlaw27_AtmostKeeps.f l0 l1 a2 l3 = some r) :
    Calls Try.prog 8 #[.slice A0 l0.length c0, .slice A1 l1.length c1, .int .i64 a2, .slice A3 l3.length c3] w fun e w' => e = .returned (.bool r) ∧ Below w.heap.size w w' := by
  unfold depotlaw27_AtmostKeeps.f at h
  split at h
  · rename_i hh
    obtain rfl := Option.some.inj h
    exact Go.Proofs.YtlemkghpcbkcpaaHand.ak_calls A0 A1 A3 c0 c1 c3 l0 l1 a2 l3 w hr0 hc0 hr1 hc1 hr3 hc3 hh.1 hh.2.1 hh.2.2.1 hh.2.2.2
  · cases h
#print axioms depotlaw27_AtmostKeeps.calls
end Go.Proofs.Ytlemkghpcbkcpaa.PAtmostKeeps
/-! text YtlemkghpcbkcpaaStatAtmostKeeps -/
namespace Go.Proofs.Ytlemkghpcbkcpaa.PAtmostKeeps
open Go.RowKit Go.Proofs.YtlemkghpcbkcpaaW.PrintWords Go.Proofs.YtlemkghpcbkcpaaW.PrintLast Go.Proofs.YtlemkghpcbkcpaaW.PrintMore Go.Proofs.YtlemkghpcbkcpaaOpens
set_option linter.unusedVariables false
set_option linter.unusedSimpArgs false
def Stmt : Prop := ∀ (l0 : List (Int)) (l1 : List (Int)) (a2 : Int) (l3 : List (Bool)), (l0.length * 8 ≤ 140737488351232 ∧ ∀ y1 ∈ l0, (Lit.int .i64 y1).wf = true) → (l1.length * 8 ≤ 140737488351232 ∧ ∀ y3 ∈ l1, (Lit.int .i64 y3).wf = true) → ((Lit.int .i64 a2).wf = true) → (l3.length * 1 ≤ 140737488351232 ∧ ∀ y5 ∈ l3, True) → (sumOf (fun y2 => 1) l0 + 1) + (sumOf (fun y4 => 1) l1 + 1) + 1 + (sumOf (fun y6 => 1) l3 + 1) ≤ 1048576 → depotlaw27_AtmostKeeps.f l0 l1 a2 l3 = some true
theorem walk (P : Stmt) (A0 : Option Addr) (c0 : Nat) (l0 : List (Int)) (A1 : Option Addr) (c1 : Nat) (l1 : List (Int)) (a2 : Int) (A3 : Option Addr) (c3 : Nat) (l3 : List (Bool)) (w : World) (hr0 : Kd.C (Kd.int .i64) w A0 l0.length l0) (hc0 : l0.length ≤ c0) (hr1 : Kd.C (Kd.int .i64) w A1 l1.length l1) (hc1 : l1.length ≤ c1) (hr3 : Kd.C Kd.bool w A3 l3.length l3) (hc3 : l3.length ≤ c3) (ok0 : l0.length * 8 ≤ 140737488351232 ∧ ∀ y1 ∈ l0, (Lit.int .i64 y1).wf = true) (ok1 : l1.length * 8 ≤ 140737488351232 ∧ ∀ y3 ∈ l1, (Lit.int .i64 y3).wf = true) (ok2 : (Lit.int .i64 a2).wf = true) (ok3 : l3.length * 1 ≤ 140737488351232 ∧ ∀ y5 ∈ l3, True) (hm : (sumOf (fun y2 => 1) l0 + 1) + (sumOf (fun y4 => 1) l1 + 1) + 1 + (sumOf (fun y6 => 1) l3 + 1) ≤ 1048576) :
    Calls Try.prog 8 #[.slice A0 l0.length c0, .slice A1 l1.length c1, .int .i64 a2, .slice A3 l3.length c3] w fun e w' => e = .returned (.bool true) ∧ Below w.heap.size w w' := by
  have h := P l0 l1 a2 l3 ok0 ok1 ok2 ok3 hm
  refine (depotlaw27_AtmostKeeps.calls A0 c0 l0 A1 c1 l1 a2 A3 c3 l3 true w hr0 hc0 hr1 hc1 hr3 hc3 h).mono ?_
  rintro e w' ⟨rfl, hd⟩
  exact ⟨rfl, hd⟩
end Go.Proofs.Ytlemkghpcbkcpaa.PAtmostKeeps
/-! text YtlemkghpcbkcpaaPureAtmostKeeps -/
namespace Go.Proofs.Ytlemkghpcbkcpaa.Pure
open Go.RowKit Go.Proofs.Ytlemkghpcbkcpaa.PAtmostKeeps Go.Proofs.YtlemkghpcbkcpaaW.PrintWords Go.Proofs.YtlemkghpcbkcpaaW.PrintLast Go.Proofs.YtlemkghpcbkcpaaOpens Go.Proofs.YtlemkghpcbkcpaaMath

theorem sumOf_one {α : Type} (l : List α) : sumOf (fun _ => 1) l = l.length := by
  induction l with
  | nil => rfl
  | cons x l ih => simp only [sumOf, ih, List.length_cons]; omega

theorem AtmostKeeps : PAtmostKeeps.Stmt := by
  intro l0 l1 a2 l3 _ _ h2 _ hm
  rw [sumOf_one, sumOf_one, sumOf_one] at hm
  have hb := wf_lo h2
  unfold depotlaw27_AtmostKeeps.f
  rw [if_pos ⟨by omega, by omega, by omega, hb.1, hb.2⟩]

end Go.Proofs.Ytlemkghpcbkcpaa.Pure
/-! text YtlemkghpcbkcpaaRowAtmostKeeps -/
namespace Go.Proofs.Ytlemkghpcbkcpaa.atmostKeeps
open Go.ChangeShapes Go.WideShapes Go.ChangeAt Go.RowKit Go.Joins
open Go.Proofs.YtlemkghpcbkcpaaOpens Go.Proofs.YtlemkghpcbkcpaaW.PrintWords Go.Proofs.Ytlemkghpcbkcpaa.PAtmostKeeps
set_option linter.unusedVariables false
set_option linter.unusedSimpArgs false
theorem own : ownKnob Try.prog.godebug = none := by kernel_rfl
theorem laidOut : laidOutB Try.prog = true := by kernel_rfl
set_option maxRecDepth 100000 in
theorem contract (H : Type) (enc : TypeId × Value → H) (W : World) (base : Nat) (args : Array Value) (ds gs : List (DataW H)) (before : List MemPlace)
    (hval0 : ∀ (j : Nat) t v, Try.f8.params[j]? = some t → args[j]? = some v → Value.okWide Try.prog W .any base t v)
    (hW : DataW.Whole enc Try.prog Try.f8.params.toList Rows.atmostKeepsSpec.vars false W args.toList ds gs before)
    (hsz0 : (DataW.weightsEach Try.prog (Try.f8.params.toList ++ Rows.atmostKeepsSpec.plain.varTypes Try.prog) (ds ++ gs)).all (· ≤ reachBytes) = true) (hk : Rows.uptoSmall H (ds ++ gs) = true) :
    Calls Try.prog 8 args W fun e W' => ∃ v, e = .returned v ∧ Rows.atmostKeepsSpec.post enc Try.prog Try.f8 false true false false W args v W' := by
  have hsz := hsz0
  have hval : ∀ (j : Nat) t v, Try.f8.params[j]? = some t → args[j]? = some v → Value.okWide Try.prog W .any base t v := hval0
  have hW' := hW
  obtain ⟨p, q, hA0, hV, rfl, hfz, hnd⟩ := hW
  have hA : DataW.TrodAll enc Try.prog W 0 (fun _ => true) true Try.f8.params.toList args.toList ds p := hA0
  rw [Try.params8] at hA hval hsz
  obtain ⟨v0, vs0, d0, ds0, p0, q0, hargs, rfl, rfl, h0, r0⟩ := trodAll_cons hA
  obtain ⟨v1, vs1, d1, ds1, p1, q1, rfl, rfl, rfl, h1, r1⟩ := trodAll_cons r0
  obtain ⟨v2, vs2, d2, ds2, p2, q2, rfl, rfl, rfl, h2, r2⟩ := trodAll_cons r1
  obtain ⟨v3, vs3, d3, ds3, p3, q3, rfl, rfl, rfl, h3, r3⟩ := trodAll_cons r2
  obtain ⟨rfl, rfl, rfl⟩ := trodAll_nil r3
  obtain rfl : args = #[v0, v1, v2, v3] := by cases args; simp_all
  obtain ⟨rfl, rfl⟩ := trodVars_none hV
  obtain ⟨A0, len0, c0, rfl⟩ := okWide_slice Try.underlying33 (hval 0 33 v0 rfl rfl)
  have k0 := h0
  have lt0 : ∀ x ∈ p0, x.block < W.heap.size := by obtain ⟨m, hm⟩ := k0; exact DataW.trod_lt m _ _ _ hm
  obtain ⟨l0, rfl, hr0, hc0, ok0, m0⟩ := slice_arg (opens_slice (B := 8) (opens_int Try.underlying3 (by kernel_rfl)) Try.underlying33 (by kernel_rfl) (by kernel_rfl)) h0 (reach_of hsz (j := 0) (t := 33) rfl rfl)
  obtain ⟨A1, len1, c1, rfl⟩ := okWide_slice Try.underlying33 (hval 1 33 v1 rfl rfl)
  have k1 := h1
  have lt1 : ∀ x ∈ p1, x.block < W.heap.size := by obtain ⟨m, hm⟩ := k1; exact DataW.trod_lt m _ _ _ hm
  obtain ⟨l1, rfl, hr1, hc1, ok1, m1⟩ := slice_arg (opens_slice (B := 8) (opens_int Try.underlying3 (by kernel_rfl)) Try.underlying33 (by kernel_rfl) (by kernel_rfl)) h1 (reach_of hsz (j := 1) (t := 33) rfl rfl)
  obtain ⟨a2, rfl, rfl, rfl, w2⟩ := open_int Try.underlying3 (hval 2 3 v2 rfl rfl) h2
  obtain ⟨A3, len3, c3, rfl⟩ := okWide_slice Try.underlying26 (hval 3 26 v3 rfl rfl)
  have k3 := h3
  have lt3 : ∀ x ∈ p3, x.block < W.heap.size := by obtain ⟨m, hm⟩ := k3; exact DataW.trod_lt m _ _ _ hm
  obtain ⟨l3, rfl, hr3, hc3, ok3, m3⟩ := slice_arg (opens_slice (B := 1) (opens_bool Try.underlying4 (by kernel_rfl)) Try.underlying26 (by kernel_rfl) (by kernel_rfl)) h3 (reach_of hsz (j := 3) (t := 26) rfl rfl)
  have hm := bulk_of hk
  simp only [List.append_nil, Rows.uptoBulkAll, Rows.uptoBulk] at hm
  clear hA0 hval0 hsz0 hsz
  refine (PAtmostKeeps.walk Pure.AtmostKeeps A0 c0 l0 A1 c1 l1 a2 A3 c3 l3 W hr0 hc0 hr1 hc1 hr3 hc3 ok0 ok1 w2 ok3 (by first | omega | (simp only [sumOf] at *; omega))).mono fun e W' ⟨he, bel⟩ => ?_
  subst he
  exact ⟨_, rfl, _, _, _, [], _, [], hW', trodAll_mk1 (shut_bool Try.underlying4 _), (trodAll_cons_mk (Below.trod laidOut (by kernel_rfl) (of_decide_eq_true (by kernel_rfl)) k0 bel lt0) (trodAll_cons_mk (Below.trod laidOut (by kernel_rfl) (of_decide_eq_true (by kernel_rfl)) k1 bel lt1) (trodAll_cons_mk (shut_int Try.underlying3 w2) (trodAll_cons_mk (Below.trod laidOut (by kernel_rfl) (of_decide_eq_true (by kernel_rfl)) k3 bel lt3) trodAll_mk0)))), rfl, bel.frame _, fun h => by cases h⟩
set_option maxRecDepth 100000 in
theorem lifted (os : Os) (started : os.Started) (H : Type) (enc : TypeId × Value → H) (F : Stop.Interp) :
    ReturnsInHanded {} Try.checked os 8 .any ((Rows.OpenSpec.upto Rows.atmostKeepsSpec).pre6 enc Try.prog Try.f8 Rows.atmostKeepsUptoRow.domain false) (((Rows.OpenSpec.upto Rows.atmostKeepsSpec).at F).post enc Try.prog Try.f8 false true false false) := by
  refine returnsInHanded_of_cond_sized (C := Try.checked) (s := Rows.OpenSpec.upto Rows.atmostKeepsSpec) (k := Rows.uptoSmall) rfl own started (by kernel_rfl) Try.func8
    (OpenSpec.witness (enc := enc) (C := Try.checked) (s := Rows.OpenSpec.upto Rows.atmostKeepsSpec) (k := Rows.uptoSmall) rfl false ⟨#[], #[.slice none 0 0, .slice none 0 0, .int .i64 0, .slice none 0 0], []⟩ 8 (by kernel_rfl) (by kernel_rfl) (by kernel_rfl)
      (x := ([.nil, .nil, .lit (.int .i64 0), .nil], [], [])) (by kernel_rfl) rfl (by kernel_rfl)) ?_
  intro W base args ds gs before hval hW _ hk hsz _
  exact contract H enc W base args ds gs before hval hW hsz hk
set_option maxRecDepth 100000 in
theorem over : Rows.atmostKeepsUptoRow.holds Try.pinned (Rows.OpenSpec.upto Rows.atmostKeepsSpec) :=
  OpenClaim.holds_of_cond 8 Try.f8 rfl rfl rfl rfl rfl rfl rfl ⟨rfl, rfl, rfl, rfl, rfl⟩ rfl rfl rfl rfl rfl (by kernel_rfl) Try.func8 (by kernel_rfl)
    (of_decide_eq_true (by kernel_rfl)) (by unfold Func.isWrapper; first | (rw [if_pos (by decide +kernel)]; kernel_rfl) | (rw [if_neg (by decide +kernel)]; exact ⟨rfl, rfl⟩))
    (fun os started H enc _ F => lifted os started H enc F)
theorem proved : Rows.AtmostKeepsUptoSaid := over
#print axioms proved
end Go.Proofs.Ytlemkghpcbkcpaa.atmostKeeps
namespace Go.Proofs.Ytlemkghpcbkcpaa
theorem atmostKeepsupto_holds : Rows.AtmostKeepsUptoSaid := atmostKeeps.proved
end Go.Proofs.Ytlemkghpcbkcpaa
