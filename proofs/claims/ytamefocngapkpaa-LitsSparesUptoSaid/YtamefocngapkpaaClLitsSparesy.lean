/- The law LitsSpares answers true, of lists of some size. -/
import Derived.Test.YtamefocngapkpaaClLitsSparesw
import Derived.Test.YtamefocngapkpaaClLitsSparesu
import Derived.Test.YtamefocngapkpaaClLitsSparesx
import Derived.Sort.CutIn
import Derived.Laws.EntriesVeiled
/-! text YtamefocngapkpaaSpares -/
namespace Go.Proofs.YtamefocngapkpaaHand
open Go.RowKit Go.Sort Go.Lib Go.Shelf Go.Proofs.YtamefocngapkpaaW.PrintWords Go.Proofs.YtamefocngapkpaaW.PrintLast Go.Proofs.YtamefocngapkpaaMath Go.Proofs.YtamefocngapkpaaOwn Go.Proofs.Ytamefocngapkpaa.PLitsSpares
attribute [local go_sem] Oper.semAt_some
set_option linter.unusedVariables false
set_option linter.unusedSimpArgs false
theorem undef_bool (b : Bool) : (undef = Value.bool b) = False := by simp [undef]
attribute [local simp, local go_sem] undef_bool

abbrev wantA (Aw : Option Addr) (a b : List Int) (l v : Int) : Asr := .foot fun W => Kd.C (Kd.slice 3 (Kd.int .i64)) W Aw (toldOf a b l v).length (toldOf a b l v)
abbrev gotA (u : Value) (a b : List Int) (l v : Int) : Asr := .rows (Kd.slice 3 (Kd.int .i64)) 26 u (toldOf a b l v)

set_option maxRecDepth 100000 in
set_option maxHeartbeats 8000000 in
theorem spares_calls (A0 A1 : Option Addr) (c0 c1 : Nat) (a b : List Int) (l : Int) (w : World) (hra : Kd.C (Kd.int .i64) w A0 a.length a) (hca : a.length ≤ c0) (hrb : Kd.C (Kd.int .i64) w A1 b.length b) (hcb : b.length ≤ c1)
    (na : a.length ≤ 1048576) (nb : b.length ≤ 1048576) (hl : -9223372036854775808 ≤ l ∧ l ≤ 9223372036854775807) :
    Calls Try.prog 14 #[.slice A0 a.length c0, .slice A1 b.length c1, .int .i64 l] w fun e w' => e = .returned (.bool true) ∧ Below w.heap.size w w' := by
  have HRA := Aside0.mk hra
  have HRB := Aside0.mk hrb
  have HNN := Aside0.mk (And.intro na nb)
  have HCC := Aside0.mk (And.intro hca hcb)
  have HL := Aside0.mk hl
  have HX : Aside0 (∀ (W : World) b, (fun _ : Nat => False) b → b < W.heap.size) := ⟨fun _ _ h => h.elim⟩
  have hmx : Try.prog.follows .mixedOrders = true := by kernel_rfl
  clear hra hrb na nb hca hcb hl
  refine (callsIn_wide (n := 12)).1 ?_
  refine callsIn_of_wp_marks Try.func14 rfl trivial ?_ rfl
  simp only [Try.ntmps14, List.size_toArray, List.length_cons, List.length_nil, Nat.reduceAdd, Nat.reduceSub, Array.replicate_succ, Array.replicate_zero, List.push_toArray, List.append_toArray, List.nil_append, List.cons_append]
  gi_upto_region 2 with fail
  gi_cut [7, 26] from 20 (fun v7 v26 wc => v7 = .int .i64 l ∧ (∃ bb : Bool, v26 = .bool bb) ∧ w = wc)
  case first =>
    by_cases h1 : l < 0
    · have p1 : decide (l < 0) = true := decide_eq_true h1
      clear h1
      gi_wp2
      gi_meet
      case rel => exact ⟨rfl, ⟨_, rfl⟩, rfl⟩
    · have p1 : decide (l < 0) = false := decide_eq_false h1
      clear h1
      gi_wp2
      gi_meet
      case rel => exact ⟨rfl, ⟨_, rfl⟩, rfl⟩
  case rest =>
  obtain ⟨rfl, ⟨bb, rfl⟩, rfl⟩ := hcut
  gi_step
  gi_cut [7] from 20 (fun v7 wc => ∃ v : Int, v7 = .int .i64 v ∧ w = wc)
  case first =>
    cases bb with
    | true =>
      gi_wp2
      gi_meet
      case rel => exact ⟨_, rfl, rfl⟩
    | false =>
      gi_wp2
      gi_meet
      case rel => exact ⟨_, rfl, rfl⟩
  case rest =>
  obtain ⟨v, rfl, rfl⟩ := hcut
  have H0 : Aside0 (Sep w (fun _ => False) [] w) := ⟨Sep.start (Below.refl _ _) _⟩
  gi_wp2
  refine ⟨trivial, ?_⟩
  (with_reducible refine (callsIn_wide.2 (lent_calls A0 c0 a _ (Kd.C_below HRA.out H0.out.hB) HCC.out.1 (by have := HNN.out.1; omega))).mono ?_)
  rintro e W1 ⟨u, rfl, hu, hb⟩
  obtain ⟨gx, cx, rfl, _⟩ := Kd.R_form hu (by rw [lentOf_length]; omega)
  obtain ⟨ax, hax⟩ : ∃ q, q = (⟨gx, 0, none⟩ : Addr) := ⟨_, rfl⟩
  rw [← hax] at hu ⊢
  obtain ⟨nx, hnx⟩ : ∃ q, q = (lentOf a).length := ⟨_, rfl⟩
  rw [← hnx] at hu ⊢
  have HNx : Aside0 (nx = a.length + 64) := ⟨by rw [hnx, lentOf_length]⟩
  have hlex : a.length ≤ cx := by have := (Kd.R_reads' hu).2.1; have := HNx.out; omega
  clear hax hnx
  have H1 : Aside0 (Sep w (fun _ => False) [rI (.slice (some ax) nx cx) (lentOf a)] W1) := ⟨H0.out.push hb (HX.out _) (row_of hu)⟩
  clear H0
  clear hu hb
  gi_wp2
  refine ⟨trivial, ?_⟩
  (with_reducible refine (callsIn_wide.2 (lent_calls A1 c1 b _ (Kd.C_below HRB.out H1.out.hB) HCC.out.2 (by have := HNN.out.2; omega))).mono ?_)
  rintro e W2 ⟨u, rfl, hu, hb⟩
  obtain ⟨gy, cy, rfl, _⟩ := Kd.R_form hu (by rw [lentOf_length]; omega)
  obtain ⟨ay, hay⟩ : ∃ q, q = (⟨gy, 0, none⟩ : Addr) := ⟨_, rfl⟩
  rw [← hay] at hu ⊢
  obtain ⟨ny, hny⟩ : ∃ q, q = (lentOf b).length := ⟨_, rfl⟩
  rw [← hny] at hu ⊢
  have HNy : Aside0 (ny = b.length + 64) := ⟨by rw [hny, lentOf_length]⟩
  have hley : b.length ≤ cy := by have := (Kd.R_reads' hu).2.1; have := HNy.out; omega
  clear hay hny
  have H2 : Aside0 (Sep w (fun _ => False) [rI (.slice (some ax) nx cx) (lentOf a), rI (.slice (some ay) ny cy) (lentOf b)] W2) := ⟨H1.out.push hb (HX.out _) (row_of hu)⟩
  clear H1
  clear hu hb
  gi_wp2
  refine ⟨trivial, ?_⟩
  (with_reducible refine (callsIn_wide.2 (meant_calls A0 A1 c0 c1 a b l v _ (Kd.C_below HRA.out H2.out.hB) HCC.out.1 (Kd.C_below HRB.out H2.out.hB) HCC.out.2 (by have := HNN.out; omega) (by have := HNN.out; omega))).mono ?_)
  rintro e W3 ⟨Aw, cw, rfl, hcw, hf, hb⟩
  have HCW := Aside0.mk hcw
  have H3 : Aside0 (Sep w (fun _ => False) [rI (.slice (some ax) nx cx) (lentOf a), rI (.slice (some ay) ny cy) (lentOf b), wantA Aw a b l v] W3) := ⟨H2.out.push hb (HX.out _) hf⟩
  clear H2
  clear hcw hf hb
  have hlx : (a.length : Int) ≤ (cx : Int) := by omega
  have hly : (b.length : Int) ≤ (cy : Int) := by omega
  gi_upto_region 7 with fail
  have H4 : Aside0 (Sep w (fun _ => False) [rI (.slice (some ax) nx cx) (lentOf a), rI (.slice (some ay) ny cy) (lentOf b), wantA Aw a b l v] W3.drew) := ⟨H3.out.keep (below_drew (Below.refl _ _))⟩
  clear H3
  refine wpIn_region_N (S := fun _ => True) hmx ?_
  refine wpAnyS_take (i := 0) (v := (.slice (some ax) nx cx)) (fun _ => trivial) (by kernel_rfl) rfl (by kernel_rfl) (by kernel_rfl) (by kernel_rfl) (fun _ _ _ h => h) (by rfl) (fun W' hS => by go_simp) trivial ?_
  refine wpAnyS_take (i := 1) (v := (.slice A0 a.length c0)) (fun _ => trivial) (by kernel_rfl) rfl (by kernel_rfl) (by kernel_rfl) (by kernel_rfl) (fun _ _ _ h => h) (by rfl) (fun W' hS => by go_simp) trivial ?_
  refine wpAnyS_take (i := 2) (v := (.int .i64 a.length)) (fun _ => trivial) (by kernel_rfl) rfl (by kernel_rfl) (by kernel_rfl) (by kernel_rfl) (fun _ _ _ h => h) (by rfl) (fun W' hS => by go_simp) trivial ?_
  refine wpAnyS_take (i := 3) (v := (.slice (some ax) a.length cx)) (fun _ => trivial) (by kernel_rfl) rfl (by kernel_rfl) (by kernel_rfl) (by kernel_rfl) (fun _ _ _ h => h) (by rfl) (fun W' hS => by go_simp) trivial ?_
  refine wpAnyS_take (i := 4) (v := (.slice (some ay) ny cy)) (fun _ => trivial) (by kernel_rfl) rfl (by kernel_rfl) (by kernel_rfl) (by kernel_rfl) (fun _ _ _ h => h) (by rfl) (fun W' hS => by go_simp) trivial ?_
  refine wpAnyS_take (i := 5) (v := (.slice A1 b.length c1)) (fun _ => trivial) (by kernel_rfl) rfl (by kernel_rfl) (by kernel_rfl) (by kernel_rfl) (fun _ _ _ h => h) (by rfl) (fun W' hS => by go_simp) trivial ?_
  refine wpAnyS_take (i := 6) (v := (.int .i64 b.length)) (fun _ => trivial) (by kernel_rfl) rfl (by kernel_rfl) (by kernel_rfl) (by kernel_rfl) (fun _ _ _ h => h) (by rfl) (fun W' hS => by go_simp) trivial ?_
  refine wpAnyS_take (i := 7) (v := (.slice (some ay) b.length cy)) (fun _ => trivial) (by kernel_rfl) rfl (by kernel_rfl) (by kernel_rfl) (by kernel_rfl) (fun _ _ _ h => h) (by rfl) (fun W' hS => by go_simp) trivial ?_
  refine wpAnyS_take (i := 8) (v := (.int .i64 l)) (fun _ => trivial) (by kernel_rfl) rfl (by kernel_rfl) (by kernel_rfl) (by kernel_rfl) (fun _ _ _ h => h) (by rfl) (fun W' hS => by go_simp) trivial ?_
  refine wpAnyS_take (i := 9) (v := (.int .i64 v)) (fun _ => trivial) (by kernel_rfl) rfl (by kernel_rfl) (by kernel_rfl) (by kernel_rfl) (fun _ _ _ h => h) (by rfl) (fun W' hS => by go_simp) trivial ?_
  refine wpAnyS_one (i := 10) (by kernel_rfl) rfl (by rfl) (fun K' hK => ?_)
  go_simp
  refine ⟨trivial, ?_⟩
  (with_reducible refine (callsIn_wide.2 (told_calls (some ax) (some ay) cx cy a b l v _ (head_C H4.out 0 rfl (ys := a) (by rw [lentOf_length]; omega) (lent_take a) rfl) hlex (head_C H4.out 1 rfl (ys := b) (by rw [lentOf_length]; omega) (lent_take b) rfl) hley (by have := HNN.out; omega) (by have := HNN.out; omega))).mono ?_)
  rintro e W4 ⟨gv, rfl, hS, hb⟩
  obtain ⟨Ag, cg, rfl⟩ := Kd.S_slice hS
  have H5 : Aside0 (Sep w (fun _ => False) [rI (.slice (some ax) nx cx) (lentOf a), rI (.slice (some ay) ny cy) (lentOf b), wantA Aw a b l v, gotA (.slice Ag (toldOf a b l v).length cg) a b l v] W4) := ⟨H4.out.push hb (HX.out _) hS⟩
  clear H4
  clear hS hb
  refine hK _ _ trivial ?_
  clear hK
  refine wpAnyS_one (i := 11) (by kernel_rfl) rfl (by rfl) (fun K' hK => ?_)
  go_simp
  refine hK _ _ trivial ?_
  clear hK
  refine wpAnyS_doneN (by kernel_rfl) ?_ _
  gi_wp2
  refine ⟨trivial, ?_⟩
  (with_reducible refine (callsIn_wide.2 (alike_calls Ag Aw cg cw (toldOf a b l v) _ (Kd.S_reads' (H5.out.get 3 rfl)).2.2 (Kd.S_reads' (H5.out.get 3 rfl)).2.1 (foot_now (H5.out.get 2 rfl)) HCW.out (by simp [toldOf]) (fun x hx => by have := toldOf_small a b l v x hx; omega))).mono ?_)
  rintro e W5 ⟨rfl, hd⟩
  have H6 : Aside0 (Sep w (fun _ => False) [rI (.slice (some ax) nx cx) (lentOf a), rI (.slice (some ay) ny cy) (lentOf b), wantA Aw a b l v, gotA (.slice Ag (toldOf a b l v).length cg) a b l v] W5) := ⟨H5.out.keep hd.below⟩
  clear H5
  clear hd
  gi_wp2
  refine ⟨trivial, ?_⟩
  (with_reducible refine (callsIn_wide.2 (kept_calls (some ax) A0 nx cx c0 a _ (by rw [HNx.out, lentOf_length]) (row_len H6.out 0 rfl).2.2 (row_len H6.out 0 rfl).2.1 (Kd.C_below HRA.out H6.out.hB) HCC.out.1 (by have := HNN.out; omega))).mono ?_)
  rintro e W6 ⟨rfl, hd⟩
  have H7 : Aside0 (Sep w (fun _ => False) [rI (.slice (some ax) nx cx) (lentOf a), rI (.slice (some ay) ny cy) (lentOf b), wantA Aw a b l v, gotA (.slice Ag (toldOf a b l v).length cg) a b l v] W6) := ⟨H6.out.keep hd.below⟩
  clear H6
  clear hd
  gi_wp2
  refine ⟨trivial, ?_⟩
  (with_reducible refine (callsIn_wide.2 (kept_calls (some ay) A1 ny cy c1 b _ (by rw [HNy.out, lentOf_length]) (row_len H7.out 1 rfl).2.2 (row_len H7.out 1 rfl).2.1 (Kd.C_below HRB.out H7.out.hB) HCC.out.2 (by have := HNN.out; omega))).mono ?_)
  rintro e W7 ⟨rfl, hd⟩
  have H8 : Aside0 (Sep w (fun _ => False) [rI (.slice (some ax) nx cx) (lentOf a), rI (.slice (some ay) ny cy) (lentOf b), wantA Aw a b l v, gotA (.slice Ag (toldOf a b l v).length cg) a b l v] W7) := ⟨H7.out.keep hd.below⟩
  clear H7
  clear hd
  gi_wp2
  refine ⟨trivial, ?_⟩
  (with_reducible refine (callsIn_wide.2 (sound_c (some ax) cx a _ (head_C H8.out 0 rfl (ys := a) (by rw [lentOf_length]; omega) (lent_take a) rfl) hlex HNN.out.1)).mono ?_)
  rintro e W8 ⟨rfl, hb⟩
  have H9 : Aside0 (Sep w (fun _ => False) [rI (.slice (some ax) nx cx) (lentOf a), rI (.slice (some ay) ny cy) (lentOf b), wantA Aw a b l v, gotA (.slice Ag (toldOf a b l v).length cg) a b l v] W8) := ⟨H8.out.keep hb⟩
  clear H8
  clear hb
  gi_wp2
  refine ⟨trivial, ?_⟩
  (with_reducible refine (callsIn_wide.2 (has_c (some ax) cx a l _ (head_C H9.out 0 rfl (ys := a) (by rw [lentOf_length]; omega) (lent_take a) rfl) hlex HNN.out.1)).mono ?_)
  rintro e W9 ⟨rfl, hb⟩
  have H10 : Aside0 (Sep w (fun _ => False) [rI (.slice (some ax) nx cx) (lentOf a), rI (.slice (some ay) ny cy) (lentOf b), wantA Aw a b l v, gotA (.slice Ag (toldOf a b l v).length cg) a b l v] W9) := ⟨H9.out.keep hb⟩
  clear H9
  clear hb
  gi_wp2
  refine ⟨trivial, ?_⟩
  (with_reducible refine (callsIn_wide.2 (taut_c (some ax) cx a _ (head_C H10.out 0 rfl (ys := a) (by rw [lentOf_length]; omega) (lent_take a) rfl) hlex HNN.out.1)).mono ?_)
  rintro e W10 ⟨rfl, hb⟩
  have H11 : Aside0 (Sep w (fun _ => False) [rI (.slice (some ax) nx cx) (lentOf a), rI (.slice (some ay) ny cy) (lentOf b), wantA Aw a b l v, gotA (.slice Ag (toldOf a b l v).length cg) a b l v] W10) := ⟨H10.out.keep hb⟩
  clear H10
  clear hb
  gi_upto_region 13 with fail
  have H12 : Aside0 (Sep w (fun _ => False) [rI (.slice (some ax) nx cx) (lentOf a), rI (.slice (some ay) ny cy) (lentOf b), wantA Aw a b l v, gotA (.slice Ag (toldOf a b l v).length cg) a b l v] W10.drew) := ⟨H11.out.keep (below_drew (Below.refl _ _))⟩
  clear H11
  refine wpIn_region_N (S := fun _ => True) hmx ?_
  refine wpAnyS_take (i := 0) (v := (.slice (some ax) nx cx)) (fun _ => trivial) (by kernel_rfl) rfl (by kernel_rfl) (by kernel_rfl) (by kernel_rfl) (fun _ _ _ h => h) (by rfl) (fun W' hS => by go_simp) trivial ?_
  refine wpAnyS_take (i := 1) (v := (.slice A0 a.length c0)) (fun _ => trivial) (by kernel_rfl) rfl (by kernel_rfl) (by kernel_rfl) (by kernel_rfl) (fun _ _ _ h => h) (by rfl) (fun W' hS => by go_simp) trivial ?_
  refine wpAnyS_take (i := 2) (v := (.int .i64 a.length)) (fun _ => trivial) (by kernel_rfl) rfl (by kernel_rfl) (by kernel_rfl) (by kernel_rfl) (fun _ _ _ h => h) (by rfl) (fun W' hS => by go_simp) trivial ?_
  refine wpAnyS_take (i := 3) (v := (.slice (some ax) a.length cx)) (fun _ => trivial) (by kernel_rfl) rfl (by kernel_rfl) (by kernel_rfl) (by kernel_rfl) (fun _ _ _ h => h) (by rfl) (fun W' hS => by go_simp) trivial ?_
  refine wpAnyS_take (i := 4) (v := (.slice (some ay) ny cy)) (fun _ => trivial) (by kernel_rfl) rfl (by kernel_rfl) (by kernel_rfl) (by kernel_rfl) (fun _ _ _ h => h) (by rfl) (fun W' hS => by go_simp) trivial ?_
  refine wpAnyS_take (i := 5) (v := (.slice A1 b.length c1)) (fun _ => trivial) (by kernel_rfl) rfl (by kernel_rfl) (by kernel_rfl) (by kernel_rfl) (fun _ _ _ h => h) (by rfl) (fun W' hS => by go_simp) trivial ?_
  refine wpAnyS_take (i := 6) (v := (.int .i64 b.length)) (fun _ => trivial) (by kernel_rfl) rfl (by kernel_rfl) (by kernel_rfl) (by kernel_rfl) (fun _ _ _ h => h) (by rfl) (fun W' hS => by go_simp) trivial ?_
  refine wpAnyS_take (i := 7) (v := (.slice (some ay) b.length cy)) (fun _ => trivial) (by kernel_rfl) rfl (by kernel_rfl) (by kernel_rfl) (by kernel_rfl) (fun _ _ _ h => h) (by rfl) (fun W' hS => by go_simp) trivial ?_
  refine wpAnyS_one (i := 8) (by kernel_rfl) rfl (by rfl) (fun K' hK => ?_)
  go_simp
  refine ⟨trivial, ?_⟩
  (with_reducible refine (callsIn_wide.2 (same_c (some ax) (some ay) cx cy a b _ (head_C H12.out 0 rfl (ys := a) (by rw [lentOf_length]; omega) (lent_take a) rfl) hlex (head_C H12.out 1 rfl (ys := b) (by rw [lentOf_length]; omega) (lent_take b) rfl) hley HNN.out.1 HNN.out.2)).mono ?_)
  rintro e W11 ⟨rfl, hb⟩
  have H13 : Aside0 (Sep w (fun _ => False) [rI (.slice (some ax) nx cx) (lentOf a), rI (.slice (some ay) ny cy) (lentOf b), wantA Aw a b l v, gotA (.slice Ag (toldOf a b l v).length cg) a b l v] W11) := ⟨H12.out.keep hb⟩
  clear H12
  clear hb
  refine hK _ _ trivial ?_
  clear hK
  refine wpAnyS_doneN (by kernel_rfl) ?_ _
  gi_upto_region 14 with fail
  have H14 : Aside0 (Sep w (fun _ => False) [rI (.slice (some ax) nx cx) (lentOf a), rI (.slice (some ay) ny cy) (lentOf b), wantA Aw a b l v, gotA (.slice Ag (toldOf a b l v).length cg) a b l v] W11.drew) := ⟨H13.out.keep (below_drew (Below.refl _ _))⟩
  clear H13
  refine wpIn_region_N (S := fun _ => True) hmx ?_
  refine wpAnyS_take (i := 0) (v := (.slice (some ax) nx cx)) (fun _ => trivial) (by kernel_rfl) rfl (by kernel_rfl) (by kernel_rfl) (by kernel_rfl) (fun _ _ _ h => h) (by rfl) (fun W' hS => by go_simp) trivial ?_
  refine wpAnyS_take (i := 1) (v := (.slice A0 a.length c0)) (fun _ => trivial) (by kernel_rfl) rfl (by kernel_rfl) (by kernel_rfl) (by kernel_rfl) (fun _ _ _ h => h) (by rfl) (fun W' hS => by go_simp) trivial ?_
  refine wpAnyS_take (i := 2) (v := (.int .i64 a.length)) (fun _ => trivial) (by kernel_rfl) rfl (by kernel_rfl) (by kernel_rfl) (by kernel_rfl) (fun _ _ _ h => h) (by rfl) (fun W' hS => by go_simp) trivial ?_
  refine wpAnyS_take (i := 3) (v := (.slice (some ax) a.length cx)) (fun _ => trivial) (by kernel_rfl) rfl (by kernel_rfl) (by kernel_rfl) (by kernel_rfl) (fun _ _ _ h => h) (by rfl) (fun W' hS => by go_simp) trivial ?_
  refine wpAnyS_take (i := 4) (v := (.slice (some ay) ny cy)) (fun _ => trivial) (by kernel_rfl) rfl (by kernel_rfl) (by kernel_rfl) (by kernel_rfl) (fun _ _ _ h => h) (by rfl) (fun W' hS => by go_simp) trivial ?_
  refine wpAnyS_take (i := 5) (v := (.slice A1 b.length c1)) (fun _ => trivial) (by kernel_rfl) rfl (by kernel_rfl) (by kernel_rfl) (by kernel_rfl) (fun _ _ _ h => h) (by rfl) (fun W' hS => by go_simp) trivial ?_
  refine wpAnyS_take (i := 6) (v := (.int .i64 b.length)) (fun _ => trivial) (by kernel_rfl) rfl (by kernel_rfl) (by kernel_rfl) (by kernel_rfl) (fun _ _ _ h => h) (by rfl) (fun W' hS => by go_simp) trivial ?_
  refine wpAnyS_take (i := 7) (v := (.slice (some ay) b.length cy)) (fun _ => trivial) (by kernel_rfl) rfl (by kernel_rfl) (by kernel_rfl) (by kernel_rfl) (fun _ _ _ h => h) (by rfl) (fun W' hS => by go_simp) trivial ?_
  refine wpAnyS_one (i := 8) (by kernel_rfl) rfl (by rfl) (fun K' hK => ?_)
  go_simp
  refine ⟨trivial, ?_⟩
  (with_reducible refine (callsIn_wide.2 (subsumes_calls (some ax) (some ay) cx cy a b _ (head_C H14.out 0 rfl (ys := a) (by rw [lentOf_length]; omega) (lent_take a) rfl) (head_C H14.out 1 rfl (ys := b) (by rw [lentOf_length]; omega) (lent_take b) rfl) hley (by have := HNN.out; omega) (by have := HNN.out; omega))).mono ?_)
  rintro e W12 ⟨rfl, hb⟩
  have H15 : Aside0 (Sep w (fun _ => False) [rI (.slice (some ax) nx cx) (lentOf a), rI (.slice (some ay) ny cy) (lentOf b), wantA Aw a b l v, gotA (.slice Ag (toldOf a b l v).length cg) a b l v] W12) := ⟨H14.out.keep hb⟩
  clear H14
  clear hb
  refine hK _ _ trivial ?_
  clear hK
  refine wpAnyS_doneN (by kernel_rfl) ?_ _
  gi_upto_region 15 with fail
  have H16 : Aside0 (Sep w (fun _ => False) [rI (.slice (some ax) nx cx) (lentOf a), rI (.slice (some ay) ny cy) (lentOf b), wantA Aw a b l v, gotA (.slice Ag (toldOf a b l v).length cg) a b l v] W12.drew) := ⟨H15.out.keep (below_drew (Below.refl _ _))⟩
  clear H15
  refine wpIn_region_N (S := fun _ => True) hmx ?_
  refine wpAnyS_take (i := 0) (v := (.slice (some ax) nx cx)) (fun _ => trivial) (by kernel_rfl) rfl (by kernel_rfl) (by kernel_rfl) (by kernel_rfl) (fun _ _ _ h => h) (by rfl) (fun W' hS => by go_simp) trivial ?_
  refine wpAnyS_take (i := 1) (v := (.slice A0 a.length c0)) (fun _ => trivial) (by kernel_rfl) rfl (by kernel_rfl) (by kernel_rfl) (by kernel_rfl) (fun _ _ _ h => h) (by rfl) (fun W' hS => by go_simp) trivial ?_
  refine wpAnyS_take (i := 2) (v := (.int .i64 a.length)) (fun _ => trivial) (by kernel_rfl) rfl (by kernel_rfl) (by kernel_rfl) (by kernel_rfl) (fun _ _ _ h => h) (by rfl) (fun W' hS => by go_simp) trivial ?_
  refine wpAnyS_take (i := 3) (v := (.slice (some ax) a.length cx)) (fun _ => trivial) (by kernel_rfl) rfl (by kernel_rfl) (by kernel_rfl) (by kernel_rfl) (fun _ _ _ h => h) (by rfl) (fun W' hS => by go_simp) trivial ?_
  refine wpAnyS_take (i := 4) (v := (.slice (some ay) ny cy)) (fun _ => trivial) (by kernel_rfl) rfl (by kernel_rfl) (by kernel_rfl) (by kernel_rfl) (fun _ _ _ h => h) (by rfl) (fun W' hS => by go_simp) trivial ?_
  refine wpAnyS_take (i := 5) (v := (.slice A1 b.length c1)) (fun _ => trivial) (by kernel_rfl) rfl (by kernel_rfl) (by kernel_rfl) (by kernel_rfl) (fun _ _ _ h => h) (by rfl) (fun W' hS => by go_simp) trivial ?_
  refine wpAnyS_take (i := 6) (v := (.int .i64 b.length)) (fun _ => trivial) (by kernel_rfl) rfl (by kernel_rfl) (by kernel_rfl) (by kernel_rfl) (fun _ _ _ h => h) (by rfl) (fun W' hS => by go_simp) trivial ?_
  refine wpAnyS_take (i := 7) (v := (.slice (some ay) b.length cy)) (fun _ => trivial) (by kernel_rfl) rfl (by kernel_rfl) (by kernel_rfl) (by kernel_rfl) (fun _ _ _ h => h) (by rfl) (fun W' hS => by go_simp) trivial ?_
  refine wpAnyS_one (i := 8) (by kernel_rfl) rfl (by rfl) (fun K' hK => ?_)
  go_simp
  refine ⟨trivial, ?_⟩
  (with_reducible refine (callsIn_wide.2 (seqL_calls (some ax) (some ay) cx cy a b _ (head_C H16.out 0 rfl (ys := a) (by rw [lentOf_length]; omega) (lent_take a) rfl) (head_C H16.out 1 rfl (ys := b) (by rw [lentOf_length]; omega) (lent_take b) rfl) hlex hley (by have := HNN.out; omega) (by have := HNN.out; omega))).mono ?_)
  rintro e W13 ⟨g, lb, Rd, rfl, hsq, eg, hb⟩
  have H17 : Aside0 (Sep w (fun _ => False) [rI (.slice (some ax) nx cx) (lentOf a), rI (.slice (some ay) ny cy) (lentOf b), wantA Aw a b l v, gotA (.slice Ag (toldOf a b l v).length cg) a b l v, seqA g lb Rd (wantL a b)] W13) := ⟨H16.out.push hb (HX.out _) hsq⟩
  clear H16
  have EG := Aside0.mk eg
  clear hsq eg hb
  refine hK _ _ trivial ?_
  clear hK
  refine wpAnyS_one (i := 9) (by kernel_rfl) rfl (by rfl) (fun K' hK => ?_)
  go_simp
  refine hK _ _ trivial ?_
  clear hK
  refine wpAnyS_doneN (by kernel_rfl) ?_ _
  have nf := fun W => nil_seqL g lb W
  gi_wp2
  refine ⟨trivial, ?_⟩
  (with_reducible refine (callsIn_wide.2 (kept_calls (some ax) A0 nx cx c0 a _ (by rw [HNx.out, lentOf_length]) (row_len H17.out 0 rfl).2.2 (row_len H17.out 0 rfl).2.1 (Kd.C_below HRA.out H17.out.hB) HCC.out.1 (by have := HNN.out; omega))).mono ?_)
  rintro e W14 ⟨rfl, hd⟩
  have H18 : Aside0 (Sep w (fun _ => False) [rI (.slice (some ax) nx cx) (lentOf a), rI (.slice (some ay) ny cy) (lentOf b), wantA Aw a b l v, gotA (.slice Ag (toldOf a b l v).length cg) a b l v, seqA g lb Rd (wantL a b)] W14) := ⟨H17.out.keep hd.below⟩
  clear H17
  clear hd
  gi_wp2
  refine ⟨trivial, ?_⟩
  (with_reducible refine (callsIn_wide.2 (kept_calls (some ay) A1 ny cy c1 b _ (by rw [HNy.out, lentOf_length]) (row_len H18.out 1 rfl).2.2 (row_len H18.out 1 rfl).2.1 (Kd.C_below HRB.out H18.out.hB) HCC.out.2 (by have := HNN.out; omega))).mono ?_)
  rintro e W15 ⟨rfl, hd⟩
  have H19 : Aside0 (Sep w (fun _ => False) [rI (.slice (some ax) nx cx) (lentOf a), rI (.slice (some ay) ny cy) (lentOf b), wantA Aw a b l v, gotA (.slice Ag (toldOf a b l v).length cg) a b l v, seqA g lb Rd (wantL a b)] W15) := ⟨H18.out.keep hd.below⟩
  clear H18
  clear hd
  gi_wp2
  clear nf
  have HOx := Aside0.mk (over_calls H19.out 0 rfl (HX.out _) (by rw [lentOf_length]; have := HNN.out; omega))
  clear H19
  refine ⟨trivial, ?_⟩
  (with_reducible refine (callsIn_wide.2 (HOx.out)).mono ?_)
  rintro e W16 ⟨rfl, ox, hox, hsep⟩
  have H20 : Aside0 (Sep w (fun _ => False) [rI (.slice (some ax) nx cx) ox, rI (.slice (some ay) ny cy) (lentOf b), wantA Aw a b l v, gotA (.slice Ag (toldOf a b l v).length cg) a b l v, seqA g lb Rd (wantL a b)] W16) := ⟨hsep⟩
  obtain ⟨a2, ha2⟩ : ∃ q, q = ox.take a.length := ⟨_, rfl⟩
  have HO2x : Aside0 (a.length = a2.length ∧ ox.take a.length = a2 ∧ a.length ≤ ox.length ∧ ox.length = a.length + 64) := ⟨by rw [lentOf_length] at hox; exact ⟨by rw [ha2, List.length_take]; omega, ha2.symm, by omega, by omega⟩⟩
  clear hsep hox ha2 HOx
  gi_wp2
  have HOy := Aside0.mk (over_calls H20.out 1 rfl (HX.out _) (by rw [lentOf_length]; have := HNN.out; omega))
  clear H20
  refine ⟨trivial, ?_⟩
  (with_reducible refine (callsIn_wide.2 (HOy.out)).mono ?_)
  rintro e W17 ⟨rfl, oy, hoy, hsep⟩
  have H21 : Aside0 (Sep w (fun _ => False) [rI (.slice (some ax) nx cx) ox, rI (.slice (some ay) ny cy) oy, wantA Aw a b l v, gotA (.slice Ag (toldOf a b l v).length cg) a b l v, seqA g lb Rd (wantL a b)] W17) := ⟨hsep⟩
  obtain ⟨b2, hb2⟩ : ∃ q, q = oy.take b.length := ⟨_, rfl⟩
  have HO2y : Aside0 (b.length = b2.length ∧ oy.take b.length = b2 ∧ b.length ≤ oy.length ∧ oy.length = b.length + 64) := ⟨by rw [lentOf_length] at hoy; exact ⟨by rw [hb2, List.length_take]; omega, hb2.symm, by omega, by omega⟩⟩
  clear hsep hoy hb2 HOy
  gi_upto_region 20 with fail
  have H22 : Aside0 (Sep w (fun _ => False) [rI (.slice (some ax) nx cx) ox, rI (.slice (some ay) ny cy) oy, wantA Aw a b l v, gotA (.slice Ag (toldOf a b l v).length cg) a b l v, seqA g lb Rd (wantL a b)] W17.drew) := ⟨H21.out.keep (below_drew (Below.refl _ _))⟩
  clear H21
  refine wpIn_region_N (S := fun _ => True) hmx ?_
  refine wpAnyS_take (i := 0) (v := (.slice (some ax) nx cx)) (fun _ => trivial) (by kernel_rfl) rfl (by kernel_rfl) (by kernel_rfl) (by kernel_rfl) (fun _ _ _ h => h) (by rfl) (fun W' hS => by go_simp) trivial ?_
  refine wpAnyS_take (i := 1) (v := (.slice A0 a.length c0)) (fun _ => trivial) (by kernel_rfl) rfl (by kernel_rfl) (by kernel_rfl) (by kernel_rfl) (fun _ _ _ h => h) (by rfl) (fun W' hS => by go_simp) trivial ?_
  refine wpAnyS_take (i := 2) (v := (.int .i64 a.length)) (fun _ => trivial) (by kernel_rfl) rfl (by kernel_rfl) (by kernel_rfl) (by kernel_rfl) (fun _ _ _ h => h) (by rfl) (fun W' hS => by go_simp) trivial ?_
  refine wpAnyS_take (i := 3) (v := (.slice (some ax) a.length cx)) (fun _ => trivial) (by kernel_rfl) rfl (by kernel_rfl) (by kernel_rfl) (by kernel_rfl) (fun _ _ _ h => h) (by rfl) (fun W' hS => by go_simp) trivial ?_
  refine wpAnyS_take (i := 4) (v := (.slice (some ay) ny cy)) (fun _ => trivial) (by kernel_rfl) rfl (by kernel_rfl) (by kernel_rfl) (by kernel_rfl) (fun _ _ _ h => h) (by rfl) (fun W' hS => by go_simp) trivial ?_
  refine wpAnyS_take (i := 5) (v := (.slice A1 b.length c1)) (fun _ => trivial) (by kernel_rfl) rfl (by kernel_rfl) (by kernel_rfl) (by kernel_rfl) (fun _ _ _ h => h) (by rfl) (fun W' hS => by go_simp) trivial ?_
  refine wpAnyS_take (i := 6) (v := (.int .i64 b.length)) (fun _ => trivial) (by kernel_rfl) rfl (by kernel_rfl) (by kernel_rfl) (by kernel_rfl) (fun _ _ _ h => h) (by rfl) (fun W' hS => by go_simp) trivial ?_
  refine wpAnyS_take (i := 7) (v := (.slice (some ay) b.length cy)) (fun _ => trivial) (by kernel_rfl) rfl (by kernel_rfl) (by kernel_rfl) (by kernel_rfl) (fun _ _ _ h => h) (by rfl) (fun W' hS => by go_simp) trivial ?_
  refine wpAnyS_take (i := 8) (v := (.int .i64 l)) (fun _ => trivial) (by kernel_rfl) rfl (by kernel_rfl) (by kernel_rfl) (by kernel_rfl) (fun _ _ _ h => h) (by rfl) (fun W' hS => by go_simp) trivial ?_
  refine wpAnyS_take (i := 9) (v := (.int .i64 v)) (fun _ => trivial) (by kernel_rfl) rfl (by kernel_rfl) (by kernel_rfl) (by kernel_rfl) (fun _ _ _ h => h) (by rfl) (fun W' hS => by go_simp) trivial ?_
  refine wpAnyS_one (i := 10) (by kernel_rfl) rfl (by rfl) (fun K' hK => ?_)
  go_simp
  refine ⟨trivial, ?_⟩
  (with_reducible refine (callsIn_wide.2 (meant_n HO2x.out.1 HO2y.out.1 (some ax) (some ay) cx cy l v _ (head_C H22.out 0 rfl (ys := a2) HO2x.out.2.2.1 HO2x.out.2.1 HO2x.out.1.symm) hlex (head_C H22.out 1 rfl (ys := b2) HO2y.out.2.2.1 HO2y.out.2.1 HO2y.out.1.symm) hley (by have := HNN.out; omega) (by have := HNN.out; omega))).mono ?_)
  rintro e W18 ⟨Aw2, cw2, rfl, hcw, hf, hb⟩
  have HCW2 := Aside0.mk hcw
  have H23 : Aside0 (Sep w (fun _ => False) [rI (.slice (some ax) nx cx) ox, rI (.slice (some ay) ny cy) oy, wantA Aw a b l v, gotA (.slice Ag (toldOf a b l v).length cg) a b l v, seqA g lb Rd (wantL a b), wantA Aw2 a2 b2 l v] W18) := ⟨H22.out.push hb (HX.out _) hf⟩
  clear H22
  clear hcw hf hb
  refine hK _ _ trivial ?_
  clear hK
  refine wpAnyS_one (i := 11) (by kernel_rfl) rfl (by rfl) (fun K' hK => ?_)
  go_simp
  refine hK _ _ trivial ?_
  clear hK
  refine wpAnyS_doneN (by kernel_rfl) ?_ _
  gi_upto_region 21 with fail
  have H24 : Aside0 (Sep w (fun _ => False) [rI (.slice (some ax) nx cx) ox, rI (.slice (some ay) ny cy) oy, wantA Aw a b l v, gotA (.slice Ag (toldOf a b l v).length cg) a b l v, seqA g lb Rd (wantL a b), wantA Aw2 a2 b2 l v] W18.drew) := ⟨H23.out.keep (below_drew (Below.refl _ _))⟩
  clear H23
  refine wpIn_region_N (S := fun _ => True) hmx ?_
  refine wpAnyS_take (i := 0) (v := (.slice (some ax) nx cx)) (fun _ => trivial) (by kernel_rfl) rfl (by kernel_rfl) (by kernel_rfl) (by kernel_rfl) (fun _ _ _ h => h) (by rfl) (fun W' hS => by go_simp) trivial ?_
  refine wpAnyS_take (i := 1) (v := (.slice A0 a.length c0)) (fun _ => trivial) (by kernel_rfl) rfl (by kernel_rfl) (by kernel_rfl) (by kernel_rfl) (fun _ _ _ h => h) (by rfl) (fun W' hS => by go_simp) trivial ?_
  refine wpAnyS_take (i := 2) (v := (.int .i64 a.length)) (fun _ => trivial) (by kernel_rfl) rfl (by kernel_rfl) (by kernel_rfl) (by kernel_rfl) (fun _ _ _ h => h) (by rfl) (fun W' hS => by go_simp) trivial ?_
  refine wpAnyS_take (i := 3) (v := (.slice (some ax) a.length cx)) (fun _ => trivial) (by kernel_rfl) rfl (by kernel_rfl) (by kernel_rfl) (by kernel_rfl) (fun _ _ _ h => h) (by rfl) (fun W' hS => by go_simp) trivial ?_
  refine wpAnyS_take (i := 4) (v := (.slice (some ay) ny cy)) (fun _ => trivial) (by kernel_rfl) rfl (by kernel_rfl) (by kernel_rfl) (by kernel_rfl) (fun _ _ _ h => h) (by rfl) (fun W' hS => by go_simp) trivial ?_
  refine wpAnyS_take (i := 5) (v := (.slice A1 b.length c1)) (fun _ => trivial) (by kernel_rfl) rfl (by kernel_rfl) (by kernel_rfl) (by kernel_rfl) (fun _ _ _ h => h) (by rfl) (fun W' hS => by go_simp) trivial ?_
  refine wpAnyS_take (i := 6) (v := (.int .i64 b.length)) (fun _ => trivial) (by kernel_rfl) rfl (by kernel_rfl) (by kernel_rfl) (by kernel_rfl) (fun _ _ _ h => h) (by rfl) (fun W' hS => by go_simp) trivial ?_
  refine wpAnyS_take (i := 7) (v := (.slice (some ay) b.length cy)) (fun _ => trivial) (by kernel_rfl) rfl (by kernel_rfl) (by kernel_rfl) (by kernel_rfl) (fun _ _ _ h => h) (by rfl) (fun W' hS => by go_simp) trivial ?_
  refine wpAnyS_take (i := 8) (v := (.int .i64 l)) (fun _ => trivial) (by kernel_rfl) rfl (by kernel_rfl) (by kernel_rfl) (by kernel_rfl) (fun _ _ _ h => h) (by rfl) (fun W' hS => by go_simp) trivial ?_
  refine wpAnyS_take (i := 9) (v := (.int .i64 v)) (fun _ => trivial) (by kernel_rfl) rfl (by kernel_rfl) (by kernel_rfl) (by kernel_rfl) (fun _ _ _ h => h) (by rfl) (fun W' hS => by go_simp) trivial ?_
  refine wpAnyS_one (i := 10) (by kernel_rfl) rfl (by rfl) (fun K' hK => ?_)
  go_simp
  refine ⟨trivial, ?_⟩
  (with_reducible refine (callsIn_wide.2 (told_n HO2x.out.1 HO2y.out.1 (some ax) (some ay) cx cy l v _ (head_C H24.out 0 rfl (ys := a2) HO2x.out.2.2.1 HO2x.out.2.1 HO2x.out.1.symm) hlex (head_C H24.out 1 rfl (ys := b2) HO2y.out.2.2.1 HO2y.out.2.1 HO2y.out.1.symm) hley (by have := HNN.out; omega) (by have := HNN.out; omega))).mono ?_)
  rintro e W19 ⟨gv2, rfl, hS, hb⟩
  obtain ⟨Ag2, cg2, rfl⟩ := Kd.S_slice hS
  have H25 : Aside0 (Sep w (fun _ => False) [rI (.slice (some ax) nx cx) ox, rI (.slice (some ay) ny cy) oy, wantA Aw a b l v, gotA (.slice Ag (toldOf a b l v).length cg) a b l v, seqA g lb Rd (wantL a b), wantA Aw2 a2 b2 l v, gotA (.slice Ag2 (toldOf a2 b2 l v).length cg2) a2 b2 l v] W19) := ⟨H24.out.push hb (HX.out _) hS⟩
  clear H24
  clear hS hb
  refine hK _ _ trivial ?_
  clear hK
  refine wpAnyS_one (i := 11) (by kernel_rfl) rfl (by rfl) (fun K' hK => ?_)
  go_simp
  refine hK _ _ trivial ?_
  clear hK
  refine wpAnyS_doneN (by kernel_rfl) ?_ _
  gi_wp2
  refine ⟨trivial, ?_⟩
  (with_reducible refine (callsIn_wide.2 (alike_calls Ag Aw cg cw (toldOf a b l v) _ (Kd.S_reads' (H25.out.get 3 rfl)).2.2 (Kd.S_reads' (H25.out.get 3 rfl)).2.1 (foot_now (H25.out.get 2 rfl)) HCW.out (by simp [toldOf]) (fun x hx => by have := toldOf_small a b l v x hx; omega))).mono ?_)
  rintro e W20 ⟨rfl, hd⟩
  have H26 : Aside0 (Sep w (fun _ => False) [rI (.slice (some ax) nx cx) ox, rI (.slice (some ay) ny cy) oy, wantA Aw a b l v, gotA (.slice Ag (toldOf a b l v).length cg) a b l v, seqA g lb Rd (wantL a b), wantA Aw2 a2 b2 l v, gotA (.slice Ag2 (toldOf a2 b2 l v).length cg2) a2 b2 l v] W20) := ⟨H25.out.keep hd.below⟩
  clear H25
  clear hd
  gi_wp2
  refine ⟨trivial, ?_⟩
  (with_reducible refine (callsIn_wide.2 (alike_calls Ag2 Aw2 cg2 cw2 (toldOf a2 b2 l v) _ (Kd.S_reads' (H26.out.get 6 rfl)).2.2 (Kd.S_reads' (H26.out.get 6 rfl)).2.1 (foot_now (H26.out.get 5 rfl)) HCW2.out (by simp [toldOf]) (fun x hx => by have := toldOf_small a2 b2 l v x hx; omega))).mono ?_)
  rintro e W21 ⟨rfl, hd⟩
  have H27 : Aside0 (Sep w (fun _ => False) [rI (.slice (some ax) nx cx) ox, rI (.slice (some ay) ny cy) oy, wantA Aw a b l v, gotA (.slice Ag (toldOf a b l v).length cg) a b l v, seqA g lb Rd (wantL a b), wantA Aw2 a2 b2 l v, gotA (.slice Ag2 (toldOf a2 b2 l v).length cg2) a2 b2 l v] W21) := ⟨H26.out.keep hd.below⟩
  clear H26
  clear hd
  gi_upto_region 25 with fail
  have hF := H27.out.new (HX.out _) (.cells #[(.slice none 0 0)] 49 (0, 0))
  have hF2 := hF.push (A := .rows (Kd.slice 3 (Kd.int .i64)) 26 (.slice none 0 0) []) (Below.refl _ _) (HX.out _) (Kd.S_nil _ _ _ _ _)
  obtain ⟨Bb, hBb⟩ : ∃ q, q = W21.heap.size := ⟨_, rfl⟩
  rw [← hBb] at hF2 ⊢
  generalize hV0 : W21.alloc (.cells #[(.slice none 0 0)] 49) = V0 at hF2 ⊢
  have H28 : Aside0 (Sep w (fun _ => False) [rI (.slice (some ax) nx cx) ox, rI (.slice (some ay) ny cy) oy, wantA Aw a b l v, gotA (.slice Ag (toldOf a b l v).length cg) a b l v, seqA g lb Rd (wantL a b), wantA Aw2 a2 b2 l v, gotA (.slice Ag2 (toldOf a2 b2 l v).length cg2) a2 b2 l v, .blk Bb (.cells #[(.slice none 0 0)] 49 (0, 0)), .rows (Kd.slice 3 (Kd.int .i64)) 26 (.slice none 0 0) []] V0) := ⟨hF2⟩
  clear hV0 hBb hF hF2 H27
  have HP := Aside0.mk (H28.out.both (P := Try.prog) (t := 49) (ty := 49) (.slice none 0 0) 24 8 3 (by decide) rfl rfl (HX.out _) Try.underlying49 infoAR rfl (by decide) (by simp [toldOf, maxLen, List.length_nil]) (by simp [toldOf, List.length_nil]) (by simp [toldOf]))
  have q0 := (H28.out.cell 7 0 rfl).trans rfl
  gi_upto_region 26 with (gi_at_builtin; obtain ⟨v1, w1, hrun, hsep⟩ := HP.out; obtain ⟨L1, hL1⟩ : ∃ q : List (List Int), q = [] ++ toldOf a b l v := ⟨_, rfl⟩; rw [← hL1] at hsep; have HLD := Aside0.mk hL1; clear hL1; obtain ⟨AL1, cL1, rfl⟩ := Kd.S_slice (hsep.get 8 rfl); refine wpListIn_append_run rfl (.tmp 158) (.tmp 159) 49 rfl rfl rfl hrun ?_; have q1 := (hsep.cell 7 0 rfl).trans rfl; have y1 := hsep.frozen 7 0 rfl; have HQ := Aside0.mk hsep; clear hrun hsep)
  have hL1 := HLD.out
  have hput := HQ.out.put (HX.out _) 7 0 rfl (.slice AL1 L1.length cL1) rfl
  generalize hV : w1.setCell ⟨Bb, 0, none⟩ (.slice AL1 L1.length cL1) = V1 at hput ⊢
  have H29 : Aside0 (Sep w (fun _ => False) [rI (.slice (some ax) nx cx) ox, rI (.slice (some ay) ny cy) oy, wantA Aw a b l v, .emp, seqA g lb Rd (wantL a b), wantA Aw2 a2 b2 l v, gotA (.slice Ag2 (toldOf a2 b2 l v).length cg2) a2 b2 l v, .blk Bb (.cells #[.slice AL1 L1.length cL1] 49 (0, 0)), .rows (Kd.slice 3 (Kd.int .i64)) 26 (.slice AL1 L1.length cL1) L1] V1) := ⟨hput⟩
  clear hV hput HQ HP q0 q1 y1 HLD H28
  have HL1 : Aside0 (L1.length = 8 ∧ ∀ x ∈ L1, x.length ≤ 2097152) := ⟨by rw [hL1]; exact ⟨rfl, fun x hx => toldOf_small a b l v x (by simpa using hx)⟩⟩
  clear hL1
  have HP := Aside0.mk (H29.out.both (P := Try.prog) (t := 49) (ty := 49) (.slice none 0 0) 24 8 6 (by decide) rfl rfl (HX.out _) Try.underlying49 infoAR rfl (by decide) (by simp [toldOf, maxLen, HL1.out.1]) (by simp [toldOf, HL1.out.1]) (by simp [toldOf]))
  have q0 := (H29.out.cell 7 0 rfl).trans rfl
  gi_upto_region 27 with (gi_at_builtin; obtain ⟨v1, w1, hrun, hsep⟩ := HP.out; obtain ⟨L2, hL2⟩ : ∃ q : List (List Int), q = L1 ++ toldOf a2 b2 l v := ⟨_, rfl⟩; rw [← hL2] at hsep; have HLD := Aside0.mk hL2; clear hL2; obtain ⟨AL2, cL2, rfl⟩ := Kd.S_slice (hsep.get 8 rfl); refine wpListIn_append_run rfl (.tmp 161) (.tmp 162) 49 rfl rfl rfl hrun ?_; have q1 := (hsep.cell 7 0 rfl).trans rfl; have y1 := hsep.frozen 7 0 rfl; have HQ := Aside0.mk hsep; clear hrun hsep)
  have hL2 := HLD.out
  have hput := HQ.out.put (HX.out _) 7 0 rfl (.slice AL2 L2.length cL2) rfl
  generalize hV : w1.setCell ⟨Bb, 0, none⟩ (.slice AL2 L2.length cL2) = V2 at hput ⊢
  have H30 : Aside0 (Sep w (fun _ => False) [rI (.slice (some ax) nx cx) ox, rI (.slice (some ay) ny cy) oy, wantA Aw a b l v, .emp, seqA g lb Rd (wantL a b), wantA Aw2 a2 b2 l v, .emp, .blk Bb (.cells #[.slice AL2 L2.length cL2] 49 (0, 0)), .rows (Kd.slice 3 (Kd.int .i64)) 26 (.slice AL2 L2.length cL2) L2] V2) := ⟨hput⟩
  clear hV hput HQ HP q0 q1 y1 HLD H29
  have HL2 : Aside0 (L2.length = 16 ∧ ∀ x ∈ L2, x.length ≤ 2097152) := ⟨by rw [hL2]; exact ⟨by rw [List.length_append, HL1.out.1]; rfl, fun x hx => (List.mem_append.1 hx).elim (HL1.out.2 x) (toldOf_small a2 b2 l v x)⟩⟩
  clear hL2 HL1
  gi_wp2
  have HSQ1 := Aside0.mk (H30.out.get 4 rfl).1
  have HV1 : Aside0 (RInv w (fun V L => [rI (.slice (some ax) nx cx) ox, rI (.slice (some ay) ny cy) oy, wantA Aw a b l v, .emp, seqA g lb Rd (wantL a b), wantA Aw2 a2 b2 l v, .emp, .blk Bb (.cells #[V] 49 (0, 0)), .rows (Kd.slice 3 (Kd.int .i64)) 26 V L]) 16 (fun _ => False) 0 V2) := ⟨⟨fun k h => h.elim, by decide, AL2, cL2, L2, H30.out, Nat.le_of_eq HL2.out.1, HL2.out.2⟩⟩
  have hw1 : Aside0 (w.heap.size ≤ V2.heap.size) := ⟨H30.out.hB.size⟩
  refine wpIn_range_own (by decide) (gf := g) (lb := lb) rfl rfl trivial EG.out HSQ1.out.now HandI.move HSQ1.out.1 (Below.refl _ _) (fun _ => rfl)
    (fun (M : Nat → Prop) (pre : List (Int × Value × List Int)) (W : World) => RInv w (fun V L => [rI (.slice (some ax) nx cx) ox, rI (.slice (some ay) ny cy) oy, wantA Aw a b l v, .emp, seqA g lb Rd (wantL a b), wantA Aw2 a2 b2 l v, .emp, .blk Bb (.cells #[V] 49 (0, 0)), .rows (Kd.slice 3 (Kd.int .i64)) 26 V L]) 16 M pre.length W) (fun _ _ _ _ => False) RInv.own (fun c M M1 pre A B h _ _ => h) HV1.out
    (fun p => { tmps := #[Value.slice A0 a.length c0, Value.slice A1 b.length c1, Value.int IntKind.i64 l, undef, undef, undef, Value.bool false, Value.int IntKind.i64 v, Value.slice (some ax) nx cx, Value.slice (some ay) ny cy, Value.slice Aw (toldOf a b l v).length cw, Value.slice Ag (toldOf a b l v).length cg, Value.func (Fn.func g) #[] lb, Value.slice Aw2 (toldOf a2 b2 l v).length cw2, Value.slice Ag2 (toldOf a2 b2 l v).length cg2, Value.pointer (some { block := Bb, off := 0 }), undef, p.2.1, undef, undef, u20, u21, u22, u23, u24, u25, u26, u27, u28, Value.slice A0 a.length c0, Value.slice (some ax) nx cx, Value.slice A1 b.length c1, Value.slice (some ay) ny cy, Value.slice A0 a.length c0, Value.slice A1 b.length c1, Value.int IntKind.i64 l, Value.int IntKind.i64 v, Value.slice Aw (toldOf a b l v).length cw, Value.slice (some ax) nx cx, Value.slice A0 a.length c0, Value.int IntKind.i64 ↑a.length, Value.slice (some ax) a.length cx, Value.slice (some ay) ny cy, Value.slice A1 b.length c1, Value.int IntKind.i64 ↑b.length, Value.slice (some ay) b.length cy, Value.int IntKind.i64 l, Value.int IntKind.i64 v, Value.slice Ag (toldOf a b l v).length cg, Value.slice Ag (toldOf a b l v).length cg, Value.slice Aw (toldOf a b l v).length cw, Value.bool true, Value.bool false, Value.bool false, Value.slice (some ax) nx cx, Value.slice A0 a.length c0, Value.bool true, Value.bool false, Value.bool false, Value.bool false, Value.slice (some ay) ny cy, Value.slice A1 b.length c1, Value.bool true, Value.bool false, Value.bool false, Value.slice (some ax) nx cx, Value.slice A0 a.length c0, Value.int IntKind.i64 ↑a.length, Value.slice (some ax) a.length cx, Value.bool (sound a), Value.slice (some ax) nx cx, Value.slice A0 a.length c0, Value.int IntKind.i64 ↑a.length, Value.slice (some ax) a.length cx, Value.int IntKind.i64 l, Value.bool (has a l), Value.slice (some ax) nx cx, Value.slice A0 a.length c0, Value.int IntKind.i64 ↑a.length, Value.slice (some ax) a.length cx, Value.bool (tautIn (tidyOf a)), Value.slice (some ax) nx cx, Value.slice A0 a.length c0, Value.int IntKind.i64 ↑a.length, Value.slice (some ax) a.length cx, Value.slice (some ay) ny cy, Value.slice A1 b.length c1, Value.int IntKind.i64 ↑b.length, Value.slice (some ay) b.length cy, Value.bool (sound a && (sound b && tidyOf a == tidyOf b)), Value.slice (some ax) nx cx, Value.slice A0 a.length c0, Value.int IntKind.i64 ↑a.length, Value.slice (some ax) a.length cx, Value.slice (some ay) ny cy, Value.slice A1 b.length c1, Value.int IntKind.i64 ↑b.length, Value.slice (some ay) b.length cy, Value.bool (subOf a b), Value.slice (some ax) nx cx, Value.slice A0 a.length c0, Value.int IntKind.i64 ↑a.length, Value.slice (some ax) a.length cx, Value.slice (some ay) ny cy, Value.slice A1 b.length c1, Value.int IntKind.i64 ↑b.length, Value.slice (some ay) b.length cy, Value.func (Fn.func g) #[] lb, Value.func (Fn.func g) #[] lb, Value.bool false, Value.bool false, Value.slice (some ax) nx cx, Value.slice A0 a.length c0, Value.bool true, Value.bool false, Value.bool false, Value.bool false, Value.slice (some ay) ny cy, Value.slice A1 b.length c1, Value.bool true, Value.bool false, Value.bool false, Value.slice (some ax) nx cx, Value.tuple #[], Value.slice (some ay) ny cy, Value.tuple #[], Value.slice (some ax) nx cx, Value.slice A0 a.length c0, Value.int IntKind.i64 ↑a.length, Value.slice (some ax) a.length cx, Value.slice (some ay) ny cy, Value.slice A1 b.length c1, Value.int IntKind.i64 ↑b.length, Value.slice (some ay) b.length cy, Value.int IntKind.i64 l, Value.int IntKind.i64 v, Value.slice Aw2 (toldOf a2 b2 l v).length cw2, Value.slice (some ax) nx cx, Value.slice A0 a.length c0, Value.int IntKind.i64 ↑a.length, Value.slice (some ax) a.length cx, Value.slice (some ay) ny cy, Value.slice A1 b.length c1, Value.int IntKind.i64 ↑b.length, Value.slice (some ay) b.length cy, Value.int IntKind.i64 l, Value.int IntKind.i64 v, Value.slice Ag2 (toldOf a2 b2 l v).length cg2, Value.slice Ag (toldOf a b l v).length cg, Value.slice Aw (toldOf a b l v).length cw, Value.bool true, Value.bool false, Value.bool false, Value.slice Ag2 (toldOf a2 b2 l v).length cg2, Value.slice Aw2 (toldOf a2 b2 l v).length cw2, Value.bool true, Value.bool false, Value.bool false, Value.slice none 0 0, Value.slice Ag (toldOf a b l v).length cg, Value.slice AL1 L1.length cL1, Value.slice AL1 L1.length cL1, Value.slice Ag2 (toldOf a2 b2 l v).length cg2, Value.slice AL2 L2.length cL2, Value.func (Fn.func g) #[] lb, .int .i64 p.1, p.2.1, u167, u168, u169, u170, u171, u172, u173, u174, u175, u176, u177, u178, u179, u180, u181, u182, u183, u184, u185, u186, u187, u188], defers := [] }) ?assign1 ?body1 ?done1 ?stop1
  case assign1 =>
    intro l x W K hK
    gi_wp2
    first | exact hK | simpa using hK
  case stop1 => exact fun M c pre W _ _ h _ => h.elim
  case body1 =>
    rintro li M M1 pre ⟨x, u, s⟩ A5 W5 hI hg hm hsub hMD hML hsz hHd hlen
    have hM5 := (RInv.own (w := w) (m := 16) _ _ _ _ _ hI hg hm).1
    obtain ⟨hM1, hn5, Aa, ca, L, hsep, hLn, hLs⟩ := hI
    have hS5 := hsep.handI hg (fun b hb => (hM1 b hb).1) hm hHd
    obtain ⟨As, cA, rfl⟩ := Kd.R_slice (hS5.get 9 rfl)
    have HS5 : Aside0 (Sep w M1 [rI (.slice (some ax) nx cx) ox, rI (.slice (some ay) ny cy) oy, wantA Aw a b l v, .emp, seqA g lb Rd (wantL a b), wantA Aw2 a2 b2 l v, .emp, .blk Bb (.cells #[.slice Aa L.length ca] 49 (0, 0)), .rows (Kd.slice 3 (Kd.int .i64)) 26 (.slice Aa L.length ca) L, .row (Kd.int .i64) 3 (.slice As s.length cA) s] W5) := ⟨hS5⟩
    have HLL : Aside0 (L.length ≤ 16 + pre.length ∧ pre.length < 4194304 ∧ (∀ x ∈ L, x.length ≤ 2097152) ∧ s.length ≤ 2097152) := ⟨⟨hLn, hlen, hLs, hHd.2.2.2⟩⟩
    have HM5 := Aside0.mk hM5
    clear hM5 hM1 hn5 hsep hLn hLs hS5 hg hm hsub hMD hML hsz hHd hlen
    have HP := Aside0.mk (HS5.out.pushes (P := Try.prog) (t := 49) (ty := 49) (.slice none 0 0) 24 8 rfl [(9, .slice As s.length cA, s)] (by rintro q r h; rcases q with _ | q; (· injection h with h; subst h; rfl); simp at h) (show [9].Nodup by decide) (show 8 ∉ [9] by decide) (fun b hb => (HM5.out b hb).2) Try.underlying49 infoAR rfl (show L.length + 1 ≤ maxLen from Nat.le_trans (m := 10000000) (by have := HLL.out; omega) (by decide)) (show (L.length + 1) * 24 ≤ 140737488355328 by have := HLL.out; omega))
    have q0 := (HS5.out.cell 7 0 rfl).trans rfl
    gi_wp2_with (gi_at_builtin; refine Hold.out ?_)
    refine ⟨?_⟩
    obtain ⟨v1, w1, hrun, hsep, hgr⟩ := HP.out
    obtain ⟨L9, hL9⟩ : ∃ q : List (List Int), q = L ++ [s] := ⟨_, rfl⟩
    have HLD := Aside0.mk hL9
    replace hsep : Sep w M1 [rI (.slice (some ax) nx cx) ox, rI (.slice (some ay) ny cy) oy, wantA Aw a b l v, .emp, seqA g lb Rd (wantL a b), wantA Aw2 a2 b2 l v, .emp, .blk Bb (.cells #[.slice Aa L.length ca] 49 (0, 0)), .rows (Kd.slice 3 (Kd.int .i64)) 26 (v1) L9, .emp] w1 := by rw [hL9]; exact hsep
    clear hL9
    obtain ⟨A9, c9, rfl⟩ := Kd.S_slice (hsep.get 8 rfl)
    refine wpListIn_append_run rfl (.tmp 167) (.tmp 169) 49 rfl rfl rfl hrun ?_
    have q1 := (hsep.cell 7 0 rfl).trans rfl
    have y1 := hsep.frozen 7 0 rfl
    have HQ := Aside0.mk hsep
    have HGR := Aside0.mk hgr
    clear hrun hsep hgr
    gi_wp2
    exact ⟨RInv.kept HS5.out 8 7 4 (by decide) (by decide) rfl rfl rfl HGR.out rfl, RInv.put HQ.out HM5.out HGR.out.size 7 9 rfl rfl rfl (by rw [List.length_append]; exact HLL.out.2.1) (by have := HLL.out.1; rw [HLD.out, List.length_append, List.length_append, List.length_singleton, List.length_singleton]; omega) (by rw [HLD.out]; intro y hy; rcases List.mem_append.1 hy with h | h; (· exact HLL.out.2.2.1 y h); (· rw [List.mem_singleton.1 h]; exact HLL.out.2.2.2))⟩
  case done1 =>
  rintro M xs V3 hMb hS hI hD
  obtain ⟨hM1, hn5, A3, c3, L3, hsep, hLn, hLs⟩ := hI
  have hs := hsep.mark hMb hw1.out hD
  obtain ⟨dk, hdk⟩ : ∃ q, q = V2.heap.size := ⟨_, rfl⟩
  rw [← hdk] at hs ⊢
  have H31 : Aside0 (Sep w (fun _ => False) [rI (.slice (some ax) nx cx) ox, rI (.slice (some ay) ny cy) oy, wantA Aw a b l v, .emp, seqA g lb Rd (wantL a b), wantA Aw2 a2 b2 l v, .emp, .blk Bb (.cells #[.slice A3 L3.length c3] 49 (0, 0)), .rows (Kd.slice 3 (Kd.int .i64)) 26 (.slice A3 L3.length c3) L3, .blk dk (.deferred (some []))] V3) := ⟨hs⟩
  have HL3 : Aside0 (L3.length ≤ 4194320 ∧ ∀ x ∈ L3, x.length ≤ 2097152) := ⟨by omega, hLs⟩
  clear hMb hS hD hM1 hn5 hsep hLn hLs hs hdk HSQ1 HV1 hw1 H30
  gi_wp2
  have HSQ2 := Aside0.mk (H31.out.get 4 rfl).1
  have HV2 : Aside0 (RInv w (fun V L => [rI (.slice (some ax) nx cx) ox, rI (.slice (some ay) ny cy) oy, wantA Aw a b l v, .emp, seqA g lb Rd (wantL a b), wantA Aw2 a2 b2 l v, .emp, .blk Bb (.cells #[V] 49 (0, 0)), .rows (Kd.slice 3 (Kd.int .i64)) 26 V L, .blk dk (.deferred (some []))]) 4194320 (fun _ => False) 0 V3) := ⟨⟨fun k h => h.elim, by decide, A3, c3, L3, H31.out, HL3.out.1, HL3.out.2⟩⟩
  have hw2 : Aside0 (w.heap.size ≤ V3.heap.size) := ⟨H31.out.hB.size⟩
  refine wpIn_range_own (by decide) (gf := g) (lb := lb) rfl rfl trivial EG.out HSQ2.out.now HandI.move HSQ2.out.1 (Below.refl _ _) (fun _ => rfl)
    (fun (M : Nat → Prop) (pre : List (Int × Value × List Int)) (W : World) => RInv w (fun V L => [rI (.slice (some ax) nx cx) ox, rI (.slice (some ay) ny cy) oy, wantA Aw a b l v, .emp, seqA g lb Rd (wantL a b), wantA Aw2 a2 b2 l v, .emp, .blk Bb (.cells #[V] 49 (0, 0)), .rows (Kd.slice 3 (Kd.int .i64)) 26 V L, .blk dk (.deferred (some []))]) 4194320 M pre.length W) (fun _ _ _ _ => False) RInv.own (fun c M M1 pre A B h _ _ => h) HV2.out
    (fun p => { tmps := #[Value.slice A0 a.length c0, Value.slice A1 b.length c1, Value.int IntKind.i64 l, undef, undef, undef, Value.bool false, Value.int IntKind.i64 v, Value.slice (some ax) nx cx, Value.slice (some ay) ny cy, Value.slice Aw (toldOf a b l v).length cw, Value.slice Ag (toldOf a b l v).length cg, Value.func (Fn.func g) #[] lb, Value.slice Aw2 (toldOf a2 b2 l v).length cw2, Value.slice Ag2 (toldOf a2 b2 l v).length cg2, Value.pointer (some { block := Bb, off := 0 }), undef, undef, undef, p.2.1, u20, u21, u22, u23, u24, u25, u26, u27, u28, Value.slice A0 a.length c0, Value.slice (some ax) nx cx, Value.slice A1 b.length c1, Value.slice (some ay) ny cy, Value.slice A0 a.length c0, Value.slice A1 b.length c1, Value.int IntKind.i64 l, Value.int IntKind.i64 v, Value.slice Aw (toldOf a b l v).length cw, Value.slice (some ax) nx cx, Value.slice A0 a.length c0, Value.int IntKind.i64 ↑a.length, Value.slice (some ax) a.length cx, Value.slice (some ay) ny cy, Value.slice A1 b.length c1, Value.int IntKind.i64 ↑b.length, Value.slice (some ay) b.length cy, Value.int IntKind.i64 l, Value.int IntKind.i64 v, Value.slice Ag (toldOf a b l v).length cg, Value.slice Ag (toldOf a b l v).length cg, Value.slice Aw (toldOf a b l v).length cw, Value.bool true, Value.bool false, Value.bool false, Value.slice (some ax) nx cx, Value.slice A0 a.length c0, Value.bool true, Value.bool false, Value.bool false, Value.bool false, Value.slice (some ay) ny cy, Value.slice A1 b.length c1, Value.bool true, Value.bool false, Value.bool false, Value.slice (some ax) nx cx, Value.slice A0 a.length c0, Value.int IntKind.i64 ↑a.length, Value.slice (some ax) a.length cx, Value.bool (sound a), Value.slice (some ax) nx cx, Value.slice A0 a.length c0, Value.int IntKind.i64 ↑a.length, Value.slice (some ax) a.length cx, Value.int IntKind.i64 l, Value.bool (has a l), Value.slice (some ax) nx cx, Value.slice A0 a.length c0, Value.int IntKind.i64 ↑a.length, Value.slice (some ax) a.length cx, Value.bool (tautIn (tidyOf a)), Value.slice (some ax) nx cx, Value.slice A0 a.length c0, Value.int IntKind.i64 ↑a.length, Value.slice (some ax) a.length cx, Value.slice (some ay) ny cy, Value.slice A1 b.length c1, Value.int IntKind.i64 ↑b.length, Value.slice (some ay) b.length cy, Value.bool (sound a && (sound b && tidyOf a == tidyOf b)), Value.slice (some ax) nx cx, Value.slice A0 a.length c0, Value.int IntKind.i64 ↑a.length, Value.slice (some ax) a.length cx, Value.slice (some ay) ny cy, Value.slice A1 b.length c1, Value.int IntKind.i64 ↑b.length, Value.slice (some ay) b.length cy, Value.bool (subOf a b), Value.slice (some ax) nx cx, Value.slice A0 a.length c0, Value.int IntKind.i64 ↑a.length, Value.slice (some ax) a.length cx, Value.slice (some ay) ny cy, Value.slice A1 b.length c1, Value.int IntKind.i64 ↑b.length, Value.slice (some ay) b.length cy, Value.func (Fn.func g) #[] lb, Value.func (Fn.func g) #[] lb, Value.bool false, Value.bool false, Value.slice (some ax) nx cx, Value.slice A0 a.length c0, Value.bool true, Value.bool false, Value.bool false, Value.bool false, Value.slice (some ay) ny cy, Value.slice A1 b.length c1, Value.bool true, Value.bool false, Value.bool false, Value.slice (some ax) nx cx, Value.tuple #[], Value.slice (some ay) ny cy, Value.tuple #[], Value.slice (some ax) nx cx, Value.slice A0 a.length c0, Value.int IntKind.i64 ↑a.length, Value.slice (some ax) a.length cx, Value.slice (some ay) ny cy, Value.slice A1 b.length c1, Value.int IntKind.i64 ↑b.length, Value.slice (some ay) b.length cy, Value.int IntKind.i64 l, Value.int IntKind.i64 v, Value.slice Aw2 (toldOf a2 b2 l v).length cw2, Value.slice (some ax) nx cx, Value.slice A0 a.length c0, Value.int IntKind.i64 ↑a.length, Value.slice (some ax) a.length cx, Value.slice (some ay) ny cy, Value.slice A1 b.length c1, Value.int IntKind.i64 ↑b.length, Value.slice (some ay) b.length cy, Value.int IntKind.i64 l, Value.int IntKind.i64 v, Value.slice Ag2 (toldOf a2 b2 l v).length cg2, Value.slice Ag (toldOf a b l v).length cg, Value.slice Aw (toldOf a b l v).length cw, Value.bool true, Value.bool false, Value.bool false, Value.slice Ag2 (toldOf a2 b2 l v).length cg2, Value.slice Aw2 (toldOf a2 b2 l v).length cw2, Value.bool true, Value.bool false, Value.bool false, Value.slice none 0 0, Value.slice Ag (toldOf a b l v).length cg, Value.slice AL1 L1.length cL1, Value.slice AL1 L1.length cL1, Value.slice Ag2 (toldOf a2 b2 l v).length cg2, Value.slice AL2 L2.length cL2, Value.func (Fn.func g) #[] lb, u165, u166, u167, u168, u169, u170, .func (.func g) #[] lb, .int .i64 p.1, p.2.1, u174, u175, u176, u177, u178, u179, u180, u181, u182, u183, u184, u185, u186, u187, u188], defers := [] }) ?assign2 ?body2 ?done2 ?stop2
  case assign2 =>
    intro l x W K hK
    gi_wp2
    first | exact hK | simpa using hK
  case stop2 => exact fun M c pre W _ _ h _ => h.elim
  case body2 =>
    rintro li M M1 pre ⟨x, u, s⟩ A5 W5 hI hg hm hsub hMD hML hsz hHd hlen
    have hM5 := (RInv.own (w := w) (m := 4194320) _ _ _ _ _ hI hg hm).1
    obtain ⟨hM1, hn5, Aa, ca, L, hsep, hLn, hLs⟩ := hI
    have hS5 := hsep.handI hg (fun b hb => (hM1 b hb).1) hm hHd
    obtain ⟨As, cA, rfl⟩ := Kd.R_slice (hS5.get 10 rfl)
    have HS5 : Aside0 (Sep w M1 [rI (.slice (some ax) nx cx) ox, rI (.slice (some ay) ny cy) oy, wantA Aw a b l v, .emp, seqA g lb Rd (wantL a b), wantA Aw2 a2 b2 l v, .emp, .blk Bb (.cells #[.slice Aa L.length ca] 49 (0, 0)), .rows (Kd.slice 3 (Kd.int .i64)) 26 (.slice Aa L.length ca) L, .blk dk (.deferred (some [])), .row (Kd.int .i64) 3 (.slice As s.length cA) s] W5) := ⟨hS5⟩
    have HLL : Aside0 (L.length ≤ 4194320 + pre.length ∧ pre.length < 4194304 ∧ (∀ x ∈ L, x.length ≤ 2097152) ∧ s.length ≤ 2097152) := ⟨⟨hLn, hlen, hLs, hHd.2.2.2⟩⟩
    have HM5 := Aside0.mk hM5
    clear hM5 hM1 hn5 hsep hLn hLs hS5 hg hm hsub hMD hML hsz hHd hlen
    have HP := Aside0.mk (HS5.out.pushes (P := Try.prog) (t := 49) (ty := 49) (.slice none 0 0) 24 8 rfl [(10, .slice As s.length cA, s)] (by rintro q r h; rcases q with _ | q; (· injection h with h; subst h; rfl); simp at h) (show [10].Nodup by decide) (show 8 ∉ [10] by decide) (fun b hb => (HM5.out b hb).2) Try.underlying49 infoAR rfl (show L.length + 1 ≤ maxLen from Nat.le_trans (m := 10000000) (by have := HLL.out; omega) (by decide)) (show (L.length + 1) * 24 ≤ 140737488355328 by have := HLL.out; omega))
    have q0 := (HS5.out.cell 7 0 rfl).trans rfl
    gi_wp2_with (gi_at_builtin; refine Hold.out ?_)
    refine ⟨?_⟩
    obtain ⟨v1, w1, hrun, hsep, hgr⟩ := HP.out
    obtain ⟨L9, hL9⟩ : ∃ q : List (List Int), q = L ++ [s] := ⟨_, rfl⟩
    have HLD := Aside0.mk hL9
    replace hsep : Sep w M1 [rI (.slice (some ax) nx cx) ox, rI (.slice (some ay) ny cy) oy, wantA Aw a b l v, .emp, seqA g lb Rd (wantL a b), wantA Aw2 a2 b2 l v, .emp, .blk Bb (.cells #[.slice Aa L.length ca] 49 (0, 0)), .rows (Kd.slice 3 (Kd.int .i64)) 26 (v1) L9, .blk dk (.deferred (some [])), .emp] w1 := by rw [hL9]; exact hsep
    clear hL9
    obtain ⟨A9, c9, rfl⟩ := Kd.S_slice (hsep.get 8 rfl)
    refine wpListIn_append_run rfl (.tmp 174) (.tmp 176) 49 rfl rfl rfl hrun ?_
    have q1 := (hsep.cell 7 0 rfl).trans rfl
    have y1 := hsep.frozen 7 0 rfl
    have HQ := Aside0.mk hsep
    have HGR := Aside0.mk hgr
    clear hrun hsep hgr
    gi_wp2
    exact ⟨RInv.kept HS5.out 8 7 4 (by decide) (by decide) rfl rfl rfl HGR.out rfl, RInv.put HQ.out HM5.out HGR.out.size 7 10 rfl rfl rfl (by rw [List.length_append]; exact HLL.out.2.1) (by have := HLL.out.1; rw [HLD.out, List.length_append, List.length_append, List.length_singleton, List.length_singleton]; omega) (by rw [HLD.out]; intro y hy; rcases List.mem_append.1 hy with h | h; (· exact HLL.out.2.2.1 y h); (· rw [List.mem_singleton.1 h]; exact HLL.out.2.2.2))⟩
  case done2 =>
  rintro M xs V4 hMb hS hI hD
  obtain ⟨hM1, hn5, A4, c4, L4, hsep, hLn, hLs⟩ := hI
  have hs := hsep.mark hMb hw2.out hD
  obtain ⟨dk2, hdk2⟩ : ∃ q, q = V3.heap.size := ⟨_, rfl⟩
  rw [← hdk2] at hs ⊢
  have H32 : Aside0 (Sep w (fun _ => False) [rI (.slice (some ax) nx cx) ox, rI (.slice (some ay) ny cy) oy, wantA Aw a b l v, .emp, seqA g lb Rd (wantL a b), wantA Aw2 a2 b2 l v, .emp, .blk Bb (.cells #[.slice A4 L4.length c4] 49 (0, 0)), .rows (Kd.slice 3 (Kd.int .i64)) 26 (.slice A4 L4.length c4) L4, .blk dk (.deferred (some [])), .blk dk2 (.deferred (some []))] V4) := ⟨hs⟩
  have HL4 : Aside0 (L4.length ≤ 8388624 ∧ ∀ x ∈ L4, x.length ≤ 2097152) := ⟨by omega, hLs⟩
  clear hMb hS hD hM1 hn5 hsep hLn hLs hs hdk2 HSQ2 HV2 hw2 H31
  have HP := Aside0.mk (H32.out.pushes (P := Try.prog) (t := 49) (ty := 49) (.slice none 0 0) 24 8 rfl [(0, (.slice (some ax) nx cx), ox), (1, (.slice (some ay) ny cy), oy)] (by rintro q r h; rcases q with _ | q; (· injection h with h; subst h; rfl); rcases q with _ | q; (· injection h with h; subst h; rfl); simp at h) (show [0, 1].Nodup by decide) (show 8 ∉ [0, 1] by decide) (HX.out _) Try.underlying49 infoAR rfl (show L4.length + 2 ≤ maxLen from Nat.le_trans (m := 10000000) (by have := HL4.out.1; omega) (by decide)) (show (L4.length + 2) * 24 ≤ 140737488355328 by have := HL4.out.1; omega))
  have q0 := (H32.out.cell 7 0 rfl).trans rfl
  gi_wp2_with (gi_at_builtin; refine Hold.out ?_)
  refine ⟨?_⟩
  obtain ⟨v1, w1, hrun, hsep, _⟩ := HP.out
  obtain ⟨L5, hL5⟩ : ∃ q : List (List Int), q = L4 ++ [ox, oy] := ⟨_, rfl⟩
  have HLD := Aside0.mk hL5
  replace hsep : Sep w (fun _ => False) [.emp, .emp, wantA Aw a b l v, .emp, seqA g lb Rd (wantL a b), wantA Aw2 a2 b2 l v, .emp, .blk Bb (.cells #[.slice A4 L4.length c4] 49 (0, 0)), .rows (Kd.slice 3 (Kd.int .i64)) 26 (v1) L5, .blk dk (.deferred (some [])), .blk dk2 (.deferred (some []))] w1 := by rw [hL5]; exact hsep
  clear hL5
  obtain ⟨A5, c5, rfl⟩ := Kd.S_slice (hsep.get 8 rfl)
  refine wpListIn_append_run rfl (.tmp 178) (.tmp 181) 49 rfl rfl rfl hrun ?_
  have q1 := (hsep.cell 7 0 rfl).trans rfl
  have y1 := hsep.frozen 7 0 rfl
  have HQ := Aside0.mk hsep
  clear hrun hsep
  gi_upto_region 34 with fail
  have hput := HQ.out.put (HX.out _) 7 0 rfl (.slice A5 L5.length c5) rfl
  generalize hV : w1.setCell ⟨Bb, 0, none⟩ (.slice A5 L5.length c5) = V5 at hput ⊢
  have H33 : Aside0 (Sep w (fun _ => False) [.emp, .emp, wantA Aw a b l v, .emp, seqA g lb Rd (wantL a b), wantA Aw2 a2 b2 l v, .emp, .blk Bb (.cells #[.slice A5 L5.length c5] 49 (0, 0)), .rows (Kd.slice 3 (Kd.int .i64)) 26 (.slice A5 L5.length c5) L5, .blk dk (.deferred (some [])), .blk dk2 (.deferred (some []))] V5) := ⟨hput⟩
  have HL5 : Aside0 (L5.length ≤ 8388626 ∧ ∀ x ∈ L5, x.length ≤ 2097152) := ⟨by have := HL4.out.1; rw [HLD.out, List.length_append]; simp only [List.length_cons, List.length_nil]; omega, fun x hx => by rw [HLD.out] at hx; rcases List.mem_append.1 hx with h | h; (· exact HL4.out.2 x h); (· have h1 := HO2x.out; have h2 := HO2y.out; have h3 := HNN.out; simp only [List.mem_cons, List.not_mem_nil, or_false] at h; rcases h with rfl | rfl <;> omega)⟩
  clear hV hput HQ HP q0 q1 y1 HLD H32
  obtain ⟨ok, hS, hback⟩ := H33.out.use 8 rfl (HX.out _)
  have HS : Aside0 (Kd.S (Kd.slice 3 (Kd.int .i64)) 26 V5 0 ok (.slice A5 L5.length c5) L5) := ⟨hS⟩
  have HB := Aside0.mk hback
  have q2 := (H33.out.cell 7 0 rfl).trans rfl
  clear hS hback H33
  gi_wp2
  refine ⟨trivial, ?_⟩
  (with_reducible refine (callsIn_wide.2 (apartInts_S HS.out (by have := HL5.out.1; omega) (fun x hx => by have := HL5.out.2 x hx; omega))).mono ?_)
  rintro e V6 ⟨rfl, hg⟩
  have H34 : Aside0 (Sep w (fun _ => False) [.emp, .emp, wantA Aw a b l v, .emp, seqA g lb Rd (wantL a b), wantA Aw2 a2 b2 l v, .emp, .blk Bb (.cells #[.slice A5 L5.length c5] 49 (0, 0)), .emp, .blk dk (.deferred (some [])), .blk dk2 (.deferred (some []))] V6) := ⟨HB.out V6 .emp hg trivial⟩
  clear hg HB HS q2
  gi_wp2
  have hN := H34.out.new (HX.out _) (.cells #[.int .i64 4, .int .i64 2] 3 (0, 0))
  have hN2 : (V6.alloc (.cells #[.int .i64 4, .int .i64 2] 3 (0, 0))).heap[V6.heap.size]? = some (.cells #[.int .i64 4, .int .i64 2] 3 (0, 0)) := World.alloc_heap_new V6 _
  refine ⟨trivial, ?_⟩
  (with_reducible refine (callsIn_wide.2 (has_lit V6.heap.size _ hN2)).mono ?_)
  rintro e V7 ⟨rfl, hb⟩
  have H35 : Aside0 (Sep w (fun _ => False) [.emp, .emp, wantA Aw a b l v, .emp, seqA g lb Rd (wantL a b), wantA Aw2 a2 b2 l v, .emp, .blk Bb (.cells #[.slice A5 L5.length c5] 49 (0, 0)), .emp, .blk dk (.deferred (some [])), .blk dk2 (.deferred (some [])), .blk V6.heap.size (.cells #[.int .i64 4, .int .i64 2] 3 (0, 0))] V7) := ⟨hN.keep hb⟩
  clear hN hN2 hb H34
  gi_wp2
  refine ⟨by simp, .inl ⟨_, _, rfl, run_takeDeferred (H35.out.obj 10 rfl), ?_⟩⟩
  have E1 := H35.out.putObj (HX.out _) 10 (o' := .deferred none) rfl
  refine ⟨by simp, .inl ⟨_, _, rfl, run_takeDeferred (E1.obj 9 rfl), ?_⟩⟩
  have E2 := E1.putObj (HX.out _) 9 (o' := .deferred none) rfl
  exact ⟨.bool true, by simp [results, Try.results14, go_sem], rfl, E2.hB⟩
end Go.Proofs.YtamefocngapkpaaHand
