/- What cnf.laid answers: the clauses in new memory, behind others (which are the caller's own). -/
import Derived.Test.YtggnnnddnppcpaaTidy
import Derived.Test.YtggnnnddnppcpaaWApart
import Derived.Test.YtggnnnddnppcpaaLaid0
namespace Go.Proofs.YtggnnnddnppcpaaHand
open Go.RowKit Go.Proofs.YtggnnnddnppcpaaW.PrintWords Go.Proofs.YtggnnnddnppcpaaW.PrintLast Go.Proofs.YtggnnnddnppcpaaMath
set_option linter.unusedVariables false
set_option linter.unusedSimpArgs false

set_option maxHeartbeats 4000000 in
set_option maxRecDepth 100000 in
theorem laid_calls (A1 : Option Addr) (c1 : Nat) (xs l1 : List (List Int)) (uu : Value) (w0 w : World) (hr1 : Kd.C (Kd.slice 3 (Kd.int .i64)) w0 A1 l1.length l1) (hc1 : l1.length ≤ c1) (hB : Below w0.heap.size w0 w)
    (ho : Kd.S (Kd.slice 3 (Kd.int .i64)) 43 w w0.heap.size (fun _ => True) uu xs) (hn : xs.length + l1.length ≤ 5864062014805) (hs : ∀ c ∈ l1, c.length ≤ 17592186044416) :
    Calls Try.prog 59 #[uu, .slice A1 l1.length c1] w fun e w' => ∃ v : Value, e = .returned v ∧ Kd.S (Kd.slice 3 (Kd.int .i64)) 43 w' w0.heap.size (fun _ => True) v (xs ++ l1) ∧ Below w0.heap.size w0 w' := by
  have HR1 := Aside0.mk hr1
  have HB := Aside0.mk hB
  have HO := Aside0.mk ho
  have HN := Aside0.mk hn
  have HS := Aside0.mk hs
  clear hr1 hB ho hn hs
  go_enter Try.func59, Try.ntmps59
  go_wp2
  go_loopw [0, 6, 9] (fun v0 _ v9 wr => ∃ (k : Nat) (x : Int), v9 = .int .i64 x ∧ Aside0 (x = k ∧ k ≤ l1.length) ∧ Aside0 (Kd.S (Kd.slice 3 (Kd.int .i64)) 43 wr w0.heap.size (fun _ => True) v0 (xs ++ l1.take k)) ∧ Aside0 (Below w0.heap.size w0 wr)) (fun _ _ i _ => l1.length - (intOf i).toNat)
  case atStart => exact ⟨0, 0, rfl, ⟨rfl, Nat.zero_le _⟩, ⟨by simpa using HO.out⟩, ⟨HB.out⟩⟩
  case round =>
    clear HO HB
    obtain ⟨k, x, rfl, HX, HO, HB⟩ := hrel
    obtain ⟨hxk, hk⟩ := HX.out
    by_cases hlt : k < l1.length
    · have p1 : 0 ≤ x := by omega
      have q1 : x < (l1.length : Int) := by omega
      obtain ⟨ad, A, c, e1, hcell, hlc, hrow⟩ := row_at (Kd.C_below HR1.out HB.out) x p1 q1
      subst e1
      have p2 := eq_true p1
      have q2 := eq_true q1
      have q3 : decide (x < (l1.length : Int)) = true := decide_eq_true q1
      have hmem : l1.getD x.toNat [] ∈ l1 := by rw [hxk]; rw [getD_nat hlt]; exact List.getElem_mem hlt
      have htk : xs ++ l1.take (k + 1) = (xs ++ l1.take k) ++ [l1.getD x.toNat []] := by rw [hxk, take_getD (z := ([] : List Int)) hlt, List.append_assoc]
      have HX2 : Aside0 (wrap64 (x + 1) = ((k + 1 : Nat) : Int) ∧ k + 1 ≤ l1.length) := by
        have := HN.out
        exact ⟨by rw [w64 (by omega) (by omega)]; omega, by omega⟩
      have hm : (intOf (.int .i64 (wrap64 (x + 1)))).toNat = k + 1 := by rw [HX2.out.1]; simp [intOf]
      have hm0 : (intOf (.int .i64 x)).toNat = k := by rw [hxk]; simp [intOf]
      have HM : Aside0 (l1.length - (intOf (.int .i64 (wrap64 (x + 1)))).toNat < l1.length - (intOf (.int .i64 x)).toNat) := ⟨by rw [hm, hm0]; omega⟩
      have HLR : Aside0 ((l1.getD x.toNat []).length ≤ 17592186044416) := ⟨HS.out _ hmem⟩
      have HLX : Aside0 ((xs ++ l1.take k).length < 5864062014805) := by
        have := HN.out
        rw [List.length_append, List.length_take]
        exact ⟨by omega⟩
      have HTK := Aside0.mk htk
      have HROW := Aside0.mk hrow
      clear hm hm0 hxk hk hlt p1 q1 hrow hlc hmem htk HX
      generalize l1.getD x.toNat [] = row at *
      generalize xs ++ l1.take k = ys at *
      go_wp2_with (first
        | ((with_reducible refine gate_builtin (b := .append) (xs := #[.const (.slice none 0 0), .tmp 14]) rfl ?_); at_builtin; refine print_append_row (w0 := w0) w0.heap.size rfl (.const (.slice none 0 0)) (.tmp 14) 43 3 .i64 8 rfl Try.underlying43 infoI (by decide) _ ([] : List Int) row A _ _ rfl rfl ?aO ?aR ?aB ?aS ?aL ?_; (case aO => exact World.ownsRow_nil _ _ _ _); (case aR => exact Kd.reads_of_C HROW.out); (case aB => exact HB.out); (case aS => exact HB.out.size); (case aL => have := HLR.out; simp; omega); intro v1 w1 ho hb hg hat; have HI := Aside0.mk (own_R (xs := row) (by simpa using ho)); have HO1 := Aside0.mk (Kd.S_elder' (v := v1) HO.out (fun k hk => elder hat hk) (below_grown_none hg)); have HB1 := Aside0.mk hb; clear ho hb hg hat; obtain ⟨Ao, co, eo⟩ := Kd.R_slice HI.out; subst eo)
        | ((with_reducible refine gate_builtin (b := .append) (xs := #[.tmp 13, .tmp 16]) rfl ?_); at_builtin; refine Kd.S_append (Kd.slice 3 (Kd.int .i64)) (w0 := w0) w0.heap.size rfl (.tmp 13) (.tmp 16) 22 43 (.slice none 0 0) 24 rfl Try.underlying22 infoRow rfl (by decide) (by omega) u0 ys row [.slice Ao row.length co] (fun _ => True) (fun k_ => some k_ = (.slice Ao row.length co : Value).ownBlock) rfl rfl ?aP (fun k_ hk_ => ((Kd.R_mono (ok' := fun k_ => ((fun _ => True)) k_ ∧ some k_ ≠ (u0 : Value).ownBlock) (Kd.R_apart' (HI.out) (Kd.S_typed HO1.out) (by decide)) (fun k_ hk => ⟨trivial, hk.2⟩))).1 k_ hk_.symm) ?aF ?aO ?aB ?aS ?aL ?_; (case aP => exact Kd.M_row (Kd.R_mono (Kd.R_tight rfl (Kd.R_mono (ok' := fun k_ => ((fun _ => True)) k_ ∧ some k_ ≠ (u0 : Value).ownBlock) (Kd.R_apart' (HI.out) (Kd.S_typed HO1.out) (by decide)) (fun k_ hk => ⟨trivial, hk.2⟩))) (fun _ h_ => h_))); (case aB => exact HB1.out); (case aF => exact (fun _ _ => trivial)); (case aO => exact (Kd.S_mono HO1.out (fun k_ hk => ⟨trivial, fun e_ => hk.2 e_⟩))); (case aS => exact HB1.out.size); (case aL => have := HLX.out; omega); intro v2 w2 ho hb hg hat; have HO2 := Aside0.mk ho; have HB2 := Aside0.mk hb; clear ho hb hg hat))
      go_roundw
      case measure => exact HM.out
      case rel => exact ⟨k + 1, _, rfl, HX2, ⟨by rw [HTK.out]; exact HO2.out⟩, ⟨HB2.out⟩⟩
    · obtain rfl : k = l1.length := by omega
      have q3 : decide (x < (l1.length : Int)) = false := decide_eq_false (by omega)
      have ho := HO.out
      rw [List.take_length] at ho
      have HO2 := Aside0.mk ho
      clear hxk hk hlt HX HO ho
      go_wp2
      go_ret
      exact ⟨_, rfl, HO2.out, HB.out⟩
end Go.Proofs.YtggnnnddnppcpaaHand
