/- What cnf.leftOf answers: the literals of a clause of which a map says 0; or that it says 1 of one. -/
import Derived.Test.YtggnnnddnppcpaaTidy
import Derived.Test.YtggnnnddnppcpaaMapI
namespace Go.Proofs.YtggnnnddnppcpaaMath
/-- what is left of a clause, where a map tells of literals 1 (true), -1 (false); false: it is true -/
def leftIn (f : Int → Option Int) (c : List Int) : List Int × Bool := if c.any (fun l => decide ((f l).getD 0 = 1)) = true then ([], false) else (c.filter (fun l => decide ((f l).getD 0 = 0)), true)
end Go.Proofs.YtggnnnddnppcpaaMath
namespace Go.Proofs.YtggnnnddnppcpaaHand
open Go.RowKit Go.Proofs.YtggnnnddnppcpaaW.PrintWords Go.Proofs.YtggnnnddnppcpaaW.PrintLast Go.Proofs.YtggnnnddnppcpaaMath Go.Proofs.YtggnnnddnppcpaaMaps Go.Maps
set_option linter.unusedVariables false
set_option linter.unusedSimpArgs false

set_option maxHeartbeats 4000000 in
set_option maxRecDepth 100000 in
theorem leftOf_calls (A0 : Option Addr) (c0 : Nat) (l0 : List Int) (B n cnt : Nat) (f : Int → Option Int) (w : World) (hr0 : Kd.C (Kd.int .i64) w A0 l0.length l0) (hn : l0.length ≤ 17592186044416) (hb : ∀ y ∈ l0, -9223372036854775808 ≤ y ∧ y ≤ 9223372036854775807) (hm : IMI w B n f cnt) :
    Calls Try.prog 75 #[.slice A0 l0.length c0, .map (some B)] w fun e w' => ∃ v : Value, e = .returned (.tuple #[v, .bool (leftIn f l0).2]) ∧ OwnInts w' w.heap.size v (leftIn f l0).1 ∧ Below w.heap.size w w' := by
  have HR0 := Aside0.mk hr0
  have HN := Aside0.mk hn
  have HBD := Aside0.mk hb
  have HM := Aside0.mk hm
  clear hn hr0 hb hm
  go_enter Try.func75, Try.ntmps75
  go_wp2
  go_loopw [6, 8, 11] (fun v6 _ v11 wr => ∃ (k : Nat) (x : Int), v11 = .int .i64 x ∧ Aside0 (x = k ∧ k ≤ l0.length) ∧ Aside0 (∀ y ∈ l0.take k, (f y).getD 0 ≠ 1) ∧ Aside0 (OwnInts wr w.heap.size v6 ((l0.take k).filter (fun l => decide ((f l).getD 0 = 0)))) ∧ Aside0 (Below w.heap.size w wr)) (fun _ _ i _ => l0.length - (intOf i).toNat)
  case atStart => exact ⟨0, 0, rfl, ⟨rfl, Nat.zero_le _⟩, ⟨by simp⟩, ⟨World.ownsRow_nil _ _ _ _⟩, ⟨Below.refl _ _⟩⟩
  case round =>
    obtain ⟨k, x, rfl, HX, HF, HO, HB⟩ := hrel
    obtain ⟨hxk, hk⟩ := HX.out
    by_cases hlt : k < l0.length
    · have p1 : 0 ≤ x := by omega
      have q1 : x < (l0.length : Int) := by omega
      obtain ⟨ad, e1, hcell⟩ := Kd.at_int (Kd.C_below HR0.out HB.out) x p1 q1
      subst e1
      have p2 := eq_true p1
      have q2 := eq_true q1
      have q3 : decide (x < (l0.length : Int)) = true := decide_eq_true q1
      have HX2 : Aside0 (wrap64 (x + 1) = ((k + 1 : Nat) : Int) ∧ k + 1 ≤ l0.length) := by
        have := HN.out
        exact ⟨by rw [w64 (by omega) (by omega)]; omega, by omega⟩
      have hm : (intOf (.int .i64 (wrap64 (x + 1)))).toNat = k + 1 := by rw [HX2.out.1]; simp [intOf]
      have hm0 : (intOf (.int .i64 x)).toNat = k := by rw [hxk]; simp [intOf]
      have HMS : Aside0 (l0.length - (intOf (.int .i64 (wrap64 (x + 1)))).toNat < l0.length - (intOf (.int .i64 x)).toNat) := ⟨by rw [hm, hm0]; omega⟩
      have hrd : rd l0 x = rd l0 (k : Int) := by rw [hxk]
      rw [hrd] at hcell
      have HT1 : Aside0 (l0.take (k + 1) = l0.take k ++ [rd l0 (k : Int)]) := ⟨take_rd hlt⟩
      have hin : rd l0 (k : Int) ∈ l0 := rd_mem hlt
      have hyb := HBD.out _ hin
      obtain ⟨y, hy⟩ : ∃ y, y = rd l0 (k : Int) := ⟨_, rfl⟩
      rw [← hy] at hcell hyb hin
      have HL : Aside0 (((l0.take k).filter (fun l => decide ((f l).getD 0 = 0))).length + 1 ≤ 17592186044416) := by
        have h1 := List.length_filter_le (fun l => decide ((f l).getD 0 = 0)) (l0.take k)
        rw [List.length_take] at h1
        have := HN.out
        exact ⟨by omega⟩
      have L : (Instr.lookup 88 (.map (some B)) (.int .i64 y) false).run Try.prog wr = .ok (.int .i64 ((f y).getD 0)) wr :=
        im_look_run (IM.below HM.out HB.out) y hyb
      have HY := Aside0.mk hy
      have HIN := Aside0.mk hin
      by_cases z1 : (f y).getD 0 = 1
      · have HU : Aside0 (leftIn f l0 = ([], false)) := ⟨by unfold leftIn; rw [if_pos (List.any_eq_true.2 ⟨y, hin, by simpa using z1⟩)]⟩
        rw [z1] at L
        clear z1 hm hm0 hxk hk hlt p1 q1 hrd hy HX hyb hin
        go_wp2
        go_ret2
        rw [HU.out]
        exact ⟨_, rfl, World.ownsRow_nil _ _ _ _, by first | exact HB.out | exact pw_below_drewN HB.out _⟩
      · have HZ1 := Aside0.mk z1
        by_cases z0 : (f y).getD 0 = 0
        · rw [z0] at L
          have HTF : Aside0 ((l0.take (k + 1)).filter (fun l => decide ((f l).getD 0 = 0)) = (l0.take k).filter (fun l => decide ((f l).getD 0 = 0)) ++ [y]) := ⟨by rw [HT1.out, ← HY.out, List.filter_append]; simp [z0]⟩
          clear z1 z0 hm hm0 hxk hk hlt p1 q1 hrd hy HX hyb hin
          obtain ⟨ys, hys⟩ : ∃ ys, ys = (l0.take k).filter (fun l => decide ((f l).getD 0 = 0)) := ⟨_, rfl⟩
          rw [← hys] at HO HTF HL
          clear hys
          go_wp2_with ((with_reducible refine gate_builtin (b := .append) (xs := #[.tmp 22, .tmp 24]) rfl ?_); at_builtin; refine print_append_num (w0 := w) w.heap.size rfl (.tmp 22) (.tmp 24) 43 3 .i64 8 rfl Try.underlying43 infoI (by decide) _ ys y rfl rfl ?aO ?aB ?aS ?aL ?_; (case aO => exact HO.out); (case aB => first | exact HB.out | exact pw_below_drewN HB.out _); (case aS => exact HB.out.size); (case aL => have := HL.out; omega); intro v1 w1 ho hb hg hat; have HO1 := Aside0.mk ho; have HB1 := Aside0.mk hb; clear ho hb hg hat)
          go_roundw
          case measure => exact HMS.out
          case rel =>
            refine ⟨k + 1, _, rfl, HX2, ⟨?_⟩, ⟨by rw [HTF.out]; exact HO1.out⟩, ⟨HB1.out⟩⟩
            intro z hz
            rw [HT1.out, ← HY.out, List.mem_append, List.mem_singleton] at hz
            rcases hz with hz | rfl
            · exact HF.out z hz
            · exact HZ1.out
        · have HTF : Aside0 ((l0.take (k + 1)).filter (fun l => decide ((f l).getD 0 = 0)) = (l0.take k).filter (fun l => decide ((f l).getD 0 = 0))) := ⟨by rw [HT1.out, ← HY.out, List.filter_append]; simp [z0]⟩
          have e1 : ((f y).getD 0 == 1) = false := beq_eq_false_iff_ne.mpr z1
          have e0 : ((f y).getD 0 == 0) = false := beq_eq_false_iff_ne.mpr z0
          generalize hgz : (f y).getD 0 = z at L e1 e0
          clear z1 z0 hm hm0 hxk hk hlt p1 q1 hrd hy HX hyb hin hgz
          go_wp2
          go_roundw
          case measure => exact HMS.out
          case rel =>
            refine ⟨k + 1, _, rfl, HX2, ⟨?_⟩, ⟨by rw [HTF.out]; exact HO.out⟩, ⟨by first | exact HB.out | exact pw_below_drewN HB.out _⟩⟩
            intro z' hz
            rw [HT1.out, ← HY.out, List.mem_append, List.mem_singleton] at hz
            rcases hz with hz | rfl
            · exact HF.out z' hz
            · exact HZ1.out
    · obtain rfl : k = l0.length := by omega
      have q3 : decide (x < (l0.length : Int)) = false := decide_eq_false (by omega)
      have ho := HO.out
      rw [List.take_length] at ho
      have HU : Aside0 (leftIn f l0 = (l0.filter (fun l => decide ((f l).getD 0 = 0)), true)) := by
        have h := HF.out
        rw [List.take_length] at h
        refine ⟨?_⟩
        unfold leftIn
        rw [if_neg (by rw [List.any_eq_true]; rintro ⟨y, hy, h2⟩; exact h y hy (by simpa using h2))]
      have HO2 := Aside0.mk ho
      clear HO hxk hk hlt HX HF ho
      go_wp2
      go_ret2
      rw [HU.out]
      exact ⟨_, rfl, HO2.out, HB.out⟩
end Go.Proofs.YtggnnnddnppcpaaHand
