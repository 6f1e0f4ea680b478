/- What cnf.leftOf answers: the literals of a clause of which a map says 0; or that it says 1 of one. -/
import Derived.Test.YtggnnnddnppcpaaDoorClCnfTidiesCardm
import Derived.Test.YtggnnnddnppcpaaDoorClCnfTidiesCardg
import Derived.Test.YtggnnnddnppcpaaDoorClCnfTidiesCardf
import Derived.Test.YtggnnnddnppcpaaDoorClCnfTidiesCardl
import Derived.Test.YtggnnnddnppcpaaDoorWLast
import Derived.Test.YtggnnnddnppcpaaDoorWApart
import Derived.Test.YtggnnnddnppcpaaDoorWMore
import Derived.Laws.BytesArg
/-! text YtggnnnddnppcpaaDoorCnfLeftOf -/
namespace Go.Proofs.YtggnnnddnppcpaaDoorMath
/-- what is left of a clause, where a map tells of literals 1 (true), -1 (false); false: it is true -/
def leftIn (f : Int → Option Int) (c : List Int) : List Int × Bool := if c.any (fun l => decide ((f l).getD 0 = 1)) = true then ([], false) else (c.filter (fun l => decide ((f l).getD 0 = 0)), true)
end Go.Proofs.YtggnnnddnppcpaaDoorMath
namespace Go.Proofs.YtggnnnddnppcpaaDoorHand
open Go.RowKit Go.Proofs.YtggnnnddnppcpaaDoorW.PrintWords Go.Proofs.YtggnnnddnppcpaaDoorW.PrintLast Go.Proofs.YtggnnnddnppcpaaDoorMath Go.Proofs.YtggnnnddnppcpaaDoorMaps Go.Maps
set_option linter.unusedVariables false
set_option linter.unusedSimpArgs false

set_option maxHeartbeats 4000000 in
set_option maxRecDepth 100000 in
theorem leftOf_calls (A0 : Option Addr) (c0 : Nat) (l0 : List Int) (B n cnt : Nat) (f : Int → Option Int) (w : World) (hr0 : Kd.C (Kd.int .i64) w A0 l0.length l0) (hn : l0.length ≤ 17592186044416) (hb : ∀ y ∈ l0, -9223372036854775808 ≤ y ∧ y ≤ 9223372036854775807) (hm : IMI w B n f cnt) :
    Calls Tryd.prog 40 #[.slice A0 l0.length c0, .map (some B)] w fun e w' => ∃ v : Value, e = .returned (.tuple #[v, .bool (leftIn f l0).2]) ∧ OwnInts w' w.heap.size v (leftIn f l0).1 ∧ Below w.heap.size w w' := by
  have HR0 := Aside0.mk hr0
  have HN := Aside0.mk hn
  have HBD := Aside0.mk hb
  have HM := Aside0.mk hm
  clear hn hr0 hb hm
  go_enter Tryd.func40, Tryd.ntmps40
  go_wp2
  go_loopw [6, 8, 11] (fun v6 _ v11 wr => ∃ (k : Nat) (x : Int), v11 = .int .i64 x ∧ Aside0 (x = k ∧ k ≤ l0.length) ∧ Aside0 (∀ y ∈ l0.take k, (f y).getD 0 ≠ 1) ∧ Aside0 (OwnInts wr w.heap.size v6 ((l0.take k).filter (fun l => decide ((f l).getD 0 = 0)))) ∧ Aside0 (Below w.heap.size w wr)) (fun _ _ i _ => l0.length - (intOf i).toNat)
  case atStart => exact ⟨0, 0, rfl, ⟨rfl, Nat.zero_le _⟩, ⟨by simp⟩, ⟨World.ownsRow_nil _ _ _ _⟩, ⟨Below.refl _ _⟩⟩
  case round =>
    obtain ⟨k, x, rfl, HX, HF, HO, HB⟩ := hrel
    obtain ⟨hxk, hk⟩ := HX.out
    by_cases hlt : k < l0.length
    · have p1 : 0 ≤ x := by omega
      have q1 : x < (l0.length : Int) := by omega
      obtain ⟨ad, e1, hcell⟩ := Kd.at_int (Kd.C_below HR0.out HB.out) x p1 q1
      subst e1
      have p2 := eq_true p1
      have q2 := eq_true q1
      have q3 : decide (x < (l0.length : Int)) = true := decide_eq_true q1
      have HX2 : Aside0 (wrap64 (x + 1) = ((k + 1 : Nat) : Int) ∧ k + 1 ≤ l0.length) := by
        have := HN.out
        exact ⟨by rw [w64 (by omega) (by omega)]; omega, by omega⟩
      have hm : (intOf (.int .i64 (wrap64 (x + 1)))).toNat = k + 1 := by rw [HX2.out.1]; simp [intOf]
      have hm0 : (intOf (.int .i64 x)).toNat = k := by rw [hxk]; simp [intOf]
      have HMS : Aside0 (l0.length - (intOf (.int .i64 (wrap64 (x + 1)))).toNat < l0.length - (intOf (.int .i64 x)).toNat) := ⟨by rw [hm, hm0]; omega⟩
      have hrd : rd l0 x = rd l0 (k : Int) := by rw [hxk]
      rw [hrd] at hcell
      have HT1 : Aside0 (l0.take (k + 1) = l0.take k ++ [rd l0 (k : Int)]) := ⟨take_rd hlt⟩
      have hin : rd l0 (k : Int) ∈ l0 := rd_mem hlt
      have hyb := HBD.out _ hin
      obtain ⟨y, hy⟩ : ∃ y, y = rd l0 (k : Int) := ⟨_, rfl⟩
      rw [← hy] at hcell hyb hin
      have HL : Aside0 (((l0.take k).filter (fun l => decide ((f l).getD 0 = 0))).length + 1 ≤ 17592186044416) := by
        have h1 := List.length_filter_le (fun l => decide ((f l).getD 0 = 0)) (l0.take k)
        rw [List.length_take] at h1
        have := HN.out
        exact ⟨by omega⟩
      have L : (Instr.lookup 62 (.map (some B)) (.int .i64 y) false).run Tryd.prog wr = .ok (.int .i64 ((f y).getD 0)) wr :=
        im_look_run (IM.below HM.out HB.out) y hyb
      have HY := Aside0.mk hy
      have HIN := Aside0.mk hin
      by_cases z1 : (f y).getD 0 = 1
      · have HU : Aside0 (leftIn f l0 = ([], false)) := ⟨by unfold leftIn; rw [if_pos (List.any_eq_true.2 ⟨y, hin, by simpa using z1⟩)]⟩
        rw [z1] at L
        clear z1 hm hm0 hxk hk hlt p1 q1 hrd hy HX hyb hin
        go_wp2
        go_ret2
        rw [HU.out]
        exact ⟨_, rfl, World.ownsRow_nil _ _ _ _, by first | exact HB.out | exact pw_below_drewN HB.out _⟩
      · have HZ1 := Aside0.mk z1
        by_cases z0 : (f y).getD 0 = 0
        · rw [z0] at L
          have HTF : Aside0 ((l0.take (k + 1)).filter (fun l => decide ((f l).getD 0 = 0)) = (l0.take k).filter (fun l => decide ((f l).getD 0 = 0)) ++ [y]) := ⟨by rw [HT1.out, ← HY.out, List.filter_append]; simp [z0]⟩
          clear z1 z0 hm hm0 hxk hk hlt p1 q1 hrd hy HX hyb hin
          obtain ⟨ys, hys⟩ : ∃ ys, ys = (l0.take k).filter (fun l => decide ((f l).getD 0 = 0)) := ⟨_, rfl⟩
          rw [← hys] at HO HTF HL
          clear hys
          go_wp2_with ((with_reducible refine gate_builtin (b := .append) (xs := #[.tmp 22, .tmp 24]) rfl ?_); at_builtin; refine print_append_num (w0 := w) w.heap.size rfl (.tmp 22) (.tmp 24) 40 3 .i64 8 rfl Tryd.underlying40 infoI (by decide) _ ys y rfl rfl ?aO ?aB ?aS ?aL ?_; (case aO => exact HO.out); (case aB => first | exact HB.out | exact pw_below_drewN HB.out _); (case aS => exact HB.out.size); (case aL => have := HL.out; omega); intro v1 w1 ho hb hg hat; have HO1 := Aside0.mk ho; have HB1 := Aside0.mk hb; clear ho hb hg hat)
          go_roundw
          case measure => exact HMS.out
          case rel =>
            refine ⟨k + 1, _, rfl, HX2, ⟨?_⟩, ⟨by rw [HTF.out]; exact HO1.out⟩, ⟨HB1.out⟩⟩
            intro z hz
            rw [HT1.out, ← HY.out, List.mem_append, List.mem_singleton] at hz
            rcases hz with hz | rfl
            · exact HF.out z hz
            · exact HZ1.out
        · have HTF : Aside0 ((l0.take (k + 1)).filter (fun l => decide ((f l).getD 0 = 0)) = (l0.take k).filter (fun l => decide ((f l).getD 0 = 0))) := ⟨by rw [HT1.out, ← HY.out, List.filter_append]; simp [z0]⟩
          have e1 : ((f y).getD 0 == 1) = false := beq_eq_false_iff_ne.mpr z1
          have e0 : ((f y).getD 0 == 0) = false := beq_eq_false_iff_ne.mpr z0
          generalize hgz : (f y).getD 0 = z at L e1 e0
          clear z1 z0 hm hm0 hxk hk hlt p1 q1 hrd hy HX hyb hin hgz
          go_wp2
          go_roundw
          case measure => exact HMS.out
          case rel =>
            refine ⟨k + 1, _, rfl, HX2, ⟨?_⟩, ⟨by rw [HTF.out]; exact HO.out⟩, ⟨by first | exact HB.out | exact pw_below_drewN HB.out _⟩⟩
            intro z' hz
            rw [HT1.out, ← HY.out, List.mem_append, List.mem_singleton] at hz
            rcases hz with hz | rfl
            · exact HF.out z' hz
            · exact HZ1.out
    · obtain rfl : k = l0.length := by omega
      have q3 : decide (x < (l0.length : Int)) = false := decide_eq_false (by omega)
      have ho := HO.out
      rw [List.take_length] at ho
      have HU : Aside0 (leftIn f l0 = (l0.filter (fun l => decide ((f l).getD 0 = 0)), true)) := by
        have h := HF.out
        rw [List.take_length] at h
        refine ⟨?_⟩
        unfold leftIn
        rw [if_neg (by rw [List.any_eq_true]; rintro ⟨y, hy, h2⟩; exact h y hy (by simpa using h2))]
      have HO2 := Aside0.mk ho
      clear HO hxk hk hlt HX HF ho
      go_wp2
      go_ret2
      rw [HU.out]
      exact ⟨_, rfl, HO2.out, HB.out⟩
end Go.Proofs.YtggnnnddnppcpaaDoorHand
/-! text YtggnnnddnppcpaaDoorCnfUnder -/
namespace Go.Proofs.YtggnnnddnppcpaaDoorMath
open Go.Proofs.YtggnnnddnppcpaaDoorMaps
def underP (part c : List Int) : List Int := c.filter (fun l => !part.contains (-l))
def underO (part c : List Int) : Bool := c.any (fun l => part.contains l)
def leftAll (part : List Int) (cs : List (List Int)) : List (List Int) := (cs.filter (fun c => !underO part c)).map (underP part)
def underOf (v : Int) (cs : List (List Int)) (part : List Int) : Int × List (List Int) × Int :=
  if (isFormula v cs && within part v) = true then (if tautIn (tidyOf part) = true then (0, [], 20) else (v, leftAll part cs, 0)) else (0, [], 1)
/-- a map tells of a list's literals 1, of their opposites -1 -/
def Known (l : List Int) (f : Int → Option Int) : Prop := ∀ v, f v = if v ∈ l then some 1 else if -v ∈ l then some (-1) else none
theorem known_step {l : List Int} {y : Int} {f : Int → Option Int} (h : Known l f) (h0 : y ≠ 0) (hn : -y ∉ l) : Known (l ++ [y]) (upd (upd f y 1) (-y) (-1)) := by
  intro v
  by_cases e1 : v = -y
  · subst e1
    rw [upd_same, if_neg (by rw [List.mem_append, List.mem_singleton]; rintro (h | h); exact hn h; omega), if_pos (by simp)]
  · rw [upd_other _ _ e1]
    by_cases e2 : v = y
    · subst e2
      rw [upd_same, if_pos (by simp)]
    · have e3 : -v ≠ y := by omega
      rw [upd_other _ _ e2, h v]
      simp [e2, e3]
theorem leftIn_known {part c : List Int} {f : Int → Option Int} (h : Known part f) : leftIn f c = if underO part c = true then ([], false) else (underP part c, true) := by
  have e1 : ∀ l, ((f l).getD 0 = 1) ↔ l ∈ part := by
    intro l
    rw [h l]
    by_cases a : l ∈ part
    · simp [a]
    · by_cases b : -l ∈ part <;> simp [a, b]
  have e0 : ∀ l, l ∉ part → (((f l).getD 0 = 0) ↔ -l ∉ part) := by
    intro l hl
    rw [h l, if_neg hl]
    by_cases b : -l ∈ part <;> simp [b]
  have e2 : c.any (fun l => decide ((f l).getD 0 = 1)) = underO part c := by
    unfold underO
    congr 1
    funext l
    rw [Bool.eq_iff_iff, decide_eq_true_eq, e1 l, List.contains_iff_mem]
  unfold leftIn
  rw [e2]
  by_cases ho : underO part c = true
  · rw [if_pos ho, if_pos ho]
  · rw [if_neg ho, if_neg ho]
    congr 1
    unfold underP
    refine List.filter_congr fun l hl => ?_
    have hnp : l ∉ part := fun hp => ho (List.any_eq_true.2 ⟨l, hl, List.contains_iff_mem.2 hp⟩)
    rw [Bool.eq_iff_iff, decide_eq_true_eq, e0 l hnp]
    simp
theorem leftAll_take {part : List Int} {cs : List (List Int)} {k : Nat} (hk : k < cs.length) : leftAll part (cs.take (k + 1)) = leftAll part (cs.take k) ++ (if underO part (cs.getD k []) = true then [] else [underP part (cs.getD k [])]) := by
  have e : cs.take (k + 1) = cs.take k ++ [cs.getD k []] := by
    rw [List.take_add_one, List.getElem?_eq_getElem hk, List.getD_eq_getElem?_getD, List.getElem?_eq_getElem hk]; rfl
  unfold leftAll
  rw [e, List.filter_append, List.map_append]
  congr 1
  rw [List.filter_cons]
  cases underO part (cs.getD k []) <;> rfl
theorem leftAll_length (part : List Int) (cs : List (List Int)) : (leftAll part cs).length ≤ cs.length := by
  unfold leftAll
  rw [List.length_map]
  exact List.length_filter_le _ _
theorem untaut {part : List Int} (hs : sound part = true) (h : tautIn (tidyOf part) = false) : ∀ x ∈ part, -x ∉ part := by
  intro x hx hx2
  have h1 : tautIn (tidyOf part) = true := (tautIn_iff (tidyOf part) (rising_tidyOf part) (fun _ h => tidyOf_formed h)).2 ⟨x, (mem_tidyOf x part).2 ⟨hx, sound_mem hs hx⟩, (mem_tidyOf (-x) part).2 ⟨hx2, sound_mem hs hx2⟩⟩
  rw [h] at h1
  cases h1
end Go.Proofs.YtggnnnddnppcpaaDoorMath
namespace Go.Proofs.YtggnnnddnppcpaaDoorHand
open Go.RowKit Go.Proofs.YtggnnnddnppcpaaDoorW.PrintWords Go.Proofs.YtggnnnddnppcpaaDoorW.PrintLast Go.Proofs.YtggnnnddnppcpaaDoorMath Go.Proofs.YtggnnnddnppcpaaDoorMaps Go.Maps
set_option linter.unusedVariables false
set_option linter.unusedSimpArgs false

/-- two variables of a formula in new blocks -/
structure UF (w : World) (a0 a1 z0 z1 : Value) (W : World) : Prop where
  hB : Below w.heap.size w W
  hz : w.heap.size + 2 ≤ W.heap.size
  b0 : W.heap[w.heap.size]? = some (.cells #[a0, a1] 24 (0, 0))
  b1 : W.heap[w.heap.size + 1]? = some (.cells #[z0, z1] 24 (0, 0))
theorem uf (w : World) (a0 a1 z0 z1 : Value) : UF w a0 a1 z0 z1 ((w.alloc (.cells #[a0, a1] 24 (0, 0))).alloc (.cells #[z0, z1] 24 (0, 0))) := by
  refine ⟨by repeat (first | exact Below.refl _ _ | apply below_alloc), by simp, blk_alloc (blk_new _ _) _, ?_⟩
  have := blk_new (w.alloc (.cells #[a0, a1] 24 (0, 0))) (.cells #[z0, z1] 24 (0, 0))
  simpa using this
theorem UF.keep {w : World} {a0 a1 z0 z1 : Value} {W W1 : World} (h : UF w a0 a1 z0 z1 W) (k : Below W.heap.size W W1) : UF w a0 a1 z0 z1 W1 :=
  ⟨below_step h.hB k, Nat.le_trans h.hz k.size, blk_below h.b0 k, blk_below h.b1 k⟩
theorem UF.grown {w : World} {a0 a1 z0 z1 : Value} {W W1 : World} {row : Option Nat} (h : UF w a0 a1 z0 z1 W) (hg : W.grownBy W1 row) (hne : ∀ k, row = some k → w.heap.size + 2 ≤ k) : UF w a0 a1 z0 z1 W1 :=
  ⟨h.hB.grown hg h.hB.size (fun k hk => by have := hne k hk; omega), Nat.le_trans h.hz hg.size, blk_grown h.b0 hg (fun e => by have := hne _ e.symm; omega), blk_grown h.b1 hg (fun e => by have := hne _ e.symm; omega)⟩
theorem UF.grown2 {w : World} {a0 a1 z0 z1 : Value} {W W1 : World} {row : Option Nat} (h : UF w a0 a1 z0 z1 W) (hB' : Below w.heap.size w W1) (hg : W.grownBy W1 row) (h0 : some w.heap.size ≠ row) (h1 : some (w.heap.size + 1) ≠ row) : UF w a0 a1 z0 z1 W1 :=
  ⟨hB', Nat.le_trans h.hz hg.size, blk_grown h.b0 hg h0, blk_grown h.b1 hg h1⟩
theorem im_ne {W : World} {B n c g t : Nat} {f : Int → Option Int} {cells : Array Value} {z : Nat × Nat} (h : IMI W B n f c) (hb : W.heap[g]? = some (.cells cells t z)) : B ≠ g := by
  rintro rfl
  obtain ⟨D, ⟨es, clock, h1, _⟩, _⟩ := h
  rw [hb] at h1
  cases h1
theorem UF.setCell {w : World} {a0 a1 z0 z1 : Value} {W : World} (h : UF w a0 a1 z0 z1 W) {p : Addr} (hp : w.heap.size + 2 ≤ p.block) (u : Value) : UF w a0 a1 z0 z1 (W.setCell p u) :=
  ⟨h.hB.setCell (p := p) (by omega) u, Nat.le_trans h.hz ((Below.refl 0 W).setCell (p := p) (Nat.zero_le _) u).size, blk_far h.b0 (by omega) u, blk_far h.b1 (by omega) u⟩
theorem UF.f0 {w : World} {a0 a1 z0 z1 : Value} {W : World} (h : UF w a0 a1 z0 z1 W) : W.cell? ⟨w.heap.size, 0, none⟩ = some a0 := (blk_cell h.b0 0).trans rfl
theorem UF.f1 {w : World} {a0 a1 z0 z1 : Value} {W : World} (h : UF w a0 a1 z0 z1 W) : W.cell? ⟨w.heap.size, 1, none⟩ = some a1 := (blk_cell h.b0 1).trans rfl
theorem UF.g0 {w : World} {a0 a1 z0 z1 : Value} {W : World} (h : UF w a0 a1 z0 z1 W) : W.cell? ⟨w.heap.size + 1, 0, none⟩ = some z0 := (blk_cell h.b1 0).trans rfl
theorem UF.g1 {w : World} {a0 a1 z0 z1 : Value} {W : World} (h : UF w a0 a1 z0 z1 W) : W.cell? ⟨w.heap.size + 1, 1, none⟩ = some z1 := (blk_cell h.b1 1).trans rfl
theorem UF.y0 {w : World} {a0 a1 z0 z1 : Value} {W : World} (h : UF w a0 a1 z0 z1 W) : W.frozen? ⟨w.heap.size + 1, 0, none⟩ = false := blk_frozen h.b1 0
theorem UF.y1 {w : World} {a0 a1 z0 z1 : Value} {W : World} (h : UF w a0 a1 z0 z1 W) : W.frozen? ⟨w.heap.size + 1, 1, none⟩ = false := blk_frozen h.b1 1

set_option maxHeartbeats 8000000 in
set_option maxRecDepth 100000 in
theorem under_bad (v1 : Int) (A1 A2 : Option Addr) (c1 c2 : Nat) (l1 : List (List Int)) (l2 : List Int) (w : World) (hr1 : Kd.C (Kd.slice 3 (Kd.int .i64)) w A1 l1.length l1) (hc1 : l1.length ≤ c1) (hr2 : Kd.C (Kd.int .i64) w A2 l2.length l2) (hc2 : l2.length ≤ c2)
    (hn : l1.length ≤ 5864062014805) (hs : ∀ c ∈ l1, c.length ≤ 17592186044416) (hn2 : l2.length ≤ 17592186044416) (hbad : (isFormula v1 l1 && within l2 v1) = false) :
    Calls Tryd.prog 21 #[.agg #[.int .i64 v1, .slice A1 l1.length c1], .slice A2 l2.length c2] w fun e w' => e = .returned (.tuple #[.agg #[.int .i64 0, .slice none 0 0], .int .i64 1]) ∧ Below w.heap.size w w' := by
  have HR1 := Aside0.mk hr1
  have HR2 := Aside0.mk hr2
  have F1 := fun W h => isFormula_calls v1 A1 c1 l1 W h hc1 (by omega) hs
  have F2 := fun W h => within_calls A2 c2 l2 v1 W h hc2 hn2
  cases hf1 : isFormula v1 l1 with
  | false =>
    rw [hf1] at F1
    have HF1 := Aside0.mk F1
    clear F1 F2 hr1 hr2 hc1 hc2 hn hs hn2 hf1 hbad
    go_enter Tryd.func21, Tryd.ntmps21
    go_wp2_with fail
    have T0 := uf w (.int .i64 v1) (.slice A1 l1.length c1) (.int .i64 0) (.slice none 0 0)
    generalize hW0 : ((w.alloc (.cells #[.int .i64 v1, .slice A1 l1.length c1] 24 (0, 0))).alloc (.cells #[.int .i64 0, .slice none 0 0] 24 (0, 0))) = W0 at T0 ⊢
    clear hW0
    (with_reducible refine (HF1.out _ (Kd.C_below HR1.out T0.hB)).mono ?_)
    rintro e W1 ⟨rfl, hb⟩
    have T1 := T0.keep hb
    have HT := Aside0.mk T1
    have k0 := T1.g0
    have k1 := T1.g1
    have y0 := T1.y0
    have y1 := T1.y1
    clear T0 hb T1
    go_wp2_with fail
    refine bodyPost_ret (v := .tuple #[.agg #[.int .i64 0, .slice none 0 0], .int .i64 1]) (by simp [results, Tryd.results21, go_sem, k0, k1]) rfl ?_
    exact ⟨rfl, (HT.out.hB.setCell (p := ⟨w.heap.size + 1, 0, none⟩) (show w.heap.size ≤ w.heap.size + 1 by omega) _).setCell (p := ⟨w.heap.size + 1, 1, none⟩) (show w.heap.size ≤ w.heap.size + 1 by omega) _⟩
  | true =>
    rw [hf1, Bool.true_and] at hbad
    rw [hf1] at F1
    rw [hbad] at F2
    have HF1 := Aside0.mk F1
    have HF2 := Aside0.mk F2
    clear F1 F2 hr1 hr2 hc1 hc2 hn hs hn2 hf1 hbad
    go_enter Tryd.func21, Tryd.ntmps21
    go_wp2_with fail
    have T0 := uf w (.int .i64 v1) (.slice A1 l1.length c1) (.int .i64 0) (.slice none 0 0)
    generalize hW0 : ((w.alloc (.cells #[.int .i64 v1, .slice A1 l1.length c1] 24 (0, 0))).alloc (.cells #[.int .i64 0, .slice none 0 0] 24 (0, 0))) = W0 at T0 ⊢
    clear hW0
    (with_reducible refine (HF1.out _ (Kd.C_below HR1.out T0.hB)).mono ?_)
    rintro e W1 ⟨rfl, hb⟩
    have T1 := T0.keep hb
    have f0 := T1.f0
    clear T0 hb
    go_wp2_with fail
    (with_reducible refine (HF2.out _ (Kd.C_below HR2.out T1.hB)).mono ?_)
    rintro e W2 ⟨rfl, hd⟩
    have T2 := T1.keep hd.below
    have HT := Aside0.mk T2
    have k0 := T2.g0
    have k1 := T2.g1
    have y0 := T2.y0
    have y1 := T2.y1
    clear T1 hd T2 f0
    go_wp2_with fail
    refine bodyPost_ret (v := .tuple #[.agg #[.int .i64 0, .slice none 0 0], .int .i64 1]) (by simp [results, Tryd.results21, go_sem, k0, k1]) rfl ?_
    exact ⟨rfl, (HT.out.hB.setCell (p := ⟨w.heap.size + 1, 0, none⟩) (show w.heap.size ≤ w.heap.size + 1 by omega) _).setCell (p := ⟨w.heap.size + 1, 1, none⟩) (show w.heap.size ≤ w.heap.size + 1 by omega) _⟩
end Go.Proofs.YtggnnnddnppcpaaDoorHand
/-! text YtggnnnddnppcpaaDoorCnfName -/
namespace Go.Proofs.YtggnnnddnppcpaaDoorHand
open Go.RowKit Go.Proofs.YtggnnnddnppcpaaDoorW.PrintWords Go.Proofs.YtggnnnddnppcpaaDoorW.PrintLast Go.Proofs.YtggnnnddnppcpaaDoorMath
set_option linter.unusedVariables false
set_option linter.unusedSimpArgs false
/-- the table of the powers of ten reads as it was laid -/
abbrev Tab (w : World) : Prop := Lib.TabIs Tryd.prog w "internal/strconv.uint64pow10" .u64 Lib.pow10Tab
theorem Tab.on {w W : World} (h : Tab w) (hb : Below w.heap.size w W) : Tab W := Lib.tabBelow_of_tabIs h W hb
def bytesOf (l : List UInt8) : List Int := l.map fun b => (b.toNat : Int)
theorem bytesOf_cells (l : List UInt8) : Lib.byteCells l = nums .u8 (bytesOf l) := by simp [Lib.byteCells, nums, bytesOf]
theorem bytesOf_length (l : List UInt8) : (bytesOf l).length = l.length := by simp [bytesOf]
theorem bytesOf_append (l m : List UInt8) : bytesOf (l ++ m) = bytesOf l ++ bytesOf m := by simp [bytesOf]
theorem bytesOf_back (l : List UInt8) : strOfNums (bytesOf l) = ⟨l.toArray⟩ := by
  unfold strOfNums bytesOf
  rw [List.map_map]
  congr 2
  conv => rhs; rw [← List.map_id l]
  refine List.map_congr_left fun b _ => ?_
  simp
theorem own_slice3 {w : World} {base e sz : Nat} {v : Value} {n : Nat} {xs : List Value} (h : w.ownsRow base e sz v n xs) : ∃ A n c, v = .slice A n c := by
  rcases h.2 with ⟨rfl, _⟩ | ⟨g, cap, cur, rfl, _⟩
  · exact ⟨_, _, _, rfl⟩
  · exact ⟨_, _, _, rfl⟩
theorem infoB : (Tryd.prog.info? 5).map (fun i => (i.zero, i.size, i.bytes)) = some (some (.int .u8 0), 1, 1) := by kernel_rfl
/-- a string out of bytes of one's own -/
theorem conv_own {w : World} {base : Nat} {v : Value} {l : List UInt8} (h : w.ownsRow base 5 1 v l.length (Lib.byteCells l)) : (convert 67 9 v).run Tryd.prog w = .ok (.string ⟨l.toArray⟩) w := by
  obtain ⟨hl, h⟩ := h
  rcases h with ⟨rfl, h0⟩ | ⟨g, cap, cur, rfl, hg, hh, hc, hm, hsz, htk⟩
  · have : l = [] := List.length_eq_zero_iff.1 h0
    subst this
    exact run_convert_bytes_nil w 67 5 Tryd.underlying67 Tryd.underlying5 0 0 9 Tryd.underlying9
  · have := run_convert_bytes_arg (P := Tryd.prog) w 67 5 Tryd.underlying67 Tryd.underlying5 g 0 l.length cap (bytesOf l) (bytesOf_length l) (fun i hi => ?_) 9 Tryd.underlying9
    · rw [this, bytesOf_back]
    · have h1 : (Lib.byteCells l)[i]? = some (.int .u8 ((bytesOf l).getD i 0)) := by
        rw [bytesOf_cells, nums, List.getElem?_map, List.getD_eq_getElem?_getD, List.getElem?_eq_getElem (by rw [bytesOf_length]; exact hi)]
        rfl
      rw [← htk, Nat.mul_one, List.getElem?_take, if_pos hi] at h1
      rw [Nat.zero_add, blk_cell hh i]
      simpa using h1
set_option maxHeartbeats 4000000 in
set_option maxRecDepth 100000 in
theorem name_calls (A0 : Option Addr) (c0 : Nat) (l0 : List Int) (w : World) (hr0 : Kd.C (Kd.int .i64) w A0 l0.length l0) (hn : l0.length ≤ 4194304) (hb : ∀ y ∈ l0, -1048576 ≤ y ∧ y ≤ 1048576) (ht : Tab w) :
    Calls Tryd.prog 23 #[.slice A0 l0.length c0] w fun e w' => e = .returned (.string ⟨(nameOf l0).toArray⟩) ∧ Below w.heap.size w w' := by
  have HR0 := Aside0.mk hr0
  have HN := Aside0.mk hn
  have HBD := Aside0.mk hb
  have HT := Aside0.mk (Lib.tabBelow_of_tabIs ht)
  clear hn hr0 hb ht
  go_enter Tryd.func23, Tryd.ntmps23
  go_wp2
  go_loopw [3, 5, 8] (fun v3 _ v8 wr => ∃ (k : Nat) (x : Int) (A : Option Addr) (n c : Nat), v8 = .int .i64 x ∧ v3 = .slice A n c ∧ Aside0 (x = k ∧ k ≤ l0.length) ∧ Aside0 (wr.ownsRow w.heap.size 5 1 (.slice A n c) (nameOf (l0.take k)).length (Lib.byteCells (nameOf (l0.take k)))) ∧ Aside0 (Below w.heap.size w wr)) (fun _ _ i _ => l0.length - (intOf i).toNat)
  case atStart => exact ⟨0, 0, none, 0, 0, rfl, rfl, ⟨rfl, Nat.zero_le _⟩, ⟨by simpa [nameOf, Lib.byteCells] using World.ownsRow_nil _ _ _ _⟩, ⟨Below.refl _ _⟩⟩
  case round =>
    obtain ⟨k, x, A, n, c, rfl, rfl, HX, HO, HB⟩ := hrel
    obtain ⟨hxk, hk⟩ := HX.out
    by_cases hlt : k < l0.length
    · have p1 : 0 ≤ x := by omega
      have q1 : x < (l0.length : Int) := by omega
      obtain ⟨ad, e1, hcell⟩ := Kd.at_int (Kd.C_below HR0.out HB.out) x p1 q1
      subst e1
      have p2 := eq_true p1
      have q2 := eq_true q1
      have q3 : decide (x < (l0.length : Int)) = true := decide_eq_true q1
      have HX2 : Aside0 (wrap64 (x + 1) = ((k + 1 : Nat) : Int) ∧ k + 1 ≤ l0.length) := by
        have := HN.out
        exact ⟨by rw [w64 (by omega) (by omega)]; omega, by omega⟩
      have hm : (intOf (.int .i64 (wrap64 (x + 1)))).toNat = k + 1 := by rw [HX2.out.1]; simp [intOf]
      have hm0 : (intOf (.int .i64 x)).toNat = k := by rw [hxk]; simp [intOf]
      have HMS : Aside0 (l0.length - (intOf (.int .i64 (wrap64 (x + 1)))).toNat < l0.length - (intOf (.int .i64 x)).toNat) := ⟨by rw [hm, hm0]; omega⟩
      have hrd : rd l0 x = rd l0 (k : Int) := by rw [hxk]
      rw [hrd] at hcell
      have hyb := HBD.out _ (rd_mem hlt)
      have HTK : Aside0 (nameOf (l0.take (k + 1)) = nameOf (l0.take k) ++ Lib.itoa (rd l0 (k : Int)) ++ [32]) := ⟨by rw [take_rd hlt, nameOf_snoc]⟩
      have HNL : Aside0 ((nameOf (l0.take k)).length ≤ 92274688 ∧ (Lib.itoa (rd l0 (k : Int))).length ≤ 21) := by
        refine ⟨?_, Lib.itoa_length_le _ (by omega) (by omega)⟩
        have h1 := nameOf_length (c := l0.take k) fun y hy => by have := HBD.out y (List.mem_of_mem_take hy); omega
        rw [List.length_take] at h1
        have := HN.out
        omega
      obtain ⟨y, hy⟩ : ∃ y, y = rd l0 (k : Int) := ⟨_, rfl⟩
      rw [← hy] at hcell hyb HTK HNL
      have HYB := Aside0.mk hyb
      clear hm hm0 hxk hk hlt p1 q1 hrd hy HX hyb
      generalize nameOf (l0.take k) = nm at *
      go_wp2_with (first
        | (go_at_call 45; (with_reducible refine (Tryd.strconv_AppendInt_10 w.heap.size nm.length y (by have := HYB.out; omega) (by have := HYB.out; omega) (.slice A n c) (Lib.byteCells nm) wr HO.out HB.out.size (by have := HNL.out; omega) (HT.out.on HB.out)).mono ?_); rintro e w5 ⟨v5, rfl, ho5, hb5, hk5⟩; have HB5 := Aside0.mk (HB.out.trans hb5); have HO5 := Aside0.mk (show w5.ownsRow w.heap.size 5 1 v5 (bytesOf (nm ++ Lib.itoa y)).length (nums .u8 (bytesOf (nm ++ Lib.itoa y))) by rw [bytesOf_length, ← bytesOf_cells, List.length_append, Lib.byteCells_append]; exact ho5); clear ho5 hb5 hk5)
        | ((with_reducible refine gate_builtin (b := .append) (xs := #[.tmp 15, .tmp 16]) rfl ?_); at_builtin; go_loud (refine print_append_num (w0 := w) w.heap.size rfl (.tmp 15) (.tmp 16) 67 5 .u8 1 rfl Tryd.underlying67 infoB (by decide) _ (bytesOf (nm ++ Lib.itoa y)) 32 rfl rfl ?aO ?aB ?aS ?aL ?_; (case aO => exact HO5.out); (case aB => exact HB5.out); (case aS => exact HB5.out.size); (case aL => have := HNL.out; rw [bytesOf_length, List.length_append]; omega); intro v1 w1 ho hb hg hat; have HO1 := Aside0.mk ho; have HB1 := Aside0.mk hb; clear ho hb hg hat)))
      go_roundw
      case measure => exact HMS.out
      case rel =>
        obtain ⟨A1, n1, c1, e1⟩ := own_slice3 HO1.out
        refine ⟨k + 1, _, A1, n1, c1, rfl, e1, HX2, ⟨?_⟩, ⟨HB1.out⟩⟩
        subst e1
        have ho := HO1.out
        rw [HTK.out, bytesOf_cells, bytesOf_append (nm ++ Lib.itoa y) [32]]
        have e2 : (nm ++ Lib.itoa y ++ [32]).length = (bytesOf (nm ++ Lib.itoa y) ++ [32]).length := by simp [bytesOf]
        rw [e2]
        exact ho
    · obtain rfl : k = l0.length := by omega
      have q3 : decide (x < (l0.length : Int)) = false := decide_eq_false (by omega)
      have ho := HO.out
      rw [List.take_length] at ho
      have CV := conv_own ho
      clear HO hxk hk hlt HX ho
      go_wp2
      go_ret
      exact ⟨rfl, HB.out⟩
end Go.Proofs.YtggnnnddnppcpaaDoorHand
