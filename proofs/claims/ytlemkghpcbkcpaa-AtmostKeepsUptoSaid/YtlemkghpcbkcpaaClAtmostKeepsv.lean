/- depotkit.ApartClauses, of lists of clauses that lie apart, and whose clauses do. -/
import Derived.Test.YtlemkghpcbkcpaaClAtmostKeepsu
/-! text YtlemkghpcbkcpaaApartClauses -/
namespace Go.Proofs.YtlemkghpcbkcpaaHand
open Go.RowKit Go.Proofs.YtlemkghpcbkcpaaW.PrintWords Go.Proofs.YtlemkghpcbkcpaaW.PrintLast Go.Proofs.YtlemkghpcbkcpaaMath Go.Proofs.YtlemkghpcbkcpaaOwn
set_option linter.unusedVariables false
set_option linter.unusedSimpArgs false
theorem flatten_take {α : Type} {xs : List (List α)} {k : Nat} {x : List α} (hx : xs[k]? = some x) : (xs.take (k + 1)).flatten = (xs.take k).flatten ++ x := by
  rw [List.take_add_one, hx, List.flatten_append]
  simp
theorem flatten_take_le {α : Type} (xs : List (List α)) (k : Nat) : (xs.take k).flatten.length ≤ xs.flatten.length := by
  have h : xs.flatten = (xs.take k).flatten ++ (xs.drop k).flatten := by rw [← List.flatten_append, List.take_append_drop]
  rw [h, List.length_append]
  omega

set_option maxHeartbeats 4000000 in
set_option maxRecDepth 100000 in
theorem apartClauses_calls (A : Option Addr) (c : Nat) (xs : List (List (List Int))) (ok : Nat → Prop) (w : World) (h : Kd.S (apartK 33 (Kd.slice 3 (Kd.int .i64))) 34 w 0 ok (.slice A xs.length c) xs)
    (hn : xs.length ≤ 1099511627776) (hs : ∀ x ∈ xs, x.length ≤ 1099511627776) (hl : ∀ x ∈ xs.flatten, x.length ≤ 1099511627776) (hsum : xs.flatten.length ≤ 1099511627776) :
    Calls Try.prog 28 #[.slice A xs.length c] w fun e w' => e = .returned (.bool true) ∧ Grow (fun b => ok b ∧ b < w.heap.size) w w' := by
  obtain ⟨vs, okj, hvl, ho, hown, hS, hok, hdis⟩ := S_deep h
  have HO := Aside0.mk ho
  have HOW := Aside0.mk hown
  have HS := Aside0.mk hS
  have HOK := Aside0.mk hok
  have HD := Aside0.mk hdis
  have HVL := Aside0.mk hvl
  have HN := Aside0.mk hn
  have HNS := Aside0.mk hs
  have HNL := Aside0.mk hl
  have HSUM := Aside0.mk hsum
  clear h hvl ho hown hS hok hdis hn hs hl hsum
  obtain ⟨inn, hinn⟩ : ∃ inn : Nat → Nat → Prop, ∀ j b, inn j b ↔ (okj j b ∧ ∀ u, vs[j]? = some u → some b ≠ u.ownBlock) := ⟨_, fun _ _ => Iff.rfl⟩
  have HIN := Aside0.mk hinn
  clear hinn
  have H0 : Aside0 (Kd.S (Kd.slice 3 (Kd.int .i64)) 33 w 0 (fun b => (∃ j, j < 0 ∧ inn j b) ∨ w.heap.size ≤ b) (.slice none 0 0) (xs.take 0).flatten ∧ (∀ b, (Value.slice none 0 0).ownBlock = some b → w.heap.size ≤ b) ∧ Below w.heap.size w w) := ⟨by rw [List.take_zero, List.flatten_nil]; exact Kd.S_nil _ _ _ _ _, fun b hb => by simp [Value.ownBlock] at hb, Below.refl _ _⟩
  go_enter Try.func28, Try.ntmps28
  go_wp2
  go_loopw [3, 4] (fun v3 v4 wr => ∃ (k : Nat) (x : Int), v4 = .int .i64 x ∧ Aside0 (x = k ∧ k ≤ xs.length) ∧ Aside0 (Kd.S (Kd.slice 3 (Kd.int .i64)) 33 wr 0 (fun b => (∃ j, j < k ∧ inn j b) ∨ w.heap.size ≤ b) v3 (xs.take k).flatten ∧ (∀ b, v3.ownBlock = some b → w.heap.size ≤ b) ∧ Below w.heap.size w wr)) (fun _ i _ => xs.length - (intOf i).toNat)
  case atStart => exact ⟨0, 0, rfl, ⟨rfl, Nat.zero_le _⟩, H0⟩
  case round =>
    clear H0
    obtain ⟨k, x, rfl, HX, HR⟩ := hrel
    obtain ⟨hxk, hk⟩ := HX.out
    by_cases hlt : k < xs.length
    · have q3 : decide (x < (xs.length : Int)) = true := decide_eq_true (by omega)
      have p2 : ((0 : Int) ≤ x) = True := eq_true (by omega)
      have q2 : (x < (xs.length : Int)) = True := eq_true (by omega)
      have HX2 : Aside0 (wrap64 (x + 1) = ((k + 1 : Nat) : Int) ∧ k + 1 ≤ xs.length) := by
        have := HN.out
        exact ⟨by rw [w64 (by omega) (by omega)]; omega, by omega⟩
      have hm : (intOf (.int .i64 (wrap64 (x + 1)))).toNat = k + 1 := by rw [HX2.out.1]; simp [intOf]
      have hm0 : (intOf (.int .i64 x)).toNat = k := by rw [hxk]; simp [intOf]
      have HMS : Aside0 (xs.length - (intOf (.int .i64 (wrap64 (x + 1)))).toNat < xs.length - (intOf (.int .i64 x)).toNat) := ⟨by rw [hm, hm0]; omega⟩
      have hxi := List.getElem?_eq_getElem hlt
      obtain ⟨y, hy⟩ : ∃ y, y = xs[k] := ⟨_, rfl⟩
      rw [← hy] at hxi
      have hvlt : k < vs.length := by rw [HVL.out]; exact hlt
      have hui := List.getElem?_eq_getElem hvlt
      obtain ⟨u, hu⟩ : ∃ u, u = vs[k] := ⟨_, rfl⟩
      rw [← hu] at hui
      have hSu := HS.out k u y hui hxi
      obtain ⟨Au, cu, rfl⟩ := Kd.S_slice hSu
      obtain ⟨b0, c0, e1, _, hcell, _⟩ := At.cell (f := fun _ => 0) (t := 0) (⟨HO.out, fun _ _ => rfl⟩ : At _ 0 34 w (.slice A xs.length c) xs.length vs) hui
      injection e1 with e1 _ _
      subst e1
      have hcell2 : u3 = u3 := rfl
      have hcw := pw_cell_below HR.out.2.2 (hcell)
      obtain ⟨ad, had⟩ : ∃ ad, ad = (⟨b0, 0, none⟩ : Addr) := ⟨_, rfl⟩
      have hxk' : (⟨b0, k, none⟩ : Addr) = ad.add x.toNat := by rw [had, hxk, add_at, Nat.zero_add]; rfl
      rw [hxk'] at hcw
      rw [← had]
      have HAD := Aside0.mk had
      obtain ⟨A3, c3, e3⟩ := Kd.S_slice HR.out.1
      have HAP : Aside0 (∃ v1 w1, (Builtin.append_ #[34, 34] 34 #[u3, .slice Au y.length cu]).run Try.prog wr = .ok v1 w1 ∧ Kd.S (Kd.slice 3 (Kd.int .i64)) 33 w1 0 (fun b => (∃ j, j < k + 1 ∧ inn j b) ∨ w.heap.size ≤ b) v1 (xs.take (k + 1)).flatten ∧ (∀ b, v1.ownBlock = some b → w.heap.size ≤ b) ∧ Below w.heap.size w w1) := ⟨by
        have hle := flatten_take_le xs (k + 1)
        rw [flatten_take hxi, List.length_append] at hle
        have hsum := HSUM.out
        have hSu2 : Kd.S (Kd.slice 3 (Kd.int .i64)) 33 wr 0 (okj k) (.slice Au y.length cu) y := Kd.S_step hSu fun b _ hb => HR.out.2.2.block b hb
        obtain ⟨v1, w1, hrun, hS1, hg, hat⟩ := S_all (P := Try.prog) (t := 34) (ty := 34) (.slice none 0 0) 24 Try.underlying34 infoAR rfl (by decide) HR.out.1 hSu2 (fun b hb hb2 => by
          have hb3 := (HOK.out k b hb2).2.2
          rcases hb with ⟨j, hj, hb⟩ | hb
          · have := HD.out j k b ((HIN.out j b).1 hb).1 hb2
            omega
          · omega) (Nat.le_refl _) (Nat.zero_le _) (by simp only [maxLen]; omega) (by omega)
        refine ⟨v1, w1, hrun, ?_, fun b hb => ?_, HR.out.2.2.trans ((Grow.of_grownBy (M := fun b => u3.ownBlock = some b) hg fun r e => e).below HR.out.2.2.size fun b hb => HR.out.2.1 b hb)⟩
        · rw [flatten_take hxi]
          refine Kd.S_mono hS1 fun b hb => ?_
          rcases hb with (⟨j, hj, hb⟩ | hb) | ⟨hb, hne⟩ | hb
          · exact .inl ⟨j, by omega, hb⟩
          · exact .inr hb
          · refine .inl ⟨k, by omega, (HIN.out k b).2 ⟨hb, fun u' hu' => ?_⟩⟩
            rw [hui] at hu'
            injection hu' with hu'
            rw [← hu']
            exact hne
          · have := HR.out.2.2.size
            exact .inr (by omega)
        · rcases hat with hat | hat
          · exact HR.out.2.1 b (hat ▸ hb)
          · rw [hat] at hb
            injection hb with hb
            have := HR.out.2.2.size
            omega⟩
      subst e3
      clear hm hm0 hxk hk hlt hxi hy hvlt hui hu hSu hcell had hxk' HX
      go_wp2_with ((with_reducible refine gate_builtin (b := .append) (xs := #[.tmp 12, .tmp 16]) rfl ?_); at_builtin; obtain ⟨v', W1, hrun, hQ1⟩ := HAP.out; refine wpList_append_run rfl (.tmp 12) (.tmp 16) 34 rfl rfl rfl hrun ?_; have HQ1 := Aside0.mk hQ1; clear hrun hQ1)
      go_roundw
      case measure => exact HMS.out
      case rel =>
        first
          | exact ⟨k + 1, HX2, HQ1⟩
          | exact ⟨k + 1, _, rfl, HX2, HQ1⟩
    · obtain rfl : k = xs.length := by omega
      have q3 : decide (x < (xs.length : Int)) = false := decide_eq_false (by omega)
      have hR := HR.out
      rw [List.take_length] at hR
      replace HR := Aside0.mk hR
      clear hR
      obtain ⟨A3, c3, e3⟩ := Kd.S_slice HR.out.1
      obtain ⟨nf, hnf⟩ : ∃ q, q = xs.flatten.length := ⟨_, rfl⟩
      rw [← hnf] at e3
      subst e3
      clear hnf
      have HI : Aside0 (Calls Try.prog 44 #[.slice A3 nf c3] wr fun e w' => e = .returned (.bool true) ∧ Grow (fun b => ((∃ j, j < xs.length ∧ inn j b) ∨ w.heap.size ≤ b) ∧ b < wr.heap.size) wr w') := ⟨apartInts_S HR.out.1 HSUM.out HNL.out⟩
      clear hxk hk hlt HX
      go_wp2_with (go_at_call 44; (with_reducible refine HI.out.mono ?_); rintro e w2 ⟨rfl, hg2⟩; have HG2 := Aside0.mk hg2; clear hg2)
      have HR2 : Aside0 (Calls Try.prog 45 #[.slice A xs.length c] w2 fun e w' => e = .returned (.bool true) ∧ Grow (fun b => ∃ i, okj i b) w2 w') := ⟨apartRows_deep HVL.out HO.out HS.out (fun i k hk => (HOK.out i k hk).2) HD.out (fun b hb hcase => by
        refine (HG2.out.block b (Nat.lt_of_lt_of_le hb HR.out.2.2.size) fun hn => ?_).trans (HR.out.2.2.block b hb)
        rcases hn.1 with ⟨j, hj, hin⟩ | hge
        · obtain ⟨h1, h2⟩ := (HIN.out j b).1 hin
          rcases hcase with hc | ⟨i, u, hu, hub, hoi⟩
          · exact (HOK.out j b h1).2.1 hc.symm
          · have := HD.out j i b h1 hoi
            subst this
            exact h2 u hu hub.symm
        · omega) HN.out HNS.out⟩
      go_wp2_with (go_at_call 45; (with_reducible refine HR2.out.mono ?_); rintro e w3 ⟨rfl, hg3⟩; have HG3 := Aside0.mk hg3; clear hg3)
      go_ret
      refine ⟨rfl, ?_⟩
      have g1 : Grow (fun b => ok b ∧ b < w.heap.size) w wr := Grow.mono (Grow.of_below (M := fun _ => False) (HR.out.2.2)) fun _ h => h.elim
      have g2 := g1.trans HG2.out fun b hb => by
        rcases hb.1 with ⟨j, _, hin⟩ | hge
        · have := HOK.out j b ((HIN.out j b).1 hin).1
          exact .inl ⟨this.1, this.2.2⟩
        · exact .inr hge
      exact g2.trans HG3.out fun b ⟨i, hb⟩ => by
        have := HOK.out i b hb
        exact .inl ⟨this.1, this.2.2⟩
end Go.Proofs.YtlemkghpcbkcpaaHand
