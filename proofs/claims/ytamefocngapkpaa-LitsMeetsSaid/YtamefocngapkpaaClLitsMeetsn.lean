/- What lits.Resolvents answers: its iterator over two tidy lists; or over nothing. -/
import Derived.Test.YtamefocngapkpaaClLitsMeetsm
import Derived.Test.YtamefocngapkpaaClLitsMeetsk
import Derived.Sort.CutIn
import Derived.Outline
/-! text YtamefocngapkpaaResolventsCall -/
namespace Go.Proofs.YtamefocngapkpaaHand
open Go.RowKit Go.Sort Go.Lib Go.Shelf Go.Proofs.YtamefocngapkpaaW.PrintWords Go.Proofs.YtamefocngapkpaaW.PrintLast Go.Proofs.YtamefocngapkpaaMath Go.Proofs.YtamefocngapkpaaOwn
attribute [local go_sem] Oper.semAt_some
set_option linter.unusedVariables false
set_option linter.unusedSimpArgs false

set_option maxRecDepth 100000 in
set_option maxHeartbeats 8000000 in
theorem resolvents_bad (A0 A1 : Option Addr) (c0 c1 : Nat) (l0 l1 : List Int) (w : World) (hr0 : Kd.C (Kd.int .i64) w A0 l0.length l0) (hr1 : Kd.C (Kd.int .i64) w A1 l1.length l1)
    (hn0 : l0.length ≤ 17592186044416) (hn1 : l1.length ≤ 17592186044416) (hbad : (sound l0 && sound l1) = false) :
    Calls Try.prog 48 #[.slice A0 l0.length c0, .slice A1 l1.length c1] w fun e w' => e = .returned (.func (.func 70) #[] #[]) ∧ Below w.heap.size w w' := by
  have HR0 := Aside0.mk hr0
  have HR1 := Aside0.mk hr1
  have S0 := fun w (h : Kd.C (Kd.int .i64) w A0 l0.length l0) => sound_calls A0 c0 l0 w h hn0
  have S1 := fun w (h : Kd.C (Kd.int .i64) w A1 l1.length l1) => sound_calls A1 c1 l1 w h hn1
  cases hs0 : sound l0 with
  | false =>
    rw [hs0] at S0
    have HS0 := Aside0.mk S0
    clear S0 S1 hr0 hr1 hn0 hn1 hbad hs0
    go_enter Try.func48, Try.ntmps48
    go_wp2_with fail
    (with_reducible refine (HS0.out _ HR0.out).mono ?_)
    rintro e W1 ⟨rfl, hd⟩
    have B1 := Aside0.mk (hd.below)
    clear hd
    go_wp2_with fail
    go_ret
    exact ⟨rfl, B1.out⟩
  | true =>
    rw [hs0, Bool.true_and] at hbad
    rw [hs0] at S0
    rw [hbad] at S1
    have HS0 := Aside0.mk S0
    have HS1 := Aside0.mk S1
    clear S0 S1 hr0 hr1 hn0 hn1 hbad hs0
    go_enter Try.func48, Try.ntmps48
    go_wp2_with fail
    (with_reducible refine (HS0.out _ HR0.out).mono ?_)
    rintro e W1 ⟨rfl, hd⟩
    have B1 := hd.below
    clear hd
    go_wp2_with fail
    (with_reducible refine (HS1.out _ (Kd.C_below HR1.out B1)).mono ?_)
    rintro e W2 ⟨rfl, hd⟩
    have B2 := Aside0.mk (below_step B1 (hd.below))
    clear hd B1
    go_wp2_with fail
    go_ret
    exact ⟨rfl, B2.out⟩

set_option maxRecDepth 100000 in
set_option maxHeartbeats 8000000 in
theorem resolvents_good (A0 A1 : Option Addr) (c0 c1 : Nat) (l0 l1 : List Int) (w : World) (hr0 : Kd.C (Kd.int .i64) w A0 l0.length l0) (hr1 : Kd.C (Kd.int .i64) w A1 l1.length l1) (hc0 : l0.length ≤ c0) (hc1 : l1.length ≤ c1)
    (hn0 : l0.length ≤ 17592186044416) (hn1 : l1.length ≤ 17592186044416) (hs0 : sound l0 = true) (hs1 : sound l1 = true) :
    Calls Try.prog 48 #[.slice A0 l0.length c0, .slice A1 l1.length c1] w fun e w' => ∃ Bx By gx cx gy cy : Nat, e = .returned (.func (.func 71) #[] #[.pointer (some ⟨By, 0, none⟩), .pointer (some ⟨Bx, 0, none⟩)]) ∧ Two (tidyOf l0) (tidyOf l1) Bx By gx cx gy cy w.heap.size w' ∧ (w.heap.size ≤ Bx ∧ w.heap.size ≤ By) ∧ Below w.heap.size w w' := by
  have HR0 := Aside0.mk hr0
  have HR1 := Aside0.mk hr1
  have S0 := fun w (h : Kd.C (Kd.int .i64) w A0 l0.length l0) => sound_calls A0 c0 l0 w h hn0
  have S1 := fun w (h : Kd.C (Kd.int .i64) w A1 l1.length l1) => sound_calls A1 c1 l1 w h hn1
  have T0 := fun w (h : Kd.C (Kd.int .i64) w A0 l0.length l0) => tidy_own A0 c0 l0 w h hc0 hn0
  have T1 := fun w (h : Kd.C (Kd.int .i64) w A1 l1.length l1) => tidy_own A1 c1 l1 w h hc1 hn1
  rw [hs0] at S0
  rw [hs1] at S1
  have HS0 := Aside0.mk S0
  have HS1 := Aside0.mk S1
  have HT0 := Aside0.mk T0
  have HT1 := Aside0.mk T1
  clear S0 S1 T0 T1 hr0 hr1 hn0 hn1 hs0 hs1 hc0 hc1
  go_enter Try.func48, Try.ntmps48
  go_wp2_with fail
  (with_reducible refine (HS0.out _ HR0.out).mono ?_)
  rintro e W1 ⟨rfl, hd⟩
  have B1 := hd.below
  clear hd
  go_wp2_with fail
  (with_reducible refine (HS1.out _ (Kd.C_below HR1.out B1)).mono ?_)
  rintro e W2 ⟨rfl, hd⟩
  have B2 := below_step B1 (hd.below)
  clear hd B1
  go_wp2_with fail
  (with_reducible refine (HT0.out _ (Kd.C_below HR0.out B2)).mono ?_)
  rintro e W3 ⟨g1, cap1, rfl, o1, b3⟩
  have B3 := below_step B2 b3
  have o1' := own_weaken o1 B2.size
  clear o1 b3
  go_wp2_with fail
  (with_reducible refine (HT1.out _ (Kd.C_below HR1.out B3)).mono ?_)
  rintro e W4 ⟨g2, cap2, rfl, o2, b4⟩
  have B4 := below_step B3 b4
  have o3 := own_move o1' (fun k hk => b4.block k (own_lt o1' k hk))
  have o4 := own_weaken o2 B3.size
  have HH : Aside0 (OwnInts W4 w.heap.size (.slice (some ⟨g1, 0, none⟩) (tidyOf l0).length cap1) (tidyOf l0) ∧ OwnInts W4 w.heap.size (.slice (some ⟨g2, 0, none⟩) (tidyOf l1).length cap2) (tidyOf l1) ∧ Below w.heap.size w W4) := ⟨o3, o4, B4⟩
  clear o1' o2 o3 o4 b4 B2 B3 B4
  go_wp2_with fail
  go_ret
  obtain ⟨o3, o4, B4⟩ := HH.out
  have hB : Below W4.heap.size W4 ((W4.alloc (.cells #[.slice (some ⟨g1, 0, none⟩) (tidyOf l0).length cap1] 26)).alloc (.cells #[.slice (some ⟨g2, 0, none⟩) (tidyOf l1).length cap2] 26)) := below_alloc (below_alloc (Below.refl _ _) _) _
  refine ⟨W4.heap.size, W4.heap.size + 1, g1, cap1, g2, cap2, rfl, ⟨blk_alloc (blk_new _ _) _, ?_, own_move o3 (fun k hk => hB.block k (own_lt o3 k hk)), own_move o4 (fun k hk => hB.block k (own_lt o4 k hk))⟩, ⟨B4.size, by have := B4.size; omega⟩, below_step B4 hB⟩
  have := blk_new (W4.alloc (.cells #[.slice (some ⟨g1, 0, none⟩) (tidyOf l0).length cap1] 26)) (.cells #[.slice (some ⟨g2, 0, none⟩) (tidyOf l1).length cap2] 26)
  simpa using this

theorem resolvents_own (l0 l1 : List Int) (Bx By gx cx gy cy base n : Nat) (hn : 8 ≤ n) (w : World) (hT : Two (tidyOf l0) (tidyOf l1) Bx By gx cx gy cy base w) :
    SeqD Fence.wide n Try.prog 71 #[.pointer (some ⟨By, 0, none⟩), .pointer (some ⟨Bx, 0, none⟩)] (fun p : Int × Value × List Int => #[.int .i64 p.1, p.2.1]) HandI (fun k => k = Bx ∨ k = By ∨ k = gx ∨ k = gy)
      (fun ps => ps.map (fun p => (p.1, p.2.2)) = weave (tidyOf l0) (tidyOf l1)) (fun pre => pre.map (fun p => (p.1, p.2.2)) <+: weave (tidyOf l0) (tidyOf l1)) 4194304 w :=
  resolvents2_own n hn (tidyOf l0) (tidyOf l1) Bx By gx cx gy cy base (rising_tidyOf _) (rising_tidyOf _) (fun _ h => tidyOf_formed h) (fun _ h => tidyOf_formed h) (formed_count (tidyOf l0) (rising_tidyOf _) (fun _ h => tidyOf_formed h)) (formed_count (tidyOf l1) (rising_tidyOf _) (fun _ h => tidyOf_formed h)) w hT

/-- an iterator over nothing -/
theorem nothing_own (n : Nat) (w : World) (Rd : Nat → Prop) :
    SeqD Fence.wide n Try.prog 70 #[] (fun p : Int × Value × List Int => #[.int .i64 p.1, p.2.1]) HandI Rd (fun ps => ps.map (fun p => (p.1, p.2.2)) = []) (fun pre => False) 4194304 w := by
  intro l J Jx W hW hJ hJx hY h0
  refine callsIn_wide.2 ((callsIn_wide (n := 6)).1 ?_)
  refine callsIn_of_wp Try.func70 rfl trivial ?_ rfl
  simp only [Try.ntmps70, List.size_toArray, List.length_cons, List.length_nil, Nat.reduceAdd, Nat.reduceSub, Array.replicate_succ, Array.replicate_zero, List.push_toArray, List.append_toArray, List.nil_append, List.cons_append]
  have H := Aside0.mk h0
  clear h0 hY hJ hJx
  gi_wp2
  go_end0
  exact ⟨⟨_, rfl⟩, _, .inl ⟨[], rfl, H.out⟩⟩
end Go.Proofs.YtamefocngapkpaaHand
/-! text YtamefocngapkpaaGives -/
namespace Go.Proofs.YtamefocngapkpaaHand
open Go.RowKit Go.Sort Go.Lib Go.Shelf Go.Proofs.YtamefocngapkpaaW.PrintWords Go.Proofs.YtamefocngapkpaaW.PrintLast Go.Proofs.YtamefocngapkpaaMath Go.Proofs.YtamefocngapkpaaOwn Go.Proofs.Ytamefocngapkpaa.PLitsMeets
attribute [local go_sem] Oper.semAt_some
set_option linter.unusedVariables false
set_option linter.unusedSimpArgs false
/-- gives' own variables in new blocks: the list, the result, the counter -/
structure GB (w : World) (vL r n : Value) (W : World) : Prop where
  hB : Below w.heap.size w W
  hz : w.heap.size + 3 ≤ W.heap.size
  b0 : W.heap[w.heap.size]? = some (.cells #[vL] 40 (0, 0))
  b1 : W.heap[w.heap.size + 1]? = some (.cells #[r] 4 (0, 0))
  b2 : W.heap[w.heap.size + 1 + 1]? = some (.cells #[n] 3 (0, 0))
section
variable {w : World} {vL r n : Value} {W W1 : World}
theorem gb (w : World) (vL r n : Value) : GB w vL r n (((w.alloc (.cells #[vL] 40 (0, 0))).alloc (.cells #[r] 4 (0, 0))).alloc (.cells #[n] 3 (0, 0))) := by
  refine ⟨by repeat (first | exact Below.refl _ _ | apply below_alloc), by simp, blk_alloc (blk_alloc (blk_new _ _) _) _, ?_, ?_⟩
  · have := blk_new (w.alloc (.cells #[vL] 40 (0, 0))) (.cells #[r] 4 (0, 0))
    exact blk_alloc (by simpa using this) _
  · have := blk_new ((w.alloc (.cells #[vL] 40 (0, 0))).alloc (.cells #[r] 4 (0, 0))) (.cells #[n] 3 (0, 0))
    simpa using this
theorem GB.grow {M : Nat → Prop} (h : GB w vL r n W) (hg : Grow M W W1) (hM : ∀ k, M k → w.heap.size + 3 ≤ k) : GB w vL r n W1 := by
  have hb : Below (w.heap.size + 3) W W1 := hg.below h.hz hM
  have far : ∀ k, k < w.heap.size + 3 → W1.heap[k]? = W.heap[k]? := fun k hk => hb.block k hk
  exact ⟨h.hB.trans (hb.mono (by omega)), Nat.le_trans h.hz hg.size, (far _ (by omega)).trans h.b0, (far _ (by omega)).trans h.b1, (far _ (by omega)).trans h.b2⟩
theorem GB.keep (h : GB w vL r n W) (k : Below W.heap.size W W1) : GB w vL r n W1 := h.grow (M := fun _ => False) (Grow.of_below k) (fun _ h => h.elim)
theorem GB.far (h : GB w vL r n W) {p : Addr} (hp : w.heap.size + 3 ≤ p.block) (u : Value) : GB w vL r n (W.setCell p u) :=
  ⟨h.hB.setCell (p := p) (by omega) _, Nat.le_trans h.hz ((Below.refl 0 W).setCell (p := p) (Nat.zero_le _) u).size, blk_far h.b0 (by omega) _, blk_far h.b1 (by omega) _, blk_far h.b2 (by omega) _⟩
theorem GB.set (h : GB w vL r n W) (u : Value) : GB w vL u n (W.setCell ⟨w.heap.size + 1, 0, none⟩ u) :=
  ⟨h.hB.setCell (p := ⟨w.heap.size + 1, 0, none⟩) (show w.heap.size ≤ w.heap.size + 1 by omega) _, Nat.le_trans h.hz ((Below.refl 0 W).setCell (p := ⟨w.heap.size + 1, 0, none⟩) (Nat.zero_le _) u).size, blk_far h.b0 (by simp <;> omega) _, blk_put h.b1 0 u rfl, blk_far h.b2 (by simp) _⟩
theorem GB.put (h : GB w vL r n W) (u : Value) : GB w vL r u (W.setCell ⟨w.heap.size + 1 + 1, 0, none⟩ u) :=
  ⟨h.hB.setCell (p := ⟨w.heap.size + 1 + 1, 0, none⟩) (show w.heap.size ≤ w.heap.size + 1 + 1 by omega) _, Nat.le_trans h.hz ((Below.refl 0 W).setCell (p := ⟨w.heap.size + 1 + 1, 0, none⟩) (Nat.zero_le _) u).size, blk_far h.b0 (by simp <;> omega) _, blk_far h.b1 (by simp) _, blk_put h.b2 0 u rfl⟩
end
def p13 (p : Int × Value × List Int) : Int × List Int := (p.1, p.2.2)
theorem seqD_later {α : Type} {F : Fence} {n : Nat} {P : Program} {g : Nat} {lb : Array Value} {encs : α → Array Value} {Hd : World → (Nat → Prop) → α → World → Prop} {Rd : Nat → Prop} {S Sp : List α → Prop} {N : Nat} {w w1 : World}
    (h : SeqD F n P g lb encs Hd Rd S Sp N w) (hb : Below w.heap.size w w1) : SeqD F n P g lb encs Hd Rd S Sp N w1 := fun l J Jx W hW => h l J Jx W (below_step hb hW)
theorem own_set1 {W : World} {base g cap : Nat} {xs : List Int} {n : Nat} (h : OwnInts W base (.slice (some ⟨g, 0, none⟩) n cap) xs) (hn : n = xs.length) (i : Nat) (x : Int) :
    OwnInts (W.setCell ⟨g, i, none⟩ (.int .i64 x)) base (.slice (some ⟨g, 0, none⟩) n cap) (xs.set i x) := by
  subst hn
  have := Go.Proofs.YtamefocngapkpaaW.PrintWords.own_put h (i : Int) x
  rwa [Int.toNat_natCast] at this
theorem own_form {W : World} {base n c : Nat} {A : Option Addr} {xs : List Int} (h : OwnInts W base (.slice A n c) xs) (hp : 0 < xs.length) : ∃ g cap, Value.slice A n c = .slice (some ⟨g, 0, none⟩) xs.length cap ∧ base ≤ g ∧ ∃ cells, W.heap[g]? = some (.cells cells 3 (0, 0)) := by
  rcases h.2 with ⟨_, h2⟩ | ⟨g, cap, cur, e, hb, hh, _⟩
  · omega
  · exact ⟨g, cap, e, hb, cur, hh⟩
theorem own_at {W : World} {base n c g i : Nat} {xs : List Int} (h : OwnInts W base (.slice (some ⟨g, 0, none⟩) n c) xs) (hi : i < xs.length) : W.cell? ⟨g, i, none⟩ = some (.int .i64 (rd xs i)) := by
  obtain ⟨e, _, hC⟩ := Kd.R_reads' (own_R h)
  obtain ⟨ad, eA, hcell⟩ := Kd.at_int hC (i : Int) (by omega) (by omega)
  injection eA with eA
  subst eA
  rw [Int.toNat_natCast, add_at, Nat.zero_add] at hcell
  exact hcell
theorem notPre {α : Type} {L ps : List α} {x : α} (h1 : L.length ≤ ps.length) : ¬ (ps ++ [x]) <+: L := fun h => by have := h.length_le; simp at this; omega
theorem notPre' {α : Type} {L ps : List α} {x : α} (h1 : ps.length < L.length) (h2 : x ≠ L[ps.length]) : ¬ (ps ++ [x]) <+: L := fun h => by
  obtain ⟨t, ht⟩ := h
  apply h2
  subst ht
  simp
theorem isPre {α : Type} {L ps : List α} {x : α} (h : ps <+: L) (h1 : ps.length < L.length) (h2 : x = L[ps.length]) : (ps ++ [x]) <+: L := by
  obtain ⟨t, ht⟩ := h
  subst ht
  cases t with
  | nil => simp at h1
  | cons y t =>
    simp at h2
    subst h2
    exact ⟨t, by simp⟩

set_option maxRecDepth 100000 in
set_option maxHeartbeats 8000000 in
theorem gives_calls (g : Nat) (lb : Array Value) (Rd : Nat → Prop) (L : List (Int × List Int)) (Aw : Option Addr) (nw cw lo hi : Nat) (w : World) (hn : nw = L.length) (hw : Want lo hi Aw (L.map mkP) w) (hL : L.length ≤ 4194304) (hcw : L.length ≤ cw) (hL2 : ∀ p ∈ L, p.2.length ≤ 2097152)
    (hseq : SeqD Fence.wide 11 Try.prog g lb (fun p : Int × Value × List Int => #[.int .i64 p.1, p.2.1]) HandI Rd (fun ps => ps.map p13 = L) (fun pre => pre.map p13 <+: L) 4194304 w)
    (eg : ∀ (args : Array Value) (w : World), (callFunc g args).run Try.prog w = .ok (.enter g args) w) (hRd : ∀ k, Rd k → k < w.heap.size) :
    Calls Try.prog 49 #[.func (.func g) #[] lb, .slice Aw nw cw] w fun e w' => e = .returned (.bool true) ∧ Below w.heap.size w w' := by
  have HW := Aside0.mk hw
  have HN := Aside0.mk hn
  have HL := Aside0.mk (And.intro hL (And.intro hcw hL2))
  have HSEQ := Aside0.mk hseq
  have HRD := Aside0.mk hRd
  clear hw hn hL hcw hL2 hseq hRd
  refine (callsIn_wide (n := 12)).1 ?_
  refine callsIn_of_wp_marks Try.func49 rfl trivial ?_ rfl
  simp only [Try.ntmps49, List.size_toArray, List.length_cons, List.length_nil, Nat.reduceAdd, Nat.reduceSub, Array.replicate_succ, Array.replicate_zero, List.push_toArray, List.append_toArray, List.nil_append, List.cons_append]
  gi_wp2
  have HG0 := Aside0.mk (gb w (.slice Aw nw cw) (.bool false) (.int .i64 0))
  have HSQ := Aside0.mk (seqD_later HSEQ.out HG0.out.hB)
  have hz0 : w.heap.size + 3 ≤ (((w.alloc (.cells #[.slice Aw nw cw] 40)).alloc (.cells #[.bool false] 4)).alloc (.cells #[.int .i64 0] 3)).heap.size := by simp
  generalize hW0 : ((w.alloc (.cells #[.slice Aw nw cw] 40)).alloc (.cells #[.bool false] 4)).alloc (.cells #[.int .i64 0] 3) = W0 at HG0 HSQ hz0 ⊢
  clear hW0 HSEQ
  have ownI : OwnD (fun (M : Nat → Prop) (pre : List (Int × Value × List Int)) (W : World) => (∀ k, M k → w.heap.size + 3 ≤ k) ∧ GB w (.slice Aw nw cw) (.bool false) (.int .i64 (pre.length : Nat)) W ∧ pre.map p13 <+: L) := fun M M1 pre A B h hg hm => ⟨fun k hk => by rcases hm k hk with h1 | h1; exact h.1 k h1; exact Nat.le_trans h.2.1.hz h1.1, h.2.1.grow hg h.1, h.2.2⟩
  refine wpIn_range_own (by decide) (gf := g) (lb := lb) rfl rfl trivial eg HSQ.out HandI.move (fun k hk => Nat.lt_of_lt_of_le (HRD.out k hk) HG0.out.hB.size) (Below.refl _ _) (fun _ => rfl)
    (fun (M : Nat → Prop) (pre : List (Int × Value × List Int)) (W : World) => (∀ k, M k → w.heap.size + 3 ≤ k) ∧ GB w (.slice Aw nw cw) (.bool false) (.int .i64 (pre.length : Nat)) W ∧ pre.map p13 <+: L)
    (fun c (M : Nat → Prop) (pre : List (Int × Value × List Int)) (W : World) => ¬ pre.map p13 <+: L)
    ownI (fun c M M1 pre A B h _ _ => h) ⟨fun _ h => h.elim, HG0.out, List.nil_prefix⟩
    (fun p => { tmps := #[.func (.func g) #[] lb, .slice Aw nw cw, undef, .pointer (some ⟨w.heap.size, 0, none⟩), .pointer (some ⟨w.heap.size + 1, 0, none⟩), .pointer (some ⟨w.heap.size + 1 + 1, 0, none⟩), .int .i64 p.1, p.2.1, undef, .func (.func g) #[] lb, .int .i64 p.1, p.2.1, undef, undef, undef, undef, undef, undef, undef, undef, undef, undef, undef, undef, undef, undef, undef, undef, undef, undef, undef, undef, undef, undef, undef, undef, undef, undef, undef, undef, undef, undef, undef, undef, undef, undef, undef, undef, undef, undef, undef, undef], defers := [] }) ?assign ?body ?done ?stop
  case assign =>
    intro l x W K hK
    gi_wp2
    exact hK
  case body =>
    rintro li M M1 pre ⟨x, u, s⟩ A5 W5 hI hg hm hsub hMD hML hsz hHd hlen
    obtain ⟨hM1, hF, hP⟩ := ownI _ _ _ _ _ hI hg hm
    obtain ⟨ho, hnm, hfs, hls⟩ := hHd
    replace ho : OwnInts W5 A5.heap.size u s := ho
    replace hls : s.length ≤ 2097152 := hls
    obtain ⟨As, cs, rfl⟩ := Kd.R_slice (own_R ho)
    have hle := hg.size
    have hzA := hI.2.1.hz
    have HC := Aside0.mk (Kd.R_reads' (own_R ho)).2
    have HF := Aside0.mk hF
    have HM1 := Aside0.mk hM1
    have HO := Aside0.mk ho
    have HP := Aside0.mk hP
    have HAP : Aside0 (∀ k, k < w.heap.size + 3 → ¬ (M1 k ∨ Rd k) ∨ k < w.heap.size) := ⟨fun k hk => by by_cases h : k < w.heap.size; exact .inr h; exact .inl fun h2 => by rcases h2 with h2 | h2; have := hM1 k h2; omega; have := HRD.out k h2; omega⟩
    have HNM : Aside0 (∀ k, (Value.slice As s.length cs).ownBlock = some k → ¬ (M1 k ∨ Rd k) ∧ w.heap.size + 3 ≤ k) := ⟨fun k hk => by
      have h1 := own_base ho k hk
      exact ⟨fun h2 => by rcases h2 with h2 | h2; exact hnm k hk h2; have := HRD.out k h2; omega, by omega⟩⟩
    have HS := Aside0.mk hls
    have HL5 := Aside0.mk hlen
    clear ownI hI hg hm hsub hMD hML hsz hlen hM1 hF ho hnm hfs hls hP hle hzA hz0 HG0 HSQ
    obtain ⟨np, hnp⟩ : ∃ np, np = pre.length := ⟨_, rfl⟩
    rw [← hnp] at HF
    have HNP := Aside0.mk hnp
    clear hnp
    dsimp only
    have f0 := (blk_cell HF.out.b0 0).trans rfl
    have f2 := (blk_cell HF.out.b2 0).trans rfl
    by_cases hlt : np < L.length
    · have hw5 : Want lo hi Aw (L.map mkP) W5 := HW.out.step (fun k _ hk => HF.out.hB.block k (Nat.lt_of_lt_of_le hk HW.out.2)) HF.out.hB.size
      obtain ⟨ad, A1, c1, eA, cell0, cell1, hc1, hC1⟩ := hw5.at_ hlt
      obtain ⟨q, hq⟩ : ∃ q, q = L[np] := ⟨_, rfl⟩
      rw [← hq] at cell0 cell1 hc1 hC1
      have HQ : Aside0 (∃ h : np < L.length, q = L[np]) := ⟨hlt, hq⟩
      clear hq
      have HC1 := Aside0.mk (And.intro hc1 hC1)
      subst eA
      have hnw : ¬ nw ≤ np := by have := HN.out; omega
      have p1 : decide ((np : Int) ≥ (nw : Int)) = false := decide_eq_false (by omega)
      have p2 : (nw ≤ np) = False := eq_false hnw
      have p3 : (np < nw) = True := eq_true (by omega)
      have i0 : (0 : Int) ≤ (np : Int) := by omega
      have i1 : (np : Int) < (nw : Int) := by omega
      have HAPB : Aside0 (¬ (M1 (w.heap.size + 1) ∨ Rd (w.heap.size + 1))) := ⟨(HAP.out (w.heap.size + 1) (by omega)).resolve_right (by omega)⟩
      have HAPN : Aside0 (¬ (M1 (w.heap.size + 1 + 1) ∨ Rd (w.heap.size + 1 + 1))) := ⟨(HAP.out (w.heap.size + 1 + 1) (by omega)).resolve_right (by omega)⟩
      clear hc1 hC1 hw5 hnw
      by_cases hv : x = q.1
      · have HV := Aside0.mk hv
        have pv : (x == q.1) = true := beq_iff_eq.2 hv
        have pv2 : (x != q.1) = false := by simp [bne, pv]
        clear hv hlt
        have HEQ := Aside0.mk (fun W (h : Below W5.heap.size W5 W) => mequal_calls As A1 cs c1 s q.2 W (Kd.C_below HC.out.2 h) HC.out.1 (Kd.C_below HC1.out.2 h) HC1.out.1 (by have := HS.out; omega))
        cases hs : (s == q.2) with
        | false =>
          rw [hs] at HEQ
          have HSQ := Aside0.mk hs
          clear hs
          gi_wp2
          refine ⟨trivial, ?_⟩
          (with_reducible refine (CallsIn.inRound li (callsIn_wide.2 (HEQ.out _ (Below.refl _ _)))).mono ?_)
          rintro e W6 ⟨rfl, hd⟩
          have HD := Aside0.mk hd.below
          clear hd
          have q4 := (blk_cell (blk_below HF.out.b1 HD.out) 0).trans rfl
          have y4 := blk_frozen (blk_below HF.out.b1 HD.out) 0
          gi_wp2
          refine ⟨(KeptD.of_below HD.out).trans (KeptD.setCell (p := ⟨w.heap.size + 1, 0, none⟩) HAPB.out _), ?_⟩
          obtain ⟨hlt, hq⟩ := HQ.out
          show ¬ (pre ++ [(x, Value.slice As s.length cs, s)]).map p13 <+: L
          rw [List.map_append]
          have hnp := HNP.out
          subst hnp
          refine notPre' (by simpa using hlt) ?_
          intro e
          have e2 : s = q.2 := by rw [hq]; simpa [p13] using congrArg Prod.snd e
          have := HSQ.out
          rw [e2, beq_self_eq_true] at this
          cases this
        | true =>
          rw [hs] at HEQ
          have HSQ := Aside0.mk (beq_iff_eq.1 hs)
          clear hs
          gi_wp2
          refine ⟨trivial, ?_⟩
          (with_reducible refine (CallsIn.inRound li (callsIn_wide.2 (HEQ.out _ (Below.refl _ _)))).mono ?_)
          rintro e W6 ⟨rfl, hd⟩
          have HF6 := Aside0.mk (HF.out.keep hd.below)
          have HO6 : Aside0 (OwnInts W6 A5.heap.size (.slice As s.length cs) s) := ⟨own_move HO.out fun k hk => hd.below.block k (own_lt HO.out k hk)⟩
          have HK6 := Aside0.mk (KeptD.of_below (M := fun k => M1 k ∨ Rd k) hd.below)
          clear hd
          clear f0 f2 cell0 cell1 p1 p2 p3 i0 i1 pv pv2 HEQ HC HC1 HF HO
          gi_wp2
          gi_loopw [8] (fun v8 wr => ∃ (k : Nat) (t : List Int), v8 = .int .i64 k ∧ Aside0 (k ≤ s.length ∧ t.length = s.length) ∧ Aside0 (OwnInts wr A5.heap.size (.slice As s.length cs) t) ∧ Aside0 (GB w (.slice (some ad) nw cw) (.bool false) (.int .i64 np) wr) ∧ Aside0 (KeptD (fun k => M1 k ∨ Rd k) W5 wr)) (fun v8 _ => s.length - (intOf v8).toNat)
          case atStart => exact ⟨0, s, rfl, ⟨Nat.zero_le _, rfl⟩, HO6, HF6, HK6⟩
          case round =>
            obtain ⟨k, t, rfl, HK, HO, HF, HKD⟩ := hrel
            clear HO6 HF6 HK6
            by_cases hk : k < s.length
            · have hki : (0 : Int) ≤ (k : Int) := by omega
              have hkn : (k : Int) < (s.length : Int) := by omega
              obtain ⟨g0, c0, hv0, hb0, hblk⟩ := own_form HO.out (by have := HK.out.2; omega)
              injection hv0 with eA _ ec
              subst eA
              subst ec
              have hc0 := own_at (i := k) HO.out (by have := HK.out.2; omega)
              obtain ⟨cc, hblk⟩ := hblk
              have hy0 := blk_frozen hblk k
              have f2 := (blk_cell HF.out.b2 0).trans rfl
              have HNG := Aside0.mk (HNM.out g0 (by simp [Value.ownBlock]))
              have HLT := Aside0.mk hk
              clear hk hblk hb0
              gi_wp2
              go_roundw
              case rel =>
                refine ⟨k + 1, _, by rw [w64s (show (k : Int) < 9223372036854775807 by have := HS.out; have := HLT.out; omega)], ⟨?_, ?_⟩, ⟨own_set1 HO.out HK.out.2.symm k _⟩, ⟨HF.out.far (p := ⟨g0, k, none⟩) HNG.out.2 _⟩, ⟨HKD.out.trans (KeptD.setCell (p := ⟨g0, k, none⟩) HNG.out.1 _)⟩⟩
                · have := HLT.out; omega
                · have := HK.out.2; simp [this]
              case measure => have := HLT.out; rw [w64s (show (k : Int) < 9223372036854775807 by have := HS.out; omega)]; simp [intOf]; omega
            · have f2 := (blk_cell HF.out.b2 0).trans rfl
              have y2 := blk_frozen HF.out.b2 0
              gi_wp2
              have hw : wrap64 ((np : Int) + 1) = (((pre ++ [(x, Value.slice As s.length cs, s)]).length : Nat) : Int) := by
                have h1 := HNP.out
                have h2 := HL5.out
                rw [w64 (by omega) (by omega)]
                simp
                omega
              rw [hw]
              refine ⟨HKD.out.trans (KeptD.setCell (p := ⟨w.heap.size + 1 + 1, 0, none⟩) HAPN.out _), HM1.out, HF.out.put _, ?_⟩
              obtain ⟨hlt, hq⟩ := HQ.out
              have hnp := HNP.out
              subst hnp
              rw [List.map_append]
              refine isPre HP.out (by simpa using hlt) ?_
              simp only [List.length_map]
              rw [← hq, HV.out, HSQ.out]
              rfl
      · have pv : (x == q.1) = false := beq_eq_false_iff_ne.2 hv
        have pv2 : (x != q.1) = true := by simp [bne, pv]
        have HV := Aside0.mk hv
        have q4 := (blk_cell HF.out.b1 0).trans rfl
        have y4 := blk_frozen HF.out.b1 0
        clear hv hlt
        gi_wp2
        refine ⟨trivial, ?_⟩
        gi_wp2
        refine ⟨KeptD.setCell (p := ⟨w.heap.size + 1, 0, none⟩) HAPB.out _, ?_⟩
        obtain ⟨hlt, hq⟩ := HQ.out
        show ¬ (pre ++ [(x, Value.slice As s.length cs, s)]).map p13 <+: L
        rw [List.map_append]
        have hnp := HNP.out
        subst hnp
        refine notPre' (by simpa using hlt) ?_
        intro e
        apply HV.out
        rw [hq]
        simpa [p13] using congrArg Prod.fst e
    · have p1 : decide ((np : Int) ≥ (nw : Int)) = true := decide_eq_true (by have := HN.out; omega)
      have p2 : (nw ≤ np) = True := eq_true (by have := HN.out; omega)
      have q4 := (blk_cell HF.out.b1 0).trans rfl
      have y4 := blk_frozen HF.out.b1 0
      have HGE := Aside0.mk hlt
      clear hlt
      have HAPB : Aside0 (¬ (M1 (w.heap.size + 1) ∨ Rd (w.heap.size + 1))) := ⟨(HAP.out (w.heap.size + 1) (by omega)).resolve_right (by omega)⟩
      gi_wp2
      refine ⟨trivial, ?_⟩
      gi_wp2
      refine ⟨KeptD.setCell (p := ⟨w.heap.size + 1, 0, none⟩) HAPB.out _, ?_⟩
      show ¬ (pre ++ [(x, Value.slice As s.length cs, s)]).map p13 <+: L
      rw [List.map_append]
      exact notPre (by have := HGE.out; have := HNP.out; simp; omega)
  case done =>
    rintro M xs W hMb hS ⟨hM1, hF, hP⟩ hK
    have hlen : xs.length = L.length := by rw [← hS, List.length_map]
    have e1 : ((xs.length : Nat) : Int) = ((nw : Nat) : Int) := by have := HN.out; omega
    rw [e1] at hF
    have f0 := (blk_cell hF.b0 0).trans rfl
    have f2 := (blk_cell hF.b2 0).trans rfl
    have q4 := (blk_cell hF.b1 0).trans rfl
    have y4 := blk_frozen hF.b1 0
    have pe : ((nw : Int) == (nw : Int)) = true := beq_self_eq_true _
    have HF := Aside0.mk hF
    have HK := Aside0.mk hK
    have HD := Aside0.mk (hM1 _ hMb)
    clear ownI hF hM1 hMb hS hP hK hlen e1 hz0 HG0 HSQ
    gi_wp2
    have E2 := HF.out.set (.bool true)
    have hK2 := (KeepsOthers.setCell W ⟨w.heap.size + 1, 0, none⟩ (.bool true)).same W0.heap.size _ HK.out rfl
    generalize (W.setCell ⟨w.heap.size + 1, 0, none⟩ (.bool true)) = WF at E2 hK2 ⊢
    refine ⟨by simp, .inl ⟨_, _, rfl, run_takeDeferred hK2, ?_⟩⟩
    have E3 := E2.grow (M := fun k => k = W0.heap.size) (Grow.put (.deferred none) rfl) (fun k e => by have := HD.out; omega)
    have r0 := (blk_cell E3.b1 0).trans rfl
    exact ⟨.bool true, by simp [results, Try.results49, go_sem, r0], rfl, E3.hB⟩
  case stop =>
    rintro M c pre W hMb hSp hix hK
    exact absurd hSp hix
end Go.Proofs.YtamefocngapkpaaHand
