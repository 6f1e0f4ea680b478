/- What cnf.Under answers. -/
import Derived.Test.YtggnnnddnppcpaaDoorClCnfMeansUptoCardg
import Derived.Test.YtggnnnddnppcpaaDoorClCnfMeansUptoCardh
import Derived.Lib.ItoaLen
import Derived.Test.YtggnnnddnppcpaaDoorClCnfMeansUptoCarde
import Derived.Test.YtggnnnddnppcpaaDoorWLast
import Derived.Test.YtggnnnddnppcpaaDoorWApart
import Derived.Test.YtggnnnddnppcpaaDoorWMore
import Derived.Laws.BytesArg
import Derived.Test.YtggnnnddnppcpaaDoorClCnfMeansUptoCardf
/-! text YtggnnnddnppcpaaDoorCnfUnder -/
namespace Go.Proofs.YtggnnnddnppcpaaDoorMath
open Go.Proofs.YtggnnnddnppcpaaDoorMaps
def underP (part c : List Int) : List Int := c.filter (fun l => !part.contains (-l))
def underO (part c : List Int) : Bool := c.any (fun l => part.contains l)
def leftAll (part : List Int) (cs : List (List Int)) : List (List Int) := (cs.filter (fun c => !underO part c)).map (underP part)
def underOf (v : Int) (cs : List (List Int)) (part : List Int) : Int × List (List Int) × Int :=
  if (isFormula v cs && within part v) = true then (if tautIn (tidyOf part) = true then (0, [], 20) else (v, leftAll part cs, 0)) else (0, [], 1)
/-- a map tells of a list's literals 1, of their opposites -1 -/
def Known (l : List Int) (f : Int → Option Int) : Prop := ∀ v, f v = if v ∈ l then some 1 else if -v ∈ l then some (-1) else none
theorem known_step {l : List Int} {y : Int} {f : Int → Option Int} (h : Known l f) (h0 : y ≠ 0) (hn : -y ∉ l) : Known (l ++ [y]) (upd (upd f y 1) (-y) (-1)) := by
  intro v
  by_cases e1 : v = -y
  · subst e1
    rw [upd_same, if_neg (by rw [List.mem_append, List.mem_singleton]; rintro (h | h); exact hn h; omega), if_pos (by simp)]
  · rw [upd_other _ _ e1]
    by_cases e2 : v = y
    · subst e2
      rw [upd_same, if_pos (by simp)]
    · have e3 : -v ≠ y := by omega
      rw [upd_other _ _ e2, h v]
      simp [e2, e3]
theorem leftIn_known {part c : List Int} {f : Int → Option Int} (h : Known part f) : leftIn f c = if underO part c = true then ([], false) else (underP part c, true) := by
  have e1 : ∀ l, ((f l).getD 0 = 1) ↔ l ∈ part := by
    intro l
    rw [h l]
    by_cases a : l ∈ part
    · simp [a]
    · by_cases b : -l ∈ part <;> simp [a, b]
  have e0 : ∀ l, l ∉ part → (((f l).getD 0 = 0) ↔ -l ∉ part) := by
    intro l hl
    rw [h l, if_neg hl]
    by_cases b : -l ∈ part <;> simp [b]
  have e2 : c.any (fun l => decide ((f l).getD 0 = 1)) = underO part c := by
    unfold underO
    congr 1
    funext l
    rw [Bool.eq_iff_iff, decide_eq_true_eq, e1 l, List.contains_iff_mem]
  unfold leftIn
  rw [e2]
  by_cases ho : underO part c = true
  · rw [if_pos ho, if_pos ho]
  · rw [if_neg ho, if_neg ho]
    congr 1
    unfold underP
    refine List.filter_congr fun l hl => ?_
    have hnp : l ∉ part := fun hp => ho (List.any_eq_true.2 ⟨l, hl, List.contains_iff_mem.2 hp⟩)
    rw [Bool.eq_iff_iff, decide_eq_true_eq, e0 l hnp]
    simp
theorem leftAll_take {part : List Int} {cs : List (List Int)} {k : Nat} (hk : k < cs.length) : leftAll part (cs.take (k + 1)) = leftAll part (cs.take k) ++ (if underO part (cs.getD k []) = true then [] else [underP part (cs.getD k [])]) := by
  have e : cs.take (k + 1) = cs.take k ++ [cs.getD k []] := by
    rw [List.take_add_one, List.getElem?_eq_getElem hk, List.getD_eq_getElem?_getD, List.getElem?_eq_getElem hk]; rfl
  unfold leftAll
  rw [e, List.filter_append, List.map_append]
  congr 1
  rw [List.filter_cons]
  cases underO part (cs.getD k []) <;> rfl
theorem leftAll_length (part : List Int) (cs : List (List Int)) : (leftAll part cs).length ≤ cs.length := by
  unfold leftAll
  rw [List.length_map]
  exact List.length_filter_le _ _
theorem untaut {part : List Int} (hs : sound part = true) (h : tautIn (tidyOf part) = false) : ∀ x ∈ part, -x ∉ part := by
  intro x hx hx2
  have h1 : tautIn (tidyOf part) = true := (tautIn_iff (tidyOf part) (rising_tidyOf part) (fun _ h => tidyOf_formed h)).2 ⟨x, (mem_tidyOf x part).2 ⟨hx, sound_mem hs hx⟩, (mem_tidyOf (-x) part).2 ⟨hx2, sound_mem hs hx2⟩⟩
  rw [h] at h1
  cases h1
end Go.Proofs.YtggnnnddnppcpaaDoorMath
namespace Go.Proofs.YtggnnnddnppcpaaDoorHand
open Go.RowKit Go.Proofs.YtggnnnddnppcpaaDoorW.PrintWords Go.Proofs.YtggnnnddnppcpaaDoorW.PrintLast Go.Proofs.YtggnnnddnppcpaaDoorMath Go.Proofs.YtggnnnddnppcpaaDoorMaps Go.Maps
set_option linter.unusedVariables false
set_option linter.unusedSimpArgs false

/-- two variables of a formula in new blocks -/
structure UF (w : World) (a0 a1 z0 z1 : Value) (W : World) : Prop where
  hB : Below w.heap.size w W
  hz : w.heap.size + 2 ≤ W.heap.size
  b0 : W.heap[w.heap.size]? = some (.cells #[a0, a1] 24 (0, 0))
  b1 : W.heap[w.heap.size + 1]? = some (.cells #[z0, z1] 24 (0, 0))
theorem uf (w : World) (a0 a1 z0 z1 : Value) : UF w a0 a1 z0 z1 ((w.alloc (.cells #[a0, a1] 24 (0, 0))).alloc (.cells #[z0, z1] 24 (0, 0))) := by
  refine ⟨by repeat (first | exact Below.refl _ _ | apply below_alloc), by simp, blk_alloc (blk_new _ _) _, ?_⟩
  have := blk_new (w.alloc (.cells #[a0, a1] 24 (0, 0))) (.cells #[z0, z1] 24 (0, 0))
  simpa using this
theorem UF.keep {w : World} {a0 a1 z0 z1 : Value} {W W1 : World} (h : UF w a0 a1 z0 z1 W) (k : Below W.heap.size W W1) : UF w a0 a1 z0 z1 W1 :=
  ⟨below_step h.hB k, Nat.le_trans h.hz k.size, blk_below h.b0 k, blk_below h.b1 k⟩
theorem UF.grown {w : World} {a0 a1 z0 z1 : Value} {W W1 : World} {row : Option Nat} (h : UF w a0 a1 z0 z1 W) (hg : W.grownBy W1 row) (hne : ∀ k, row = some k → w.heap.size + 2 ≤ k) : UF w a0 a1 z0 z1 W1 :=
  ⟨h.hB.grown hg h.hB.size (fun k hk => by have := hne k hk; omega), Nat.le_trans h.hz hg.size, blk_grown h.b0 hg (fun e => by have := hne _ e.symm; omega), blk_grown h.b1 hg (fun e => by have := hne _ e.symm; omega)⟩
theorem UF.grown2 {w : World} {a0 a1 z0 z1 : Value} {W W1 : World} {row : Option Nat} (h : UF w a0 a1 z0 z1 W) (hB' : Below w.heap.size w W1) (hg : W.grownBy W1 row) (h0 : some w.heap.size ≠ row) (h1 : some (w.heap.size + 1) ≠ row) : UF w a0 a1 z0 z1 W1 :=
  ⟨hB', Nat.le_trans h.hz hg.size, blk_grown h.b0 hg h0, blk_grown h.b1 hg h1⟩
theorem im_ne {W : World} {B n c g t : Nat} {f : Int → Option Int} {cells : Array Value} {z : Nat × Nat} (h : IMI W B n f c) (hb : W.heap[g]? = some (.cells cells t z)) : B ≠ g := by
  rintro rfl
  obtain ⟨D, ⟨es, clock, h1, _⟩, _⟩ := h
  rw [hb] at h1
  cases h1
theorem UF.setCell {w : World} {a0 a1 z0 z1 : Value} {W : World} (h : UF w a0 a1 z0 z1 W) {p : Addr} (hp : w.heap.size + 2 ≤ p.block) (u : Value) : UF w a0 a1 z0 z1 (W.setCell p u) :=
  ⟨h.hB.setCell (p := p) (by omega) u, Nat.le_trans h.hz ((Below.refl 0 W).setCell (p := p) (Nat.zero_le _) u).size, blk_far h.b0 (by omega) u, blk_far h.b1 (by omega) u⟩
theorem UF.f0 {w : World} {a0 a1 z0 z1 : Value} {W : World} (h : UF w a0 a1 z0 z1 W) : W.cell? ⟨w.heap.size, 0, none⟩ = some a0 := (blk_cell h.b0 0).trans rfl
theorem UF.f1 {w : World} {a0 a1 z0 z1 : Value} {W : World} (h : UF w a0 a1 z0 z1 W) : W.cell? ⟨w.heap.size, 1, none⟩ = some a1 := (blk_cell h.b0 1).trans rfl
theorem UF.g0 {w : World} {a0 a1 z0 z1 : Value} {W : World} (h : UF w a0 a1 z0 z1 W) : W.cell? ⟨w.heap.size + 1, 0, none⟩ = some z0 := (blk_cell h.b1 0).trans rfl
theorem UF.g1 {w : World} {a0 a1 z0 z1 : Value} {W : World} (h : UF w a0 a1 z0 z1 W) : W.cell? ⟨w.heap.size + 1, 1, none⟩ = some z1 := (blk_cell h.b1 1).trans rfl
theorem UF.y0 {w : World} {a0 a1 z0 z1 : Value} {W : World} (h : UF w a0 a1 z0 z1 W) : W.frozen? ⟨w.heap.size + 1, 0, none⟩ = false := blk_frozen h.b1 0
theorem UF.y1 {w : World} {a0 a1 z0 z1 : Value} {W : World} (h : UF w a0 a1 z0 z1 W) : W.frozen? ⟨w.heap.size + 1, 1, none⟩ = false := blk_frozen h.b1 1

set_option maxHeartbeats 8000000 in
set_option maxRecDepth 100000 in
theorem under_bad (v1 : Int) (A1 A2 : Option Addr) (c1 c2 : Nat) (l1 : List (List Int)) (l2 : List Int) (w : World) (hr1 : Kd.C (Kd.slice 3 (Kd.int .i64)) w A1 l1.length l1) (hc1 : l1.length ≤ c1) (hr2 : Kd.C (Kd.int .i64) w A2 l2.length l2) (hc2 : l2.length ≤ c2)
    (hn : l1.length ≤ 5864062014805) (hs : ∀ c ∈ l1, c.length ≤ 17592186044416) (hn2 : l2.length ≤ 17592186044416) (hbad : (isFormula v1 l1 && within l2 v1) = false) :
    Calls Tryd.prog 21 #[.agg #[.int .i64 v1, .slice A1 l1.length c1], .slice A2 l2.length c2] w fun e w' => e = .returned (.tuple #[.agg #[.int .i64 0, .slice none 0 0], .int .i64 1]) ∧ Below w.heap.size w w' := by
  have HR1 := Aside0.mk hr1
  have HR2 := Aside0.mk hr2
  have F1 := fun W h => isFormula_calls v1 A1 c1 l1 W h hc1 (by omega) hs
  have F2 := fun W h => within_calls A2 c2 l2 v1 W h hc2 hn2
  cases hf1 : isFormula v1 l1 with
  | false =>
    rw [hf1] at F1
    have HF1 := Aside0.mk F1
    clear F1 F2 hr1 hr2 hc1 hc2 hn hs hn2 hf1 hbad
    go_enter Tryd.func21, Tryd.ntmps21
    go_wp2_with fail
    have T0 := uf w (.int .i64 v1) (.slice A1 l1.length c1) (.int .i64 0) (.slice none 0 0)
    generalize hW0 : ((w.alloc (.cells #[.int .i64 v1, .slice A1 l1.length c1] 24 (0, 0))).alloc (.cells #[.int .i64 0, .slice none 0 0] 24 (0, 0))) = W0 at T0 ⊢
    clear hW0
    (with_reducible refine (HF1.out _ (Kd.C_below HR1.out T0.hB)).mono ?_)
    rintro e W1 ⟨rfl, hb⟩
    have T1 := T0.keep hb
    have HT := Aside0.mk T1
    have k0 := T1.g0
    have k1 := T1.g1
    have y0 := T1.y0
    have y1 := T1.y1
    clear T0 hb T1
    go_wp2_with fail
    refine bodyPost_ret (v := .tuple #[.agg #[.int .i64 0, .slice none 0 0], .int .i64 1]) (by simp [results, Tryd.results21, go_sem, k0, k1]) rfl ?_
    exact ⟨rfl, (HT.out.hB.setCell (p := ⟨w.heap.size + 1, 0, none⟩) (show w.heap.size ≤ w.heap.size + 1 by omega) _).setCell (p := ⟨w.heap.size + 1, 1, none⟩) (show w.heap.size ≤ w.heap.size + 1 by omega) _⟩
  | true =>
    rw [hf1, Bool.true_and] at hbad
    rw [hf1] at F1
    rw [hbad] at F2
    have HF1 := Aside0.mk F1
    have HF2 := Aside0.mk F2
    clear F1 F2 hr1 hr2 hc1 hc2 hn hs hn2 hf1 hbad
    go_enter Tryd.func21, Tryd.ntmps21
    go_wp2_with fail
    have T0 := uf w (.int .i64 v1) (.slice A1 l1.length c1) (.int .i64 0) (.slice none 0 0)
    generalize hW0 : ((w.alloc (.cells #[.int .i64 v1, .slice A1 l1.length c1] 24 (0, 0))).alloc (.cells #[.int .i64 0, .slice none 0 0] 24 (0, 0))) = W0 at T0 ⊢
    clear hW0
    (with_reducible refine (HF1.out _ (Kd.C_below HR1.out T0.hB)).mono ?_)
    rintro e W1 ⟨rfl, hb⟩
    have T1 := T0.keep hb
    have f0 := T1.f0
    clear T0 hb
    go_wp2_with fail
    (with_reducible refine (HF2.out _ (Kd.C_below HR2.out T1.hB)).mono ?_)
    rintro e W2 ⟨rfl, hd⟩
    have T2 := T1.keep hd.below
    have HT := Aside0.mk T2
    have k0 := T2.g0
    have k1 := T2.g1
    have y0 := T2.y0
    have y1 := T2.y1
    clear T1 hd T2 f0
    go_wp2_with fail
    refine bodyPost_ret (v := .tuple #[.agg #[.int .i64 0, .slice none 0 0], .int .i64 1]) (by simp [results, Tryd.results21, go_sem, k0, k1]) rfl ?_
    exact ⟨rfl, (HT.out.hB.setCell (p := ⟨w.heap.size + 1, 0, none⟩) (show w.heap.size ≤ w.heap.size + 1 by omega) _).setCell (p := ⟨w.heap.size + 1, 1, none⟩) (show w.heap.size ≤ w.heap.size + 1 by omega) _⟩
end Go.Proofs.YtggnnnddnppcpaaDoorHand
/-! text YtggnnnddnppcpaaDoorNameMath -/
namespace Go.Proofs.YtggnnnddnppcpaaDoorMath
open Go.Lib
set_option linter.unusedVariables false
set_option linter.unusedSimpArgs false
def valOf (l : List UInt8) : Nat := l.foldl (fun a b => a * 10 + (b.toNat - 48)) 0
theorem valOf_dec (u : Nat) : valOf (decDigits u) = u := by
  induction u using Nat.strongRecOn with
  | _ u ih =>
    by_cases h : u < 10
    · rw [decDigits, dif_pos h]
      have e : (UInt8.ofNat (48 + u)).toNat = 48 + u := by simp; omega
      simp only [valOf, List.foldl_cons, List.foldl_nil, e]
      omega
    · rw [decDigits, dif_neg h, valOf, List.foldl_append]
      have e : (UInt8.ofNat (48 + u % 10)).toNat = 48 + u % 10 := by simp; omega
      have := ih (u / 10) (by omega)
      unfold valOf at this
      simp only [List.foldl_cons, List.foldl_nil, e, this]
      omega
theorem decDigits_inj {u v : Nat} (h : decDigits u = decDigits v) : u = v := by rw [← valOf_dec u, h, valOf_dec]
theorem decDigits_mem (u : Nat) : ∀ b ∈ decDigits u, 48 ≤ b.toNat ∧ b.toNat ≤ 57 := by
  induction u using Nat.strongRecOn with
  | _ u ih =>
    intro b hb
    by_cases h : u < 10
    · rw [decDigits, dif_pos h, List.mem_singleton] at hb
      subst hb
      have e : (UInt8.ofNat (48 + u)).toNat = 48 + u := by simp; omega
      omega
    · rw [decDigits, dif_neg h, List.mem_append, List.mem_singleton] at hb
      rcases hb with hb | rfl
      · exact ih (u / 10) (by omega) b hb
      · have e : (UInt8.ofNat (48 + u % 10)).toNat = 48 + u % 10 := by simp; omega
        omega
theorem itoa_mem (n : Int) : ∀ b ∈ itoa n, b ≠ 32 := by
  intro b hb e
  subst e
  unfold itoa at hb
  split at hb
  · rcases List.mem_cons.1 hb with h | h
    · cases h
    · have := (decDigits_mem _ _ h).1
      exact absurd this (by decide)
  · have := (decDigits_mem _ _ hb).1
    exact absurd this (by decide)
theorem itoa_inj {a b : Int} (h : itoa a = itoa b) : a = b := by
  have h45 : ∀ u r, (45 : UInt8) :: r ≠ decDigits u := fun u r e => by
    have := (decDigits_mem u 45 (by rw [← e]; exact List.mem_cons_self)).1
    exact absurd this (by decide)
  unfold itoa at h
  split at h <;> split at h
  · injection h with _ h
    have := decDigits_inj h
    omega
  · exact absurd h (h45 _ _)
  · exact absurd h.symm (h45 _ _)
  · have := decDigits_inj h
    omega
def nameOf (c : List Int) : List UInt8 := c.flatMap fun l => itoa l ++ [32]
theorem split_blank {a b r s : List UInt8} (ha : ∀ x ∈ a, x ≠ 32) (hb : ∀ x ∈ b, x ≠ 32) (h : a ++ 32 :: r = b ++ 32 :: s) : a = b ∧ r = s := by
  induction a generalizing b with
  | nil =>
    cases b with
    | nil => injection h with _ h; exact ⟨rfl, h⟩
    | cons y b => injection h with h _; exact absurd h.symm (hb y List.mem_cons_self)
  | cons x a ih =>
    cases b with
    | nil => injection h with h _; exact absurd h (ha x List.mem_cons_self)
    | cons y b =>
      injection h with h1 h2
      obtain ⟨e1, e2⟩ := ih (fun z hz => ha z (List.mem_cons_of_mem _ hz)) (fun z hz => hb z (List.mem_cons_of_mem _ hz)) h2
      exact ⟨by rw [h1, e1], e2⟩
theorem nameOf_inj {c d : List Int} (h : nameOf c = nameOf d) : c = d := by
  have hc : ∀ (x : Int) (r : List Int), nameOf (x :: r) = itoa x ++ 32 :: nameOf r := fun x r => by simp [nameOf]
  induction c generalizing d with
  | nil =>
    cases d with
    | nil => rfl
    | cons y d => rw [hc] at h; exact absurd h (by simp [nameOf])
  | cons x c ih =>
    cases d with
    | nil => rw [hc] at h; exact absurd h (by simp [nameOf])
    | cons y d =>
      rw [hc, hc] at h
      obtain ⟨h1, h2⟩ := split_blank (itoa_mem x) (itoa_mem y) h
      rw [itoa_inj h1, ih h2]
theorem nameOf_snoc (c : List Int) (x : Int) : nameOf (c ++ [x]) = nameOf c ++ itoa x ++ [32] := by simp [nameOf]
theorem nameOf_length {c : List Int} (h : ∀ x ∈ c, -9223372036854775808 ≤ x ∧ x ≤ 9223372036854775807) : (nameOf c).length ≤ 22 * c.length := by
  induction c with
  | nil => simp [nameOf]
  | cons x c ih =>
    have h1 := itoa_length_le x (h x List.mem_cons_self).1 (h x List.mem_cons_self).2
    have h2 := ih fun y hy => h y (List.mem_cons_of_mem _ hy)
    have e : nameOf (x :: c) = itoa x ++ 32 :: nameOf c := by simp [nameOf]
    rw [e, List.length_append, List.length_cons, List.length_cons]
    omega
end Go.Proofs.YtggnnnddnppcpaaDoorMath
/-! text YtggnnnddnppcpaaDoorCnfName -/
namespace Go.Proofs.YtggnnnddnppcpaaDoorHand
open Go.RowKit Go.Proofs.YtggnnnddnppcpaaDoorW.PrintWords Go.Proofs.YtggnnnddnppcpaaDoorW.PrintLast Go.Proofs.YtggnnnddnppcpaaDoorMath
set_option linter.unusedVariables false
set_option linter.unusedSimpArgs false
/-- the table of the powers of ten reads as it was laid -/
abbrev Tab (w : World) : Prop := Lib.TabIs Tryd.prog w "internal/strconv.uint64pow10" .u64 Lib.pow10Tab
theorem Tab.on {w W : World} (h : Tab w) (hb : Below w.heap.size w W) : Tab W := Lib.tabBelow_of_tabIs h W hb
def bytesOf (l : List UInt8) : List Int := l.map fun b => (b.toNat : Int)
theorem bytesOf_cells (l : List UInt8) : Lib.byteCells l = nums .u8 (bytesOf l) := by simp [Lib.byteCells, nums, bytesOf]
theorem bytesOf_length (l : List UInt8) : (bytesOf l).length = l.length := by simp [bytesOf]
theorem bytesOf_append (l m : List UInt8) : bytesOf (l ++ m) = bytesOf l ++ bytesOf m := by simp [bytesOf]
theorem bytesOf_back (l : List UInt8) : strOfNums (bytesOf l) = ⟨l.toArray⟩ := by
  unfold strOfNums bytesOf
  rw [List.map_map]
  congr 2
  conv => rhs; rw [← List.map_id l]
  refine List.map_congr_left fun b _ => ?_
  simp
theorem own_slice3 {w : World} {base e sz : Nat} {v : Value} {n : Nat} {xs : List Value} (h : w.ownsRow base e sz v n xs) : ∃ A n c, v = .slice A n c := by
  rcases h.2 with ⟨rfl, _⟩ | ⟨g, cap, cur, rfl, _⟩
  · exact ⟨_, _, _, rfl⟩
  · exact ⟨_, _, _, rfl⟩
theorem infoB : (Tryd.prog.info? 5).map (fun i => (i.zero, i.size, i.bytes)) = some (some (.int .u8 0), 1, 1) := by kernel_rfl
/-- a string out of bytes of one's own -/
theorem conv_own {w : World} {base : Nat} {v : Value} {l : List UInt8} (h : w.ownsRow base 5 1 v l.length (Lib.byteCells l)) : (convert 67 9 v).run Tryd.prog w = .ok (.string ⟨l.toArray⟩) w := by
  obtain ⟨hl, h⟩ := h
  rcases h with ⟨rfl, h0⟩ | ⟨g, cap, cur, rfl, hg, hh, hc, hm, hsz, htk⟩
  · have : l = [] := List.length_eq_zero_iff.1 h0
    subst this
    exact run_convert_bytes_nil w 67 5 Tryd.underlying67 Tryd.underlying5 0 0 9 Tryd.underlying9
  · have := run_convert_bytes_arg (P := Tryd.prog) w 67 5 Tryd.underlying67 Tryd.underlying5 g 0 l.length cap (bytesOf l) (bytesOf_length l) (fun i hi => ?_) 9 Tryd.underlying9
    · rw [this, bytesOf_back]
    · have h1 : (Lib.byteCells l)[i]? = some (.int .u8 ((bytesOf l).getD i 0)) := by
        rw [bytesOf_cells, nums, List.getElem?_map, List.getD_eq_getElem?_getD, List.getElem?_eq_getElem (by rw [bytesOf_length]; exact hi)]
        rfl
      rw [← htk, Nat.mul_one, List.getElem?_take, if_pos hi] at h1
      rw [Nat.zero_add, blk_cell hh i]
      simpa using h1
set_option maxHeartbeats 4000000 in
set_option maxRecDepth 100000 in
theorem name_calls (A0 : Option Addr) (c0 : Nat) (l0 : List Int) (w : World) (hr0 : Kd.C (Kd.int .i64) w A0 l0.length l0) (hn : l0.length ≤ 4194304) (hb : ∀ y ∈ l0, -1048576 ≤ y ∧ y ≤ 1048576) (ht : Tab w) :
    Calls Tryd.prog 23 #[.slice A0 l0.length c0] w fun e w' => e = .returned (.string ⟨(nameOf l0).toArray⟩) ∧ Below w.heap.size w w' := by
  have HR0 := Aside0.mk hr0
  have HN := Aside0.mk hn
  have HBD := Aside0.mk hb
  have HT := Aside0.mk (Lib.tabBelow_of_tabIs ht)
  clear hn hr0 hb ht
  go_enter Tryd.func23, Tryd.ntmps23
  go_wp2
  go_loopw [3, 5, 8] (fun v3 _ v8 wr => ∃ (k : Nat) (x : Int) (A : Option Addr) (n c : Nat), v8 = .int .i64 x ∧ v3 = .slice A n c ∧ Aside0 (x = k ∧ k ≤ l0.length) ∧ Aside0 (wr.ownsRow w.heap.size 5 1 (.slice A n c) (nameOf (l0.take k)).length (Lib.byteCells (nameOf (l0.take k)))) ∧ Aside0 (Below w.heap.size w wr)) (fun _ _ i _ => l0.length - (intOf i).toNat)
  case atStart => exact ⟨0, 0, none, 0, 0, rfl, rfl, ⟨rfl, Nat.zero_le _⟩, ⟨by simpa [nameOf, Lib.byteCells] using World.ownsRow_nil _ _ _ _⟩, ⟨Below.refl _ _⟩⟩
  case round =>
    obtain ⟨k, x, A, n, c, rfl, rfl, HX, HO, HB⟩ := hrel
    obtain ⟨hxk, hk⟩ := HX.out
    by_cases hlt : k < l0.length
    · have p1 : 0 ≤ x := by omega
      have q1 : x < (l0.length : Int) := by omega
      obtain ⟨ad, e1, hcell⟩ := Kd.at_int (Kd.C_below HR0.out HB.out) x p1 q1
      subst e1
      have p2 := eq_true p1
      have q2 := eq_true q1
      have q3 : decide (x < (l0.length : Int)) = true := decide_eq_true q1
      have HX2 : Aside0 (wrap64 (x + 1) = ((k + 1 : Nat) : Int) ∧ k + 1 ≤ l0.length) := by
        have := HN.out
        exact ⟨by rw [w64 (by omega) (by omega)]; omega, by omega⟩
      have hm : (intOf (.int .i64 (wrap64 (x + 1)))).toNat = k + 1 := by rw [HX2.out.1]; simp [intOf]
      have hm0 : (intOf (.int .i64 x)).toNat = k := by rw [hxk]; simp [intOf]
      have HMS : Aside0 (l0.length - (intOf (.int .i64 (wrap64 (x + 1)))).toNat < l0.length - (intOf (.int .i64 x)).toNat) := ⟨by rw [hm, hm0]; omega⟩
      have hrd : rd l0 x = rd l0 (k : Int) := by rw [hxk]
      rw [hrd] at hcell
      have hyb := HBD.out _ (rd_mem hlt)
      have HTK : Aside0 (nameOf (l0.take (k + 1)) = nameOf (l0.take k) ++ Lib.itoa (rd l0 (k : Int)) ++ [32]) := ⟨by rw [take_rd hlt, nameOf_snoc]⟩
      have HNL : Aside0 ((nameOf (l0.take k)).length ≤ 92274688 ∧ (Lib.itoa (rd l0 (k : Int))).length ≤ 21) := by
        refine ⟨?_, Lib.itoa_length_le _ (by omega) (by omega)⟩
        have h1 := nameOf_length (c := l0.take k) fun y hy => by have := HBD.out y (List.mem_of_mem_take hy); omega
        rw [List.length_take] at h1
        have := HN.out
        omega
      obtain ⟨y, hy⟩ : ∃ y, y = rd l0 (k : Int) := ⟨_, rfl⟩
      rw [← hy] at hcell hyb HTK HNL
      have HYB := Aside0.mk hyb
      clear hm hm0 hxk hk hlt p1 q1 hrd hy HX hyb
      generalize nameOf (l0.take k) = nm at *
      go_wp2_with (first
        | (go_at_call 45; (with_reducible refine (Tryd.strconv_AppendInt_10 w.heap.size nm.length y (by have := HYB.out; omega) (by have := HYB.out; omega) (.slice A n c) (Lib.byteCells nm) wr HO.out HB.out.size (by have := HNL.out; omega) (HT.out.on HB.out)).mono ?_); rintro e w5 ⟨v5, rfl, ho5, hb5, hk5⟩; have HB5 := Aside0.mk (HB.out.trans hb5); have HO5 := Aside0.mk (show w5.ownsRow w.heap.size 5 1 v5 (bytesOf (nm ++ Lib.itoa y)).length (nums .u8 (bytesOf (nm ++ Lib.itoa y))) by rw [bytesOf_length, ← bytesOf_cells, List.length_append, Lib.byteCells_append]; exact ho5); clear ho5 hb5 hk5)
        | ((with_reducible refine gate_builtin (b := .append) (xs := #[.tmp 15, .tmp 16]) rfl ?_); at_builtin; go_loud (refine print_append_num (w0 := w) w.heap.size rfl (.tmp 15) (.tmp 16) 67 5 .u8 1 rfl Tryd.underlying67 infoB (by decide) _ (bytesOf (nm ++ Lib.itoa y)) 32 rfl rfl ?aO ?aB ?aS ?aL ?_; (case aO => exact HO5.out); (case aB => exact HB5.out); (case aS => exact HB5.out.size); (case aL => have := HNL.out; rw [bytesOf_length, List.length_append]; omega); intro v1 w1 ho hb hg hat; have HO1 := Aside0.mk ho; have HB1 := Aside0.mk hb; clear ho hb hg hat)))
      go_roundw
      case measure => exact HMS.out
      case rel =>
        obtain ⟨A1, n1, c1, e1⟩ := own_slice3 HO1.out
        refine ⟨k + 1, _, A1, n1, c1, rfl, e1, HX2, ⟨?_⟩, ⟨HB1.out⟩⟩
        subst e1
        have ho := HO1.out
        rw [HTK.out, bytesOf_cells, bytesOf_append (nm ++ Lib.itoa y) [32]]
        have e2 : (nm ++ Lib.itoa y ++ [32]).length = (bytesOf (nm ++ Lib.itoa y) ++ [32]).length := by simp [bytesOf]
        rw [e2]
        exact ho
    · obtain rfl : k = l0.length := by omega
      have q3 : decide (x < (l0.length : Int)) = false := decide_eq_false (by omega)
      have ho := HO.out
      rw [List.take_length] at ho
      have CV := conv_own ho
      clear HO hxk hk hlt HX ho
      go_wp2
      go_ret
      exact ⟨rfl, HB.out⟩
end Go.Proofs.YtggnnnddnppcpaaDoorHand
/-! text YtggnnnddnppcpaaDoorCnfTidied -/
namespace Go.Proofs.YtggnnnddnppcpaaDoorMath
open Go.Proofs.YtggnnnddnppcpaaDoorMaps
set_option linter.unusedVariables false
set_option linter.unusedSimpArgs false
/-- the clauses tidied, those that say nothing and those met before left out; P: the tidied ones met before -/
def tidyGo : List (List Int) → List (List Int) → List (List Int)
  | _, [] => []
  | P, c :: r => (if tidyOf c ∈ P ∨ tautIn (tidyOf c) = true then [] else [tidyOf c]) ++ tidyGo (P ++ [tidyOf c]) r
def tidyAll (cs : List (List Int)) : List (List Int) := tidyGo [] cs
theorem tidyGo_append (a b : List (List Int)) : ∀ P, tidyGo P (a ++ b) = tidyGo P a ++ tidyGo (P ++ a.map tidyOf) b := by
  induction a with
  | nil => intro P; simp [tidyGo]
  | cons c r ih => intro P; simp only [List.cons_append, List.nil_append, tidyGo, ih, List.append_assoc, List.map_cons, List.singleton_append]
theorem tidyAll_snoc (cs : List (List Int)) (c : List Int) : tidyAll (cs ++ [c]) = tidyAll cs ++ (if tidyOf c ∈ cs.map tidyOf ∨ tautIn (tidyOf c) = true then [] else [tidyOf c]) := by
  rw [tidyAll, tidyGo_append, tidyAll]
  simp [tidyGo]
theorem tidyAll_take {cs : List (List Int)} {k : Nat} (hk : k < cs.length) : tidyAll (cs.take (k + 1)) = tidyAll (cs.take k) ++ (if tidyOf (cs.getD k []) ∈ (cs.take k).map tidyOf ∨ tautIn (tidyOf (cs.getD k [])) = true then [] else [tidyOf (cs.getD k [])]) := by
  have e : cs.take (k + 1) = cs.take k ++ [cs.getD k []] := by
    rw [List.take_add_one, List.getElem?_eq_getElem hk, List.getD_eq_getElem?_getD, List.getElem?_eq_getElem hk]; rfl
  rw [e, tidyAll_snoc]
theorem tidyGo_length (cs : List (List Int)) : ∀ P, (tidyGo P cs).length ≤ cs.length := by
  induction cs with
  | nil => intro P; exact Nat.le_refl _
  | cons c r ih =>
    intro P
    have := ih (P ++ [tidyOf c])
    simp only [tidyGo, List.length_append, List.length_cons]
    split <;> simp <;> omega
theorem tidyAll_length (cs : List (List Int)) : (tidyAll cs).length ≤ cs.length := tidyGo_length cs []
theorem tidyGo_mem {cs : List (List Int)} : ∀ {P} {t : List Int}, t ∈ tidyGo P cs → ∃ c ∈ cs, t = tidyOf c ∧ tautIn t = false := by
  induction cs with
  | nil => intro P t h; simp [tidyGo] at h
  | cons c r ih =>
    intro P t h
    simp only [tidyGo, List.mem_append] at h
    rcases h with h | h
    · split at h
      · cases h
      · rename_i h1
        rw [List.mem_singleton] at h
        exact ⟨c, List.mem_cons_self, h, by rw [h]; cases hh : tautIn (tidyOf c) with | false => rfl | true => exact absurd (.inr hh) h1⟩
    · obtain ⟨d, h1, h2⟩ := ih h
      exact ⟨d, List.mem_cons_of_mem _ h1, h2⟩
theorem tidyAll_mem {cs : List (List Int)} {t : List Int} (h : t ∈ tidyAll cs) : ∃ c ∈ cs, t = tidyOf c ∧ tautIn t = false := tidyGo_mem h
/-- each clause that says something is there -/
theorem tidyGo_has {cs : List (List Int)} : ∀ {P} {c : List Int}, c ∈ cs → tautIn (tidyOf c) = false → tidyOf c ∈ P ∨ tidyOf c ∈ tidyGo P cs := by
  induction cs with
  | nil => intro P c h; cases h
  | cons d r ih =>
    intro P c h ht
    simp only [tidyGo, List.mem_append]
    rcases List.mem_cons.1 h with rfl | h
    · by_cases hp : tidyOf c ∈ P
      · exact .inl hp
      · right; left
        rw [if_neg (by rintro (h1 | h1); exact hp h1; rw [ht] at h1; cases h1)]
        exact List.mem_singleton.2 rfl
    · rcases ih (P := P ++ [tidyOf d]) h ht with h1 | h1
      · rcases List.mem_append.1 h1 with h1 | h1
        · exact .inl h1
        · rw [List.mem_singleton] at h1
          by_cases hp : tidyOf d ∈ P
          · exact .inl (by rw [h1]; exact hp)
          · right; left
            rw [if_neg (by rintro (h2 | h2); exact hp h2; rw [← h1, ht] at h2; cases h2), h1]
            exact List.mem_singleton.2 rfl
      · exact .inr (.inr h1)
theorem tidyAll_has {cs : List (List Int)} {c : List Int} (h : c ∈ cs) (ht : tautIn (tidyOf c) = false) : tidyOf c ∈ tidyAll cs := (tidyGo_has h ht).elim (fun h => by cases h) id
def tidiedOf (v : Int) (cs : List (List Int)) : Int × List (List Int) × Int := if isFormula v cs = true then (v, tidyAll cs, 0) else (0, [], 1)
/-- a map counts names -/
def NTally (f : List UInt8 → Option Int) (K : List (List Int)) : Prop := ∀ c, (f (nameOf c)).getD 0 = ((K.count c : Nat) : Int)
theorem ntally_snoc {f : List UInt8 → Option Int} {K : List (List Int)} (h : NTally f K) (c : List Int) : NTally (upd f (nameOf c) (((K.count c : Nat) : Int) + 1)) (K ++ [c]) := by
  intro d
  by_cases e : d = c
  · subst e
    rw [upd_same, List.count_append, List.count_singleton_self]
    simp
  · rw [upd_other _ _ (fun e2 => e (nameOf_inj e2)), h d, List.count_append, List.count_singleton]
    simp [show (c == d) = false from beq_eq_false_iff_ne.2 fun e2 => e e2.symm]
theorem tidyOf_small (c : List Int) : (tidyOf c).length ≤ 2097152 := formed_count (tidyOf c) (rising_tidyOf c) (fun _ h => tidyOf_formed h)
end Go.Proofs.YtggnnnddnppcpaaDoorMath
