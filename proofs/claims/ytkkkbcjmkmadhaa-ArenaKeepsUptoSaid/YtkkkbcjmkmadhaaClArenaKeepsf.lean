/- Tidy lists, told plainly: rising by place, each literal once. -/
import Derived.Test.YtkkkbcjmkmadhaaClArenaKeepse
import Derived.Lib.SlicesCompact
import Derived.Sort.Statements
import Derived.Test.YtkkkbcjmkmadhaaProg
import Derived.Test.YtkkkbcjmkmadhaaWLast
import Derived.Test.YtkkkbcjmkmadhaaWTab
import Derived.Test.YtkkkbcjmkmadhaaWFour
import Derived.Test.YtkkkbcjmkmadhaaWQPut
import Derived.Test.YtkkkbcjmkmadhaaWApart
import Derived.Test.YtkkkbcjmkmadhaaWArr
import Derived.Test.YtkkkbcjmkmadhaaWZeros
import Derived.Test.YtkkkbcjmkmadhaaWFoot
import Derived.Test.YtkkkbcjmkmadhaaWKept
import Derived.Test.YtkkkbcjmkmadhaaWShare
import Derived.Test.YtkkkbcjmkmadhaaWN
import Derived.Test.YtkkkbcjmkmadhaaWFootNe
import Derived.Test.YtkkkbcjmkmadhaaWAt
import Derived.Test.YtkkkbcjmkmadhaaWMore
import Derived.Test.YtkkkbcjmkmadhaaClArenaKeepsd
import Derived.Test.YtkkkbcjmkmadhaaWRepsOne
import Derived.Shelf.Small.Bits
import Derived.Shelf.Strconv.Itoa0
import Derived.Shelf.Slices.Equal
import Derived.Ground.Names2Prog
import Derived.Shelf.Slices.CompactI
import Derived.Shelf.Slices.Empties2
import Derived.Ground.SlgnProg
import Derived.Shelf.SlicesE.Equal
import Derived.Shelf.SlicesE.Compact
import Derived.Ground.SlgfProg
import Derived.Shelf.SlicesE.IndexFunc
import Derived.Shelf.SlicesE.DeleteFunc
import Derived.Ground.SlsfProg
import Derived.Shelf.SlSortCmp.Insertion
import Derived.Shelf.SlSortCmp.SiftDown1
import Derived.Shelf.SlSortCmp.HeapSort1
import Derived.Shelf.SlSortCmp.Insertion1
import Derived.Shelf.SlSortCmp.Median1
import Derived.Shelf.SlSortCmp.Pivot1
import Derived.Shelf.SlSortCmp.ReverseRange1
import Derived.Shelf.SlSortCmp.PartialInsertion1
import Derived.Shelf.SlSortCmp.PartitionEqual1
import Derived.Shelf.SlSortCmp.Partition1
import Derived.Shelf.SlSortCmp.Pdq1
import Derived.Shelf.SlSortCmp.Whole1
import Derived.Shelf.Spec.SlicesGrow
import Derived.Ground.Names8Prog
/-! text YtkkkbcjmkmadhaaTidyMath -/
namespace Go.Proofs.YtkkkbcjmkmadhaaMath
open Go.RowKit Go.Proofs.YtkkkbcjmkmadhaaW.PrintWords
set_option linter.unusedVariables false
set_option linter.unusedSimpArgs false

theorem idx_formed {l : Int} (h : formed l = true) : 0 ≤ idxOf l ∧ idxOf l < 2097152 ∧ ((l < 0 ∧ idxOf l = -2 * l - 1) ∨ (0 < l ∧ idxOf l = 2 * l - 2)) := by
  have hb := formed_iff.1 h
  unfold idxOf
  rw [if_pos h]
  split <;> omega
theorem idx_none {l : Int} (h : formed l = false) : idxOf l = -1 := by
  unfold idxOf
  rw [h]
  rfl
theorem idx_bound (l : Int) : -1 ≤ idxOf l ∧ idxOf l < 2097152 := by
  cases h : formed l with
  | true => have := idx_formed h; omega
  | false => rw [idx_none h]; omega
theorem idx_inj {a b : Int} (ha : formed a = true) (hb : formed b = true) (h : idxOf a = idxOf b) : a = b := by
  have h1 := idx_formed ha
  have h2 := idx_formed hb
  omega
theorem idx_neg {a b : Int} (ha : formed a = true) (hb : formed b = true) : a = -b ↔ (idxOf a / 2 = idxOf b / 2 ∧ idxOf a ≠ idxOf b) := by
  have h1 := idx_formed ha
  have h2 := idx_formed hb
  omega

/-- rising by place -/
def Rising (t : List Int) : Prop := t.Pairwise fun a b => idxOf a < idxOf b
def ins (x : Int) : List Int → List Int
  | [] => [x]
  | y :: t => if idxOf x < idxOf y then x :: y :: t else if x = y then y :: t else y :: ins x t
def tidyOf : List Int → List Int
  | [] => []
  | x :: c => if formed x = true then ins x (tidyOf c) else tidyOf c

theorem mem_ins (x y : Int) (t : List Int) : y ∈ ins x t ↔ y = x ∨ y ∈ t := by
  induction t with
  | nil => simp [ins]
  | cons z t ih =>
    simp only [ins]
    split
    · simp
    · split
      · rename_i h
        subst h
        simp
      · simp only [List.mem_cons, ih]
        constructor
        · rintro (h | h | h) <;> simp [h]
        · rintro (h | h | h) <;> simp [h]
theorem mem_tidyOf (y : Int) (c : List Int) : y ∈ tidyOf c ↔ y ∈ c ∧ formed y = true := by
  induction c with
  | nil => simp [tidyOf]
  | cons x c ih =>
    simp only [tidyOf]
    by_cases hx : formed x = true
    · rw [if_pos hx, mem_ins, ih, List.mem_cons]
      constructor
      · rintro (rfl | ⟨h1, h2⟩)
        · exact ⟨.inl rfl, hx⟩
        · exact ⟨.inr h1, h2⟩
      · rintro ⟨rfl | h1, h2⟩
        · exact .inl rfl
        · exact .inr ⟨h1, h2⟩
    · rw [if_neg hx, ih, List.mem_cons]
      constructor
      · rintro ⟨h1, h2⟩
        exact ⟨.inr h1, h2⟩
      · rintro ⟨rfl | h1, h2⟩
        · exact absurd h2 hx
        · exact ⟨h1, h2⟩
theorem tidyOf_formed {c : List Int} {y : Int} (h : y ∈ tidyOf c) : formed y = true := ((mem_tidyOf y c).1 h).2
theorem rising_ins {x : Int} (hx : formed x = true) : ∀ {t : List Int}, (∀ y ∈ t, formed y = true) → Rising t → Rising (ins x t)
  | [], _, _ => by simp [ins, Rising]
  | y :: t, hf, hr => by
    have hr' := List.pairwise_cons.1 hr
    simp only [ins]
    split
    · rename_i h
      refine List.pairwise_cons.2 ⟨?_, hr⟩
      intro z hz
      rcases List.mem_cons.1 hz with rfl | hz
      · exact h
      · have := hr'.1 z hz
        omega
    · split
      · exact hr
      · rename_i h1 h2
        refine List.pairwise_cons.2 ⟨?_, rising_ins hx (fun z hz => hf z (List.mem_cons_of_mem _ hz)) hr'.2⟩
        intro z hz
        rcases (mem_ins x z t).1 hz with rfl | hz
        · have h3 : idxOf z ≠ idxOf y := fun e => h2 (idx_inj hx (hf y List.mem_cons_self) e)
          omega
        · exact hr'.1 z hz
theorem rising_tidyOf (c : List Int) : Rising (tidyOf c) := by
  induction c with
  | nil => simp [tidyOf, Rising]
  | cons x c ih =>
    simp only [tidyOf]
    by_cases hx : formed x = true
    · rw [if_pos hx]
      exact rising_ins hx (fun y hy => tidyOf_formed hy) ih
    · rw [if_neg hx]
      exact ih
/-- Rising lists that hold the same are one. -/
theorem rising_ext : ∀ {s t : List Int}, Rising s → Rising t → (∀ x, x ∈ s ↔ x ∈ t) → s = t
  | [], [], _, _, _ => rfl
  | [], y :: t, _, _, h => absurd ((h y).2 List.mem_cons_self) (by simp)
  | x :: s, [], _, _, h => absurd ((h x).1 List.mem_cons_self) (by simp)
  | x :: s, y :: t, hs, ht, h => by
    have hs' := List.pairwise_cons.1 hs
    have ht' := List.pairwise_cons.1 ht
    have e : x = y := by
      rcases List.mem_cons.1 ((h x).1 List.mem_cons_self) with e | hx
      · exact e
      · rcases List.mem_cons.1 ((h y).2 List.mem_cons_self) with e | hy
        · exact e.symm
        · have h1 := hs'.1 y hy
          have h2 := ht'.1 x hx
          omega
    subst e
    congr 1
    refine rising_ext hs'.2 ht'.2 fun z => ?_
    constructor
    · intro hz
      rcases List.mem_cons.1 ((h z).1 (List.mem_cons_of_mem _ hz)) with rfl | hz'
      · have := hs'.1 z hz
        omega
      · exact hz'
    · intro hz
      rcases List.mem_cons.1 ((h z).2 (List.mem_cons_of_mem _ hz)) with rfl | hz'
      · have := ht'.1 z hz
        omega
      · exact hz'
theorem tidyOf_eq {c t : List Int} (hr : Rising t) (hm : ∀ x, x ∈ t ↔ x ∈ c ∧ formed x = true) : tidyOf c = t :=
  rising_ext (rising_tidyOf c) hr fun x => by rw [mem_tidyOf, hm]
theorem rising_nodup {t : List Int} (h : Rising t) : t.Nodup := by
  refine List.Pairwise.imp ?_ h
  intro a b h e
  subst e
  omega
theorem ins_length (x : Int) (t : List Int) : (ins x t).length ≤ t.length + 1 := by
  induction t with
  | nil => simp [ins]
  | cons y t ih =>
    simp only [ins]
    split
    · simp
    · split
      · simp
      · simp only [List.length_cons]; omega
theorem tidyOf_length (c : List Int) : (tidyOf c).length ≤ c.length := by
  induction c with
  | nil => simp [tidyOf]
  | cons x c ih =>
    simp only [tidyOf]
    have := ins_length x (tidyOf c)
    split <;> simp only [List.length_cons] <;> omega

/-! what a sort by place and slices.Compact leave -/
def byIdx (a b : Int) : Int := idxOf a - idxOf b
theorem compact_tidy (c : List Int) (d : Array Int) (hp : d.toList.Perm (c.filter formed)) (hs : ∀ i j, i < j → j < d.size → idxOf d[i]! ≤ idxOf d[j]!) : Go.Lib.compact d.toList = tidyOf c := by
  have hf : ∀ i, i < d.size → formed d[i]! = true := fun i hi => by
    have h1 : d[i]! ∈ d.toList := by
      rw [getElem!_pos d i hi]
      exact Array.getElem_mem_toList hi
    have := hp.subset h1
    exact (List.mem_filter.1 this).2
  have key : ∀ m, m ≤ d.size → Rising (Go.Lib.compactUpTo d m) ∧ (∀ x, x ∈ Go.Lib.compactUpTo d m ↔ ∃ i, i < m ∧ d[i]! = x) := by
    intro m
    induction m with
    | zero =>
      intro _
      exact ⟨by simp [Go.Lib.compactUpTo, Rising], by simp [Go.Lib.compactUpTo]⟩
    | succ m ih =>
      intro hm
      obtain ⟨h1, h2⟩ := ih (by omega)
      rw [Go.Lib.compactUpTo_succ]
      cases hk : Go.Lib.keeps d m with
      | true =>
        simp only [if_true]
        refine ⟨List.pairwise_append.2 ⟨h1, by simp, ?_⟩, ?_⟩
        · intro a ha b hb
          rw [List.mem_singleton] at hb
          subst hb
          obtain ⟨i, hi, rfl⟩ := (h2 a).1 ha
          have h3 := hs i m hi (by omega)
          have h4 : idxOf d[i]! ≠ idxOf d[m]! := by
            intro e
            have hne : m ≠ 0 := by omega
            have h5 : d[m]! ≠ d[m - 1]! := by simpa [Go.Lib.keeps, hne] using hk
            apply h5
            have h6 : idxOf d[i]! ≤ idxOf d[m - 1]! := by
              rcases Nat.lt_or_ge i (m - 1) with h | h
              · exact hs i (m - 1) h (by omega)
              · rw [show i = m - 1 by omega]
                exact Int.le_refl _
            have h7 := hs (m - 1) m (by omega) (by omega)
            exact idx_inj (hf m (by omega)) (hf (m - 1) (by omega)) (by omega)
          omega
        · intro x
          rw [List.mem_append, h2, List.mem_singleton]
          constructor
          · rintro (⟨i, hi, rfl⟩ | rfl)
            · exact ⟨i, by omega, rfl⟩
            · exact ⟨m, by omega, rfl⟩
          · rintro ⟨i, hi, rfl⟩
            rcases Nat.lt_or_ge i m with h | h
            · exact .inl ⟨i, h, rfl⟩
            · rw [show i = m by omega]
              exact .inr rfl
      | false =>
        simp only [Bool.false_eq_true, if_false, List.append_nil]
        refine ⟨h1, ?_⟩
        intro x
        rw [h2]
        constructor
        · rintro ⟨i, hi, rfl⟩
          exact ⟨i, by omega, rfl⟩
        · rintro ⟨i, hi, rfl⟩
          rcases Nat.lt_or_ge i m with h | h
          · exact ⟨i, h, rfl⟩
          · obtain rfl : i = m := by omega
            have hne : i ≠ 0 := by
              rintro rfl
              simp [Go.Lib.keeps] at hk
            have h5 : d[i]! = d[i - 1]! := by simpa [Go.Lib.keeps, hne] using hk
            exact ⟨i - 1, by omega, h5.symm⟩
  obtain ⟨h1, h2⟩ := key d.size (Nat.le_refl _)
  have e : Go.Lib.compact d.toList = Go.Lib.compactUpTo d d.size := by simp [Go.Lib.compact]
  rw [e]
  symm
  refine tidyOf_eq h1 fun x => ?_
  rw [h2]
  have h3 : (x ∈ d.toList) ↔ (x ∈ c ∧ formed x = true) := by rw [hp.mem_iff, List.mem_filter]
  rw [← h3]
  constructor
  · rintro ⟨i, hi, rfl⟩
    rw [getElem!_pos d i hi]
    exact Array.getElem_mem_toList hi
  · intro hx
    obtain ⟨i, hi, rfl⟩ := List.getElem_of_mem hx
    have hi' : i < d.size := by simpa using hi
    refine ⟨i, hi', ?_⟩
    rw [getElem!_pos d i hi']
    simp

end Go.Proofs.YtkkkbcjmkmadhaaMath
/-! text YtkkkbcjmkmadhaaLitsFormed -/
namespace Go.Proofs.YtkkkbcjmkmadhaaHand
open Go.RowKit Go.Proofs.YtkkkbcjmkmadhaaW.PrintWords Go.Proofs.YtkkkbcjmkmadhaaW.PrintLast Go.Proofs.YtkkkbcjmkmadhaaMath
set_option linter.unusedVariables false
set_option linter.unusedSimpArgs false

theorem formed_calls (l : Int) (b : Bool) (w : World) (h : formed l = b) : Calls Try.prog 62 #[.int .i64 l] w fun e w' => e = .returned (.bool b) ∧ Drawn0 w w' := by
  by_cases h0 : l = 0
  · have a1 : (l != 0) = false := by simp [h0]
    obtain rfl : b = false := by rw [← h]; unfold formed; simp [h0]
    clear h h0
    go_enter Try.func62, Try.ntmps62
    go_wp2
    go_ret
    exact ⟨rfl, by repeat (first | exact Drawn0.refl _ | apply Drawn0.step)⟩
  · have a1 : (l != 0) = true := by simp [h0]
    by_cases h1 : -1048576 ≤ l
    · have a2 : decide (-1048576 ≤ l) = true := decide_eq_true h1
      have a3 : decide (l ≤ 1048576) = b := by rw [← h]; unfold formed; rw [Bool.eq_iff_iff]; simp; omega
      clear h h0 h1
      go_enter Try.func62, Try.ntmps62
      go_wp2
      go_ret
      exact ⟨rfl, by repeat (first | exact Drawn0.refl _ | apply Drawn0.step)⟩
    · have a2 : decide (-1048576 ≤ l) = false := decide_eq_false h1
      obtain rfl : b = false := by rw [← h]; unfold formed; simp; omega
      clear h h0 h1
      go_enter Try.func62, Try.ntmps62
      go_wp2
      go_ret
      exact ⟨rfl, by repeat (first | exact Drawn0.refl _ | apply Drawn0.step)⟩

end Go.Proofs.YtkkkbcjmkmadhaaHand
/-! text YtkkkbcjmkmadhaaLitsSound -/
namespace Go.Proofs.YtkkkbcjmkmadhaaHand
open Go.RowKit Go.Proofs.YtkkkbcjmkmadhaaW.PrintWords Go.Proofs.YtkkkbcjmkmadhaaW.PrintLast Go.Proofs.YtkkkbcjmkmadhaaMath
set_option linter.unusedVariables false
set_option linter.unusedSimpArgs false

theorem sound_calls (A0 : Option Addr) (c0 : Nat) (l0 : List Int) (w : World) (hr0 : Kd.C (Kd.int .i64) w A0 l0.length l0) (hn : l0.length ≤ 17592186044416) :
    Calls Try.prog 55 #[.slice A0 l0.length c0] w fun e w' => e = .returned (.bool (sound l0)) ∧ Drawn0 w w' := by
  have HR0 := Aside0.mk hr0
  have HN := Aside0.mk hn
  obtain ⟨r, hr⟩ : ∃ r, r = sound l0 := ⟨_, rfl⟩
  rw [← hr]
  have HR := Aside0.mk hr
  clear hr0 hn hr
  go_enter Try.func55, Try.ntmps55
  go_wp2
  go_loopw [7] (fun v7 wr => ∃ (k : Nat) (x : Int), v7 = .int .i64 x ∧ Aside0 (x = k ∧ k ≤ l0.length ∧ sound (l0.drop k) = r) ∧ Aside0 (Drawn0 w wr)) (fun i _ => l0.length - (intOf i).toNat)
  case atStart => exact ⟨0, 0, rfl, ⟨rfl, Nat.zero_le _, by rw [HR.out]; rfl⟩, ⟨by repeat (first | exact Drawn0.refl _ | apply Drawn0.step)⟩⟩
  case round =>
    obtain ⟨k, x, rfl, HX, HB⟩ := hrel
    obtain ⟨hxk, hk, hs⟩ := HX.out
    obtain ⟨m1, rfl⟩ := HB.out
    by_cases hlt : k < l0.length
    · have p1 : 0 ≤ x := by omega
      have q1 : x < (l0.length : Int) := by omega
      obtain ⟨ad, e1, hcell⟩ := Kd.at_int HR0.out x p1 q1
      subst e1
      have p2 := eq_true p1
      have q2 := eq_true q1
      have q3 : decide (x < (l0.length : Int)) = true := decide_eq_true q1
      rw [drop_rd hlt, ← hxk] at hs
      simp only [sound, List.all_cons] at hs
      have HX2 : Aside0 (wrap64 (x + 1) = ((k + 1 : Nat) : Int)) := by
        have := HN.out
        exact ⟨by rw [w64 (by omega) (by omega)]; omega⟩
      have hm : (intOf (.int .i64 (wrap64 (x + 1)))).toNat = k + 1 := by rw [HX2.out]; simp [intOf]
      have hm0 : (intOf (.int .i64 x)).toNat = k := by rw [hxk]; simp [intOf]
      have HM : Aside0 (l0.length - (intOf (.int .i64 (wrap64 (x + 1)))).toNat < l0.length - (intOf (.int .i64 x)).toNat) := ⟨by rw [hm, hm0]; omega⟩
      have HK : Aside0 (k + 1 ≤ l0.length) := ⟨hlt⟩
      cases hf : formed (rd l0 x) with
      | false =>
        have F := fun w => formed_calls (rd l0 x) false w hf
        rw [hf, Bool.false_and] at hs
        subst hs
        clear hf hm hm0 hxk hk hlt p1 q1 HX HR
        go_wp2_with (go_at_call 62; (with_reducible refine (F _).mono ?_); rintro e w' ⟨rfl, ⟨nd, rfl⟩⟩)
        go_ret
        exact ⟨rfl, by repeat (first | exact Drawn0.refl _ | exact ⟨_, rfl⟩ | apply Drawn0.step)⟩
      | true =>
        have F := fun w => formed_calls (rd l0 x) true w hf
        rw [hf, Bool.true_and] at hs
        have HS := Aside0.mk hs
        clear hf hm hm0 hxk hk hlt p1 q1 hs HX HR
        go_wp2_with (go_at_call 62; (with_reducible refine (F _).mono ?_); rintro e w' ⟨rfl, ⟨nd, rfl⟩⟩)
        go_roundw
        case measure => exact HM.out
        case rel => exact ⟨k + 1, _, rfl, ⟨HX2.out, HK.out, HS.out⟩, ⟨by repeat (first | exact Drawn0.refl _ | exact ⟨_, rfl⟩ | apply Drawn0.step)⟩⟩
    · obtain rfl : k = l0.length := by omega
      have q3 : decide (x < (l0.length : Int)) = false := decide_eq_false (by omega)
      rw [List.drop_of_length_le (Nat.le_refl _)] at hs
      obtain rfl : true = r := hs
      clear hxk hk hlt HX HR
      go_wp2
      go_ret
      exact ⟨rfl, by repeat (first | exact Drawn0.refl _ | exact ⟨_, rfl⟩ | apply Drawn0.step)⟩
end Go.Proofs.YtkkkbcjmkmadhaaHand
/-! text YtkkkbcjmkmadhaaArenaNumbers -/
namespace Go.Proofs.YtkkkbcjmkmadhaaHand
open Go.RowKit Go.Proofs.YtkkkbcjmkmadhaaW.PrintWords Go.Proofs.YtkkkbcjmkmadhaaW.PrintLast Go.Proofs.YtkkkbcjmkmadhaaMath Go.Proofs.YtkkkbcjmkmadhaaMaps Go.Maps
set_option linter.unusedVariables false
set_option linter.unusedSimpArgs false

theorem keyR : Keyed Try.prog 34 := int_keyed Try.underlying34
theorem zeroM (w : World) : (zeroValue 96).run Try.prog w = .ok (.agg #[.bool false]) w := by kernel_rfl
theorem hkeyR {x : Int} (h : -9223372036854775808 ≤ x ∧ x ≤ 9223372036854775807) : keyOf Try.prog 34 (.int .i64 x) = some (intKeys.kl x) := keyOf_int_mk Try.underlying34 (WalkArith.wf_i64 h)
abbrev IMM (W : World) (B n : Nat) (f : Int → Option Bool) (c : Nat) : Prop := IM Try.prog 34 intKeys markElem W B n f c

set_option maxHeartbeats 4000000 in
set_option maxRecDepth 100000 in
theorem new_calls (w : World) : Calls Try.prog 19 #[] w fun e w' => e = .returned (.pointer (some ⟨w.heap.size + 1, 0, none⟩)) ∧ w' = (w.alloc (.map #[] 0)).alloc (.cells #[.slice none 0 0, .map (some w.heap.size), .slice none 0 0] 94) := by
  have hmm := @run_makeMap Try.prog
  go_enter Try.func19, Try.ntmps19
  go_wp2
  go_ret
  exact ⟨by simp, rfl⟩

set_option maxHeartbeats 4000000 in
set_option maxRecDepth 100000 in
theorem put_bad (p : Value) (A0 : Option Addr) (n c0 : Nat) (l0 : List Int) (b : Bool) (w : World) (hnl : l0.length = n) (hr0 : Kd.C (Kd.int .i64) w A0 l0.length l0) (hn : l0.length ≤ 17592186044416) (hs : sound l0 = false) :
    Calls Try.prog 20 #[p, .slice A0 n c0, .bool b] w fun e w' => e = .returned (.tuple #[.int .i64 0, .int .i64 1]) ∧ Drawn0 w w' := by
  subst hnl
  have S := sound_calls A0 c0 l0 w hr0 hn
  rw [hs] at S
  go_enter Try.func20, Try.ntmps20
  go_wp2_with (go_at_call 55; (with_reducible refine S.mono ?_); rintro e w' ⟨rfl, ⟨nd, rfl⟩⟩)
  go_ret2
  exact ⟨rfl, ⟨_, rfl⟩⟩

set_option maxHeartbeats 4000000 in
set_option maxRecDepth 100000 in
theorem drop_none (b B n c : Nat) (f : Int → Option Bool) (r : Int) (w : World) (hc : w.cell? ⟨b, 1, none⟩ = some (.map (some B))) (hm : IMM w B n f c) (hr : -9223372036854775808 ≤ r ∧ r ≤ 9223372036854775807) (hf : f r = none) :
    Calls Try.prog 21 #[.pointer (some ⟨b, 0, none⟩), .int .i64 r] w fun e w' => e = .returned (.int .i64 2) ∧ Below w.heap.size w w' := by
  have L : (Instr.lookup 92 (.map (some B)) (.int .i64 r) true).run Try.prog w = .ok (.tuple #[.agg #[.bool false], .bool false]) w := by
    have := hm.look_ok keyR Try.underlying92 (z := false) (zeroM _) trivial (hkeyR hr)
    rwa [hf] at this
  clear hm hr hf
  go_enter Try.func21, Try.ntmps21
  go_wp2
  go_ret
  exact ⟨rfl, by repeat (first | exact Below.refl _ _ | apply Below.setCell | apply below_alloc)⟩

set_option maxHeartbeats 4000000 in
set_option maxRecDepth 100000 in
theorem numbers_calls (w : World) : Calls Try.prog 6 #[] w fun e w' => e = .returned (.bool true) ∧ Below w.heap.size w w' := by
  have N := new_calls
  go_enter Try.func6, Try.ntmps6
  go_wp2_with fail
  (with_reducible refine (N _).mono ?_)
  rintro e w1 ⟨rfl, hw1⟩
  have hb1 : Below w.heap.size w w1 := by rw [hw1]; exact ((Below.refl _ _).alloc (Nat.le_refl _) _).alloc (by simp) _
  have hz1 : w1.heap.size = w.heap.size + 2 := by rw [hw1]; simp
  have hc1 : w1.cell? ⟨w.heap.size + 1, 1, none⟩ = some (.map (some w.heap.size)) := by rw [hw1]; simp [go_sem]
  have hm1 : IMM w1 w.heap.size 0 (fun _ => none) 0 := by rw [hw1]; exact (IM.made w).alloc _
  clear hw1
  have HB1 := Aside0.mk hb1
  have HZ1 := Aside0.mk hz1
  have HC1 := Aside0.mk hc1
  have HM1 := Aside0.mk hm1
  clear hb1 hz1 hc1 hm1
  obtain ⟨y2, hy2⟩ : ∃ y_ : List Int, y_ = ([0] : List Int) := ⟨_, rfl⟩
  go_wp2_with (first
    | ((with_reducible refine gate_dst (N := 10) rfl ?_); go_loud ((try (refine gate_guard (by rfl) ?_; dsimp only)); refine Kd.R_lit (Kd.int .i64) _ 3 ?hg (N := 10) ?hd (xs := ([0] : List Int)) (inner := [.int .i64 0]) (ok := fun _ => True) (okp := fun _ => True) ?hr ?hp (fun _ hk => hk) trivial (Below.refl _ _) (Nat.le_refl _) (by simp) ?_; (case hd => rfl); (case hg => rfl); (case hr => first | (go_simp; done) | (go_simp; rfl)); (case hp => exact Reps.one (show Kd.M (Kd.int .i64) _ _ _ 0 [.int .i64 0] from rfl) (Reps.none _ _)); intro v2 w2 ho2 hb2 hg_ hnew_; clear hg_ hnew_; have HO2 := Aside0.mk ho2; have HB2 := Aside0.mk hb2; clear ho2 hb2; obtain ⟨Ao2, co2, eo2⟩ := Kd.R_slice HO2.out; subst eo2))
    | (go_at_call 20; go_loud ((with_reducible refine (put_bad _ Ao2 1 co2 ([0] : List Int) false w2 rfl (Kd.R_reads' HO2.out).2.2 (by decide) (by decide)).mono ?_); rintro e w3 ⟨rfl, hd3⟩; have HB3 := Aside0.mk (below_step HB2.out hd3.below); have HC3 := Aside0.mk ((HB3.out.cell (p := ⟨w.heap.size + 1, 1, none⟩) (show w.heap.size + 1 < w1.heap.size by have := HZ1.out; omega)).trans HC1.out); have HM3 := Aside0.mk (IM.below HM1.out HB3.out)))
    | (go_at_call 21; go_loud ((with_reducible refine (drop_none (w.heap.size + 1) w.heap.size 0 0 (fun _ => none) 0 w3 ?hc ?hm (by omega) rfl).mono ?_); (case hc => exact HC3.out); (case hm => exact HM3.out); rintro e w4 ⟨rfl, hb4⟩; have HB4 := Aside0.mk hb4)))
  go_ret
  exact ⟨rfl, below_step HB1.out (below_step HB3.out HB4.out)⟩
end Go.Proofs.YtkkkbcjmkmadhaaHand
namespace Go.Proofs.Ytkkkbcjmkmadhaa.PArenaNumbers
open Go.RowKit
def depotlaw04_ArenaNumbers.f : Option Bool := some true
theorem depotlaw04_ArenaNumbers.calls (r : Bool) (w : World) (h : depotlaw04_ArenaNumbers.f = some r) :
    Calls Try.prog 6 #[] w fun e w' => e = .returned (.bool r) ∧ Below w.heap.size w w' := by
  obtain rfl := Option.some.inj h
  exact Go.Proofs.YtkkkbcjmkmadhaaHand.numbers_calls w
end Go.Proofs.Ytkkkbcjmkmadhaa.PArenaNumbers
/-! text YtkkkbcjmkmadhaaLitsBase -/
namespace Go.Proofs.YtkkkbcjmkmadhaaHand
open Go.RowKit Go.Proofs.YtkkkbcjmkmadhaaW.PrintWords Go.Proofs.YtkkkbcjmkmadhaaW.PrintLast Go.Proofs.YtkkkbcjmkmadhaaMath
set_option linter.unusedVariables false
set_option linter.unusedSimpArgs false

theorem index_calls (l r : Int) (w : World) (h : idxOf l = r) : Calls Try.prog 122 #[.int .i64 l] w fun e w' => e = .returned (.int .i64 r) ∧ Drawn0 w w' := by
  cases hf : formed l with
  | false =>
    have F := fun w => formed_calls l false w hf
    obtain rfl : r = -1 := by rw [← h, idx_none hf]
    clear h hf
    go_enter Try.func122, Try.ntmps122
    go_wp2_with (go_at_call 62; (with_reducible refine (F _).mono ?_); rintro e w' ⟨rfl, ⟨nd, rfl⟩⟩)
    go_ret
    exact ⟨rfl, by repeat (first | exact Drawn0.refl _ | apply Drawn0.step)⟩
  | true =>
    have F := fun w => formed_calls l true w hf
    obtain ⟨h1, h2, h3⟩ := idx_formed hf
    have hb := formed_bd hf
    by_cases hn : l < 0
    · have a1 : decide (l < 0) = true := decide_eq_true hn
      have e : wrap64 (wrap64 (2 * wrap64 (-l)) - 1) = r := by unfold wrap64; omega
      clear h hf h1 h2 h3 hb hn
      have E := Aside0.mk e
      clear e
      go_enter Try.func122, Try.ntmps122
      go_wp2_with (go_at_call 62; (with_reducible refine (F _).mono ?_); rintro e w' ⟨rfl, ⟨nd, rfl⟩⟩)
      go_ret
      exact ⟨by rw [← E.out]; rfl, by repeat (first | exact Drawn0.refl _ | apply Drawn0.step)⟩
    · have a1 : decide (l < 0) = false := decide_eq_false hn
      have e : wrap64 (wrap64 (2 * l) - 2) = r := by unfold wrap64; omega
      clear h hf h1 h2 h3 hb hn
      have E := Aside0.mk e
      clear e
      go_enter Try.func122, Try.ntmps122
      go_wp2_with (go_at_call 62; (with_reducible refine (F _).mono ?_); rintro e w' ⟨rfl, ⟨nd, rfl⟩⟩)
      go_ret
      exact ⟨by rw [← E.out]; rfl, by repeat (first | exact Drawn0.refl _ | apply Drawn0.step)⟩

theorem byIndex_calls (a b : Int) (w : World) : Calls Try.prog 114 #[.int .i64 a, .int .i64 b] w fun e w' => e = .returned (.int .i64 (byIdx a b)) ∧ Drawn0 w w' := by
  have X := fun w => index_calls a _ w rfl
  have Y := fun w => index_calls b _ w rfl
  have e : wrap64 (idxOf a - idxOf b) = byIdx a b := by
    have := idx_bound a
    have := idx_bound b
    unfold byIdx wrap64
    omega
  have E := Aside0.mk e
  clear e
  generalize byIdx a b = r at E ⊢
  generalize idxOf a = x at X E
  generalize idxOf b = y at Y E
  go_enter Try.func114, Try.ntmps114
  go_wp2_with fail
  (with_reducible refine (X _).mono ?_)
  rintro e w' ⟨rfl, ⟨nd, rfl⟩⟩
  go_wp2_with fail
  (with_reducible refine (Y _).mono ?_)
  rintro e w' ⟨rfl, ⟨nd2, rfl⟩⟩
  go_wp2
  go_ret
  exact ⟨by rw [← E.out]; rfl, by repeat (first | exact Drawn0.refl _ | apply Drawn0.step)⟩

end Go.Proofs.YtkkkbcjmkmadhaaHand
/-! text YtkkkbcjmkmadhaaShelf -/
namespace Go.Proofs
open Go.Shelf
def Try.deleteF_ren : Go.Shelf.Ren := ⟨fun | 10 => 106 | 6 => 117 | n => n, fun | 22 => 27 | 23 => 3 | 25 => 106 | 3 => 3 | 4 => 4 | 0 => 0 | n => n, fun | n => n⟩
theorem Try.deleteF : Go.Proofs.SlLaysH.n10 Try.prog Try.deleteF_ren := {
  mixed := by kernel_rfl
  f6 := ⟨Try.f117.name, by decide, Try.func117.trans (congrArg some (by kernel_rfl))⟩
  f10 := ⟨Try.f106.name, by decide, Try.func106.trans (congrArg some (by kernel_rfl))⟩
  t0 := Try.underlying0
  a0 := Try.isAgg0
  z0 := Try.sizeOf0
  v0 := Try.zeroValue0
  t3 := Try.underlying3
  a3 := Try.isAgg3
  z3 := Try.sizeOf3
  v3 := Try.zeroValue3
  t4 := Try.underlying4
  a4 := Try.isAgg4
  z4 := Try.sizeOf4
  v4 := Try.zeroValue4
  t22 := Try.underlying27
  a22 := Try.isAgg27
  z22 := Try.sizeOf27
  v22 := Try.zeroValue27
  a23 := Try.isAgg3
  z23 := Try.sizeOf3
  t25 := Try.underlying106
  a25 := Try.isAgg106
  z25 := Try.sizeOf106
  v25 := Try.zeroValue106 }
def Try.growF_ren : Go.Shelf.Ren := ⟨fun | 4 => 118 | n => n, fun | 22 => 27 | 25 => 3 | 3 => 3 | 4 => 4 | 9 => 9 | 20 => 20 | 0 => 0 | n => n, fun | n => n⟩
theorem Try.growF : Go.Proofs.Lays8.n4 Try.prog Try.growF_ren := {
  mixed := by kernel_rfl
  f4 := ⟨Try.f118.name, by decide, Try.func118.trans (congrArg some (by kernel_rfl))⟩
  t0 := Try.underlying0
  a0 := Try.isAgg0
  z0 := Try.sizeOf0
  v0 := Try.zeroValue0
  t3 := Try.underlying3
  a3 := Try.isAgg3
  z3 := Try.sizeOf3
  v3 := Try.zeroValue3
  t4 := Try.underlying4
  a4 := Try.isAgg4
  z4 := Try.sizeOf4
  v4 := Try.zeroValue4
  t9 := Try.underlying9
  a9 := Try.isAgg9
  z9 := Try.sizeOf9
  v9 := Try.zeroValue9
  t20 := Try.underlying20
  a20 := Try.isAgg20
  z20 := Try.sizeOf20
  v20 := Try.zeroValue20
  t22 := Try.underlying27
  a22 := Try.isAgg27
  z22 := Try.sizeOf27
  v22 := Try.zeroValue27 }
def Try.laysNm220_ren : Go.Shelf.Ren := ⟨fun | 20 => 115 | n => n, fun | 22 => 27 | 3 => 3 | 4 => 4 | 0 => 0 | n => n, fun | n => n⟩
theorem Try.laysNm220 : Go.Proofs.Lays2.n20 Try.prog Try.laysNm220_ren := {
  mixed := by kernel_rfl
  f20 := Try.func115.trans (congrArg some (by kernel_rfl))
  t0 := Try.underlying0
  a0 := Try.isAgg0
  z0 := Try.sizeOf0
  v0 := Try.zeroValue0
  t3 := Try.underlying3
  a3 := Try.isAgg3
  z3 := Try.sizeOf3
  v3 := Try.zeroValue3
  t4 := Try.underlying4
  a4 := Try.isAgg4
  z4 := Try.sizeOf4
  v4 := Try.zeroValue4
  t22 := Try.underlying27
  a22 := Try.isAgg27
  z22 := Try.sizeOf27
  v22 := Try.zeroValue27
  i3 := by kernel_rfl }
def Try.laysSlF6_f113_ren : Go.Shelf.Ren := ⟨fun | 6 => 113 | 15 => 121 | 14 => 120 | 28 => 131 | 29 => 132 | 20 => 123 | 21 => 124 | 22 => 125 | 23 => 126 | 24 => 127 | 25 => 128 | 26 => 129 | 27 => 130 | 46 => 133 | 47 => 134 | 48 => 135 | 49 => 136 | 50 => 137 | 57 => 138 | n => n, fun | 22 => 27 | 24 => 3 | 25 => 98 | 3 => 3 | 39 => 151 | 0 => 0 | 53 => 160 | 55 => 162 | 4 => 4 | 46 => 154 | 45 => 153 | 50 => 121 | 5 => 5 | 9 => 9 | 66 => 163 | 70 => 167 | 76 => 169 | 77 => 143 | n => n, fun | n => n⟩
theorem Try.laysSlF6_f113 : Go.Proofs.SlLaysF.n6 Try.prog Try.laysSlF6_f113_ren := {
  mixed := by kernel_rfl
  f6 := ⟨Try.f113.name, by decide, Try.func113.trans (congrArg some (by kernel_rfl))⟩
  f14 := ⟨Try.f120.name, by decide, Try.func120.trans (congrArg some (by kernel_rfl))⟩
  f15 := Try.func121.trans (congrArg some (by kernel_rfl))
  f20 := ⟨Try.f123.name, by decide, Try.func123.trans (congrArg some (by kernel_rfl))⟩
  f21 := ⟨Try.f124.name, by decide, Try.func124.trans (congrArg some (by kernel_rfl))⟩
  f22 := ⟨Try.f125.name, by decide, Try.func125.trans (congrArg some (by kernel_rfl))⟩
  f23 := ⟨Try.f126.name, by decide, Try.func126.trans (congrArg some (by kernel_rfl))⟩
  f24 := ⟨Try.f127.name, by decide, Try.func127.trans (congrArg some (by kernel_rfl))⟩
  f25 := ⟨Try.f128.name, by decide, Try.func128.trans (congrArg some (by kernel_rfl))⟩
  f26 := ⟨Try.f129.name, by decide, Try.func129.trans (congrArg some (by kernel_rfl))⟩
  f27 := ⟨Try.f130.name, by decide, Try.func130.trans (congrArg some (by kernel_rfl))⟩
  f28 := Try.func131.trans (congrArg some (by kernel_rfl))
  f29 := Try.func132.trans (congrArg some (by kernel_rfl))
  f46 := ⟨Try.f133.name, by decide, Try.func133.trans (congrArg some (by kernel_rfl))⟩
  f47 := Try.func134.trans (congrArg some (by kernel_rfl))
  f48 := Try.func135.trans (congrArg some (by kernel_rfl))
  f49 := ⟨Try.f136.name, by decide, Try.func136.trans (congrArg some (by kernel_rfl))⟩
  f50 := ⟨Try.f137.name, by decide, Try.func137.trans (congrArg some (by kernel_rfl))⟩
  f57 := ⟨Try.f138.name, by decide, Try.func138.trans (congrArg some (by kernel_rfl))⟩
  t0 := Try.underlying0
  a0 := Try.isAgg0
  z0 := Try.sizeOf0
  v0 := Try.zeroValue0
  t3 := Try.underlying3
  a3 := Try.isAgg3
  z3 := Try.sizeOf3
  v3 := Try.zeroValue3
  t4 := Try.underlying4
  a4 := Try.isAgg4
  z4 := Try.sizeOf4
  v4 := Try.zeroValue4
  t5 := Try.underlying5
  a5 := Try.isAgg5
  z5 := Try.sizeOf5
  v5 := Try.zeroValue5
  t9 := Try.underlying9
  a9 := Try.isAgg9
  z9 := Try.sizeOf9
  v9 := Try.zeroValue9
  t22 := Try.underlying27
  a22 := Try.isAgg27
  z22 := Try.sizeOf27
  v22 := Try.zeroValue27
  a24 := Try.isAgg3
  z24 := Try.sizeOf3
  t25 := Try.underlying98
  a25 := Try.isAgg98
  z25 := Try.sizeOf98
  v25 := Try.zeroValue98
  t39 := Try.underlying151
  a39 := Try.isAgg151
  z39 := Try.sizeOf151
  v39 := Try.zeroValue151
  t45 := Try.underlying153
  a45 := Try.isAgg153
  z45 := Try.sizeOf153
  v45 := Try.zeroValue153
  t46 := Try.underlying154
  a46 := Try.isAgg154
  z46 := Try.sizeOf154
  v46 := Try.zeroValue154
  t50 := Try.underlying121
  a50 := Try.isAgg121
  z50 := Try.sizeOf121
  v50 := Try.zeroValue121
  t53 := Try.underlying160
  a53 := Try.isAgg160
  z53 := Try.sizeOf160
  v53 := Try.zeroValue160
  t55 := Try.underlying162
  a55 := Try.isAgg162
  z55 := Try.sizeOf162
  v55 := Try.zeroValue162
  t66 := Try.underlying163
  a66 := Try.isAgg163
  z66 := Try.sizeOf163
  v66 := Try.zeroValue163
  t70 := Try.underlying167
  a70 := Try.isAgg167
  z70 := Try.sizeOf167
  v70 := Try.zeroValue167
  t76 := Try.underlying169
  a76 := Try.isAgg169
  z76 := Try.sizeOf169
  v76 := Try.zeroValue169
  t77 := Try.underlying143
  a77 := Try.isAgg143
  z77 := Try.sizeOf143
  v77 := Try.zeroValue143 }
open Go.RowKit Go.Lib Go.Sort in
/-- slices.Compact at []int: "Compact replaces consecutive runs of equal elements with a single copy. This is like the uniq command found on Unix. Compact modifies the contents of the slice s and returns the modified slice, which may have a smaller length. Compact zeroes the elements between the new length and the original length. The result preserves the nilness of s.": IT RETURNS THE SLICE CUT TO 'Lib.compact zs'; ITS CELLS HOLD 'Lib.compact zs', THEN ZERO VALUES up to the old length; all else is as it was, but for the count of draws. IN THE WORDS OF slices.Sort's CONTRACT ('Holds', 'putRow'): so the everyday 'slices.Sort(xs); xs = slices.Compact(xs)' goes from the one contract to the other. It asks 'zs.length ≤ cap' (every slice's: the reslicing 's[:k]' looks at it). Length 0, nil: '.._empty'. (LAID: no walk: one application.) -/
theorem Try.slices_Compact_int (blk off cap : Nat) (zs : List Int) (w : World) (hH : Holds (Value.int .i64) w blk off zs.toArray) (hsz : zs.length ≤ 9223372036854775807) (hcap : zs.length ≤ cap) :
    Calls Try.prog 115 #[.slice (some ⟨blk, off, none⟩) zs.length cap] w fun e w' => e = .returned (.slice (some ⟨blk, off, none⟩) (Lib.compact zs).length cap) ∧ ∃ q, w' = putRow (Value.int .i64) (Sort.ahead w q) blk off (Lib.compact zs ++ List.replicate (zs.length - (Lib.compact zs).length) 0).toArray := Any.slices_Compact_int Try.laysNm220 blk off cap zs w hH hsz hcap
open Go.RowKit Go.Lib Go.Sort in
/-- **slices.SortFunc, IN THE DOCUMENTATION's OWN TERMS: A PERMUTATION OF WHAT THE ROW HELD, SORTED BY 'cmp(a, b) < 0'.** Which of two equals comes first is left open ("The sort is not guaranteed to be stable"). (LAID AT THE INSTANCE 'slices.SortFunc[[]int,int]': no walk: one application.) -/
theorem Try.slices_SortFunc {α : Type} [Inhabited α] (enc : α → Value) (h1 : OneCell enc) (cf : α → α → Int) (hO : SWO (ltOf cf)) (g : Nat) (cb : Array Value) (blk off cap : Nat) (d : Array α) (w : World) (eg : ∀ args w, (callFunc g args).run Try.prog w = .ok (.enter g args) w) (hcmp : CmpLays1 Try.prog g cb enc cf blk off d.size w) (hH : Holds enc w blk off d) (hblk : blk < w.heap.size) (hsz : d.size < 4611686018427387904) :
    Calls Try.prog 113 #[.slice (some ⟨blk, off, none⟩) d.size cap, .func (.func g) #[] cb] w fun e w' =>
      e = .returned (.tuple #[]) ∧ ∃ d' n os, PermIn 0 d.size d d' ∧ SortedIn (ltOf cf) 0 d.size d' ∧ w' = sortWorld enc w blk off n d' os := Any.slices_SortFunc Try.laysSlF6_f113 enc h1 cf hO g cb blk off cap d w eg hcmp hH hblk hsz
end Go.Proofs
