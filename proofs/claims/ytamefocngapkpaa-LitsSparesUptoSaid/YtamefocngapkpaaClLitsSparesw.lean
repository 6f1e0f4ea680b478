/- What lits.Resolvents answers: its iterator over two tidy lists; or over nothing. -/
import Derived.Test.YtamefocngapkpaaClLitsSparesv
import Derived.Laws.EntriesVeiled
import Derived.Test.YtamefocngapkpaaClLitsSpareso
import Derived.Test.YtamefocngapkpaaClLitsSparess
import Derived.Test.YtamefocngapkpaaClLitsSparese
/-! text YtamefocngapkpaaResolventsCall -/
namespace Go.Proofs.YtamefocngapkpaaHand
open Go.RowKit Go.Sort Go.Lib Go.Shelf Go.Proofs.YtamefocngapkpaaW.PrintWords Go.Proofs.YtamefocngapkpaaW.PrintLast Go.Proofs.YtamefocngapkpaaMath Go.Proofs.YtamefocngapkpaaOwn
attribute [local go_sem] Oper.semAt_some
set_option linter.unusedVariables false
set_option linter.unusedSimpArgs false

set_option maxRecDepth 100000 in
set_option maxHeartbeats 8000000 in
theorem resolvents_bad (A0 A1 : Option Addr) (c0 c1 : Nat) (l0 l1 : List Int) (w : World) (hr0 : Kd.C (Kd.int .i64) w A0 l0.length l0) (hr1 : Kd.C (Kd.int .i64) w A1 l1.length l1)
    (hn0 : l0.length ≤ 17592186044416) (hn1 : l1.length ≤ 17592186044416) (hbad : (sound l0 && sound l1) = false) :
    Calls Try.prog 48 #[.slice A0 l0.length c0, .slice A1 l1.length c1] w fun e w' => e = .returned (.func (.func 70) #[] #[]) ∧ Below w.heap.size w w' := by
  have HR0 := Aside0.mk hr0
  have HR1 := Aside0.mk hr1
  have S0 := fun w (h : Kd.C (Kd.int .i64) w A0 l0.length l0) => sound_calls A0 c0 l0 w h hn0
  have S1 := fun w (h : Kd.C (Kd.int .i64) w A1 l1.length l1) => sound_calls A1 c1 l1 w h hn1
  cases hs0 : sound l0 with
  | false =>
    rw [hs0] at S0
    have HS0 := Aside0.mk S0
    clear S0 S1 hr0 hr1 hn0 hn1 hbad hs0
    go_enter Try.func48, Try.ntmps48
    go_wp2_with fail
    (with_reducible refine (HS0.out _ HR0.out).mono ?_)
    rintro e W1 ⟨rfl, hd⟩
    have B1 := Aside0.mk (hd.below)
    clear hd
    go_wp2_with fail
    go_ret
    exact ⟨rfl, B1.out⟩
  | true =>
    rw [hs0, Bool.true_and] at hbad
    rw [hs0] at S0
    rw [hbad] at S1
    have HS0 := Aside0.mk S0
    have HS1 := Aside0.mk S1
    clear S0 S1 hr0 hr1 hn0 hn1 hbad hs0
    go_enter Try.func48, Try.ntmps48
    go_wp2_with fail
    (with_reducible refine (HS0.out _ HR0.out).mono ?_)
    rintro e W1 ⟨rfl, hd⟩
    have B1 := hd.below
    clear hd
    go_wp2_with fail
    (with_reducible refine (HS1.out _ (Kd.C_below HR1.out B1)).mono ?_)
    rintro e W2 ⟨rfl, hd⟩
    have B2 := Aside0.mk (below_step B1 (hd.below))
    clear hd B1
    go_wp2_with fail
    go_ret
    exact ⟨rfl, B2.out⟩

set_option maxRecDepth 100000 in
set_option maxHeartbeats 8000000 in
theorem resolvents_good (A0 A1 : Option Addr) (c0 c1 : Nat) (l0 l1 : List Int) (w : World) (hr0 : Kd.C (Kd.int .i64) w A0 l0.length l0) (hr1 : Kd.C (Kd.int .i64) w A1 l1.length l1) (hc0 : l0.length ≤ c0) (hc1 : l1.length ≤ c1)
    (hn0 : l0.length ≤ 17592186044416) (hn1 : l1.length ≤ 17592186044416) (hs0 : sound l0 = true) (hs1 : sound l1 = true) :
    Calls Try.prog 48 #[.slice A0 l0.length c0, .slice A1 l1.length c1] w fun e w' => ∃ Bx By gx cx gy cy : Nat, e = .returned (.func (.func 71) #[] #[.pointer (some ⟨By, 0, none⟩), .pointer (some ⟨Bx, 0, none⟩)]) ∧ Two (tidyOf l0) (tidyOf l1) Bx By gx cx gy cy w.heap.size w' ∧ (w.heap.size ≤ Bx ∧ w.heap.size ≤ By) ∧ Below w.heap.size w w' := by
  have HR0 := Aside0.mk hr0
  have HR1 := Aside0.mk hr1
  have S0 := fun w (h : Kd.C (Kd.int .i64) w A0 l0.length l0) => sound_calls A0 c0 l0 w h hn0
  have S1 := fun w (h : Kd.C (Kd.int .i64) w A1 l1.length l1) => sound_calls A1 c1 l1 w h hn1
  have T0 := fun w (h : Kd.C (Kd.int .i64) w A0 l0.length l0) => tidy_own A0 c0 l0 w h hc0 hn0
  have T1 := fun w (h : Kd.C (Kd.int .i64) w A1 l1.length l1) => tidy_own A1 c1 l1 w h hc1 hn1
  rw [hs0] at S0
  rw [hs1] at S1
  have HS0 := Aside0.mk S0
  have HS1 := Aside0.mk S1
  have HT0 := Aside0.mk T0
  have HT1 := Aside0.mk T1
  clear S0 S1 T0 T1 hr0 hr1 hn0 hn1 hs0 hs1 hc0 hc1
  go_enter Try.func48, Try.ntmps48
  go_wp2_with fail
  (with_reducible refine (HS0.out _ HR0.out).mono ?_)
  rintro e W1 ⟨rfl, hd⟩
  have B1 := hd.below
  clear hd
  go_wp2_with fail
  (with_reducible refine (HS1.out _ (Kd.C_below HR1.out B1)).mono ?_)
  rintro e W2 ⟨rfl, hd⟩
  have B2 := below_step B1 (hd.below)
  clear hd B1
  go_wp2_with fail
  (with_reducible refine (HT0.out _ (Kd.C_below HR0.out B2)).mono ?_)
  rintro e W3 ⟨g1, cap1, rfl, o1, b3⟩
  have B3 := below_step B2 b3
  have o1' := own_weaken o1 B2.size
  clear o1 b3
  go_wp2_with fail
  (with_reducible refine (HT1.out _ (Kd.C_below HR1.out B3)).mono ?_)
  rintro e W4 ⟨g2, cap2, rfl, o2, b4⟩
  have B4 := below_step B3 b4
  have o3 := own_move o1' (fun k hk => b4.block k (own_lt o1' k hk))
  have o4 := own_weaken o2 B3.size
  have HH : Aside0 (OwnInts W4 w.heap.size (.slice (some ⟨g1, 0, none⟩) (tidyOf l0).length cap1) (tidyOf l0) ∧ OwnInts W4 w.heap.size (.slice (some ⟨g2, 0, none⟩) (tidyOf l1).length cap2) (tidyOf l1) ∧ Below w.heap.size w W4) := ⟨o3, o4, B4⟩
  clear o1' o2 o3 o4 b4 B2 B3 B4
  go_wp2_with fail
  go_ret
  obtain ⟨o3, o4, B4⟩ := HH.out
  have hB : Below W4.heap.size W4 ((W4.alloc (.cells #[.slice (some ⟨g1, 0, none⟩) (tidyOf l0).length cap1] 26)).alloc (.cells #[.slice (some ⟨g2, 0, none⟩) (tidyOf l1).length cap2] 26)) := below_alloc (below_alloc (Below.refl _ _) _) _
  refine ⟨W4.heap.size, W4.heap.size + 1, g1, cap1, g2, cap2, rfl, ⟨blk_alloc (blk_new _ _) _, ?_, own_move o3 (fun k hk => hB.block k (own_lt o3 k hk)), own_move o4 (fun k hk => hB.block k (own_lt o4 k hk))⟩, ⟨B4.size, by have := B4.size; omega⟩, below_step B4 hB⟩
  have := blk_new (W4.alloc (.cells #[.slice (some ⟨g1, 0, none⟩) (tidyOf l0).length cap1] 26)) (.cells #[.slice (some ⟨g2, 0, none⟩) (tidyOf l1).length cap2] 26)
  simpa using this

theorem resolvents_own (l0 l1 : List Int) (Bx By gx cx gy cy base n : Nat) (hn : 8 ≤ n) (w : World) (hT : Two (tidyOf l0) (tidyOf l1) Bx By gx cx gy cy base w) :
    SeqD Fence.wide n Try.prog 71 #[.pointer (some ⟨By, 0, none⟩), .pointer (some ⟨Bx, 0, none⟩)] (fun p : Int × Value × List Int => #[.int .i64 p.1, p.2.1]) HandI (fun k => k = Bx ∨ k = By ∨ k = gx ∨ k = gy)
      (fun ps => ps.map (fun p => (p.1, p.2.2)) = weave (tidyOf l0) (tidyOf l1)) (fun pre => pre.map (fun p => (p.1, p.2.2)) <+: weave (tidyOf l0) (tidyOf l1)) 4194304 w :=
  resolvents2_own n hn (tidyOf l0) (tidyOf l1) Bx By gx cx gy cy base (rising_tidyOf _) (rising_tidyOf _) (fun _ h => tidyOf_formed h) (fun _ h => tidyOf_formed h) (formed_count (tidyOf l0) (rising_tidyOf _) (fun _ h => tidyOf_formed h)) (formed_count (tidyOf l1) (rising_tidyOf _) (fun _ h => tidyOf_formed h)) w hT

/-- an iterator over nothing -/
theorem nothing_own (n : Nat) (w : World) (Rd : Nat → Prop) :
    SeqD Fence.wide n Try.prog 70 #[] (fun p : Int × Value × List Int => #[.int .i64 p.1, p.2.1]) HandI Rd (fun ps => ps.map (fun p => (p.1, p.2.2)) = []) (fun pre => False) 4194304 w := by
  intro l J Jx W hW hJ hJx hY h0
  refine callsIn_wide.2 ((callsIn_wide (n := 6)).1 ?_)
  refine callsIn_of_wp Try.func70 rfl trivial ?_ rfl
  simp only [Try.ntmps70, List.size_toArray, List.length_cons, List.length_nil, Nat.reduceAdd, Nat.reduceSub, Array.replicate_succ, Array.replicate_zero, List.push_toArray, List.append_toArray, List.nil_append, List.cons_append]
  have H := Aside0.mk h0
  clear h0 hY hJ hJx
  gi_wp2
  go_end0
  exact ⟨⟨_, rfl⟩, _, .inl ⟨[], rfl, H.out⟩⟩
end Go.Proofs.YtamefocngapkpaaHand
/-! text YtamefocngapkpaaSeqLits -/
namespace Go.Proofs.YtamefocngapkpaaHand
open Go.RowKit Go.Sort Go.Lib Go.Shelf Go.Proofs.YtamefocngapkpaaW.PrintWords Go.Proofs.YtamefocngapkpaaW.PrintLast Go.Proofs.YtamefocngapkpaaMath Go.Proofs.YtamefocngapkpaaOwn
attribute [local go_sem] Oper.semAt_some
set_option linter.unusedVariables false
set_option linter.unusedSimpArgs false
def p13L (p : Int × Value × List Int) : Int × List Int := (p.1, p.2.2)
def wantL (a b : List Int) : List (Int × List Int) := if (sound a && sound b) = true then weave (tidyOf a) (tidyOf b) else []
/-- a sequence that gives L, as long as its blocks Rd lie as they lie -/
def SQL (g : Nat) (lb : Array Value) (Rd : Nat → Prop) (L : List (Int × List Int)) (W : World) : Prop :=
  (∀ k, Rd k → k < W.heap.size) ∧ ∀ W1 : World, W.heap.size ≤ W1.heap.size → (∀ k, Rd k → W1.heap[k]? = W.heap[k]?) → SeqD Fence.wide 11 Try.prog g lb (fun p : Int × Value × List Int => #[.int .i64 p.1, p.2.1]) HandI Rd (fun ps => ps.map p13L = L) (fun pre => pre.map p13L <+: L) 4194304 W1
theorem SQL.step {g : Nat} {lb : Array Value} {Rd : Nat → Prop} {L : List (Int × List Int)} {W W1 : World} (h : SQL g lb Rd L W) (hz : W.heap.size ≤ W1.heap.size) (hm : ∀ k, Rd k → W1.heap[k]? = W.heap[k]?) : SQL g lb Rd L W1 :=
  ⟨fun k hk => Nat.lt_of_lt_of_le (h.1 k hk) hz, fun W2 h2 hm2 => h.2 W2 (Nat.le_trans hz h2) fun k hk => (hm2 k hk).trans (hm k hk)⟩
theorem SQL.now {g : Nat} {lb : Array Value} {Rd : Nat → Prop} {L : List (Int × List Int)} {W : World} (h : SQL g lb Rd L W) : SeqD Fence.wide 11 Try.prog g lb (fun p : Int × Value × List Int => #[.int .i64 p.1, p.2.1]) HandI Rd (fun ps => ps.map p13L = L) (fun pre => pre.map p13L <+: L) 4194304 W := h.2 W (Nat.le_refl _) fun _ _ => rfl
theorem SQL.two {a b : List Int} {Bx By gx cx gy cy base : Nat} {W : World} (h : Two (tidyOf a) (tidyOf b) Bx By gx cx gy cy base W) : SQL 71 #[.pointer (some ⟨By, 0, none⟩), .pointer (some ⟨Bx, 0, none⟩)] (fun k => k = Bx ∨ k = By ∨ k = gx ∨ k = gy) (weave (tidyOf a) (tidyOf b)) W :=
  ⟨h.lt, fun W1 hz hm => resolvents_own a b Bx By gx cx gy cy base 11 (by decide) W1 (h.move hm)⟩
theorem SQL.none {W : World} : SQL 70 #[] (fun _ => False) [] W :=
  ⟨fun _ h => h.elim, fun W1 _ _ => fun l J Jx W2 hW hJ hJx hY h0 => (nothing_own 11 W1 (fun _ => False) l J Jx W2 hW hJ hJx hY h0).mono fun e w' h => by
    obtain ⟨h1, M, h2⟩ := h
    refine ⟨h1, M, h2.imp id ?_⟩
    rintro ⟨pre, hf, _⟩
    exact hf.elim⟩
/-- the sequence as an assertion -/
def seqA (g : Nat) (lb : Array Value) (Rd : Nat → Prop) (L : List (Int × List Int)) : Asr := ⟨fun W ok => SQL g lb Rd L W ∧ ∀ k, Rd k → ok k, fun {W W1 ok ok'} h hz hk => ⟨h.1.step hz fun k hr => (hk k (h.2 k hr) (h.1.1 k hr)).1, fun k hr => (hk k (h.2 k hr) (h.1.1 k hr)).2⟩⟩
theorem seqL_calls (A0 A1 : Option Addr) (c0 c1 : Nat) (a b : List Int) (w : World) (hr0 : Kd.C (Kd.int .i64) w A0 a.length a) (hr1 : Kd.C (Kd.int .i64) w A1 b.length b) (hc0 : a.length ≤ c0) (hc1 : b.length ≤ c1)
    (hn0 : a.length ≤ 17592186044416) (hn1 : b.length ≤ 17592186044416) :
    Calls Try.prog 48 #[.slice A0 a.length c0, .slice A1 b.length c1] w fun e w' => ∃ (g : Nat) (lb : Array Value) (Rd : Nat → Prop), e = .returned (.func (.func g) #[] lb) ∧ (seqA g lb Rd (wantL a b)).P w' (fun k => w.heap.size ≤ k) ∧ (∀ (args : Array Value) (W : World), (callFunc g args).run Try.prog W = .ok (.enter g args) W) ∧ Below w.heap.size w w' := by
  cases hs : (sound a && sound b) with
  | false =>
    refine (resolvents_bad A0 A1 c0 c1 a b w hr0 hr1 hn0 hn1 hs).mono ?_
    rintro e w' ⟨rfl, hb⟩
    refine ⟨_, _, fun _ => False, rfl, ⟨?_, fun k h => h.elim⟩, enters_of Try.func70 (by kernel_rfl) rfl, hb⟩
    have e : wantL a b = [] := by unfold wantL; rw [hs]; rfl
    rw [e]
    exact SQL.none
  | true =>
    have hs2 := (Bool.and_eq_true _ _).mp hs
    refine (resolvents_good A0 A1 c0 c1 a b w hr0 hr1 hc0 hc1 hn0 hn1 hs2.1 hs2.2).mono ?_
    rintro e w' ⟨Bx, By, gx, cx, gy, cy, rfl, hT, hxy, hb⟩
    refine ⟨_, _, fun k => k = Bx ∨ k = By ∨ k = gx ∨ k = gy, rfl, ⟨?_, ?_⟩, enters_of Try.func71 (by kernel_rfl) rfl, hb⟩
    · have e : wantL a b = weave (tidyOf a) (tidyOf b) := by unfold wantL; rw [hs]; rfl
      rw [e]
      exact SQL.two hT
    · have h4 := own_base hT.ox gx rfl
      have h5 := own_base hT.oy gy rfl
      rintro k (rfl | rfl | rfl | rfl)
      · exact hxy.1
      · exact hxy.2
      · exact h4
      · exact h5
theorem nil_seqL (g : Nat) (lb : Array Value) (W : World) : (binOp .eql 43 (.func (.func g) #[] lb) .nilFunc).run Try.prog W = .ok (.bool false) W := by kernel_rfl
end Go.Proofs.YtamefocngapkpaaHand
/-! text YtamefocngapkpaaSparesBase -/
namespace Go.Proofs.YtamefocngapkpaaHand
open Go.RowKit Go.Proofs.YtamefocngapkpaaW.PrintWords Go.Proofs.YtamefocngapkpaaW.PrintLast Go.Proofs.YtamefocngapkpaaMath Go.Proofs.YtamefocngapkpaaOwn Go.Proofs.Ytamefocngapkpaa.PLitsSpares
set_option linter.unusedVariables false
set_option linter.unusedSimpArgs false
theorem lent_calls (A : Option Addr) (c : Nat) (l : List Int) (w : World) (hr : Kd.C (Kd.int .i64) w A l.length l) (hc : l.length ≤ c) (hn : l.length ≤ 4398046511104) :
    Calls Try.prog 50 #[.slice A l.length c] w fun e w' => ∃ v : Value, e = .returned v ∧ Kd.R (Kd.int .i64) 3 w' w.heap.size (fun _ => True) v (lentOf l) ∧ Below w.heap.size w w' := by
  obtain ⟨k, h⟩ := (depotkit_Lent_ev l (by omega)).rounds
  exact depotkit_Lent.calls k A c l _ w hr hc h
theorem kept_calls (A B : Option Addr) (n c d : Nat) (l : List Int) (w : World) (hn : n = (lentOf l).length) (hr : Kd.C (Kd.int .i64) w A (lentOf l).length (lentOf l)) (hc : n ≤ c) (hs : Kd.C (Kd.int .i64) w B l.length l) (hd : l.length ≤ d) (hl : l.length ≤ 4398046511104) :
    Calls Try.prog 54 #[.slice A n c, .slice B l.length d] w fun e w' => e = .returned (.bool true) ∧ Drawn0 w w' := by
  obtain ⟨k, h⟩ := (depotkit_Kept_ev l (by omega)).rounds
  subst hn
  exact depotkit_Kept.calls k A c (lentOf l) B d l _ w hr hc hs hd h
theorem meant_calls (A B : Option Addr) (c d : Nat) (a b : List Int) (l v : Int) (w : World) (hr : Kd.C (Kd.int .i64) w A a.length a) (hc : a.length ≤ c) (hs : Kd.C (Kd.int .i64) w B b.length b) (hd : b.length ≤ d) (ha : a.length ≤ 4398046511104) (hb : b.length ≤ 4398046511104) :
    Calls Try.prog 51 #[.slice A a.length c, .slice B b.length d, .int .i64 l, .int .i64 v] w fun e w' => ∃ (Aw : Option Addr) (cw : Nat), e = .returned (.slice Aw (toldOf a b l v).length cw) ∧ (toldOf a b l v).length ≤ cw ∧ (Asr.foot fun W => Kd.C (Kd.slice 3 (Kd.int .i64)) W Aw (toldOf a b l v).length (toldOf a b l v)).P w' (fun k => w.heap.size ≤ k) ∧ Below w.heap.size w w' := by
  obtain ⟨k, h⟩ := (depotlaw01_meant_ev a b l v ha hb).rounds
  refine (depotlaw01_meant.calls k A c a B d b l v _ w hr hc hs hd h).mono ?_
  rintro e w' ⟨u, rfl, hN, hB⟩
  obtain ⟨Aw, cw, rfl⟩ := Kd.N_slice hN
  refine ⟨Aw, cw, rfl, (Kd.N_reads' hN).2.1, ?_, hB⟩
  intro W1 _ hk
  exact (Kd.N_F hN) W1 hk
theorem meant_n {n m : Nat} {a b : List Int} (hn : n = a.length) (hm : m = b.length) (A B : Option Addr) (c d : Nat) (l v : Int) (w : World) (hr : Kd.C (Kd.int .i64) w A a.length a) (hc : n ≤ c) (hs : Kd.C (Kd.int .i64) w B b.length b) (hd : m ≤ d) (ha : n ≤ 4398046511104) (hb : m ≤ 4398046511104) :
    Calls Try.prog 51 #[.slice A n c, .slice B m d, .int .i64 l, .int .i64 v] w fun e w' => ∃ (Aw : Option Addr) (cw : Nat), e = .returned (.slice Aw (toldOf a b l v).length cw) ∧ (toldOf a b l v).length ≤ cw ∧ (Asr.foot fun W => Kd.C (Kd.slice 3 (Kd.int .i64)) W Aw (toldOf a b l v).length (toldOf a b l v)).P w' (fun k => w.heap.size ≤ k) ∧ Below w.heap.size w w' := by
  subst hn hm
  exact meant_calls A B c d a b l v w hr hc hs hd ha hb
theorem told_n {n m : Nat} {a b : List Int} (hn : n = a.length) (hm : m = b.length) (A0 A1 : Option Addr) (c0 c1 : Nat) (l v : Int) (w : World) (hr0 : Kd.C (Kd.int .i64) w A0 a.length a) (hc0 : n ≤ c0) (hr1 : Kd.C (Kd.int .i64) w A1 b.length b) (hc1 : m ≤ c1) (na : n ≤ 4398046511104) (nb : m ≤ 4398046511104) :
    Calls Try.prog 52 #[.slice A0 n c0, .slice A1 m c1, .int .i64 l, .int .i64 v] w fun e w' => ∃ u : Value, e = .returned u ∧ Kd.S (Kd.slice 3 (Kd.int .i64)) 26 w' 0 (fun k => w.heap.size ≤ k) u (toldOf a b l v) ∧ Below w.heap.size w w' := by
  subst hn hm
  exact told_calls A0 A1 c0 c1 a b l v w hr0 hc0 hr1 hc1 na nb
theorem tidyOf_small (c : List Int) : (tidyOf c).length ≤ 2097152 := formed_count (tidyOf c) (rising_tidyOf _) (fun _ h => tidyOf_formed h)
theorem resOf_small (a b : List Int) (v : Int) : (resOf a b v).1.length ≤ 2097152 := by
  unfold resOf
  split
  · split
    · exact tidyOf_small _
    · simp
  · simp
theorem toldOf_small (a b : List Int) (l v : Int) : ∀ x ∈ toldOf a b l v, x.length ≤ 2097152 := by
  have h1 := tidyOf_small a
  have h2 := tidyOf_small (a ++ b)
  have h3 := resOf_small a b v
  have h4 := List.length_filter_le (fun x => !(x == l)) (tidyOf a)
  intro x hx
  simp only [toldOf, List.mem_cons, List.not_mem_nil, or_false] at hx
  rcases hx with rfl | rfl | rfl | rfl | rfl | rfl | rfl | rfl <;> omega
theorem alike_calls (A B : Option Addr) (c d : Nat) (L : List (List Int)) (w : World) (hr : Kd.C (Kd.slice 3 (Kd.int .i64)) w A L.length L) (hc : L.length ≤ c) (hs : Kd.C (Kd.slice 3 (Kd.int .i64)) w B L.length L) (hd : L.length ≤ d) (hn : L.length ≤ 17592186044416) (hl : ∀ x ∈ L, x.length ≤ 17592186044416) :
    Calls Try.prog 53 #[.slice A L.length c, .slice B L.length d] w fun e w' => e = .returned (.bool true) ∧ Drawn0 w w' := by
  obtain ⟨k, h⟩ := (depotlaw01_alike_ev L hn hl).rounds
  exact depotlaw01_alike.calls k A c L B d L _ w hr hc hs hd h
theorem has_c (A : Option Addr) (c : Nat) (l : List Int) (x : Int) (w : World) (hr : Kd.C (Kd.int .i64) w A l.length l) (hc : l.length ≤ c) (hn : l.length ≤ 1048576) :
    Calls Try.prog 39 #[.slice A l.length c, .int .i64 x] w fun e w' => e = .returned (.bool (has l x)) ∧ Below w.heap.size w w' := by
  obtain ⟨k, h⟩ := (lits_Has_ev l x (by omega)).rounds
  exact (lits_Has.calls k A c l x _ w hr hc h).mono fun e w' h => ⟨h.1, h.2.below⟩
theorem sound_c (A : Option Addr) (c : Nat) (l : List Int) (w : World) (hr : Kd.C (Kd.int .i64) w A l.length l) (hc : l.length ≤ c) (hn : l.length ≤ 1048576) :
    Calls Try.prog 38 #[.slice A l.length c] w fun e w' => e = .returned (.bool (sound l)) ∧ Below w.heap.size w w' := by
  obtain ⟨k, h⟩ := (lits_Sound_ev l (by omega)).rounds
  exact (lits_Sound.calls k A c l _ w hr hc h).mono fun e w' h => ⟨h.1, h.2.below⟩
theorem taut_c (A : Option Addr) (c : Nat) (l : List Int) (w : World) (hr : Kd.C (Kd.int .i64) w A l.length l) (hc : l.length ≤ c) (hn : l.length ≤ 1048576) :
    Calls Try.prog 37 #[.slice A l.length c] w fun e w' => e = .returned (.bool (tautIn (tidyOf l))) ∧ Below w.heap.size w w' := by
  obtain ⟨k, h⟩ := (lits_Taut_ev l (by omega)).rounds
  exact lits_Taut.calls k A c l _ w hr hc h
theorem same_c (A B : Option Addr) (c d : Nat) (l m : List Int) (w : World) (hr : Kd.C (Kd.int .i64) w A l.length l) (hc : l.length ≤ c) (hs : Kd.C (Kd.int .i64) w B m.length m) (hd : m.length ≤ d) (hn : l.length ≤ 1048576) (hm : m.length ≤ 1048576) :
    Calls Try.prog 35 #[.slice A l.length c, .slice B m.length d] w fun e w' => e = .returned (.bool (sound l && (sound m && (tidyOf l == tidyOf m)))) ∧ Below w.heap.size w w' := by
  obtain ⟨k, h⟩ := (lits_Same_ev l m (by omega) (by omega)).rounds
  exact lits_Same.calls k A c l B d m _ w hr hc hs hd h
theorem lent_take (l : List Int) : (lentOf l).take l.length = l := List.take_left
/-- what stands in a lent list's first places -/
theorem head_C {w W : World} {X : Nat → Prop} {L : List Asr} {Ax : Option Addr} {n c : Nat} {xs : List Int} (h : Sep w X L W) (i : Nat) (hi : L[i]? = some (.row (Kd.int .i64) 3 (.slice Ax n c) xs)) {m : Nat} {ys : List Int} (hm : m ≤ xs.length) (hy : xs.take m = ys) (hl : ys.length = m) : Kd.C (Kd.int .i64) W Ax ys.length ys := by
  have h2 := (Kd.R_reads' (h.get i hi)).2.2
  have h3 := Kd.C_take h2 hm
  rw [hy] at h3
  exact h3
theorem row_len {w W : World} {X : Nat → Prop} {L : List Asr} {Ax : Option Addr} {n c : Nat} {xs : List Int} (h : Sep w X L W) (i : Nat) (hi : L[i]? = some (.row (Kd.int .i64) 3 (.slice Ax n c) xs)) : n = xs.length ∧ n ≤ c ∧ Kd.C (Kd.int .i64) W Ax xs.length xs := Kd.R_reads' (h.get i hi)
theorem own_raise {w : World} {base : Nat} {e : TypeId} {size n : Nat} {v : Value} {xs : List Value} (h : w.ownsRow 0 e size v n xs) (hb : ∀ k, v.ownBlock = some k → base ≤ k) : w.ownsRow base e size v n xs := by
  obtain ⟨h1, h2⟩ := h
  refine ⟨h1, ?_⟩
  rcases h2 with h2 | ⟨g, cap, cur, rfl, hg, r⟩
  · exact .inl h2
  · exact .inr ⟨g, cap, cur, rfl, hb g rfl, r⟩
theorem R_raise {w : World} {base : Nat} {e : Nat} {v : Value} {xs : List Int} {ok : Nat → Prop} (h : Kd.R (Kd.int .i64) e w 0 ok v xs) (hb : ∀ k, ok k → base ≤ k) : Kd.R (Kd.int .i64) e w base ok v xs := by
  obtain ⟨h0, inner, ho, hr⟩ := h
  exact ⟨h0, inner, own_raise ho fun k hk => hb k (h0 k hk), hr⟩
/-- a lent list is written over -/
theorem over_calls {w0 w : World} {X : Nat → Prop} {l : List Asr} {v : Value} {xs : List Int} (h : Sep w0 X l w) (i : Nat) (hi : l[i]? = some (.row (Kd.int .i64) 3 v xs)) (hX : ∀ b, X b → b < w.heap.size) (hn : xs.length < 17592186044416) :
    Calls Try.prog 55 #[v] w fun e w' => e = .returned (.tuple #[]) ∧ ∃ ys : List Int, ys.length = xs.length ∧ Sep w0 X (l.set i (.row (Kd.int .i64) 3 v ys)) w' := by
  obtain ⟨r, hr, hev⟩ := depotkit_Over_ev xs hn
  obtain ⟨k, hk⟩ := hev.rounds
  have hR := Kd.R_tight rfl (R_raise (h.get i hi) (fun k hk => hk.1))
  refine (depotkit_Over.calls k (fun k => some k = v.ownBlock) v xs r w0 w h.hB hR hk).mono ?_
  rintro e w' ⟨rfl, hR', hB', hK⟩
  refine ⟨rfl, r, hr, h.upd i hi (M := fun k => some k = v.ownBlock) ⟨hB'.os.trans h.hB.os.symm, hB'.tape.trans h.hB.tape.symm, hB'.output.trans h.hB.output.symm, hK.1, fun k h1 h2 => hK.2 k h1 h2⟩ hX (fun ok hA k hk _ => hA.1 k hk.symm) fun ok hA hnew => ?_⟩
  exact Kd.R_mono (Kd.R_lower hR' (Nat.zero_le _)) fun k hk => hk.elim (fun h => hA.1 k h.symm) (hnew k)
theorem C_lit {W : World} {b t : Nat} (xs : List Int) (h : W.heap[b]? = some (.cells (nums .i64 xs).toArray t (0, 0))) (hn : xs.length ≤ 9223372036854775807) : Kd.C (Kd.int .i64) W (some ⟨b, 0, none⟩) xs.length xs :=
  ⟨rfl, hn, fun _ => ⟨_, rfl, fun j p hj => ⟨[.int .i64 p], rfl, rfl, fun i u hu => by
    have hi : i = 0 := by
      have := (List.getElem?_eq_some_iff.1 hu).1
      simp at this
      exact this
    subst hi
    have e1 : (Kd.int .i64).sz = 1 := rfl
    rw [e1, Nat.mul_one, Nat.add_zero, add_at, Nat.zero_add, blk_cell h j]
    simp only [nums, List.getElem?_toArray, List.getElem?_map, hj]
    exact hu⟩⟩⟩
end Go.Proofs.YtamefocngapkpaaHand
/-! text YtamefocngapkpaaSpInv -/
namespace Go.Proofs.YtamefocngapkpaaHand
open Go.RowKit Go.Sort Go.Lib Go.Shelf Go.Proofs.YtamefocngapkpaaW.PrintWords Go.Proofs.YtamefocngapkpaaW.PrintLast Go.Proofs.YtamefocngapkpaaMath Go.Proofs.YtamefocngapkpaaOwn
set_option linter.unusedVariables false
/-- the row that an iterator hands over stands beside all else -/
theorem _root_.Go.Proofs.YtamefocngapkpaaOwn.Sep.handI {w A W : World} {M M1 : Nat → Prop} {l : List Asr} (h : Sep w M l A) (hg : Grow M A W) (hw : ∀ b, M b → w.heap.size ≤ b) (hm : More M A W M1) {x : Int} {u : Value} {s : List Int} (hh : HandI A M1 (x, u, s) W) :
    Sep w M1 (l ++ [.row (Kd.int .i64) 3 u s]) W := by
  refine h.hand hg (fun b hb _ => hb) hw (fun b hb => (hm b hb).imp id And.left) ?_
  have h1 : Kd.R (Kd.int .i64) 3 W A.heap.size (fun _ => True) u s := own_R hh.1
  exact Kd.R_lower (Kd.R_mono (Kd.R_bound (Kd.R_tight rfl h1)) fun k hk => ⟨hk.2.1, hh.2.1 k hk.1.symm⟩) (Nat.zero_le _)
/-- what holds from round to round -/
def RInv (w : World) (cs : Value → List (List Int) → List Asr) (m : Nat) (M : Nat → Prop) (n : Nat) (W : World) : Prop :=
  (∀ k, M k → w.heap.size ≤ k ∧ k < W.heap.size) ∧ n ≤ 4194304 ∧ ∃ (Aa : Option Addr) (ca : Nat) (L : List (List Int)), Sep w M (cs (.slice Aa L.length ca) L) W ∧ L.length ≤ m + n ∧ ∀ x ∈ L, x.length ≤ 2097152
theorem RInv.own {w : World} {cs : Value → List (List Int) → List Asr} {m : Nat} {α : Type} : OwnD (fun (M : Nat → Prop) (pre : List α) (W : World) => RInv w cs m M pre.length W) := by
  rintro M M1 s A B ⟨h1, hn, Aa, ca, L, h2, h3⟩ hg hm
  refine ⟨fun k hk => ?_, hn, Aa, ca, L, h2.own hg (fun b hb _ => hb) (fun b hb => (h1 b hb).1) (fun b hb => (hm b hb).imp id And.left), h3⟩
  rcases hm k hk with h | h
  · exact ⟨(h1 k h).1, Nat.lt_of_lt_of_le (h1 k h).2 hg.size⟩
  · exact ⟨Nat.le_trans h2.hB.size h.1, h.2⟩
/-- a round: the box holds the longer list -/
theorem RInv.kept {w W W1 W2 : World} {M1 Rd : Nat → Prop} {l : List Asr} {g : Nat} {lb : Array Value} {Ls : List (Int × List Int)} {v u : Value} {xs : List (List Int)} {s b : Nat} {o : Obj} (h : Sep w M1 l W) (i j m : Nat) (him : i ≠ m) (hjm : j ≠ m)
    (hi : l[i]? = some (.rows (Kd.slice 3 (Kd.int .i64)) s v xs)) (hj : l[j]? = some (.blk b o)) (hs : l[m]? = some (seqA g lb Rd Ls)) (hg : Grow (fun k => some k = v.ownBlock) W W1) (e : W1.setCell ⟨b, 0, none⟩ u = W2) : KeptD (fun k => M1 k ∨ Rd k) W W2 := by
  have hS : ∀ k, Rd k → ∀ ok, (seqA g lb Rd Ls).P W ok → ok k := fun k hk ok h => h.2 k hk
  refine kept_of_grow (N := fun k => some k = v.ownBlock ∨ k = b) ?_ ?_
  · rw [← e]
    exact (hg.mono fun k hk => .inl hk).trans ((grow_put 0 u W1).mono fun k hk => .inr hk) fun k hk => .inl hk
  · rintro k (hk | rfl) (h1 | h1)
    · exact (h.nX i hi (rows_blk hk)).1 h1
    · exact h.ne i m him hi hs (rows_blk hk) (hS k h1) rfl
    · exact (h.nX j hj blk_blk).1 h1
    · exact h.ne j m hjm hj hs blk_blk (hS k h1) rfl
theorem _root_.Go.Proofs.YtamefocngapkpaaOwn.Sep.takeL {w W : World} {X : Nat → Prop} {l : List Asr} (h : Sep w X l W) (k : Nat) : Sep w X (l.take k) W := by
  obtain ⟨f, hf⟩ := h.tags
  refine ⟨h.hB, f, fun i A hi => hf i A ?_⟩
  rw [List.getElem?_take] at hi
  split at hi
  · exact hi
  · simp at hi
theorem RInv.put {w W W1 : World} {cs : Value → List (List Int) → List Asr} {m n : Nat} {M1 : Nat → Prop} {l : List Asr} (h : Sep w M1 l W1) (hM : ∀ b, M1 b → w.heap.size ≤ b ∧ b < W.heap.size) (hz : W.heap.size ≤ W1.heap.size) (i k : Nat) {b t : Nat} {c0 c1 : Array Value}
    (hi : l[i]? = some (.blk b (.cells c0 t (0, 0)))) {Aa : Option Addr} {ca : Nat} {L : List (List Int)} (e : c0.setIfInBounds 0 (.slice Aa L.length ca) = c1) (hcs : (l.set i (.blk b (.cells c1 t (0, 0)))).take k = cs (.slice Aa L.length ca) L) (hn : n ≤ 4194304) (hL : L.length ≤ m + n) (hs : ∀ x ∈ L, x.length ≤ 2097152) :
    RInv w cs m M1 n (W1.setCell ⟨b, 0, none⟩ (.slice Aa L.length ca)) := by
  have hM1 : ∀ b, M1 b → b < W1.heap.size := fun b hb => Nat.lt_of_lt_of_le (hM b hb).2 hz
  have h1 := (h.put hM1 i 0 hi (.slice Aa L.length ca) e).takeL k
  rw [hcs] at h1
  exact ⟨fun q hq => ⟨(hM q hq).1, Nat.lt_of_lt_of_le (hM1 q hq) (grow_put (b := b) 0 (.slice Aa L.length ca) W1).size⟩, hn, Aa, ca, L, h1, hL, hs⟩
/-- a walk stops ahead of such a goal -/
structure Hold (p : Prop) : Prop where
  out : p
theorem has_lit (b : Nat) (w : World) (h : w.heap[b]? = some (.cells #[.int .i64 4, .int .i64 2] 3 (0, 0))) :
    Calls Try.prog 39 #[.slice (some ⟨b, 0, none⟩) 2 2, .int .i64 2] w fun e w' => e = .returned (.bool true) ∧ Below w.heap.size w w' :=
  has_c (some ⟨b, 0, none⟩) 2 [4, 2] 2 w (C_lit [4, 2] h (by decide)) (by decide) (by decide)
end Go.Proofs.YtamefocngapkpaaHand
