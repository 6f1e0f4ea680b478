/- The law LitsMeets answers true. -/
import Derived.Test.YtamefocngapkpaaClLitsMeetsn
import Derived.Laws.EntriesVeiled
/-! text YtamefocngapkpaaMeets -/
namespace Go.Proofs.YtamefocngapkpaaHand
open Go.RowKit Go.Sort Go.Lib Go.Shelf Go.Proofs.YtamefocngapkpaaW.PrintWords Go.Proofs.YtamefocngapkpaaW.PrintLast Go.Proofs.YtamefocngapkpaaMath Go.Proofs.YtamefocngapkpaaOwn Go.Proofs.Ytamefocngapkpaa.PLitsMeets
attribute [local go_sem] Oper.semAt_some
set_option linter.unusedVariables false
set_option linter.unusedSimpArgs false
/-- a sequence that gives L, as long as its blocks Rd lie as they lie -/
def SQ (g : Nat) (lb : Array Value) (Rd : Nat → Prop) (L : List (Int × List Int)) (W : World) : Prop :=
  (∀ k, Rd k → k < W.heap.size) ∧ ∀ W1 : World, W.heap.size ≤ W1.heap.size → (∀ k, Rd k → W1.heap[k]? = W.heap[k]?) → SeqD Fence.wide 11 Try.prog g lb (fun p : Int × Value × List Int => #[.int .i64 p.1, p.2.1]) HandI Rd (fun ps => ps.map p13 = L) (fun pre => pre.map p13 <+: L) 4194304 W1
theorem SQ.step {g : Nat} {lb : Array Value} {Rd : Nat → Prop} {L : List (Int × List Int)} {W W1 : World} (h : SQ g lb Rd L W) (hz : W.heap.size ≤ W1.heap.size) (hm : ∀ k, Rd k → W1.heap[k]? = W.heap[k]?) : SQ g lb Rd L W1 :=
  ⟨fun k hk => Nat.lt_of_lt_of_le (h.1 k hk) hz, fun W2 h2 hm2 => h.2 W2 (Nat.le_trans hz h2) fun k hk => (hm2 k hk).trans (hm k hk)⟩
theorem SQ.now {g : Nat} {lb : Array Value} {Rd : Nat → Prop} {L : List (Int × List Int)} {W : World} (h : SQ g lb Rd L W) : SeqD Fence.wide 11 Try.prog g lb (fun p : Int × Value × List Int => #[.int .i64 p.1, p.2.1]) HandI Rd (fun ps => ps.map p13 = L) (fun pre => pre.map p13 <+: L) 4194304 W := h.2 W (Nat.le_refl _) fun _ _ => rfl
theorem SQ.two {a b : List Int} {Bx By gx cx gy cy base : Nat} {W : World} (h : Two (tidyOf a) (tidyOf b) Bx By gx cx gy cy base W) : SQ 71 #[.pointer (some ⟨By, 0, none⟩), .pointer (some ⟨Bx, 0, none⟩)] (fun k => k = Bx ∨ k = By ∨ k = gx ∨ k = gy) (weave (tidyOf a) (tidyOf b)) W :=
  ⟨h.lt, fun W1 hz hm => resolvents_own a b Bx By gx cx gy cy base 11 (by decide) W1 (h.move hm)⟩
theorem SQ.none {W : World} : SQ 70 #[] (fun _ => False) [] W :=
  ⟨fun _ h => h.elim, fun W1 _ _ => fun l J Jx W2 hW hJ hJx hY h0 => (nothing_own 11 W1 (fun _ => False) l J Jx W2 hW hJ hJx hY h0).mono fun e w' h => by
    obtain ⟨h1, M, h2⟩ := h
    refine ⟨h1, M, h2.imp id ?_⟩
    rintro ⟨pre, hf, _⟩
    exact hf.elim⟩
theorem weave_small (a b : List Int) : (wantOf a b).length ≤ 4194304 ∧ ∀ p ∈ wantOf a b, p.2.length ≤ 2097152 := by
  have f1 := formed_count (tidyOf a) (rising_tidyOf _) (fun _ h => tidyOf_formed h)
  have f2 := formed_count (tidyOf b) (rising_tidyOf _) (fun _ h => tidyOf_formed h)
  unfold wantOf
  split
  · constructor
    · unfold weave wrun
      have h := wrun_len (tidyOf a) (tidyOf b) (pivOf (tidyOf b) (tidyOf a)) (pivOf (tidyOf a) (tidyOf b)) ([], pivOf (tidyOf b) (tidyOf a))
      have h1 := pivOf_length (tidyOf a) (tidyOf b)
      have h2 := pivOf_length (tidyOf b) (tidyOf a)
      simp only [List.length_append, List.length_map, List.length_nil] at h ⊢
      omega
    · intro p hp
      have key : ∀ (x y : List Int) (v : Int), (onOf x y v).length ≤ 2097152 := fun x y v => (on_good x y v).2
      rw [weave_wv] at hp
      have hw : ∀ (F B : List Int), ∀ p ∈ wv (tidyOf a) (tidyOf b) F B, p.2.length ≤ 2097152 := by
        intro F
        induction F with
        | nil =>
          intro B p hp
          simp only [wv, List.mem_map] at hp
          obtain ⟨v, _, rfl⟩ := hp
          exact key _ _ _
        | cons v F ih =>
          intro B p hp
          simp only [wv, List.mem_append, List.mem_map, List.mem_cons] at hp
          rcases hp with ⟨u, _, rfl⟩ | rfl | hp
          · exact key _ _ _
          · exact key _ _ _
          · exact ih _ p hp
      exact hw _ _ p hp
  · simp
/-- the law's variables: k, the result, the document's list, the sequence; x and y lie below block z -/
structure MA (w : World) (kk : Int) (Bw Bs z lo hi : Nat) (Aw : Option Addr) (nw cw : Nat) (g : Nat) (lb : Array Value) (Rd : Nat → Prop) (L : List (Int × List Int)) (r : Value) (W : World) : Prop where
  hB : Below w.heap.size w W
  hz : w.heap.size + 2 ≤ z
  b0 : W.heap[w.heap.size]? = some (.cells #[.int .i64 kk] 3 (0, 0))
  b1 : W.heap[w.heap.size + 1]? = some (.cells #[r] 4 (0, 0))
  bw : W.heap[Bw]? = some (.cells #[.slice Aw nw cw] 40 (0, 0))
  bs : W.heap[Bs]? = some (.cells #[.func (.func g) #[] lb] 43 (0, 0))
  hw : Want lo hi Aw (L.map mkP) W
  hq : SQ g lb Rd L W
  zl : z ≤ lo
  zw : z ≤ Bw
  hl : hi ≤ Bw
  ws : Bw < Bs
  rz : ∀ k, Rd k → z ≤ k ∧ k < Bs
  zs : Bs + 1 ≤ W.heap.size
section
variable {w : World} {kk : Int} {Bw Bs z lo hi Bn D1 : Nat} {Aw : Option Addr} {nw cw g : Nat} {lb : Array Value} {Rd : Nat → Prop} {L : List (Int × List Int)} {r n : Value} {W W1 : World}
theorem MA.step (h : MA w kk Bw Bs z lo hi Aw nw cw g lb Rd L r W) (hb : Below w.heap.size w W1) (hm : ∀ k, k < w.heap.size + 2 ∨ (z ≤ k ∧ k ≤ Bs) → W1.heap[k]? = W.heap[k]?) (hz : W.heap.size ≤ W1.heap.size) : MA w kk Bw Bs z lo hi Aw nw cw g lb Rd L r W1 := by
  have h1 := h.zl; have h2 := h.zw; have h3 := h.hl; have h4 := h.ws
  exact ⟨hb, h.hz, (hm _ (by omega)).trans h.b0, (hm _ (by omega)).trans h.b1, (hm _ (by omega)).trans h.bw, (hm _ (by omega)).trans h.bs,
    h.hw.step (fun k hk hk2 => hm k (by omega)) hz, h.hq.step hz (fun k hk => hm k (by have := h.rz k hk; omega)), h.zl, h.zw, h.hl, h.ws, h.rz, Nat.le_trans h.zs hz⟩
theorem MA.grow {M : Nat → Prop} (h : MA w kk Bw Bs z lo hi Aw nw cw g lb Rd L r W) (hg : Grow M W W1) (hM : ∀ k, M k → Bs + 1 ≤ k) : MA w kk Bw Bs z lo hi Aw nw cw g lb Rd L r W1 := by
  have hb : Below (Bs + 1) W W1 := hg.below h.zs hM
  have h1 := h.hz; have h2 := h.zw; have h4 := h.ws
  exact h.step (h.hB.trans (hb.mono (by omega))) (fun k hk => hb.block k (by omega)) hg.size
theorem MA.keep (h : MA w kk Bw Bs z lo hi Aw nw cw g lb Rd L r W) (k : Below W.heap.size W W1) : MA w kk Bw Bs z lo hi Aw nw cw g lb Rd L r W1 := h.grow (M := fun _ => False) (Grow.of_below k) (fun _ h => h.elim)
theorem MA.far (h : MA w kk Bw Bs z lo hi Aw nw cw g lb Rd L r W) {p : Addr} (hp : (w.heap.size + 2 ≤ p.block ∧ p.block < z) ∨ Bs + 1 ≤ p.block) (u : Value) : MA w kk Bw Bs z lo hi Aw nw cw g lb Rd L r (W.setCell p u) := by
  have h1 := h.hz; have h2 := h.zw; have h4 := h.ws
  exact h.step (h.hB.setCell (p := p) (by omega) _) (fun k hk => Below.heap_setCell W p u k (by omega)) ((Below.refl 0 W).setCell (p := p) (Nat.zero_le _) u).size
theorem MA.set (h : MA w kk Bw Bs z lo hi Aw nw cw g lb Rd L r W) (u : Value) : MA w kk Bw Bs z lo hi Aw nw cw g lb Rd L u (W.setCell ⟨w.heap.size + 1, 0, none⟩ u) := by
  have h0 := h.hz; have h1 := h.zl; have h2 := h.zw; have h3 := h.hl; have h4 := h.ws
  have hz := ((Below.refl 0 W).setCell (p := ⟨w.heap.size + 1, 0, none⟩) (Nat.zero_le _) u).size
  have hm : ∀ k, k ≠ w.heap.size + 1 → (W.setCell ⟨w.heap.size + 1, 0, none⟩ u).heap[k]? = W.heap[k]? := fun k hk => Below.heap_setCell W ⟨w.heap.size + 1, 0, none⟩ u k hk
  exact ⟨h.hB.setCell (p := ⟨w.heap.size + 1, 0, none⟩) (show w.heap.size ≤ w.heap.size + 1 by omega) _, h.hz, (hm _ (by omega)).trans h.b0, blk_put h.b1 0 u rfl, (hm _ (by omega)).trans h.bw, (hm _ (by omega)).trans h.bs,
    h.hw.step (fun k hk hk2 => hm k (by omega)) hz, h.hq.step hz (fun k hk => hm k (by have := h.rz k hk; omega)), h.zl, h.zw, h.hl, h.ws, h.rz, Nat.le_trans h.zs hz⟩
/-- with the counter -/
structure MB (w : World) (kk : Int) (Bw Bs z lo hi : Nat) (Aw : Option Addr) (nw cw : Nat) (g : Nat) (lb : Array Value) (Rd : Nat → Prop) (L : List (Int × List Int)) (Bn : Nat) (r n : Value) (W : World) : Prop where
  ma : MA w kk Bw Bs z lo hi Aw nw cw g lb Rd L r W
  bn : W.heap[Bn]? = some (.cells #[n] 3 (0, 0))
  sn : Bs < Bn
  zn : Bn + 1 ≤ W.heap.size
theorem MB.new (h : MA w kk Bw Bs z lo hi Aw nw cw g lb Rd L r W) : MB w kk Bw Bs z lo hi Aw nw cw g lb Rd L W.heap.size r n (W.alloc (.cells #[n] 3 (0, 0))) :=
  ⟨h.keep (below_alloc (Below.refl _ _) _), blk_new _ _, h.zs, by simp⟩
theorem MB.grow {M : Nat → Prop} (h : MB w kk Bw Bs z lo hi Aw nw cw g lb Rd L Bn r n W) (hg : Grow M W W1) (hM : ∀ k, M k → Bn + 1 ≤ k) : MB w kk Bw Bs z lo hi Aw nw cw g lb Rd L Bn r n W1 := by
  have hb : Below (Bn + 1) W W1 := hg.below h.zn hM
  have h1 := h.sn
  exact ⟨h.ma.grow hg (fun k hk => by have := hM k hk; omega), (hb.block Bn (by omega)).trans h.bn, h.sn, Nat.le_trans h.zn hg.size⟩
theorem MB.keep (h : MB w kk Bw Bs z lo hi Aw nw cw g lb Rd L Bn r n W) (k : Below W.heap.size W W1) : MB w kk Bw Bs z lo hi Aw nw cw g lb Rd L Bn r n W1 := h.grow (M := fun _ => False) (Grow.of_below k) (fun _ h => h.elim)
theorem MB.put (h : MB w kk Bw Bs z lo hi Aw nw cw g lb Rd L Bn r n W) (u : Value) : MB w kk Bw Bs z lo hi Aw nw cw g lb Rd L Bn r u (W.setCell ⟨Bn, 0, none⟩ u) :=
  ⟨h.ma.far (p := ⟨Bn, 0, none⟩) (.inr h.sn) u, blk_put h.bn 0 u rfl, h.sn, Nat.le_trans h.zn ((Below.refl 0 W).setCell (p := ⟨Bn, 0, none⟩) (Nat.zero_le _) u).size⟩
theorem MB.set (h : MB w kk Bw Bs z lo hi Aw nw cw g lb Rd L Bn r n W) (u : Value) : MB w kk Bw Bs z lo hi Aw nw cw g lb Rd L Bn u n (W.setCell ⟨w.heap.size + 1, 0, none⟩ u) :=
  ⟨h.ma.set u, blk_far h.bn (by have := h.sn; have := h.ma.ws; have := h.ma.zw; have := h.ma.hz; simp; omega) _, h.sn, Nat.le_trans h.zn ((Below.refl 0 W).setCell (p := ⟨w.heap.size + 1, 0, none⟩) (Nat.zero_le _) u).size⟩
end
/-- with the first loop's mark -/
structure MC (w : World) (kk : Int) (Bw Bs z lo hi : Nat) (Aw : Option Addr) (nw cw : Nat) (g : Nat) (lb : Array Value) (Rd : Nat → Prop) (L : List (Int × List Int)) (Bn D1 : Nat) (r n : Value) (W : World) : Prop where
  mb : MB w kk Bw Bs z lo hi Aw nw cw g lb Rd L Bn r n W
  hd : W.heap[D1]? = some (.deferred (some []))
  nd : Bn < D1
  zd : D1 + 1 ≤ W.heap.size
section
variable {w : World} {kk : Int} {Bw Bs z lo hi Bn D1 : Nat} {Aw : Option Addr} {nw cw g : Nat} {lb : Array Value} {Rd : Nat → Prop} {L : List (Int × List Int)} {r n : Value} {W W1 : World}
theorem MC.grow {M : Nat → Prop} (h : MC w kk Bw Bs z lo hi Aw nw cw g lb Rd L Bn D1 r n W) (hg : Grow M W W1) (hM : ∀ k, M k → D1 + 1 ≤ k) : MC w kk Bw Bs z lo hi Aw nw cw g lb Rd L Bn D1 r n W1 := by
  have hb : Below (D1 + 1) W W1 := hg.below h.zd hM
  have h1 := h.nd
  exact ⟨h.mb.grow hg (fun k hk => by have := hM k hk; omega), (hb.block D1 (by omega)).trans h.hd, h.nd, Nat.le_trans h.zd hg.size⟩
theorem MC.keep (h : MC w kk Bw Bs z lo hi Aw nw cw g lb Rd L Bn D1 r n W) (k : Below W.heap.size W W1) : MC w kk Bw Bs z lo hi Aw nw cw g lb Rd L Bn D1 r n W1 := h.grow (M := fun _ => False) (Grow.of_below k) (fun _ h => h.elim)
theorem MC.put (h : MC w kk Bw Bs z lo hi Aw nw cw g lb Rd L Bn D1 r n W) (u : Value) : MC w kk Bw Bs z lo hi Aw nw cw g lb Rd L Bn D1 r u (W.setCell ⟨Bn, 0, none⟩ u) :=
  ⟨h.mb.put u, (Below.heap_setCell W ⟨Bn, 0, none⟩ u D1 (by have := h.nd; show D1 ≠ Bn; omega)).trans h.hd, h.nd, Nat.le_trans h.zd ((Below.refl 0 W).setCell (p := ⟨Bn, 0, none⟩) (Nat.zero_le _) u).size⟩
theorem MC.set (h : MC w kk Bw Bs z lo hi Aw nw cw g lb Rd L Bn D1 r n W) (u : Value) : MC w kk Bw Bs z lo hi Aw nw cw g lb Rd L Bn D1 u n (W.setCell ⟨w.heap.size + 1, 0, none⟩ u) :=
  ⟨h.mb.set u, (Below.heap_setCell W ⟨w.heap.size + 1, 0, none⟩ u D1 (by have := h.nd; have := h.mb.sn; have := h.mb.ma.ws; have := h.mb.ma.zw; have := h.mb.ma.hz; show D1 ≠ w.heap.size + 1; omega)).trans h.hd, h.nd, Nat.le_trans h.zd ((Below.refl 0 W).setCell (p := ⟨w.heap.size + 1, 0, none⟩) (Nat.zero_le _) u).size⟩
end
/-- the sequence gives the list, once more -/
theorem MB.gives {w : World} {kk : Int} {Bw Bs z lo hi Bn : Nat} {Aw : Option Addr} {nw cw g : Nat} {lb : Array Value} {Rd : Nat → Prop} {L : List (Int × List Int)} {r n : Value} {W : World} (h : MB w kk Bw Bs z lo hi Aw nw cw g lb Rd L Bn r n W) (hn : nw = L.length) (hL : L.length ≤ 4194304 ∧ ∀ p ∈ L, p.2.length ≤ 2097152) (hc : nw ≤ cw) (eg : ∀ (args : Array Value) (W : World), (callFunc g args).run Try.prog W = .ok (.enter g args) W) :
    Calls Try.prog 49 #[.func (.func g) #[] lb, .slice Aw nw cw] W fun e w' => e = .returned (.bool true) ∧ Below W.heap.size W w' :=
  gives_calls g lb Rd L Aw nw cw lo hi W hn h.ma.hw hL.1 (by omega) hL.2 h.ma.hq.now eg h.ma.hq.1
/-- the sequence, of whatever lists -/
theorem seq_calls (A0 A1 : Option Addr) (c0 c1 : Nat) (a b : List Int) (w : World) (hr0 : Kd.C (Kd.int .i64) w A0 a.length a) (hr1 : Kd.C (Kd.int .i64) w A1 b.length b) (hc0 : a.length ≤ c0) (hc1 : b.length ≤ c1)
    (hn0 : a.length ≤ 17592186044416) (hn1 : b.length ≤ 17592186044416) :
    Calls Try.prog 48 #[.slice A0 a.length c0, .slice A1 b.length c1] w fun e w' => ∃ (g : Nat) (lb : Array Value) (Rd : Nat → Prop), e = .returned (.func (.func g) #[] lb) ∧ SQ g lb Rd (wantOf a b) w' ∧ (∀ k, Rd k → w.heap.size ≤ k) ∧ (∀ (args : Array Value) (W : World), (callFunc g args).run Try.prog W = .ok (.enter g args) W) ∧ Below w.heap.size w w' := by
  cases hs : (sound a && sound b) with
  | false =>
    refine (resolvents_bad A0 A1 c0 c1 a b w hr0 hr1 hn0 hn1 hs).mono ?_
    rintro e w' ⟨rfl, hb⟩
    refine ⟨_, _, fun _ => False, rfl, ?_, fun k h => h.elim, enters_of Try.func70 (by kernel_rfl) rfl, hb⟩
    have e : wantOf a b = [] := by unfold wantOf; rw [hs]; rfl
    rw [e]
    exact SQ.none
  | true =>
    have hs2 := (Bool.and_eq_true _ _).mp hs
    refine (resolvents_good A0 A1 c0 c1 a b w hr0 hr1 hc0 hc1 hn0 hn1 hs2.1 hs2.2).mono ?_
    rintro e w' ⟨Bx, By, gx, cx, gy, cy, rfl, hT, hxy, hb⟩
    refine ⟨_, _, fun k => k = Bx ∨ k = By ∨ k = gx ∨ k = gy, rfl, ?_, ?_, enters_of Try.func71 (by kernel_rfl) rfl, hb⟩
    · have e : wantOf a b = weave (tidyOf a) (tidyOf b) := by unfold wantOf; rw [hs]; rfl
      rw [e]
      exact SQ.two hT
    · have h4 := own_base hT.ox gx rfl
      have h5 := own_base hT.oy gy rfl
      rintro k (rfl | rfl | rfl | rfl)
      · exact hxy.1
      · exact hxy.2
      · exact h4
      · exact h5
theorem nil_seq' (g : Nat) (lb : Array Value) (W : World) : (binOp .eql 43 (.func (.func g) #[] lb) .nilFunc).run Try.prog W = .ok (.bool false) W := by kernel_rfl

set_option maxRecDepth 100000 in
set_option maxHeartbeats 8000000 in
theorem meets_calls (A0 A1 : Option Addr) (c0 c1 : Nat) (a b : List Int) (kk : Int) (w : World) (hra : Kd.C (Kd.int .i64) w A0 a.length a) (hca : a.length ≤ c0) (hrb : Kd.C (Kd.int .i64) w A1 b.length b) (hcb : b.length ≤ c1)
    (na : a.length < 17592186044416) (nb : b.length < 17592186044416) (hv : -9223372036854775808 ≤ kk ∧ kk ≤ 9223372036854775807) :
    Calls Try.prog 12 #[.slice A0 a.length c0, .slice A1 b.length c1, .int .i64 kk] w fun e w' => e = .returned (.bool true) ∧ Below w.heap.size w w' := by
  have HRA := Aside0.mk hra
  have HRB := Aside0.mk hrb
  have HNN := Aside0.mk (And.intro na nb)
  have HCC := Aside0.mk (And.intro hca hcb)
  have HV := Aside0.mk hv
  clear hra hrb na nb hca hcb hv
  refine (callsIn_wide (n := 12)).1 ?_
  refine callsIn_of_wp_marks Try.func12 rfl trivial ?_ rfl
  simp only [Try.ntmps12, List.size_toArray, List.length_cons, List.length_nil, Nat.reduceAdd, Nat.reduceSub, Array.replicate_succ, Array.replicate_zero, List.push_toArray, List.append_toArray, List.nil_append, List.cons_append]
  gi_wp2
  have hB0 : Below w.heap.size w ((w.alloc (.cells #[.int .i64 kk] 3)).alloc (.cells #[.bool false] 4)) := by repeat (first | exact Below.refl _ _ | apply below_alloc)
  have b0 : ((w.alloc (.cells #[.int .i64 kk] 3)).alloc (.cells #[.bool false] 4)).heap[w.heap.size]? = some (.cells #[.int .i64 kk] 3 (0, 0)) := blk_alloc (blk_new _ _) _
  have b1 : ((w.alloc (.cells #[.int .i64 kk] 3)).alloc (.cells #[.bool false] 4)).heap[w.heap.size + 1]? = some (.cells #[.bool false] 4 (0, 0)) := by
    have := blk_new (w.alloc (.cells #[.int .i64 kk] 3 (0, 0))) (.cells #[.bool false] 4 (0, 0))
    simpa using this
  have hz0 : ((w.alloc (.cells #[.int .i64 kk] 3)).alloc (.cells #[.bool false] 4)).heap.size = w.heap.size + 2 := by simp
  generalize hV0 : (w.alloc (.cells #[.int .i64 kk] 3)).alloc (.cells #[.bool false] 4) = V0 at hB0 b0 b1 hz0 ⊢
  clear hV0
  refine ⟨trivial, ?_⟩
  (with_reducible refine (callsIn_wide.2 (mcopied_calls A0 c0 a _ (Kd.C_below HRA.out hB0) HCC.out.1 HNN.out.1)).mono ?_)
  rintro e V1 ⟨u1, rfl, hu, h1⟩
  obtain ⟨Ax, cx, rfl⟩ := Kd.R_slice hu
  have X1 := R_own hu
  have hB1 := below_step hB0 h1
  replace b0 := blk_below b0 h1
  replace b1 := blk_below b1 h1
  have HB0 := Aside0.mk (And.intro hB1 (And.intro b0 (And.intro b1 (And.intro hz0 h1.size))))
  have HX1 := Aside0.mk X1
  clear hu h1 hB0 hB1 b0 b1 hz0 X1
  gi_wp2
  refine ⟨trivial, ?_⟩
  (with_reducible refine (callsIn_wide.2 (mcopied_calls A1 c1 b _ (Kd.C_below HRB.out HB0.out.1) HCC.out.2 HNN.out.2)).mono ?_)
  rintro e V2 ⟨u2, rfl, hu, h2⟩
  obtain ⟨Ay, cy, rfl⟩ := Kd.R_slice hu
  have HY2 := Aside0.mk (R_own hu)
  have HX2 : Aside0 (OwnInts V2 V0.heap.size (.slice Ax a.length cx) a) := ⟨own_move HX1.out fun k hk => h2.block k (own_lt HX1.out k hk)⟩
  have HB2 : Aside0 (Below w.heap.size w V2 ∧ V2.heap[w.heap.size]? = some (.cells #[.int .i64 kk] 3 (0, 0)) ∧ V2.heap[w.heap.size + 1]? = some (.cells #[.bool false] 4 (0, 0)) ∧ V0.heap.size = w.heap.size + 2 ∧ V0.heap.size ≤ V1.heap.size ∧ V1.heap.size ≤ V2.heap.size) := by
    obtain ⟨q1, q2, q3, q4, q5⟩ := HB0.out
    exact ⟨below_step q1 h2, blk_below q2 h2, blk_below q3 h2, q4, q5, h2.size⟩
  have HXV : Aside0 (∀ k, (Value.slice Ax a.length cx).ownBlock = some k → k < V1.heap.size) := ⟨fun k hk => own_lt HX1.out k hk⟩
  clear hu h2 HB0 HX1
  gi_wp2
  refine ⟨trivial, ?_⟩
  (with_reducible refine (callsIn_wide.2 (mcopied_calls A0 c0 a _ (Kd.C_below HRA.out HB2.out.1) HCC.out.1 HNN.out.1)).mono ?_)
  rintro e V3 ⟨u3, rfl, hu3, h3⟩
  obtain ⟨A3, c3, rfl⟩ := Kd.R_slice hu3
  have HU3 := Aside0.mk (Kd.R_reads' hu3).2
  have HV3 := Aside0.mk h3
  clear hu3 h3
  gi_wp2
  refine ⟨trivial, ?_⟩
  (with_reducible refine (callsIn_wide.2 (mcopied_calls A1 c1 b _ (Kd.C_below HRB.out (below_step HB2.out.1 HV3.out)) HCC.out.2 HNN.out.2)).mono ?_)
  rintro e V4 ⟨u4, rfl, hu4, h4⟩
  obtain ⟨A4, c4, rfl⟩ := Kd.R_slice hu4
  have HU4 := Aside0.mk (Kd.R_reads' hu4).2
  have HV4 := Aside0.mk (below_step HV3.out h4)
  replace HU3 := Aside0.mk (And.intro HU3.out.1 (Kd.C_below HU3.out.2 h4))
  clear hu4 h4
  gi_wp2
  refine ⟨trivial, ?_⟩
  (with_reducible refine (callsIn_wide.2 (want_calls A3 A4 c3 c4 a b _ HU3.out.2 HU3.out.1 HU4.out.2 HU4.out.1 (by have := HNN.out.1; omega) (by have := HNN.out.2; omega))).mono ?_)
  rintro e V5 ⟨Aw, cw, rfl, hcw, hW5, h5⟩
  have HV5 := Aside0.mk (below_step HV4.out h5)
  have HW5 := Aside0.mk (And.intro hcw (And.intro hW5 (And.intro HV4.out.size h5.size)))
  obtain ⟨L, hL⟩ : ∃ L, L = wantOf a b := ⟨_, rfl⟩
  rw [← hL] at HW5 ⊢
  obtain ⟨nw, hnw⟩ : ∃ nw, nw = (L.map mkP).length := ⟨_, rfl⟩
  rw [← hnw] at HW5 ⊢
  have HL := Aside0.mk (And.intro hL hnw)
  have HCW := Aside0.mk HW5.out.1
  clear hcw hW5 h5 HV3 HV4 HU3 HU4 hL hnw
  gi_wp2
  have h6 : Below V5.heap.size V5 (V5.alloc (.cells #[.slice Aw nw cw] 40)) := below_alloc (Below.refl _ _) _
  have hbw : (V5.alloc (.cells #[.slice Aw nw cw] 40)).heap[V5.heap.size]? = some (.cells #[.slice Aw nw cw] 40 (0, 0)) := blk_new _ _
  obtain ⟨Bw, hBw⟩ : ∃ Bw, Bw = V5.heap.size := ⟨_, rfl⟩
  have hz6 : (V5.alloc (.cells #[.slice Aw nw cw] 40)).heap.size = Bw + 1 := by rw [hBw]; simp
  rw [← hBw] at hbw ⊢
  generalize hV6 : V5.alloc (.cells #[.slice Aw nw cw] 40) = V6 at h6 hbw hz6 ⊢
  have HV6 := Aside0.mk (below_step HV5.out h6)
  have HBW := Aside0.mk (And.intro hbw (And.intro hz6 (And.intro hBw h6)))
  clear hV6 hbw hz6 hBw h6
  refine ⟨trivial, ?_⟩
  (with_reducible refine (callsIn_wide.2 (seq_calls Ax Ay cx cy a b _ (Kd.C_below (Kd.R_reads' (own_R HX2.out)).2.2 HV6.out) (Kd.C_below (Kd.R_reads' (own_R HY2.out)).2.2 HV6.out) (Kd.R_reads' (own_R HX2.out)).2.1 (Kd.R_reads' (own_R HY2.out)).2.1 (by have := HNN.out.1; omega) (by have := HNN.out.2; omega))).mono ?_)
  rintro e V7 ⟨g, lb, Rd, rfl, hsq, hrd, eg, h7⟩
  rw [← HL.out.1] at hsq
  have HS7 := Aside0.mk (And.intro hsq (And.intro hrd h7))
  clear hsq hrd h7
  have nf := fun W => nil_seq' g lb W
  gi_wp2
  clear nf
  have HA : Aside0 (MA w kk Bw V7.heap.size V2.heap.size V4.heap.size Bw Aw nw cw g lb Rd L (.bool false) (V7.alloc (.cells #[.func (.func g) #[] lb] 43)) ∧ Below V2.heap.size V2 (V7.alloc (.cells #[.func (.func g) #[] lb] 43))) := by
    obtain ⟨hsq, hrd, h7⟩ := HS7.out
    obtain ⟨hbw, hz6, hBw, h6⟩ := HBW.out
    obtain ⟨q1, q2, q3, q4, q5, q6⟩ := HB2.out
    obtain ⟨hcw, hw5, hl1, hl2⟩ := HW5.out
    have h8 : Below V7.heap.size V7 (V7.alloc (.cells #[.func (.func g) #[] lb] 43)) := below_alloc (Below.refl _ _) _
    have h28 := below_step (below_step HV6.out h7) h8
    have h68 := below_step h7 h8
    rw [← hBw] at hw5 hl2 h6
    have s7 := h7.size
    refine ⟨⟨below_step q1 h28, by omega, blk_below q2 h28, blk_below q3 h28, blk_below hbw h68, blk_new _ _, (hw5.keep (by rw [← hBw]; exact h6)).keep h68, hsq.step h8.size (fun k hk => h8.block k (hsq.1 k hk)), hl1, by omega, Nat.le_refl _, by omega, fun k hk => ⟨by have := hrd k hk; omega, hsq.1 k hk⟩, by simp⟩, h28⟩
  have HX : Aside0 (OwnInts (V7.alloc (.cells #[.func (.func g) #[] lb] 43)) V0.heap.size (.slice Ax a.length cx) a ∧ OwnInts (V7.alloc (.cells #[.func (.func g) #[] lb] 43)) V1.heap.size (.slice Ay b.length cy) b) := ⟨own_move HX2.out fun k hk => HA.out.2.block k (own_lt HX2.out k hk), own_move HY2.out fun k hk => HA.out.2.block k (own_lt HY2.out k hk)⟩
  have HXB : Aside0 ((∀ k, (Value.slice Ax a.length cx).ownBlock = some k → w.heap.size + 2 ≤ k ∧ k < V1.heap.size) ∧ (∀ k, (Value.slice Ay b.length cy).ownBlock = some k → V1.heap.size ≤ k ∧ w.heap.size + 2 ≤ k ∧ k < V2.heap.size) ∧ V1.heap.size ≤ V2.heap.size) := by
    obtain ⟨q1, q2, q3, q4, q5, q6⟩ := HB2.out
    refine ⟨fun k hk => ⟨by have := own_base HX2.out k hk; omega, HXV.out k hk⟩, fun k hk => ?_, q6⟩
    have := own_base HY2.out k hk
    exact ⟨this, by omega, own_lt HY2.out k hk⟩
  obtain ⟨Bs, hBs⟩ : ∃ Bs, Bs = V7.heap.size := ⟨_, rfl⟩
  obtain ⟨z, hz⟩ : ∃ z, z = V2.heap.size := ⟨_, rfl⟩
  replace HA := Aside0.mk HA.out.1
  rw [← hBs, ← hz] at HA
  rw [← hz] at HXB
  rw [← hBs]
  generalize hV8 : V7.alloc (.cells #[.func (.func g) #[] lb] 43) = V8 at HA HX ⊢
  have HZ1 := Aside0.mk HX2.out.1
  have HZ2 := Aside0.mk HY2.out.1
  clear hBs hz hV8 HS7 HBW HV6 HV5 HW5 HB2 HX2 HY2 HXV
  gi_loopw [11] (fun v11 wr => ∃ (k : Nat) (t : List Int), v11 = .int .i64 k ∧ Aside0 (k ≤ a.length ∧ t.length = a.length) ∧ Aside0 (OwnInts wr V0.heap.size (.slice Ax a.length cx) t ∧ OwnInts wr V1.heap.size (.slice Ay b.length cy) b) ∧ Aside0 (MA w kk Bw Bs z V4.heap.size Bw Aw nw cw g lb Rd L (.bool false) wr)) (fun v11 _ => a.length - (intOf v11).toNat)
  case atStart => exact ⟨0, a, rfl, ⟨Nat.zero_le _, rfl⟩, HX, HA⟩
  case round =>
    obtain ⟨k, t, rfl, HK, HO, HM⟩ := hrel
    clear HA HX
    by_cases hk : k < a.length
    · have hki : (0 : Int) ≤ (k : Int) := by omega
      have hkn : (k : Int) < (a.length : Int) := by omega
      obtain ⟨g0, c0, hv0, hb0, hblk⟩ := own_form HO.out.1 (by have := HK.out.2; omega)
      injection hv0 with eA _ ec
      subst eA
      subst ec
      have hc0 := own_at (i := k) HO.out.1 (by have := HK.out.2; omega)
      obtain ⟨cc, hblk⟩ := hblk
      have hy0 := blk_frozen hblk k
      have HLT := Aside0.mk hk
      have HG0 := Aside0.mk (HXB.out.1 g0 (by simp [Value.ownBlock]))
      clear hk hblk hb0
      gi_wp2
      go_roundw
      case rel =>
        refine ⟨k + 1, _, by rw [w64s (show (k : Int) < 9223372036854775807 by have := HNN.out.1; have := HLT.out; omega)], ⟨?_, ?_⟩, ⟨own_set1 HO.out.1 HK.out.2.symm k _, ?_⟩, ⟨HM.out.far (p := ⟨g0, k, none⟩) (.inl ⟨HG0.out.1, Nat.lt_of_lt_of_le HG0.out.2 HXB.out.2.2⟩) _⟩⟩
        · have := HLT.out; omega
        · have := HK.out.2; simp [this]
        · exact own_move HO.out.2 fun j hj => Below.heap_setCell wr ⟨g0, k, none⟩ _ j (by have := (HXB.out.2.1 j hj).1; have := HG0.out.2; show j ≠ g0; omega)
      case measure => have := HLT.out; rw [w64s (show (k : Int) < 9223372036854775807 by have := HNN.out.1; omega)]; simp [intOf]; omega
    · have HY := Aside0.mk HO.out.2
      clear HO HK
      gi_wp2
      obtain ⟨wo, rfl⟩ : ∃ wo : World, wo = wr := ⟨_, rfl⟩
      gi_loopw [12] (fun v12 wr => ∃ (k : Nat) (t : List Int), v12 = .int .i64 k ∧ Aside0 (k ≤ b.length ∧ t.length = b.length) ∧ Aside0 (OwnInts wr V1.heap.size (.slice Ay b.length cy) t) ∧ Aside0 (MA w kk Bw Bs z V4.heap.size Bw Aw nw cw g lb Rd L (.bool false) wr)) (fun v12 _ => b.length - (intOf v12).toNat)
      case atStart => exact ⟨0, b, rfl, ⟨Nat.zero_le _, rfl⟩, HY, HM⟩
      case round =>
        obtain ⟨k2, t2, rfl, HK, HO, HM⟩ := hrel
        clear HY
        by_cases hk : k2 < b.length
        · have hki : (0 : Int) ≤ (k2 : Int) := by omega
          have hkn : (k2 : Int) < (b.length : Int) := by omega
          obtain ⟨g0, c0, hv0, hb0, hblk⟩ := own_form HO.out (by have := HK.out.2; omega)
          injection hv0 with eA _ ec
          subst eA
          subst ec
          have hc0 := own_at (i := k2) HO.out (by have := HK.out.2; omega)
          obtain ⟨cc, hblk⟩ := hblk
          have hy0 := blk_frozen hblk k2
          have HLT := Aside0.mk hk
          have HG0 := Aside0.mk (HXB.out.2.1 g0 (by simp [Value.ownBlock]))
          clear hk hblk hb0
          gi_wp2
          go_roundw
          case rel =>
            refine ⟨k2 + 1, _, by rw [w64s (show (k2 : Int) < 9223372036854775807 by have := HNN.out.2; have := HLT.out; omega)], ⟨?_, ?_⟩, ⟨own_set1 HO.out HK.out.2.symm k2 _⟩, ⟨HM.out.far (p := ⟨g0, k2, none⟩) (.inl HG0.out.2) _⟩⟩
            · have := HLT.out; omega
            · have := HK.out.2; simp [this]
          case measure => have := HLT.out; rw [w64s (show (k2 : Int) < 9223372036854775807 by have := HNN.out.2; omega)]; simp [intOf]; omega
        · clear HO HK
          gi_upto_region 16 with fail
          have hN0 := MB.new (n := .int .i64 0) HM.out
          obtain ⟨Bn, hBn⟩ : ∃ Bn, Bn = wr.heap.size := ⟨_, rfl⟩
          rw [← hBn] at hN0 ⊢
          generalize wr.alloc (.cells #[.int .i64 0] 3) = WN at hN0 ⊢
          have HN := Aside0.mk hN0
          clear hN0 hBn HM
          have fs := (blk_cell HN.out.ma.bs 0).trans rfl
          gi_wp2
          clear fs
          rename_i K1 hK1
          have HNW0 := Aside0.mk HL.out.2
          have HSM : Aside0 (L.length ≤ 4194304 ∧ ∀ p ∈ L, p.2.length ≤ 2097152) := ⟨by rw [HL.out.1]; exact weave_small a b⟩
          have key : ∀ (W : World) (n : Nat), ((n : Int) = (nw : Int) ∨ 0 ≤ kk) → MB w kk Bw Bs z V4.heap.size Bw Aw nw cw g lb Rd L Bn (.bool false) (.int .i64 n) W → W.heap[WN.heap.size]? = some (.deferred (some [])) → K1 { tmps := #[Value.slice A0 a.length c0, Value.slice A1 b.length c1, Value.int IntKind.i64 kk, undef, undef, Value.pointer (some { block := w.heap.size, off := 0 }), Value.pointer (some { block := w.heap.size + 1, off := 0 }), Value.slice Ax a.length cx, Value.slice Ay b.length cy, Value.pointer (some { block := Bw, off := 0 }), Value.pointer (some { block := Bs, off := 0 }), Value.int IntKind.i64 ↑k, Value.int IntKind.i64 ↑k2, Value.pointer (some { block := Bn, off := 0 }), undef, undef, undef, undef, Value.slice A0 a.length c0, Value.slice Ax a.length cx, Value.slice A1 b.length c1, Value.slice Ay b.length cy, Value.slice A0 a.length c0, Value.slice A3 a.length c3, Value.slice A1 b.length c1, Value.slice A4 b.length c4, Value.slice Aw nw cw, Value.slice Ax a.length cx, Value.slice Ay b.length cy, Value.func (Fn.func g) #[] lb, Value.func (Fn.func g) #[] lb, Value.bool false, Value.int IntKind.i64 ↑k, Value.slice Ax a.length cx, Value.int IntKind.i64 ↑a.length, Value.bool false, u36, u37, u38, u39, u40, Value.int IntKind.i64 ↑k2, Value.slice Ay b.length cy, Value.int IntKind.i64 ↑b.length, Value.bool false, u45, u46, u47, u48, u49, Value.func (Fn.func g) #[] lb, undef, undef, undef, undef, undef, undef, undef, undef, undef, undef, undef, undef, undef, undef, undef, undef, undef, undef, undef, undef, undef, undef, undef, undef, undef, undef, undef, undef, undef, undef, undef, undef, undef, undef, undef, undef, undef, undef, undef, undef, undef, undef, undef, undef, undef, undef, undef, undef, undef, undef, undef, undef, undef, undef, undef, undef, undef, undef, undef, undef, undef, undef, undef, undef, undef, undef, undef, undef, undef, undef, undef, undef, undef, undef, undef, undef, undef, undef, undef, undef, undef, undef, undef, undef, undef], defers := [{ target := .collected WN.heap.size, args := #[] }] } W := by
            intro W n hcase hM hD
            refine hK1 _ _ ?_
            dsimp only
            have HM := Aside0.mk hM
            have HD := Aside0.mk hD
            clear hM hD
            gi_step
            gi_cut [] from 18 (fun wc => Aside0 (MB w kk Bw Bs z V4.heap.size Bw Aw nw cw g lb Rd L Bn (.bool false) (.int .i64 n) wc) ∧ Aside0 (wc.heap[WN.heap.size]? = some (.deferred (some []))))
            case first =>
              have fk := (blk_cell HM.out.ma.b0 0).trans rfl
              have fn := (blk_cell HM.out.bn 0).trans rfl
              have fw := (blk_cell HM.out.ma.bw 0).trans rfl
              by_cases hk0 : kk < 0
              · have en : (n : Int) = (nw : Int) := hcase.resolve_right (by omega)
                have p1 : decide (kk < 0) = true := decide_eq_true hk0
                have p2 : ((n : Int) == (nw : Int)) = true := beq_iff_eq.2 en
                have p3 : ((n : Int) != (nw : Int)) = false := by simp [bne, p2]
                clear en hk0 hcase
                gi_wp2
                gi_meet
                case rel => exact ⟨HM, HD⟩
              · have p1 : decide (kk < 0) = false := decide_eq_false hk0
                clear hk0 hcase
                gi_wp2
                gi_meet
                case rel => exact ⟨HM, HD⟩
            case rest =>
              clear HM HD
              obtain ⟨HM, HD⟩ := hcut
              clear hcase
              have HG := Aside0.mk (MB.gives HM.out (by rw [HNW0.out, List.length_map]) HSM.out HCW.out eg)
              have fw := (blk_cell HM.out.ma.bw 0).trans rfl
              have fs := (blk_cell HM.out.ma.bs 0).trans rfl
              gi_wp2
              refine ⟨trivial, ?_⟩
              (with_reducible refine (callsIn_wide.2 HG.out).mono ?_)
              rintro e W1 ⟨rfl, hb⟩
              have HC1 : Aside0 (MC w kk Bw Bs z V4.heap.size Bw Aw nw cw g lb Rd L Bn WN.heap.size (.bool false) (.int .i64 n) W1) := ⟨⟨HM.out.keep hb, (hb.block _ (Array.getElem?_eq_some_iff.1 HD.out).1).trans HD.out, HN.out.zn, Nat.le_trans (Array.getElem?_eq_some_iff.1 HD.out).1 hb.size⟩⟩
              clear hb fw fs HG HM HD
              have yn := blk_frozen HC1.out.mb.bn 0
              have fn := (blk_cell HC1.out.mb.bn 0).trans rfl
              gi_upto_region 28 with fail
              have hC2 := HC1.out.put (.int .i64 (0 : Nat))
              have e0 : (.int .i64 ((0 : Nat) : Int) : Value) = .int .i64 0 := rfl
              rw [e0] at hC2
              generalize W1.setCell ⟨Bn, 0, none⟩ (.int .i64 0) = W2 at hC2 ⊢
              have HC2 := Aside0.mk hC2
              clear hC2 HC1 yn fn e0
              have fs := (blk_cell HC2.out.mb.ma.bs 0).trans rfl
              gi_wp2
              clear fs
              have ownI : OwnD (fun (M : Nat → Prop) (pre : List (Int × Value × List Int)) (W : World) => (∀ k, M k → WN.heap.size + 1 ≤ k) ∧ MC w kk Bw Bs z V4.heap.size Bw Aw nw cw g lb Rd L Bn WN.heap.size (.bool false) (.int .i64 (pre.length : Nat)) W ∧ pre.map p13 <+: L) := fun M M1 pre A B h hg hm => ⟨fun k hk => by rcases hm k hk with h1 | h1; exact h.1 k h1; exact Nat.le_trans h.2.1.zd h1.1, h.2.1.grow hg h.1, h.2.2⟩
              refine wpIn_range_own (by decide) (gf := g) (lb := lb) rfl rfl trivial eg HC2.out.mb.ma.hq.now HandI.move HC2.out.mb.ma.hq.1 (Below.refl _ _) (fun _ => rfl)
                (fun (M : Nat → Prop) (pre : List (Int × Value × List Int)) (W : World) => (∀ k, M k → WN.heap.size + 1 ≤ k) ∧ MC w kk Bw Bs z V4.heap.size Bw Aw nw cw g lb Rd L Bn WN.heap.size (.bool false) (.int .i64 (pre.length : Nat)) W ∧ pre.map p13 <+: L)
                (fun c (M : Nat → Prop) (pre : List (Int × Value × List Int)) (W : World) => ¬ pre.map p13 <+: L)
                ownI (fun c M M1 pre A B h _ _ => h) ⟨fun _ h => h.elim, HC2.out, List.nil_prefix⟩
                (fun p => { tmps := #[Value.slice A0 a.length c0, Value.slice A1 b.length c1, Value.int IntKind.i64 kk, undef, undef, Value.pointer (some { block := w.heap.size, off := 0 }), Value.pointer (some { block := w.heap.size + 1, off := 0 }), Value.slice Ax a.length cx, Value.slice Ay b.length cy, Value.pointer (some { block := Bw, off := 0 }), Value.pointer (some { block := Bs, off := 0 }), Value.int IntKind.i64 ↑k, Value.int IntKind.i64 ↑k2, Value.pointer (some { block := Bn, off := 0 }), undef, undef, .int .i64 p.1, p.2.1, u18, u19, u20, u21, u22, u23, u24, u25, u26, u27, u28, u29, u30, u31, u32, u33, u34, u35, u36, u37, u38, u39, u40, u41, u42, u43, u44, u45, u46, u47, u48, u49, u50, u51, u52, u53, u54, u55, u56, u57, u58, u59, u60, u61, u62, u63, u64, u65, u66, u67, u68, u69, u70, u71, u72, u73, u74, u75, u76, u77, u78, u79, u80, u81, u82, u83, u84, u85, u86, u87, u88, Value.func (Fn.func g) #[] lb, Value.slice Aw nw cw, Value.bool true, Value.bool false, Value.func (Fn.func g) #[] lb, .int .i64 p.1, p.2.1, u96, u97, u98, u99, u100, u101, u102, u103, u104, u105, u106, u107, u108, u109, u110, u111, u112, u113, u114, u115, u116, u117, u118, u119, u120, u121, u122, u123, u124, u125, u126, u127, u128, u129, u130, u131, u132, u133, u134, u135], defers := [] }) ?assign ?body ?done ?stop
              case assign =>
                intro l x W K hK
                gi_wp2
                first | exact hK | simpa using hK
              case body =>
                rintro li M M1 pre ⟨x, u, s⟩ A5 W5 hI hg hm hsub hMD hML hsz hHd hlen
                obtain ⟨hM1, hF, hP⟩ := ownI _ _ _ _ _ hI hg hm
                obtain ⟨ho, hnm, hfs, hls⟩ := hHd
                replace ho : OwnInts W5 A5.heap.size u s := ho
                replace hls : s.length ≤ 2097152 := hls
                obtain ⟨As, cs, rfl⟩ := Kd.R_slice (own_R ho)
                have HC := Aside0.mk (Kd.R_reads' (own_R ho)).2
                have HF := Aside0.mk hF
                have HM1 := Aside0.mk hM1
                have HP := Aside0.mk hP
                have HS := Aside0.mk hls
                have HL5 := Aside0.mk hlen
                have HAPB : Aside0 (¬ (M1 (w.heap.size + 1) ∨ Rd (w.heap.size + 1))) := ⟨fun h => by
                  have h0 := hF.nd; have h1 := hF.mb.sn; have h2 := hF.mb.ma.ws; have h3 := hF.mb.ma.zw; have h4 := hF.mb.ma.hz
                  rcases h with h | h
                  · have := hM1 _ h; omega
                  · have := hF.mb.ma.rz _ h; omega⟩
                have HAPN : Aside0 (¬ (M1 Bn ∨ Rd Bn)) := ⟨fun h => by
                  have h1 := hF.mb.sn; have h0 := hF.nd
                  rcases h with h | h
                  · have := hM1 _ h; omega
                  · have := hF.mb.ma.rz _ h; omega⟩
                clear ownI hI hg hm hsub hMD hML hsz hlen hM1 hF ho hnm hfs hls hP
                obtain ⟨np, hnp⟩ : ∃ np, np = pre.length := ⟨_, rfl⟩
                rw [← hnp] at HF
                have HNP := Aside0.mk hnp
                clear hnp
                dsimp only
                have fs := (blk_cell HF.out.mb.ma.bs 0).trans rfl
                have fw := (blk_cell HF.out.mb.ma.bw 0).trans rfl
                have HG := Aside0.mk (MB.gives HF.out.mb (by have := HNW0.out; rw [List.length_map] at this; exact this) HSM.out HCW.out eg)
                gi_wp2
                refine ⟨trivial, ?_⟩
                (with_reducible refine (CallsIn.inRound li (callsIn_wide.2 HG.out)).mono ?_)
                rintro e W6 ⟨rfl, hb⟩
                have HKB := Aside0.mk (KeptD.of_below (M := fun k => M1 k ∨ Rd k) hb)
                replace HF := Aside0.mk (HF.out.keep hb)
                replace HC := Aside0.mk (And.intro HC.out.1 (Kd.C_below HC.out.2 hb))
                clear hb fs fw HG
                have f0 := (blk_cell HF.out.mb.ma.bw 0).trans rfl
                have f2 := (blk_cell HF.out.mb.bn 0).trans rfl
                by_cases hlt : np < L.length
                · obtain ⟨ad, A1, c1, eA, cell0, cell1, hc1, hC1⟩ := HF.out.mb.ma.hw.at_ hlt
                  obtain ⟨q, hq⟩ : ∃ q, q = L[np] := ⟨_, rfl⟩
                  rw [← hq] at cell0 cell1 hc1 hC1
                  have HQ : Aside0 (∃ h : np < L.length, q = L[np]) := ⟨hlt, hq⟩
                  clear hq
                  have HC1 := Aside0.mk (And.intro hc1 hC1)
                  subst eA
                  have hnw : nw = L.length := by rw [HNW0.out, List.length_map]
                  have p1 : decide ((np : Int) ≥ (nw : Int)) = false := decide_eq_false (by omega)
                  have p2 : (nw ≤ np) = False := eq_false (by omega)
                  have p3 : (np < nw) = True := eq_true (by omega)
                  have i0 : (0 : Int) ≤ (np : Int) := by omega
                  have i1 : (np : Int) < (nw : Int) := by omega
                  clear hc1 hC1 hnw
                  by_cases hv : x = q.1
                  · have HV := Aside0.mk hv
                    have pv : (x == q.1) = true := beq_iff_eq.2 hv
                    have pv2 : (x != q.1) = false := by simp [bne, pv]
                    clear hv hlt
                    have HEQ := Aside0.mk (fun W (h : Below W6.heap.size W6 W) => mequal_calls As A1 cs c1 s q.2 W (Kd.C_below HC.out.2 h) HC.out.1 (Kd.C_below HC1.out.2 h) HC1.out.1 (by have := HS.out; omega))
                    cases hs : (s == q.2) with
                    | false =>
                      rw [hs] at HEQ
                      have HSQ := Aside0.mk hs
                      clear hs
                      gi_wp2
                      refine ⟨trivial, ?_⟩
                      (with_reducible refine (CallsIn.inRound li (callsIn_wide.2 (HEQ.out _ (Below.refl _ _)))).mono ?_)
                      rintro e W7 ⟨rfl, hd⟩
                      have HD := Aside0.mk hd.below
                      clear hd
                      have q4 := (blk_cell (blk_below HF.out.mb.ma.b1 HD.out) 0).trans rfl
                      have y4 := blk_frozen (blk_below HF.out.mb.ma.b1 HD.out) 0
                      gi_wp2
                      refine ⟨(HKB.out.trans (KeptD.of_below HD.out)).trans (KeptD.setCell (p := ⟨w.heap.size + 1, 0, none⟩) HAPB.out _), ?_⟩
                      show ¬ (pre ++ [(x, Value.slice As s.length cs, s)]).map p13 <+: L
                      obtain ⟨hlt, hq⟩ := HQ.out
                      rw [List.map_append]
                      have hnp := HNP.out
                      subst hnp
                      refine notPre' (by simpa using hlt) ?_
                      intro e
                      have e2 : s = q.2 := by rw [hq]; simpa [p13] using congrArg Prod.snd e
                      have := HSQ.out
                      rw [e2, beq_self_eq_true] at this
                      cases this
                    | true =>
                      rw [hs] at HEQ
                      have HSQ := Aside0.mk (beq_iff_eq.1 hs)
                      clear hs
                      gi_wp2
                      refine ⟨trivial, ?_⟩
                      (with_reducible refine (CallsIn.inRound li (callsIn_wide.2 (HEQ.out _ (Below.refl _ _)))).mono ?_)
                      rintro e W7 ⟨rfl, hd⟩
                      have HD := Aside0.mk hd.below
                      clear hd
                      have fn := (blk_cell (blk_below HF.out.mb.bn HD.out) 0).trans rfl
                      have yn := blk_frozen (blk_below HF.out.mb.bn HD.out) 0
                      gi_wp2
                      have hw : wrap64 ((np : Int) + 1) = (((pre ++ [(x, Value.slice As s.length cs, s)]).length : Nat) : Int) := by
                        have h1 := HNP.out
                        have h2 := HL5.out
                        rw [w64 (by omega) (by omega)]
                        simp
                        omega
                      rw [hw]
                      refine ⟨(HKB.out.trans (KeptD.of_below HD.out)).trans (KeptD.setCell (p := ⟨Bn, 0, none⟩) HAPN.out _), HM1.out, (HF.out.keep HD.out).put _, ?_⟩
                      obtain ⟨hlt, hq⟩ := HQ.out
                      have hnp := HNP.out
                      subst hnp
                      rw [List.map_append]
                      refine isPre HP.out (by simpa using hlt) ?_
                      simp only [List.length_map]
                      rw [← hq, HV.out, HSQ.out]
                      rfl
                  · have pv : (x == q.1) = false := beq_eq_false_iff_ne.2 hv
                    have pv2 : (x != q.1) = true := by simp [bne, pv]
                    have HV := Aside0.mk hv
                    have q4 := (blk_cell HF.out.mb.ma.b1 0).trans rfl
                    have y4 := blk_frozen HF.out.mb.ma.b1 0
                    clear hv hlt
                    gi_wp2
                    refine ⟨trivial, ?_⟩
                    gi_wp2
                    refine ⟨HKB.out.trans (KeptD.setCell (p := ⟨w.heap.size + 1, 0, none⟩) HAPB.out _), ?_⟩
                    show ¬ (pre ++ [(x, Value.slice As s.length cs, s)]).map p13 <+: L
                    obtain ⟨hlt, hq⟩ := HQ.out
                    rw [List.map_append]
                    have hnp := HNP.out
                    subst hnp
                    refine notPre' (by simpa using hlt) ?_
                    intro e
                    apply HV.out
                    rw [hq]
                    simpa [p13] using congrArg Prod.fst e
                · have hnw : nw = L.length := by rw [HNW0.out, List.length_map]
                  have p1 : decide ((np : Int) ≥ (nw : Int)) = true := decide_eq_true (by omega)
                  have p2 : (nw ≤ np) = True := eq_true (by omega)
                  have q4 := (blk_cell HF.out.mb.ma.b1 0).trans rfl
                  have y4 := blk_frozen HF.out.mb.ma.b1 0
                  have HGE := Aside0.mk hlt
                  clear hlt hnw
                  gi_wp2
                  refine ⟨trivial, ?_⟩
                  gi_wp2
                  refine ⟨HKB.out.trans (KeptD.setCell (p := ⟨w.heap.size + 1, 0, none⟩) HAPB.out _), ?_⟩
                  show ¬ (pre ++ [(x, Value.slice As s.length cs, s)]).map p13 <+: L
                  rw [List.map_append]
                  exact notPre (by have := HGE.out; have := HNP.out; simp; omega)
              case done =>
                rintro M xs W hMb hS ⟨hM1, hF, hP⟩ hD
                have hlen : xs.length = L.length := by rw [← hS, List.length_map]
                have e1 : ((xs.length : Nat) : Int) = ((nw : Nat) : Int) := by have := HNW0.out; rw [List.length_map] at this; omega
                rw [e1] at hF
                have HF := Aside0.mk hF
                have HD := Aside0.mk hD
                have HZ := Aside0.mk (hM1 _ hMb)
                have fn := (blk_cell hF.mb.bn 0).trans rfl
                have fw := (blk_cell hF.mb.ma.bw 0).trans rfl
                have fs := (blk_cell hF.mb.ma.bs 0).trans rfl
                have pe : ((nw : Int) == (nw : Int)) = true := beq_self_eq_true _
                have HG := Aside0.mk (MB.gives hF.mb (by have := HNW0.out; rw [List.length_map] at this; exact this) HSM.out HCW.out eg)
                clear ownI hF hM1 hMb hS hP hD hlen e1
                gi_wp2
                refine ⟨trivial, ?_⟩
                (with_reducible refine (callsIn_wide.2 HG.out).mono ?_)
                rintro e W3 ⟨rfl, hb⟩
                have HF3 := Aside0.mk (HF.out.keep hb)
                have HD3 := Aside0.mk ((hb.block _ (Array.getElem?_eq_some_iff.1 HD.out).1).trans HD.out)
                clear hb fn fw fs pe HG HF HD
                have q4 := (blk_cell HF3.out.mb.ma.b1 0).trans rfl
                have y4 := blk_frozen HF3.out.mb.ma.b1 0
                gi_wp2
                have E2 := HF3.out.set (.bool true)
                have hK2 := (KeepsOthers.setCell W3 ⟨w.heap.size + 1, 0, none⟩ (.bool true)).same W2.heap.size _ HD3.out rfl
                generalize (W3.setCell ⟨w.heap.size + 1, 0, none⟩ (.bool true)) = WF at E2 hK2 ⊢
                refine ⟨by simp, .inl ⟨_, _, rfl, run_takeDeferred hK2, ?_⟩⟩
                have E3 := E2.grow (M := fun k => k = W2.heap.size) (Grow.put (.deferred none) rfl) (fun k e => by have := HZ.out; omega)
                refine ⟨by simp, .inl ⟨_, _, rfl, run_takeDeferred E3.hd, ?_⟩⟩
                have E4 := E3.mb.grow (M := fun k => k = WN.heap.size) (Grow.put (.deferred none) rfl) (fun k e => by have := HN.out.zn; omega)
                have r0 := (blk_cell E4.ma.b1 0).trans rfl
                exact ⟨.bool true, by simp [results, Try.results12, go_sem, r0], rfl, E4.ma.hB⟩
              case stop =>
                rintro M c pre W hMb hSp hix hK
                exact absurd hSp hix
          have ownI : OwnD (fun (M : Nat → Prop) (pre : List (Int × Value × List Int)) (W : World) => (∀ k, M k → Bn + 1 ≤ k) ∧ MB w kk Bw Bs z V4.heap.size Bw Aw nw cw g lb Rd L Bn (.bool false) (.int .i64 (pre.length : Nat)) W ∧ pre.map p13 <+: L) := fun M M1 pre A B h hg hm => ⟨fun k hk => by rcases hm k hk with h1 | h1; exact h.1 k h1; exact Nat.le_trans h.2.1.zn h1.1, h.2.1.grow hg h.1, h.2.2⟩
          have ownIx : ∀ c : Code, OwnD (fun (M : Nat → Prop) (pre : List (Int × Value × List Int)) (W : World) => (c = .ret ∧ ¬ pre.map p13 <+: L) ∨ (c = .exit 4 ∧ (∀ k, M k → Bn + 1 ≤ k) ∧ ∃ np : Nat, (np : Int) = kk ∧ MB w kk Bw Bs z V4.heap.size Bw Aw nw cw g lb Rd L Bn (.bool false) (.int .i64 np) W)) := fun c M M1 pre A B h hg hm => by
            rcases h with h | ⟨h1, h2, np, h3, h4⟩
            · exact .inl h
            · exact .inr ⟨h1, fun k hk => by rcases hm k hk with h5 | h5; exact h2 k h5; exact Nat.le_trans h4.zn h5.1, np, h3, h4.grow hg h2⟩
          refine wpIn_range_own (by decide) (gf := g) (lb := lb) rfl rfl trivial eg HN.out.ma.hq.now HandI.move HN.out.ma.hq.1 (Below.refl _ _) (fun _ => rfl)
            (fun (M : Nat → Prop) (pre : List (Int × Value × List Int)) (W : World) => (∀ k, M k → Bn + 1 ≤ k) ∧ MB w kk Bw Bs z V4.heap.size Bw Aw nw cw g lb Rd L Bn (.bool false) (.int .i64 (pre.length : Nat)) W ∧ pre.map p13 <+: L)
            (fun c (M : Nat → Prop) (pre : List (Int × Value × List Int)) (W : World) => (c = .ret ∧ ¬ pre.map p13 <+: L) ∨ (c = .exit 4 ∧ (∀ k, M k → Bn + 1 ≤ k) ∧ ∃ np : Nat, (np : Int) = kk ∧ MB w kk Bw Bs z V4.heap.size Bw Aw nw cw g lb Rd L Bn (.bool false) (.int .i64 np) W))
            ownI ownIx ⟨fun _ h => h.elim, HN.out, List.nil_prefix⟩
            (fun p => { tmps := #[Value.slice A0 a.length c0, Value.slice A1 b.length c1, Value.int IntKind.i64 kk, undef, undef, Value.pointer (some { block := w.heap.size, off := 0 }), Value.pointer (some { block := w.heap.size + 1, off := 0 }), Value.slice Ax a.length cx, Value.slice Ay b.length cy, Value.pointer (some { block := Bw, off := 0 }), Value.pointer (some { block := Bs, off := 0 }), Value.int IntKind.i64 ↑k, Value.int IntKind.i64 ↑k2, Value.pointer (some { block := Bn, off := 0 }), .int .i64 p.1, p.2.1, undef, undef, Value.slice A0 a.length c0, Value.slice Ax a.length cx, Value.slice A1 b.length c1, Value.slice Ay b.length cy, Value.slice A0 a.length c0, Value.slice A3 a.length c3, Value.slice A1 b.length c1, Value.slice A4 b.length c4, Value.slice Aw nw cw, Value.slice Ax a.length cx, Value.slice Ay b.length cy, Value.func (Fn.func g) #[] lb, Value.func (Fn.func g) #[] lb, Value.bool false, Value.int IntKind.i64 ↑k, Value.slice Ax a.length cx, Value.int IntKind.i64 ↑a.length, Value.bool false, u36, u37, u38, u39, u40, Value.int IntKind.i64 ↑k2, Value.slice Ay b.length cy, Value.int IntKind.i64 ↑b.length, Value.bool false, u45, u46, u47, u48, u49, Value.func (Fn.func g) #[] lb, .int .i64 p.1, p.2.1, undef, undef, undef, undef, undef, undef, undef, undef, undef, undef, undef, undef, undef, undef, undef, undef, undef, undef, undef, undef, undef, undef, undef, undef, undef, undef, undef, undef, undef, undef, undef, undef, undef, undef, undef, undef, undef, undef, undef, undef, undef, undef, undef, undef, undef, undef, undef, undef, undef, undef, undef, undef, undef, undef, undef, undef, undef, undef, undef, undef, undef, undef, undef, undef, undef, undef, undef, undef, undef, undef, undef, undef, undef, undef, undef, undef, undef, undef, undef, undef, undef, undef, undef], defers := [] }) ?assign ?body ?done ?stop
          case assign =>
            intro l x W K hK
            gi_wp2
            first | exact hK | simpa using hK
          case body =>
            rintro li M M1 pre ⟨x, u, s⟩ A5 W5 hI hg hm hsub hMD hML hsz hHd hlen
            obtain ⟨hM1, hF, hP⟩ := ownI _ _ _ _ _ hI hg hm
            obtain ⟨ho, hnm, hfs, hls⟩ := hHd
            replace ho : OwnInts W5 A5.heap.size u s := ho
            replace hls : s.length ≤ 2097152 := hls
            obtain ⟨As, cs, rfl⟩ := Kd.R_slice (own_R ho)
            have HC := Aside0.mk (Kd.R_reads' (own_R ho)).2
            have HF := Aside0.mk hF
            have HM1 := Aside0.mk hM1
            have HP := Aside0.mk hP
            have HS := Aside0.mk hls
            have HL5 := Aside0.mk hlen
            have HAPB : Aside0 (¬ (M1 (w.heap.size + 1) ∨ Rd (w.heap.size + 1))) := ⟨fun h => by
              have h1 := hF.sn; have h2 := hF.ma.ws; have h3 := hF.ma.zw; have h4 := hF.ma.hz
              rcases h with h | h
              · have := hM1 _ h; omega
              · have := hF.ma.rz _ h; omega⟩
            have HAPN : Aside0 (¬ (M1 Bn ∨ Rd Bn)) := ⟨fun h => by
              have h1 := hF.sn
              rcases h with h | h
              · have := hM1 _ h; omega
              · have := hF.ma.rz _ h; omega⟩
            clear ownI ownIx hI hg hm hsub hMD hML hsz hlen hM1 hF ho hnm hfs hls hP key HN hK1
            obtain ⟨np, hnp⟩ : ∃ np, np = pre.length := ⟨_, rfl⟩
            rw [← hnp] at HF
            have HNP := Aside0.mk hnp
            clear hnp
            dsimp only
            have f0 := (blk_cell HF.out.ma.bw 0).trans rfl
            have f2 := (blk_cell HF.out.bn 0).trans rfl
            by_cases hlt : np < L.length
            · obtain ⟨ad, A1, c1, eA, cell0, cell1, hc1, hC1⟩ := HF.out.ma.hw.at_ hlt
              obtain ⟨q, hq⟩ : ∃ q, q = L[np] := ⟨_, rfl⟩
              rw [← hq] at cell0 cell1 hc1 hC1
              have HQ : Aside0 (∃ h : np < L.length, q = L[np]) := ⟨hlt, hq⟩
              clear hq
              have HC1 := Aside0.mk (And.intro hc1 hC1)
              subst eA
              have hnw : nw = L.length := by rw [HNW0.out, List.length_map]
              have p1 : decide ((np : Int) ≥ (nw : Int)) = false := decide_eq_false (by omega)
              have p2 : (nw ≤ np) = False := eq_false (by omega)
              have p3 : (np < nw) = True := eq_true (by omega)
              have i0 : (0 : Int) ≤ (np : Int) := by omega
              have i1 : (np : Int) < (nw : Int) := by omega
              clear hc1 hC1 hnw
              by_cases hv : x = q.1
              · have HV := Aside0.mk hv
                have pv : (x == q.1) = true := beq_iff_eq.2 hv
                have pv2 : (x != q.1) = false := by simp [bne, pv]
                clear hv hlt
                have HEQ := Aside0.mk (fun W (h : Below W5.heap.size W5 W) => mequal_calls As A1 cs c1 s q.2 W (Kd.C_below HC.out.2 h) HC.out.1 (Kd.C_below HC1.out.2 h) HC1.out.1 (by have := HS.out; omega))
                cases hs : (s == q.2) with
                | false =>
                  rw [hs] at HEQ
                  have HSQ := Aside0.mk hs
                  clear hs
                  gi_wp2
                  refine ⟨trivial, ?_⟩
                  (with_reducible refine (CallsIn.inRound li (callsIn_wide.2 (HEQ.out _ (Below.refl _ _)))).mono ?_)
                  rintro e W6 ⟨rfl, hd⟩
                  have HD := Aside0.mk hd.below
                  clear hd
                  have q4 := (blk_cell (blk_below HF.out.ma.b1 HD.out) 0).trans rfl
                  have y4 := blk_frozen (blk_below HF.out.ma.b1 HD.out) 0
                  gi_wp2
                  refine ⟨(KeptD.of_below HD.out).trans (KeptD.setCell (p := ⟨w.heap.size + 1, 0, none⟩) HAPB.out _), .inl ⟨rfl, ?_⟩⟩
                  obtain ⟨hlt, hq⟩ := HQ.out
                  rw [List.map_append]
                  have hnp := HNP.out
                  subst hnp
                  refine notPre' (by simpa using hlt) ?_
                  intro e
                  have e2 : s = q.2 := by rw [hq]; simpa [p13] using congrArg Prod.snd e
                  have := HSQ.out
                  rw [e2, beq_self_eq_true] at this
                  cases this
                | true =>
                  rw [hs] at HEQ
                  have HSQ := Aside0.mk (beq_iff_eq.1 hs)
                  clear hs
                  by_cases hk0 : (np : Int) = kk
                  · have pk : ((np : Int) == kk) = true := beq_iff_eq.2 hk0
                    have HK0 := Aside0.mk hk0
                    clear hk0
                    gi_wp2
                    refine ⟨trivial, ?_⟩
                    (with_reducible refine (CallsIn.inRound li (callsIn_wide.2 (HEQ.out _ (Below.refl _ _)))).mono ?_)
                    rintro e W6 ⟨rfl, hd⟩
                    have HD := Aside0.mk hd.below
                    clear hd
                    have fn := (blk_cell (blk_below HF.out.bn HD.out) 0).trans rfl
                    have fk := (blk_cell (blk_below HF.out.ma.b0 HD.out) 0).trans rfl
                    gi_wp2
                    exact ⟨KeptD.of_below HD.out, .inr ⟨rfl, HM1.out, np, HK0.out, HF.out.keep HD.out⟩⟩
                  · have pk : ((np : Int) == kk) = false := beq_eq_false_iff_ne.2 hk0
                    clear hk0
                    gi_wp2
                    refine ⟨trivial, ?_⟩
                    (with_reducible refine (CallsIn.inRound li (callsIn_wide.2 (HEQ.out _ (Below.refl _ _)))).mono ?_)
                    rintro e W6 ⟨rfl, hd⟩
                    have HD := Aside0.mk hd.below
                    clear hd
                    have fn := (blk_cell (blk_below HF.out.bn HD.out) 0).trans rfl
                    have yn := blk_frozen (blk_below HF.out.bn HD.out) 0
                    have fk := (blk_cell (blk_below HF.out.ma.b0 HD.out) 0).trans rfl
                    gi_wp2
                    have hw : wrap64 ((np : Int) + 1) = (((pre ++ [(x, Value.slice As s.length cs, s)]).length : Nat) : Int) := by
                      have h1 := HNP.out
                      have h2 := HL5.out
                      rw [w64 (by omega) (by omega)]
                      simp
                      omega
                    rw [hw]
                    refine ⟨(KeptD.of_below HD.out).trans (KeptD.setCell (p := ⟨Bn, 0, none⟩) HAPN.out _), HM1.out, (HF.out.keep HD.out).put _, ?_⟩
                    obtain ⟨hlt, hq⟩ := HQ.out
                    have hnp := HNP.out
                    subst hnp
                    rw [List.map_append]
                    refine isPre HP.out (by simpa using hlt) ?_
                    simp only [List.length_map]
                    rw [← hq, HV.out, HSQ.out]
                    rfl
              · have pv : (x == q.1) = false := beq_eq_false_iff_ne.2 hv
                have pv2 : (x != q.1) = true := by simp [bne, pv]
                have HV := Aside0.mk hv
                have q4 := (blk_cell HF.out.ma.b1 0).trans rfl
                have y4 := blk_frozen HF.out.ma.b1 0
                clear hv hlt
                gi_wp2
                refine ⟨trivial, ?_⟩
                gi_wp2
                refine ⟨KeptD.setCell (p := ⟨w.heap.size + 1, 0, none⟩) HAPB.out _, .inl ⟨rfl, ?_⟩⟩
                obtain ⟨hlt, hq⟩ := HQ.out
                rw [List.map_append]
                have hnp := HNP.out
                subst hnp
                refine notPre' (by simpa using hlt) ?_
                intro e
                apply HV.out
                rw [hq]
                simpa [p13] using congrArg Prod.fst e
            · have hnw : nw = L.length := by rw [HNW0.out, List.length_map]
              have p1 : decide ((np : Int) ≥ (nw : Int)) = true := decide_eq_true (by omega)
              have p2 : (nw ≤ np) = True := eq_true (by omega)
              have q4 := (blk_cell HF.out.ma.b1 0).trans rfl
              have y4 := blk_frozen HF.out.ma.b1 0
              have HGE := Aside0.mk hlt
              clear hlt hnw
              gi_wp2
              refine ⟨trivial, ?_⟩
              gi_wp2
              refine ⟨KeptD.setCell (p := ⟨w.heap.size + 1, 0, none⟩) HAPB.out _, .inl ⟨rfl, ?_⟩⟩
              rw [List.map_append]
              exact notPre (by have := HGE.out; have := HNP.out; simp; omega)
          case done =>
            rintro M xs W hMb hS ⟨hM1, hF, hP⟩ hD
            have hlen : xs.length = L.length := by rw [← hS, List.length_map]
            exact key W xs.length (.inl (by rw [HNW0.out, List.length_map]; omega)) hF hD
          case stop =>
            rintro M c pre W hMb hSp (⟨rfl, hn⟩ | ⟨rfl, hM1, np, hnp, hF⟩) hD
            · exact absurd hSp hn
            · refine wpIn_exit ?_
              simp only [Exit.inBlock, if_true]
              exact key W np (.inr (by omega)) hF hD
end Go.Proofs.YtamefocngapkpaaHand
