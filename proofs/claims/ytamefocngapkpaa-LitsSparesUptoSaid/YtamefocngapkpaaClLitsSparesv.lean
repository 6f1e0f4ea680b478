/- The iterator that lits.Resolvents answers: what follows from two clauses, variable by variable. -/
import Derived.Test.YtamefocngapkpaaClLitsSparest
import Derived.Test.YtamefocngapkpaaClLitsSparesu
/-! text YtamefocngapkpaaResolvents -/
namespace Go.Proofs.YtamefocngapkpaaHand
open Go.RowKit Go.Sort Go.Lib Go.Shelf Go.Proofs.YtamefocngapkpaaW.PrintWords Go.Proofs.YtamefocngapkpaaW.PrintLast Go.Proofs.YtamefocngapkpaaMath Go.Proofs.YtamefocngapkpaaOwn
attribute [local go_sem] Oper.semAt_some
set_option linter.unusedVariables false
set_option linter.unusedSimpArgs false

set_option maxRecDepth 100000 in
set_option maxHeartbeats 8000000 in
theorem resolvents2_own (n : Nat) (hn : 8 ≤ n) (x y : List Int) (Bx By gx cx gy cy base : Nat) (hrx : Rising x) (hry : Rising y) (hfx : ∀ v ∈ x, formed v = true) (hfy : ∀ v ∈ y, formed v = true) (hlx : x.length ≤ 2097152) (hly : y.length ≤ 2097152) (w : World) (hT : Two x y Bx By gx cx gy cy base w) :
    SeqD Fence.wide n Try.prog 71 #[.pointer (some ⟨By, 0, none⟩), .pointer (some ⟨Bx, 0, none⟩)] (fun p : Int × Value × List Int => #[.int .i64 p.1, p.2.1]) HandI (fun k => k = Bx ∨ k = By ∨ k = gx ∨ k = gy)
      (fun ps => ps.map (fun p => (p.1, p.2.2)) = weave x y) (fun pre => pre.map (fun p => (p.1, p.2.2)) <+: weave x y) 4194304 w := by
  intro l J Jx W hW hJ hJx hY h0
  have T0 := hT.below hW
  clear hT hW
  refine callsIn_wide.2 ((callsIn_wide (n := 12)).1 ?_)
  refine callsIn_of_wp_marks Try.func71 rfl trivial ?_ rfl
  simp only [Try.ntmps71, List.size_toArray, List.length_cons, List.length_nil, Nat.reduceAdd, Nat.reduceSub, Array.replicate_succ, Array.replicate_zero, List.push_toArray, List.append_toArray, List.nil_append, List.cons_append]
  have k0 := blk_new W (.cells #[.func (.yield l) #[] #[]] 65 (0, 0))
  have hB0 : Below W.heap.size W (W.alloc (.cells #[.func (.yield l) #[] #[]] 65 (0, 0))) := below_alloc (Below.refl _ _) _
  have T1 := T0.below hB0
  have fx := (blk_cell T1.hx 0).trans rfl
  have fy := (blk_cell T1.hy 0).trans rfl
  gi_wp2
  generalize hW0 : W.alloc (.cells #[.func (.yield l) #[] #[]] 65 (0, 0)) = W0 at k0 hB0 T1 fx fy ⊢
  clear hW0
  refine ⟨trivial, ?_⟩
  (with_reducible refine (callsIn_wide.2 (pivots_calls _ _ _ _ _ _ _)).mono ?_)
  rintro e W1 ⟨rfl, hW1⟩
  have hB1 : Below W0.heap.size W0 W1 := by rw [hW1]; exact below_alloc (below_alloc (Below.refl _ _) _) _
  have T2 := T1.below hB1
  have a1 : W1.heap[W0.heap.size]? = some (.cells #[.slice (some ⟨gy, 0, none⟩) y.length cy] 26 (0, 0)) := by rw [hW1]; exact blk_alloc (blk_new _ _) _
  have a2 : W1.heap[W0.heap.size + 1]? = some (.cells #[.slice (some ⟨gx, 0, none⟩) x.length cx] 26 (0, 0)) := by
    rw [hW1]
    have := blk_new (W0.alloc (.cells #[.slice (some ⟨gy, 0, none⟩) y.length cy] 26)) (.cells #[.slice (some ⟨gx, 0, none⟩) x.length cx] 26)
    simpa using this
  have s1 : W0.heap.size + 2 = W1.heap.size := by rw [hW1]; simp
  clear hW1 fx fy
  have ltg := T2.lt
  have seq1 := pivots_stops 5 (by omega) W0.heap.size (W0.heap.size + 1) gy cy gx cx base y x hrx hfx hfy hly hlx W1 (by omega) (by omega) (ltg gy (by simp)) (ltg gx (by simp)) ((blk_cell a1 0).trans rfl) ((blk_cell a2 0).trans rfl) (fun j hj => own_read T2.oy hj) T2.ox
  have CC := Aside0.mk (collect_calls W0.heap.size (W0.heap.size + 1) _ _ y.length (by omega) W1 seq1)
  clear seq1 a1 a2
  gi_wp2
  refine ⟨trivial, ?_⟩
  (with_reducible refine (callsIn_wide.2 CC.out).mono ?_)
  rintro e W2 ⟨vb, xs, rfl, hxs, hob, hb2⟩
  subst hxs
  have T3 := T2.below hb2
  have k2 := blk_below (blk_below k0 hB1) hb2
  have lt0 := blk_lt k0
  obtain ⟨Ab, cb, gb, rfl, hcb, hgb, hgb2, hCb⟩ := own_back hob (z := W.heap.size) (blk_lt k2) (by have := hB1.size; omega)
  have kb := blk_new W2 (.cells #[.slice Ab (pivOf y x).length cb] 26 (0, 0))
  have hB3 : Below W2.heap.size W2 (W2.alloc (.cells #[.slice Ab (pivOf y x).length cb] 26 (0, 0))) := below_alloc (Below.refl _ _) _
  have s3 : Aside0 ((W2.alloc (.cells #[.slice Ab (pivOf y x).length cb] 26 (0, 0))).heap.size = W2.heap.size + 1) := ⟨by simp⟩
  have T4 := T3.below hB3
  have k3 := blk_below k2 hB3
  have fx := (blk_cell T4.hx 0).trans rfl
  have fy := (blk_cell T4.hy 0).trans rfl
  clear CC
  gi_wp2
  generalize hW3 : W2.alloc (.cells #[.slice Ab (pivOf y x).length cb] 26 (0, 0)) = W3 at kb hB3 s3 T4 k3 fx fy ⊢
  clear hW3
  refine ⟨trivial, ?_⟩
  (with_reducible refine (callsIn_wide.2 (pivots_calls _ _ _ _ _ _ _)).mono ?_)
  rintro e W4 ⟨rfl, hW4⟩
  have hB4 : Below W3.heap.size W3 W4 := by rw [hW4]; exact below_alloc (below_alloc (Below.refl _ _) _) _
  have T5 := T4.below hB4
  have a1 : W4.heap[W3.heap.size]? = some (.cells #[.slice (some ⟨gx, 0, none⟩) x.length cx] 26 (0, 0)) := by rw [hW4]; exact blk_alloc (blk_new _ _) _
  have a2 : W4.heap[W3.heap.size + 1]? = some (.cells #[.slice (some ⟨gy, 0, none⟩) y.length cy] 26 (0, 0)) := by
    rw [hW4]
    have := blk_new (W3.alloc (.cells #[.slice (some ⟨gx, 0, none⟩) x.length cx] 26)) (.cells #[.slice (some ⟨gy, 0, none⟩) y.length cy] 26)
    simpa using this
  have s4 : W4.heap.size = W3.heap.size + 2 := by rw [hW4]; simp
  replace s3 := s3.out
  clear hW4 fx fy
  have hBall : Below W.heap.size W W4 := below_step (below_step (below_step (below_step hB0 hB1) hb2) hB3) hB4
  have seq := pivots_own 11 (by omega) W3.heap.size (W3.heap.size + 1) gx cx gy cy base x y hry hfy hfx hlx hly W4 a1 a2 T5.ox T5.oy
  have V0 : RV l x y W.heap.size W2.heap.size Bx By gx cx gy cy base gb (pivOf y x) W4 := ⟨T5, blk_below k3 hB4, by have := hB3.size; have := hB4.size; omega, Ab, cb, blk_below kb hB4, hcb, fun W' h => hCb W' (h.trans ((hB4.block gb (by have := hB3.size; omega)).trans (hB3.block gb hgb)))⟩
  clear hCb kb k3 k2 k0 T1 T2 T3 T4 T5 a1 a2 hob
  have J4 : RJ J l x y W.heap.size W2.heap.size Bx By gx cx gy cy base gb W3.heap.size (W3.heap.size + 1) (fun _ => False) (fun k => W.heap.size ≤ k ∧ k < W4.heap.size) [] [] (pivOf y x) W4 :=
    ⟨hJ _ _ _ _ _ h0 (Grow.of_below hBall) (fun k hk => .inr hk), rfl, V0, fun k hk => hk.elim, fun k _ hk => hk, fun k hk => by
      have g1 := V0.hg
      have q0 := hB0.size
      have q1 := hB1.size
      have q2 := hb2.size
      have q3 := hB3.size
      rcases hk with rfl | rfl | rfl | rfl | rfl
      · omega
      · omega
      · exact ⟨by rcases hgb2 with rfl | ⟨hh, _⟩ <;> omega, g1⟩
      · omega
      · omega, fun k hk => hk.2⟩
  have N1 : W2.heap.size ≠ W.heap.size ∧ W2.heap.size ≠ gb ∧ W2.heap.size ≠ Bx ∧ W2.heap.size ≠ By ∧ W2.heap.size ≠ gx ∧ W2.heap.size ≠ gy := by
    have q0 := hB0.size
    have q1 := hB1.size
    have q2 := hb2.size
    have z1 := T0.lt Bx (by simp)
    have z2 := T0.lt By (by simp)
    have z3 := T0.lt gx (by simp)
    have z4 := T0.lt gy (by simp)
    refine ⟨by omega, by omega, by omega, by omega, by omega, by omega⟩
  have N2 : W2.heap.size ≠ W3.heap.size ∧ W2.heap.size ≠ W3.heap.size + 1 := ⟨by omega, by omega⟩
  have S3 := Aside0.mk s3
  have S4 := Aside0.mk s4
  have HY := Aside0.mk hY
  have HO := Aside0.mk hJ
  have HOX := Aside0.mk hJx
  have HLX := Aside0.mk (And.intro hlx hly)
  have HFY := Aside0.mk hfy
  have HN1 := Aside0.mk N1
  have HN2 := Aside0.mk N2
  have HV0 := Aside0.mk V0
  have HJ4 := Aside0.mk J4
  have SQ := Aside0.mk seq
  clear s1 s3 s4 hY hrx hry hfx hfy hlx hly h0 T0 N1 N2 V0 J4 seq hn hBall hB0 hB1 hb2 hB3 hB4 lt0 ltg hcb hgb hgb2 hJ hJx
  gi_wp2
  refine wpIn_range_own (by decide) (gf := 79) (lb := #[.pointer (some ⟨W3.heap.size, 0, none⟩), .pointer (some ⟨W3.heap.size + 1, 0, none⟩)]) rfl rfl trivial (enters_of Try.func79 (by kernel_rfl) rfl) SQ.out
    (fun A M M' x W W' h _ _ => h) (fun k hk => by have := HV0.out.two.lt gx (by simp); have := HV0.out.two.lt gy (by simp); have := S4.out; rcases hk with rfl | rfl | rfl | rfl <;> omega) (Below.refl _ _) (fun _ => rfl)
    (RI J l x y W.heap.size W2.heap.size Bx By gx cx gy cy base gb W3.heap.size (W3.heap.size + 1)) (RX Jx x y) (RI.own HO.out) (RX.own HOX.out) ⟨_, _, HJ4.out⟩
    (fun v => { tmps := #[.func (.yield l) #[] #[], .pointer (some ⟨By, 0, none⟩), .pointer (some ⟨Bx, 0, none⟩), .pointer (some ⟨W.heap.size, 0, none⟩), .pointer (some ⟨W2.heap.size, 0, none⟩), .int .i64 v, undef, undef, .slice (some ⟨gy, 0, none⟩) y.length cy, .slice (some ⟨gx, 0, none⟩) x.length cx, .func (.func 79) #[] #[.pointer (some ⟨W0.heap.size, 0, none⟩), .pointer (some ⟨W0.heap.size + 1, 0, none⟩)], .slice Ab (pivOf y x).length cb, .slice (some ⟨gx, 0, none⟩) x.length cx, .slice (some ⟨gy, 0, none⟩) y.length cy, .func (.func 79) #[] #[.pointer (some ⟨W3.heap.size, 0, none⟩), .pointer (some ⟨W3.heap.size + 1, 0, none⟩)], .int .i64 v, undef, undef, undef, undef, undef, undef, undef, undef, undef, undef, undef, undef, undef, undef, undef, undef, undef, undef, undef, undef, undef, undef, undef, undef, undef, undef, undef, undef, undef, undef, undef, undef, undef, undef, undef, undef, undef, undef, undef, undef, undef, undef, undef, undef, undef, undef, undef], defers := [] }) ?assign ?body ?done ?stop
  case assign =>
    intro li v W K hK
    gi_wp2
    first | exact hK | simpa using hK
  case body =>
    intro li M M1 pre v A5 W5 hI hg hm hsub hMD hML hsz hfv hlen
    obtain ⟨Mo, es, hr⟩ := RI.own HO.out _ _ _ _ _ hI hg hm
    have HMM := Aside0.mk (And.intro hMD hML)
    clear SQ HJ4 hsub hsz hMD hML
    have HR := Aside0.mk hr
    have HV := Aside0.mk hfv
    clear hI hg hm hr hfv
    gi_wp2
    gi_loopw [] (fun wr => ∃ (Mo : Nat → Prop) (es : List (Int × Value × List Int)) (d r : List Int), Aside0 ((wrun x y (pivOf y x) pre).2 = d ++ r ∧ ∀ b ∈ d, b < v) ∧ Aside0 (RJ J l x y W.heap.size W2.heap.size Bx By gx cx gy cy base gb W3.heap.size (W3.heap.size + 1) M1 Mo es ((wrun x y (pivOf y x) pre).1 ++ d.map (bk1 x y)) r wr) ∧ Aside0 (KeptD (fun k => M1 k ∨ (k = W3.heap.size ∨ k = W3.heap.size + 1 ∨ k = gx ∨ k = gy)) W5 wr)) (fun wr => backLen W2.heap.size wr)
    case atStart => exact ⟨Mo, es, [], (wrun x y (pivOf y x) pre).2, ⟨rfl, by simp⟩, ⟨by simpa using HR.out⟩, ⟨KeptD.refl _ _⟩⟩
    case round =>
      obtain ⟨Mo, es, d, r, HD, HJ, HK⟩ := hrel
      have hmx : Try.prog.follows .mixedOrders = true := by kernel_rfl
      obtain ⟨Aq, cq, hbb, hcq, hCq⟩ := HJ.out.hv.hbb
      have f0 := (blk_cell HJ.out.hv.hb0 0).trans rfl
      have f1 := (blk_cell HJ.out.hv.two.hy 0).trans rfl
      have f2 := (blk_cell HJ.out.hv.two.hx 0).trans rfl
      have f4 := (blk_cell hbb 0).trans rfl
      have hvb := formed_bd HV.out
      have HL : Aside0 (es.length < 4194304) := ⟨HJ.out.few HD.out.1 HLX.out.1 HLX.out.2 hlen⟩
      have HON := Aside0.mk (fun (W' : World) (hb : Below wr.heap.size wr W') => on_any x y gx cx gy cy base v wr W' HJ.out.hv.two hb HLX.out.1 HLX.out.2 (by omega))
      have HBB := Aside0.mk hbb
      have HCQ := Aside0.mk hcq
      replace hCq := Aside0.mk hCq
      cases r with
      | nil =>
        clear hbb hcq hCq
        gi_wp2
        refine wpIn_region_N (S := fun W' => ∀ k, RIt W.heap.size W2.heap.size Bx By gx gy gb k → W'.heap[k]? = wr.heap[k]?) hmx ?_
        refine wpAnyS_take (i := 0) (v := .func (.yield l) #[] #[]) (fun _ => trivial) (by kernel_rfl) rfl (by kernel_rfl) (by kernel_rfl) (by kernel_rfl) (fun _ _ _ h => h) (by rfl) (fun W' hS => by have c := (blk_cell ((hS _ (by simp [RIt])).trans HJ.out.hv.hb0) 0).trans rfl; go_simp) (fun _ _ => rfl) ?_
        refine wpAnyS_take (i := 1) (v := .int .i64 v) (fun _ => trivial) (by kernel_rfl) rfl (by kernel_rfl) (by kernel_rfl) (by kernel_rfl) (fun _ _ _ h => h) (by rfl) (fun W' hS => by go_simp) (fun _ _ => rfl) ?_
        refine wpAnyS_take (i := 2) (v := .slice (some ⟨gx, 0, none⟩) x.length cx) (fun _ => trivial) (by kernel_rfl) rfl (by kernel_rfl) (by kernel_rfl) (by kernel_rfl) (fun _ _ _ h => h) (by rfl) (fun W' hS => by have c := (blk_cell ((hS _ (by simp [RIt])).trans HJ.out.hv.two.hx) 0).trans rfl; go_simp) (fun _ _ => rfl) ?_
        refine wpAnyS_take (i := 3) (v := .slice (some ⟨gy, 0, none⟩) y.length cy) (fun _ => trivial) (by kernel_rfl) rfl (by kernel_rfl) (by kernel_rfl) (by kernel_rfl) (fun _ _ _ h => h) (by rfl) (fun W' hS => by have c := (blk_cell ((hS _ (by simp [RIt])).trans HJ.out.hv.two.hy) 0).trans rfl; go_simp) (fun _ _ => rfl) ?_
        refine wpAnyS_take (i := 4) (v := .int .i64 v) (fun _ => trivial) (by kernel_rfl) rfl (by kernel_rfl) (by kernel_rfl) (by kernel_rfl) (fun _ _ _ h => h) (by rfl) (fun W' hS => by go_simp) (fun _ _ => rfl) ?_
        refine wpAnyS_one (i := 5) (by kernel_rfl) rfl (by rfl) (fun K' hK' => ?_)
        go_simp
        refine ⟨trivial, ?_⟩
        (with_reducible refine (CallsIn.inRound li (callsIn_wide.2 (HON.out _ ?hh))).mono ?_)
        case hh => exact below_drew (Below.refl _ _)
        rintro e w5 ⟨u, rfl, ho, hb5⟩
        refine hK' _ _ (fun k hk => hb5.block k (HJ.out.hv.lt hk)) ?_
        obtain ⟨M2, hg2, hm2, hs2, hh2, hi2, hK2⟩ := HJ.out.yield hb5 v ho (on_good _ _ _)
        obtain ⟨fn, tmps, assign, body, hy, hR⟩ := HY.out Mo M2 es (v, u, onOf x y v) wr w5 HJ.out.hj hg2 hm2 hs2 hh2 HL.out
        have HK2 := Aside0.mk hK2
        have HI2 := Aside0.mk hi2
        have HRR := Aside0.mk hR
        clear hR hK2 ho hg2 hm2 hs2 hh2 hi2 hK'
        refine wpAnyS_one (i := 6) (by kernel_rfl) rfl (by rfl) (fun K' hK' => ?_)
        dsimp only at hy
        go_simp
        refine (roundIn_wide HRR.out).mono ?_
        rintro e W6 (⟨rfl, hj, hk⟩ | ⟨rfl, hjx, hk⟩)
        · obtain ⟨h6, hK6, hJ6⟩ := HK2.out W6 hk
          have H6 := Aside0.mk h6
          have HK6 := Aside0.mk hK6
          have HJ6 := Aside0.mk (hJ6 hj)
          refine hK' _ _ h6 ?_
          clear hj hk hK6 hJ6 h6 hy hK'
          refine wpAnyS_one (i := 7) (by kernel_rfl) rfl (by rfl) (fun K' hK' => ?_)
          go_simp
          refine hK' _ _ H6.out (wpAnyS_doneN (by kernel_rfl) ?_ _)
          clear hK'
          gi_wp2
          exact ⟨HK.out.trans HK6.out, HJ6.out.done HD.out (by intro b r' h; cases h)⟩
        · obtain ⟨h6, hK6, hJ6⟩ := HK2.out W6 hk
          have H6 := Aside0.mk h6
          have HK6 := Aside0.mk hK6
          have HX6 := Aside0.mk hjx
          refine hK' _ _ h6 ?_
          clear hjx hk hK6 hJ6 h6 hy hK'
          refine wpAnyS_one (i := 7) (by kernel_rfl) rfl (by rfl) (fun K' hK' => ?_)
          go_simp
          refine hK' _ _ H6.out (wpAnyS_doneN (by kernel_rfl) ?_ _)
          clear hK'
          gi_wp2
          exact ⟨HK.out.trans HK6.out, HJ.out.left HD.out (by intro b r' h; cases h) HX6.out HI2.out⟩
      | cons b r =>
        obtain ⟨ad, eA, hcell⟩ := Kd.at_int (hCq.out wr rfl) 0 (by decide) (by simp)
        subst eA
        have hcell : wr.cell? (ad.add 0) = some (.int .i64 b) := hcell
        have hcell0 : wr.cell? ad = some (.int .i64 b) := by simpa [Addr.add] using hcell
        clear hbb hcq
        by_cases hlt : b < v
        · have HLT := Aside0.mk hlt
          have t1 : decide (b < v) = true := decide_eq_true hlt
          have HON2 : Aside0 (∀ (W' : World) (hb : Below wr.heap.size wr W'), Calls Try.prog 69 #[.slice (some ⟨gy, 0, none⟩) y.length cy, .slice (some ⟨gx, 0, none⟩) x.length cx, .int .i64 b] W' fun e w' => ∃ u : Value, e = .returned u ∧ OwnInts w' wr.heap.size u (onOf y x b) ∧ Below wr.heap.size wr w') := ⟨fun W' hb => on_any y x gy cy gx cx base b wr W' ⟨HJ.out.hv.two.hy, HJ.out.hv.two.hx, HJ.out.hv.two.oy, HJ.out.hv.two.ox⟩ hb HLX.out.2 HLX.out.1 (by have h1 := formed_bd (HFY.out b (wrun_mem (x := x) (pre := pre) (by rw [HD.out.1]; simp))); omega)⟩
          gi_wp2
          refine wpIn_region_N (S := fun W' => ∀ k, RIt W.heap.size W2.heap.size Bx By gx gy gb k → W'.heap[k]? = wr.heap[k]?) hmx ?_
          refine wpAnyS_take (i := 0) (v := .func (.yield l) #[] #[]) (fun _ => trivial) (by kernel_rfl) rfl (by kernel_rfl) (by kernel_rfl) (by kernel_rfl) (fun _ _ _ h => h) (by rfl) (fun W' hS => by have c := (blk_cell ((hS _ (by simp [RIt])).trans HJ.out.hv.hb0) 0).trans rfl; go_simp) (fun _ _ => rfl) ?_
          refine wpAnyS_take (i := 1) (v := .slice (some ad) (r.length + 1) cq) (fun _ => trivial) (by kernel_rfl) rfl (by kernel_rfl) (by kernel_rfl) (by kernel_rfl) (fun _ _ _ h => h) (by rfl) (fun W' hS => by have c := (blk_cell ((hS _ (by simp [RIt])).trans HBB.out) 0).trans rfl; go_simp) (fun _ _ => rfl) ?_
          refine wpAnyS_take (i := 2) (v := .pointer (some ad)) (fun _ => trivial) (by kernel_rfl) rfl (by kernel_rfl) (by kernel_rfl) (by kernel_rfl) (fun _ _ _ h => h) (by rfl) (fun W' hS => by go_simp) (fun _ _ => rfl) ?_
          refine wpAnyS_take (i := 3) (v := .int .i64 b) (fun _ => trivial) (by kernel_rfl) rfl (by kernel_rfl) (by kernel_rfl) (by kernel_rfl) (fun _ _ _ h => h) (by rfl) (fun W' hS => by have c := (hCq.out W' (hS gb (by simp [RIt]))); obtain ⟨ad2, e2, c2⟩ := Kd.at_int c 0 (by decide) (by simp); cases e2; have c3 : W'.cell? (ad.add 0) = some (.int .i64 b) := c2; have c4 : W'.cell? ad = some (.int .i64 b) := (by simpa [Addr.add] using c3); go_simp) (fun _ _ => rfl) ?_
          refine wpAnyS_take (i := 4) (v := .slice (some ⟨gy, 0, none⟩) y.length cy) (fun _ => trivial) (by kernel_rfl) rfl (by kernel_rfl) (by kernel_rfl) (by kernel_rfl) (fun _ _ _ h => h) (by rfl) (fun W' hS => by have c := (blk_cell ((hS _ (by simp [RIt])).trans HJ.out.hv.two.hy) 0).trans rfl; go_simp) (fun _ _ => rfl) ?_
          refine wpAnyS_take (i := 5) (v := .slice (some ⟨gx, 0, none⟩) x.length cx) (fun _ => trivial) (by kernel_rfl) rfl (by kernel_rfl) (by kernel_rfl) (by kernel_rfl) (fun _ _ _ h => h) (by rfl) (fun W' hS => by have c := (blk_cell ((hS _ (by simp [RIt])).trans HJ.out.hv.two.hx) 0).trans rfl; go_simp) (fun _ _ => rfl) ?_
          refine wpAnyS_take (i := 6) (v := .slice (some ad) (r.length + 1) cq) (fun _ => trivial) (by kernel_rfl) rfl (by kernel_rfl) (by kernel_rfl) (by kernel_rfl) (fun _ _ _ h => h) (by rfl) (fun W' hS => by have c := (blk_cell ((hS _ (by simp [RIt])).trans HBB.out) 0).trans rfl; go_simp) (fun _ _ => rfl) ?_
          refine wpAnyS_take (i := 7) (v := .pointer (some ad)) (fun _ => trivial) (by kernel_rfl) rfl (by kernel_rfl) (by kernel_rfl) (by kernel_rfl) (fun _ _ _ h => h) (by rfl) (fun W' hS => by go_simp) (fun _ _ => rfl) ?_
          refine wpAnyS_take (i := 8) (v := .int .i64 b) (fun _ => trivial) (by kernel_rfl) rfl (by kernel_rfl) (by kernel_rfl) (by kernel_rfl) (fun _ _ _ h => h) (by rfl) (fun W' hS => by have c := (hCq.out W' (hS gb (by simp [RIt]))); obtain ⟨ad2, e2, c2⟩ := Kd.at_int c 0 (by decide) (by simp); cases e2; have c3 : W'.cell? (ad.add 0) = some (.int .i64 b) := c2; have c4 : W'.cell? ad = some (.int .i64 b) := (by simpa [Addr.add] using c3); go_simp) (fun _ _ => rfl) ?_
          refine wpAnyS_one (i := 9) (by kernel_rfl) rfl (by rfl) (fun K' hK' => ?_)
          go_simp
          refine ⟨trivial, ?_⟩
          (with_reducible refine (CallsIn.inRound li (callsIn_wide.2 (HON2.out _ ?hh))).mono ?_)
          case hh => exact below_drew (Below.refl _ _)
          rintro e w5 ⟨u, rfl, ho, hb5⟩
          refine hK' _ _ (fun k hk => hb5.block k (HJ.out.hv.lt hk)) ?_
          obtain ⟨M2, hg2, hm2, hs2, hh2, hi2, hK2⟩ := HJ.out.yield hb5 b ho (on_good _ _ _)
          obtain ⟨fn, tmps, assign, body, hy, hR⟩ := HY.out Mo M2 es (b, u, onOf y x b) wr w5 HJ.out.hj hg2 hm2 hs2 hh2 HL.out
          have HK2 := Aside0.mk hK2
          have HI2 := Aside0.mk hi2
          have HRR := Aside0.mk hR
          clear hR hK2 ho hg2 hm2 hs2 hh2 hi2 hK'
          refine wpAnyS_one (i := 10) (by kernel_rfl) rfl (by rfl) (fun K' hK' => ?_)
          dsimp only at hy
          go_simp
          refine (roundIn_wide HRR.out).mono ?_
          rintro e W6 (⟨rfl, hj, hk⟩ | ⟨rfl, hjx, hk⟩)
          · obtain ⟨h6, hK6, hJ6⟩ := HK2.out W6 hk
            have H6 := Aside0.mk h6
            have HK6 := Aside0.mk hK6
            have HJ6 := Aside0.mk (hJ6 hj)
            refine hK' _ _ h6 ?_
            clear hj hk hK6 hJ6 h6 hy hK'
            refine wpAnyS_one (i := 11) (by kernel_rfl) rfl (by rfl) (fun K' hK' => ?_)
            go_simp
            refine hK' _ _ H6.out (wpAnyS_doneN (by kernel_rfl) ?_ _)
            clear hK'
            have b6 := (H6.out W2.heap.size (by simp [RIt])).trans HBB.out
            have g4 := (blk_cell b6 0).trans rfl
            have y4 := blk_frozen b6 0
            have HJ7 := Aside0.mk (HJ6.out.next HO.out b6 HN1.out)
            have HB6 := Aside0.mk b6
            clear b6
            by_cases hc1 : cq = 1
            · have HC1 := Aside0.mk hc1
              subst hc1
              have J8 := HJ7.out
              rw [if_pos rfl] at J8
              have HJ8 := Aside0.mk J8
              have B8 := Aside0.mk (blk_put HB6.out 0 (.slice (some ad) r.length 0) rfl)
              clear J8
              gi_wp2
              go_roundw
              case rel => exact ⟨M2, es ++ [(b, u, onOf y x b)], d ++ [b], r, ⟨by rw [HD.out.1]; simp, fun c hc => by rcases List.mem_append.1 hc with h | h; exact HD.out.2 c h; rw [List.mem_singleton] at h; rw [h]; exact HLT.out⟩, ⟨by simpa [List.map_append, bk1, Addr.add] using HJ8.out⟩, ⟨(HK.out.trans HK6.out).trans (KeptD.setCell (p := ⟨W2.heap.size, 0, none⟩) (fun h => by rcases h with h | h | h | h | h; exact HJ.out.hn W2.heap.size (by simp [RIt]) h; exact HN2.out.1 h; exact HN2.out.2 h; exact HN1.out.2.2.2.2.1 h; exact HN1.out.2.2.2.2.2 h) _)⟩⟩
              case measure => rw [backLen_eq HBB.out]; exact Nat.lt_of_le_of_lt (Nat.le_of_eq (backLen_eq B8.out)) (Nat.lt_succ_self _)
            · have HC1 := Aside0.mk hc1
              have p2 : 1 < cq := by have := HCQ.out; simp at this; omega
              have J8 := HJ7.out
              rw [if_neg HC1.out] at J8
              have HJ8 := Aside0.mk J8
              have B8 := Aside0.mk (blk_put HB6.out 0 (.slice (some (ad.add 1)) r.length (cq - 1)) rfl)
              clear J8
              gi_wp2
              go_roundw
              case rel => exact ⟨M2, es ++ [(b, u, onOf y x b)], d ++ [b], r, ⟨by rw [HD.out.1]; simp, fun c hc => by rcases List.mem_append.1 hc with h | h; exact HD.out.2 c h; rw [List.mem_singleton] at h; rw [h]; exact HLT.out⟩, ⟨by simpa [List.map_append, bk1, Addr.add] using HJ8.out⟩, ⟨(HK.out.trans HK6.out).trans (KeptD.setCell (p := ⟨W2.heap.size, 0, none⟩) (fun h => by rcases h with h | h | h | h | h; exact HJ.out.hn W2.heap.size (by simp [RIt]) h; exact HN2.out.1 h; exact HN2.out.2 h; exact HN1.out.2.2.2.2.1 h; exact HN1.out.2.2.2.2.2 h) _)⟩⟩
              case measure => rw [backLen_eq HBB.out]; exact Nat.lt_of_le_of_lt (Nat.le_of_eq (backLen_eq B8.out)) (Nat.lt_succ_self _)
          · obtain ⟨h6, hK6, hJ6⟩ := HK2.out W6 hk
            have H6 := Aside0.mk h6
            have HK6 := Aside0.mk hK6
            have HX6 := Aside0.mk hjx
            refine hK' _ _ h6 ?_
            clear hjx hk hK6 hJ6 h6 hy hK'
            refine wpAnyS_one (i := 11) (by kernel_rfl) rfl (by rfl) (fun K' hK' => ?_)
            go_simp
            refine hK' _ _ H6.out (wpAnyS_doneN (by kernel_rfl) ?_ _)
            clear hK'
            gi_wp2
            exact ⟨HK.out.trans HK6.out, HJ.out.left2 HD.out HLT.out HX6.out HI2.out⟩
        · have t1 : decide (b < v) = false := decide_eq_false hlt
          have HNL := Aside0.mk hlt
          gi_wp2
          refine wpIn_region_N (S := fun W' => ∀ k, RIt W.heap.size W2.heap.size Bx By gx gy gb k → W'.heap[k]? = wr.heap[k]?) hmx ?_
          refine wpAnyS_take (i := 0) (v := .func (.yield l) #[] #[]) (fun _ => trivial) (by kernel_rfl) rfl (by kernel_rfl) (by kernel_rfl) (by kernel_rfl) (fun _ _ _ h => h) (by rfl) (fun W' hS => by have c := (blk_cell ((hS _ (by simp [RIt])).trans HJ.out.hv.hb0) 0).trans rfl; go_simp) (fun _ _ => rfl) ?_
          refine wpAnyS_take (i := 1) (v := .int .i64 v) (fun _ => trivial) (by kernel_rfl) rfl (by kernel_rfl) (by kernel_rfl) (by kernel_rfl) (fun _ _ _ h => h) (by rfl) (fun W' hS => by go_simp) (fun _ _ => rfl) ?_
          refine wpAnyS_take (i := 2) (v := .slice (some ⟨gx, 0, none⟩) x.length cx) (fun _ => trivial) (by kernel_rfl) rfl (by kernel_rfl) (by kernel_rfl) (by kernel_rfl) (fun _ _ _ h => h) (by rfl) (fun W' hS => by have c := (blk_cell ((hS _ (by simp [RIt])).trans HJ.out.hv.two.hx) 0).trans rfl; go_simp) (fun _ _ => rfl) ?_
          refine wpAnyS_take (i := 3) (v := .slice (some ⟨gy, 0, none⟩) y.length cy) (fun _ => trivial) (by kernel_rfl) rfl (by kernel_rfl) (by kernel_rfl) (by kernel_rfl) (fun _ _ _ h => h) (by rfl) (fun W' hS => by have c := (blk_cell ((hS _ (by simp [RIt])).trans HJ.out.hv.two.hy) 0).trans rfl; go_simp) (fun _ _ => rfl) ?_
          refine wpAnyS_take (i := 4) (v := .int .i64 v) (fun _ => trivial) (by kernel_rfl) rfl (by kernel_rfl) (by kernel_rfl) (by kernel_rfl) (fun _ _ _ h => h) (by rfl) (fun W' hS => by go_simp) (fun _ _ => rfl) ?_
          refine wpAnyS_one (i := 5) (by kernel_rfl) rfl (by rfl) (fun K' hK' => ?_)
          go_simp
          refine ⟨trivial, ?_⟩
          (with_reducible refine (CallsIn.inRound li (callsIn_wide.2 (HON.out _ ?hh))).mono ?_)
          case hh => exact below_drew (Below.refl _ _)
          rintro e w5 ⟨u, rfl, ho, hb5⟩
          refine hK' _ _ (fun k hk => hb5.block k (HJ.out.hv.lt hk)) ?_
          obtain ⟨M2, hg2, hm2, hs2, hh2, hi2, hK2⟩ := HJ.out.yield hb5 v ho (on_good _ _ _)
          obtain ⟨fn, tmps, assign, body, hy, hR⟩ := HY.out Mo M2 es (v, u, onOf x y v) wr w5 HJ.out.hj hg2 hm2 hs2 hh2 HL.out
          have HK2 := Aside0.mk hK2
          have HI2 := Aside0.mk hi2
          have HRR := Aside0.mk hR
          clear hR hK2 ho hg2 hm2 hs2 hh2 hi2 hK'
          refine wpAnyS_one (i := 6) (by kernel_rfl) rfl (by rfl) (fun K' hK' => ?_)
          dsimp only at hy
          go_simp
          refine (roundIn_wide HRR.out).mono ?_
          rintro e W6 (⟨rfl, hj, hk⟩ | ⟨rfl, hjx, hk⟩)
          · obtain ⟨h6, hK6, hJ6⟩ := HK2.out W6 hk
            have H6 := Aside0.mk h6
            have HK6 := Aside0.mk hK6
            have HJ6 := Aside0.mk (hJ6 hj)
            refine hK' _ _ h6 ?_
            clear hj hk hK6 hJ6 h6 hy hK'
            refine wpAnyS_one (i := 7) (by kernel_rfl) rfl (by rfl) (fun K' hK' => ?_)
            go_simp
            refine hK' _ _ H6.out (wpAnyS_doneN (by kernel_rfl) ?_ _)
            clear hK'
            gi_wp2
            exact ⟨HK.out.trans HK6.out, HJ6.out.done HD.out (by intro b' r' h; cases h; have := HNL.out; omega)⟩
          · obtain ⟨h6, hK6, hJ6⟩ := HK2.out W6 hk
            have H6 := Aside0.mk h6
            have HK6 := Aside0.mk hK6
            have HX6 := Aside0.mk hjx
            refine hK' _ _ h6 ?_
            clear hjx hk hK6 hJ6 h6 hy hK'
            refine wpAnyS_one (i := 7) (by kernel_rfl) rfl (by rfl) (fun K' hK' => ?_)
            go_simp
            refine hK' _ _ H6.out (wpAnyS_doneN (by kernel_rfl) ?_ _)
            clear hK'
            gi_wp2
            exact ⟨HK.out.trans HK6.out, HJ.out.left HD.out (by intro b' r' h; cases h; have := HNL.out; omega) HX6.out HI2.out⟩
  case done =>
    rintro M xs WS hM rfl ⟨Mo, es, hr⟩ hD
    have hwv : weave x y = (wrun x y (pivOf y x) (pivOf x y)).1 ++ (wrun x y (pivOf y x) (pivOf x y)).2.map (bk1 x y) := rfl
    have hln := wrun_len x y (pivOf y x) (pivOf x y) ([], pivOf y x)
    have hl1 := pivOf_length y x
    have hl2 := pivOf_length x y
    have hmem := fun b (h : b ∈ (wrun x y (pivOf y x) (pivOf x y)).2) => HFY.out b (wrun_mem h)
    have hlen : (wrun x y (pivOf y x) (pivOf x y)).1.length + (wrun x y (pivOf y x) (pivOf x y)).2.length ≤ 4194304 := by
      have := HLX.out
      unfold wrun
      simp only [List.length_nil] at hln
      omega
    clear hln hl1 hl2
    generalize (wrun x y (pivOf y x) (pivOf x y)).1 = s1 at *
    generalize (wrun x y (pivOf y x) (pivOf x y)).2 = bk at *
    have HW := Aside0.mk hwv
    have HMM := Aside0.mk hmem
    have HLN := Aside0.mk hlen
    have HM := Aside0.mk hM
    obtain ⟨Aq, cq, hbb, hcq, hCq⟩ := hr.hv.hbb
    have f4 := (blk_cell hbb 0).trans rfl
    have HR := Aside0.mk hr
    have HBB0 := Aside0.mk hbb
    have HD0 := Aside0.mk hD
    clear hwv hmem hlen hM hbb hcq hCq hr hD SQ HJ4
    gi_wp2
    gi_loopw [50] (fun v50 wr => ∃ (k : Nat) (Mo : Nat → Prop) (es : List (Int × Value × List Int)), v50 = .int .i64 k ∧ Aside0 (k ≤ bk.length) ∧ Aside0 (RJ J l x y W.heap.size W2.heap.size Bx By gx cx gy cy base gb W3.heap.size (W3.heap.size + 1) M Mo es (s1 ++ (bk.take k).map (bk1 x y)) bk wr) ∧ Aside0 (wr.heap[W2.heap.size]? = some (.cells #[.slice Aq bk.length cq] 26 (0, 0))) ∧ Aside0 (wr.heap[W4.heap.size]? = some (.deferred (some [])))) (fun v50 _ => bk.length - (intOf v50).toNat)
    case atStart => exact ⟨0, Mo, es, rfl, ⟨Nat.zero_le _⟩, ⟨by simpa using HR.out⟩, ⟨HBB0.out⟩, ⟨HD0.out⟩⟩
    case round =>
      obtain ⟨k, Mo, es, rfl, HK0, HJ, HBB, HD⟩ := hrel
      have hmx : Try.prog.follows .mixedOrders = true := by kernel_rfl
      by_cases hlt : k < bk.length
      · have HLT := Aside0.mk hlt
        have hki : (0 : Int) ≤ (k : Int) := by omega
        have hkn : (k : Int) < (bk.length : Int) := by omega
        obtain ⟨A2, c2, hb2, hc2, hC2⟩ := HJ.out.hv.hbb
        have e2 := HBB.out.symm.trans hb2
        simp only [Option.some.injEq, Obj.cells.injEq, Array.mk.injEq, List.cons.injEq, Value.slice.injEq, and_true, true_and] at e2
        obtain ⟨rfl, rfl⟩ := e2
        obtain ⟨ad, eA, hcell⟩ := Kd.at_int (hC2 wr rfl) (k : Int) hki hkn
        subst eA
        rw [Int.toNat_natCast] at hcell
        have hin := HMM.out _ (rd_mem hlt)
        have hbd := formed_bd hin
        have HE : Aside0 (bk.take (k + 1) = bk.take k ++ [rd bk (k : Int)]) := ⟨take_rd hlt⟩
        have HDR : Aside0 (bk.drop k = rd bk (k : Int) :: bk.drop (k + 1)) := ⟨drop_rd hlt⟩
        obtain ⟨b, hb⟩ : ∃ b, b = rd bk (k : Int) := ⟨_, rfl⟩
        rw [← hb] at hcell hbd HE HDR
        have HL : Aside0 (es.length < 4194304) := ⟨by
          have h1 := congrArg List.length HJ.out.he
          have h2 := HLN.out
          simp only [List.length_map, List.length_append, List.length_take] at h1
          omega⟩
        have HON2 : Aside0 (∀ (W' : World) (hb : Below wr.heap.size wr W'), Calls Try.prog 69 #[.slice (some ⟨gy, 0, none⟩) y.length cy, .slice (some ⟨gx, 0, none⟩) x.length cx, .int .i64 b] W' fun e w' => ∃ u : Value, e = .returned u ∧ OwnInts w' wr.heap.size u (onOf y x b) ∧ Below wr.heap.size wr w') := ⟨fun W' hb => on_any y x gy cy gx cx base b wr W' ⟨HJ.out.hv.two.hy, HJ.out.hv.two.hx, HJ.out.hv.two.oy, HJ.out.hv.two.ox⟩ hb HLX.out.2 HLX.out.1 (by omega)⟩
        have f0 := (blk_cell HJ.out.hv.hb0 0).trans rfl
        have HN0 : Aside0 (bk.length ≤ 4194304) := ⟨by have := HLN.out; omega⟩
        have hk9 : (k : Int) < 9223372036854775807 := by have := HN0.out; omega
        clear hb hin hbd hb2 hc2 hC2
        gi_wp2
        refine wpIn_region_N (S := fun W' => ∀ k, RIt W.heap.size W2.heap.size Bx By gx gy gb k → W'.heap[k]? = wr.heap[k]?) hmx ?_
        refine wpAnyS_take (i := 0) (v := .func (.yield l) #[] #[]) (fun _ => trivial) (by kernel_rfl) rfl (by kernel_rfl) (by kernel_rfl) (by kernel_rfl) (fun _ _ _ h => h) (by rfl) (fun W' hS => by have c := (blk_cell ((hS _ (by simp [RIt])).trans HJ.out.hv.hb0) 0).trans rfl; go_simp) (fun _ _ => rfl) ?_
        refine wpAnyS_take (i := 1) (v := .int .i64 b) (fun _ => trivial) (by kernel_rfl) rfl (by kernel_rfl) (by kernel_rfl) (by kernel_rfl) (fun _ _ _ h => h) (by rfl) (fun W' hS => by go_simp) (fun _ _ => rfl) ?_
        refine wpAnyS_take (i := 2) (v := .slice (some ⟨gy, 0, none⟩) y.length cy) (fun _ => trivial) (by kernel_rfl) rfl (by kernel_rfl) (by kernel_rfl) (by kernel_rfl) (fun _ _ _ h => h) (by rfl) (fun W' hS => by have c := (blk_cell ((hS _ (by simp [RIt])).trans HJ.out.hv.two.hy) 0).trans rfl; go_simp) (fun _ _ => rfl) ?_
        refine wpAnyS_take (i := 3) (v := .slice (some ⟨gx, 0, none⟩) x.length cx) (fun _ => trivial) (by kernel_rfl) rfl (by kernel_rfl) (by kernel_rfl) (by kernel_rfl) (fun _ _ _ h => h) (by rfl) (fun W' hS => by have c := (blk_cell ((hS _ (by simp [RIt])).trans HJ.out.hv.two.hx) 0).trans rfl; go_simp) (fun _ _ => rfl) ?_
        refine wpAnyS_take (i := 4) (v := .int .i64 b) (fun _ => trivial) (by kernel_rfl) rfl (by kernel_rfl) (by kernel_rfl) (by kernel_rfl) (fun _ _ _ h => h) (by rfl) (fun W' hS => by go_simp) (fun _ _ => rfl) ?_
        refine wpAnyS_one (i := 5) (by kernel_rfl) rfl (by rfl) (fun K' hK' => ?_)
        go_simp
        refine ⟨trivial, ?_⟩
        (with_reducible refine (callsIn_wide.2 (HON2.out _ ?hh)).mono ?_)
        case hh => exact below_drew (Below.refl _ _)
        rintro e w5 ⟨u, rfl, ho, hb5⟩
        refine hK' _ _ (fun k hk => hb5.block k (HJ.out.hv.lt hk)) ?_
        obtain ⟨M2, hg2, hm2, hs2, hh2, hi2, hK2⟩ := HJ.out.yield hb5 b ho (on_good _ _ _)
        obtain ⟨fn, tmps, assign, body, hy, hR⟩ := HY.out Mo M2 es (b, u, onOf y x b) wr w5 HJ.out.hj hg2 hm2 hs2 hh2 HL.out
        have HK2 := Aside0.mk hK2
        have HI2 := Aside0.mk hi2
        have HRR := Aside0.mk hR
        clear hR hK2 ho hg2 hm2 hs2 hh2 hi2 hK'
        refine wpAnyS_one (i := 6) (by kernel_rfl) rfl (by rfl) (fun K' hK' => ?_)
        dsimp only at hy
        go_simp
        refine (roundIn_wide0 HRR.out).mono ?_
        rintro e W6 (⟨rfl, hj, hk⟩ | ⟨rfl, hjx, hk⟩)
        · obtain ⟨h6, hK6, hJ6⟩ := HK2.out W6 hk
          have H6 := Aside0.mk h6
          have HK6 := Aside0.mk hK6
          have HJ6 := Aside0.mk (hJ6 hj)
          refine hK' _ _ h6 ?_
          clear hj hk hK6 hJ6 h6 hy hK'
          refine wpAnyS_one (i := 7) (by kernel_rfl) rfl (by rfl) (fun K' hK' => ?_)
          go_simp
          refine hK' _ _ H6.out (wpAnyS_doneN (by kernel_rfl) ?_ _)
          clear hK'
          have HD6 := Aside0.mk (HK6.out.2 _ _ (.inl HM.out) HD.out)
          have HB6 := Aside0.mk ((H6.out W2.heap.size (by simp [RIt])).trans HBB.out)
          gi_wp2
          go_roundw
          case rel => exact ⟨k + 1, M2, es ++ [(b, u, onOf y x b)], by simp, ⟨by have := HLT.out; omega⟩, ⟨by have h8 := HJ6.out; rw [HE.out]; simpa [List.map_append, bk1] using h8⟩, ⟨HB6.out⟩, ⟨HD6.out⟩⟩
          case measure => have := HLT.out; simp [intOf]; omega
        · obtain ⟨h6, hK6, hJ6⟩ := HK2.out W6 hk
          have H6 := Aside0.mk h6
          have HK6 := Aside0.mk hK6
          have HX6 := Aside0.mk hjx
          refine hK' _ _ h6 ?_
          clear hjx hk hK6 hJ6 h6 hy hK'
          refine wpAnyS_one (i := 7) (by kernel_rfl) rfl (by rfl) (fun K' hK' => ?_)
          go_simp
          refine hK' _ _ H6.out (wpAnyS_doneN (by kernel_rfl) ?_ _)
          clear hK'
          have HD6 := Aside0.mk (HK6.out.2 _ _ (.inl HM.out) HD.out)
          gi_wp2
          refine ⟨by simp, .inl ⟨_, _, rfl, run_takeDeferred HD6.out, ?_⟩⟩
          refine ⟨_, results_none rfl _ _ _, ⟨_, rfl⟩, M2, .inr ⟨_, ?_, HOX.out _ _ _ _ _ HX6.out (Grow.put _ (HI2.out _ HM.out)) (More.refl _ _ _)⟩⟩
          rw [List.map_append, HJ.out.he, HW.out]
          refine ⟨(bk.drop (k + 1)).map (bk1 x y), ?_⟩
          have h9 : bk = bk.take k ++ b :: bk.drop (k + 1) := by rw [← HDR.out]; exact (List.take_append_drop k bk).symm
          conv => rhs; rw [h9]
          simp [bk1]
      · obtain rfl : k = bk.length := by have := HK0.out; omega
        have HJ9 := HJ.out
        rw [List.take_length] at HJ9
        have HJ9 := Aside0.mk HJ9
        clear hlt
        gi_wp2
        refine ⟨by simp, .inl ⟨_, _, rfl, run_takeDeferred HD.out, ?_⟩⟩
        refine ⟨_, results_none rfl _ _ _, ⟨_, rfl⟩, Mo, .inl ⟨es, ?_, HO.out _ _ _ _ _ HJ.out.hj (Grow.put _ (HJ.out.hi _ HM.out)) (More.refl _ _ _)⟩⟩
        rw [HJ9.out.he, HW.out]
  case stop =>
    rintro M c pre WS hM ⟨k, _, rfl⟩ ⟨rfl, Mo, es, hjx, hpre, hi⟩ hD
    gi_wp2
    refine ⟨by simp, .inl ⟨_, _, rfl, run_takeDeferred hD, ?_⟩⟩
    exact ⟨_, results_none rfl _ _ _, ⟨_, rfl⟩, Mo, .inr ⟨es, hpre.trans (wrun_weave (pivOf_prefix x y k)), HOX.out _ _ _ _ _ hjx (Grow.put _ (hi _ hM)) (More.refl _ _ _)⟩⟩
end Go.Proofs.YtamefocngapkpaaHand
