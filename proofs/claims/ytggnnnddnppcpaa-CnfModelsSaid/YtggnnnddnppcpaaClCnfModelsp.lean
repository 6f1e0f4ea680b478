/- The law CnfModels answers true. -/
import Derived.Test.YtggnnnddnppcpaaClCnfModelsn
import Derived.Test.YtggnnnddnppcpaaClCnfModelso
import Derived.Sort.CutIn
import Derived.Laws.EntriesVeiled
/-! text YtggnnnddnppcpaaModelsW -/
namespace Go.Proofs.YtggnnnddnppcpaaHand
open Go.RowKit Go.Sort Go.Lib Go.Shelf Go.Proofs.YtggnnnddnppcpaaW.PrintWords Go.Proofs.YtggnnnddnppcpaaW.PrintLast Go.Proofs.YtggnnnddnppcpaaMath Go.Proofs.YtggnnnddnppcpaaOwn Go.Proofs.Ytggnnnddnppcpaa.PCnfModels
attribute [local go_sem] Oper.semAt_some
set_option linter.unusedVariables false
set_option linter.unusedSimpArgs false
theorem undef_bool (b : Bool) : (undef = Value.bool b) = False := by simp [undef]
attribute [local simp, local go_sem] undef_bool
theorem nil_seq1 (g : Nat) (lb : Array Value) (W : World) : (binOp .eql 49 (.func (.func g) #[] lb) .nilFunc).run Try.prog W = .ok (.bool false) W := by kernel_rfl
theorem notPre {α : Type} {L ps : List α} {x : α} (h1 : L.length ≤ ps.length) : ¬ (ps ++ [x]) <+: L := fun h => by have := h.length_le; simp at this; omega
theorem notPre' {α : Type} {L ps : List α} {x : α} (h1 : ps.length < L.length) (h2 : x ≠ L[ps.length]) : ¬ (ps ++ [x]) <+: L := fun h => by
  obtain ⟨t, ht⟩ := h
  apply h2
  subst ht
  simp
theorem isPre {α : Type} {L ps : List α} {x : α} (h : ps <+: L) (h1 : ps.length < L.length) (h2 : x = L[ps.length]) : (ps ++ [x]) <+: L := by
  obtain ⟨t, ht⟩ := h
  subst ht
  cases t with
  | nil => simp at h1
  | cons y t =>
    simp at h2
    subst h2
    exact ⟨t, by simp⟩
abbrev SQM (g : Nat) (lb : Array Value) (hv : Nat) (Rd : Nat → Prop) (L : List (List Bool)) (W : World) : Prop := ∀ n, 1 ≤ n → SQg Fence.wide n Try.prog g lb (fun x : Value × List Bool => #[x.1]) (HandB hv) Rd (fun xs => xs.map (·.2) = L) (fun pre => pre.map (·.2) <+: L) 65536 W
/-- the sequence, of whatever formula -/
theorem seqM_calls (v : Int) (A0 : Option Addr) (c0 : Nat) (cs : List (List Int)) (w : World) (hr0 : Kd.C (Kd.slice 3 (Kd.int .i64)) w A0 cs.length cs) (hc0 : cs.length ≤ c0) (hn : cs.length ≤ 5864062014805) (hs : ∀ c ∈ cs, c.length ≤ 17592186044416) :
    Calls Try.prog 37 #[.agg #[.int .i64 v, .slice A0 cs.length c0]] w fun e w' => ∃ (g : Nat) (lb : Array Value) (hv : Nat) (Rd : Nat → Prop), e = .returned (.func (.func g) #[] lb) ∧ SQM g lb hv Rd (wantM v cs) w' ∧ (∀ k, Rd k → w.heap.size ≤ k) ∧ (∀ (args : Array Value) (W : World), (callFunc g args).run Try.prog W = .ok (.enter g args) W) ∧ Below w.heap.size w w' ∧ hv ≤ 16 := by
  cases hb : (isFormula v cs && decide (v ≤ 16)) with
  | false =>
    refine (models_bad v A0 c0 cs w hr0 hc0 (by omega) hs hb).mono ?_
    rintro e w' ⟨rfl, hB⟩
    refine ⟨_, _, 0, fun _ => False, rfl, fun n hn1 => ⟨fun _ h => h.elim, fun W1 _ _ => ?_⟩, fun _ h => h.elim, enters_of Try.func71 (by kernel_rfl) rfl, hB, by omega⟩
    have e : wantM v cs = [] := by unfold wantM; rw [hb]; rfl
    rw [e]
    intro l J Jx W2 hW hJ hJx hY h0
    refine (nothing_own n 0 (fun _ => False) W1 l J Jx W2 hW hJ hJx hY h0).mono fun e w' h => ?_
    obtain ⟨h1, M, h2⟩ := h
    refine ⟨h1, M, h2.imp id ?_⟩
    rintro ⟨pre, hf, _⟩
    exact hf.elim
  | true =>
    rw [Bool.and_eq_true, decide_eq_true_eq] at hb
    have h0 := (isFormula_bd hb.1).1
    refine (models_good v A0 c0 cs w hr0 hc0 hn hs hb.1 hb.2).mono ?_
    rintro e w' ⟨Bg, A, cap, rfl, hsrc, hg1, hg2, hB⟩
    refine ⟨_, _, v.toNat, fun k => k = Bg ∨ (w.heap.size ≤ k ∧ k < w'.heap.size), rfl, fun n hn1 => ⟨fun k hk => by rcases hk with rfl | hk; exact hg2; exact hk.2, fun W1 hz hm => ?_⟩, fun k hk => by rcases hk with rfl | hk; exact hg1; exact hk.1, enters_of Try.func72 (by kernel_rfl) rfl, hB, by omega⟩
    have e : wantM v cs = modelsIn v.toNat cs := by unfold wantM; rw [hb.1, decide_eq_true hb.2]; rfl
    rw [e]
    have hsrc1 : Src v.toNat cs Bg w.heap.size (fun k => w.heap.size ≤ k ∧ k < w'.heap.size) A cap W1 := hsrc.keptD (M := fun k => k = Bg ∨ (w.heap.size ≤ k ∧ k < w'.heap.size)) ⟨hz, fun k o hk ho => (hm k hk).trans ho⟩ (.inl rfl) (fun _ h => .inr h)
    exact models_own n hn1 v.toNat cs Bg w.heap.size _ A cap (by omega) (by rw [Int.toNat_of_nonneg h0]; exact hb.1) (by omega) hs W1 hsrc1

set_option maxRecDepth 100000 in
set_option maxHeartbeats 8000000 in
theorem models_law (v kk : Int) (A0 : Option Addr) (c0 : Nat) (cs : List (List Int)) (w : World) (hr0 : Kd.C (Kd.slice 3 (Kd.int .i64)) w A0 cs.length cs) (hc0 : cs.length ≤ c0)
    (hn : cs.length ≤ 5864062014805) (hs : ∀ c ∈ cs, c.length < 17592186044416) :
    Calls Try.prog 7 #[.agg #[.int .i64 v, .slice A0 cs.length c0], .int .i64 kk] w fun e w' => e = .returned (.bool true) ∧ Below w.heap.size w w' := by
  have HR0 := Aside0.mk hr0
  have HC := Aside0.mk hc0
  have HN := Aside0.mk hn
  have HS := Aside0.mk hs
  have HS' : Aside0 (∀ c ∈ cs, c.length ≤ 17592186044416) := ⟨fun c hc => Nat.le_of_lt (hs c hc)⟩
  clear hr0 hc0 hn hs
  refine (callsIn_wide (n := 12)).1 ?_
  refine callsIn_of_wp_marks Try.func7 rfl trivial ?_ rfl
  simp only [Try.ntmps7, List.size_toArray, List.length_cons, List.length_nil, Nat.reduceAdd, Nat.reduceSub, Array.replicate_succ, Array.replicate_zero, List.push_toArray, List.append_toArray, List.nil_append, List.cons_append]
  gi_upto_region 1 with fail
  have T0 : St w [(w.heap.size + 1 + 1, .cells #[.bool false] 4 (0, 0)), (w.heap.size + 1, .cells #[.int .i64 kk] 3 (0, 0)), (w.heap.size, .cells #[.int .i64 v, .slice A0 cs.length c0] 24 (0, 0))] (((w.alloc (.cells #[.int .i64 v, .slice A0 cs.length c0] 24)).alloc (.cells #[.int .i64 kk] 3)).alloc (.cells #[.bool false] 4)) := by
    have := (((St.start (Below.refl w.heap.size w)).new (.cells #[.int .i64 v, .slice A0 cs.length c0] 24)).new (.cells #[.int .i64 kk] 3)).new (.cells #[.bool false] 4)
    simpa using this
  generalize hV0 : ((w.alloc (.cells #[.int .i64 v, .slice A0 cs.length c0] 24)).alloc (.cells #[.int .i64 kk] 3)).alloc (.cells #[.bool false] 4) = V0 at T0 ⊢
  clear hV0
  have f0 := (T0.cell 2 0 rfl).trans rfl
  have f1 := (T0.cell 2 1 rfl).trans rfl
  have HT0 := Aside0.mk T0
  clear T0
  gi_wp2
  refine ⟨trivial, ?_⟩
  (with_reducible refine (callsIn_wide.2 (refModels_calls v A0 c0 cs V0 (Kd.C_below HR0.out HT0.out.hB) HC.out (by have := HN.out; omega) HS'.out)).mono ?_)
  rintro e V1 ⟨Aw, cw, rfl, hcw, hF, h1⟩
  obtain ⟨L, hL⟩ : ∃ L, L = wantM v cs := ⟨_, rfl⟩
  rw [← hL] at hF hcw ⊢
  obtain ⟨nw, hnw⟩ : ∃ nw, nw = L.length := ⟨_, rfl⟩
  have hF' : Kd.F (Kd.slice 4 Kd.bool) V1 (fun k => V0.heap.size ≤ k ∧ k < V1.heap.size) Aw nw L := by rw [hnw]; exact hF
  rw [← hnw] at hcw ⊢
  have HF1 : Aside0 (Fr w [(w.heap.size + 1 + 1, .cells #[.bool false] 4 (0, 0)), (w.heap.size + 1, .cells #[.int .i64 kk] 3 (0, 0)), (w.heap.size, .cells #[.int .i64 v, .slice A0 cs.length c0] 24 (0, 0))] (fun k => V0.heap.size ≤ k ∧ k < V1.heap.size) (fun W => Kd.F (Kd.slice 4 Kd.bool) W (fun k => V0.heap.size ≤ k ∧ k < V1.heap.size) Aw nw L) V1) := ⟨⟨HT0.out.keep h1, fun k hk => hk.2, fun W1 hz hm => Kd.F_step hF' fun k hk _ => hm k hk⟩⟩
  have HL : Aside0 (L = wantM v cs ∧ nw = L.length ∧ nw ≤ cw) := ⟨hL, hnw, hcw⟩
  have HZ1 : Aside0 (w.heap.size + 2 < V0.heap.size ∧ V0.heap.size ≤ V1.heap.size) := ⟨HT0.out.blt 0 rfl, h1.size⟩
  clear f0 f1 h1 hF hF' hL hnw hcw HT0
  gi_upto_region 2 with fail
  have F2 := HF1.out.new (.cells #[.slice Aw nw cw] 46 (0, 0))
  obtain ⟨Bw, hBw⟩ : ∃ Bw, Bw = V1.heap.size := ⟨_, rfl⟩
  have hz2 : (V1.alloc (.cells #[.slice Aw nw cw] 46)).heap.size = Bw + 1 := by rw [hBw]; simp
  rw [← hBw] at F2 ⊢ HZ1
  generalize hV2 : V1.alloc (.cells #[.slice Aw nw cw] 46) = V2 at F2 hz2 ⊢
  have HF2 := Aside0.mk (And.intro F2 hz2)
  clear hV2 hBw F2 hz2 HF1
  have f0 := (HF2.out.1.st.cell 3 0 rfl).trans rfl
  have f1 := (HF2.out.1.st.cell 3 1 rfl).trans rfl
  gi_wp2
  refine ⟨trivial, ?_⟩
  (with_reducible refine (callsIn_wide.2 (copyFormula_calls v A0 c0 cs V2 (Kd.C_below HR0.out HF2.out.1.st.hB) HC.out HN.out HS.out)).mono ?_)
  rintro e V3 ⟨um, rfl, hm, h3⟩
  obtain ⟨Am, cm, rfl⟩ := Kd.R_slice (Kd.S_R hm)
  have HF3 := Aside0.mk (And.intro (HF2.out.1.keep h3) (And.intro HF2.out.2 h3.size))
  have HM3 := Aside0.mk hm
  clear f0 f1 h3 hm HF2
  gi_upto_region 3 with fail
  have F4 := HF3.out.1.new (.cells #[.int .i64 v, .slice Am cs.length cm] 24 (0, 0))
  have hb4 : Below V3.heap.size V3 (V3.alloc (.cells #[.int .i64 v, .slice Am cs.length cm] 24)) := below_alloc (Below.refl _ _) _
  have hm4 := Kd.S_below HM3.out hb4
  obtain ⟨Bm, hBm⟩ : ∃ Bm, Bm = V3.heap.size := ⟨_, rfl⟩
  have hz4 : (V3.alloc (.cells #[.int .i64 v, .slice Am cs.length cm] 24)).heap.size = Bm + 1 := by rw [hBm]; simp
  have hm4' : Kd.S (Kd.slice 3 (Kd.int .i64)) 43 (V3.alloc (.cells #[.int .i64 v, .slice Am cs.length cm] 24)) V2.heap.size (fun k => k < Bm) (.slice Am cs.length cm) cs := Kd.S_mono (Kd.S_below (Kd.S_bound HM3.out) hb4) (fun k hk => by rw [hBm]; exact hk.2.2.1)
  rw [← hBm] at F4 ⊢
  generalize hV4 : V3.alloc (.cells #[.int .i64 v, .slice Am cs.length cm] 24) = V4 at F4 hz4 hm4 hm4' ⊢
  have HF4 := Aside0.mk (And.intro F4 (And.intro HF3.out.2.1 (And.intro (show V2.heap.size ≤ Bm by rw [hBm]; exact HF3.out.2.2) hz4)))
  have HM4 := Aside0.mk hm4'
  clear hV4 hBm F4 hz4 hm4 hm4' hb4 HF3 HM3
  have f0 := (HF4.out.1.st.cell 0 0 rfl).trans rfl
  have f1 := (HF4.out.1.st.cell 0 1 rfl).trans rfl
  gi_wp2
  refine ⟨trivial, ?_⟩
  (with_reducible refine (callsIn_wide.2 (seqM_calls v Am cm cs V4 (Kd.R_reads' (Kd.S_R HM4.out)).2.2 (Kd.R_reads' (Kd.S_R HM4.out)).2.1 HN.out HS'.out)).mono ?_)
  rintro e V5 ⟨g, lb, hv, Rd, rfl, hsq, hrd, eg, h5, hhv⟩
  have HHV := Aside0.mk hhv
  clear hhv
  rw [← HL.out.1] at hsq
  have HF5 : Aside0 (Fr w [(Bm, .cells #[.int .i64 v, .slice Am cs.length cm] 24 (0, 0)), (Bw, .cells #[.slice Aw nw cw] 46 (0, 0)), (w.heap.size + 1 + 1, .cells #[.bool false] 4 (0, 0)), (w.heap.size + 1, .cells #[.int .i64 kk] 3 (0, 0)), (w.heap.size, .cells #[.int .i64 v, .slice A0 cs.length c0] 24 (0, 0))] (fun k => (V0.heap.size ≤ k ∧ k < Bw) ∨ Rd k) (fun W => Kd.F (Kd.slice 4 Kd.bool) W (fun k => V0.heap.size ≤ k ∧ k < Bw) Aw nw L ∧ SQM g lb hv Rd L W) V5) := ⟨(HF4.out.1.keep h5).and (hsq 11 (by decide)).1 fun W1 hz hm n hn1 => (hsq n hn1).step hz hm⟩
  have HM5 := Aside0.mk (Kd.S_below HM4.out h5)
  have HO : Aside0 (V2.heap.size = Bw + 1 ∧ V2.heap.size ≤ Bm ∧ Bm < V5.heap.size ∧ (∀ k, Rd k → Bm < k ∧ k < V5.heap.size)) := ⟨HF4.out.2.1, HF4.out.2.2.1, by have := HF4.out.2.2.2; have := h5.size; omega, fun k hk => ⟨by have := hrd k hk; have := HF4.out.2.2.2; omega, (hsq 11 (by decide)).1 k hk⟩⟩
  clear f0 f1 hsq hrd h5 HF4 HM4
  have nf := fun W => nil_seq1 g lb W
  gi_upto_region 4 with fail
  have F6 := HF5.out.new (.cells #[.func (.func g) #[] lb] 49 (0, 0))
  have hm6 := Kd.S_alloc HM5.out (.cells #[.func (.func g) #[] lb] 49 (0, 0))
  obtain ⟨Bs, hBs⟩ : ∃ Bs, Bs = V5.heap.size := ⟨_, rfl⟩
  rw [← hBs] at F6 ⊢ HO
  generalize hV6 : V5.alloc (.cells #[.func (.func g) #[] lb] 49) = V6 at F6 hm6 ⊢
  have HF6 : Aside0 (Fr w [(Bs, .cells #[.func (.func g) #[] lb] 49 (0, 0)), (Bm, .cells #[.int .i64 v, .slice Am cs.length cm] 24 (0, 0)), (Bw, .cells #[.slice Aw nw cw] 46 (0, 0)), (w.heap.size + 1 + 1, .cells #[.bool false] 4 (0, 0)), (w.heap.size + 1, .cells #[.int .i64 kk] 3 (0, 0)), (w.heap.size, .cells #[.int .i64 v, .slice A0 cs.length c0] 24 (0, 0))] (fun k => (V0.heap.size ≤ k ∧ k < Bw) ∨ Rd k) (fun W => Kd.F (Kd.slice 4 Kd.bool) W (fun k => V0.heap.size ≤ k ∧ k < Bw) Aw nw L ∧ SQM g lb hv Rd L W) V6) := ⟨F6⟩
  have HM6 := Aside0.mk hm6
  clear hV6 hBs F6 hm6 HF5 HM5
  have fs := (HF6.out.st.cell 0 0 rfl).trans rfl
  gi_wp2
  clear fs nf
  have HSH : Aside0 (0 < cs.length → ∃ ga, Am = some ⟨ga, 0, none⟩ ∧ Shape V2.heap.size Bm ga cs.length (cs.map List.length) V6) := ⟨fun hp => by
    obtain ⟨ga, e, _, h⟩ := shape_of (Kd.S_R HM6.out) hp (lo := V2.heap.size) (hi := Bm) (fun k h1 h2 h3 => ⟨h2, h1⟩)
    exact ⟨ga, e, h⟩⟩
  have HFAR : Aside0 (∀ k, V2.heap.size ≤ k → k < Bm → w.heap.size ≤ k ∧ ¬ ((V0.heap.size ≤ k ∧ k < Bw) ∨ Rd k) ∧ ∀ q ∈ ([(Bs, .cells #[.func (.func g) #[] lb] 49 (0, 0)), (Bm, .cells #[.int .i64 v, .slice Am cs.length cm] 24 (0, 0)), (Bw, .cells #[.slice Aw nw cw] 46 (0, 0)), (w.heap.size + 1 + 1, .cells #[.bool false] 4 (0, 0)), (w.heap.size + 1, .cells #[.int .i64 kk] 3 (0, 0)), (w.heap.size, .cells #[.int .i64 v, .slice A0 cs.length c0] 24 (0, 0))] : List (Nat × Obj)), q.1 ≠ k) := ⟨fun k h1 h2 => by
    obtain ⟨o1, o2, o3, o4⟩ := HO.out
    obtain ⟨z1, z2⟩ := HZ1.out
    refine ⟨by omega, fun h => ?_, by simp; omega⟩
    rcases h with h | h
    · omega
    · have := o4 k h; omega⟩
  clear HM6
  gi_loopw [8] (fun v8 wr => ∃ (i : Nat) (ls : List Nat), v8 = .int .i64 i ∧ Aside0 (i ≤ cs.length ∧ ∀ l ∈ ls, l ≤ 17592186044416) ∧ Aside0 (0 < cs.length → ∃ ga, Am = some ⟨ga, 0, none⟩ ∧ Shape V2.heap.size Bm ga cs.length ls wr) ∧ Aside0 (Fr w [(Bs, .cells #[.func (.func g) #[] lb] 49 (0, 0)), (Bm, .cells #[.int .i64 v, .slice Am cs.length cm] 24 (0, 0)), (Bw, .cells #[.slice Aw nw cw] 46 (0, 0)), (w.heap.size + 1 + 1, .cells #[.bool false] 4 (0, 0)), (w.heap.size + 1, .cells #[.int .i64 kk] 3 (0, 0)), (w.heap.size, .cells #[.int .i64 v, .slice A0 cs.length c0] 24 (0, 0))] (fun k => (V0.heap.size ≤ k ∧ k < Bw) ∨ Rd k) (fun W => Kd.F (Kd.slice 4 Kd.bool) W (fun k => V0.heap.size ≤ k ∧ k < Bw) Aw nw L ∧ SQM g lb hv Rd L W) wr)) (fun v8 _ => cs.length - (intOf v8).toNat)
  case atStart => exact ⟨0, _, rfl, ⟨Nat.zero_le _, fun l hl => by obtain ⟨c, hc, rfl⟩ := List.mem_map.1 hl; exact HS'.out c hc⟩, HSH, HF6⟩
  case round =>
    obtain ⟨i, ls, rfl, HI, HSHr, HF7⟩ := hrel
    clear HSH HF6
    by_cases hi : i < cs.length
    · obtain ⟨ga, eA, hsh⟩ := HSHr.out (by omega)
      subst eA
      obtain ⟨cur, hcur, hnc, hrow⟩ := hsh.row
      have hil : i < ls.length := by rw [← hsh.hn]; exact hi
      obtain ⟨Ar, cr, hri, hrow2⟩ := hrow i ls[i] (List.getElem?_eq_getElem hil)
      have hcell : wr.cell? ⟨ga, i, none⟩ = some (.slice Ar ls[i] cr) := (blk_cell hcur i).trans hri
      have HLI : Aside0 (ls[i] ≤ 17592186044416) := ⟨HI.out.2 _ (List.getElem_mem hil)⟩
      have HLS : Aside0 (∃ h : i < ls.length, ls[i] = ls[i]) := ⟨hil, rfl⟩
      obtain ⟨li, hli⟩ : ∃ li, li = ls[i] := ⟨_, rfl⟩
      rw [← hli] at hcell HLI
      have HLE : Aside0 (ls[i]? = some li) := ⟨by rw [hli]; exact List.getElem?_eq_getElem hil⟩
      have HSH7 := Aside0.mk hsh
      have HLT := Aside0.mk hi
      have HGA := Aside0.mk hsh.hlo
      have h0 : (0 : Int) ≤ (i : Int) := by omega
      have h1 : (i : Int) < (cs.length : Int) := by omega
      have HC7 := Aside0.mk hcell
      clear hsh hcur hnc hrow hrow2 hri hil hli hcell HSHr HLS
      have f1 := (HF7.out.st.cell 1 1 rfl).trans rfl
      gi_wp2
      clear f1
      obtain ⟨wo, rfl⟩ : ∃ wo : World, wo = wr := ⟨_, rfl⟩
      gi_loopw [9] (fun v9 wr => ∃ j : Nat, v9 = .int .i64 j ∧ Aside0 (j ≤ li) ∧ Aside0 (Shape V2.heap.size Bm ga cs.length ls wr) ∧ Aside0 (wr.cell? ⟨ga, i, none⟩ = some (.slice Ar li cr)) ∧ Aside0 (Fr w [(Bs, .cells #[.func (.func g) #[] lb] 49 (0, 0)), (Bm, .cells #[.int .i64 v, .slice (some ⟨ga, 0, none⟩) cs.length cm] 24 (0, 0)), (Bw, .cells #[.slice Aw nw cw] 46 (0, 0)), (w.heap.size + 1 + 1, .cells #[.bool false] 4 (0, 0)), (w.heap.size + 1, .cells #[.int .i64 kk] 3 (0, 0)), (w.heap.size, .cells #[.int .i64 v, .slice A0 cs.length c0] 24 (0, 0))] (fun k => (V0.heap.size ≤ k ∧ k < Bw) ∨ Rd k) (fun W => Kd.F (Kd.slice 4 Kd.bool) W (fun k => V0.heap.size ≤ k ∧ k < Bw) Aw nw L ∧ SQM g lb hv Rd L W) wr)) (fun v9 _ => li - (intOf v9).toNat)
      case atStart => exact ⟨0, rfl, ⟨Nat.zero_le _⟩, HSH7, HC7, HF7⟩
      case round =>
        obtain ⟨j, rfl, HJ, HSH8, HC8, HF8⟩ := hrel
        clear HSH7 HC7 HF7
        by_cases hj : j < li
        · have hp : 0 < li := by omega
          obtain ⟨cur, hcur, hnc, hrow⟩ := HSH8.out.row
          obtain ⟨Ar2, cr2, hri, hrow2⟩ := hrow i li HLE.out
          have hce := HC8.out.symm.trans ((blk_cell hcur i).trans hri)
          injection hce with hce
          injection hce with e1 _ e2
          subst e1
          subst e2
          obtain ⟨g0, cs0, eA, hg1, hg2, hg3, hblk, hint⟩ := hrow2 hp
          subst eA
          obtain ⟨x, hx⟩ := hint j hj
          have hcg : wr.cell? ⟨g0, j, none⟩ = some (.int .i64 x) := (blk_cell hblk j).trans hx
          have hyg := blk_frozen hblk j
          have HG := Aside0.mk (And.intro hg1 (And.intro hg2 (And.intro hg3 (⟨cs0, hblk⟩ : ∃ cs, wr.heap[g0]? = some (.cells cs 3 (0, 0))))))
          have HLJ := Aside0.mk hj
          have f1 := (HF8.out.st.cell 1 1 rfl).trans rfl
          have hc8 := HC8.out
          have j0 : (0 : Int) ≤ (j : Int) := by omega
          have j1 : (j : Int) < (li : Int) := by omega
          clear hp hj hcur hnc hrow hri hrow2 hg1 hg2 hg3 hblk hint hx
          gi_upto_region 12 with fail
          have hmx : Try.prog.follows .mixedOrders = true := by kernel_rfl
          have hS0 : wr.drew.cell? ⟨Bm, 1, none⟩ = some (.slice (some ⟨ga, 0, none⟩) cs.length cm) ∧ wr.drew.cell? ⟨ga, i, none⟩ = some (.slice (some ⟨g0, 0, none⟩) li cr) ∧ wr.drew.cell? ⟨g0, j, none⟩ = some (.int .i64 x) := ⟨f1, hc8, hcg⟩
          refine wpIn_region_T (z := 16) (S := fun W' => W'.cell? ⟨Bm, 1, none⟩ = some (.slice (some ⟨ga, 0, none⟩) cs.length cm) ∧ W'.cell? ⟨ga, i, none⟩ = some (.slice (some ⟨g0, 0, none⟩) li cr) ∧ W'.cell? ⟨g0, j, none⟩ = some (.int .i64 x)) hmx ?_
          refine wpAnyT_take (i := 0) (v := .pointer (some ⟨Bm, 1, none⟩)) (fun _ => trivial) (by kernel_rfl) (by kernel_rfl) rfl (by kernel_rfl) (by kernel_rfl) (by kernel_rfl) (fun _ _ _ h => h) (by rfl) (fun W' hS => by obtain ⟨k1, k2, k3⟩ := hS; go_simp) hS0 ?_
          refine wpAnyT_take (i := 1) (v := .slice (some ⟨ga, 0, none⟩) cs.length cm) (fun _ => trivial) (by kernel_rfl) (by kernel_rfl) rfl (by kernel_rfl) (by kernel_rfl) (by kernel_rfl) (fun _ _ _ h => h) (by rfl) (fun W' hS => by obtain ⟨k1, k2, k3⟩ := hS; go_simp) hS0 ?_
          refine wpAnyT_take (i := 2) (v := .int .i64 i) (fun _ => trivial) (by kernel_rfl) (by kernel_rfl) rfl (by kernel_rfl) (by kernel_rfl) (by kernel_rfl) (fun _ _ _ h => h) (by rfl) (fun W' hS => by obtain ⟨k1, k2, k3⟩ := hS; go_simp) hS0 ?_
          refine wpAnyT_take (i := 3) (v := .pointer (some ⟨ga, i, none⟩)) (fun _ => trivial) (by kernel_rfl) (by kernel_rfl) rfl (by kernel_rfl) (by kernel_rfl) (by kernel_rfl) (fun _ _ _ h => h) (by rfl) (fun W' hS => by obtain ⟨k1, k2, k3⟩ := hS; go_simp) hS0 ?_
          refine wpAnyT_take (i := 4) (v := .slice (some ⟨g0, 0, none⟩) li cr) (fun _ => trivial) (by kernel_rfl) (by kernel_rfl) rfl (by kernel_rfl) (by kernel_rfl) (by kernel_rfl) (fun _ _ _ h => h) (by rfl) (fun W' hS => by obtain ⟨k1, k2, k3⟩ := hS; go_simp) hS0 ?_
          refine wpAnyT_take (i := 5) (v := .int .i64 j) (fun _ => trivial) (by kernel_rfl) (by kernel_rfl) rfl (by kernel_rfl) (by kernel_rfl) (by kernel_rfl) (fun _ _ _ h => h) (by rfl) (fun W' hS => by obtain ⟨k1, k2, k3⟩ := hS; go_simp) hS0 ?_
          refine wpAnyT_take (i := 6) (v := .pointer (some ⟨Bm, 1, none⟩)) (fun _ => trivial) (by kernel_rfl) (by kernel_rfl) rfl (by kernel_rfl) (by kernel_rfl) (by kernel_rfl) (fun _ _ _ h => h) (by rfl) (fun W' hS => by obtain ⟨k1, k2, k3⟩ := hS; go_simp) hS0 ?_
          refine wpAnyT_take (i := 7) (v := .slice (some ⟨ga, 0, none⟩) cs.length cm) (fun _ => trivial) (by kernel_rfl) (by kernel_rfl) rfl (by kernel_rfl) (by kernel_rfl) (by kernel_rfl) (fun _ _ _ h => h) (by rfl) (fun W' hS => by obtain ⟨k1, k2, k3⟩ := hS; go_simp) hS0 ?_
          refine wpAnyT_take (i := 8) (v := .int .i64 i) (fun _ => trivial) (by kernel_rfl) (by kernel_rfl) rfl (by kernel_rfl) (by kernel_rfl) (by kernel_rfl) (fun _ _ _ h => h) (by rfl) (fun W' hS => by obtain ⟨k1, k2, k3⟩ := hS; go_simp) hS0 ?_
          refine wpAnyT_take (i := 9) (v := .pointer (some ⟨ga, i, none⟩)) (fun _ => trivial) (by kernel_rfl) (by kernel_rfl) rfl (by kernel_rfl) (by kernel_rfl) (by kernel_rfl) (fun _ _ _ h => h) (by rfl) (fun W' hS => by obtain ⟨k1, k2, k3⟩ := hS; go_simp) hS0 ?_
          refine wpAnyT_take (i := 10) (v := .slice (some ⟨g0, 0, none⟩) li cr) (fun _ => trivial) (by kernel_rfl) (by kernel_rfl) rfl (by kernel_rfl) (by kernel_rfl) (by kernel_rfl) (fun _ _ _ h => h) (by rfl) (fun W' hS => by obtain ⟨k1, k2, k3⟩ := hS; go_simp) hS0 ?_
          refine wpAnyT_take (i := 11) (v := .int .i64 j) (fun _ => trivial) (by kernel_rfl) (by kernel_rfl) rfl (by kernel_rfl) (by kernel_rfl) (by kernel_rfl) (fun _ _ _ h => h) (by rfl) (fun W' hS => by obtain ⟨k1, k2, k3⟩ := hS; go_simp) hS0 ?_
          refine wpAnyT_take (i := 12) (v := .pointer (some ⟨g0, j, none⟩)) (fun _ => trivial) (by kernel_rfl) (by kernel_rfl) rfl (by kernel_rfl) (by kernel_rfl) (by kernel_rfl) (fun _ _ _ h => h) (by rfl) (fun W' hS => by obtain ⟨k1, k2, k3⟩ := hS; go_simp) hS0 ?_
          refine wpAnyT_take (i := 13) (v := .int .i64 x) (fun _ => trivial) (by kernel_rfl) (by kernel_rfl) rfl (by kernel_rfl) (by kernel_rfl) (by kernel_rfl) (fun _ _ _ h => h) (by rfl) (fun W' hS => by obtain ⟨k1, k2, k3⟩ := hS; go_simp) hS0 ?_
          refine wpAnyT_take (i := 14) (v := .int .i64 (IntKind.i64.wrap (-x))) (fun _ => trivial) (by kernel_rfl) (by kernel_rfl) rfl (by kernel_rfl) (by kernel_rfl) (by kernel_rfl) (fun _ _ _ h => h) (by rfl) (fun W' hS => by obtain ⟨k1, k2, k3⟩ := hS; go_simp) hS0 ?_
          refine wpAnyT_take (i := 15) (v := .pointer (some ⟨g0, j, none⟩)) (fun _ => trivial) (by kernel_rfl) (by kernel_rfl) rfl (by kernel_rfl) (by kernel_rfl) (by kernel_rfl) (fun _ _ _ h => h) (by rfl) (fun W' hS => by obtain ⟨k1, k2, k3⟩ := hS; go_simp) hS0 ?_
          have HF9 := Aside0.mk (HF8.out.keep (below_drew (Below.refl _ _)))
          have HSH9 := Aside0.mk (HSH8.out.step (W1 := wr.drew) fun _ _ _ => rfl)
          refine wpAnyT_one (i := 16) (by kernel_rfl) rfl (by rfl) (fun K' hK => ?_)
          have hcg' : wr.drew.cell? ⟨g0, j, none⟩ = some (.int .i64 x) := hcg
          have hyg' : wr.drew.frozen? ⟨g0, j, none⟩ = false := hyg
          go_simp
          obtain ⟨hg1, hg2, hg3, hg4⟩ := HG.out
          have hfar := HFAR.out g0 hg1 hg2
          have hF10 := (HF8.out.far (p := ⟨g0, j, none⟩) hfar.1 hfar.2.1 hfar.2.2 (.int .i64 (wrap64 (-x)))).keep (below_drew (Below.refl _ _))
          have hS10 := (HSH8.out.put hg3 hg4 j (wrap64 (-x))).step (W1 := (wr.setCell ⟨g0, j, none⟩ (.int .i64 (wrap64 (-x)))).drew) fun _ _ _ => rfl
          have hc10 : (wr.setCell ⟨g0, j, none⟩ (.int .i64 (wrap64 (-x)))).drew.cell? ⟨ga, i, none⟩ = some (.slice (some ⟨g0, 0, none⟩) li cr) := (cell_far (W := wr) (p := ⟨g0, j, none⟩) (a := ⟨ga, i, none⟩) (fun e => hg3 e.symm) _).trans hc8
          have HF10 := Aside0.mk hF10
          have HS10 := Aside0.mk hS10
          have HC10 := Aside0.mk hc10
          clear hF10 hS10 hc10 hfar hg1 hg2 hg3 hg4 hS0 hcg hyg hcg' hyg' f1 hc8 HF9 HSH9
          refine hK _ _ (.inl rfl) ?_
          clear hK
          refine wpAnyT_doneN (by kernel_rfl) ?_ _
          gi_wp2
          go_roundw
          case rel => exact ⟨j + 1, by rw [w64s (show (j : Int) < 9223372036854775807 by have := HLI.out; have := HLJ.out; omega)], ⟨HLJ.out⟩, HS10, HC10, HF10⟩
          case measure => have := HLJ.out; rw [w64s (show (j : Int) < 9223372036854775807 by have := HLI.out; omega)]; simp [intOf]; omega
        · have f1 := (HF8.out.st.cell 1 1 rfl).trans rfl
          have hc8 := HC8.out
          obtain ⟨cur, hcur, hnc, hrow⟩ := HSH8.out.row
          have hyg := blk_frozen hcur i
          clear hcur hnc hrow
          gi_wp2
          have hfar := HFAR.out ga HGA.out.1 HGA.out.2
          have HF9 := Aside0.mk (HF8.out.far (p := ⟨ga, i, none⟩) hfar.1 hfar.2.1 hfar.2.2 (.slice none 0 0))
          have HS9 := Aside0.mk (HSH8.out.drop HLT.out)
          clear hfar
          go_roundw
          case rel =>
            refine ⟨i + 1, ls.set i 0, by rw [w64s (show (i : Int) < 9223372036854775807 by have := HN.out; have := HLT.out; omega)], ⟨HLT.out, fun l hl => ?_⟩, ⟨fun _ => ⟨ga, rfl, HS9.out⟩⟩, HF9⟩
            rcases List.mem_or_eq_of_mem_set hl with h | h
            · exact HI.out.2 l h
            · omega
          case measure => have := HLT.out; rw [w64s (show (i : Int) < 9223372036854775807 by have := HN.out; omega)]; simp [intOf]; omega
    · have f1 := (HF7.out.st.cell 1 1 rfl).trans rfl
      clear HI HSHr
      gi_upto_region 15 with fail
      have F8 := HF7.out.new (.cells #[.int .i64 0] 3 (0, 0))
      obtain ⟨Bn, hBn⟩ : ∃ Bn, Bn = wr.heap.size := ⟨_, rfl⟩
      have hbn : Bs < Bn := by rw [hBn]; exact HF7.out.st.blt 0 rfl
      rw [← hBn] at F8 ⊢
      generalize wr.alloc (.cells #[.int .i64 0] 3) = W8 at F8 ⊢
      have HF8 := Aside0.mk F8
      have HBN := Aside0.mk hbn
      clear f1 F8 hBn hbn HF7
      have fs := (HF8.out.st.cell 1 0 rfl).trans rfl
      gi_wp2
      clear fs
      have HF8Z : Aside0 (Bn < W8.heap.size) := ⟨HF8.out.st.blt 0 rfl⟩
      rename_i K1 hK1
      have key : ∀ (W : World), Fr w [(Bn, .cells #[.int .i64 (nw : Nat)] 3 (0, 0)), (Bs, .cells #[.func (.func g) #[] lb] 49 (0, 0)), (Bm, .cells #[.int .i64 v, .slice Am cs.length cm] 24 (0, 0)), (Bw, .cells #[.slice Aw nw cw] 46 (0, 0)), (w.heap.size + 1 + 1, .cells #[.bool false] 4 (0, 0)), (w.heap.size + 1, .cells #[.int .i64 kk] 3 (0, 0)), (w.heap.size, .cells #[.int .i64 v, .slice A0 cs.length c0] 24 (0, 0))] (fun k => (V0.heap.size ≤ k ∧ k < Bw) ∨ Rd k) (fun W => Kd.F (Kd.slice 4 Kd.bool) W (fun k => V0.heap.size ≤ k ∧ k < Bw) Aw nw L ∧ SQM g lb hv Rd L W) W → W.heap[W8.heap.size]? = some (.deferred (some [])) → W8.heap.size < W.heap.size → K1 { tmps := #[Value.agg #[Value.int IntKind.i64 v, Value.slice A0 cs.length c0], Value.int IntKind.i64 kk, Value.pointer (some { block := w.heap.size, off := 0 }), Value.pointer (some { block := w.heap.size + 1, off := 0 }), Value.pointer (some { block := w.heap.size + 1 + 1, off := 0 }), Value.pointer (some { block := Bw, off := 0 }), Value.pointer (some { block := Bm, off := 0 }), Value.pointer (some { block := Bs, off := 0 }), Value.int IntKind.i64 ↑i, u9, Value.pointer (some { block := Bn, off := 0 }), undef, undef, undef, undef, Value.agg #[Value.int IntKind.i64 v, Value.slice A0 cs.length c0], Value.slice Aw nw cw, Value.agg #[Value.int IntKind.i64 v, Value.slice A0 cs.length c0], Value.agg #[Value.int IntKind.i64 v, Value.slice Am cs.length cm], Value.agg #[Value.int IntKind.i64 v, Value.slice Am cs.length cm], Value.func (Fn.func g) #[] lb, Value.func (Fn.func g) #[] lb, Value.bool false, Value.int IntKind.i64 ↑i, Value.pointer (some { block := Bm, off := 1 }), Value.slice Am cs.length cm, Value.int IntKind.i64 ↑cs.length, Value.bool false, u28, u29, u30, u31, u32, u33, u34, u35, u36, u37, u38, u39, u40, u41, u42, u43, u44, u45, u46, u47, u48, u49, u50, u51, u52, u53, u54, u55, u56, u57, u58, u59, Value.func (Fn.func g) #[] lb, undef, undef, undef, undef, undef, undef, undef, undef, undef, undef, undef, undef, undef, undef, undef, undef, undef, undef, undef, undef, undef, undef, undef, undef, undef, undef, undef, undef, undef, undef, undef, undef, undef, undef, undef, undef, undef, undef, undef, undef, undef, undef, undef, undef, undef, undef, undef, undef, undef, undef, undef, undef, undef, undef, undef, undef, undef, undef, undef, undef, undef, undef, undef, undef, undef, undef], defers := [{ target := .collected W8.heap.size, args := #[] }] } W := by
        intro W hF hD hZ
        refine hK1 _ _ ?_
        dsimp only
        have HF := Aside0.mk hF
        have HD := Aside0.mk hD
        have HZ := Aside0.mk hZ
        have hnwL := HL.out
        have fn := (hF.st.cell 0 0 rfl).trans rfl
        have yn := hF.st.frozen 0 0 rfl
        have fw := (hF.st.cell 3 0 rfl).trans rfl
        have pe : ((nw : Int) == (nw : Int)) = true := beq_self_eq_true _
        have pe2 : ((nw : Int) != (nw : Int)) = false := by simp [bne]
        clear hF hD hZ hnwL HF8 hK1
        gi_upto_region 31 with fail
        have hNF : ¬ ((V0.heap.size ≤ Bn ∧ Bn < Bw) ∨ Rd Bn) := fun h => by
          obtain ⟨o1, o2, o3, o4⟩ := HO.out
          have h0 := HBN.out
          rcases h with h | h
          · omega
          · have := o4 _ h; omega
        have hN := HF.out.put 0 rfl hNF 0 (.int .i64 ((0 : Nat) : Int)) rfl
        have hD2 := (KeepsOthers.setCell W ⟨Bn, 0, none⟩ (.int .i64 ((0 : Nat) : Int))).same W8.heap.size _ HD.out rfl
        have hz2 := ((Below.refl 0 W).setCell (p := ⟨Bn, 0, none⟩) (Nat.zero_le _) (.int .i64 ((0 : Nat) : Int))).size
        have e0 : (.int .i64 ((0 : Nat) : Int) : Value) = .int .i64 0 := rfl
        rw [e0] at hN hD2 hz2
        generalize W.setCell ⟨Bn, 0, none⟩ (.int .i64 0) = W2 at hN hD2 hz2 ⊢
        have HN2 : Aside0 (Fr w [(W8.heap.size, .deferred (some [])), (Bn, .cells #[.int .i64 (0 : Nat)] 3 (0, 0)), (Bs, .cells #[.func (.func g) #[] lb] 49 (0, 0)), (Bm, .cells #[.int .i64 v, .slice Am cs.length cm] 24 (0, 0)), (Bw, .cells #[.slice Aw nw cw] 46 (0, 0)), (w.heap.size + 1 + 1, .cells #[.bool false] 4 (0, 0)), (w.heap.size + 1, .cells #[.int .i64 kk] 3 (0, 0)), (w.heap.size, .cells #[.int .i64 v, .slice A0 cs.length c0] 24 (0, 0))] (fun k => (V0.heap.size ≤ k ∧ k < Bw) ∨ Rd k) (fun W => Kd.F (Kd.slice 4 Kd.bool) W (fun k => V0.heap.size ≤ k ∧ k < Bw) Aw nw L ∧ SQM g lb hv Rd L W) W2) := ⟨⟨⟨hN.st.hB, ?nd2, ?held2⟩, hN.fp, hN.stable⟩⟩
        case nd2 =>
          rw [List.map_cons, List.nodup_cons]
          refine ⟨?_, hN.st.nd⟩
          have hlt := HF8Z.out
          obtain ⟨o1, o2, o3, o4⟩ := HO.out
          obtain ⟨z1, z2⟩ := HZ1.out
          have h0 := HBN.out
          simp
          omega
        case held2 =>
          intro p hp
          rcases List.mem_cons.1 hp with rfl | hp
          · exact ⟨by have := HF8Z.out; have := HBN.out; have := HO.out; have := HZ1.out; omega, hD2⟩
          · exact hN.st.held p hp
        clear hN hD2 hz2 e0 fn yn fw pe pe2 HF HD
        have fs := (HN2.out.st.cell 2 0 rfl).trans rfl
        gi_wp2
        clear fs
        have ownI3 : OwnD (fun (M : Nat → Prop) (pre : List (Value × List Bool)) (W : World) => (∀ k, M k → W2.heap.size ≤ k ∧ k < W.heap.size) ∧ W2.heap.size ≤ W.heap.size ∧ Fr w [(W8.heap.size, .deferred (some [])), (Bn, .cells #[.int .i64 (pre.length : Nat)] 3 (0, 0)), (Bs, .cells #[.func (.func g) #[] lb] 49 (0, 0)), (Bm, .cells #[.int .i64 v, .slice Am cs.length cm] 24 (0, 0)), (Bw, .cells #[.slice Aw nw cw] 46 (0, 0)), (w.heap.size + 1 + 1, .cells #[.bool false] 4 (0, 0)), (w.heap.size + 1, .cells #[.int .i64 kk] 3 (0, 0)), (w.heap.size, .cells #[.int .i64 v, .slice A0 cs.length c0] 24 (0, 0))] (fun k => (V0.heap.size ≤ k ∧ k < Bw) ∨ Rd k) (fun W => Kd.F (Kd.slice 4 Kd.bool) W (fun k => V0.heap.size ≤ k ∧ k < Bw) Aw nw L ∧ SQM g lb hv Rd L W) W ∧ pre.map (fun x : Value × List Bool => x.2) <+: L) := fun M M1 pre A B h hg hm => by
          obtain ⟨o1, o2, o3, o4⟩ := HO.out
          obtain ⟨z1, z2⟩ := HZ1.out
          have h0 := HBN.out
          have h00 := HF8Z.out
          have hW2 : W8.heap.size < W2.heap.size := HN2.out.st.blt 0 rfl
          refine ⟨fun k hk => ?_, Nat.le_trans h.2.1 hg.size, h.2.2.1.growN hg (n := W2.heap.size) (fun k hk => (h.1 k hk).1) (by omega) (fun k hk => ?_) (by simp; omega), h.2.2.2⟩
          · rcases hm k hk with h1 | h1
            · exact ⟨(h.1 k h1).1, Nat.lt_of_lt_of_le (h.1 k h1).2 hg.size⟩
            · exact ⟨Nat.le_trans h.2.1 h1.1, h1.2⟩
          · rcases hk with hk | hk
            · omega
            · have := o4 k hk; omega
        have ownIx3 : ∀ c : Code, OwnD ((fun (c : Code) (M : Nat → Prop) (pre : List (Value × List Bool)) (W : World) => c = .ret ∧ ((∃ x : Value, (∀ k, M k → W2.heap.size ≤ k ∧ k < W.heap.size) ∧ W2.heap.size ≤ W.heap.size ∧ Fr w [(W8.heap.size, .deferred (some [])), (Bn, .cells #[x] 3 (0, 0)), (Bs, .cells #[.func (.func g) #[] lb] 49 (0, 0)), (Bm, .cells #[.int .i64 v, .slice Am cs.length cm] 24 (0, 0)), (Bw, .cells #[.slice Aw nw cw] 46 (0, 0)), (w.heap.size + 1 + 1, .cells #[.bool true] 4 (0, 0)), (w.heap.size + 1, .cells #[.int .i64 kk] 3 (0, 0)), (w.heap.size, .cells #[.int .i64 v, .slice A0 cs.length c0] 24 (0, 0))] (fun k => (V0.heap.size ≤ k ∧ k < Bw) ∨ Rd k) (fun W => Kd.F (Kd.slice 4 Kd.bool) W (fun k => V0.heap.size ≤ k ∧ k < Bw) Aw nw L ∧ SQM g lb hv Rd L W) W) ∨ ¬ pre.map (fun x : Value × List Bool => x.2) <+: L)) c) := fun c => fun M M1 pre A B h hg hm => by
          obtain ⟨o1, o2, o3, o4⟩ := HO.out
          obtain ⟨z1, z2⟩ := HZ1.out
          have h0 := HBN.out
          have h00 := HF8Z.out
          have hW2 : W8.heap.size < W2.heap.size := HN2.out.st.blt 0 rfl
          refine ⟨h.1, ?_⟩
          rcases h.2 with ⟨x, h1, h2, h3⟩ | h
          · refine .inl ⟨x, fun k hk => ?_, Nat.le_trans h2 hg.size, h3.growN hg (n := W2.heap.size) (fun k hk => (h1 k hk).1) (by omega) (fun k hk => ?_) (by simp; omega)⟩
            · rcases hm k hk with h5 | h5
              · exact ⟨(h1 k h5).1, Nat.lt_of_lt_of_le (h1 k h5).2 hg.size⟩
              · exact ⟨Nat.le_trans h2 h5.1, h5.2⟩
            · rcases hk with hk | hk
              · omega
              · have := o4 k hk; omega
          · exact .inr h
        refine wpIn_range_ownH (by decide) (gf := g) (lb := lb) rfl rfl trivial eg (HN2.out.x.2 11 (by decide)).now HandB.move (HN2.out.x.2 11 (by decide)).1 (Below.refl _ _) (fun _ => rfl)
          (fun (M : Nat → Prop) (pre : List (Value × List Bool)) (W : World) => (∀ k, M k → W2.heap.size ≤ k ∧ k < W.heap.size) ∧ W2.heap.size ≤ W.heap.size ∧ Fr w [(W8.heap.size, .deferred (some [])), (Bn, .cells #[.int .i64 (pre.length : Nat)] 3 (0, 0)), (Bs, .cells #[.func (.func g) #[] lb] 49 (0, 0)), (Bm, .cells #[.int .i64 v, .slice Am cs.length cm] 24 (0, 0)), (Bw, .cells #[.slice Aw nw cw] 46 (0, 0)), (w.heap.size + 1 + 1, .cells #[.bool false] 4 (0, 0)), (w.heap.size + 1, .cells #[.int .i64 kk] 3 (0, 0)), (w.heap.size, .cells #[.int .i64 v, .slice A0 cs.length c0] 24 (0, 0))] (fun k => (V0.heap.size ≤ k ∧ k < Bw) ∨ Rd k) (fun W => Kd.F (Kd.slice 4 Kd.bool) W (fun k => V0.heap.size ≤ k ∧ k < Bw) Aw nw L ∧ SQM g lb hv Rd L W) W ∧ pre.map (fun x : Value × List Bool => x.2) <+: L)
          (fun (c : Code) (M : Nat → Prop) (pre : List (Value × List Bool)) (W : World) => c = .ret ∧ ((∃ x : Value, (∀ k, M k → W2.heap.size ≤ k ∧ k < W.heap.size) ∧ W2.heap.size ≤ W.heap.size ∧ Fr w [(W8.heap.size, .deferred (some [])), (Bn, .cells #[x] 3 (0, 0)), (Bs, .cells #[.func (.func g) #[] lb] 49 (0, 0)), (Bm, .cells #[.int .i64 v, .slice Am cs.length cm] 24 (0, 0)), (Bw, .cells #[.slice Aw nw cw] 46 (0, 0)), (w.heap.size + 1 + 1, .cells #[.bool true] 4 (0, 0)), (w.heap.size + 1, .cells #[.int .i64 kk] 3 (0, 0)), (w.heap.size, .cells #[.int .i64 v, .slice A0 cs.length c0] 24 (0, 0))] (fun k => (V0.heap.size ≤ k ∧ k < Bw) ∨ Rd k) (fun W => Kd.F (Kd.slice 4 Kd.bool) W (fun k => V0.heap.size ≤ k ∧ k < Bw) Aw nw L ∧ SQM g lb hv Rd L W) W) ∨ ¬ pre.map (fun x : Value × List Bool => x.2) <+: L))
          ownI3 ownIx3 ⟨fun _ h => h.elim, Nat.le_refl _, HN2.out, List.nil_prefix⟩
          (fun p => { tmps := #[Value.agg #[Value.int IntKind.i64 v, Value.slice A0 cs.length c0], Value.int IntKind.i64 kk, Value.pointer (some { block := w.heap.size, off := 0 }), Value.pointer (some { block := w.heap.size + 1, off := 0 }), Value.pointer (some { block := w.heap.size + 1 + 1, off := 0 }), Value.pointer (some { block := Bw, off := 0 }), Value.pointer (some { block := Bm, off := 0 }), Value.pointer (some { block := Bs, off := 0 }), Value.int IntKind.i64 ↑i, u9, Value.pointer (some { block := Bn, off := 0 }), undef, undef, undef, p.1, Value.agg #[Value.int IntKind.i64 v, Value.slice A0 cs.length c0], Value.slice Aw nw cw, Value.agg #[Value.int IntKind.i64 v, Value.slice A0 cs.length c0], Value.agg #[Value.int IntKind.i64 v, Value.slice Am cs.length cm], Value.agg #[Value.int IntKind.i64 v, Value.slice Am cs.length cm], Value.func (Fn.func g) #[] lb, Value.func (Fn.func g) #[] lb, Value.bool false, Value.int IntKind.i64 ↑i, Value.pointer (some { block := Bm, off := 1 }), Value.slice Am cs.length cm, Value.int IntKind.i64 ↑cs.length, Value.bool false, u28, u29, u30, u31, u32, u33, u34, u35, u36, u37, u38, u39, u40, u41, u42, u43, u44, u45, u46, u47, u48, u49, u50, u51, u52, u53, u54, u55, u56, u57, u58, u59, Value.func (Fn.func g) #[] lb, undef, undef, undef, undef, undef, undef, undef, undef, undef, undef, undef, undef, undef, undef, undef, undef, undef, undef, undef, undef, undef, undef, undef, undef, undef, undef, undef, undef, undef, undef, undef, undef, undef, undef, undef, undef, undef, undef, Value.int IntKind.i64 ↑nw, Value.slice Aw nw cw, Value.int IntKind.i64 ↑nw, Value.bool false, Value.func (Fn.func g) #[] lb, p.1, undef, undef, undef, undef, undef, undef, undef, undef, undef, undef, undef, undef, undef, undef, undef, undef, undef, undef, undef, undef, undef, undef], defers := [] }) ?assign3 ?body3 ?done3 ?stop3
        case assign3 =>
          intro l x W K hK
          gi_wp2
          first | exact hK | simpa using hK
        case body3 =>
          rintro li M M1 pre ⟨u, s⟩ A5 W5 hI hg hm hsub hMD hML hsz hHd hlen hli hrec
          obtain ⟨hM1, hM2, hF, hP⟩ := ownI3 _ _ _ _ _ hI hg hm
          obtain ⟨hsl, ho, hnm⟩ := hHd
          replace hsl : s.length = hv := hsl
          replace ho : OwnBools W5 A5.heap.size u s := ho
          have hRs := own_Rb ho
          obtain ⟨As, cs', rfl⟩ := Kd.R_slice hRs
          have HC5 := Aside0.mk (Kd.R_reads' hRs).2
          have HF := Aside0.mk hF
          have HM1 := Aside0.mk (And.intro hM1 hM2)
          have HP := Aside0.mk hP
          have HL5 := Aside0.mk hlen
          have HSL : Aside0 (s.length ≤ 140737488355328) := ⟨by have := HHV.out; omega⟩
          have hW2 : Bn < W2.heap.size := HN2.out.st.blt 1 rfl
          have HAPB : Aside0 (¬ (M1 (w.heap.size + 1 + 1) ∨ Rd (w.heap.size + 1 + 1))) := ⟨fun h => by
            obtain ⟨o1, o2, o3, o4⟩ := HO.out
            obtain ⟨z1, z2⟩ := HZ1.out
            have h0 := HBN.out
            rcases h with h | h
            · have := (hM1 _ h).1; omega
            · have := o4 _ h; omega⟩
          have HAPN : Aside0 (¬ (M1 Bn ∨ Rd Bn)) := ⟨fun h => by
            have h0 := HBN.out
            rcases h with h | h
            · have := (hM1 _ h).1; omega
            · have := HO.out.2.2.2 _ h; omega⟩
          have HNFB : Aside0 (¬ ((V0.heap.size ≤ Bn ∧ Bn < Bw) ∨ Rd Bn)) := ⟨fun h => by
            obtain ⟨o1, o2, o3, o4⟩ := HO.out
            have h0 := HBN.out
            rcases h with h | h
            · omega
            · have := o4 _ h; omega⟩
          have HNFR : Aside0 (¬ ((V0.heap.size ≤ w.heap.size + 1 + 1 ∧ w.heap.size + 1 + 1 < Bw) ∨ Rd (w.heap.size + 1 + 1))) := ⟨fun h => by
            obtain ⟨o1, o2, o3, o4⟩ := HO.out
            obtain ⟨z1, z2⟩ := HZ1.out
            have h0 := HBN.out
            rcases h with h | h
            · omega
            · have := o4 _ h; omega⟩
          clear ownI3 ownIx3 hI hg hm hsub hMD hML hsz hlen hli hrec hM1 hM2 hF hP hsl ho hnm hRs HN2 hW2
          obtain ⟨np, hnp⟩ : ∃ np, np = pre.length := ⟨_, rfl⟩
          rw [← hnp] at HF
          have HNP := Aside0.mk hnp
          clear hnp
          dsimp only
          have fn := (HF.out.st.cell 1 0 rfl).trans rfl
          have fk := (HF.out.st.cell 6 0 rfl).trans rfl
          by_cases hk0 : (np : Int) = kk
          · have pk : ((np : Int) == kk) = true := beq_iff_eq.2 hk0
            clear hk0
            have q4 := (HF.out.st.cell 5 0 rfl).trans rfl
            have y4 := HF.out.st.frozen 5 0 rfl
            gi_wp2
            have h3 := ((Below.refl 0 W5).setCell (p := ⟨w.heap.size + 1 + 1, 0, none⟩) (Nat.zero_le _) (.bool true)).size
            refine ⟨KeptD.setCell (p := ⟨w.heap.size + 1 + 1, 0, none⟩) HAPB.out _, rfl, .inl ⟨_, fun k hk => ⟨(HM1.out.1 k hk).1, ?_⟩, ?_, HF.out.put 5 rfl HNFR.out 0 (.bool true) rfl⟩⟩
            · have := (HM1.out.1 k hk).2; omega
            · have := HM1.out.2; omega
          · have pk : ((np : Int) == kk) = false := beq_eq_false_iff_ne.2 hk0
            clear hk0
            gi_upto_region 35 with fail
            clear fn fk pk
            have f0 := (HF.out.st.cell 4 0 rfl).trans rfl
            have f2 := (HF.out.st.cell 1 0 rfl).trans rfl
            have hnwL := HL.out.2.1
            by_cases hlt : np < L.length
            · obtain ⟨ad, A1, c1, eA, cell0, hc1, hC1⟩ := rowF_at HF.out.x.1 hlt
              obtain ⟨q, hq⟩ : ∃ q, q = L[np] := ⟨_, rfl⟩
              rw [← hq] at cell0 hc1 hC1
              have HQ : Aside0 (∃ h : np < L.length, q = L[np]) := ⟨hlt, hq⟩
              cases eA
              have p1 : decide ((np : Int) ≥ (nw : Int)) = false := decide_eq_false (by omega)
              have p2 : (nw ≤ np) = False := eq_false (by omega)
              have p3 : (np < nw) = True := eq_true (by omega)
              have i0 : (0 : Int) ≤ (np : Int) := by omega
              have i1 : (np : Int) < (nw : Int) := by omega
              have HEQ := Aside0.mk (sameBools_calls As A1 cs' c1 s q W5 HC5.out.2 HC5.out.1 hC1 hc1 (by have := HSL.out; omega))
              clear hq hc1 hC1 hnwL hlt
              cases hs : (s == q) with
              | false =>
                rw [hs] at HEQ
                have HSQ := Aside0.mk hs
                clear hs
                gi_wp2
                refine ⟨trivial, ?_⟩
                (with_reducible refine (CallsIn.inRound li (callsIn_wide.2 HEQ.out)).mono ?_)
                rintro e W6 ⟨rfl, hd⟩
                have HD := Aside0.mk hd.below
                have HF6 := Aside0.mk (HF.out.keep hd.below)
                clear hd
                have q4 := (HF6.out.st.cell 5 0 rfl).trans rfl
                have y4 := HF6.out.st.frozen 5 0 rfl
                gi_wp2
                have HNP' : ¬ (pre ++ [(Value.slice As s.length cs', s)]).map (·.2) <+: L := by
                  obtain ⟨hlt, hq⟩ := HQ.out
                  rw [List.map_append]
                  have hnp := HNP.out
                  subst hnp
                  refine notPre' (by simpa using hlt) ?_
                  intro e
                  have e2 : s = q := by rw [hq]; simpa using e
                  have := HSQ.out
                  rw [e2, beq_self_eq_true] at this
                  cases this
                exact ⟨(KeptD.of_below HD.out).trans (KeptD.setCell (p := ⟨w.heap.size + 1 + 1, 0, none⟩) HAPB.out _), rfl, .inr HNP'⟩
              | true =>
                rw [hs] at HEQ
                have HSQ := Aside0.mk (beq_iff_eq.1 hs)
                clear hs
                gi_wp2
                refine ⟨trivial, ?_⟩
                (with_reducible refine (CallsIn.inRound li (callsIn_wide.2 HEQ.out)).mono ?_)
                rintro e W6 ⟨rfl, hd⟩
                have HD := Aside0.mk hd.below
                have HF6 := Aside0.mk (HF.out.keep hd.below)
                clear hd
                have fn := (HF6.out.st.cell 1 0 rfl).trans rfl
                have yn := HF6.out.st.frozen 1 0 rfl
                gi_wp2
                have hw : wrap64 ((np : Int) + 1) = (((pre ++ [(Value.slice As s.length cs', s)]).length : Nat) : Int) := by
                  have h1 := HNP.out
                  have h2 := HL5.out
                  rw [w64 (by omega) (by omega)]
                  simp
                  omega
                rw [hw]
                have h3 := ((Below.refl 0 W6).setCell (p := ⟨Bn, 0, none⟩) (Nat.zero_le _) (.int .i64 ((pre ++ [(Value.slice As s.length cs', s)]).length : Nat))).size
                have h4 := HD.out.size
                refine ⟨(KeptD.of_below HD.out).trans (KeptD.setCell (p := ⟨Bn, 0, none⟩) HAPN.out _), fun k hk => ⟨(HM1.out.1 k hk).1, ?_⟩, ?_, HF6.out.put 1 rfl HNFB.out 0 _ rfl, ?_⟩
                · have h1 := (HM1.out.1 k hk).2
                  omega
                · have := HM1.out.2
                  omega
                · obtain ⟨hlt, hq⟩ := HQ.out
                  have hnp := HNP.out
                  subst hnp
                  rw [List.map_append]
                  refine isPre HP.out (by simpa using hlt) ?_
                  simp only [List.length_map]
                  rw [← hq, HSQ.out]
            · have p1 : decide ((np : Int) ≥ (nw : Int)) = true := decide_eq_true (by omega)
              have p2 : (nw ≤ np) = True := eq_true (by omega)
              have q4 := (HF.out.st.cell 5 0 rfl).trans rfl
              have y4 := HF.out.st.frozen 5 0 rfl
              have HGE := Aside0.mk hlt
              have HF6 := HF
              clear hlt hnwL
              gi_wp2
              refine ⟨trivial, ?_⟩
              gi_wp2
              have HNP' : ¬ (pre ++ [(Value.slice As s.length cs', s)]).map (·.2) <+: L := by
                rw [List.map_append]
                exact notPre (by have := HGE.out; have := HNP.out; simp; omega)
              exact ⟨(KeptD.setCell (p := ⟨w.heap.size + 1 + 1, 0, none⟩) HAPB.out _), rfl, .inr HNP'⟩
        case done3 =>
          rintro M xs W hMb hS ⟨hM1, hM2, hF, hP⟩ hD
          have e1 : ((xs.length : Nat) : Int) = (nw : Int) := by rw [HL.out.2.1, ← hS, List.length_map]
          rw [e1] at hF
          have HF := Aside0.mk hF
          have HD := Aside0.mk hD
          have fn := (hF.st.cell 1 0 rfl).trans rfl
          have fw := (hF.st.cell 4 0 rfl).trans rfl
          have q4 := (hF.st.cell 5 0 rfl).trans rfl
          have y4 := hF.st.frozen 5 0 rfl
          have pe : ((nw : Int) == (nw : Int)) = true := beq_self_eq_true _
          have HW2 : Aside0 (W8.heap.size < W2.heap.size) := ⟨HN2.out.st.blt 0 rfl⟩
          clear ownI3 ownIx3 hF hM1 hM2 hMb hS hP hD e1 HN2
          gi_wp2
          have E2 := HF.out.st.put 5 rfl 0 (.bool true) rfl
          have hK2 := (KeepsOthers.setCell W ⟨w.heap.size + 1 + 1, 0, none⟩ (.bool true)).same W2.heap.size _ HD.out rfl
          generalize (W.setCell ⟨w.heap.size + 1 + 1, 0, none⟩ (.bool true)) = WF at E2 hK2 ⊢
          refine ⟨by simp, .inl ⟨_, _, rfl, run_takeDeferred hK2, ?_⟩⟩
          have o := HO.out
          have z := HZ1.out
          have h0 := HBN.out
          have h00 := HF8Z.out
          have h01 := HW2.out
          have E3 := E2.growN (M := fun k => k = W2.heap.size) (n := W2.heap.size) (Grow.put (.deferred none) rfl) (fun k e => by omega) (by omega) (by simp; omega)
          refine ⟨by simp, .inl ⟨_, _, rfl, run_takeDeferred (E3.blk 0 rfl), ?_⟩⟩
          have E4 := (E3.sub (List.sublist_cons_self _ _)).growN (M := fun k => k = W8.heap.size) (n := W8.heap.size) (Grow.put (.deferred none) rfl) (fun k e => by omega) (by omega) (by simp; omega)
          have r0 := (E4.cell 4 0 rfl).trans rfl
          exact ⟨.bool true, by simp [results, Try.results7, go_sem, r0], rfl, E4.hB⟩
        case stop3 =>
          rintro M c pre W hMb hSp ⟨rfl, hix⟩ hK2
          rcases hix with ⟨x, h1, h2, hF⟩ | h
          · have E2 := hF.st
            have HW2 : Aside0 (W8.heap.size < W2.heap.size) := ⟨HN2.out.st.blt 0 rfl⟩
            refine wpIn_ret ?_
            refine ⟨by simp, .inl ⟨_, _, rfl, run_takeDeferred hK2, ?_⟩⟩
            have o := HO.out
            have z := HZ1.out
            have h0 := HBN.out
            have h00 := HF8Z.out
            have h01 := HW2.out
            have E3 := E2.growN (M := fun k => k = W2.heap.size) (n := W2.heap.size) (Grow.put (.deferred none) rfl) (fun k e => by omega) (by omega) (by simp; omega)
            refine ⟨by simp, .inl ⟨_, _, rfl, run_takeDeferred (E3.blk 0 rfl), ?_⟩⟩
            have E4 := (E3.sub (List.sublist_cons_self _ _)).growN (M := fun k => k = W8.heap.size) (n := W8.heap.size) (Grow.put (.deferred none) rfl) (fun k e => by omega) (by omega) (by simp; omega)
            have r0 := (E4.cell 4 0 rfl).trans rfl
            exact ⟨.bool true, by simp [results, Try.results7, go_sem, r0], rfl, E4.hB⟩
          · exact absurd hSp h
      have ownI : OwnD (fun (M : Nat → Prop) (pre : List (Value × List Bool)) (W : World) => (∀ k, M k → Bn + 1 ≤ k ∧ k < W.heap.size) ∧ Fr w [(Bn, .cells #[.int .i64 (pre.length : Nat)] 3 (0, 0)), (Bs, .cells #[.func (.func g) #[] lb] 49 (0, 0)), (Bm, .cells #[.int .i64 v, .slice Am cs.length cm] 24 (0, 0)), (Bw, .cells #[.slice Aw nw cw] 46 (0, 0)), (w.heap.size + 1 + 1, .cells #[.bool false] 4 (0, 0)), (w.heap.size + 1, .cells #[.int .i64 kk] 3 (0, 0)), (w.heap.size, .cells #[.int .i64 v, .slice A0 cs.length c0] 24 (0, 0))] (fun k => (V0.heap.size ≤ k ∧ k < Bw) ∨ Rd k) (fun W => Kd.F (Kd.slice 4 Kd.bool) W (fun k => V0.heap.size ≤ k ∧ k < Bw) Aw nw L ∧ SQM g lb hv Rd L W) W ∧ pre.map (·.2) <+: L) := fun M M1 pre A B h hg hm => by
        obtain ⟨o1, o2, o3, o4⟩ := HO.out
        obtain ⟨z1, z2⟩ := HZ1.out
        have h0 := HBN.out
        have hsz : Bn < A.heap.size := h.2.1.st.blt 0 rfl
        refine ⟨fun k hk => ?_, h.2.1.growN hg (n := Bn + 1) (fun k hk => (h.1 k hk).1) (by omega) (fun k hk => ?_) (by simp; omega), h.2.2⟩
        · rcases hm k hk with h1 | h1
          · exact ⟨(h.1 k h1).1, Nat.lt_of_lt_of_le (h.1 k h1).2 hg.size⟩
          · exact ⟨Nat.le_trans hsz h1.1, h1.2⟩
        · rcases hk with hk | hk
          · omega
          · have := o4 k hk; omega
      refine wpIn_range_ownH (by decide) (gf := g) (lb := lb) rfl rfl trivial eg (HF8.out.x.2 11 (by decide)).now HandB.move (HF8.out.x.2 11 (by decide)).1 (Below.refl _ _) (fun _ => rfl)
        (fun (M : Nat → Prop) (pre : List (Value × List Bool)) (W : World) => (∀ k, M k → Bn + 1 ≤ k ∧ k < W.heap.size) ∧ Fr w [(Bn, .cells #[.int .i64 (pre.length : Nat)] 3 (0, 0)), (Bs, .cells #[.func (.func g) #[] lb] 49 (0, 0)), (Bm, .cells #[.int .i64 v, .slice Am cs.length cm] 24 (0, 0)), (Bw, .cells #[.slice Aw nw cw] 46 (0, 0)), (w.heap.size + 1 + 1, .cells #[.bool false] 4 (0, 0)), (w.heap.size + 1, .cells #[.int .i64 kk] 3 (0, 0)), (w.heap.size, .cells #[.int .i64 v, .slice A0 cs.length c0] 24 (0, 0))] (fun k => (V0.heap.size ≤ k ∧ k < Bw) ∨ Rd k) (fun W => Kd.F (Kd.slice 4 Kd.bool) W (fun k => V0.heap.size ≤ k ∧ k < Bw) Aw nw L ∧ SQM g lb hv Rd L W) W ∧ pre.map (·.2) <+: L)
        (fun (_ : Code) (M : Nat → Prop) (pre : List (Value × List Bool)) (W : World) => ¬ pre.map (fun x : Value × List Bool => x.2) <+: L)
        ownI (fun c M M1 pre A B h _ _ => h) ⟨fun _ h => h.elim, HF8.out, List.nil_prefix⟩
        (fun p => { tmps := #[Value.agg #[Value.int IntKind.i64 v, Value.slice A0 cs.length c0], Value.int IntKind.i64 kk, Value.pointer (some { block := w.heap.size, off := 0 }), Value.pointer (some { block := w.heap.size + 1, off := 0 }), Value.pointer (some { block := w.heap.size + 1 + 1, off := 0 }), Value.pointer (some { block := Bw, off := 0 }), Value.pointer (some { block := Bm, off := 0 }), Value.pointer (some { block := Bs, off := 0 }), Value.int IntKind.i64 ↑i, u9, Value.pointer (some { block := Bn, off := 0 }), p.1, undef, undef, undef, Value.agg #[Value.int IntKind.i64 v, Value.slice A0 cs.length c0], Value.slice Aw nw cw, Value.agg #[Value.int IntKind.i64 v, Value.slice A0 cs.length c0], Value.agg #[Value.int IntKind.i64 v, Value.slice Am cs.length cm], Value.agg #[Value.int IntKind.i64 v, Value.slice Am cs.length cm], Value.func (Fn.func g) #[] lb, Value.func (Fn.func g) #[] lb, Value.bool false, Value.int IntKind.i64 ↑i, Value.pointer (some { block := Bm, off := 1 }), Value.slice Am cs.length cm, Value.int IntKind.i64 ↑cs.length, Value.bool false, u28, u29, u30, u31, u32, u33, u34, u35, u36, u37, u38, u39, u40, u41, u42, u43, u44, u45, u46, u47, u48, u49, u50, u51, u52, u53, u54, u55, u56, u57, u58, u59, Value.func (Fn.func g) #[] lb, p.1, undef, undef, undef, undef, undef, undef, undef, undef, undef, undef, undef, undef, undef, undef, undef, undef, undef, undef, undef, undef, undef, undef, undef, undef, undef, undef, undef, undef, undef, undef, undef, undef, undef, undef, undef, undef, undef, undef, undef, undef, undef, undef, undef, undef, undef, undef, undef, undef, undef, undef, undef, undef, undef, undef, undef, undef, undef, undef, undef, undef, undef, undef, undef, undef, undef], defers := [] }) ?assign ?body ?done ?stop
      case assign =>
        intro l x W K hK
        gi_wp2
        first | exact hK | simpa using hK
      case body =>
        rintro li M M1 pre ⟨u, s⟩ A5 W5 hI hg hm hsub hMD hML hsz hHd hlen hli hrec
        obtain ⟨hM1, hF, hP⟩ := ownI _ _ _ _ _ hI hg hm
        obtain ⟨hsl, ho, hnm⟩ := hHd
        replace hsl : s.length = hv := hsl
        replace ho : OwnBools W5 A5.heap.size u s := ho
        have hRs := own_Rb ho
        obtain ⟨As, cs', rfl⟩ := Kd.R_slice hRs
        have HC5 := Aside0.mk (Kd.R_reads' hRs).2
        have HF := Aside0.mk hF
        have HM1 := Aside0.mk hM1
        have HP := Aside0.mk hP
        have HL5 := Aside0.mk hlen
        have HREC := Aside0.mk (And.intro hli hrec)
        have HSL : Aside0 (s.length ≤ 140737488355328) := ⟨by have := HHV.out; omega⟩
        have HAPB : Aside0 (¬ (M1 (w.heap.size + 1 + 1) ∨ Rd (w.heap.size + 1 + 1))) := ⟨fun h => by
          obtain ⟨o1, o2, o3, o4⟩ := HO.out
          obtain ⟨z1, z2⟩ := HZ1.out
          have h0 := HBN.out
          rcases h with h | h
          · have := (hM1 _ h).1; omega
          · have := o4 _ h; omega⟩
        have HAPN : Aside0 (¬ (M1 Bn ∨ Rd Bn)) := ⟨fun h => by
          have h0 := HBN.out
          rcases h with h | h
          · have := (hM1 _ h).1; omega
          · have := HO.out.2.2.2 _ h; omega⟩
        have HNFB : Aside0 (¬ ((V0.heap.size ≤ Bn ∧ Bn < Bw) ∨ Rd Bn)) := ⟨fun h => by
          obtain ⟨o1, o2, o3, o4⟩ := HO.out
          have h0 := HBN.out
          rcases h with h | h
          · omega
          · have := o4 _ h; omega⟩
        clear ownI hI hg hm hsub hMD hML hsz hlen hli hrec hM1 hF hP hsl ho hnm hRs key HF8 hK1
        obtain ⟨np, hnp⟩ : ∃ np, np = pre.length := ⟨_, rfl⟩
        rw [← hnp] at HF
        have HNP := Aside0.mk hnp
        clear hnp
        dsimp only
        have f0 := (HF.out.st.cell 3 0 rfl).trans rfl
        have f2 := (HF.out.st.cell 0 0 rfl).trans rfl
        have hnwL := HL.out.2.1
        by_cases hlt : np < L.length
        · obtain ⟨ad, A1, c1, eA, cell0, hc1, hC1⟩ := rowF_at HF.out.x.1 hlt
          obtain ⟨q, hq⟩ : ∃ q, q = L[np] := ⟨_, rfl⟩
          rw [← hq] at cell0 hc1 hC1
          have HQ : Aside0 (∃ h : np < L.length, q = L[np]) := ⟨hlt, hq⟩
          cases eA
          have p1 : decide ((np : Int) ≥ (nw : Int)) = false := decide_eq_false (by omega)
          have p2 : (nw ≤ np) = False := eq_false (by omega)
          have p3 : (np < nw) = True := eq_true (by omega)
          have i0 : (0 : Int) ≤ (np : Int) := by omega
          have i1 : (np : Int) < (nw : Int) := by omega
          have HEQ := Aside0.mk (sameBools_calls As A1 cs' c1 s q W5 HC5.out.2 HC5.out.1 hC1 hc1 (by have := HSL.out; omega))
          clear hq hc1 hC1 hnwL hlt
          cases hs : (s == q) with
          | false =>
            rw [hs] at HEQ
            have HSQ := Aside0.mk hs
            clear hs
            gi_wp2
            refine ⟨trivial, ?_⟩
            (with_reducible refine (CallsIn.inRound li (callsIn_wide.2 HEQ.out)).mono ?_)
            rintro e W6 ⟨rfl, hd⟩
            have HD := Aside0.mk hd.below
            have HF6 := Aside0.mk (HF.out.keep hd.below)
            clear hd
            have q4 := (HF6.out.st.cell 4 0 rfl).trans rfl
            have y4 := HF6.out.st.frozen 4 0 rfl
            gi_wp2
            have HNP' : ¬ (pre ++ [(Value.slice As s.length cs', s)]).map (·.2) <+: L := by
              obtain ⟨hlt, hq⟩ := HQ.out
              rw [List.map_append]
              have hnp := HNP.out
              subst hnp
              refine notPre' (by simpa using hlt) ?_
              intro e
              have e2 : s = q := by rw [hq]; simpa using e
              have := HSQ.out
              rw [e2, beq_self_eq_true] at this
              cases this
            exact ⟨(KeptD.of_below HD.out).trans (KeptD.setCell (p := ⟨w.heap.size + 1 + 1, 0, none⟩) HAPB.out _), HNP'⟩
          | true =>
            rw [hs] at HEQ
            have HSQ := Aside0.mk (beq_iff_eq.1 hs)
            clear hs
            gi_wp2
            refine ⟨trivial, ?_⟩
            (with_reducible refine (CallsIn.inRound li (callsIn_wide.2 HEQ.out)).mono ?_)
            rintro e W6 ⟨rfl, hd⟩
            have HD := Aside0.mk hd.below
            have HF6 := Aside0.mk (HF.out.keep hd.below)
            clear hd
            by_cases hk0 : (np : Int) = kk
            · have pk : ((np : Int) == kk) = true := beq_iff_eq.2 hk0
              clear hk0
              have fn := (HF6.out.st.cell 0 0 rfl).trans rfl
              have fk := (HF6.out.st.cell 5 0 rfl).trans rfl
              gi_upto_region 21 with fail
              have F7 := HF6.out.new (.cells #[.int .i64 0] 3 (0, 0))
              have hb7 : Below W6.heap.size W6 (W6.alloc (.cells #[.int .i64 0] 3)) := below_alloc (Below.refl _ _) _
              obtain ⟨Bi, hBi⟩ : ∃ Bi, Bi = W6.heap.size := ⟨_, rfl⟩
              have hbi : Bn < Bi := by rw [hBi]; exact HF6.out.st.blt 0 rfl
              have hbi5 : W5.heap.size ≤ Bi := by rw [hBi]; exact HD.out.size
              rw [← hBi] at F7 ⊢
              generalize W6.alloc (.cells #[.int .i64 0] 3) = W7 at F7 hb7 ⊢
              have HF7 := Aside0.mk F7
              have HB7 := Aside0.mk (below_step HD.out hb7)
              have HBI := Aside0.mk (And.intro hbi hbi5)
              clear F7 hb7 hBi hbi hbi5 fn fk HF6
              have fs := (HF7.out.st.cell 2 0 rfl).trans rfl
              gi_wp2
              clear fs
              rename_i K2 hK2
              have key2 : ∀ (W : World) (x : Int), Fr w [(Bi, .cells #[.int .i64 x] 3 (0, 0)), (Bn, .cells #[.int .i64 np] 3 (0, 0)), (Bs, .cells #[.func (.func g) #[] lb] 49 (0, 0)), (Bm, .cells #[.int .i64 v, .slice Am cs.length cm] 24 (0, 0)), (Bw, .cells #[.slice (some ad) nw cw] 46 (0, 0)), (w.heap.size + 1 + 1, .cells #[.bool false] 4 (0, 0)), (w.heap.size + 1, .cells #[.int .i64 kk] 3 (0, 0)), (w.heap.size, .cells #[.int .i64 v, .slice A0 cs.length c0] 24 (0, 0))] (fun k => (V0.heap.size ≤ k ∧ k < Bw) ∨ Rd k) (fun W => Kd.F (Kd.slice 4 Kd.bool) W (fun k => V0.heap.size ≤ k ∧ k < Bw) (some ad) nw L ∧ SQM g lb hv Rd L W) W → KeptD (fun k => M1 k ∨ Rd k) W5 W → K2 { tmps := #[Value.agg #[Value.int IntKind.i64 v, Value.slice A0 cs.length c0], Value.int IntKind.i64 kk, Value.pointer (some { block := w.heap.size, off := 0 }), Value.pointer (some { block := w.heap.size + 1, off := 0 }), Value.pointer (some { block := w.heap.size + 1 + 1, off := 0 }), Value.pointer (some { block := Bw, off := 0 }), Value.pointer (some { block := Bm, off := 0 }), Value.pointer (some { block := Bs, off := 0 }), Value.int IntKind.i64 ↑i, u9, Value.pointer (some { block := Bn, off := 0 }), Value.slice As s.length cs', Value.pointer (some { block := Bi, off := 0 }), undef, undef, Value.agg #[Value.int IntKind.i64 v, Value.slice A0 cs.length c0], Value.slice (some ad) nw cw, Value.agg #[Value.int IntKind.i64 v, Value.slice A0 cs.length c0], Value.agg #[Value.int IntKind.i64 v, Value.slice Am cs.length cm], Value.agg #[Value.int IntKind.i64 v, Value.slice Am cs.length cm], Value.func (Fn.func g) #[] lb, Value.func (Fn.func g) #[] lb, Value.bool false, Value.int IntKind.i64 ↑i, Value.pointer (some { block := Bm, off := 1 }), Value.slice Am cs.length cm, Value.int IntKind.i64 ↑cs.length, Value.bool false, u28, u29, u30, u31, u32, u33, u34, u35, u36, u37, u38, u39, u40, u41, u42, u43, u44, u45, u46, u47, u48, u49, u50, u51, u52, u53, u54, u55, u56, u57, u58, u59, Value.func (Fn.func g) #[] lb, Value.slice As s.length cs', Value.int IntKind.i64 ↑np, Value.slice (some ad) nw cw, Value.int IntKind.i64 ↑nw, Value.bool false, Value.bool false, Value.slice As s.length cs', Value.slice (some ad) nw cw, Value.int IntKind.i64 ↑np, Value.pointer (some (ad.add np)), Value.slice A1 q.length c1, Value.bool true, Value.bool false, Value.bool false, Value.int IntKind.i64 ↑np, Value.int IntKind.i64 kk, Value.bool true, Value.func (Fn.func g) #[] lb, undef, undef, undef, undef, undef, undef, undef, undef, undef, undef, undef, undef, undef, undef, undef, undef, undef, undef, undef, undef, undef, undef, undef, undef, undef, undef, undef, undef, undef, undef, undef, undef, undef, undef, undef, undef, undef, undef, undef, undef, undef, undef, undef, undef, undef, undef, undef, undef], defers := [] } W := by
                intro W x hFW hKW
                refine hK2 _ _ ?_
                dsimp only
                have HFW := Aside0.mk hFW
                have HKW := Aside0.mk hKW
                have fn := (hFW.st.cell 1 0 rfl).trans rfl
                have yn := hFW.st.frozen 1 0 rfl
                clear hFW hKW
                gi_wp2
                have hw : wrap64 ((np : Int) + 1) = (((pre ++ [(Value.slice As s.length cs', s)]).length : Nat) : Int) := by
                  have h1 := HNP.out
                  have h2 := HL5.out
                  rw [w64 (by omega) (by omega)]
                  simp
                  omega
                rw [hw]
                refine ⟨(HKW.out).trans (KeptD.setCell (p := ⟨Bn, 0, none⟩) HAPN.out _), fun k hk => ⟨(HM1.out k hk).1, ?_⟩, (HFW.out.put 1 rfl HNFB.out 0 _ rfl).sub (List.sublist_cons_self _ _), ?_⟩
                · have h1 := (HM1.out k hk).2
                  have h2 := (HKW.out).1
                  have h3 := ((Below.refl 0 W).setCell (p := ⟨Bn, 0, none⟩) (Nat.zero_le _) (.int .i64 ((pre ++ [(Value.slice As s.length cs', s)]).length : Nat))).size
                  omega
                · obtain ⟨hlt, hq⟩ := HQ.out
                  have hnp := HNP.out
                  subst hnp
                  rw [List.map_append]
                  refine isPre HP.out (by simpa using hlt) ?_
                  simp only [List.length_map]
                  rw [← hq, HSQ.out]
              have ownI2 : OwnD (fun (M : Nat → Prop) (pre2 : List (Value × List Bool)) (W : World) => (∀ k, M k → Bi + 1 ≤ k ∧ k < W.heap.size) ∧ Fr w [(Bi, .cells #[.int .i64 (pre2.length : Nat)] 3 (0, 0)), (Bn, .cells #[.int .i64 np] 3 (0, 0)), (Bs, .cells #[.func (.func g) #[] lb] 49 (0, 0)), (Bm, .cells #[.int .i64 v, .slice Am cs.length cm] 24 (0, 0)), (Bw, .cells #[.slice (some ad) nw cw] 46 (0, 0)), (w.heap.size + 1 + 1, .cells #[.bool false] 4 (0, 0)), (w.heap.size + 1, .cells #[.int .i64 kk] 3 (0, 0)), (w.heap.size, .cells #[.int .i64 v, .slice A0 cs.length c0] 24 (0, 0))] (fun k => (V0.heap.size ≤ k ∧ k < Bw) ∨ Rd k) (fun W => Kd.F (Kd.slice 4 Kd.bool) W (fun k => V0.heap.size ≤ k ∧ k < Bw) (some ad) nw L ∧ SQM g lb hv Rd L W) W ∧ pre2.map (fun x : Value × List Bool => x.2) <+: L ∧ KeptD (fun k => M1 k ∨ Rd k) W5 W) := fun M M21 pre2 A B h hg hm => by
                obtain ⟨o1, o2, o3, o4⟩ := HO.out
                obtain ⟨z1, z2⟩ := HZ1.out
                have h0 := HBN.out
                have h00 := HBI.out
                have hsz : Bi < A.heap.size := h.2.1.st.blt 0 rfl
                refine ⟨fun k hk => ?_, h.2.1.growN hg (n := Bi + 1) (fun k hk => (h.1 k hk).1) (by omega) (fun k hk => ?_) (by simp; omega), h.2.2.1, h.2.2.2.trans ⟨hg.size, fun k o hk ho => (hg.block k (Array.getElem?_eq_some_iff.1 ho).1 (fun hk2 => ?_)).trans ho⟩⟩
                · rcases hm k hk with h1 | h1
                  · exact ⟨(h.1 k h1).1, Nat.lt_of_lt_of_le (h.1 k h1).2 hg.size⟩
                  · exact ⟨Nat.le_trans hsz h1.1, h1.2⟩
                · rcases hk with hk | hk
                  · omega
                  · have := o4 k hk; omega
                · have h5 := (h.1 k hk2).1
                  rcases hk with hk | hk
                  · have := (HM1.out k hk).2; omega
                  · have := o4 k hk; omega
              have ownIx2 : ∀ c : Code, OwnD ((fun (c : Code) (M : Nat → Prop) (pre2 : List (Value × List Bool)) (W : World) => (c = .ret ∧ ¬ pre2.map (fun x : Value × List Bool => x.2) <+: L) ∨ (c = .exit 6 ∧ (∀ k, M k → Bi + 1 ≤ k ∧ k < W.heap.size) ∧ ∃ x : Int, Fr w [(Bi, .cells #[.int .i64 x] 3 (0, 0)), (Bn, .cells #[.int .i64 np] 3 (0, 0)), (Bs, .cells #[.func (.func g) #[] lb] 49 (0, 0)), (Bm, .cells #[.int .i64 v, .slice Am cs.length cm] 24 (0, 0)), (Bw, .cells #[.slice (some ad) nw cw] 46 (0, 0)), (w.heap.size + 1 + 1, .cells #[.bool false] 4 (0, 0)), (w.heap.size + 1, .cells #[.int .i64 kk] 3 (0, 0)), (w.heap.size, .cells #[.int .i64 v, .slice A0 cs.length c0] 24 (0, 0))] (fun k => (V0.heap.size ≤ k ∧ k < Bw) ∨ Rd k) (fun W => Kd.F (Kd.slice 4 Kd.bool) W (fun k => V0.heap.size ≤ k ∧ k < Bw) (some ad) nw L ∧ SQM g lb hv Rd L W) W ∧ KeptD (fun k => M1 k ∨ Rd k) W5 W)) c) := fun c M M21 pre2 A B h hg hm => by
                obtain ⟨o1, o2, o3, o4⟩ := HO.out
                obtain ⟨z1, z2⟩ := HZ1.out
                have h0 := HBN.out
                have h00 := HBI.out
                rcases h with h | ⟨e, h1, x, h2, h3⟩
                · exact .inl h
                · have hsz : Bi < A.heap.size := h2.st.blt 0 rfl
                  refine .inr ⟨e, fun k hk => ?_, x, h2.growN hg (n := Bi + 1) (fun k hk => (h1 k hk).1) (by omega) (fun k hk => ?_) (by simp; omega), h3.trans ⟨hg.size, fun k o hk ho => (hg.block k (Array.getElem?_eq_some_iff.1 ho).1 (fun hk2 => ?_)).trans ho⟩⟩
                  · rcases hm k hk with h5 | h5
                    · exact ⟨(h1 k h5).1, Nat.lt_of_lt_of_le (h1 k h5).2 hg.size⟩
                    · exact ⟨Nat.le_trans hsz h5.1, h5.2⟩
                  · rcases hk with hk | hk
                    · omega
                    · have := o4 k hk; omega
                  · have h5 := (h1 k hk2).1
                    rcases hk with hk | hk
                    · have := (HM1.out k hk).2; omega
                    · have := o4 k hk; omega
              obtain ⟨r0, hr0⟩ := HREC.out.2
              have hr7 : W7.heap[li]? = some (.loop r0) := (HB7.out.block li (Array.getElem?_eq_some_iff.1 hr0).1).trans hr0
              refine wpIn_range_ownN (F := Fence.wide.inRound li) (by decide) (gf := g) (lb := lb) rfl hr7 rfl trivial eg ((HF7.out.x.2 9 (by decide)).now.inRound li) HandB.move (HF7.out.x.2 9 (by decide)).1 (Below.refl _ _) (fun _ => rfl)
                (fun (M : Nat → Prop) (pre2 : List (Value × List Bool)) (W : World) => (∀ k, M k → Bi + 1 ≤ k ∧ k < W.heap.size) ∧ Fr w [(Bi, .cells #[.int .i64 (pre2.length : Nat)] 3 (0, 0)), (Bn, .cells #[.int .i64 np] 3 (0, 0)), (Bs, .cells #[.func (.func g) #[] lb] 49 (0, 0)), (Bm, .cells #[.int .i64 v, .slice Am cs.length cm] 24 (0, 0)), (Bw, .cells #[.slice (some ad) nw cw] 46 (0, 0)), (w.heap.size + 1 + 1, .cells #[.bool false] 4 (0, 0)), (w.heap.size + 1, .cells #[.int .i64 kk] 3 (0, 0)), (w.heap.size, .cells #[.int .i64 v, .slice A0 cs.length c0] 24 (0, 0))] (fun k => (V0.heap.size ≤ k ∧ k < Bw) ∨ Rd k) (fun W => Kd.F (Kd.slice 4 Kd.bool) W (fun k => V0.heap.size ≤ k ∧ k < Bw) (some ad) nw L ∧ SQM g lb hv Rd L W) W ∧ pre2.map (fun x : Value × List Bool => x.2) <+: L ∧ KeptD (fun k => M1 k ∨ Rd k) W5 W)
                (fun (c : Code) (M : Nat → Prop) (pre2 : List (Value × List Bool)) (W : World) => (c = .ret ∧ ¬ pre2.map (fun x : Value × List Bool => x.2) <+: L) ∨ (c = .exit 6 ∧ (∀ k, M k → Bi + 1 ≤ k ∧ k < W.heap.size) ∧ ∃ x : Int, Fr w [(Bi, .cells #[.int .i64 x] 3 (0, 0)), (Bn, .cells #[.int .i64 np] 3 (0, 0)), (Bs, .cells #[.func (.func g) #[] lb] 49 (0, 0)), (Bm, .cells #[.int .i64 v, .slice Am cs.length cm] 24 (0, 0)), (Bw, .cells #[.slice (some ad) nw cw] 46 (0, 0)), (w.heap.size + 1 + 1, .cells #[.bool false] 4 (0, 0)), (w.heap.size + 1, .cells #[.int .i64 kk] 3 (0, 0)), (w.heap.size, .cells #[.int .i64 v, .slice A0 cs.length c0] 24 (0, 0))] (fun k => (V0.heap.size ≤ k ∧ k < Bw) ∨ Rd k) (fun W => Kd.F (Kd.slice 4 Kd.bool) W (fun k => V0.heap.size ≤ k ∧ k < Bw) (some ad) nw L ∧ SQM g lb hv Rd L W) W ∧ KeptD (fun k => M1 k ∨ Rd k) W5 W))
                ownI2 ownIx2 ⟨fun _ h => h.elim, HF7.out, List.nil_prefix, KeptD.of_below HB7.out⟩
                (fun p => { tmps := #[Value.agg #[Value.int IntKind.i64 v, Value.slice A0 cs.length c0], Value.int IntKind.i64 kk, Value.pointer (some { block := w.heap.size, off := 0 }), Value.pointer (some { block := w.heap.size + 1, off := 0 }), Value.pointer (some { block := w.heap.size + 1 + 1, off := 0 }), Value.pointer (some { block := Bw, off := 0 }), Value.pointer (some { block := Bm, off := 0 }), Value.pointer (some { block := Bs, off := 0 }), Value.int IntKind.i64 ↑i, u9, Value.pointer (some { block := Bn, off := 0 }), Value.slice As s.length cs', Value.pointer (some { block := Bi, off := 0 }), p.1, undef, Value.agg #[Value.int IntKind.i64 v, Value.slice A0 cs.length c0], Value.slice (some ad) nw cw, Value.agg #[Value.int IntKind.i64 v, Value.slice A0 cs.length c0], Value.agg #[Value.int IntKind.i64 v, Value.slice Am cs.length cm], Value.agg #[Value.int IntKind.i64 v, Value.slice Am cs.length cm], Value.func (Fn.func g) #[] lb, Value.func (Fn.func g) #[] lb, Value.bool false, Value.int IntKind.i64 ↑i, Value.pointer (some { block := Bm, off := 1 }), Value.slice Am cs.length cm, Value.int IntKind.i64 ↑cs.length, Value.bool false, u28, u29, u30, u31, u32, u33, u34, u35, u36, u37, u38, u39, u40, u41, u42, u43, u44, u45, u46, u47, u48, u49, u50, u51, u52, u53, u54, u55, u56, u57, u58, u59, Value.func (Fn.func g) #[] lb, Value.slice As s.length cs', Value.int IntKind.i64 ↑np, Value.slice (some ad) nw cw, Value.int IntKind.i64 ↑nw, Value.bool false, Value.bool false, Value.slice As s.length cs', Value.slice (some ad) nw cw, Value.int IntKind.i64 ↑np, Value.pointer (some (ad.add np)), Value.slice A1 q.length c1, Value.bool true, Value.bool false, Value.bool false, Value.int IntKind.i64 ↑np, Value.int IntKind.i64 kk, Value.bool true, Value.func (Fn.func g) #[] lb, p.1, undef, undef, undef, undef, undef, undef, undef, undef, undef, undef, undef, undef, undef, undef, undef, undef, undef, undef, undef, undef, undef, undef, undef, undef, undef, undef, undef, undef, undef, undef, undef, undef, undef, undef, undef, undef, undef, undef, undef, undef, undef, undef, undef, undef, undef, undef, undef], defers := [] }) ?assign2 ?body2 ?done2 ?stop2
              case assign2 =>
                intro l x W K hK
                gi_wp2
                first | exact hK | simpa using hK
              case body2 =>
                rintro li2 M M21 pre2 ⟨u2, s2⟩ A6 X5 hI hg hm hsub hMD hsz hHd hlen
                obtain ⟨hM21, hG, hP2, hKI⟩ := ownI2 _ _ _ _ _ hI hg hm
                obtain ⟨hsl, ho, hnm⟩ := hHd
                replace hsl : s2.length = hv := hsl
                replace ho : OwnBools X5 A6.heap.size u2 s2 := ho
                have hRs := own_Rb ho
                obtain ⟨As2, cs2', rfl⟩ := Kd.R_slice hRs
                have HC52 := Aside0.mk (Kd.R_reads' hRs).2
                have HG := Aside0.mk hG
                have HM21 := Aside0.mk hM21
                have HP2 := Aside0.mk hP2
                have HL52 := Aside0.mk hlen
                have HKI := Aside0.mk hKI
                have HSL2 : Aside0 (s2.length ≤ 140737488355328) := ⟨by have := HHV.out; omega⟩
                have HAPB2 : Aside0 (¬ (M21 (w.heap.size + 1 + 1) ∨ Rd (w.heap.size + 1 + 1))) := ⟨fun h => by
                  obtain ⟨o1, o2, o3, o4⟩ := HO.out
                  obtain ⟨z1, z2⟩ := HZ1.out
                  have h0 := HBN.out
                  have h00 := HBI.out.1
                  rcases h with h | h
                  · have := (hM21 _ h).1; omega
                  · have := o4 _ h; omega⟩
                have HAPI2 : Aside0 (¬ (M21 Bi ∨ Rd Bi)) := ⟨fun h => by
                  have h0 := HBN.out
                  have h00 := HBI.out.1
                  rcases h with h | h
                  · have := (hM21 _ h).1; omega
                  · have := HO.out.2.2.2 _ h; omega⟩
                have HAPI : Aside0 (¬ (M1 Bi ∨ Rd Bi)) := ⟨fun h => by
                  have h0 := HBN.out
                  have h00 := HBI.out
                  rcases h with h | h
                  · have := (HM1.out _ h).2; omega
                  · have := HO.out.2.2.2 _ h; omega⟩
                have HNFI : Aside0 (¬ ((V0.heap.size ≤ Bi ∧ Bi < Bw) ∨ Rd Bi)) := ⟨fun h => by
                  obtain ⟨o1, o2, o3, o4⟩ := HO.out
                  have h0 := HBN.out
                  have h00 := HBI.out.1
                  rcases h with h | h
                  · omega
                  · have := o4 _ h; omega⟩
                clear ownI2 hI hg hm hsub hMD hsz hlen hM21 hG hP2 hKI hsl ho hnm hRs key2 HF7 hK2
                obtain ⟨np2, hnp2⟩ : ∃ np2, np2 = pre2.length := ⟨_, rfl⟩
                rw [← hnp2] at HG
                have HNP2 := Aside0.mk hnp2
                clear hnp2
                dsimp only
                have f0 := (HG.out.st.cell 4 0 rfl).trans rfl
                have f2 := (HG.out.st.cell 0 0 rfl).trans rfl
                have hnwL := HL.out.2.1
                by_cases hlt2 : np2 < L.length
                · obtain ⟨ad2, A12, c12, eA, cell0, hc1, hC1⟩ := rowF_at HG.out.x.1 hlt2
                  obtain ⟨q2, hq2⟩ : ∃ q2, q2 = L[np2] := ⟨_, rfl⟩
                  rw [← hq2] at cell0 hc1 hC1
                  have HQ2 : Aside0 (∃ h : np2 < L.length, q2 = L[np2]) := ⟨hlt2, hq2⟩
                  cases eA
                  have p12 : decide ((np2 : Int) ≥ (nw : Int)) = false := decide_eq_false (by omega)
                  have p22 : (nw ≤ np2) = False := eq_false (by omega)
                  have p32 : (np2 < nw) = True := eq_true (by omega)
                  have i02 : (0 : Int) ≤ (np2 : Int) := by omega
                  have i12 : (np2 : Int) < (nw : Int) := by omega
                  have HEQ2 := Aside0.mk (sameBools_calls As2 A12 cs2' c12 s2 q2 X5 HC52.out.2 HC52.out.1 hC1 hc1 (by have := HSL2.out; omega))
                  clear hq2 hc1 hC1 hnwL hlt2
                  cases hs2 : (s2 == q2) with
                  | false =>
                    rw [hs2] at HEQ2
                    have HSQ2 := Aside0.mk hs2
                    clear hs2
                    gi_wp2
                    refine ⟨trivial, ?_⟩
                    (with_reducible refine (CallsIn.inRound li2 (CallsIn.inRound li (callsIn_wide.2 HEQ2.out))).mono ?_)
                    rintro e X6 ⟨rfl, hd⟩
                    have HD2 := Aside0.mk hd.below
                    have HG6 := Aside0.mk (HG.out.keep hd.below)
                    clear hd
                    have q4 := (HG6.out.st.cell 5 0 rfl).trans rfl
                    have y4 := HG6.out.st.frozen 5 0 rfl
                    gi_wp2
                    have HNP2' : ¬ (pre2 ++ [(Value.slice As2 s2.length cs2', s2)]).map (·.2) <+: L := by
                      obtain ⟨hlt2, hq2⟩ := HQ2.out
                      rw [List.map_append]
                      have hnp2 := HNP2.out
                      subst hnp2
                      refine notPre' (by simpa using hlt2) ?_
                      intro e
                      have e2 : s2 = q2 := by rw [hq2]; simpa using e
                      have := HSQ2.out
                      rw [e2, beq_self_eq_true] at this
                      cases this
                    exact ⟨(KeptD.of_below HD2.out).trans (KeptD.setCell (p := ⟨w.heap.size + 1 + 1, 0, none⟩) HAPB2.out _), .inl ⟨rfl, HNP2'⟩⟩
                  | true =>
                    rw [hs2] at HEQ2
                    have HSQ2 := Aside0.mk (beq_iff_eq.1 hs2)
                    clear hs2
                    gi_wp2
                    refine ⟨trivial, ?_⟩
                    (with_reducible refine (CallsIn.inRound li2 (CallsIn.inRound li (callsIn_wide.2 HEQ2.out))).mono ?_)
                    rintro e X6 ⟨rfl, hd⟩
                    have HD2 := Aside0.mk hd.below
                    have HG6 := Aside0.mk (HG.out.keep hd.below)
                    clear hd
                    have fn := (HG6.out.st.cell 0 0 rfl).trans rfl
                    have yn := HG6.out.st.frozen 0 0 rfl
                    have b0 : (0 : Int) ≤ (np2 : Int) := by omega
                    have b1 : (np2 : Int) ≤ 65536 := by have := HNP2.out; have := HL52.out; omega
                    have HK9 := Aside0.mk (HKI.out.trans ((KeptD.of_below (M := fun k => M1 k ∨ Rd k) HD2.out).trans (KeptD.setCell (p := ⟨Bi, 0, none⟩) HAPI.out (.int .i64 ((np2 : Int) + 1)))))
                    have HKM := Aside0.mk ((KeptD.of_below (M := fun k => M21 k ∨ Rd k) HD2.out).trans (KeptD.setCell (p := ⟨Bi, 0, none⟩) HAPI2.out (.int .i64 ((np2 : Int) + 1))))
                    have HF9 := Aside0.mk (HG6.out.put 0 rfl HNFI.out 0 (.int .i64 ((np2 : Int) + 1)) rfl)
                    have HM9 : Aside0 (∀ k, M21 k → Bi + 1 ≤ k ∧ k < (X6.setCell ⟨Bi, 0, none⟩ (.int .i64 ((np2 : Int) + 1))).heap.size) := ⟨fun k hk => ⟨(HM21.out k hk).1, by
                      have h1 := (HM21.out k hk).2
                      have h2 := HD2.out.size
                      have h3 := ((Below.refl 0 X6).setCell (p := ⟨Bi, 0, none⟩) (Nat.zero_le _) (.int .i64 ((np2 : Int) + 1))).size
                      omega⟩⟩
                    by_cases h3 : (np2 : Int) + 1 > 3
                    · have pg : decide ((np2 : Int) + 1 > 3) = true := decide_eq_true h3
                      have pg2 : decide (3 < (np2 : Int) + 1) = true := pg
                      clear h3
                      gi_wp2
                      exact ⟨HKM.out, .inr ⟨rfl, HM9.out, _, HF9.out, HK9.out⟩⟩
                    · have pg : decide ((np2 : Int) + 1 > 3) = false := decide_eq_false h3
                      have pg2 : decide (3 < (np2 : Int) + 1) = false := pg
                      clear h3
                      gi_wp2
                      have el : ((pre2 ++ [(Value.slice As2 s2.length cs2', s2)]).length : Int) = (np2 : Int) + 1 := by have := HNP2.out; simp; omega
                      rw [← el]
                      have hF9 := HF9.out
                      have hK9 := HK9.out
                      have hKM := HKM.out
                      have hM9 := HM9.out
                      rw [← el] at hF9 hK9 hKM hM9
                      refine ⟨hKM, hM9, hF9, ?_, hK9⟩
                      obtain ⟨hlt2, hq2⟩ := HQ2.out
                      have hnp2 := HNP2.out
                      subst hnp2
                      rw [List.map_append]
                      refine isPre HP2.out (by simpa using hlt2) ?_
                      simp only [List.length_map]
                      rw [← hq2, HSQ2.out]
                · have p12 : decide ((np2 : Int) ≥ (nw : Int)) = true := decide_eq_true (by omega)
                  have p22 : (nw ≤ np2) = True := eq_true (by omega)
                  have q4 := (HG.out.st.cell 5 0 rfl).trans rfl
                  have y4 := HG.out.st.frozen 5 0 rfl
                  have HGE2 := Aside0.mk hlt2
                  have HG6 := HG
                  clear hlt2 hnwL
                  gi_wp2
                  refine ⟨trivial, ?_⟩
                  gi_wp2
                  have HNP2' : ¬ (pre2 ++ [(Value.slice As2 s2.length cs2', s2)]).map (·.2) <+: L := by
                    rw [List.map_append]
                    exact notPre (by have := HGE2.out; have := HNP2.out; simp; omega)
                  exact ⟨(KeptD.setCell (p := ⟨w.heap.size + 1 + 1, 0, none⟩) HAPB2.out _), .inl ⟨rfl, HNP2'⟩⟩
              case done2 =>
                rintro M xs W hMb hS ⟨hM2, hF, hP, hK⟩
                exact key2 W _ hF hK
              case stop2 =>
                rintro M c pre W hMb hSp hix
                rcases hix with ⟨rfl, h⟩ | ⟨rfl, h1, x, h2, h3⟩
                · exact absurd hSp h
                · refine wpIn_exit ?_
                  simp only [Exit.inBlock, if_true]
                  exact key2 W x h2 h3
            · have pk : ((np : Int) == kk) = false := beq_eq_false_iff_ne.2 hk0
              clear hk0
              have fn := (HF6.out.st.cell 0 0 rfl).trans rfl
              have yn := HF6.out.st.frozen 0 0 rfl
              have fk := (HF6.out.st.cell 5 0 rfl).trans rfl
              gi_wp2
              have hw : wrap64 ((np : Int) + 1) = (((pre ++ [(Value.slice As s.length cs', s)]).length : Nat) : Int) := by
                have h1 := HNP.out
                have h2 := HL5.out
                rw [w64 (by omega) (by omega)]
                simp
                omega
              rw [hw]
              refine ⟨(KeptD.of_below (M := (fun k => M1 k ∨ Rd k)) HD.out).trans (KeptD.setCell (p := ⟨Bn, 0, none⟩) HAPN.out _), fun k hk => ⟨(HM1.out k hk).1, ?_⟩, HF6.out.put 0 rfl HNFB.out 0 _ rfl, ?_⟩
              · have h1 := (HM1.out k hk).2
                have h2 := (KeptD.of_below (M := (fun k => M1 k ∨ Rd k)) HD.out).1
                have h3 := ((Below.refl 0 W6).setCell (p := ⟨Bn, 0, none⟩) (Nat.zero_le _) (.int .i64 ((pre ++ [(Value.slice As s.length cs', s)]).length : Nat))).size
                omega
              · obtain ⟨hlt, hq⟩ := HQ.out
                have hnp := HNP.out
                subst hnp
                rw [List.map_append]
                refine isPre HP.out (by simpa using hlt) ?_
                simp only [List.length_map]
                rw [← hq, HSQ.out]
        · have p1 : decide ((np : Int) ≥ (nw : Int)) = true := decide_eq_true (by omega)
          have p2 : (nw ≤ np) = True := eq_true (by omega)
          have q4 := (HF.out.st.cell 4 0 rfl).trans rfl
          have y4 := HF.out.st.frozen 4 0 rfl
          have HGE := Aside0.mk hlt
          have HF6 := HF
          clear hlt hnwL
          gi_wp2
          refine ⟨trivial, ?_⟩
          gi_wp2
          have HNP' : ¬ (pre ++ [(Value.slice As s.length cs', s)]).map (·.2) <+: L := by
            rw [List.map_append]
            exact notPre (by have := HGE.out; have := HNP.out; simp; omega)
          exact ⟨(KeptD.setCell (p := ⟨w.heap.size + 1 + 1, 0, none⟩) HAPB.out _), HNP'⟩
      case done =>
        rintro M xs W hMb hS ⟨hM1, hF, hP⟩ hD
        have e1 : ((xs.length : Nat) : Int) = (nw : Int) := by rw [HL.out.2.1, ← hS, List.length_map]
        rw [e1] at hF
        exact key W hF hD (hM1 _ hMb).2
      case stop =>
        rintro M c pre W hMb hSp hix hK
        exact absurd hSp hix
end Go.Proofs.YtggnnnddnppcpaaHand
