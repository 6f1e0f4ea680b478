/- DERIVED: THE SHELF's CONTRACTS AT THIS DUMP, IN PLAIN WORDS (tools/lay-plain.mjs out of 'YtggnnnddnppcpaaShelf.lean', which tools/lay-shelf.mjs wrote): THE SAME DECLARATIONS UNDER THE SAME NAMES: 'import', 'namespace', 'open', 'def', 'theorem' AND NOTHING ELSE: no command of the shelf's: FOR A HAND-IN. Each laying: the table of numbers ('.._ren') and one theorem, a field a fact of the dump's own or the kernel's comparison; each contract: ONE APPLICATION. -/
import Derived.Shelf.Small.Bits
import Derived.Shelf.Strconv.Itoa0
import Derived.Ground.Names2Prog
import Derived.Shelf.Slices.CompactI
import Derived.Shelf.Slices.Cells
import Derived.Ground.SlgnProg
import Derived.Shelf.SlicesE.Compact
import Derived.Ground.SlgfProg
import Derived.Shelf.SlicesE.IndexFunc
import Derived.Shelf.SlicesE.DeleteFunc
import Derived.Ground.SlsfProg
import Derived.Shelf.SlSortCmp.Insertion
import Derived.Shelf.SlSortCmp.SiftDown1
import Derived.Shelf.SlSortCmp.HeapSort1
import Derived.Shelf.SlSortCmp.Insertion1
import Derived.Shelf.SlSortCmp.Median1
import Derived.Shelf.SlSortCmp.Pivot1
import Derived.Shelf.SlSortCmp.ReverseRange1
import Derived.Shelf.SlSortCmp.PartialInsertion1
import Derived.Shelf.SlSortCmp.PartitionEqual1
import Derived.Shelf.SlSortCmp.Partition1
import Derived.Shelf.SlSortCmp.Pdq1
import Derived.Shelf.SlSortCmp.Whole1
import Derived.Shelf.SlCmpFuncs.BinarySearchFunc
import Derived.Shelf.SlCmpFuncs.None
import Derived.Ground.SlsgProg
import Derived.Shelf.Spec.SlicesGrow
import Derived.Ground.Names8Prog
import Derived.Test.YtggnnnddnppcpaaProg
import Derived.Test.YtggnnnddnppcpaaClCnfModelse
import Derived.Sort.OwnSortedInts
import Derived.Lib.RowBridge
import Derived.BigRegion
/-! text YtggnnnddnppcpaaShelf -/
namespace Go.Proofs
open Go.Shelf
def Try.searchF_ren : Go.Shelf.Ren := ⟨fun | 14 => 88 | n => n, fun | 22 => 43 | 24 => 3 | 29 => 3 | 32 => 77 | 3 => 3 | 4 => 4 | 35 => 102 | 0 => 0 | n => n, fun | n => n⟩
theorem Try.searchF : Go.Proofs.SlLaysG2.n14 Try.prog Try.searchF_ren := {
  mixed := by kernel_rfl
  f14 := ⟨Try.f88.name, by decide, Try.func88.trans (congrArg some (by kernel_rfl))⟩
  t0 := Try.underlying0
  a0 := Try.isAgg0
  z0 := Try.sizeOf0
  v0 := Try.zeroValue0
  t3 := Try.underlying3
  a3 := Try.isAgg3
  z3 := Try.sizeOf3
  v3 := Try.zeroValue3
  t4 := Try.underlying4
  a4 := Try.isAgg4
  z4 := Try.sizeOf4
  v4 := Try.zeroValue4
  t22 := Try.underlying43
  a22 := Try.isAgg43
  z22 := Try.sizeOf43
  v22 := Try.zeroValue43
  a24 := Try.isAgg3
  z24 := Try.sizeOf3
  a29 := Try.isAgg3
  z29 := Try.sizeOf3
  t32 := Try.underlying77
  a32 := Try.isAgg77
  z32 := Try.sizeOf77
  v32 := Try.zeroValue77
  t35 := Try.underlying102
  a35 := Try.isAgg102
  z35 := Try.sizeOf102
  v35 := Try.zeroValue102 }
def Try.deleteF_ren : Go.Shelf.Ren := ⟨fun | 10 => 100 | 6 => 114 | n => n, fun | 22 => 43 | 23 => 3 | 25 => 96 | 3 => 3 | 4 => 4 | 0 => 0 | n => n, fun | n => n⟩
theorem Try.deleteF : Go.Proofs.SlLaysH.n10 Try.prog Try.deleteF_ren := {
  mixed := by kernel_rfl
  f6 := ⟨Try.f114.name, by decide, Try.func114.trans (congrArg some (by kernel_rfl))⟩
  f10 := ⟨Try.f100.name, by decide, Try.func100.trans (congrArg some (by kernel_rfl))⟩
  t0 := Try.underlying0
  a0 := Try.isAgg0
  z0 := Try.sizeOf0
  v0 := Try.zeroValue0
  t3 := Try.underlying3
  a3 := Try.isAgg3
  z3 := Try.sizeOf3
  v3 := Try.zeroValue3
  t4 := Try.underlying4
  a4 := Try.isAgg4
  z4 := Try.sizeOf4
  v4 := Try.zeroValue4
  t22 := Try.underlying43
  a22 := Try.isAgg43
  z22 := Try.sizeOf43
  v22 := Try.zeroValue43
  a23 := Try.isAgg3
  z23 := Try.sizeOf3
  t25 := Try.underlying96
  a25 := Try.isAgg96
  z25 := Try.sizeOf96
  v25 := Try.zeroValue96 }
def Try.growF_ren : Go.Shelf.Ren := ⟨fun | 4 => 113 | n => n, fun | 22 => 43 | 25 => 3 | 3 => 3 | 4 => 4 | 9 => 9 | 20 => 20 | 0 => 0 | n => n, fun | n => n⟩
theorem Try.growF : Go.Proofs.Lays8.n4 Try.prog Try.growF_ren := {
  mixed := by kernel_rfl
  f4 := ⟨Try.f113.name, by decide, Try.func113.trans (congrArg some (by kernel_rfl))⟩
  t0 := Try.underlying0
  a0 := Try.isAgg0
  z0 := Try.sizeOf0
  v0 := Try.zeroValue0
  t3 := Try.underlying3
  a3 := Try.isAgg3
  z3 := Try.sizeOf3
  v3 := Try.zeroValue3
  t4 := Try.underlying4
  a4 := Try.isAgg4
  z4 := Try.sizeOf4
  v4 := Try.zeroValue4
  t9 := Try.underlying9
  a9 := Try.isAgg9
  z9 := Try.sizeOf9
  v9 := Try.zeroValue9
  t20 := Try.underlying20
  a20 := Try.isAgg20
  z20 := Try.sizeOf20
  v20 := Try.zeroValue20
  t22 := Try.underlying43
  a22 := Try.isAgg43
  z22 := Try.sizeOf43
  v22 := Try.zeroValue43 }
def Try.laysNm220_ren : Go.Shelf.Ren := ⟨fun | 20 => 91 | n => n, fun | 22 => 43 | 3 => 3 | 4 => 4 | 0 => 0 | n => n, fun | n => n⟩
theorem Try.laysNm220 : Go.Proofs.Lays2.n20 Try.prog Try.laysNm220_ren := {
  mixed := by kernel_rfl
  f20 := Try.func91.trans (congrArg some (by kernel_rfl))
  t0 := Try.underlying0
  a0 := Try.isAgg0
  z0 := Try.sizeOf0
  v0 := Try.zeroValue0
  t3 := Try.underlying3
  a3 := Try.isAgg3
  z3 := Try.sizeOf3
  v3 := Try.zeroValue3
  t4 := Try.underlying4
  a4 := Try.isAgg4
  z4 := Try.sizeOf4
  v4 := Try.zeroValue4
  t22 := Try.underlying43
  a22 := Try.isAgg43
  z22 := Try.sizeOf43
  v22 := Try.zeroValue43
  i3 := by kernel_rfl }
def Try.laysSlF6_f90_ren : Go.Shelf.Ren := ⟨fun | 6 => 90 | 15 => 98 | 14 => 97 | 28 => 111 | 29 => 112 | 20 => 103 | 21 => 104 | 22 => 105 | 23 => 106 | 24 => 107 | 25 => 108 | 26 => 109 | 27 => 110 | 46 => 115 | 47 => 116 | 48 => 117 | 49 => 118 | 50 => 119 | 57 => 120 | n => n, fun | 22 => 43 | 24 => 3 | 25 => 77 | 3 => 3 | 39 => 102 | 0 => 0 | 53 => 115 | 55 => 117 | 4 => 4 | 46 => 109 | 45 => 108 | 50 => 97 | 5 => 5 | 9 => 9 | 66 => 119 | 70 => 123 | 76 => 125 | 77 => 126 | n => n, fun | n => n⟩
theorem Try.laysSlF6_f90 : Go.Proofs.SlLaysF.n6 Try.prog Try.laysSlF6_f90_ren := {
  mixed := by kernel_rfl
  f6 := ⟨Try.f90.name, by decide, Try.func90.trans (congrArg some (by kernel_rfl))⟩
  f14 := ⟨Try.f97.name, by decide, Try.func97.trans (congrArg some (by kernel_rfl))⟩
  f15 := Try.func98.trans (congrArg some (by kernel_rfl))
  f20 := ⟨Try.f103.name, by decide, Try.func103.trans (congrArg some (by kernel_rfl))⟩
  f21 := ⟨Try.f104.name, by decide, Try.func104.trans (congrArg some (by kernel_rfl))⟩
  f22 := ⟨Try.f105.name, by decide, Try.func105.trans (congrArg some (by kernel_rfl))⟩
  f23 := ⟨Try.f106.name, by decide, Try.func106.trans (congrArg some (by kernel_rfl))⟩
  f24 := ⟨Try.f107.name, by decide, Try.func107.trans (congrArg some (by kernel_rfl))⟩
  f25 := ⟨Try.f108.name, by decide, Try.func108.trans (congrArg some (by kernel_rfl))⟩
  f26 := ⟨Try.f109.name, by decide, Try.func109.trans (congrArg some (by kernel_rfl))⟩
  f27 := ⟨Try.f110.name, by decide, Try.func110.trans (congrArg some (by kernel_rfl))⟩
  f28 := Try.func111.trans (congrArg some (by kernel_rfl))
  f29 := Try.func112.trans (congrArg some (by kernel_rfl))
  f46 := ⟨Try.f115.name, by decide, Try.func115.trans (congrArg some (by kernel_rfl))⟩
  f47 := Try.func116.trans (congrArg some (by kernel_rfl))
  f48 := Try.func117.trans (congrArg some (by kernel_rfl))
  f49 := ⟨Try.f118.name, by decide, Try.func118.trans (congrArg some (by kernel_rfl))⟩
  f50 := ⟨Try.f119.name, by decide, Try.func119.trans (congrArg some (by kernel_rfl))⟩
  f57 := ⟨Try.f120.name, by decide, Try.func120.trans (congrArg some (by kernel_rfl))⟩
  t0 := Try.underlying0
  a0 := Try.isAgg0
  z0 := Try.sizeOf0
  v0 := Try.zeroValue0
  t3 := Try.underlying3
  a3 := Try.isAgg3
  z3 := Try.sizeOf3
  v3 := Try.zeroValue3
  t4 := Try.underlying4
  a4 := Try.isAgg4
  z4 := Try.sizeOf4
  v4 := Try.zeroValue4
  t5 := Try.underlying5
  a5 := Try.isAgg5
  z5 := Try.sizeOf5
  v5 := Try.zeroValue5
  t9 := Try.underlying9
  a9 := Try.isAgg9
  z9 := Try.sizeOf9
  v9 := Try.zeroValue9
  t22 := Try.underlying43
  a22 := Try.isAgg43
  z22 := Try.sizeOf43
  v22 := Try.zeroValue43
  a24 := Try.isAgg3
  z24 := Try.sizeOf3
  t25 := Try.underlying77
  a25 := Try.isAgg77
  z25 := Try.sizeOf77
  v25 := Try.zeroValue77
  t39 := Try.underlying102
  a39 := Try.isAgg102
  z39 := Try.sizeOf102
  v39 := Try.zeroValue102
  t45 := Try.underlying108
  a45 := Try.isAgg108
  z45 := Try.sizeOf108
  v45 := Try.zeroValue108
  t46 := Try.underlying109
  a46 := Try.isAgg109
  z46 := Try.sizeOf109
  v46 := Try.zeroValue109
  t50 := Try.underlying97
  a50 := Try.isAgg97
  z50 := Try.sizeOf97
  v50 := Try.zeroValue97
  t53 := Try.underlying115
  a53 := Try.isAgg115
  z53 := Try.sizeOf115
  v53 := Try.zeroValue115
  t55 := Try.underlying117
  a55 := Try.isAgg117
  z55 := Try.sizeOf117
  v55 := Try.zeroValue117
  t66 := Try.underlying119
  a66 := Try.isAgg119
  z66 := Try.sizeOf119
  v66 := Try.zeroValue119
  t70 := Try.underlying123
  a70 := Try.isAgg123
  z70 := Try.sizeOf123
  v70 := Try.zeroValue123
  t76 := Try.underlying125
  a76 := Try.isAgg125
  z76 := Try.sizeOf125
  v76 := Try.zeroValue125
  t77 := Try.underlying126
  a77 := Try.isAgg126
  z77 := Try.sizeOf126
  v77 := Try.zeroValue126 }
open Go.RowKit Go.Lib Go.Sort in
/-- slices.Compact at []int: "Compact replaces consecutive runs of equal elements with a single copy. This is like the uniq command found on Unix. Compact modifies the contents of the slice s and returns the modified slice, which may have a smaller length. Compact zeroes the elements between the new length and the original length. The result preserves the nilness of s.": IT RETURNS THE SLICE CUT TO 'Lib.compact zs'; ITS CELLS HOLD 'Lib.compact zs', THEN ZERO VALUES up to the old length; all else is as it was, but for the count of draws. IN THE WORDS OF slices.Sort's CONTRACT ('Holds', 'putRow'): so the everyday 'slices.Sort(xs); xs = slices.Compact(xs)' goes from the one contract to the other. It asks 'zs.length ≤ cap' (every slice's: the reslicing 's[:k]' looks at it). Length 0, nil: '.._empty'. (LAID: no walk: one application.) -/
theorem Try.slices_Compact_int (blk off cap : Nat) (zs : List Int) (w : World) (hH : Holds (Value.int .i64) w blk off zs.toArray) (hsz : zs.length ≤ 9223372036854775807) (hcap : zs.length ≤ cap) :
    Calls Try.prog 91 #[.slice (some ⟨blk, off, none⟩) zs.length cap] w fun e w' => e = .returned (.slice (some ⟨blk, off, none⟩) (Lib.compact zs).length cap) ∧ ∃ q, w' = putRow (Value.int .i64) (Sort.ahead w q) blk off (Lib.compact zs ++ List.replicate (zs.length - (Lib.compact zs).length) 0).toArray := Any.slices_Compact_int Try.laysNm220 blk off cap zs w hH hsz hcap
open Go.RowKit Go.Lib Go.Sort in
/-- **slices.SortFunc, IN THE DOCUMENTATION's OWN TERMS: A PERMUTATION OF WHAT THE ROW HELD, SORTED BY 'cmp(a, b) < 0'.** Which of two equals comes first is left open ("The sort is not guaranteed to be stable"). (LAID AT THE INSTANCE 'slices.SortFunc[[]int,int]': no walk: one application.) -/
theorem Try.slices_SortFunc {α : Type} [Inhabited α] (enc : α → Value) (h1 : OneCell enc) (cf : α → α → Int) (hO : SWO (ltOf cf)) (g : Nat) (cb : Array Value) (blk off cap : Nat) (d : Array α) (w : World) (eg : ∀ args w, (callFunc g args).run Try.prog w = .ok (.enter g args) w) (hcmp : CmpLays1 Try.prog g cb enc cf blk off d.size w) (hH : Holds enc w blk off d) (hblk : blk < w.heap.size) (hsz : d.size < 4611686018427387904) :
    Calls Try.prog 90 #[.slice (some ⟨blk, off, none⟩) d.size cap, .func (.func g) #[] cb] w fun e w' =>
      e = .returned (.tuple #[]) ∧ ∃ d' n os, PermIn 0 d.size d d' ∧ SortedIn (ltOf cf) 0 d.size d' ∧ w' = sortWorld enc w blk off n d' os := Any.slices_SortFunc Try.laysSlF6_f90 enc h1 cf hO g cb blk off cap d w eg hcmp hH hblk hsz
end Go.Proofs
/-! text YtggnnnddnppcpaaTidy -/
namespace Go.Proofs.YtggnnnddnppcpaaHand
open Go.RowKit Go.Sort Go.Lib Go.Shelf Go.Proofs.YtggnnnddnppcpaaW.PrintWords Go.Proofs.YtggnnnddnppcpaaW.PrintLast Go.Proofs.YtggnnnddnppcpaaMath
set_option linter.unusedVariables false
set_option linter.unusedSimpArgs false

/-! rows of ints of the call's own -/
abbrev OwnInts (W : World) (base : Nat) (v : Value) (xs : List Int) : Prop := W.ownsRow base 3 1 v xs.length (nums .i64 xs)
theorem own_R {W : World} {base : Nat} {v : Value} {xs : List Int} (h : OwnInts W base v xs) : Kd.R (Kd.int .i64) 3 W base (fun _ => True) v xs := by
  have hl : xs.length * 1 = xs.length := Nat.mul_one _
  refine ⟨fun _ _ => trivial, ⟨nums .i64 xs, h, ?_⟩⟩
  refine ⟨by simp [nums, Kd.int, Kd.scalar], ?_⟩
  intro j p hj
  have hlt : j < xs.length := by
    rcases Nat.lt_or_ge j xs.length with h | h
    · exact h
    · rw [List.getElem?_eq_none h] at hj
      cases hj
  have e : xs[j] = p := by
    rw [List.getElem?_eq_getElem hlt] at hj
    exact Option.some.inj hj
  show ((nums .i64 xs).drop (j * 1)).take 1 = [Value.int .i64 p]
  rw [Nat.mul_one, nums, ← List.map_drop, ← List.map_take]
  rw [List.drop_eq_getElem_cons hlt, e]
  rfl
theorem own_cut {W : World} {base : Nat} {e : TypeId} {g n cap m : Nat} {xs : List Value} (h : W.ownsRow base e 1 (.slice (some ⟨g, 0, none⟩) n cap) n xs) (hm : m ≤ n) : W.ownsRow base e 1 (.slice (some ⟨g, 0, none⟩) m cap) m (xs.take m) := by
  obtain ⟨h1, h2⟩ := h
  refine ⟨by rw [List.length_take]; omega, .inr ?_⟩
  rcases h2 with ⟨h2, _⟩ | ⟨g', cap', cur, hv, hb, hh, h3, h4, h5, h6⟩
  · cases h2
  · cases hv
    refine ⟨g, cap, cur, rfl, hb, hh, by omega, h4, h5, ?_⟩
    rw [← h6, List.take_take]
    congr 1
    omega
theorem own_made0 (W : World) (base m : Nat) (e : TypeId) (z : Value) (hb : base ≤ W.heap.size) (hm : m ≤ 9223372036854775807) :
    (W.alloc (.cells (madeCells #[z] m) e)).ownsRow base e 1 (.slice (some ⟨W.heap.size, 0, none⟩) 0 m) 0 [] :=
  ⟨rfl, .inr ⟨W.heap.size, m, _, rfl, hb, heap_alloc_new W _, Nat.zero_le _, by simpa [maxLen] using hm, by simp [size_madeCells], by simp⟩⟩

/-- The same row, its cells written anew by the library. -/
theorem own_put {W : World} {base g cap n : Nat} {os : Array Obj} {xs ys : List Int} (h : OwnInts W base (.slice (some ⟨g, 0, none⟩) xs.length cap) xs) (hl : ys.length = xs.length) :
    OwnInts (grow (putRow (Value.int .i64) (Sort.ahead W n) g 0 ys.toArray) os) base (.slice (some ⟨g, 0, none⟩) ys.length cap) ys ∧ W.grownBy (grow (putRow (Value.int .i64) (Sort.ahead W n) g 0 ys.toArray) os) (some g) := by
  rcases h.2 with ⟨h0, _⟩ | ⟨g', cap', cur, hv, hb, hh, h1, h2, h3, h4⟩
  · cases h0
  · cases hv
    refine ⟨?_, grownBy_sortedI _⟩
    have := ownsRow_sortedI (n := n) (os := os) hl hb hh h1 h2 h3
    rw [← hl] at this
    exact this
theorem own_holds {W : World} {base g cap : Nat} {xs : List Int} (h : OwnInts W base (.slice (some ⟨g, 0, none⟩) xs.length cap) xs) : Holds (Value.int .i64) W g 0 xs.toArray ∧ g < W.heap.size ∧ xs.length ≤ cap ∧ xs.length ≤ 9223372036854775807 := by
  rcases h.2 with ⟨h0, _⟩ | ⟨g', cap', cur, hv, hb, hh, h1, h2, h3, h4⟩
  · cases h0
  · cases hv
    refine ⟨holds_of_blockI hh (by rw [← Nat.mul_one xs.length]; exact h4), (Array.getElem?_eq_some_iff.1 hh).1, h1, ?_⟩
    simp only [maxLen] at h2
    omega
theorem ltIdx (a b : Int) : Go.Proofs.ltOf byIdx a b = decide (idxOf a < idxOf b) := by
  unfold Go.Proofs.ltOf byIdx
  rw [Bool.eq_iff_iff]
  simp only [decide_eq_true_eq]
  omega
theorem swoIdx : SWO (Go.Proofs.ltOf byIdx) where
  irrefl x := by rw [ltIdx]; simp
  trans x y z h1 h2 := by rw [ltIdx] at *; simp at *; omega
  ntrans x y z h1 h2 := by rw [ltIdx] at *; simp at *; omega
theorem cmp_lays (blk off size : Nat) (w : World) : CmpLays1 Try.prog 89 #[] (Value.int .i64) byIdx blk off size w := by
  refine CmpReads.lays ?_
  intro m os dk _ x y
  refine (byIndex_calls x y _).mono ?_
  rintro e w' ⟨rfl, ⟨q, rfl⟩⟩
  exact ⟨rfl, q, rfl⟩
theorem sort_calls (W : World) (base g cap : Nat) (xs : List Int) (h : OwnInts W base (.slice (some ⟨g, 0, none⟩) xs.length cap) xs) (hn : xs.length ≤ 17592186044416) :
    Calls Try.prog 90 #[.slice (some ⟨g, 0, none⟩) xs.length cap, .func (.func 89) #[] #[]] W fun e W' => e = .returned (.tuple #[]) ∧
      ∃ ys : List Int, ys.Perm xs ∧ (∀ i j, i < j → j < ys.toArray.size → idxOf ys.toArray[i]! ≤ idxOf ys.toArray[j]!) ∧ OwnInts W' base (.slice (some ⟨g, 0, none⟩) ys.length cap) ys ∧ ys.length = xs.length ∧ W.grownBy W' (some g) := by
  obtain ⟨hH, hg, _, _⟩ := own_holds h
  have hc := Try.slices_SortFunc (Value.int .i64) (fun _ => rfl) byIdx swoIdx 89 #[] g 0 cap xs.toArray W (enters_of Try.func89 (by kernel_rfl) rfl) (cmp_lays _ _ _ _) hH hg (by simp; omega)
  simp only [List.size_toArray] at hc
  refine hc.mono ?_
  rintro e W' ⟨rfl, d', n, os, hp, hs, rfl⟩
  have hl : d'.toList.length = xs.length := by have := hp.1; simpa using this
  have ho := own_put (n := n) (os := os) h hl
  refine ⟨rfl, d'.toList, ?_, ?_, ?_, hl, ?_⟩
  · have := hp.2.2
    have hsz : d'.size = xs.length := by simpa using hl
    rw [← hsz] at this
    simp only [Array.extract_size] at this
    have e2 : (xs.toArray.extract 0 d'.size) = xs.toArray := by
      rw [hsz, show xs.length = xs.toArray.size by simp, Array.extract_size]
    rw [e2] at this
    simpa using this
  · intro i j hij hj
    have hsz : d'.size = xs.length := by simpa using hl
    have := hs i j (Nat.zero_le _) hij (by simpa [hsz] using hj)
    rw [ltIdx] at this
    simp only [Array.toArray_toList]
    simpa using this
  · simpa [sortWorld] using ho.1
  · simpa [sortWorld] using ho.2
theorem compact_calls (W : World) (base g cap : Nat) (zs : List Int) (h : OwnInts W base (.slice (some ⟨g, 0, none⟩) zs.length cap) zs) :
    Calls Try.prog 91 #[.slice (some ⟨g, 0, none⟩) zs.length cap] W fun e W' => e = .returned (.slice (some ⟨g, 0, none⟩) (Go.Lib.compact zs).length cap) ∧
      OwnInts W' base (.slice (some ⟨g, 0, none⟩) (Go.Lib.compact zs).length cap) (Go.Lib.compact zs) ∧ W.grownBy W' (some g) := by
  obtain ⟨hH, hg, hcap, hmx⟩ := own_holds h
  refine (Try.slices_Compact_int g 0 cap zs W hH hmx hcap).mono ?_
  rintro e W' ⟨rfl, q, rfl⟩
  have hle : (Go.Lib.compact zs).length ≤ zs.length := Go.Lib.compact_length_le zs
  have hl : (Go.Lib.compact zs ++ List.replicate (zs.length - (Go.Lib.compact zs).length) (0 : Int)).length = zs.length := by
    rw [List.length_append, List.length_replicate]
    omega
  have ho := own_put (n := q) (os := #[]) h hl
  simp only [grow_empty] at ho
  refine ⟨rfl, ?_, ho.2⟩
  have hcut := own_cut ho.1 (m := (Go.Lib.compact zs).length) (by rw [hl]; exact hle)
  have e3 : (nums .i64 (Go.Lib.compact zs ++ List.replicate (zs.length - (Go.Lib.compact zs).length) (0 : Int))).take (Go.Lib.compact zs).length = nums .i64 (Go.Lib.compact zs) := by
    rw [nums_append, List.take_append_of_le_length (Nat.le_of_eq (nums_length _ _).symm), List.take_of_length_le (Nat.le_of_eq (nums_length _ _))]
  rw [e3] at hcut
  exact hcut

theorem infoI : (Try.prog.info? 3).map (fun i => (i.zero, i.size, i.bytes)) = some (some (.int .i64 0), 1, 8) := by kernel_rfl

set_option maxHeartbeats 4000000 in
set_option maxRecDepth 100000 in
theorem tidy_own (A0 : Option Addr) (c0 : Nat) (l0 : List Int) (w : World) (hr0 : Kd.C (Kd.int .i64) w A0 l0.length l0) (hc0 : l0.length ≤ c0) (hn : l0.length ≤ 17592186044416) :
    Calls Try.prog 80 #[.slice A0 l0.length c0] w fun e w' => ∃ g cap, e = .returned (.slice (some ⟨g, 0, none⟩) (tidyOf l0).length cap) ∧ OwnInts w' w.heap.size (.slice (some ⟨g, 0, none⟩) (tidyOf l0).length cap) (tidyOf l0) ∧ Below w.heap.size w w' := by
  have HR0 := Aside0.mk hr0
  have HN := Aside0.mk hn
  obtain ⟨i0, hi, hz0, hz1, hz2⟩ := info_parts infoI
  have hmk : ∀ u : World, (Instr.makeSlice 43 (.int .i64 0) (.int .i64 (l0.length : Int))).run Try.prog u = .ok (.slice (some ⟨u.heap.size, 0, none⟩) 0 l0.length) (u.alloc (.cells (madeCells #[.int .i64 0] l0.length) 3)) := fun u => by
    have h := run_make (P := Try.prog) (w := u) 43 3 i0 (.int .i64 0) Try.underlying43 hi hz0 .i64 .i64 0 (l0.length : Int) (by omega) (by omega) (by rw [hz2]; omega) (by omega)
    have e : ((l0.length : Int)).toNat = l0.length := by omega
    rw [e] at h
    simpa [hz1, Value.cells] using h
  clear hn hc0 hr0 hi hz0 hz1 hz2
  go_enter Try.func80, Try.ntmps80
  go_wp2
  go_loopw [3, 5, 11] (fun v3 v5 v11 wr => ∃ (k g : Nat) (x : Int), v11 = .int .i64 x ∧ Aside0 (x = k ∧ k ≤ l0.length) ∧ Aside0 (v3.ownBlock = some g) ∧ Aside0 (OwnInts wr w.heap.size v3 ((l0.take k).filter formed)) ∧ Aside0 (Below w.heap.size w wr)) (fun _ _ i _ => l0.length - (intOf i).toNat)
  case atStart =>
    refine ⟨0, w.heap.size, 0, rfl, ⟨rfl, Nat.zero_le _⟩, ⟨rfl⟩, ⟨?_⟩, ⟨(Below.refl _ _).alloc (Nat.le_refl _) _⟩⟩
    exact own_made0 w w.heap.size l0.length 3 (.int .i64 0) (Nat.le_refl _) (by have := HN.out; omega)
  case round =>
    obtain ⟨k, g, x, rfl, HX, HG, HO, HB⟩ := hrel
    obtain ⟨hxk, hk⟩ := HX.out
    by_cases hlt : k < l0.length
    · have p1 : 0 ≤ x := by omega
      have q1 : x < (l0.length : Int) := by omega
      obtain ⟨ad, e1, hcell⟩ := Kd.at_int (Kd.C_below HR0.out HB.out) x p1 q1
      subst e1
      have p2 := eq_true p1
      have q2 := eq_true q1
      have q3 : decide (x < (l0.length : Int)) = true := decide_eq_true q1
      have ht : (l0.take (k + 1)).filter formed = (l0.take k).filter formed ++ (if formed (rd l0 x) = true then [rd l0 x] else []) := by
        rw [hxk, take_rd hlt, List.filter_append]
        cases h : formed (rd l0 k) <;> simp [h]
      have HX2 : Aside0 (wrap64 (x + 1) = ((k + 1 : Nat) : Int) ∧ k + 1 ≤ l0.length) := by
        have := HN.out
        exact ⟨by rw [w64 (by omega) (by omega)]; omega, by omega⟩
      have hm : (intOf (.int .i64 (wrap64 (x + 1)))).toNat = k + 1 := by rw [HX2.out.1]; simp [intOf]
      have hm0 : (intOf (.int .i64 x)).toNat = k := by rw [hxk]; simp [intOf]
      have HM : Aside0 (l0.length - (intOf (.int .i64 (wrap64 (x + 1)))).toNat < l0.length - (intOf (.int .i64 x)).toNat) := ⟨by rw [hm, hm0]; omega⟩
      have HL : Aside0 (((l0.take k).filter formed).length + 1 ≤ 17592186044416) := by
        have h1 := List.length_filter_le formed (l0.take k)
        rw [List.length_take] at h1
        have := HN.out
        exact ⟨by omega⟩
      cases hf : formed (rd l0 x) with
      | false =>
        have F := fun w => formed_calls (rd l0 x) false w hf
        rw [hf] at ht
        simp only [Bool.false_eq_true, if_false, List.append_nil] at ht
        have HT := Aside0.mk ht
        clear ht hf hm hm0 hxk hk hlt p1 q1
        go_wp2_with (go_at_call 86; (with_reducible refine (F _).mono ?_); rintro e w' ⟨rfl, ⟨nd, rfl⟩⟩)
        go_roundw
        case measure => exact HM.out
        case rel => exact ⟨k + 1, g, _, rfl, HX2, HG, ⟨by rw [HT.out]; exact HO.out⟩, ⟨pw_below_drewN HB.out _⟩⟩
      | true =>
        have F := fun w => formed_calls (rd l0 x) true w hf
        rw [hf] at ht
        simp only [if_true] at ht
        have HT := Aside0.mk ht
        clear ht hf hm hm0 hxk hk hlt p1 q1
        generalize hxs : (l0.take k).filter formed = xs at HO HT HL
        clear hxs
        go_wp2_with (first | (go_at_call 86; (with_reducible refine (F _).mono ?_); rintro e w' ⟨rfl, ⟨nd, rfl⟩⟩) | ((with_reducible refine gate_builtin (b := .append) (xs := #[.tmp 17, .tmp 19]) rfl ?_); at_builtin; refine print_append_num (w0 := w) w.heap.size rfl (.tmp 17) (.tmp 19) 43 3 .i64 8 rfl Try.underlying43 infoI (by decide) _ xs (rd l0 x) rfl rfl ?aO ?aB ?aS ?aL ?_; (case aO => exact HO.out); (case aB => exact pw_below_drewN HB.out _); (case aS => exact HB.out.size); (case aL => have := HL.out; omega); intro v1 w1 ho hb hg hat; have HO1 := Aside0.mk ho; have HB1 := Aside0.mk hb; have HG1 := Aside0.mk hat; clear ho hb hg hat))
        go_roundw
        case measure => exact HM.out
        case rel =>
          rcases HG1.out with h | ⟨b, h, _⟩
          · exact ⟨k + 1, g, _, rfl, HX2, ⟨h.trans HG.out⟩, ⟨by rw [HT.out]; exact HO1.out⟩, ⟨HB1.out⟩⟩
          · exact ⟨k + 1, b, _, rfl, HX2, ⟨h⟩, ⟨by rw [HT.out]; exact HO1.out⟩, ⟨HB1.out⟩⟩
    · obtain rfl : k = l0.length := by omega
      have q3 : decide (x < (l0.length : Int)) = false := decide_eq_false (by omega)
      have ho := HO.out
      rw [List.take_length] at ho
      clear HO hxk hk hlt HX
      obtain ⟨xs, hxs⟩ : ∃ xs, xs = l0.filter formed := ⟨_, rfl⟩
      rw [← hxs] at ho
      have HXS := Aside0.mk hxs
      clear hxs
      obtain ⟨cap, rfl⟩ : ∃ cap, u3 = .slice (some ⟨g, 0, none⟩) xs.length cap := by
        rcases ho.2 with ⟨h0, _⟩ | ⟨g', cap', cur, hv, hb, hh, h1, h2, h3, h4⟩
        · have := HG.out
          rw [h0] at this
          cases this
        · have hq := HG.out
          rw [hv] at hq
          injection hq with hq
          subst hq
          exact ⟨_, hv⟩
      have hlen : xs.length ≤ 17592186044416 := by
        have h1 := List.length_filter_le formed l0
        rw [← HXS.out] at h1
        have := HN.out
        omega
      have S := fun W => sort_calls W w.heap.size g cap xs
      have HS := Aside0.mk S
      have HO := Aside0.mk ho
      have HLE := Aside0.mk hlen
      have HBG : Aside0 (w.heap.size ≤ g) := ⟨own_base ho g rfl⟩
      clear S ho hlen
      have e4 : ((l0.take l0.length).filter formed) = xs := by rw [List.take_length, HXS.out]
      go_wp2_with fail
      (with_reducible refine (HS.out _ HO.out HLE.out).mono ?_)
      rintro e w1 ⟨rfl, ys, hp, hs, ho1, hl1, hg1⟩
      have C := fun W h => compact_calls W w.heap.size g cap ys h
      rw [hl1] at C ho1
      have HC := Aside0.mk C
      have HO1 := Aside0.mk ho1
      have HP := Aside0.mk hp
      have HS1 := Aside0.mk hs
      have HB1 : Aside0 (Below w.heap.size w w1) := ⟨HB.out.grown hg1 HB.out.size (fun j hj => by cases hj; exact HBG.out)⟩
      clear C ho1 hp hs hl1 hg1
      go_wp2_with fail
      (with_reducible refine (HC.out _ HO1.out).mono ?_)
      rintro e w2 ⟨rfl, ho2, hg2⟩
      have e5 : Go.Lib.compact ys = tidyOf l0 := by
        have := compact_tidy l0 ys.toArray (by rw [← HXS.out]; exact HP.out) HS1.out
        simpa using this
      have HO2 : Aside0 (OwnInts w2 w.heap.size (.slice (some ⟨g, 0, none⟩) (tidyOf l0).length cap) (tidyOf l0)) := ⟨by rw [← e5]; exact ho2⟩
      have HB2 : Aside0 (Below w.heap.size w w2) := ⟨HB1.out.grown hg2 HB1.out.size (fun j hj => by cases hj; exact HBG.out)⟩
      have E5 := Aside0.mk e5
      clear e5 ho2 hg2
      go_wp2
      go_ret
      exact ⟨g, cap, by rw [← E5.out]; rfl, HO2.out, HB2.out⟩

theorem tidy_calls (A0 : Option Addr) (c0 : Nat) (l0 : List Int) (w : World) (hr0 : Kd.C (Kd.int .i64) w A0 l0.length l0) (hc0 : l0.length ≤ c0) (hn : l0.length ≤ 17592186044416) :
    Calls Try.prog 80 #[.slice A0 l0.length c0] w fun e w' => ∃ v0_ : Value, e = .returned (v0_) ∧ Kd.R (Kd.int .i64) 3 w' w.heap.size (fun _ => True) v0_ (tidyOf l0) ∧ Below w.heap.size w w' :=
  (tidy_own A0 c0 l0 w hr0 hc0 hn).mono fun e w' ⟨g, cap, he, ho, hb⟩ => ⟨_, he, own_R ho, hb⟩

end Go.Proofs.YtggnnnddnppcpaaHand
/-! text YtggnnnddnppcpaaCnfNext -/
namespace Go.Proofs.YtggnnnddnppcpaaMath
/-- so many places counted on; false: that was the last -/
def nextIn : Nat → List Bool → List Bool × Bool
  | 0, m => (m, false)
  | _ + 1, [] => ([], false)
  | _ + 1, false :: m => (true :: m, true)
  | n + 1, true :: m => (false :: (nextIn n m).1, (nextIn n m).2)
end Go.Proofs.YtggnnnddnppcpaaMath
namespace Go.Proofs.YtggnnnddnppcpaaHand
open Go.RowKit Go.Proofs.YtggnnnddnppcpaaW.PrintWords Go.Proofs.YtggnnnddnppcpaaW.PrintLast Go.Proofs.YtggnnnddnppcpaaMath
set_option linter.unusedVariables false
set_option linter.unusedSimpArgs false
/-- sixteen truths in a block -/
def bits (m : List Bool) : Array Value := (m.map Value.bool).toArray

theorem bits_put (i : Nat) (c : Bool) (r : List Bool) : (bits (List.replicate i false ++ c :: r)).setIfInBounds i (.bool !c) = bits (List.replicate i false ++ (!c) :: r) := by
  unfold bits
  simp [List.set_append_right]
theorem grown_set {w wr : World} {b : Nat} (h : w.grownBy wr (some b)) (i : Nat) (u : Value) : w.grownBy (wr.setCell ⟨b, i, none⟩ u).drew (some b) := by
  have h1 := (Below.refl b wr).setCell (p := ⟨b, i, none⟩) (Nat.le_refl _) u
  refine ⟨h1.os.trans h.os, h1.tape.trans h.tape, h1.output.trans h.output, Nat.le_trans h.size h1.size, fun k hk hne => ?_⟩
  have hkb : k ≠ b := fun e => hne (by rw [e])
  exact (Below.heap_setCell wr ⟨b, i, none⟩ u k hkb).trans (h.block k hk hne)

set_option maxHeartbeats 4000000 in
set_option maxRecDepth 100000 in
theorem next_calls (b v : Nat) (m : List Bool) (w : World) (hl : m.length = 16) (hv : v ≤ 16) (hb : w.heap[b]? = some (.cells (bits m) 84 (0, 0))) :
    Calls Try.prog 73 #[.pointer (some ⟨b, 0, none⟩), .int .i64 (v : Int)] w fun e w' => e = .returned (.bool (nextIn v m).2) ∧ w'.heap[b]? = some (.cells (bits (nextIn v m).1) 84 (0, 0)) ∧ w.grownBy w' (some b) := by
  go_enter Try.func73, Try.ntmps73
  go_wp2
  go_loopw [5, 7] (fun _ v7 wr => ∃ (i : Nat) (x : Int) (r : List Bool), v7 = .int .i64 x ∧ Aside0 (x = i ∧ i ≤ v ∧ r.length + i = 16 ∧ (nextIn v m) = (List.replicate i false ++ (nextIn (v - i) r).1, (nextIn (v - i) r).2)) ∧ Aside0 (wr.heap[b]? = some (.cells (bits (List.replicate i false ++ r)) 84 (0, 0))) ∧ Aside0 (w.grownBy wr (some b))) (fun _ i _ => v - (intOf i).toNat)
  case atStart => exact ⟨0, 0, m, rfl, ⟨rfl, Nat.zero_le _, by omega, by simp⟩, ⟨by simpa using hb⟩, ⟨rfl, rfl, rfl, Nat.le_refl _, fun _ _ _ => rfl⟩⟩
  case round =>
    obtain ⟨i, x, r, rfl, HX, HB, HG⟩ := hrel
    obtain ⟨hxi, hi, hr, hn⟩ := HX.out
    by_cases hlt : i < v
    · have p1 : 0 ≤ x := by omega
      have q1 : x < 16 := by omega
      have p2 := eq_true p1
      have q2 := eq_true q1
      have q3 : decide (x < (v : Int)) = true := decide_eq_true (by omega)
      cases r with
      | nil => simp at hr; omega
      | cons c r =>
        have hcell : wr.cell? ⟨b, i, none⟩ = some (.bool c) := by
          refine (blk_cell HB.out i).trans ?_
          simp [bits, List.getElem?_append_right]
        have hfz : wr.frozen? ⟨b, i, none⟩ = false := blk_frozen HB.out _
        have p3 : (0 : Int) ≤ (i : Int) := by omega
        have q4 : (i : Int) < 16 := by omega
        subst hxi
        go_wp2
        go_region
        have HB2 := Aside0.mk (blk_drew (blk_put HB.out i (.bool !c) (bits_put i c r)))
        have HG2 : Aside0 (w.grownBy (wr.setCell ⟨b, i, none⟩ (.bool !c)).drew (some b)) := ⟨grown_set HG.out i _⟩
        have hi2 : i < (List.replicate i false ++ (!c) :: r).length := by simp
        have hcell2 : ((wr.setCell ⟨b, i, none⟩ (.bool !c)).drew).cell? ⟨b, i, none⟩ = some (.bool !c) := by
          refine (blk_cell HB2.out i).trans ?_
          simp [bits, List.getElem?_append_right]
        have HR : Aside0 (r.length + (i + 1) = 16 ∧ i + 1 ≤ v) := ⟨by simp at hr; omega, by omega⟩
        have hvi : v - i = (v - (i + 1)) + 1 := by omega
        rw [hvi] at hn
        generalize (wr.setCell ⟨b, i, none⟩ (.bool !c)).drew = W2 at HB2 HG2 hcell2 ⊢
        have HX2 : Aside0 (wrap64 ((i : Int) + 1) = ((i + 1 : Nat) : Int)) := ⟨by rw [w64 (by omega) (by omega)]; omega⟩
        have hm : (intOf (.int .i64 (wrap64 ((i : Int) + 1)))).toNat = i + 1 := by rw [HX2.out]; simp [intOf]
        have hm0 : (intOf (.int .i64 (i : Int))).toNat = i := by simp [intOf]
        have HMS : Aside0 (v - (intOf (.int .i64 (wrap64 ((i : Int) + 1)))).toNat < v - (intOf (.int .i64 (i : Int))).toNat) := ⟨by rw [hm, hm0]; omega⟩
        cases c with
        | false =>
          have HN : Aside0 (nextIn v m = (List.replicate i false ++ true :: r, true)) := ⟨hn⟩
          clear hn hr HX HB HG hm hm0
          simp only [Bool.not_false] at hcell2 HB2
          go_wp2
          go_ret
          rw [HN.out]
          exact ⟨rfl, HB2.out, HG2.out⟩
        | true =>
          have HN : Aside0 (nextIn v m = (List.replicate (i + 1) false ++ (nextIn (v - (i + 1)) r).1, (nextIn (v - (i + 1)) r).2)) := ⟨by rw [hn, List.replicate_succ']; simp [nextIn]⟩
          have HB3 : Aside0 (W2.heap[b]? = some (.cells (bits (List.replicate (i + 1) false ++ r)) 84 (0, 0))) := by
            have := HB2.out
            rw [List.replicate_succ']
            exact ⟨by simpa using this⟩
          clear hn hr HX HB HG hm hm0
          simp only [Bool.not_true] at hcell2
          go_wp2
          go_roundw
          case measure => first | exact HMS.out | (have := HR.out; simp [intOf]; omega)
          case rel => exact ⟨i + 1, _, r, rfl, ⟨by first | exact HX2.out | omega, HR.out.2, HR.out.1, HN.out⟩, HB3, HG2⟩
    · obtain rfl : i = v := by omega
      have q3 : decide (x < (i : Int)) = false := decide_eq_false (by omega)
      have HN : Aside0 (nextIn i m = (List.replicate i false ++ r, false)) := ⟨by rw [hn, Nat.sub_self]; rfl⟩
      clear hxi hi hr hn hlt HX
      go_wp2
      go_ret
      rw [HN.out]
      exact ⟨rfl, HB.out, HG.out⟩
end Go.Proofs.YtggnnnddnppcpaaHand
/-! text YtggnnnddnppcpaaCnfCount -/
namespace Go.Proofs.YtggnnnddnppcpaaMath
open Go.Proofs.YtggnnnddnppcpaaW.PrintWords
/-- the list of so many truths with that number -/
def counted : Nat → Nat → List Bool
  | 0, _ => []
  | v + 1, n => (n % 2 == 1) :: counted v (n / 2)
theorem counted_length (v n : Nat) : (counted v n).length = v := by
  induction v generalizing n with
  | zero => rfl
  | succ v ih => simp [counted, ih]
theorem counted_zero (v : Nat) : counted v 0 = List.replicate v false := by
  induction v with
  | zero => rfl
  | succ v ih => simp [counted, ih, List.replicate_succ]
theorem next_counted (v n : Nat) (r : List Bool) (hn : n < 2 ^ v) : nextIn v (counted v n ++ r) = (counted v (n + 1) ++ r, decide (n + 1 < 2 ^ v)) := by
  induction v generalizing n with
  | zero =>
    have : n = 0 := by simpa using hn
    subst this
    simp [nextIn, counted]
  | succ v ih =>
    have h2 : 2 ^ (v + 1) = 2 * 2 ^ v := by rw [Nat.pow_succ]; omega
    rcases Nat.mod_two_eq_zero_or_one n with h | h
    · have e1 : (n % 2 == 1) = false := by simp [h]
      have e2 : ((n + 1) % 2 == 1) = true := by simp; omega
      have e3 : (n + 1) / 2 = n / 2 := by omega
      have e4 : n + 1 < 2 ^ (v + 1) := by omega
      simp only [counted, e1, e2, e3, List.cons_append, nextIn, decide_eq_true e4]
    · have e1 : (n % 2 == 1) = true := by simp [h]
      have e2 : ((n + 1) % 2 == 1) = false := by simp; omega
      have e3 : (n + 1) / 2 = n / 2 + 1 := by omega
      have e4 : n / 2 < 2 ^ v := by omega
      have e5 : decide (n / 2 + 1 < 2 ^ v) = decide (n + 1 < 2 ^ (v + 1)) := by
        rw [Bool.eq_iff_iff, decide_eq_true_eq, decide_eq_true_eq]
        omega
      simp only [counted, e1, e2, e3, List.cons_append, nextIn, ih (n / 2) e4, e5]
/-- a list of truths as a number -/
def numOf : List Bool → Nat
  | [] => 0
  | b :: m => (if b = true then 1 else 0) + 2 * numOf m
theorem num_counted (v n : Nat) (hn : n < 2 ^ v) : numOf (counted v n) = n := by
  induction v generalizing n with
  | zero =>
    have : n = 0 := by simpa using hn
    subst this
    rfl
  | succ v ih =>
    have h2 : 2 ^ (v + 1) = 2 * 2 ^ v := by rw [Nat.pow_succ]; omega
    have := ih (n / 2) (by omega)
    rcases Nat.mod_two_eq_zero_or_one n with h | h
    · simp only [counted, numOf, this, h]
      simp
      omega
    · simp only [counted, numOf, this, h]
      simp
      omega
/-- the models among the first so many -/
def modelsTo (v : Nat) (cs : List (List Int)) (k : Nat) : List (List Bool) := ((List.range k).map (counted v)).filter (allIn cs)
def modelsIn (v : Nat) (cs : List (List Int)) : List (List Bool) := modelsTo v cs (2 ^ v)
theorem modelsTo_succ (v : Nat) (cs : List (List Int)) (k : Nat) : modelsTo v cs (k + 1) = modelsTo v cs k ++ (if allIn cs (counted v k) = true then [counted v k] else []) := by
  unfold modelsTo
  rw [List.range_succ, List.map_append, List.filter_append]
  congr 1
  cases h : allIn cs (counted v k) <;> simp [h]
theorem modelsTo_prefix (v : Nat) (cs : List (List Int)) {k n : Nat} (h : k ≤ n) : modelsTo v cs k <+: modelsTo v cs n := by
  induction n with
  | zero =>
    obtain rfl : k = 0 := by omega
    exact List.prefix_refl _
  | succ n ih =>
    rcases Nat.lt_or_ge n k with h1 | h1
    · obtain rfl : k = n + 1 := by omega
      exact List.prefix_refl _
    · rw [modelsTo_succ]
      exact (ih h1).trans (List.prefix_append _ _)
theorem modelsTo_length (v : Nat) (cs : List (List Int)) (k : Nat) : (modelsTo v cs k).length ≤ k := by
  unfold modelsTo
  refine Nat.le_trans (List.length_filter_le _ _) ?_
  simp
theorem modelsTo_mem {v : Nat} {cs : List (List Int)} {k : Nat} {m : List Bool} (h : m ∈ modelsTo v cs k) : m.length = v := by
  unfold modelsTo at h
  rw [List.mem_filter, List.mem_map] at h
  obtain ⟨⟨j, _, rfl⟩, _⟩ := h
  exact counted_length v j
end Go.Proofs.YtggnnnddnppcpaaMath
