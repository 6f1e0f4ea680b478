/- What the law LitsFollows' own functions answer. (Over the kit's print of LitsFollows.) -/
import Derived.Test.YtamefocngapkpaaFollowsLib
import Derived.Test.YtamefocngapkpaaTidy
namespace Go.Proofs.YtamefocngapkpaaHand
open Go.RowKit Go.Proofs.YtamefocngapkpaaW.PrintWords Go.Proofs.YtamefocngapkpaaW.PrintLast Go.Proofs.YtamefocngapkpaaMath Go.Proofs.Ytamefocngapkpaa.PLitsFollows
set_option linter.unusedVariables false
set_option linter.unusedSimpArgs false
theorem fsound_calls (A : Option Addr) (c : Nat) (l : List Int) (w : World) (hr : Kd.C (Kd.int .i64) w A l.length l) (hc : l.length ≤ c) (hn : l.length ≤ 17592186044416) :
    Calls Try.prog 34 #[.slice A l.length c] w fun e w' => e = .returned (.bool (sound l)) ∧ Drawn0 w w' := by
  obtain ⟨k, h⟩ := (depotlaw01_sound_ev l hn).rounds
  exact depotlaw01_sound.calls k A c l _ w hr hc h
theorem fwithin_calls (A : Option Addr) (c : Nat) (l : List Int) (x : Int) (w : World) (hr : Kd.C (Kd.int .i64) w A l.length l) (hc : l.length ≤ c) (hn : l.length ≤ 17592186044416) :
    Calls Try.prog 31 #[.slice A l.length c, .int .i64 x] w fun e w' => e = .returned (.bool (l.contains x)) ∧ Drawn0 w w' := by
  obtain ⟨k, h⟩ := (depotlaw01_within_ev l x hn).rounds
  exact depotlaw01_within.calls k A c l x _ w hr hc h
theorem fsame_calls (A B : Option Addr) (c d : Nat) (l m : List Int) (w : World) (hr : Kd.C (Kd.int .i64) w A l.length l) (hc : l.length ≤ c) (hs : Kd.C (Kd.int .i64) w B m.length m) (hd : m.length ≤ d) (hn : l.length ≤ 17592186044416) :
    Calls Try.prog 32 #[.slice A l.length c, .slice B m.length d] w fun e w' => e = .returned (.bool (l == m)) ∧ Drawn0 w w' := by
  obtain ⟨k, h⟩ := (depotlaw01_same_ev l m hn).rounds
  exact depotlaw01_same.calls k A c l B d m _ w hr hc hs hd h
theorem fholds_calls (A B : Option Addr) (c d : Nat) (m : List Bool) (l : List Int) (w : World) (hr : Kd.C Kd.bool w A m.length m) (hc : m.length ≤ c) (hs : Kd.C (Kd.int .i64) w B l.length l) (hd : l.length ≤ d) (hso : sound l = true) (hn : l.length ≤ 17592186044416) :
    Calls Try.prog 36 #[.slice A m.length c, .slice B l.length d] w fun e w' => e = .returned (.bool (l.any (trIn m))) ∧ Drawn0 w w' := by
  obtain ⟨k, h⟩ := (depotlaw01_holds_ev m l hso hn).rounds
  exact depotlaw01_holds.calls k A c m B d l _ w hr hc hs hd h
theorem fcopied_calls (A : Option Addr) (c : Nat) (l : List Int) (w : World) (hr : Kd.C (Kd.int .i64) w A l.length l) (hc : l.length ≤ c) (hn : l.length < 17592186044416) :
    Calls Try.prog 24 #[.slice A l.length c] w fun e w' => ∃ v : Value, e = .returned v ∧ Kd.R (Kd.int .i64) 3 w' w.heap.size (fun _ => True) v l ∧ Below w.heap.size w w' :=
  depotlaw01_copied.calls A c l l w hr hc (depotlaw01_copied_eq hn)
theorem fwithin_q {n : Nat} (A : Option Addr) (c : Nat) (l : List Int) (x : Int) (w : World) (q : Nat) (hr : Kd.C (Kd.int .i64) w A l.length l) (hc : l.length ≤ c) (hn : l.length ≤ 17592186044416) :
    CallsIn Fence.wide n Try.prog 31 #[.slice A l.length c, .int .i64 x] (w.drewN q) fun e w' => e = .returned (.bool (l.contains x)) ∧ ∃ m, w' = w.drewN m :=
  (callsIn_wide.2 (fwithin_calls A c l x (w.drewN q) (Kd.C_below hr (pw_below_drewN (Below.refl _ _) _)) hc hn)).mono fun e w' h => by
    obtain ⟨h, m, e⟩ := h
    exact ⟨h, q + m, by rw [e, World.drewN_drewN]⟩
end Go.Proofs.YtamefocngapkpaaHand
