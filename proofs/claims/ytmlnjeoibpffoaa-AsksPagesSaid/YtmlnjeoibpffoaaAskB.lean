import Derived.Test.YtmlnjeoibpffoaaAskA
namespace Go.Proofs.Ytmlnjeoibpffoaa
open Go.RowKit
set_option linter.unusedVariables false
set_option linter.unusedSimpArgs false

set_option maxHeartbeats 1000000 in
set_option maxRecDepth 100000 in
theorem asksPages_out (A : Option Addr) (n cap : Nat) (f t : ByteArray) (k : Int) (w : World) (h : ¬ (n ≤ 60 ∧ f.size ≤ 8 ∧ t.size ≤ 8)) :
    Calls Try.prog 3 #[.slice A n cap, .string f, .string t, .int .u8 k] w fun e w' => e = .returned (.bool true) ∧ Bel w.heap.size w w' := by
  by_cases h1 : n ≤ 60
  · have g1 : (n : Int) ≤ 60 := by omega
    by_cases h2 : f.size ≤ 8
    · have g2 : (f.size : Int) ≤ 8 := by omega
      have h3 : ¬ t.size ≤ 8 := fun e => h ⟨h1, h2, e⟩
      have g3 : ¬ (t.size : Int) ≤ 8 := by omega
      clear h
      go_enter Try.func3, Try.ntmps3
      go_wp2_with (go_at_call 5; refine (awake_any _).mono ?_; rintro e w5 ⟨rfl, hb9⟩; have HB9 := Lib.hid hb9; clear hb9)
      go_ret
      exact ⟨rfl, HB9.out⟩
    · have g2 : ¬ (f.size : Int) ≤ 8 := by omega
      clear h
      go_enter Try.func3, Try.ntmps3
      go_wp2_with (go_at_call 5; refine (awake_any _).mono ?_; rintro e w5 ⟨rfl, hb9⟩; have HB9 := Lib.hid hb9; clear hb9)
      go_ret
      exact ⟨rfl, HB9.out⟩
  · have g1 : ¬ (n : Int) ≤ 60 := by omega
    clear h
    go_enter Try.func3, Try.ntmps3
    go_wp2_with (go_at_call 5; refine (awake_any _).mono ?_; rintro e w5 ⟨rfl, hb9⟩; have HB9 := Lib.hid hb9; clear hb9)
    go_ret
    exact ⟨rfl, HB9.out⟩
theorem asksPages_all (A : Option Addr) (n cap : Nat) (xs : List PairD) (f t : ByteArray) (k : Int) (w : World) (hs : SlR PairD.enc (· < w.heap.size) w A n xs) (hk : 0 ≤ k ∧ k < 256) :
    Calls Try.prog 3 #[.slice A n cap, .string f, .string t, .int .u8 k] w fun e w' => e = .returned (.bool true) ∧ Bel w.heap.size w w' := by
  by_cases h : n ≤ 60 ∧ f.size ≤ 8 ∧ t.size ≤ 8
  · exact asksPages_any A n cap xs f t k w hs hk h.1 h.2.1 h.2.2
  · exact asksPages_out A n cap f t k w h
end Go.Proofs.Ytmlnjeoibpffoaa
