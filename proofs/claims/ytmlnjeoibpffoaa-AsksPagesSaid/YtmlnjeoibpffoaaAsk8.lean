import Derived.Test.YtmlnjeoibpffoaaAsk7
import Derived.Laws.StructEq
namespace Go.Proofs.Ytmlnjeoibpffoaa
open Go.RowKit
set_option linter.unusedVariables false
set_option linter.unusedSimpArgs false

def keyOk (s : ByteArray) : Bool := decide (1 ≤ s.size) && decide (s.size ≤ 8)
def keyCode (s : ByteArray) : Int := if keyOk s = true then 0 else 10
theorem refCheck_any (s : ByteArray) (w : World) :
    Calls Try.prog 6 #[.string s] w (Ret (.int .i64 (keyCode s)) w) := by
  go_enter Try.func6, Try.ntmps6
  go_wp2
  all_goals go_ret
  all_goals refine ret_i ?_
  all_goals unfold keyCode keyOk
  all_goals simp only [Bool.and_eq_true, decide_eq_true_eq] at *
  all_goals split <;> first | rfl | omega

/-- is the key among those from .. to? -/
def between (from_ to k : ByteArray) : Bool := !bless k from_ && (decide (to.size = 0) || bless k to)
theorem refIn_any (k f t : ByteArray) (w : World) :
    Calls Try.prog 9 #[.string k, .string f, .string t] w (Ret (.bool (between f t k)) w) := by
  go_enter Try.func9, Try.ntmps9
  go_wp2
  all_goals go_ret
  all_goals refine ret_b ?_
  all_goals unfold between bless
  all_goals simp_all [isEmpty_iff, toList_nil]
  all_goals first | done | (rename_i h2; simp [h2] at *)

set_option maxHeartbeats 1000000 in
theorem samePairs_any {S S' : Nat → Prop} (A A2 : Option Addr) (n c n2 c2 : Nat) (xs : List PairD) (w : World) (h1 : SlR PairD.enc S w A n xs) (h2 : SlR PairD.enc S' w A2 n2 xs) (hS : ∀ b, S b → b < w.heap.size) (hS' : ∀ b, S' b → b < w.heap.size) (hn : n ≤ 1000000000) :
    Calls Try.prog 11 #[.slice A n c, .slice A2 n2 c2] w (RetB (.bool true) w) := by
  have e : n2 = n := by rw [h1.1, h2.1]
  subst e
  have H1 := Lib.hid h1
  have H2 := Lib.hid h2
  have HS := Lib.hid hS
  have HS' := Lib.hid hS'
  clear h1 h2 hS hS'
  go_enter Try.func11, Try.ntmps11
  go_wp2_with fail
  go_loopw [5] (fun v wr => ∃ i : Nat, i ≤ n2 ∧ v = .int .i64 i ∧ Hid (∃ m, wr = w.drewN m)) (fun v _ => n2 - (intOf v).toNat)
  case atStart => exact ⟨0, by omega, rfl, Lib.hid ⟨0, rfl⟩⟩
  case round =>
    obtain ⟨i, hi, rfl, hw⟩ := hrel
    by_cases hlt : i < n2
    · obtain ⟨b1, o1, x, rfl, hb1, hx, k1, v1⟩ := H1.out.pair hlt
      obtain ⟨b2, o2, x2, rfl, hb2, hx2, k2, v2⟩ := H2.out.pair hlt
      obtain rfl : x2 = x := by rw [hx] at hx2; injection hx2 with e; exact e.symm
      have lb1 := HS.out _ hb1
      have lb2 := HS'.out _ hb2
      obtain ⟨m, hm⟩ := hw.out
      subst hm
      clear hw
      go_wp2_with fail
      go_quiet (fail)
      go_wp2_with fail
      go_roundw
      case rel => exact ⟨i + 1, by omega, by go_num, Lib.hid ⟨_, rfl⟩⟩
      case measure => simp [intOf]; omega
    · have : i = n2 := by omega
      subst this
      obtain ⟨m, hm⟩ := hw.out
      subst hm
      clear hw
      go_wp2_with fail
      go_ret
      exact ⟨rfl, (Bel.refl _ w).drewN _⟩
end Go.Proofs.Ytmlnjeoibpffoaa
