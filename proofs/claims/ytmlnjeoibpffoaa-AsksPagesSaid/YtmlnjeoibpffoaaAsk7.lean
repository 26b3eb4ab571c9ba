import Derived.Test.YtmlnjeoibpffoaaAsk6
namespace Go.Proofs.Ytmlnjeoibpffoaa
open Go.RowKit
set_option linter.unusedVariables false
set_option linter.unusedSimpArgs false

theorem blk_newAt {w : World} {g t : Nat} {cs : Array Value} (h : w.heap.size = g) : Blk (w.alloc (.cells cs t)) g t cs := by subst h; exact Blk.new _ _ _
theorem isRep_any (n : Int) (h : 0 ≤ n ∧ n < 4) (w : World) : Calls Try.prog 42 #[.int .i64 n] w (Ret (.bool true) w) := by
  obtain ⟨h1, h2⟩ := h
  go_enter Try.func42, Try.ntmps42
  go_wp2
  all_goals go_ret
  all_goals refine ret_b ?_
  all_goals first | rfl | (simp; omega)

set_option maxHeartbeats 1000000 in
set_option maxRecDepth 100000 in
theorem may_scan {c q node ts n : Int} {Ao Aq : Option Addr} {no co na cq : Nat} {key to : ByteArray} (w : World) (h1 : 0 ≤ node ∧ node < 4) (h2 : key.size ≤ 8) (h3 : to.size ≤ 8) (h4 : 1 ≤ n ∧ n ≤ 32) :
    Calls Try.prog 26 #[.agg #[.int .i64 c, .int .i64 q, .slice Ao no co, .int .i64 2, .int .i64 node, .string key, .string to, .int .u64 ts, .int .i64 n, .slice Aq na cq]] w fun e w' => e = .returned (.bool true) ∧ Bel w.heap.size w w' := by
  obtain ⟨h41, h42⟩ := h4
  have g2 : (key.size : Int) ≤ 8 := by omega
  have g3 : (to.size : Int) ≤ 8 := by omega
  go_enter Try.func26, Try.ntmps26
  go_wp2_with (go_at_call 42; refine (isRep_any _ h1 _).mono ?_; rintro e w1 ⟨rfl, rfl⟩)
  go_ret
  exact ⟨rfl, ((Bel.refl _ w).alloc (Nat.le_refl _) _).alloc (Nat.le_refl _) _⟩

set_option maxHeartbeats 1000000 in
set_option maxRecDepth 100000 in
theorem new_scan {c q node ts n : Int} {Aq : Option Addr} {na cq : Nat} {key to : ByteArray} (w : World) (hc : 0 ≤ c ∧ c < 3) (hq : 1 ≤ q ∧ q ≤ 1073741824) (h1 : 0 ≤ node ∧ node < 4) (h2 : key.size ≤ 8) (h3 : to.size ≤ 8) (h4 : 1 ≤ n ∧ n ≤ 32) :
    Calls Try.prog 8 #[.int .i64 c, .int .i64 q, .agg #[.int .i64 2, .int .i64 node, .string key, .string to, .int .u64 ts, .int .i64 n, .slice Aq na cq]] w fun e w' => ∃ p r, e = .returned (.tuple #[.pointer (some ⟨p, 0, none⟩), .int .i64 0]) ∧
      Blk w' p 77 #[.iface 80 (.pointer (some ⟨r, 0, none⟩)), .int .i64 q, .int .i64 0, .bool false, .int .i64 0, .int .i64 0, .int .u64 0, .int .i64 0, .slice none 0 0] ∧
      Blk w' r 82 #[.int .i64 c, .int .i64 q, .slice none 0 0, .int .i64 2, .int .i64 node, .string key, .string to, .int .u64 ts, .int .i64 n, .slice Aq na cq, .int .u64 ts, .string key, .slice none 0 0] ∧ w.heap.size ≤ p ∧ w.heap.size ≤ r ∧ Bel w.heap.size w w' := by
  obtain ⟨hc1, hc2⟩ := hc
  obtain ⟨hq1, hq2⟩ := hq
  go_enter Try.func8, Try.ntmps8
  go_wp2_with fail
  refine (may_scan _ h1 h2 h3 h4).mono ?_
  rintro e w2 ⟨rfl, hb2⟩
  have hB2 := Lib.hid hb2
  have z0 : Blk w2 w.heap.size 37 #[.int .i64 2, .int .i64 node, .string key, .string to, .int .u64 ts, .int .i64 n, .slice Aq na cq] := hb2.blk ((Blk.new w _ _).alloc _) (by simp; omega)
  have z1 : Blk w2 (w.heap.size + 1) 72 #[.int .i64 c, .int .i64 q, .slice none 0 0, .int .i64 2, .int .i64 node, .string key, .string to, .int .u64 ts, .int .i64 n, .slice Aq na cq] := hb2.blk (by have := Blk.new (w.alloc (.cells #[.int .i64 2, .int .i64 node, .string key, .string to, .int .u64 ts, .int .i64 n, .slice Aq na cq] 37)) 72 #[.int .i64 c, .int .i64 q, .slice none 0 0, .int .i64 2, .int .i64 node, .string key, .string to, .int .u64 ts, .int .i64 n, .slice Aq na cq]; simpa using this) (by simp)
  have d0 := fun i => z0.cell i
  have d1 := fun i => z1.cell i
  have l0 := z0.lt
  have l1 := z1.lt
  clear hb2
  go_wp2_with fail

  go_ret2
  refine ⟨w2.heap.size, w2.heap.size + 1, rfl, ?_, ?_, ?_, ?_, ?_⟩
  · exact (Blk.new w2 _ _).alloc _
  · exact blk_newAt (by simp)
  · omega
  · omega
  · have hb3 : Bel w.heap.size w w2 := Bel.trans (((Bel.refl _ w).alloc (Nat.le_refl _) _).alloc (Nat.le_refl _) _) (hB2.out.mono (by simp; omega))
    exact (hb3.alloc (Nat.le_refl _) _).alloc (Nat.le_refl _) _
end Go.Proofs.Ytmlnjeoibpffoaa
