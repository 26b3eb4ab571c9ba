import Derived.Test.YtmlnjeoibpffoaaGreatAsk0
import Derived.Test.YtmlnjeoibpffoaaGreatTail
namespace Go.Proofs.YtmlnjeoibpffoaaGreat
open Go.RowKit

set_option maxHeartbeats 1000000 in
theorem readingSize_any {c q : Int} {Ao : Option Addr} {no co : Nat} {a : AskD} {Aq : Option Addr} {na cq : Nat} {ts : Int} {key : ByteArray} {A : Option Addr} {n cap : Nat} (r : Nat) (w : World)
    (hB : Blk w r 114 #[.int .i64 c, .int .i64 q, .slice Ao no co, .int .i64 a.k, .int .i64 a.node, .string a.key, .string a.to, .int .u64 a.ts, .int .i64 a.n, .slice Aq na cq, .int .u64 ts, .string key, .slice A n cap]) (hn : n ≤ 1000000000) (ha : 0 ≤ a.n ∧ a.n ≤ 32) :
    Calls Tryz.prog 211 #[.pointer (some ⟨r, 0, none⟩)] w fun e w' => e = .returned (.int .i64 (pageSize a.n n)) ∧ ∃ m, w' = w.drewN m := by
  have hc := fun i => hB.cell i
  obtain ⟨ha1, ha2⟩ := ha
  go_enter Tryz.func211, Tryz.ntmps211
  go_wp2_with fail
  go_quiet (fail)
  go_wp2_with fail
  all_goals go_ret
  · exact ⟨reti (by unfold pageSize; rw [if_neg (by omega)]), _, rfl⟩
  · exact ⟨reti (by unfold pageSize; rw [if_pos (by omega)]), _, rfl⟩

theorem readingFrom_any {c q : Int} {Ao : Option Addr} {no co : Nat} {a : AskD} {Aq : Option Addr} {na cq : Nat} {ts : Int} {key : ByteArray} {A : Option Addr} {n cap : Nat} (r : Nat) (w : World) (node : Int)
    (hB : Blk w r 114 #[.int .i64 c, .int .i64 q, .slice Ao no co, .int .i64 a.k, .int .i64 a.node, .string a.key, .string a.to, .int .u64 a.ts, .int .i64 a.n, .slice Aq na cq, .int .u64 ts, .string key, .slice A n cap]) :
    Calls Tryz.prog 209 #[.pointer (some ⟨r, 0, none⟩), .int .i64 node] w fun e w' => e = .returned (.bool (node == a.node)) ∧ w = w' := by
  have hc := fun i => hB.cell i
  go_enter Tryz.func209, Tryz.ntmps209
  go_wp2_with fail
  go_ret
  exact ⟨rfl, rfl⟩

set_option maxHeartbeats 1000000 in
set_option maxRecDepth 100000 in
theorem readingNext_scan {c q : Int} {Ao : Option Addr} {no co : Nat} {a : AskD} {Aq : Option Addr} {na cq : Nat} {ts : Int} {key : ByteArray} {A : Option Addr} {n cap : Nat} (r : Nat) (w : World) (ep hd : Int)
    (hB : Blk w r 114 #[.int .i64 c, .int .i64 q, .slice Ao no co, .int .i64 a.k, .int .i64 a.node, .string a.key, .string a.to, .int .u64 a.ts, .int .i64 a.n, .slice Aq na cq, .int .u64 ts, .string key, .slice A n cap]) (hn : n ≤ 1000000000) (ha : 0 ≤ a.n ∧ a.n ≤ 32) (hk : (a.k == 2) = true) :
    Calls Tryz.prog 210 #[.pointer (some ⟨r, 0, none⟩), .int .i64 ep, .int .i64 hd] w fun e w' => e = .returned (.tuple #[.int .i64 a.node, .agg #[.int .i64 9, .int .i64 0, .int .i64 q, .int .i64 0, .bool false, .int .u64 ts, .int .u64 0, .int .i64 (pageSize a.n n), .int .i64 0, .int .i64 0, .int .i64 0, .string key, .string a.to, .int .i64 0, .slice none 0 0, .int .u64 0, .int .i64 0, .int .i64 0, .slice none 0 0, .slice none 0 0, .slice none 0 0, .slice none 0 0]]) ∧ Bel w.heap.size w w' := by
  have hc := fun i => hB.cell i
  have hlt := hB.lt
  go_enter Tryz.func210, Tryz.ntmps210
  go_wp2_with fail
  refine wp_quiet_tail 30 (by kernel_rfl) (by kernel_rfl) ?_
  simp only [List.take_succ_cons, List.take_zero, List.drop_succ_cons, List.drop_zero]
  repeat (any_goals (go_big_quiet_step ((go_at_call 211; exact Calls.quiet_of (readingSize_any r _ (by exact hB.alloc _) hn ha)))))
  refine wpQuiet_nil ?_
  intro w1 hw1
  obtain ⟨m, rfl⟩ := hw1
  refine wpList_put _ rfl 57 _ _ rfl w.heap.size _ rfl rfl (Blk.drewN (Blk.new _ _ _) _) (by kernel_rfl) rfl (by simp [Value.oneCell']) ?_
  intro w2 hB2 hc2 hsz
  go_wp2_with fail
  go_wp2_with fail
  exact ret_tc Tryz.results210 rfl hB2 rowMsg rfl ⟨rfl, (((Bel.refl _ _).alloc (Nat.le_refl _) _).trans (hc2.bel (by simp) (fun b e => by simp [e])))⟩
end Go.Proofs.YtmlnjeoibpffoaaGreat
