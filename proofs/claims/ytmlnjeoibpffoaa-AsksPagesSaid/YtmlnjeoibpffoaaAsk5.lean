import Derived.Test.YtmlnjeoibpffoaaAsk4
namespace Go.Proofs.Ytmlnjeoibpffoaa
open Go.RowKit
set_option linter.unusedVariables false
set_option linter.unusedSimpArgs false

theorem meth_from (W : World) (a : Addr) : (method 255 80 (.pointer (some a)) "catena/asks.from").run Try.prog W = .ok (89, .pointer (some a)) W := by kernel_rfl
theorem meth_take (W : World) (a : Addr) : (method 255 80 (.pointer (some a)) "catena/asks.take").run Try.prog W = .ok (92, .pointer (some a)) W := by kernel_rfl
theorem meth_next (W : World) (a : Addr) : (method 255 80 (.pointer (some a)) "catena/asks.next").run Try.prog W = .ok (90, .pointer (some a)) W := by kernel_rfl
theorem taskNone_r {q waits : Int} {dn : Bool} {c4 c5 c6 c7 c8 : Value} (p r : Nat) (w : World) (hP : Blk w p 77 #[.iface 80 (.pointer (some ⟨r, 0, none⟩)), .int .i64 q, .int .i64 waits, .bool dn, c4, c5, c6, c7, c8]) :
    Calls Try.prog 27 #[.pointer (some ⟨p, 0, none⟩)] w (Ret (.bool false) w) := by
  have hcp := fun i => hP.cell i
  go_enter Try.func27, Try.ntmps27
  go_wp2_with fail
  go_ret
  exact ⟨rfl, rfl⟩

set_option maxHeartbeats 2000000 in
set_option maxRecDepth 100000 in
theorem taskTake_page {c q : Int} {Ao : Option Addr} {no co : Nat} {a : AskD} {Aq : Option Addr} {na cq : Nat} {ts : Int} {key : ByteArray} {A : Option Addr} {n cap : Nat} {B : Nat} {waits : Int} {S : Nat → Prop} {pA : Option Addr} {pn pk : Nat} (p r : Nat) (w : World) (m : MV) (mps prs : List PairD)
    (hP : Blk w p 77 #[.iface 80 (.pointer (some ⟨r, 0, none⟩)), .int .i64 q, .int .i64 waits, .bool false, .int .i64 0, .int .i64 0, .int .u64 0, .int .i64 0, .slice none 0 0]) (hR : Blk w r 82 #[.int .i64 c, .int .i64 q, .slice Ao no co, .int .i64 a.k, .int .i64 a.node, .string a.key, .string a.to, .int .u64 a.ts, .int .i64 a.n, .slice Aq na cq, .int .u64 ts, .string key, .slice A n cap]) (ho : SlO PairD.enc B 27 2 w A n cap prs) (hm : SlR PairD.enc S w pA pn mps)
    (hS : ∀ b, S b → b < w.heap.size ∧ A.map (·.block) ≠ some b ∧ b ≠ p ∧ b ≠ r) (hmc : pn ≤ pk) (hmn : pn ≤ 1000000000) (ha : (n : Int) < a.n) (ha2 : a.n ≤ 32) (ln : Nat) (hln : (ln : Int) = min (pn : Int) (pageSize a.n n)) (hk2 : (a.k == 2) = true) (hk3 : (a.k != 2) = false) (hB : B ≤ w.heap.size) :
    Calls Try.prog 13 #[.pointer (some ⟨p, 0, none⟩), .int .i64 a.node, .agg #[.int .i64 10, .int .i64 m.ep, .int .i64 q, .int .i64 m.ser, .bool m.fl, .int .u64 ts, .int .u64 m.last, .int .i64 m.n, .int .i64 m.m, .int .i64 m.p, .int .i64 m.e, .string key, .string m.to, .int .i64 m.ce, .slice m.cA m.cn m.cc, .int .u64 m.cf, .int .i64 m.bc, .int .i64 m.bq, .slice m.bA m.bn m.bk, .slice m.eA m.en m.ek, .slice m.sA m.sn m.sk, .slice pA pn pk]] w fun e w' => e = .returned (.bool (pMore m.fl a.n (n + ln) (mps.take ln))) ∧
      PageW B p r w #[.iface 80 (.pointer (some ⟨r, 0, none⟩)), .int .i64 q, .int .i64 0, .bool false, .int .i64 0, .int .i64 0, .int .u64 0, .int .i64 0, .slice none 0 0] (fun A' c' => #[.iface 80 (.pointer (some ⟨r, 0, none⟩)), .int .i64 q, .int .i64 0, .bool true, .int .i64 q, .int .i64 0, .int .u64 ts, .int .i64 0, .slice A' (n + ln) c']) (fun A' c' => #[.int .i64 c, .int .i64 q, .slice Ao no co, .int .i64 a.k, .int .i64 a.node, .string a.key, .string a.to, .int .u64 a.ts, .int .i64 a.n, .slice Aq na cq, .int .u64 ts, .string (lastKey (mps.take ln)), .slice A' (n + ln) c']) (pMore m.fl a.n (n + ln) (mps.take ln)) A (n + ln) (prs ++ mps.take ln) w' := by
  have HO := Lib.hid ho
  have HM := Lib.hid hm
  have HS := Lib.hid hS
  have hcp := fun i => hP.cell i
  have hcr := fun i => hR.cell i
  have lp := hP.lt
  have lr := hR.lt
  have HLN := Lib.hid hln
  clear ho hm hS hln
  have hmf := meth_from
  have hmt := meth_take
  go_enter Try.func13, Try.ntmps13
  go_wp2_with fail
  go_quiet ((first | (go_at_call 27; exact Calls.quiet_of_same ((taskNone_r p r _ (by repeat (with_reducible first | exact hP | apply Blk.drew | apply Blk.drewN | apply Blk.alloc))).mono fun _ _ h => ⟨h.1, h.2.symm⟩)) | (go_at_call 89; exact Calls.quiet_of_same ((readingFrom_any r _ _ (by repeat (with_reducible first | exact hR | apply Blk.drew | apply Blk.drewN | apply Blk.alloc))).mono fun _ _ h => ⟨h.1, h.2.symm⟩))))
  go_wp2_with fail
  refine wp_quiet_tail 6 (by kernel_rfl) (by kernel_rfl) ?_
  simp only [List.take_succ_cons, List.take_zero, List.drop_succ_cons, List.drop_zero]
  repeat (any_goals (first | (refine wpQuiet_get rfl 52 (.tmp 5) rfl rfl (g := w.heap.size) (t := 52) (cs := #[.int .i64 10, .int .i64 m.ep, .int .i64 q, .int .i64 m.ser, .bool m.fl, .int .u64 ts, .int .u64 m.last, .int .i64 m.n, .int .i64 m.m, .int .i64 m.p, .int .i64 m.e, .string key, .string m.to, .int .i64 m.ce, .slice m.cA m.cn m.cc, .int .u64 m.cf, .int .i64 m.bc, .int .i64 m.bq, .slice m.bA m.bn m.bk, .slice m.eA m.en m.ek, .slice m.sA m.sn m.sk, .slice pA pn pk]) (by repeat (with_reducible first | exact Blk.new _ _ _ | apply Blk.drew | apply Blk.drewN | apply Blk.alloc)) rowMsg ?_) | (go_big_quiet_step (fail))))
  refine wpQuiet_nil ?_
  intro wq hwq
  obtain ⟨mq, rfl⟩ := hwq
  go_wp2_with fail
  refine (take_page (ts := ts) (key := key) (a := a) (c := c) (q := q) (ph := .iface 80 (.pointer (some ⟨r, 0, none⟩))) (waits := waits) (S := S) p r _ { m with req := q } mps prs (by repeat (with_reducible first | exact hP | apply Blk.drew | apply Blk.drewN | apply Blk.alloc)) (by repeat (with_reducible first | exact hR | apply Blk.drew | apply Blk.drewN | apply Blk.alloc)) (by repeat (with_reducible first | exact HO.out | apply SlO.drew | apply SlO.drewN | apply SlO.alloc)) (by repeat (with_reducible first | exact HM.out | apply SlR.drew | apply SlR.drewN | exact SlR.alloc HM.out (fun b hb => (HS.out b hb).1) _)) (by intro b hb; have hh := HS.out b hb; exact ⟨Nat.lt_of_lt_of_le hh.1 (by simp), hh.2⟩) hmc hmn ha ha2 ln HLN.out hk2 hk3 (by simp; omega)).mono ?_
  rintro e w2 ⟨rfl, hw2⟩
  go_wp2_with fail
  go_ret
  exact ⟨rfl, hw2.base (by repeat (first | (with_reducible exact Chg.refl _ _) | (with_reducible apply Chg.drew) | (with_reducible apply Chg.drewN) | (with_reducible apply Chg.alloc) | (with_reducible apply Chg.setCell; rotate_left; (first | exact .inl rfl | exact .inr (Nat.le_refl _)))))⟩
end Go.Proofs.Ytmlnjeoibpffoaa
