/- mess: the parts of a kind. -/
import Derived.Test.YtmlnjeoibpffoaaGreatMess1
import Derived.Test.YtmlnjeoibpffoaaGreatIter
import Derived.LoopN
namespace Go.Proofs.YtmlnjeoibpffoaaGreat
open Go.RowKit
set_option linter.unusedVariables false
set_option linter.unusedSimpArgs false

set_option maxHeartbeats 1000000 in
set_option maxRecDepth 100000 in
theorem parts_11 (w : World) :
    Calls Tryz.prog 61 #[.int .i64 11] w (RetB (.tuple #[.string ⟨#[114, 97]⟩, .bool true]) w) := by
  go_enter Tryz.func61, Tryz.ntmps61
  go_wp2_with fail
  go_ret2
  exact ⟨rfl, (Bel.refl _ _).alloc (Nat.le_refl _) _⟩

set_option maxHeartbeats 1000000 in
set_option maxRecDepth 100000 in
theorem check_11 (m : MV) (pA : Option Addr) (pn pk : Nat) (w : World) (h0 : 0 ≤ m.req) (h1 : m.req ≤ 1073741824) :
    Calls Tryz.prog 66 #[.agg #[.int .i64 11, .int .i64 m.ep, .int .i64 m.req, .int .i64 m.ser, .bool m.fl, .int .u64 m.ts, .int .u64 m.last, .int .i64 m.n, .int .i64 m.m, .int .i64 m.p, .int .i64 m.e, .string m.key, .string m.to, .int .i64 m.ce, .slice m.cA m.cn m.cc, .int .u64 m.cf, .int .i64 m.bc, .int .i64 m.bq, .slice m.bA m.bn m.bk, .slice m.eA m.en m.ek, .slice m.sA m.sn m.sk, .slice pA pn pk]] w (RetB (.int .i64 0) w) := by
  go_enter Tryz.func66, Tryz.ntmps66
  go_wp2_with (go_at_call 61; refine (parts_11 _).mono ?_; rintro e w1 ⟨rfl, hb⟩; have HB1 := Lib.hid hb; clear hb)
  have HM0 : Hid (Blk (w1.iter ⟨#[114, 97]⟩ 0) w.heap.size 57 #[.int .i64 11, .int .i64 m.ep, .int .i64 m.req, .int .i64 m.ser, .bool m.fl, .int .u64 m.ts, .int .u64 m.last, .int .i64 m.n, .int .i64 m.m, .int .i64 m.p, .int .i64 m.e, .string m.key, .string m.to, .int .i64 m.ce, .slice m.cA m.cn m.cc, .int .u64 m.cf, .int .i64 m.bc, .int .i64 m.bq, .slice m.bA m.bn m.bk, .slice m.eA m.en m.ek, .slice m.sA m.sn m.sk, .slice pA pn pk]) := Lib.hid ((HB1.out.blk (Blk.new w _ _) (lt_al _)).alloc _)
  have HI0 : Hid (It (w1.iter ⟨#[114, 97]⟩ 0) w1.heap.size ⟨#[114, 97]⟩ 0) := Lib.hid (It.new _ _)
  have HW0 : Hid (Bel w.heap.size w (w1.iter ⟨#[114, 97]⟩ 0)) := Lib.hid ((((Bel.refl _ w).alloc (Nat.le_refl _) _).call HB1.out (Nat.le_refl _)).alloc (Nat.le_refl _) _)
  have lk : w.heap.size < w1.heap.size := Nat.lt_of_lt_of_le (lt_al _) HB1.out.size
  refine wp_loop_rounds 3 ?_
  rw [rounds_succ]
  go_wp2_with (first | (refine wpList_next rfl (.tmp 17) rfl w1.heap.size ⟨#[114, 97]⟩ 0 114 rfl ?_ rfl (by decide) ?_; exact HI0.out; intro wa0 hi hc hs; have HJ0 := Lib.hid hi; have HN0 := Lib.hid (hc.blk HM0.out (Nat.ne_of_lt lk)); have HV0 := Lib.hid (HW0.out.trans (hc.bel HW0.out.size (fun b e => by omega))); clear hi hc hs) | (refine wpList_get rfl 57 (.tmp 1) rfl (g := w.heap.size) (t := 57) (cs := #[.int .i64 11, .int .i64 m.ep, .int .i64 m.req, .int .i64 m.ser, .bool m.fl, .int .u64 m.ts, .int .u64 m.last, .int .i64 m.n, .int .i64 m.m, .int .i64 m.p, .int .i64 m.e, .string m.key, .string m.to, .int .i64 m.ce, .slice m.cA m.cn m.cc, .int .u64 m.cf, .int .i64 m.bc, .int .i64 m.bq, .slice m.bA m.bn m.bk, .slice m.eA m.en m.ek, .slice m.sA m.sn m.sk, .slice pA pn pk]) ?_ ?_ rowMsg ?_; rfl; exact HN0.out))
  refine (wrong_r { m with k := 11 } pA pn pk _ h0 h1).mono ?_
  rintro e wb0 ⟨rfl, hb⟩
  have HM1 := Lib.hid (hb.blk HN0.out HN0.out.lt)
  have HI1 := Lib.hid (HJ0.out.bel hb HJ0.out.lt)
  have HW1 := Lib.hid (HV0.out.call hb (Nat.le_refl _))
  clear hb HM0 HI0 HW0 HJ0 HN0 HV0
  go_wp2_with fail
  rw [rounds_succ]
  go_wp2_with (first | (refine wpList_next rfl (.tmp 17) rfl w1.heap.size ⟨#[114, 97]⟩ 1 97 rfl ?_ rfl (by decide) ?_; exact HI1.out; intro wa1 hi hc hs; have HJ1 := Lib.hid hi; have HN1 := Lib.hid (hc.blk HM1.out (Nat.ne_of_lt lk)); have HV1 := Lib.hid (HW1.out.trans (hc.bel HW1.out.size (fun b e => by omega))); clear hi hc hs) | (refine wpList_get rfl 57 (.tmp 1) rfl (g := w.heap.size) (t := 57) (cs := #[.int .i64 11, .int .i64 m.ep, .int .i64 m.req, .int .i64 m.ser, .bool m.fl, .int .u64 m.ts, .int .u64 m.last, .int .i64 m.n, .int .i64 m.m, .int .i64 m.p, .int .i64 m.e, .string m.key, .string m.to, .int .i64 m.ce, .slice m.cA m.cn m.cc, .int .u64 m.cf, .int .i64 m.bc, .int .i64 m.bq, .slice m.bA m.bn m.bk, .slice m.eA m.en m.ek, .slice m.sA m.sn m.sk, .slice pA pn pk]) ?_ ?_ rowMsg ?_; rfl; exact HN1.out))
  refine (wrong_a { m with k := 11 } pA pn pk _ ).mono ?_
  rintro e wb1 ⟨rfl, hb⟩
  have HM2 := Lib.hid (hb.blk HN1.out HN1.out.lt)
  have HI2 := Lib.hid (HJ1.out.bel hb HJ1.out.lt)
  have HW2 := Lib.hid (HV1.out.call hb (Nat.le_refl _))
  clear hb HM1 HI1 HW1 HJ1 HN1 HV1
  go_wp2_with fail
  rw [rounds_succ]
  go_wp2_with (refine wpList_next_end rfl (.tmp 17) rfl w1.heap.size ⟨#[114, 97]⟩ 2 rfl ?_ (by decide) ?_; exact HI2.out)
  go_ret
  exact ⟨rfl, HW2.out⟩

end Go.Proofs.YtmlnjeoibpffoaaGreat
