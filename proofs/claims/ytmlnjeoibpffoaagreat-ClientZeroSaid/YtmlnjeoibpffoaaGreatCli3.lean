/- client: the law ClientZero, walked. -/
import Derived.Test.YtmlnjeoibpffoaaGreatCli2
namespace Go.Proofs.YtmlnjeoibpffoaaGreat
open Go.RowKit
set_option linter.unusedVariables false
set_option linter.unusedSimpArgs false

set_option maxHeartbeats 4000000 in
set_option maxRecDepth 100000 in
theorem clientZero_any {ak node ts n : Int} {Aq : Option Addr} {na cq : Nat} {key to : ByteArray} (x : Int) (s : ByteArray) (w : World) :
    Calls Tryz.prog 5 #[.int .i64 x, .agg #[.int .i64 ak, .int .i64 node, .string key, .string to, .int .u64 ts, .int .i64 n, .slice Aq na cq], .string s] w (RetB (.bool true) w) := by
  go_enter Tryz.func5, Tryz.ntmps5
  go_wp2_with fail
  refine (few35_one (w.heap.size + 1) _ (Blk.newAt (by simp))).mono ?_
  rintro e w1 ⟨⟨b, rfl⟩, rfl⟩
  have HE0 : Hid (Bel w.heap.size w ((w.alloc (.cells #[.int .i64 ak, .int .i64 node, .string key, .string to, .int .u64 ts, .int .i64 n, .slice Aq na cq] 39)).alloc (.cells #[.int .i64 0, .int .i64 ak, .int .i64 node, .string key, .string to, .int .u64 ts, .int .i64 n, .slice Aq na cq, .int .i64 0, .string s] 41))) := Lib.hid (((Bel.refl _ w).alloc (Nat.le_refl _) _).alloc (Nat.le_refl _) _)
  cases b
  · go_wp2_with fail
    refine (awake35_any _).mono ?_
    rintro e w2 ⟨rfl, hb⟩
    have HE := Lib.hid (HE0.out.call hb (Nat.le_refl _))
    clear hb
    go_wp2_with fail
    go_ret
    exact ⟨rfl, HE.out⟩
  · go_wp2_with fail
    have HA0 : Hid (Blk (((w.alloc (.cells #[.int .i64 ak, .int .i64 node, .string key, .string to, .int .u64 ts, .int .i64 n, .slice Aq na cq] 39)).alloc (.cells #[.int .i64 0, .int .i64 ak, .int .i64 node, .string key, .string to, .int .u64 ts, .int .i64 n, .slice Aq na cq, .int .i64 0, .string s] 41)).alloc (.cells #[.int .i64 0, .int .i64 0, .int .i64 0, .int .i64 0, .pointer none, .int .i64 0, .int .i64 0, .int .u64 0, .int .i64 0, .slice none 0 0, .bool false, .bool false, .int .i64 0, .bool false] 71)) w.heap.size 39 #[.int .i64 ak, .int .i64 node, .string key, .string to, .int .u64 ts, .int .i64 n, .slice Aq na cq]) := Lib.hid (((Blk.new _ _ _).alloc _).alloc _)
    have HZ0 : Hid (ZeroC (.pointer (some ⟨w.heap.size + 1 + 1, 0, none⟩)) (((w.alloc (.cells #[.int .i64 ak, .int .i64 node, .string key, .string to, .int .u64 ts, .int .i64 n, .slice Aq na cq] 39)).alloc (.cells #[.int .i64 0, .int .i64 ak, .int .i64 node, .string key, .string to, .int .u64 ts, .int .i64 n, .slice Aq na cq, .int .i64 0, .string s] 41)).alloc (.cells #[.int .i64 0, .int .i64 0, .int .i64 0, .int .i64 0, .pointer none, .int .i64 0, .int .i64 0, .int .u64 0, .int .i64 0, .slice none 0 0, .bool false, .bool false, .int .i64 0, .bool false] 71))) := Lib.hid (.inr ⟨_, rfl, Blk.newAt (by simp)⟩)
    have HF0 : Hid (Bel w.heap.size w (((w.alloc (.cells #[.int .i64 ak, .int .i64 node, .string key, .string to, .int .u64 ts, .int .i64 n, .slice Aq na cq] 39)).alloc (.cells #[.int .i64 0, .int .i64 ak, .int .i64 node, .string key, .string to, .int .u64 ts, .int .i64 n, .slice Aq na cq, .int .i64 0, .string s] 41)).alloc (.cells #[.int .i64 0, .int .i64 0, .int .i64 0, .int .i64 0, .pointer none, .int .i64 0, .int .i64 0, .int .u64 0, .int .i64 0, .slice none 0 0, .bool false, .bool false, .int .i64 0, .bool false] 71))) := Lib.hid (HE0.out.alloc (Nat.le_refl _) _)
    have HN : Hid (∀ W, ZeroC (.pointer none) W) := Lib.hid (fun W => .inl rfl)
    refine (start_zero _ _ (HN.out _)).mono ?_
    rintro e wz1 ⟨rfl, hb⟩
    have HZ1 := Lib.hid ((show ZeroC (.pointer (some ⟨w.heap.size + 1 + 1, 0, none⟩)) _ from by repeat (first | (with_reducible exact HZ0.out) | (with_reducible apply ZeroC.alloc))).keep hb)
    have HF1 := Lib.hid ((show Bel w.heap.size w _ from by repeat (first | (with_reducible exact HF0.out) | (with_reducible apply Bel.alloc; rotate_left; exact Nat.le_refl _))).call hb (Nat.le_refl _))
    have HA1 := Lib.hid (hb.blk HA0.out HA0.out.lt)
    have dA1 := fun i => HA1.out.cell i
    clear hb HZ0 HF0
    go_wp2_with fail
    refine (start_zero _ _ ((by repeat (first | (with_reducible exact HZ1.out) | (with_reducible apply ZeroC.alloc))))).mono ?_
    rintro e wz2 ⟨rfl, hb⟩
    have HZ2 := Lib.hid ((show ZeroC (.pointer (some ⟨w.heap.size + 1 + 1, 0, none⟩)) _ from by repeat (first | (with_reducible exact HZ1.out) | (with_reducible apply ZeroC.alloc))).keep hb)
    have HF2 := Lib.hid ((show Bel w.heap.size w _ from by repeat (first | (with_reducible exact HF1.out) | (with_reducible apply Bel.alloc; rotate_left; exact Nat.le_refl _))).call hb (Nat.le_refl _))
    clear hb HZ1 HF1
    clear dA1
    go_wp2_with fail
    refine (reply_zero _ _ (HN.out _)).mono ?_
    rintro e wz3 ⟨rfl, hb⟩
    have HZ3 := Lib.hid ((show ZeroC (.pointer (some ⟨w.heap.size + 1 + 1, 0, none⟩)) _ from by repeat (first | (with_reducible exact HZ2.out) | (with_reducible apply ZeroC.alloc))).keep hb)
    have HF3 := Lib.hid ((show Bel w.heap.size w _ from by repeat (first | (with_reducible exact HF2.out) | (with_reducible apply Bel.alloc; rotate_left; exact Nat.le_refl _))).call hb (Nat.le_refl _))
    clear hb HZ2 HF2
    go_wp2_with fail
    refine (reply_zero _ _ ((by repeat (first | (with_reducible exact HZ3.out) | (with_reducible apply ZeroC.alloc))))).mono ?_
    rintro e wz4 ⟨rfl, hb⟩
    have HZ4 := Lib.hid ((show ZeroC (.pointer (some ⟨w.heap.size + 1 + 1, 0, none⟩)) _ from by repeat (first | (with_reducible exact HZ3.out) | (with_reducible apply ZeroC.alloc))).keep hb)
    have HF4 := Lib.hid ((show Bel w.heap.size w _ from by repeat (first | (with_reducible exact HF3.out) | (with_reducible apply Bel.alloc; rotate_left; exact Nat.le_refl _))).call hb (Nat.le_refl _))
    clear hb HZ3 HF3
    go_wp2_with fail
    refine (hint_zero _ _ (HN.out _)).mono ?_
    rintro e wz5 ⟨rfl, hb⟩
    have HZ5 := Lib.hid ((show ZeroC (.pointer (some ⟨w.heap.size + 1 + 1, 0, none⟩)) _ from by repeat (first | (with_reducible exact HZ4.out) | (with_reducible apply ZeroC.alloc))).keep hb)
    have HF5 := Lib.hid ((show Bel w.heap.size w _ from by repeat (first | (with_reducible exact HF4.out) | (with_reducible apply Bel.alloc; rotate_left; exact Nat.le_refl _))).call hb (Nat.le_refl _))
    clear hb HZ4 HF4
    go_wp2_with fail
    refine (hint_zero _ _ ((by repeat (first | (with_reducible exact HZ5.out) | (with_reducible apply ZeroC.alloc))))).mono ?_
    rintro e wz6 ⟨rfl, hb⟩
    have HZ6 := Lib.hid ((show ZeroC (.pointer (some ⟨w.heap.size + 1 + 1, 0, none⟩)) _ from by repeat (first | (with_reducible exact HZ5.out) | (with_reducible apply ZeroC.alloc))).keep hb)
    have HF6 := Lib.hid ((show Bel w.heap.size w _ from by repeat (first | (with_reducible exact HF5.out) | (with_reducible apply Bel.alloc; rotate_left; exact Nat.le_refl _))).call hb (Nat.le_refl _))
    clear hb HZ5 HF5
    go_wp2_with fail
    refine (deliver_zero x s _ _ (HN.out _)).mono ?_
    rintro e wz7 ⟨rfl, hb⟩
    have HZ7 := Lib.hid ((show ZeroC (.pointer (some ⟨w.heap.size + 1 + 1, 0, none⟩)) _ from by repeat (first | (with_reducible exact HZ6.out) | (with_reducible apply ZeroC.alloc))).keep hb)
    have HF7 := Lib.hid ((show Bel w.heap.size w _ from by repeat (first | (with_reducible exact HF6.out) | (with_reducible apply Bel.alloc; rotate_left; exact Nat.le_refl _))).call hb (Nat.le_refl _))
    clear hb HZ6 HF6
    go_wp2_with fail
    refine (deliver_zero x s _ _ ((by repeat (first | (with_reducible exact HZ7.out) | (with_reducible apply ZeroC.alloc))))).mono ?_
    rintro e wz8 ⟨rfl, hb⟩
    have HZ8 := Lib.hid ((show ZeroC (.pointer (some ⟨w.heap.size + 1 + 1, 0, none⟩)) _ from by repeat (first | (with_reducible exact HZ7.out) | (with_reducible apply ZeroC.alloc))).keep hb)
    have HF8 := Lib.hid ((show Bel w.heap.size w _ from by repeat (first | (with_reducible exact HF7.out) | (with_reducible apply Bel.alloc; rotate_left; exact Nat.le_refl _))).call hb (Nat.le_refl _))
    clear hb HZ7 HF7
    go_wp2_with fail
    refine (tick_zero _ _ (HN.out _)).mono ?_
    rintro e wz9 ⟨rfl, hb⟩
    have HZ9 := Lib.hid ((show ZeroC (.pointer (some ⟨w.heap.size + 1 + 1, 0, none⟩)) _ from by repeat (first | (with_reducible exact HZ8.out) | (with_reducible apply ZeroC.alloc))).keep hb)
    have HF9 := Lib.hid ((show Bel w.heap.size w _ from by repeat (first | (with_reducible exact HF8.out) | (with_reducible apply Bel.alloc; rotate_left; exact Nat.le_refl _))).call hb (Nat.le_refl _))
    clear hb HZ8 HF8
    go_wp2_with fail
    refine (tick_zero _ _ ((by repeat (first | (with_reducible exact HZ9.out) | (with_reducible apply ZeroC.alloc))))).mono ?_
    rintro e wz10 ⟨rfl, hb⟩
    have HZ10 := Lib.hid ((show ZeroC (.pointer (some ⟨w.heap.size + 1 + 1, 0, none⟩)) _ from by repeat (first | (with_reducible exact HZ9.out) | (with_reducible apply ZeroC.alloc))).keep hb)
    have HF10 := Lib.hid ((show Bel w.heap.size w _ from by repeat (first | (with_reducible exact HF9.out) | (with_reducible apply Bel.alloc; rotate_left; exact Nat.le_refl _))).call hb (Nat.le_refl _))
    clear hb HZ9 HF9
    go_wp2_with fail
    refine (req_zero _ _ (HN.out _)).mono ?_
    rintro e wz11 ⟨rfl, hb⟩
    have HZ11 := Lib.hid ((show ZeroC (.pointer (some ⟨w.heap.size + 1 + 1, 0, none⟩)) _ from by repeat (first | (with_reducible exact HZ10.out) | (with_reducible apply ZeroC.alloc))).keep hb)
    have HF11 := Lib.hid ((show Bel w.heap.size w _ from by repeat (first | (with_reducible exact HF10.out) | (with_reducible apply Bel.alloc; rotate_left; exact Nat.le_refl _))).call hb (Nat.le_refl _))
    clear hb HZ10 HF10
    go_wp2_with fail
    refine (req_zero _ _ ((by repeat (first | (with_reducible exact HZ11.out) | (with_reducible apply ZeroC.alloc))))).mono ?_
    rintro e wz12 ⟨rfl, hb⟩
    have HZ12 := Lib.hid ((show ZeroC (.pointer (some ⟨w.heap.size + 1 + 1, 0, none⟩)) _ from by repeat (first | (with_reducible exact HZ11.out) | (with_reducible apply ZeroC.alloc))).keep hb)
    have HF12 := Lib.hid ((show Bel w.heap.size w _ from by repeat (first | (with_reducible exact HF11.out) | (with_reducible apply Bel.alloc; rotate_left; exact Nat.le_refl _))).call hb (Nat.le_refl _))
    clear hb HZ11 HF11
    go_wp2_with fail
    refine (busy_zero _ _ (HN.out _)).mono ?_
    rintro e wz13 ⟨rfl, hb⟩
    have HZ13 := Lib.hid ((show ZeroC (.pointer (some ⟨w.heap.size + 1 + 1, 0, none⟩)) _ from by repeat (first | (with_reducible exact HZ12.out) | (with_reducible apply ZeroC.alloc))).keep hb)
    have HF13 := Lib.hid ((show Bel w.heap.size w _ from by repeat (first | (with_reducible exact HF12.out) | (with_reducible apply Bel.alloc; rotate_left; exact Nat.le_refl _))).call hb (Nat.le_refl _))
    clear hb HZ12 HF12
    go_wp2_with fail
    refine (busy_zero _ _ ((by repeat (first | (with_reducible exact HZ13.out) | (with_reducible apply ZeroC.alloc))))).mono ?_
    rintro e wz14 ⟨rfl, hb⟩
    have HZ14 := Lib.hid ((show ZeroC (.pointer (some ⟨w.heap.size + 1 + 1, 0, none⟩)) _ from by repeat (first | (with_reducible exact HZ13.out) | (with_reducible apply ZeroC.alloc))).keep hb)
    have HF14 := Lib.hid ((show Bel w.heap.size w _ from by repeat (first | (with_reducible exact HF13.out) | (with_reducible apply Bel.alloc; rotate_left; exact Nat.le_refl _))).call hb (Nat.le_refl _))
    clear hb HZ13 HF13
    go_wp2_with fail
    refine (awake35_any _).mono ?_
    rintro e we ⟨rfl, hb⟩
    have HE := Lib.hid (HF14.out.call hb (Nat.le_refl _))
    clear hb
    go_wp2_with fail
    go_ret
    exact ⟨rfl, HE.out⟩
end Go.Proofs.YtmlnjeoibpffoaaGreat
