/- mess: what is wrong with a part, and how it is written: letter by letter. -/
import Derived.Test.YtmlnjeoibpffoaaGreatAsk2
import Derived.Test.YtmlnjeoibpffoaaGreatWire2
namespace Go.Proofs.YtmlnjeoibpffoaaGreat
open Go.RowKit
set_option linter.unusedVariables false
set_option linter.unusedSimpArgs false

set_option maxHeartbeats 400000 in
theorem number_e (p : Nat) (w : World) :
    Calls Tryz.prog 96 #[.pointer (some ⟨p, 0, none⟩), .int .i32 101] w (Ret (.pointer (some ⟨p, 1, none⟩)) w) := by
  go_enter Tryz.func96, Tryz.ntmps96
  go_wp2_with fail
  go_ret
  exact ⟨rfl, rfl⟩

set_option maxHeartbeats 400000 in
theorem number_r (p : Nat) (w : World) :
    Calls Tryz.prog 96 #[.pointer (some ⟨p, 0, none⟩), .int .i32 114] w (Ret (.pointer (some ⟨p, 2, none⟩)) w) := by
  go_enter Tryz.func96, Tryz.ntmps96
  go_wp2_with fail
  go_ret
  exact ⟨rfl, rfl⟩

set_option maxHeartbeats 400000 in
theorem number_s (p : Nat) (w : World) :
    Calls Tryz.prog 96 #[.pointer (some ⟨p, 0, none⟩), .int .i32 115] w (Ret (.pointer (some ⟨p, 3, none⟩)) w) := by
  go_enter Tryz.func96, Tryz.ntmps96
  go_wp2_with fail
  go_ret
  exact ⟨rfl, rfl⟩

set_option maxHeartbeats 400000 in
theorem number_n (p : Nat) (w : World) :
    Calls Tryz.prog 96 #[.pointer (some ⟨p, 0, none⟩), .int .i32 110] w (Ret (.pointer (some ⟨p, 7, none⟩)) w) := by
  go_enter Tryz.func96, Tryz.ntmps96
  go_wp2_with fail
  go_ret
  exact ⟨rfl, rfl⟩

set_option maxHeartbeats 400000 in
theorem number_m (p : Nat) (w : World) :
    Calls Tryz.prog 96 #[.pointer (some ⟨p, 0, none⟩), .int .i32 109] w (Ret (.pointer (some ⟨p, 8, none⟩)) w) := by
  go_enter Tryz.func96, Tryz.ntmps96
  go_wp2_with fail
  go_ret
  exact ⟨rfl, rfl⟩

set_option maxHeartbeats 400000 in
theorem number_p (p : Nat) (w : World) :
    Calls Tryz.prog 96 #[.pointer (some ⟨p, 0, none⟩), .int .i32 112] w (Ret (.pointer (some ⟨p, 9, none⟩)) w) := by
  go_enter Tryz.func96, Tryz.ntmps96
  go_wp2_with fail
  go_ret
  exact ⟨rfl, rfl⟩

set_option maxHeartbeats 400000 in
theorem number_x (p : Nat) (w : World) :
    Calls Tryz.prog 96 #[.pointer (some ⟨p, 0, none⟩), .int .i32 120] w (Ret (.pointer none) w) := by
  go_enter Tryz.func96, Tryz.ntmps96
  go_wp2_with fail
  go_ret
  exact ⟨rfl, rfl⟩

set_option maxHeartbeats 400000 in
theorem number_a (p : Nat) (w : World) :
    Calls Tryz.prog 96 #[.pointer (some ⟨p, 0, none⟩), .int .i32 97] w (Ret (.pointer none) w) := by
  go_enter Tryz.func96, Tryz.ntmps96
  go_wp2_with fail
  go_ret
  exact ⟨rfl, rfl⟩

set_option maxHeartbeats 400000 in
theorem number_l (p : Nat) (w : World) :
    Calls Tryz.prog 96 #[.pointer (some ⟨p, 0, none⟩), .int .i32 108] w (Ret (.pointer none) w) := by
  go_enter Tryz.func96, Tryz.ntmps96
  go_wp2_with fail
  go_ret
  exact ⟨rfl, rfl⟩

set_option maxHeartbeats 400000 in
theorem number_f (p : Nat) (w : World) :
    Calls Tryz.prog 96 #[.pointer (some ⟨p, 0, none⟩), .int .i32 102] w (Ret (.pointer none) w) := by
  go_enter Tryz.func96, Tryz.ntmps96
  go_wp2_with fail
  go_ret
  exact ⟨rfl, rfl⟩

set_option maxHeartbeats 400000 in
theorem number_k (p : Nat) (w : World) :
    Calls Tryz.prog 96 #[.pointer (some ⟨p, 0, none⟩), .int .i32 107] w (Ret (.pointer none) w) := by
  go_enter Tryz.func96, Tryz.ntmps96
  go_wp2_with fail
  go_ret
  exact ⟨rfl, rfl⟩

set_option maxHeartbeats 400000 in
theorem number_t (p : Nat) (w : World) :
    Calls Tryz.prog 96 #[.pointer (some ⟨p, 0, none⟩), .int .i32 116] w (Ret (.pointer none) w) := by
  go_enter Tryz.func96, Tryz.ntmps96
  go_wp2_with fail
  go_ret
  exact ⟨rfl, rfl⟩

set_option maxHeartbeats 400000 in
theorem number_C (p : Nat) (w : World) :
    Calls Tryz.prog 96 #[.pointer (some ⟨p, 0, none⟩), .int .i32 67] w (Ret (.pointer none) w) := by
  go_enter Tryz.func96, Tryz.ntmps96
  go_wp2_with fail
  go_ret
  exact ⟨rfl, rfl⟩

set_option maxHeartbeats 400000 in
theorem number_B (p : Nat) (w : World) :
    Calls Tryz.prog 96 #[.pointer (some ⟨p, 0, none⟩), .int .i32 66] w (Ret (.pointer none) w) := by
  go_enter Tryz.func96, Tryz.ntmps96
  go_wp2_with fail
  go_ret
  exact ⟨rfl, rfl⟩

set_option maxHeartbeats 400000 in
theorem number_E (p : Nat) (w : World) :
    Calls Tryz.prog 96 #[.pointer (some ⟨p, 0, none⟩), .int .i32 69] w (Ret (.pointer none) w) := by
  go_enter Tryz.func96, Tryz.ntmps96
  go_wp2_with fail
  go_ret
  exact ⟨rfl, rfl⟩

set_option maxHeartbeats 400000 in
theorem number_S (p : Nat) (w : World) :
    Calls Tryz.prog 96 #[.pointer (some ⟨p, 0, none⟩), .int .i32 83] w (Ret (.pointer none) w) := by
  go_enter Tryz.func96, Tryz.ntmps96
  go_wp2_with fail
  go_ret
  exact ⟨rfl, rfl⟩

set_option maxHeartbeats 400000 in
theorem number_R (p : Nat) (w : World) :
    Calls Tryz.prog 96 #[.pointer (some ⟨p, 0, none⟩), .int .i32 82] w (Ret (.pointer none) w) := by
  go_enter Tryz.func96, Tryz.ntmps96
  go_wp2_with fail
  go_ret
  exact ⟨rfl, rfl⟩

set_option maxHeartbeats 1000000 in
set_option maxRecDepth 100000 in
theorem wrong_e (m : MV) (pA : Option Addr) (pn pk : Nat) (w : World) (h0 : 0 ≤ m.ep) (h1 : m.ep ≤ 1073741824) :
    Calls Tryz.prog 106 #[.agg #[.int .i64 m.k, .int .i64 m.ep, .int .i64 m.req, .int .i64 m.ser, .bool m.fl, .int .u64 m.ts, .int .u64 m.last, .int .i64 m.n, .int .i64 m.m, .int .i64 m.p, .int .i64 m.e, .string m.key, .string m.to, .int .i64 m.ce, .slice m.cA m.cn m.cc, .int .u64 m.cf, .int .i64 m.bc, .int .i64 m.bq, .slice m.bA m.bn m.bk, .slice m.eA m.en m.ek, .slice m.sA m.sn m.sk, .slice pA pn pk], .int .i32 101] w (RetB (.int .i64 0) w) := by
  have g0 : ¬ m.ep < 0 := by omega
  have g1 : ¬ 1073741824 < m.ep := by omega
  go_enter Tryz.func106, Tryz.ntmps106
  go_wp2_with (go_at_call 96; refine (number_e _ _).mono ?_; rintro e w1 ⟨rfl, rfl⟩)
  go_ret
  exact ⟨rfl, (Bel.refl _ _).alloc (Nat.le_refl _) _⟩

set_option maxHeartbeats 1000000 in
set_option maxRecDepth 100000 in
theorem wrong_r (m : MV) (pA : Option Addr) (pn pk : Nat) (w : World) (h0 : 0 ≤ m.req) (h1 : m.req ≤ 1073741824) :
    Calls Tryz.prog 106 #[.agg #[.int .i64 m.k, .int .i64 m.ep, .int .i64 m.req, .int .i64 m.ser, .bool m.fl, .int .u64 m.ts, .int .u64 m.last, .int .i64 m.n, .int .i64 m.m, .int .i64 m.p, .int .i64 m.e, .string m.key, .string m.to, .int .i64 m.ce, .slice m.cA m.cn m.cc, .int .u64 m.cf, .int .i64 m.bc, .int .i64 m.bq, .slice m.bA m.bn m.bk, .slice m.eA m.en m.ek, .slice m.sA m.sn m.sk, .slice pA pn pk], .int .i32 114] w (RetB (.int .i64 0) w) := by
  have g0 : ¬ m.req < 0 := by omega
  have g1 : ¬ 1073741824 < m.req := by omega
  go_enter Tryz.func106, Tryz.ntmps106
  go_wp2_with (go_at_call 96; refine (number_r _ _).mono ?_; rintro e w1 ⟨rfl, rfl⟩)
  go_ret
  exact ⟨rfl, (Bel.refl _ _).alloc (Nat.le_refl _) _⟩

set_option maxHeartbeats 1000000 in
set_option maxRecDepth 100000 in
theorem wrong_s (m : MV) (pA : Option Addr) (pn pk : Nat) (w : World) (h0 : 0 ≤ m.ser) (h1 : m.ser ≤ 1073741824) :
    Calls Tryz.prog 106 #[.agg #[.int .i64 m.k, .int .i64 m.ep, .int .i64 m.req, .int .i64 m.ser, .bool m.fl, .int .u64 m.ts, .int .u64 m.last, .int .i64 m.n, .int .i64 m.m, .int .i64 m.p, .int .i64 m.e, .string m.key, .string m.to, .int .i64 m.ce, .slice m.cA m.cn m.cc, .int .u64 m.cf, .int .i64 m.bc, .int .i64 m.bq, .slice m.bA m.bn m.bk, .slice m.eA m.en m.ek, .slice m.sA m.sn m.sk, .slice pA pn pk], .int .i32 115] w (RetB (.int .i64 0) w) := by
  have g0 : ¬ m.ser < 0 := by omega
  have g1 : ¬ 1073741824 < m.ser := by omega
  go_enter Tryz.func106, Tryz.ntmps106
  go_wp2_with (go_at_call 96; refine (number_s _ _).mono ?_; rintro e w1 ⟨rfl, rfl⟩)
  go_ret
  exact ⟨rfl, (Bel.refl _ _).alloc (Nat.le_refl _) _⟩

set_option maxHeartbeats 1000000 in
set_option maxRecDepth 100000 in
theorem wrong_n (m : MV) (pA : Option Addr) (pn pk : Nat) (w : World) (h0 : 0 ≤ m.n) (h1 : m.n ≤ 1073741824) :
    Calls Tryz.prog 106 #[.agg #[.int .i64 m.k, .int .i64 m.ep, .int .i64 m.req, .int .i64 m.ser, .bool m.fl, .int .u64 m.ts, .int .u64 m.last, .int .i64 m.n, .int .i64 m.m, .int .i64 m.p, .int .i64 m.e, .string m.key, .string m.to, .int .i64 m.ce, .slice m.cA m.cn m.cc, .int .u64 m.cf, .int .i64 m.bc, .int .i64 m.bq, .slice m.bA m.bn m.bk, .slice m.eA m.en m.ek, .slice m.sA m.sn m.sk, .slice pA pn pk], .int .i32 110] w (RetB (.int .i64 0) w) := by
  have g0 : ¬ m.n < 0 := by omega
  have g1 : ¬ 1073741824 < m.n := by omega
  go_enter Tryz.func106, Tryz.ntmps106
  go_wp2_with (go_at_call 96; refine (number_n _ _).mono ?_; rintro e w1 ⟨rfl, rfl⟩)
  go_ret
  exact ⟨rfl, (Bel.refl _ _).alloc (Nat.le_refl _) _⟩

set_option maxHeartbeats 1000000 in
set_option maxRecDepth 100000 in
theorem wrong_m (m : MV) (pA : Option Addr) (pn pk : Nat) (w : World) (h0 : 0 ≤ m.m) (h1 : m.m ≤ 1073741824) :
    Calls Tryz.prog 106 #[.agg #[.int .i64 m.k, .int .i64 m.ep, .int .i64 m.req, .int .i64 m.ser, .bool m.fl, .int .u64 m.ts, .int .u64 m.last, .int .i64 m.n, .int .i64 m.m, .int .i64 m.p, .int .i64 m.e, .string m.key, .string m.to, .int .i64 m.ce, .slice m.cA m.cn m.cc, .int .u64 m.cf, .int .i64 m.bc, .int .i64 m.bq, .slice m.bA m.bn m.bk, .slice m.eA m.en m.ek, .slice m.sA m.sn m.sk, .slice pA pn pk], .int .i32 109] w (RetB (.int .i64 0) w) := by
  have g0 : ¬ m.m < 0 := by omega
  have g1 : ¬ 1073741824 < m.m := by omega
  go_enter Tryz.func106, Tryz.ntmps106
  go_wp2_with (go_at_call 96; refine (number_m _ _).mono ?_; rintro e w1 ⟨rfl, rfl⟩)
  go_ret
  exact ⟨rfl, (Bel.refl _ _).alloc (Nat.le_refl _) _⟩

set_option maxHeartbeats 1000000 in
set_option maxRecDepth 100000 in
theorem wrong_p (m : MV) (pA : Option Addr) (pn pk : Nat) (w : World) (h0 : 0 ≤ m.p) (h1 : m.p ≤ 1073741824) :
    Calls Tryz.prog 106 #[.agg #[.int .i64 m.k, .int .i64 m.ep, .int .i64 m.req, .int .i64 m.ser, .bool m.fl, .int .u64 m.ts, .int .u64 m.last, .int .i64 m.n, .int .i64 m.m, .int .i64 m.p, .int .i64 m.e, .string m.key, .string m.to, .int .i64 m.ce, .slice m.cA m.cn m.cc, .int .u64 m.cf, .int .i64 m.bc, .int .i64 m.bq, .slice m.bA m.bn m.bk, .slice m.eA m.en m.ek, .slice m.sA m.sn m.sk, .slice pA pn pk], .int .i32 112] w (RetB (.int .i64 0) w) := by
  have g0 : ¬ m.p < 0 := by omega
  have g1 : ¬ 1073741824 < m.p := by omega
  go_enter Tryz.func106, Tryz.ntmps106
  go_wp2_with (go_at_call 96; refine (number_p _ _).mono ?_; rintro e w1 ⟨rfl, rfl⟩)
  go_ret
  exact ⟨rfl, (Bel.refl _ _).alloc (Nat.le_refl _) _⟩

set_option maxHeartbeats 1000000 in
set_option maxRecDepth 100000 in
theorem wrong_a (m : MV) (pA : Option Addr) (pn pk : Nat) (w : World) :
    Calls Tryz.prog 106 #[.agg #[.int .i64 m.k, .int .i64 m.ep, .int .i64 m.req, .int .i64 m.ser, .bool m.fl, .int .u64 m.ts, .int .u64 m.last, .int .i64 m.n, .int .i64 m.m, .int .i64 m.p, .int .i64 m.e, .string m.key, .string m.to, .int .i64 m.ce, .slice m.cA m.cn m.cc, .int .u64 m.cf, .int .i64 m.bc, .int .i64 m.bq, .slice m.bA m.bn m.bk, .slice m.eA m.en m.ek, .slice m.sA m.sn m.sk, .slice pA pn pk], .int .i32 97] w (RetB (.int .i64 0) w) := by
  go_enter Tryz.func106, Tryz.ntmps106
  go_wp2_with (go_at_call 96; refine (number_a _ _).mono ?_; rintro e w1 ⟨rfl, rfl⟩)
  go_ret
  exact ⟨rfl, (Bel.refl _ _).alloc (Nat.le_refl _) _⟩

set_option maxHeartbeats 1000000 in
set_option maxRecDepth 100000 in
theorem wrong_l (m : MV) (pA : Option Addr) (pn pk : Nat) (w : World) :
    Calls Tryz.prog 106 #[.agg #[.int .i64 m.k, .int .i64 m.ep, .int .i64 m.req, .int .i64 m.ser, .bool m.fl, .int .u64 m.ts, .int .u64 m.last, .int .i64 m.n, .int .i64 m.m, .int .i64 m.p, .int .i64 m.e, .string m.key, .string m.to, .int .i64 m.ce, .slice m.cA m.cn m.cc, .int .u64 m.cf, .int .i64 m.bc, .int .i64 m.bq, .slice m.bA m.bn m.bk, .slice m.eA m.en m.ek, .slice m.sA m.sn m.sk, .slice pA pn pk], .int .i32 108] w (RetB (.int .i64 0) w) := by
  go_enter Tryz.func106, Tryz.ntmps106
  go_wp2_with (go_at_call 96; refine (number_l _ _).mono ?_; rintro e w1 ⟨rfl, rfl⟩)
  go_ret
  exact ⟨rfl, (Bel.refl _ _).alloc (Nat.le_refl _) _⟩

set_option maxHeartbeats 1000000 in
set_option maxRecDepth 100000 in
theorem wrong_f (m : MV) (pA : Option Addr) (pn pk : Nat) (w : World) :
    Calls Tryz.prog 106 #[.agg #[.int .i64 m.k, .int .i64 m.ep, .int .i64 m.req, .int .i64 m.ser, .bool m.fl, .int .u64 m.ts, .int .u64 m.last, .int .i64 m.n, .int .i64 m.m, .int .i64 m.p, .int .i64 m.e, .string m.key, .string m.to, .int .i64 m.ce, .slice m.cA m.cn m.cc, .int .u64 m.cf, .int .i64 m.bc, .int .i64 m.bq, .slice m.bA m.bn m.bk, .slice m.eA m.en m.ek, .slice m.sA m.sn m.sk, .slice pA pn pk], .int .i32 102] w (RetB (.int .i64 0) w) := by
  go_enter Tryz.func106, Tryz.ntmps106
  go_wp2_with (go_at_call 96; refine (number_f _ _).mono ?_; rintro e w1 ⟨rfl, rfl⟩)
  go_ret
  exact ⟨rfl, (Bel.refl _ _).alloc (Nat.le_refl _) _⟩

set_option maxHeartbeats 1000000 in
set_option maxRecDepth 100000 in
theorem plain_e {B p : Nat} {A : Option Addr} {t : List UInt8} (m : MV) (pA : Option Addr) (pn pk : Nat) (w : World) (h : Wr B p A t w) (h0 : 0 ≤ m.ep) (h1 : m.ep ≤ 1073741824) (hl : t.length ≤ 1000000000000) (hBw : B ≤ w.heap.size) :
    Calls Tryz.prog 133 #[.pointer (some ⟨p, 0, none⟩), .agg #[.int .i64 m.k, .int .i64 m.ep, .int .i64 m.req, .int .i64 m.ser, .bool m.fl, .int .u64 m.ts, .int .u64 m.last, .int .i64 m.n, .int .i64 m.m, .int .i64 m.p, .int .i64 m.e, .string m.key, .string m.to, .int .i64 m.ce, .slice m.cA m.cn m.cc, .int .u64 m.cf, .int .i64 m.bc, .int .i64 m.bq, .slice m.bA m.bn m.bk, .slice m.eA m.en m.ek, .slice m.sA m.sn m.sk, .slice pA pn pk], .int .i32 101] w fun e w' => e = .returned (.tuple #[]) ∧ WrTo B p A (t ++ vbytes m.ep.toNat) w w' := by
  have H := Lib.hid h
  have H1 := Lib.hid (h.alloc (.cells #[.int .i64 m.k, .int .i64 m.ep, .int .i64 m.req, .int .i64 m.ser, .bool m.fl, .int .u64 m.ts, .int .u64 m.last, .int .i64 m.n, .int .i64 m.m, .int .i64 m.p, .int .i64 m.e, .string m.key, .string m.to, .int .i64 m.ce, .slice m.cA m.cn m.cc, .int .u64 m.cf, .int .i64 m.bc, .int .i64 m.bq, .slice m.bA m.bn m.bk, .slice m.eA m.en m.ek, .slice m.sA m.sn m.sk, .slice pA pn pk] 57))
  clear h
  go_enter Tryz.func133, Tryz.ntmps133
  go_wp2_with (first | (go_at_call 96; refine (number_e _ _).mono ?_; rintro e w1 ⟨rfl, rfl⟩) | (go_at_call 88; refine (wNum_int _ _ H1.out h0 (by omega) hl (le_al _ hBw)).mono ?_; rintro e w2 ⟨rfl, hw⟩; have HW := Lib.hid hw; clear hw))
  refine bodyPost_ret (results_none rfl _ _ _) rfl ?_
  exact ⟨rfl, WrTo.pre ((Bel.refl _ _).alloc (Nat.le_refl _) _) HW.out⟩

set_option maxHeartbeats 1000000 in
set_option maxRecDepth 100000 in
theorem write_e {B p : Nat} {A : Option Addr} {t : List UInt8} (m : MV) (pA : Option Addr) (pn pk : Nat) (w : World) (h : Wr B p A t w) (h0 : 0 ≤ m.ep) (h1 : m.ep ≤ 1073741824) (hl : t.length ≤ 1000000000000) (hBw : B ≤ w.heap.size) :
    Calls Tryz.prog 89 #[.pointer (some ⟨p, 0, none⟩), .agg #[.int .i64 m.k, .int .i64 m.ep, .int .i64 m.req, .int .i64 m.ser, .bool m.fl, .int .u64 m.ts, .int .u64 m.last, .int .i64 m.n, .int .i64 m.m, .int .i64 m.p, .int .i64 m.e, .string m.key, .string m.to, .int .i64 m.ce, .slice m.cA m.cn m.cc, .int .u64 m.cf, .int .i64 m.bc, .int .i64 m.bq, .slice m.bA m.bn m.bk, .slice m.eA m.en m.ek, .slice m.sA m.sn m.sk, .slice pA pn pk], .int .i32 101] w fun e w' => e = .returned (.tuple #[]) ∧ WrTo B p A (t ++ vbytes m.ep.toNat) w w' := by
  have H := Lib.hid h
  have H1 := Lib.hid (h.alloc (.cells #[.int .i64 m.k, .int .i64 m.ep, .int .i64 m.req, .int .i64 m.ser, .bool m.fl, .int .u64 m.ts, .int .u64 m.last, .int .i64 m.n, .int .i64 m.m, .int .i64 m.p, .int .i64 m.e, .string m.key, .string m.to, .int .i64 m.ce, .slice m.cA m.cn m.cc, .int .u64 m.cf, .int .i64 m.bc, .int .i64 m.bq, .slice m.bA m.bn m.bk, .slice m.eA m.en m.ek, .slice m.sA m.sn m.sk, .slice pA pn pk] 57))
  clear h
  go_enter Tryz.func89, Tryz.ntmps89
  go_wp2_with (refine wpList_get rfl 57 (.tmp 4) rfl (g := w.heap.size) (t := 57) (cs := #[.int .i64 m.k, .int .i64 m.ep, .int .i64 m.req, .int .i64 m.ser, .bool m.fl, .int .u64 m.ts, .int .u64 m.last, .int .i64 m.n, .int .i64 m.m, .int .i64 m.p, .int .i64 m.e, .string m.key, .string m.to, .int .i64 m.ce, .slice m.cA m.cn m.cc, .int .u64 m.cf, .int .i64 m.bc, .int .i64 m.bq, .slice m.bA m.bn m.bk, .slice m.eA m.en m.ek, .slice m.sA m.sn m.sk, .slice pA pn pk]) ?_ ?_ rowMsg ?_; rfl; exact Blk.new _ _ _)
  refine (plain_e m pA pn pk _ H1.out h0 h1 hl (le_al _ hBw)).mono ?_
  rintro e w2 ⟨rfl, hw⟩
  have HW := Lib.hid hw
  clear hw
  go_wp2_with fail
  go_end0
  exact ⟨rfl, WrTo.pre ((Bel.refl _ _).alloc (Nat.le_refl _) _) HW.out⟩

set_option maxHeartbeats 1000000 in
set_option maxRecDepth 100000 in
theorem plain_r {B p : Nat} {A : Option Addr} {t : List UInt8} (m : MV) (pA : Option Addr) (pn pk : Nat) (w : World) (h : Wr B p A t w) (h0 : 0 ≤ m.req) (h1 : m.req ≤ 1073741824) (hl : t.length ≤ 1000000000000) (hBw : B ≤ w.heap.size) :
    Calls Tryz.prog 133 #[.pointer (some ⟨p, 0, none⟩), .agg #[.int .i64 m.k, .int .i64 m.ep, .int .i64 m.req, .int .i64 m.ser, .bool m.fl, .int .u64 m.ts, .int .u64 m.last, .int .i64 m.n, .int .i64 m.m, .int .i64 m.p, .int .i64 m.e, .string m.key, .string m.to, .int .i64 m.ce, .slice m.cA m.cn m.cc, .int .u64 m.cf, .int .i64 m.bc, .int .i64 m.bq, .slice m.bA m.bn m.bk, .slice m.eA m.en m.ek, .slice m.sA m.sn m.sk, .slice pA pn pk], .int .i32 114] w fun e w' => e = .returned (.tuple #[]) ∧ WrTo B p A (t ++ vbytes m.req.toNat) w w' := by
  have H := Lib.hid h
  have H1 := Lib.hid (h.alloc (.cells #[.int .i64 m.k, .int .i64 m.ep, .int .i64 m.req, .int .i64 m.ser, .bool m.fl, .int .u64 m.ts, .int .u64 m.last, .int .i64 m.n, .int .i64 m.m, .int .i64 m.p, .int .i64 m.e, .string m.key, .string m.to, .int .i64 m.ce, .slice m.cA m.cn m.cc, .int .u64 m.cf, .int .i64 m.bc, .int .i64 m.bq, .slice m.bA m.bn m.bk, .slice m.eA m.en m.ek, .slice m.sA m.sn m.sk, .slice pA pn pk] 57))
  clear h
  go_enter Tryz.func133, Tryz.ntmps133
  go_wp2_with (first | (go_at_call 96; refine (number_r _ _).mono ?_; rintro e w1 ⟨rfl, rfl⟩) | (go_at_call 88; refine (wNum_int _ _ H1.out h0 (by omega) hl (le_al _ hBw)).mono ?_; rintro e w2 ⟨rfl, hw⟩; have HW := Lib.hid hw; clear hw))
  refine bodyPost_ret (results_none rfl _ _ _) rfl ?_
  exact ⟨rfl, WrTo.pre ((Bel.refl _ _).alloc (Nat.le_refl _) _) HW.out⟩

set_option maxHeartbeats 1000000 in
set_option maxRecDepth 100000 in
theorem write_r {B p : Nat} {A : Option Addr} {t : List UInt8} (m : MV) (pA : Option Addr) (pn pk : Nat) (w : World) (h : Wr B p A t w) (h0 : 0 ≤ m.req) (h1 : m.req ≤ 1073741824) (hl : t.length ≤ 1000000000000) (hBw : B ≤ w.heap.size) :
    Calls Tryz.prog 89 #[.pointer (some ⟨p, 0, none⟩), .agg #[.int .i64 m.k, .int .i64 m.ep, .int .i64 m.req, .int .i64 m.ser, .bool m.fl, .int .u64 m.ts, .int .u64 m.last, .int .i64 m.n, .int .i64 m.m, .int .i64 m.p, .int .i64 m.e, .string m.key, .string m.to, .int .i64 m.ce, .slice m.cA m.cn m.cc, .int .u64 m.cf, .int .i64 m.bc, .int .i64 m.bq, .slice m.bA m.bn m.bk, .slice m.eA m.en m.ek, .slice m.sA m.sn m.sk, .slice pA pn pk], .int .i32 114] w fun e w' => e = .returned (.tuple #[]) ∧ WrTo B p A (t ++ vbytes m.req.toNat) w w' := by
  have H := Lib.hid h
  have H1 := Lib.hid (h.alloc (.cells #[.int .i64 m.k, .int .i64 m.ep, .int .i64 m.req, .int .i64 m.ser, .bool m.fl, .int .u64 m.ts, .int .u64 m.last, .int .i64 m.n, .int .i64 m.m, .int .i64 m.p, .int .i64 m.e, .string m.key, .string m.to, .int .i64 m.ce, .slice m.cA m.cn m.cc, .int .u64 m.cf, .int .i64 m.bc, .int .i64 m.bq, .slice m.bA m.bn m.bk, .slice m.eA m.en m.ek, .slice m.sA m.sn m.sk, .slice pA pn pk] 57))
  clear h
  go_enter Tryz.func89, Tryz.ntmps89
  go_wp2_with (refine wpList_get rfl 57 (.tmp 4) rfl (g := w.heap.size) (t := 57) (cs := #[.int .i64 m.k, .int .i64 m.ep, .int .i64 m.req, .int .i64 m.ser, .bool m.fl, .int .u64 m.ts, .int .u64 m.last, .int .i64 m.n, .int .i64 m.m, .int .i64 m.p, .int .i64 m.e, .string m.key, .string m.to, .int .i64 m.ce, .slice m.cA m.cn m.cc, .int .u64 m.cf, .int .i64 m.bc, .int .i64 m.bq, .slice m.bA m.bn m.bk, .slice m.eA m.en m.ek, .slice m.sA m.sn m.sk, .slice pA pn pk]) ?_ ?_ rowMsg ?_; rfl; exact Blk.new _ _ _)
  refine (plain_r m pA pn pk _ H1.out h0 h1 hl (le_al _ hBw)).mono ?_
  rintro e w2 ⟨rfl, hw⟩
  have HW := Lib.hid hw
  clear hw
  go_wp2_with fail
  go_end0
  exact ⟨rfl, WrTo.pre ((Bel.refl _ _).alloc (Nat.le_refl _) _) HW.out⟩

set_option maxHeartbeats 1000000 in
set_option maxRecDepth 100000 in
theorem plain_s {B p : Nat} {A : Option Addr} {t : List UInt8} (m : MV) (pA : Option Addr) (pn pk : Nat) (w : World) (h : Wr B p A t w) (h0 : 0 ≤ m.ser) (h1 : m.ser ≤ 1073741824) (hl : t.length ≤ 1000000000000) (hBw : B ≤ w.heap.size) :
    Calls Tryz.prog 133 #[.pointer (some ⟨p, 0, none⟩), .agg #[.int .i64 m.k, .int .i64 m.ep, .int .i64 m.req, .int .i64 m.ser, .bool m.fl, .int .u64 m.ts, .int .u64 m.last, .int .i64 m.n, .int .i64 m.m, .int .i64 m.p, .int .i64 m.e, .string m.key, .string m.to, .int .i64 m.ce, .slice m.cA m.cn m.cc, .int .u64 m.cf, .int .i64 m.bc, .int .i64 m.bq, .slice m.bA m.bn m.bk, .slice m.eA m.en m.ek, .slice m.sA m.sn m.sk, .slice pA pn pk], .int .i32 115] w fun e w' => e = .returned (.tuple #[]) ∧ WrTo B p A (t ++ vbytes m.ser.toNat) w w' := by
  have H := Lib.hid h
  have H1 := Lib.hid (h.alloc (.cells #[.int .i64 m.k, .int .i64 m.ep, .int .i64 m.req, .int .i64 m.ser, .bool m.fl, .int .u64 m.ts, .int .u64 m.last, .int .i64 m.n, .int .i64 m.m, .int .i64 m.p, .int .i64 m.e, .string m.key, .string m.to, .int .i64 m.ce, .slice m.cA m.cn m.cc, .int .u64 m.cf, .int .i64 m.bc, .int .i64 m.bq, .slice m.bA m.bn m.bk, .slice m.eA m.en m.ek, .slice m.sA m.sn m.sk, .slice pA pn pk] 57))
  clear h
  go_enter Tryz.func133, Tryz.ntmps133
  go_wp2_with (first | (go_at_call 96; refine (number_s _ _).mono ?_; rintro e w1 ⟨rfl, rfl⟩) | (go_at_call 88; refine (wNum_int _ _ H1.out h0 (by omega) hl (le_al _ hBw)).mono ?_; rintro e w2 ⟨rfl, hw⟩; have HW := Lib.hid hw; clear hw))
  refine bodyPost_ret (results_none rfl _ _ _) rfl ?_
  exact ⟨rfl, WrTo.pre ((Bel.refl _ _).alloc (Nat.le_refl _) _) HW.out⟩

set_option maxHeartbeats 1000000 in
set_option maxRecDepth 100000 in
theorem write_s {B p : Nat} {A : Option Addr} {t : List UInt8} (m : MV) (pA : Option Addr) (pn pk : Nat) (w : World) (h : Wr B p A t w) (h0 : 0 ≤ m.ser) (h1 : m.ser ≤ 1073741824) (hl : t.length ≤ 1000000000000) (hBw : B ≤ w.heap.size) :
    Calls Tryz.prog 89 #[.pointer (some ⟨p, 0, none⟩), .agg #[.int .i64 m.k, .int .i64 m.ep, .int .i64 m.req, .int .i64 m.ser, .bool m.fl, .int .u64 m.ts, .int .u64 m.last, .int .i64 m.n, .int .i64 m.m, .int .i64 m.p, .int .i64 m.e, .string m.key, .string m.to, .int .i64 m.ce, .slice m.cA m.cn m.cc, .int .u64 m.cf, .int .i64 m.bc, .int .i64 m.bq, .slice m.bA m.bn m.bk, .slice m.eA m.en m.ek, .slice m.sA m.sn m.sk, .slice pA pn pk], .int .i32 115] w fun e w' => e = .returned (.tuple #[]) ∧ WrTo B p A (t ++ vbytes m.ser.toNat) w w' := by
  have H := Lib.hid h
  have H1 := Lib.hid (h.alloc (.cells #[.int .i64 m.k, .int .i64 m.ep, .int .i64 m.req, .int .i64 m.ser, .bool m.fl, .int .u64 m.ts, .int .u64 m.last, .int .i64 m.n, .int .i64 m.m, .int .i64 m.p, .int .i64 m.e, .string m.key, .string m.to, .int .i64 m.ce, .slice m.cA m.cn m.cc, .int .u64 m.cf, .int .i64 m.bc, .int .i64 m.bq, .slice m.bA m.bn m.bk, .slice m.eA m.en m.ek, .slice m.sA m.sn m.sk, .slice pA pn pk] 57))
  clear h
  go_enter Tryz.func89, Tryz.ntmps89
  go_wp2_with (refine wpList_get rfl 57 (.tmp 4) rfl (g := w.heap.size) (t := 57) (cs := #[.int .i64 m.k, .int .i64 m.ep, .int .i64 m.req, .int .i64 m.ser, .bool m.fl, .int .u64 m.ts, .int .u64 m.last, .int .i64 m.n, .int .i64 m.m, .int .i64 m.p, .int .i64 m.e, .string m.key, .string m.to, .int .i64 m.ce, .slice m.cA m.cn m.cc, .int .u64 m.cf, .int .i64 m.bc, .int .i64 m.bq, .slice m.bA m.bn m.bk, .slice m.eA m.en m.ek, .slice m.sA m.sn m.sk, .slice pA pn pk]) ?_ ?_ rowMsg ?_; rfl; exact Blk.new _ _ _)
  refine (plain_s m pA pn pk _ H1.out h0 h1 hl (le_al _ hBw)).mono ?_
  rintro e w2 ⟨rfl, hw⟩
  have HW := Lib.hid hw
  clear hw
  go_wp2_with fail
  go_end0
  exact ⟨rfl, WrTo.pre ((Bel.refl _ _).alloc (Nat.le_refl _) _) HW.out⟩

set_option maxHeartbeats 1000000 in
set_option maxRecDepth 100000 in
theorem plain_n {B p : Nat} {A : Option Addr} {t : List UInt8} (m : MV) (pA : Option Addr) (pn pk : Nat) (w : World) (h : Wr B p A t w) (h0 : 0 ≤ m.n) (h1 : m.n ≤ 1073741824) (hl : t.length ≤ 1000000000000) (hBw : B ≤ w.heap.size) :
    Calls Tryz.prog 133 #[.pointer (some ⟨p, 0, none⟩), .agg #[.int .i64 m.k, .int .i64 m.ep, .int .i64 m.req, .int .i64 m.ser, .bool m.fl, .int .u64 m.ts, .int .u64 m.last, .int .i64 m.n, .int .i64 m.m, .int .i64 m.p, .int .i64 m.e, .string m.key, .string m.to, .int .i64 m.ce, .slice m.cA m.cn m.cc, .int .u64 m.cf, .int .i64 m.bc, .int .i64 m.bq, .slice m.bA m.bn m.bk, .slice m.eA m.en m.ek, .slice m.sA m.sn m.sk, .slice pA pn pk], .int .i32 110] w fun e w' => e = .returned (.tuple #[]) ∧ WrTo B p A (t ++ vbytes m.n.toNat) w w' := by
  have H := Lib.hid h
  have H1 := Lib.hid (h.alloc (.cells #[.int .i64 m.k, .int .i64 m.ep, .int .i64 m.req, .int .i64 m.ser, .bool m.fl, .int .u64 m.ts, .int .u64 m.last, .int .i64 m.n, .int .i64 m.m, .int .i64 m.p, .int .i64 m.e, .string m.key, .string m.to, .int .i64 m.ce, .slice m.cA m.cn m.cc, .int .u64 m.cf, .int .i64 m.bc, .int .i64 m.bq, .slice m.bA m.bn m.bk, .slice m.eA m.en m.ek, .slice m.sA m.sn m.sk, .slice pA pn pk] 57))
  clear h
  go_enter Tryz.func133, Tryz.ntmps133
  go_wp2_with (first | (go_at_call 96; refine (number_n _ _).mono ?_; rintro e w1 ⟨rfl, rfl⟩) | (go_at_call 88; refine (wNum_int _ _ H1.out h0 (by omega) hl (le_al _ hBw)).mono ?_; rintro e w2 ⟨rfl, hw⟩; have HW := Lib.hid hw; clear hw))
  refine bodyPost_ret (results_none rfl _ _ _) rfl ?_
  exact ⟨rfl, WrTo.pre ((Bel.refl _ _).alloc (Nat.le_refl _) _) HW.out⟩

set_option maxHeartbeats 1000000 in
set_option maxRecDepth 100000 in
theorem write_n {B p : Nat} {A : Option Addr} {t : List UInt8} (m : MV) (pA : Option Addr) (pn pk : Nat) (w : World) (h : Wr B p A t w) (h0 : 0 ≤ m.n) (h1 : m.n ≤ 1073741824) (hl : t.length ≤ 1000000000000) (hBw : B ≤ w.heap.size) :
    Calls Tryz.prog 89 #[.pointer (some ⟨p, 0, none⟩), .agg #[.int .i64 m.k, .int .i64 m.ep, .int .i64 m.req, .int .i64 m.ser, .bool m.fl, .int .u64 m.ts, .int .u64 m.last, .int .i64 m.n, .int .i64 m.m, .int .i64 m.p, .int .i64 m.e, .string m.key, .string m.to, .int .i64 m.ce, .slice m.cA m.cn m.cc, .int .u64 m.cf, .int .i64 m.bc, .int .i64 m.bq, .slice m.bA m.bn m.bk, .slice m.eA m.en m.ek, .slice m.sA m.sn m.sk, .slice pA pn pk], .int .i32 110] w fun e w' => e = .returned (.tuple #[]) ∧ WrTo B p A (t ++ vbytes m.n.toNat) w w' := by
  have H := Lib.hid h
  have H1 := Lib.hid (h.alloc (.cells #[.int .i64 m.k, .int .i64 m.ep, .int .i64 m.req, .int .i64 m.ser, .bool m.fl, .int .u64 m.ts, .int .u64 m.last, .int .i64 m.n, .int .i64 m.m, .int .i64 m.p, .int .i64 m.e, .string m.key, .string m.to, .int .i64 m.ce, .slice m.cA m.cn m.cc, .int .u64 m.cf, .int .i64 m.bc, .int .i64 m.bq, .slice m.bA m.bn m.bk, .slice m.eA m.en m.ek, .slice m.sA m.sn m.sk, .slice pA pn pk] 57))
  clear h
  go_enter Tryz.func89, Tryz.ntmps89
  go_wp2_with (refine wpList_get rfl 57 (.tmp 4) rfl (g := w.heap.size) (t := 57) (cs := #[.int .i64 m.k, .int .i64 m.ep, .int .i64 m.req, .int .i64 m.ser, .bool m.fl, .int .u64 m.ts, .int .u64 m.last, .int .i64 m.n, .int .i64 m.m, .int .i64 m.p, .int .i64 m.e, .string m.key, .string m.to, .int .i64 m.ce, .slice m.cA m.cn m.cc, .int .u64 m.cf, .int .i64 m.bc, .int .i64 m.bq, .slice m.bA m.bn m.bk, .slice m.eA m.en m.ek, .slice m.sA m.sn m.sk, .slice pA pn pk]) ?_ ?_ rowMsg ?_; rfl; exact Blk.new _ _ _)
  refine (plain_n m pA pn pk _ H1.out h0 h1 hl (le_al _ hBw)).mono ?_
  rintro e w2 ⟨rfl, hw⟩
  have HW := Lib.hid hw
  clear hw
  go_wp2_with fail
  go_end0
  exact ⟨rfl, WrTo.pre ((Bel.refl _ _).alloc (Nat.le_refl _) _) HW.out⟩

set_option maxHeartbeats 1000000 in
set_option maxRecDepth 100000 in
theorem plain_m {B p : Nat} {A : Option Addr} {t : List UInt8} (m : MV) (pA : Option Addr) (pn pk : Nat) (w : World) (h : Wr B p A t w) (h0 : 0 ≤ m.m) (h1 : m.m ≤ 1073741824) (hl : t.length ≤ 1000000000000) (hBw : B ≤ w.heap.size) :
    Calls Tryz.prog 133 #[.pointer (some ⟨p, 0, none⟩), .agg #[.int .i64 m.k, .int .i64 m.ep, .int .i64 m.req, .int .i64 m.ser, .bool m.fl, .int .u64 m.ts, .int .u64 m.last, .int .i64 m.n, .int .i64 m.m, .int .i64 m.p, .int .i64 m.e, .string m.key, .string m.to, .int .i64 m.ce, .slice m.cA m.cn m.cc, .int .u64 m.cf, .int .i64 m.bc, .int .i64 m.bq, .slice m.bA m.bn m.bk, .slice m.eA m.en m.ek, .slice m.sA m.sn m.sk, .slice pA pn pk], .int .i32 109] w fun e w' => e = .returned (.tuple #[]) ∧ WrTo B p A (t ++ vbytes m.m.toNat) w w' := by
  have H := Lib.hid h
  have H1 := Lib.hid (h.alloc (.cells #[.int .i64 m.k, .int .i64 m.ep, .int .i64 m.req, .int .i64 m.ser, .bool m.fl, .int .u64 m.ts, .int .u64 m.last, .int .i64 m.n, .int .i64 m.m, .int .i64 m.p, .int .i64 m.e, .string m.key, .string m.to, .int .i64 m.ce, .slice m.cA m.cn m.cc, .int .u64 m.cf, .int .i64 m.bc, .int .i64 m.bq, .slice m.bA m.bn m.bk, .slice m.eA m.en m.ek, .slice m.sA m.sn m.sk, .slice pA pn pk] 57))
  clear h
  go_enter Tryz.func133, Tryz.ntmps133
  go_wp2_with (first | (go_at_call 96; refine (number_m _ _).mono ?_; rintro e w1 ⟨rfl, rfl⟩) | (go_at_call 88; refine (wNum_int _ _ H1.out h0 (by omega) hl (le_al _ hBw)).mono ?_; rintro e w2 ⟨rfl, hw⟩; have HW := Lib.hid hw; clear hw))
  refine bodyPost_ret (results_none rfl _ _ _) rfl ?_
  exact ⟨rfl, WrTo.pre ((Bel.refl _ _).alloc (Nat.le_refl _) _) HW.out⟩

set_option maxHeartbeats 1000000 in
set_option maxRecDepth 100000 in
theorem write_m {B p : Nat} {A : Option Addr} {t : List UInt8} (m : MV) (pA : Option Addr) (pn pk : Nat) (w : World) (h : Wr B p A t w) (h0 : 0 ≤ m.m) (h1 : m.m ≤ 1073741824) (hl : t.length ≤ 1000000000000) (hBw : B ≤ w.heap.size) :
    Calls Tryz.prog 89 #[.pointer (some ⟨p, 0, none⟩), .agg #[.int .i64 m.k, .int .i64 m.ep, .int .i64 m.req, .int .i64 m.ser, .bool m.fl, .int .u64 m.ts, .int .u64 m.last, .int .i64 m.n, .int .i64 m.m, .int .i64 m.p, .int .i64 m.e, .string m.key, .string m.to, .int .i64 m.ce, .slice m.cA m.cn m.cc, .int .u64 m.cf, .int .i64 m.bc, .int .i64 m.bq, .slice m.bA m.bn m.bk, .slice m.eA m.en m.ek, .slice m.sA m.sn m.sk, .slice pA pn pk], .int .i32 109] w fun e w' => e = .returned (.tuple #[]) ∧ WrTo B p A (t ++ vbytes m.m.toNat) w w' := by
  have H := Lib.hid h
  have H1 := Lib.hid (h.alloc (.cells #[.int .i64 m.k, .int .i64 m.ep, .int .i64 m.req, .int .i64 m.ser, .bool m.fl, .int .u64 m.ts, .int .u64 m.last, .int .i64 m.n, .int .i64 m.m, .int .i64 m.p, .int .i64 m.e, .string m.key, .string m.to, .int .i64 m.ce, .slice m.cA m.cn m.cc, .int .u64 m.cf, .int .i64 m.bc, .int .i64 m.bq, .slice m.bA m.bn m.bk, .slice m.eA m.en m.ek, .slice m.sA m.sn m.sk, .slice pA pn pk] 57))
  clear h
  go_enter Tryz.func89, Tryz.ntmps89
  go_wp2_with (refine wpList_get rfl 57 (.tmp 4) rfl (g := w.heap.size) (t := 57) (cs := #[.int .i64 m.k, .int .i64 m.ep, .int .i64 m.req, .int .i64 m.ser, .bool m.fl, .int .u64 m.ts, .int .u64 m.last, .int .i64 m.n, .int .i64 m.m, .int .i64 m.p, .int .i64 m.e, .string m.key, .string m.to, .int .i64 m.ce, .slice m.cA m.cn m.cc, .int .u64 m.cf, .int .i64 m.bc, .int .i64 m.bq, .slice m.bA m.bn m.bk, .slice m.eA m.en m.ek, .slice m.sA m.sn m.sk, .slice pA pn pk]) ?_ ?_ rowMsg ?_; rfl; exact Blk.new _ _ _)
  refine (plain_m m pA pn pk _ H1.out h0 h1 hl (le_al _ hBw)).mono ?_
  rintro e w2 ⟨rfl, hw⟩
  have HW := Lib.hid hw
  clear hw
  go_wp2_with fail
  go_end0
  exact ⟨rfl, WrTo.pre ((Bel.refl _ _).alloc (Nat.le_refl _) _) HW.out⟩

set_option maxHeartbeats 1000000 in
set_option maxRecDepth 100000 in
theorem plain_p {B p : Nat} {A : Option Addr} {t : List UInt8} (m : MV) (pA : Option Addr) (pn pk : Nat) (w : World) (h : Wr B p A t w) (h0 : 0 ≤ m.p) (h1 : m.p ≤ 1073741824) (hl : t.length ≤ 1000000000000) (hBw : B ≤ w.heap.size) :
    Calls Tryz.prog 133 #[.pointer (some ⟨p, 0, none⟩), .agg #[.int .i64 m.k, .int .i64 m.ep, .int .i64 m.req, .int .i64 m.ser, .bool m.fl, .int .u64 m.ts, .int .u64 m.last, .int .i64 m.n, .int .i64 m.m, .int .i64 m.p, .int .i64 m.e, .string m.key, .string m.to, .int .i64 m.ce, .slice m.cA m.cn m.cc, .int .u64 m.cf, .int .i64 m.bc, .int .i64 m.bq, .slice m.bA m.bn m.bk, .slice m.eA m.en m.ek, .slice m.sA m.sn m.sk, .slice pA pn pk], .int .i32 112] w fun e w' => e = .returned (.tuple #[]) ∧ WrTo B p A (t ++ vbytes m.p.toNat) w w' := by
  have H := Lib.hid h
  have H1 := Lib.hid (h.alloc (.cells #[.int .i64 m.k, .int .i64 m.ep, .int .i64 m.req, .int .i64 m.ser, .bool m.fl, .int .u64 m.ts, .int .u64 m.last, .int .i64 m.n, .int .i64 m.m, .int .i64 m.p, .int .i64 m.e, .string m.key, .string m.to, .int .i64 m.ce, .slice m.cA m.cn m.cc, .int .u64 m.cf, .int .i64 m.bc, .int .i64 m.bq, .slice m.bA m.bn m.bk, .slice m.eA m.en m.ek, .slice m.sA m.sn m.sk, .slice pA pn pk] 57))
  clear h
  go_enter Tryz.func133, Tryz.ntmps133
  go_wp2_with (first | (go_at_call 96; refine (number_p _ _).mono ?_; rintro e w1 ⟨rfl, rfl⟩) | (go_at_call 88; refine (wNum_int _ _ H1.out h0 (by omega) hl (le_al _ hBw)).mono ?_; rintro e w2 ⟨rfl, hw⟩; have HW := Lib.hid hw; clear hw))
  refine bodyPost_ret (results_none rfl _ _ _) rfl ?_
  exact ⟨rfl, WrTo.pre ((Bel.refl _ _).alloc (Nat.le_refl _) _) HW.out⟩

set_option maxHeartbeats 1000000 in
set_option maxRecDepth 100000 in
theorem write_p {B p : Nat} {A : Option Addr} {t : List UInt8} (m : MV) (pA : Option Addr) (pn pk : Nat) (w : World) (h : Wr B p A t w) (h0 : 0 ≤ m.p) (h1 : m.p ≤ 1073741824) (hl : t.length ≤ 1000000000000) (hBw : B ≤ w.heap.size) :
    Calls Tryz.prog 89 #[.pointer (some ⟨p, 0, none⟩), .agg #[.int .i64 m.k, .int .i64 m.ep, .int .i64 m.req, .int .i64 m.ser, .bool m.fl, .int .u64 m.ts, .int .u64 m.last, .int .i64 m.n, .int .i64 m.m, .int .i64 m.p, .int .i64 m.e, .string m.key, .string m.to, .int .i64 m.ce, .slice m.cA m.cn m.cc, .int .u64 m.cf, .int .i64 m.bc, .int .i64 m.bq, .slice m.bA m.bn m.bk, .slice m.eA m.en m.ek, .slice m.sA m.sn m.sk, .slice pA pn pk], .int .i32 112] w fun e w' => e = .returned (.tuple #[]) ∧ WrTo B p A (t ++ vbytes m.p.toNat) w w' := by
  have H := Lib.hid h
  have H1 := Lib.hid (h.alloc (.cells #[.int .i64 m.k, .int .i64 m.ep, .int .i64 m.req, .int .i64 m.ser, .bool m.fl, .int .u64 m.ts, .int .u64 m.last, .int .i64 m.n, .int .i64 m.m, .int .i64 m.p, .int .i64 m.e, .string m.key, .string m.to, .int .i64 m.ce, .slice m.cA m.cn m.cc, .int .u64 m.cf, .int .i64 m.bc, .int .i64 m.bq, .slice m.bA m.bn m.bk, .slice m.eA m.en m.ek, .slice m.sA m.sn m.sk, .slice pA pn pk] 57))
  clear h
  go_enter Tryz.func89, Tryz.ntmps89
  go_wp2_with (refine wpList_get rfl 57 (.tmp 4) rfl (g := w.heap.size) (t := 57) (cs := #[.int .i64 m.k, .int .i64 m.ep, .int .i64 m.req, .int .i64 m.ser, .bool m.fl, .int .u64 m.ts, .int .u64 m.last, .int .i64 m.n, .int .i64 m.m, .int .i64 m.p, .int .i64 m.e, .string m.key, .string m.to, .int .i64 m.ce, .slice m.cA m.cn m.cc, .int .u64 m.cf, .int .i64 m.bc, .int .i64 m.bq, .slice m.bA m.bn m.bk, .slice m.eA m.en m.ek, .slice m.sA m.sn m.sk, .slice pA pn pk]) ?_ ?_ rowMsg ?_; rfl; exact Blk.new _ _ _)
  refine (plain_p m pA pn pk _ H1.out h0 h1 hl (le_al _ hBw)).mono ?_
  rintro e w2 ⟨rfl, hw⟩
  have HW := Lib.hid hw
  clear hw
  go_wp2_with fail
  go_end0
  exact ⟨rfl, WrTo.pre ((Bel.refl _ _).alloc (Nat.le_refl _) _) HW.out⟩

set_option maxHeartbeats 1000000 in
set_option maxRecDepth 100000 in
theorem plain_x {B p : Nat} {A : Option Addr} {t : List UInt8} (m : MV) (pA : Option Addr) (pn pk : Nat) (w : World) (h : Wr B p A t w) (h0 : 0 ≤ m.e) (h1 : m.e ≤ 21) (hl : t.length ≤ 1000000000000) (hBw : B ≤ w.heap.size) :
    Calls Tryz.prog 133 #[.pointer (some ⟨p, 0, none⟩), .agg #[.int .i64 m.k, .int .i64 m.ep, .int .i64 m.req, .int .i64 m.ser, .bool m.fl, .int .u64 m.ts, .int .u64 m.last, .int .i64 m.n, .int .i64 m.m, .int .i64 m.p, .int .i64 m.e, .string m.key, .string m.to, .int .i64 m.ce, .slice m.cA m.cn m.cc, .int .u64 m.cf, .int .i64 m.bc, .int .i64 m.bq, .slice m.bA m.bn m.bk, .slice m.eA m.en m.ek, .slice m.sA m.sn m.sk, .slice pA pn pk], .int .i32 120] w fun e w' => e = .returned (.tuple #[]) ∧ WrTo B p A (t ++ vbytes m.e.toNat) w w' := by
  have H := Lib.hid h
  have H1 := Lib.hid (h.alloc (.cells #[.int .i64 m.k, .int .i64 m.ep, .int .i64 m.req, .int .i64 m.ser, .bool m.fl, .int .u64 m.ts, .int .u64 m.last, .int .i64 m.n, .int .i64 m.m, .int .i64 m.p, .int .i64 m.e, .string m.key, .string m.to, .int .i64 m.ce, .slice m.cA m.cn m.cc, .int .u64 m.cf, .int .i64 m.bc, .int .i64 m.bq, .slice m.bA m.bn m.bk, .slice m.eA m.en m.ek, .slice m.sA m.sn m.sk, .slice pA pn pk] 57))
  clear h
  go_enter Tryz.func133, Tryz.ntmps133
  go_wp2_with (first | (go_at_call 96; refine (number_x _ _).mono ?_; rintro e w1 ⟨rfl, rfl⟩) | (go_at_call 88; refine (wNum_int _ _ H1.out h0 (by omega) hl (le_al _ hBw)).mono ?_; rintro e w2 ⟨rfl, hw⟩; have HW := Lib.hid hw; clear hw))
  refine bodyPost_ret (results_none rfl _ _ _) rfl ?_
  exact ⟨rfl, WrTo.pre ((Bel.refl _ _).alloc (Nat.le_refl _) _) HW.out⟩

set_option maxHeartbeats 1000000 in
set_option maxRecDepth 100000 in
theorem write_x {B p : Nat} {A : Option Addr} {t : List UInt8} (m : MV) (pA : Option Addr) (pn pk : Nat) (w : World) (h : Wr B p A t w) (h0 : 0 ≤ m.e) (h1 : m.e ≤ 21) (hl : t.length ≤ 1000000000000) (hBw : B ≤ w.heap.size) :
    Calls Tryz.prog 89 #[.pointer (some ⟨p, 0, none⟩), .agg #[.int .i64 m.k, .int .i64 m.ep, .int .i64 m.req, .int .i64 m.ser, .bool m.fl, .int .u64 m.ts, .int .u64 m.last, .int .i64 m.n, .int .i64 m.m, .int .i64 m.p, .int .i64 m.e, .string m.key, .string m.to, .int .i64 m.ce, .slice m.cA m.cn m.cc, .int .u64 m.cf, .int .i64 m.bc, .int .i64 m.bq, .slice m.bA m.bn m.bk, .slice m.eA m.en m.ek, .slice m.sA m.sn m.sk, .slice pA pn pk], .int .i32 120] w fun e w' => e = .returned (.tuple #[]) ∧ WrTo B p A (t ++ vbytes m.e.toNat) w w' := by
  have H := Lib.hid h
  have H1 := Lib.hid (h.alloc (.cells #[.int .i64 m.k, .int .i64 m.ep, .int .i64 m.req, .int .i64 m.ser, .bool m.fl, .int .u64 m.ts, .int .u64 m.last, .int .i64 m.n, .int .i64 m.m, .int .i64 m.p, .int .i64 m.e, .string m.key, .string m.to, .int .i64 m.ce, .slice m.cA m.cn m.cc, .int .u64 m.cf, .int .i64 m.bc, .int .i64 m.bq, .slice m.bA m.bn m.bk, .slice m.eA m.en m.ek, .slice m.sA m.sn m.sk, .slice pA pn pk] 57))
  clear h
  go_enter Tryz.func89, Tryz.ntmps89
  go_wp2_with (refine wpList_get rfl 57 (.tmp 4) rfl (g := w.heap.size) (t := 57) (cs := #[.int .i64 m.k, .int .i64 m.ep, .int .i64 m.req, .int .i64 m.ser, .bool m.fl, .int .u64 m.ts, .int .u64 m.last, .int .i64 m.n, .int .i64 m.m, .int .i64 m.p, .int .i64 m.e, .string m.key, .string m.to, .int .i64 m.ce, .slice m.cA m.cn m.cc, .int .u64 m.cf, .int .i64 m.bc, .int .i64 m.bq, .slice m.bA m.bn m.bk, .slice m.eA m.en m.ek, .slice m.sA m.sn m.sk, .slice pA pn pk]) ?_ ?_ rowMsg ?_; rfl; exact Blk.new _ _ _)
  refine (plain_x m pA pn pk _ H1.out h0 h1 hl (le_al _ hBw)).mono ?_
  rintro e w2 ⟨rfl, hw⟩
  have HW := Lib.hid hw
  clear hw
  go_wp2_with fail
  go_end0
  exact ⟨rfl, WrTo.pre ((Bel.refl _ _).alloc (Nat.le_refl _) _) HW.out⟩

set_option maxHeartbeats 1000000 in
set_option maxRecDepth 100000 in
theorem plain_a {B p : Nat} {A : Option Addr} {t : List UInt8} (m : MV) (pA : Option Addr) (pn pk : Nat) (w : World) (h : Wr B p A t w) (h0 : 0 ≤ m.ts) (h8 : m.ts.toNat < 256 ^ 8) (hl : t.length ≤ 1000000000000) (hBw : B ≤ w.heap.size) :
    Calls Tryz.prog 133 #[.pointer (some ⟨p, 0, none⟩), .agg #[.int .i64 m.k, .int .i64 m.ep, .int .i64 m.req, .int .i64 m.ser, .bool m.fl, .int .u64 m.ts, .int .u64 m.last, .int .i64 m.n, .int .i64 m.m, .int .i64 m.p, .int .i64 m.e, .string m.key, .string m.to, .int .i64 m.ce, .slice m.cA m.cn m.cc, .int .u64 m.cf, .int .i64 m.bc, .int .i64 m.bq, .slice m.bA m.bn m.bk, .slice m.eA m.en m.ek, .slice m.sA m.sn m.sk, .slice pA pn pk], .int .i32 97] w fun e w' => e = .returned (.tuple #[]) ∧ WrTo B p A (t ++ vbytes m.ts.toNat) w w' := by
  have H := Lib.hid h
  have H1 := Lib.hid (h.alloc (.cells #[.int .i64 m.k, .int .i64 m.ep, .int .i64 m.req, .int .i64 m.ser, .bool m.fl, .int .u64 m.ts, .int .u64 m.last, .int .i64 m.n, .int .i64 m.m, .int .i64 m.p, .int .i64 m.e, .string m.key, .string m.to, .int .i64 m.ce, .slice m.cA m.cn m.cc, .int .u64 m.cf, .int .i64 m.bc, .int .i64 m.bq, .slice m.bA m.bn m.bk, .slice m.eA m.en m.ek, .slice m.sA m.sn m.sk, .slice pA pn pk] 57))
  have H8 := Lib.hid h8
  clear h h8
  go_enter Tryz.func133, Tryz.ntmps133
  go_wp2_with (first | (go_at_call 96; refine (number_a _ _).mono ?_; rintro e w1 ⟨rfl, rfl⟩) | (go_at_call 132; refine (wBig_int _ _ H1.out h0 H8.out hl (le_al _ hBw)).mono ?_; rintro e w2 ⟨rfl, hw⟩; have HW := Lib.hid hw; clear hw))
  refine bodyPost_ret (results_none rfl _ _ _) rfl ?_
  exact ⟨rfl, WrTo.pre ((Bel.refl _ _).alloc (Nat.le_refl _) _) HW.out⟩

set_option maxHeartbeats 1000000 in
set_option maxRecDepth 100000 in
theorem write_a {B p : Nat} {A : Option Addr} {t : List UInt8} (m : MV) (pA : Option Addr) (pn pk : Nat) (w : World) (h : Wr B p A t w) (h0 : 0 ≤ m.ts) (h8 : m.ts.toNat < 256 ^ 8) (hl : t.length ≤ 1000000000000) (hBw : B ≤ w.heap.size) :
    Calls Tryz.prog 89 #[.pointer (some ⟨p, 0, none⟩), .agg #[.int .i64 m.k, .int .i64 m.ep, .int .i64 m.req, .int .i64 m.ser, .bool m.fl, .int .u64 m.ts, .int .u64 m.last, .int .i64 m.n, .int .i64 m.m, .int .i64 m.p, .int .i64 m.e, .string m.key, .string m.to, .int .i64 m.ce, .slice m.cA m.cn m.cc, .int .u64 m.cf, .int .i64 m.bc, .int .i64 m.bq, .slice m.bA m.bn m.bk, .slice m.eA m.en m.ek, .slice m.sA m.sn m.sk, .slice pA pn pk], .int .i32 97] w fun e w' => e = .returned (.tuple #[]) ∧ WrTo B p A (t ++ vbytes m.ts.toNat) w w' := by
  have H := Lib.hid h
  have H1 := Lib.hid (h.alloc (.cells #[.int .i64 m.k, .int .i64 m.ep, .int .i64 m.req, .int .i64 m.ser, .bool m.fl, .int .u64 m.ts, .int .u64 m.last, .int .i64 m.n, .int .i64 m.m, .int .i64 m.p, .int .i64 m.e, .string m.key, .string m.to, .int .i64 m.ce, .slice m.cA m.cn m.cc, .int .u64 m.cf, .int .i64 m.bc, .int .i64 m.bq, .slice m.bA m.bn m.bk, .slice m.eA m.en m.ek, .slice m.sA m.sn m.sk, .slice pA pn pk] 57))
  have H8 := Lib.hid h8
  clear h h8
  go_enter Tryz.func89, Tryz.ntmps89
  go_wp2_with (refine wpList_get rfl 57 (.tmp 4) rfl (g := w.heap.size) (t := 57) (cs := #[.int .i64 m.k, .int .i64 m.ep, .int .i64 m.req, .int .i64 m.ser, .bool m.fl, .int .u64 m.ts, .int .u64 m.last, .int .i64 m.n, .int .i64 m.m, .int .i64 m.p, .int .i64 m.e, .string m.key, .string m.to, .int .i64 m.ce, .slice m.cA m.cn m.cc, .int .u64 m.cf, .int .i64 m.bc, .int .i64 m.bq, .slice m.bA m.bn m.bk, .slice m.eA m.en m.ek, .slice m.sA m.sn m.sk, .slice pA pn pk]) ?_ ?_ rowMsg ?_; rfl; exact Blk.new _ _ _)
  refine (plain_a m pA pn pk _ H1.out h0 H8.out hl (le_al _ hBw)).mono ?_
  rintro e w2 ⟨rfl, hw⟩
  have HW := Lib.hid hw
  clear hw
  go_wp2_with fail
  go_end0
  exact ⟨rfl, WrTo.pre ((Bel.refl _ _).alloc (Nat.le_refl _) _) HW.out⟩

set_option maxHeartbeats 1000000 in
set_option maxRecDepth 100000 in
theorem plain_l {B p : Nat} {A : Option Addr} {t : List UInt8} (m : MV) (pA : Option Addr) (pn pk : Nat) (w : World) (h : Wr B p A t w) (h0 : 0 ≤ m.last) (h8 : m.last.toNat < 256 ^ 8) (hl : t.length ≤ 1000000000000) (hBw : B ≤ w.heap.size) :
    Calls Tryz.prog 133 #[.pointer (some ⟨p, 0, none⟩), .agg #[.int .i64 m.k, .int .i64 m.ep, .int .i64 m.req, .int .i64 m.ser, .bool m.fl, .int .u64 m.ts, .int .u64 m.last, .int .i64 m.n, .int .i64 m.m, .int .i64 m.p, .int .i64 m.e, .string m.key, .string m.to, .int .i64 m.ce, .slice m.cA m.cn m.cc, .int .u64 m.cf, .int .i64 m.bc, .int .i64 m.bq, .slice m.bA m.bn m.bk, .slice m.eA m.en m.ek, .slice m.sA m.sn m.sk, .slice pA pn pk], .int .i32 108] w fun e w' => e = .returned (.tuple #[]) ∧ WrTo B p A (t ++ vbytes m.last.toNat) w w' := by
  have H := Lib.hid h
  have H1 := Lib.hid (h.alloc (.cells #[.int .i64 m.k, .int .i64 m.ep, .int .i64 m.req, .int .i64 m.ser, .bool m.fl, .int .u64 m.ts, .int .u64 m.last, .int .i64 m.n, .int .i64 m.m, .int .i64 m.p, .int .i64 m.e, .string m.key, .string m.to, .int .i64 m.ce, .slice m.cA m.cn m.cc, .int .u64 m.cf, .int .i64 m.bc, .int .i64 m.bq, .slice m.bA m.bn m.bk, .slice m.eA m.en m.ek, .slice m.sA m.sn m.sk, .slice pA pn pk] 57))
  have H8 := Lib.hid h8
  clear h h8
  go_enter Tryz.func133, Tryz.ntmps133
  go_wp2_with (first | (go_at_call 96; refine (number_l _ _).mono ?_; rintro e w1 ⟨rfl, rfl⟩) | (go_at_call 132; refine (wBig_int _ _ H1.out h0 H8.out hl (le_al _ hBw)).mono ?_; rintro e w2 ⟨rfl, hw⟩; have HW := Lib.hid hw; clear hw))
  refine bodyPost_ret (results_none rfl _ _ _) rfl ?_
  exact ⟨rfl, WrTo.pre ((Bel.refl _ _).alloc (Nat.le_refl _) _) HW.out⟩

set_option maxHeartbeats 1000000 in
set_option maxRecDepth 100000 in
theorem write_l {B p : Nat} {A : Option Addr} {t : List UInt8} (m : MV) (pA : Option Addr) (pn pk : Nat) (w : World) (h : Wr B p A t w) (h0 : 0 ≤ m.last) (h8 : m.last.toNat < 256 ^ 8) (hl : t.length ≤ 1000000000000) (hBw : B ≤ w.heap.size) :
    Calls Tryz.prog 89 #[.pointer (some ⟨p, 0, none⟩), .agg #[.int .i64 m.k, .int .i64 m.ep, .int .i64 m.req, .int .i64 m.ser, .bool m.fl, .int .u64 m.ts, .int .u64 m.last, .int .i64 m.n, .int .i64 m.m, .int .i64 m.p, .int .i64 m.e, .string m.key, .string m.to, .int .i64 m.ce, .slice m.cA m.cn m.cc, .int .u64 m.cf, .int .i64 m.bc, .int .i64 m.bq, .slice m.bA m.bn m.bk, .slice m.eA m.en m.ek, .slice m.sA m.sn m.sk, .slice pA pn pk], .int .i32 108] w fun e w' => e = .returned (.tuple #[]) ∧ WrTo B p A (t ++ vbytes m.last.toNat) w w' := by
  have H := Lib.hid h
  have H1 := Lib.hid (h.alloc (.cells #[.int .i64 m.k, .int .i64 m.ep, .int .i64 m.req, .int .i64 m.ser, .bool m.fl, .int .u64 m.ts, .int .u64 m.last, .int .i64 m.n, .int .i64 m.m, .int .i64 m.p, .int .i64 m.e, .string m.key, .string m.to, .int .i64 m.ce, .slice m.cA m.cn m.cc, .int .u64 m.cf, .int .i64 m.bc, .int .i64 m.bq, .slice m.bA m.bn m.bk, .slice m.eA m.en m.ek, .slice m.sA m.sn m.sk, .slice pA pn pk] 57))
  have H8 := Lib.hid h8
  clear h h8
  go_enter Tryz.func89, Tryz.ntmps89
  go_wp2_with (refine wpList_get rfl 57 (.tmp 4) rfl (g := w.heap.size) (t := 57) (cs := #[.int .i64 m.k, .int .i64 m.ep, .int .i64 m.req, .int .i64 m.ser, .bool m.fl, .int .u64 m.ts, .int .u64 m.last, .int .i64 m.n, .int .i64 m.m, .int .i64 m.p, .int .i64 m.e, .string m.key, .string m.to, .int .i64 m.ce, .slice m.cA m.cn m.cc, .int .u64 m.cf, .int .i64 m.bc, .int .i64 m.bq, .slice m.bA m.bn m.bk, .slice m.eA m.en m.ek, .slice m.sA m.sn m.sk, .slice pA pn pk]) ?_ ?_ rowMsg ?_; rfl; exact Blk.new _ _ _)
  refine (plain_l m pA pn pk _ H1.out h0 H8.out hl (le_al _ hBw)).mono ?_
  rintro e w2 ⟨rfl, hw⟩
  have HW := Lib.hid hw
  clear hw
  go_wp2_with fail
  go_end0
  exact ⟨rfl, WrTo.pre ((Bel.refl _ _).alloc (Nat.le_refl _) _) HW.out⟩

set_option maxHeartbeats 1000000 in
set_option maxRecDepth 100000 in
theorem plain_f {B p : Nat} {A : Option Addr} {t : List UInt8} (m : MV) (pA : Option Addr) (pn pk : Nat) (w : World) (h : Wr B p A t w)  (hl : t.length ≤ 1000000000000) (hBw : B ≤ w.heap.size) :
    Calls Tryz.prog 133 #[.pointer (some ⟨p, 0, none⟩), .agg #[.int .i64 m.k, .int .i64 m.ep, .int .i64 m.req, .int .i64 m.ser, .bool m.fl, .int .u64 m.ts, .int .u64 m.last, .int .i64 m.n, .int .i64 m.m, .int .i64 m.p, .int .i64 m.e, .string m.key, .string m.to, .int .i64 m.ce, .slice m.cA m.cn m.cc, .int .u64 m.cf, .int .i64 m.bc, .int .i64 m.bq, .slice m.bA m.bn m.bk, .slice m.eA m.en m.ek, .slice m.sA m.sn m.sk, .slice pA pn pk], .int .i32 102] w fun e w' => e = .returned (.tuple #[]) ∧ WrTo B p A (t ++ [flagByte m.fl]) w w' := by
  have H := Lib.hid h
  have H1 := Lib.hid (h.alloc (.cells #[.int .i64 m.k, .int .i64 m.ep, .int .i64 m.req, .int .i64 m.ser, .bool m.fl, .int .u64 m.ts, .int .u64 m.last, .int .i64 m.n, .int .i64 m.m, .int .i64 m.p, .int .i64 m.e, .string m.key, .string m.to, .int .i64 m.ce, .slice m.cA m.cn m.cc, .int .u64 m.cf, .int .i64 m.bc, .int .i64 m.bq, .slice m.bA m.bn m.bk, .slice m.eA m.en m.ek, .slice m.sA m.sn m.sk, .slice pA pn pk] 57))
  clear h
  go_enter Tryz.func133, Tryz.ntmps133
  go_wp2_with (first | (go_at_call 96; refine (number_f _ _).mono ?_; rintro e w1 ⟨rfl, rfl⟩) | (go_at_call 171; refine (wFlag_any _ _ H1.out hl (le_al _ hBw)).mono ?_; rintro e w2 ⟨rfl, hw⟩; have HW := Lib.hid hw; clear hw))
  refine bodyPost_ret (results_none rfl _ _ _) rfl ?_
  exact ⟨rfl, WrTo.pre ((Bel.refl _ _).alloc (Nat.le_refl _) _) HW.out⟩

set_option maxHeartbeats 1000000 in
set_option maxRecDepth 100000 in
theorem write_f {B p : Nat} {A : Option Addr} {t : List UInt8} (m : MV) (pA : Option Addr) (pn pk : Nat) (w : World) (h : Wr B p A t w)  (hl : t.length ≤ 1000000000000) (hBw : B ≤ w.heap.size) :
    Calls Tryz.prog 89 #[.pointer (some ⟨p, 0, none⟩), .agg #[.int .i64 m.k, .int .i64 m.ep, .int .i64 m.req, .int .i64 m.ser, .bool m.fl, .int .u64 m.ts, .int .u64 m.last, .int .i64 m.n, .int .i64 m.m, .int .i64 m.p, .int .i64 m.e, .string m.key, .string m.to, .int .i64 m.ce, .slice m.cA m.cn m.cc, .int .u64 m.cf, .int .i64 m.bc, .int .i64 m.bq, .slice m.bA m.bn m.bk, .slice m.eA m.en m.ek, .slice m.sA m.sn m.sk, .slice pA pn pk], .int .i32 102] w fun e w' => e = .returned (.tuple #[]) ∧ WrTo B p A (t ++ [flagByte m.fl]) w w' := by
  have H := Lib.hid h
  have H1 := Lib.hid (h.alloc (.cells #[.int .i64 m.k, .int .i64 m.ep, .int .i64 m.req, .int .i64 m.ser, .bool m.fl, .int .u64 m.ts, .int .u64 m.last, .int .i64 m.n, .int .i64 m.m, .int .i64 m.p, .int .i64 m.e, .string m.key, .string m.to, .int .i64 m.ce, .slice m.cA m.cn m.cc, .int .u64 m.cf, .int .i64 m.bc, .int .i64 m.bq, .slice m.bA m.bn m.bk, .slice m.eA m.en m.ek, .slice m.sA m.sn m.sk, .slice pA pn pk] 57))
  clear h
  go_enter Tryz.func89, Tryz.ntmps89
  go_wp2_with (refine wpList_get rfl 57 (.tmp 4) rfl (g := w.heap.size) (t := 57) (cs := #[.int .i64 m.k, .int .i64 m.ep, .int .i64 m.req, .int .i64 m.ser, .bool m.fl, .int .u64 m.ts, .int .u64 m.last, .int .i64 m.n, .int .i64 m.m, .int .i64 m.p, .int .i64 m.e, .string m.key, .string m.to, .int .i64 m.ce, .slice m.cA m.cn m.cc, .int .u64 m.cf, .int .i64 m.bc, .int .i64 m.bq, .slice m.bA m.bn m.bk, .slice m.eA m.en m.ek, .slice m.sA m.sn m.sk, .slice pA pn pk]) ?_ ?_ rowMsg ?_; rfl; exact Blk.new _ _ _)
  refine (plain_f m pA pn pk _ H1.out  hl (le_al _ hBw)).mono ?_
  rintro e w2 ⟨rfl, hw⟩
  have HW := Lib.hid hw
  clear hw
  go_wp2_with fail
  go_end0
  exact ⟨rfl, WrTo.pre ((Bel.refl _ _).alloc (Nat.le_refl _) _) HW.out⟩

set_option maxHeartbeats 1000000 in
set_option maxRecDepth 100000 in
theorem plain_k {B p : Nat} {A : Option Addr} {t : List UInt8} (m : MV) (pA : Option Addr) (pn pk : Nat) (w : World) (h : Wr B p A t w) (h0 : m.key.size ≤ 8) (hl : t.length ≤ 1000000000000) (hBw : B ≤ w.heap.size) :
    Calls Tryz.prog 133 #[.pointer (some ⟨p, 0, none⟩), .agg #[.int .i64 m.k, .int .i64 m.ep, .int .i64 m.req, .int .i64 m.ser, .bool m.fl, .int .u64 m.ts, .int .u64 m.last, .int .i64 m.n, .int .i64 m.m, .int .i64 m.p, .int .i64 m.e, .string m.key, .string m.to, .int .i64 m.ce, .slice m.cA m.cn m.cc, .int .u64 m.cf, .int .i64 m.bc, .int .i64 m.bq, .slice m.bA m.bn m.bk, .slice m.eA m.en m.ek, .slice m.sA m.sn m.sk, .slice pA pn pk], .int .i32 107] w fun e w' => e = .returned (.tuple #[]) ∧ WrTo B p A (t ++ vbytes m.key.size ++ m.key.data.toList) w w' := by
  have H := Lib.hid h
  have H1 := Lib.hid (h.alloc (.cells #[.int .i64 m.k, .int .i64 m.ep, .int .i64 m.req, .int .i64 m.ser, .bool m.fl, .int .u64 m.ts, .int .u64 m.last, .int .i64 m.n, .int .i64 m.m, .int .i64 m.p, .int .i64 m.e, .string m.key, .string m.to, .int .i64 m.ce, .slice m.cA m.cn m.cc, .int .u64 m.cf, .int .i64 m.bc, .int .i64 m.bq, .slice m.bA m.bn m.bk, .slice m.eA m.en m.ek, .slice m.sA m.sn m.sk, .slice pA pn pk] 57))
  clear h
  go_enter Tryz.func133, Tryz.ntmps133
  go_wp2_with (first | (go_at_call 96; refine (number_k _ _).mono ?_; rintro e w1 ⟨rfl, rfl⟩) | (go_at_call 131; refine (wText_any _ _ H1.out (by omega) hl (le_al _ hBw)).mono ?_; rintro e w2 ⟨rfl, hw⟩; have HW := Lib.hid hw; clear hw))
  go_end0
  exact ⟨rfl, by exact WrTo.pre ((Bel.refl _ _).alloc (Nat.le_refl _) _) HW.out⟩

set_option maxHeartbeats 1000000 in
set_option maxRecDepth 100000 in
theorem write_k {B p : Nat} {A : Option Addr} {t : List UInt8} (m : MV) (pA : Option Addr) (pn pk : Nat) (w : World) (h : Wr B p A t w) (h0 : m.key.size ≤ 8) (hl : t.length ≤ 1000000000000) (hBw : B ≤ w.heap.size) :
    Calls Tryz.prog 89 #[.pointer (some ⟨p, 0, none⟩), .agg #[.int .i64 m.k, .int .i64 m.ep, .int .i64 m.req, .int .i64 m.ser, .bool m.fl, .int .u64 m.ts, .int .u64 m.last, .int .i64 m.n, .int .i64 m.m, .int .i64 m.p, .int .i64 m.e, .string m.key, .string m.to, .int .i64 m.ce, .slice m.cA m.cn m.cc, .int .u64 m.cf, .int .i64 m.bc, .int .i64 m.bq, .slice m.bA m.bn m.bk, .slice m.eA m.en m.ek, .slice m.sA m.sn m.sk, .slice pA pn pk], .int .i32 107] w fun e w' => e = .returned (.tuple #[]) ∧ WrTo B p A (t ++ vbytes m.key.size ++ m.key.data.toList) w w' := by
  have H := Lib.hid h
  have H1 := Lib.hid (h.alloc (.cells #[.int .i64 m.k, .int .i64 m.ep, .int .i64 m.req, .int .i64 m.ser, .bool m.fl, .int .u64 m.ts, .int .u64 m.last, .int .i64 m.n, .int .i64 m.m, .int .i64 m.p, .int .i64 m.e, .string m.key, .string m.to, .int .i64 m.ce, .slice m.cA m.cn m.cc, .int .u64 m.cf, .int .i64 m.bc, .int .i64 m.bq, .slice m.bA m.bn m.bk, .slice m.eA m.en m.ek, .slice m.sA m.sn m.sk, .slice pA pn pk] 57))
  clear h
  go_enter Tryz.func89, Tryz.ntmps89
  go_wp2_with (refine wpList_get rfl 57 (.tmp 4) rfl (g := w.heap.size) (t := 57) (cs := #[.int .i64 m.k, .int .i64 m.ep, .int .i64 m.req, .int .i64 m.ser, .bool m.fl, .int .u64 m.ts, .int .u64 m.last, .int .i64 m.n, .int .i64 m.m, .int .i64 m.p, .int .i64 m.e, .string m.key, .string m.to, .int .i64 m.ce, .slice m.cA m.cn m.cc, .int .u64 m.cf, .int .i64 m.bc, .int .i64 m.bq, .slice m.bA m.bn m.bk, .slice m.eA m.en m.ek, .slice m.sA m.sn m.sk, .slice pA pn pk]) ?_ ?_ rowMsg ?_; rfl; exact Blk.new _ _ _)
  refine (plain_k m pA pn pk _ H1.out h0 hl (le_al _ hBw)).mono ?_
  rintro e w2 ⟨rfl, hw⟩
  have HW := Lib.hid hw
  clear hw
  go_wp2_with fail
  go_end0
  exact ⟨rfl, WrTo.pre ((Bel.refl _ _).alloc (Nat.le_refl _) _) HW.out⟩

set_option maxHeartbeats 1000000 in
set_option maxRecDepth 100000 in
theorem plain_t {B p : Nat} {A : Option Addr} {t : List UInt8} (m : MV) (pA : Option Addr) (pn pk : Nat) (w : World) (h : Wr B p A t w) (h0 : m.to.size ≤ 8) (hl : t.length ≤ 1000000000000) (hBw : B ≤ w.heap.size) :
    Calls Tryz.prog 133 #[.pointer (some ⟨p, 0, none⟩), .agg #[.int .i64 m.k, .int .i64 m.ep, .int .i64 m.req, .int .i64 m.ser, .bool m.fl, .int .u64 m.ts, .int .u64 m.last, .int .i64 m.n, .int .i64 m.m, .int .i64 m.p, .int .i64 m.e, .string m.key, .string m.to, .int .i64 m.ce, .slice m.cA m.cn m.cc, .int .u64 m.cf, .int .i64 m.bc, .int .i64 m.bq, .slice m.bA m.bn m.bk, .slice m.eA m.en m.ek, .slice m.sA m.sn m.sk, .slice pA pn pk], .int .i32 116] w fun e w' => e = .returned (.tuple #[]) ∧ WrTo B p A (t ++ vbytes m.to.size ++ m.to.data.toList) w w' := by
  have H := Lib.hid h
  have H1 := Lib.hid (h.alloc (.cells #[.int .i64 m.k, .int .i64 m.ep, .int .i64 m.req, .int .i64 m.ser, .bool m.fl, .int .u64 m.ts, .int .u64 m.last, .int .i64 m.n, .int .i64 m.m, .int .i64 m.p, .int .i64 m.e, .string m.key, .string m.to, .int .i64 m.ce, .slice m.cA m.cn m.cc, .int .u64 m.cf, .int .i64 m.bc, .int .i64 m.bq, .slice m.bA m.bn m.bk, .slice m.eA m.en m.ek, .slice m.sA m.sn m.sk, .slice pA pn pk] 57))
  clear h
  go_enter Tryz.func133, Tryz.ntmps133
  go_wp2_with (first | (go_at_call 96; refine (number_t _ _).mono ?_; rintro e w1 ⟨rfl, rfl⟩) | (go_at_call 131; refine (wText_any _ _ H1.out (by omega) hl (le_al _ hBw)).mono ?_; rintro e w2 ⟨rfl, hw⟩; have HW := Lib.hid hw; clear hw))
  go_end0
  exact ⟨rfl, by exact WrTo.pre ((Bel.refl _ _).alloc (Nat.le_refl _) _) HW.out⟩

set_option maxHeartbeats 1000000 in
set_option maxRecDepth 100000 in
theorem write_t {B p : Nat} {A : Option Addr} {t : List UInt8} (m : MV) (pA : Option Addr) (pn pk : Nat) (w : World) (h : Wr B p A t w) (h0 : m.to.size ≤ 8) (hl : t.length ≤ 1000000000000) (hBw : B ≤ w.heap.size) :
    Calls Tryz.prog 89 #[.pointer (some ⟨p, 0, none⟩), .agg #[.int .i64 m.k, .int .i64 m.ep, .int .i64 m.req, .int .i64 m.ser, .bool m.fl, .int .u64 m.ts, .int .u64 m.last, .int .i64 m.n, .int .i64 m.m, .int .i64 m.p, .int .i64 m.e, .string m.key, .string m.to, .int .i64 m.ce, .slice m.cA m.cn m.cc, .int .u64 m.cf, .int .i64 m.bc, .int .i64 m.bq, .slice m.bA m.bn m.bk, .slice m.eA m.en m.ek, .slice m.sA m.sn m.sk, .slice pA pn pk], .int .i32 116] w fun e w' => e = .returned (.tuple #[]) ∧ WrTo B p A (t ++ vbytes m.to.size ++ m.to.data.toList) w w' := by
  have H := Lib.hid h
  have H1 := Lib.hid (h.alloc (.cells #[.int .i64 m.k, .int .i64 m.ep, .int .i64 m.req, .int .i64 m.ser, .bool m.fl, .int .u64 m.ts, .int .u64 m.last, .int .i64 m.n, .int .i64 m.m, .int .i64 m.p, .int .i64 m.e, .string m.key, .string m.to, .int .i64 m.ce, .slice m.cA m.cn m.cc, .int .u64 m.cf, .int .i64 m.bc, .int .i64 m.bq, .slice m.bA m.bn m.bk, .slice m.eA m.en m.ek, .slice m.sA m.sn m.sk, .slice pA pn pk] 57))
  clear h
  go_enter Tryz.func89, Tryz.ntmps89
  go_wp2_with (refine wpList_get rfl 57 (.tmp 4) rfl (g := w.heap.size) (t := 57) (cs := #[.int .i64 m.k, .int .i64 m.ep, .int .i64 m.req, .int .i64 m.ser, .bool m.fl, .int .u64 m.ts, .int .u64 m.last, .int .i64 m.n, .int .i64 m.m, .int .i64 m.p, .int .i64 m.e, .string m.key, .string m.to, .int .i64 m.ce, .slice m.cA m.cn m.cc, .int .u64 m.cf, .int .i64 m.bc, .int .i64 m.bq, .slice m.bA m.bn m.bk, .slice m.eA m.en m.ek, .slice m.sA m.sn m.sk, .slice pA pn pk]) ?_ ?_ rowMsg ?_; rfl; exact Blk.new _ _ _)
  refine (plain_t m pA pn pk _ H1.out h0 hl (le_al _ hBw)).mono ?_
  rintro e w2 ⟨rfl, hw⟩
  have HW := Lib.hid hw
  clear hw
  go_wp2_with fail
  go_end0
  exact ⟨rfl, WrTo.pre ((Bel.refl _ _).alloc (Nat.le_refl _) _) HW.out⟩
end Go.Proofs.YtmlnjeoibpffoaaGreat
