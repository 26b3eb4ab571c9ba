/- wire's writer: a number, any number, a text, a flag; all that was written. -/
import Derived.Test.YtmlnjeoibpffoaaGreatWire1
import Derived.Test.YtmlnjeoibpffoaaGreatVar
namespace Go.Proofs.YtmlnjeoibpffoaaGreat
open Go.RowKit
set_option linter.unusedVariables false
set_option linter.unusedSimpArgs false

set_option maxHeartbeats 1000000 in
set_option maxRecDepth 100000 in
theorem wBig_any {B p : Nat} {A : Option Addr} {t : List UInt8} (n : Nat) (w : World) (h : Wr B p A t w) (hn : n < 256 ^ 8) (hl : t.length ≤ 1000000000000) (hBw : B ≤ w.heap.size) :
    Calls Tryz.prog 132 #[.pointer (some ⟨p, 0, none⟩), .int .u64 n] w fun e w' => e = .returned (.pointer (some ⟨p, 0, none⟩)) ∧ WrTo B p A (t ++ vbytes n) w w' := by
  have H := Lib.hid h
  have hv := vbytes_len hn
  have HN := Lib.hid hn
  clear h hn
  go_enter Tryz.func132, Tryz.ntmps132
  go_wp2_with (go_at_call 129; refine (varnumPut_any n _ HN.out).mono ?_; rintro e w1 ⟨rfl, hb⟩)
  have HB := Lib.hid hb
  have H1 := Lib.hid (H.out.bel hb)
  have hsz := hb.size
  clear hb
  go_wp2_with (go_at_call 128; refine (wput_any _ _ H1.out (by show t.length + (vbytes n).toArray.size ≤ _; simp; omega) (by omega)).mono ?_; rintro e w2 ⟨rfl, hw⟩; have HW := Lib.hid hw; clear hw)
  go_ret
  refine ⟨rfl, ?_⟩
  obtain ⟨A', h1, h2, h3⟩ := HW.out
  refine ⟨A', h1, (Chg.of HB.out).trans h2 (fun b hb => .inl hb), fun b hb => ?_⟩
  rcases h3 b hb with e | e
  · exact .inl e
  · exact .inr (Nat.le_trans hsz e)

theorem WrTo.pre {B p : Nat} {A : Option Addr} {t : List UInt8} {w0 w w' : World} (hb : Bel w0.heap.size w0 w) (h : WrTo B p A t w w') : WrTo B p A t w0 w' := by
  obtain ⟨A', h1, h2, h3⟩ := h
  refine ⟨A', h1, (Chg.of hb).trans h2 (fun b hb => .inl hb), fun b hb' => ?_⟩
  rcases h3 b hb' with e | e
  · exact .inl e
  · exact .inr (Nat.le_trans hb.size e)
theorem WrTo.go {B p : Nat} {A A' : Option Addr} {t' t'' : List UInt8} {w w' w'' : World} (h1 : Wr B p A' t' w') (h2 : Chg (WrS p A) w w') (h3 : LiesIn A A' w.heap.size) (k : WrTo B p A' t'' w' w'') : WrTo B p A t'' w w'' := by
  obtain ⟨A'', k1, k2, k3⟩ := k
  refine ⟨A'', k1, h2.trans k2 (fun b hb => ?_), fun b hb => ?_⟩
  · rcases hb with hb | hb
    · exact .inl (.inl hb)
    · rcases h3 b hb with e | e
      · exact .inl (.inr e)
      · exact .inr e
  · rcases k3 b hb with e | e
    · exact h3 b e
    · exact .inr (Nat.le_trans h2.size e)
theorem WrTo.size {B p : Nat} {A : Option Addr} {t : List UInt8} {w w' : World} (h : WrTo B p A t w w') : w.heap.size ≤ w'.heap.size := h.choose_spec.2.1.size

set_option maxHeartbeats 1000000 in
set_option maxRecDepth 100000 in
theorem wNum_any {B p : Nat} {A : Option Addr} {t : List UInt8} (n : Nat) (w : World) (h : Wr B p A t w) (hn : n ≤ 2147483648) (hl : t.length ≤ 1000000000000) (hBw : B ≤ w.heap.size) :
    Calls Tryz.prog 88 #[.pointer (some ⟨p, 0, none⟩), .int .i64 n] w fun e w' => e = .returned (.pointer (some ⟨p, 0, none⟩)) ∧ WrTo B p A (t ++ vbytes n) w w' := by
  have H := Lib.hid h
  have hn8 : n < 256 ^ 8 := by omega
  have hv := vbytes_len hn8
  have HN := Lib.hid hn8
  have h0 : (0 : Int) ≤ (n : Int) := by omega
  have h1 : ¬ (n : Int) < 0 := by omega
  have h2 : decide ((n : Int) < 0) = false := by simp
  clear h hn8
  go_enter Tryz.func88, Tryz.ntmps88
  go_wp2_with (go_at_call 129; refine (varnumPut_any n _ HN.out).mono ?_; rintro e w1 ⟨rfl, hb⟩)
  have HB := Lib.hid hb
  have H1 := Lib.hid (H.out.bel hb)
  have hsz := hb.size
  clear hb
  go_wp2_with (go_at_call 128; refine (wput_any _ _ H1.out (by show t.length + (vbytes n).toArray.size ≤ _; simp; omega) (by omega)).mono ?_; rintro e w2 ⟨rfl, hw⟩; have HW := Lib.hid hw; clear hw)
  go_ret
  exact ⟨rfl, WrTo.pre HB.out HW.out⟩

set_option maxHeartbeats 1000000 in
set_option maxRecDepth 100000 in
theorem wText_any {B p : Nat} {A : Option Addr} {t : List UInt8} (s : ByteArray) (w : World) (h : Wr B p A t w) (hs : s.size ≤ 1000000000000) (hl : t.length ≤ 1000000000000) (hBw : B ≤ w.heap.size) :
    Calls Tryz.prog 131 #[.pointer (some ⟨p, 0, none⟩), .string s] w fun e w' => e = .returned (.pointer (some ⟨p, 0, none⟩)) ∧ WrTo B p A (t ++ vbytes s.size ++ s.data.toList) w w' := by
  have H := Lib.hid h
  have hn8 : s.size < 256 ^ 8 := by omega
  have hv := vbytes_len hn8
  have HN := Lib.hid hn8
  have h0 : (0 : Int) ≤ (s.size : Int) := by omega
  clear h hn8
  go_enter Tryz.func131, Tryz.ntmps131
  go_wp2_with (go_at_call 129; refine (varnumPut_any s.size _ HN.out).mono ?_; rintro e w1 ⟨rfl, hb⟩)
  have HB := Lib.hid hb
  have H1 := Lib.hid (H.out.bel hb)
  have hsz := hb.size
  clear hb
  go_wp2_with fail
  refine (wput_any _ _ H1.out (by show t.length + (vbytes s.size).toArray.size ≤ _; simp; omega) (by omega)).mono ?_
  rintro e w2 ⟨rfl, hw⟩
  obtain ⟨A', h1, h2, h3⟩ := hw
  have H2 := Lib.hid h1
  have H3 := Lib.hid h2
  have H4 := Lib.hid h3
  have hs2 := h2.size
  clear h1 h2 h3
  go_wp2_with fail
  refine (wput_any _ _ H2.out (by simp; omega) (by omega)).mono ?_
  rintro e w3 ⟨rfl, hw⟩
  have HW := Lib.hid hw
  clear hw
  go_wp2_with fail
  go_ret
  exact ⟨rfl, WrTo.pre HB.out (WrTo.go H2.out H3.out H4.out HW.out)⟩

def flagByte (b : Bool) : UInt8 := if b then 1 else 0
set_option maxHeartbeats 1000000 in
set_option maxRecDepth 100000 in
theorem wFlag_any {B p : Nat} {A : Option Addr} {t : List UInt8} (b : Bool) (w : World) (h : Wr B p A t w) (hl : t.length ≤ 1000000000000) (hBw : B ≤ w.heap.size) :
    Calls Tryz.prog 171 #[.pointer (some ⟨p, 0, none⟩), .bool b] w fun e w' => e = .returned (.pointer (some ⟨p, 0, none⟩)) ∧ WrTo B p A (t ++ [flagByte b]) w w' := by
  have H := Lib.hid h
  clear h
  cases b
  · go_enter Tryz.func171, Tryz.ntmps171
    go_wp2_with fail
    refine (wput_any _ _ H.out (by show t.length + 1 ≤ _; omega) (by omega)).mono ?_
    rintro e w2 ⟨rfl, hw⟩
    have HW := Lib.hid hw
    clear hw
    go_wp2_with fail
    go_ret
    exact ⟨rfl, HW.out⟩
  · go_enter Tryz.func171, Tryz.ntmps171
    go_wp2_with fail
    refine (wput_any _ _ H.out (by show t.length + 1 ≤ _; omega) (by omega)).mono ?_
    rintro e w2 ⟨rfl, hw⟩
    have HW := Lib.hid hw
    clear hw
    go_wp2_with fail
    go_ret
    exact ⟨rfl, HW.out⟩

set_option maxHeartbeats 1000000 in
set_option maxRecDepth 100000 in
theorem wDone_any {B p : Nat} {A : Option Addr} {t : List UInt8} (w : World) (h : Wr B p A t w) (h0 : t ≠ []) :
    Calls Tryz.prog 90 #[.pointer (some ⟨p, 0, none⟩)] w fun e w' => e = .returned (.tuple #[.string ⟨t.toArray⟩, .int .i64 0]) ∧ Chg (WrS p A) w w' := by
  have H := Lib.hid h
  obtain ⟨hB, a, n, c, hb, ha, hn, hown⟩ := h
  have hc := fun i => hb.cell i
  have H0 := Lib.hid h0
  clear ha hn hown h0
  go_enter Tryz.func90, Tryz.ntmps90
  go_wp2_with (go_at_call 134; refine (string_any _ H.out H0.out).mono ?_; rintro e w2 ⟨rfl, hw⟩; have HW := Lib.hid hw; clear hw)
  go_ret2
  exact ⟨rfl, HW.out⟩

theorem wNum_int {B p : Nat} {A : Option Addr} {t : List UInt8} (x : Int) (w : World) (h : Wr B p A t w) (h0 : 0 ≤ x) (hn : x ≤ 2147483648) (hl : t.length ≤ 1000000000000) (hBw : B ≤ w.heap.size) :
    Calls Tryz.prog 88 #[.pointer (some ⟨p, 0, none⟩), .int .i64 x] w fun e w' => e = .returned (.pointer (some ⟨p, 0, none⟩)) ∧ WrTo B p A (t ++ vbytes x.toNat) w w' := by
  obtain ⟨n, rfl⟩ := Int.eq_ofNat_of_zero_le h0
  exact wNum_any n w h (by omega) hl hBw
theorem wBig_int {B p : Nat} {A : Option Addr} {t : List UInt8} (x : Int) (w : World) (h : Wr B p A t w) (h0 : 0 ≤ x) (hn : x.toNat < 256 ^ 8) (hl : t.length ≤ 1000000000000) (hBw : B ≤ w.heap.size) :
    Calls Tryz.prog 132 #[.pointer (some ⟨p, 0, none⟩), .int .u64 x] w fun e w' => e = .returned (.pointer (some ⟨p, 0, none⟩)) ∧ WrTo B p A (t ++ vbytes x.toNat) w w' := by
  obtain ⟨n, rfl⟩ := Int.eq_ofNat_of_zero_le h0
  exact wBig_any n w h hn hl hBw
end Go.Proofs.YtmlnjeoibpffoaaGreat
