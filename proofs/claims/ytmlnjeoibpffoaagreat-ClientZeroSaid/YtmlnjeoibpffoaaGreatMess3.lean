/- mess.Put: a message's bytes, kind by kind. -/
import Derived.Test.YtmlnjeoibpffoaaGreatMess2
import Derived.Deep.RegionHeld3
namespace Go.Proofs.YtmlnjeoibpffoaaGreat
open Go.RowKit
set_option linter.unusedVariables false
set_option linter.unusedSimpArgs false

theorem Wr.neIt {B p k pos : Nat} {A : Option Addr} {t : List UInt8} {w : World} {s : ByteArray} (h : Wr B p A t w) (hi : It w k s pos) : ¬ WrS p A k := by
  obtain ⟨_, a, n, c, hb, _, _, ho⟩ := h
  rintro (e | e)
  · subst e; exact hi.ne hb rfl
  · rcases ho.2 with ⟨hv, _⟩ | ⟨g', cap, cur, hv, _, hg', _⟩
    · injection hv with e1; subst e1; cases e
    · injection hv with e1; subst e1; cases e; exact hi.ne (t := 5) (cs := cur) hg' rfl
theorem Wr.from_ {B p : Nat} {A : Option Addr} {t : List UInt8} {w : World} (h : Wr B p A t w) {H : Nat} (hH : H ≤ B) : ∀ b, WrS p A b → H ≤ b := by
  rintro b (e | e)
  · have := h.1; omega
  · have := (h.buf e).1; omega
theorem Wr.base_le {B p : Nat} {A : Option Addr} {t : List UInt8} {w : World} (h : Wr B p A t w) : B ≤ w.heap.size := Nat.le_of_lt (Nat.lt_of_le_of_lt h.1 h.lt)

set_option maxHeartbeats 4000000 in
set_option maxRecDepth 100000 in
theorem put_11 (m : MV) (pA : Option Addr) (pn pk : Nat) (w : World) (h0r : 0 ≤ m.req) (h1r : m.req ≤ 1073741824) (h0a : 0 ≤ m.ts) (h1a : m.ts.toNat < 256 ^ 8) :
    Calls Tryz.prog 53 #[.agg #[.int .i64 11, .int .i64 m.ep, .int .i64 m.req, .int .i64 m.ser, .bool m.fl, .int .u64 m.ts, .int .u64 m.last, .int .i64 m.n, .int .i64 m.m, .int .i64 m.p, .int .i64 m.e, .string m.key, .string m.to, .int .i64 m.ce, .slice m.cA m.cn m.cc, .int .u64 m.cf, .int .i64 m.bc, .int .i64 m.bq, .slice m.bA m.bn m.bk, .slice m.eA m.en m.ek, .slice m.sA m.sn m.sk, .slice pA pn pk]] w fun e w' => e = .returned (.tuple #[.string ⟨([] ++ vbytes 11 ++ vbytes m.req.toNat ++ vbytes m.ts.toNat).toArray⟩, .int .i64 0]) ∧ Bel w.heap.size w w' := by
  have HC := Lib.hid (fun W => check_11 m pA pn pk W h0r h1r)
  have HM : Hid (Blk (w.alloc (.cells #[.int .i64 11, .int .i64 m.ep, .int .i64 m.req, .int .i64 m.ser, .bool m.fl, .int .u64 m.ts, .int .u64 m.last, .int .i64 m.n, .int .i64 m.m, .int .i64 m.p, .int .i64 m.e, .string m.key, .string m.to, .int .i64 m.ce, .slice m.cA m.cn m.cc, .int .u64 m.cf, .int .i64 m.bc, .int .i64 m.bq, .slice m.bA m.bn m.bk, .slice m.eA m.en m.ek, .slice m.sA m.sn m.sk, .slice pA pn pk] 57)) w.heap.size 57 #[.int .i64 11, .int .i64 m.ep, .int .i64 m.req, .int .i64 m.ser, .bool m.fl, .int .u64 m.ts, .int .u64 m.last, .int .i64 m.n, .int .i64 m.m, .int .i64 m.p, .int .i64 m.e, .string m.key, .string m.to, .int .i64 m.ce, .slice m.cA m.cn m.cc, .int .u64 m.cf, .int .i64 m.bc, .int .i64 m.bq, .slice m.bA m.bn m.bk, .slice m.eA m.en m.ek, .slice m.sA m.sn m.sk, .slice pA pn pk]) := Lib.hid (Blk.new _ _ _)
  have HLr := Lib.hid (show (vbytes m.req.toNat).length ≤ 20 from by have := vbytes_len (n := m.req.toNat) (by omega); omega)
  have HLa := Lib.hid (show (vbytes m.ts.toNat).length ≤ 20 from by have := vbytes_len (n := m.ts.toNat) (by omega); omega)
  go_enter Tryz.func53, Tryz.ntmps53
  go_wp2_with (first | (refine wpList_get rfl 57 (.tmp 1) rfl (g := w.heap.size) (t := 57) (cs := #[.int .i64 11, .int .i64 m.ep, .int .i64 m.req, .int .i64 m.ser, .bool m.fl, .int .u64 m.ts, .int .u64 m.last, .int .i64 m.n, .int .i64 m.m, .int .i64 m.p, .int .i64 m.e, .string m.key, .string m.to, .int .i64 m.ce, .slice m.cA m.cn m.cc, .int .u64 m.cf, .int .i64 m.bc, .int .i64 m.bq, .slice m.bA m.bn m.bk, .slice m.eA m.en m.ek, .slice m.sA m.sn m.sk, .slice pA pn pk]) ?_ ?_ rowMsg ?_; rfl; exact HM.out) | (go_at_call 66; refine (HC.out _).mono ?_; rintro e w1 ⟨rfl, hb⟩; have HM1 := Lib.hid (hb.blk HM.out HM.out.lt); have HB1 := Lib.hid (((Bel.refl _ w).alloc (Nat.le_refl _) _).call hb (Nat.le_refl _)); have hc1 := fun i => HM1.out.cell i; have lm1 := HM1.out.lt; clear hb) | (go_at_call 61; refine (parts_11 _).mono ?_; rintro e w2 ⟨rfl, hb⟩; have HM2 := Lib.hid (hb.blk HM1.out HM1.out.lt); have HB2 := Lib.hid (HB1.out.call hb (Nat.le_refl _)); have c2 := HM2.out.cell 0; have lm2 := HM2.out.lt; clear hb hc1))
  go_region_held3 (fun w' => w'.cell? ⟨w.heap.size, 0, none⟩ = some (.int .i64 11)) (first | go_keep)
    (first
      | (go_at_call 87; refine (wireNew_any _).mono ?_; rintro e wn ⟨rfl, hw, hb⟩; have HWn := Lib.hid hw; have HMn := Lib.hid (hb.blk (show Blk w2.drew w.heap.size 57 #[.int .i64 11, .int .i64 m.ep, .int .i64 m.req, .int .i64 m.ser, .bool m.fl, .int .u64 m.ts, .int .u64 m.last, .int .i64 m.n, .int .i64 m.m, .int .i64 m.p, .int .i64 m.e, .string m.key, .string m.to, .int .i64 m.ce, .slice m.cA m.cn m.cc, .int .u64 m.cf, .int .i64 m.bc, .int .i64 m.bq, .slice m.bA m.bn m.bk, .slice m.eA m.en m.ek, .slice m.sA m.sn m.sk, .slice pA pn pk] from HM2.out) HM2.out.lt); have HBn := Lib.hid (HB2.out.drew.call hb (Nat.le_refl _)); have dn : wn.cell? ⟨w.heap.size, 0, none⟩ = some (.int .i64 11) := HMn.out.cell 0; clear hw hb)
      | (go_at_call 88; refine (wNum_int _ _ HWn.out (by omega) (by omega) (by simp) HWn.out.base_le).mono ?_; rintro e wm ⟨rfl, hw⟩; obtain ⟨A0, h1, h2, h3⟩ := hw; have HR0 := Lib.hid h1; have HM3 := Lib.hid (h2.blk HMn.out (HWn.out.ne HMn.out (by decide) (by decide))); have HB3 := Lib.hid (HBn.out.trans (h2.bel HBn.out.size (HWn.out.from_ (Nat.le_trans HB2.out.size (Nat.le_refl _))))); have dm : wm.cell? ⟨w.heap.size, 0, none⟩ = some (.int .i64 11) := HM3.out.cell 0; clear h1 h2 h3 dn))
  have HT0 : Hid (Wr w2.heap.size w2.heap.size A0 ([] ++ vbytes 11) wm) := Lib.hid HR0.out
  have lpw : w.heap.size < w2.heap.size := lm2
  have HL0 : Hid (([] ++ vbytes 11).length ≤ 20) := Lib.hid (by have := vbytes_len (n := 11) (by omega); simp; omega)
  clear dm c2 HR0 HWn HMn HBn
  go_wp2_with fail
  have HI0 : Hid (It (wm.iter ⟨#[114, 97]⟩ 0) wm.heap.size ⟨#[114, 97]⟩ 0) := Lib.hid (It.new _ _)
  have HT0' := Lib.hid (HT0.out.alloc (.stringIter ⟨#[114, 97]⟩ 0))
  have HM0 : Hid (Blk (wm.iter ⟨#[114, 97]⟩ 0) w.heap.size 57 #[.int .i64 11, .int .i64 m.ep, .int .i64 m.req, .int .i64 m.ser, .bool m.fl, .int .u64 m.ts, .int .u64 m.last, .int .i64 m.n, .int .i64 m.m, .int .i64 m.p, .int .i64 m.e, .string m.key, .string m.to, .int .i64 m.ce, .slice m.cA m.cn m.cc, .int .u64 m.cf, .int .i64 m.bc, .int .i64 m.bq, .slice m.bA m.bn m.bk, .slice m.eA m.en m.ek, .slice m.sA m.sn m.sk, .slice pA pn pk]) := Lib.hid (HM3.out.alloc _)
  have HW0 : Hid (Bel w.heap.size w (wm.iter ⟨#[114, 97]⟩ 0)) := Lib.hid (HB3.out.alloc (Nat.le_refl _) _)
  refine wp_loop_rounds 3 ?_
  rw [rounds_succ]
  go_wp2_with (first | (refine wpList_next rfl (.tmp 26) rfl wm.heap.size ⟨#[114, 97]⟩ 0 114 rfl ?_ rfl (by decide) ?_; exact HI0.out; intro wa0 hi hc hs; have HJ0 := Lib.hid hi; have HN0 := Lib.hid (hc.blk HM0.out (HI0.out.ne HM0.out)); have HV0 := Lib.hid (HW0.out.trans (hc.bel HW0.out.size (fun b e => by have := HB3.out.size; omega))); have HU0 := Lib.hid (HT0'.out.chg hc (fun b hb e => HT0'.out.neIt HI0.out (e ▸ hb))); clear hi hc hs) | (refine wpList_get rfl 57 (.tmp 1) rfl (g := w.heap.size) (t := 57) (cs := #[.int .i64 11, .int .i64 m.ep, .int .i64 m.req, .int .i64 m.ser, .bool m.fl, .int .u64 m.ts, .int .u64 m.last, .int .i64 m.n, .int .i64 m.m, .int .i64 m.p, .int .i64 m.e, .string m.key, .string m.to, .int .i64 m.ce, .slice m.cA m.cn m.cc, .int .u64 m.cf, .int .i64 m.bc, .int .i64 m.bq, .slice m.bA m.bn m.bk, .slice m.eA m.en m.ek, .slice m.sA m.sn m.sk, .slice pA pn pk]) ?_ ?_ rowMsg ?_; rfl; exact HN0.out))
  refine (write_r { m with k := 11 } pA pn pk _ HU0.out h0r h1r (by have := HL0.out; omega) HU0.out.base_le).mono ?_
  rintro e wb0 ⟨rfl, hw⟩
  obtain ⟨A1, h1, h2, h3⟩ := hw
  have HT1 := Lib.hid h1
  have HM1 := Lib.hid (h2.blk HN0.out (HU0.out.ne HN0.out (by decide) (by decide)))
  have HI1 := Lib.hid (HJ0.out.chg h2 (HU0.out.neIt HJ0.out))
  have HW1 := Lib.hid (HV0.out.trans (h2.bel HV0.out.size (HU0.out.from_ (Nat.le_of_lt lpw))))
  have HL1 : Hid (([] ++ vbytes 11 ++ vbytes m.req.toNat).length ≤ 40) := Lib.hid (by have h1 := HL0.out; have h2 := HLr.out; simp only [List.length_append] at h1 h2 ⊢; omega)
  clear h1 h2 h3 HM0 HI0 HW0 HJ0 HN0 HV0 HU0 HT0' HL0
  go_wp2_with fail
  rw [rounds_succ]
  go_wp2_with (first | (refine wpList_next rfl (.tmp 26) rfl wm.heap.size ⟨#[114, 97]⟩ 1 97 rfl ?_ rfl (by decide) ?_; exact HI1.out; intro wa1 hi hc hs; have HJ1 := Lib.hid hi; have HN1 := Lib.hid (hc.blk HM1.out (HI1.out.ne HM1.out)); have HV1 := Lib.hid (HW1.out.trans (hc.bel HW1.out.size (fun b e => by have := HB3.out.size; omega))); have HU1 := Lib.hid (HT1.out.chg hc (fun b hb e => HT1.out.neIt HI1.out (e ▸ hb))); clear hi hc hs) | (refine wpList_get rfl 57 (.tmp 1) rfl (g := w.heap.size) (t := 57) (cs := #[.int .i64 11, .int .i64 m.ep, .int .i64 m.req, .int .i64 m.ser, .bool m.fl, .int .u64 m.ts, .int .u64 m.last, .int .i64 m.n, .int .i64 m.m, .int .i64 m.p, .int .i64 m.e, .string m.key, .string m.to, .int .i64 m.ce, .slice m.cA m.cn m.cc, .int .u64 m.cf, .int .i64 m.bc, .int .i64 m.bq, .slice m.bA m.bn m.bk, .slice m.eA m.en m.ek, .slice m.sA m.sn m.sk, .slice pA pn pk]) ?_ ?_ rowMsg ?_; rfl; exact HN1.out))
  refine (write_a { m with k := 11 } pA pn pk _ HU1.out h0a h1a (by have := HL1.out; omega) HU1.out.base_le).mono ?_
  rintro e wb1 ⟨rfl, hw⟩
  obtain ⟨A2, h1, h2, h3⟩ := hw
  have HT2 := Lib.hid h1
  have HM2 := Lib.hid (h2.blk HN1.out (HU1.out.ne HN1.out (by decide) (by decide)))
  have HI2 := Lib.hid (HJ1.out.chg h2 (HU1.out.neIt HJ1.out))
  have HW2 := Lib.hid (HV1.out.trans (h2.bel HV1.out.size (HU1.out.from_ (Nat.le_of_lt lpw))))
  have HL2 : Hid (([] ++ vbytes 11 ++ vbytes m.req.toNat ++ vbytes m.ts.toNat).length ≤ 60) := Lib.hid (by have h1 := HL1.out; have h2 := HLa.out; simp only [List.length_append] at h1 h2 ⊢; omega)
  clear h1 h2 h3 HM1 HI1 HW1 HJ1 HN1 HV1 HU1 HT1 HL1
  go_wp2_with fail
  rw [rounds_succ]
  go_wp2_with (refine wpList_next_end rfl (.tmp 26) rfl wm.heap.size ⟨#[114, 97]⟩ 2 rfl ?_ (by decide) ?_; exact HI2.out)
  refine (wDone_any _ HT2.out (by simp [vbytes])).mono ?_
  rintro e we ⟨rfl, hc⟩
  have HE := Lib.hid (HW2.out.trans (hc.bel HW2.out.size (HT2.out.from_ (Nat.le_of_lt lpw))))
  clear hc
  go_wp2_with fail
  go_ret2
  exact ⟨rfl, HE.out⟩
end Go.Proofs.YtmlnjeoibpffoaaGreat
