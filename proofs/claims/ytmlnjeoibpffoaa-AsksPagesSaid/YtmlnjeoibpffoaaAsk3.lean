import Derived.Test.YtmlnjeoibpffoaaAsk2
import Derived.Test.YtmlnjeoibpffoaaClone
namespace Go.Proofs.Ytmlnjeoibpffoaa
open Go.RowKit
set_option linter.unusedVariables false
set_option linter.unusedSimpArgs false

theorem pageSize_bd {n : Int} {len : Nat} (h : (len : Int) < n) : 1 ≤ pageSize n len ∧ pageSize n len ≤ 2 := by unfold pageSize; split <;> omega
theorem chg_two {A : Option Addr} {p r : Nat} {w w1 w2 : World} (h : Chg (fun b => A.map (·.block) = some b) w w1) (k : Chg (fun b => b = p ∨ b = r) w1 w2) : Chg (fun b => b = p ∨ b = r ∨ A.map (·.block) = some b) w w2 :=
  (h.mono (S' := fun b => b = p ∨ b = r ∨ A.map (·.block) = some b) fun b e => .inr (.inr e)).trans k fun b e => .inl (e.elim .inl fun e => .inr (.inl e))

set_option maxHeartbeats 4000000 in
set_option maxRecDepth 100000 in
theorem page_end1 {c q : Int} {Ao : Option Addr} {no co : Nat} {a : AskD} {Aq : Option Addr} {na cq : Nat} {ts : Int} {key : ByteArray} {A : Option Addr} {n cap : Nat} {B : Nat} {ph : Value} {waits : Int} {S : Nat → Prop} {pA : Option Addr} {pn pk : Nat} (p r : Nat) (w : World) (m : MV) (mps prs : List PairD)
    (hP : Blk w p 77 #[ph, .int .i64 q, .int .i64 waits, .bool false, .int .i64 0, .int .i64 0, .int .u64 0, .int .i64 0, .slice none 0 0]) (hR : Blk w r 82 #[.int .i64 c, .int .i64 q, .slice Ao no co, .int .i64 a.k, .int .i64 a.node, .string a.key, .string a.to, .int .u64 a.ts, .int .i64 a.n, .slice Aq na cq, .int .u64 ts, .string key, .slice A n cap]) (ho : SlO PairD.enc B 27 2 w A n cap prs) (hm : SlR PairD.enc S w pA pn mps)
    (hS : ∀ b, S b → b < w.heap.size ∧ A.map (·.block) ≠ some b ∧ b ≠ p ∧ b ≠ r) (hmc : pn ≤ pk) (hmn : pn ≤ 1000000000) (ha : (n : Int) < a.n) (ha2 : a.n ≤ 32) (ln : Nat) (hln : (ln : Int) = min (pn : Int) (pageSize a.n n)) (hB : B ≤ w.heap.size) :
    Calls Try.prog 93 #[.pointer (some ⟨r, 0, none⟩), .pointer (some ⟨p, 0, none⟩), .agg #[.int .i64 m.k, .int .i64 m.ep, .int .i64 m.req, .int .i64 m.ser, .bool false, .int .u64 m.ts, .int .u64 m.last, .int .i64 m.n, .int .i64 m.m, .int .i64 m.p, .int .i64 m.e, .string m.key, .string m.to, .int .i64 m.ce, .slice m.cA m.cn m.cc, .int .u64 m.cf, .int .i64 m.bc, .int .i64 m.bq, .slice m.bA m.bn m.bk, .slice m.eA m.en m.ek, .slice m.sA m.sn m.sk, .slice pA pn pk]] w fun e w' => ∃ A' c', e = .returned (.bool false) ∧
      Blk w' p 77 #[ph, .int .i64 q, .int .i64 0, .bool true, .int .i64 q, .int .i64 0, .int .u64 ts, .int .i64 0, .slice A' (n + ln) c'] ∧ SlO PairD.enc B 27 2 w' A' (n + ln) c' (prs ++ mps.take ln) ∧
      Chg (fun b => b = p ∨ b = r ∨ A.map (·.block) = some b) w w' := by
  obtain ⟨z1, z2⟩ := pageSize_bd ha
  have HO := Lib.hid ho
  have HBLE := Lib.hid hB
  have NR := Lib.hid (ho.neBlk hR (by decide))
  have NP := Lib.hid (ho.neBlk hP (by decide))
  have NM : Hid (A.map (·.block) ≠ some w.heap.size) := Lib.hid (fun e => Nat.lt_irrefl _ (ho.lt e).2)
  have HL : Hid (ln ≤ mps.length) := Lib.hid (by have := hm.1; omega)
  have HLN : Hid (((mps.take ln).flatMap PairD.enc).length = ln * 2) := Lib.hid (by rw [flat_len PairD.len, List.length_take, Nat.min_eq_left HL.out])
  have HRD : Hid (Rd (· < w.heap.size) w pA ((mps.take ln).flatMap PairD.enc)) := Lib.hid (by rw [← flat_take PairD.len]; exact (hm.2.take _).mono fun b hb => (hS b hb).1)
  have hcp := fun i => hP.cell i
  have hfp := fun i => hP.frozen i
  have hcr := fun i => hR.cell i
  have hfr := fun i => hR.frozen i
  have lp := hP.lt
  have lr := hR.lt
  have npr : p ≠ r := Blk.ne_ hP hR (by decide)
  have nrp : r ≠ p := npr.symm
  have HNP := Lib.hid npr
  have hn32 : n ≤ 32 := by omega
  clear ho hm hB
  obtain ⟨sz, hsz⟩ : ∃ sz : Int, sz = pageSize a.n n := ⟨_, rfl⟩
  rw [← hsz] at z1 z2 hln
  have HSZ := Lib.hid (show ∀ W, Blk W r 82 #[.int .i64 c, .int .i64 q, .slice Ao no co, .int .i64 a.k, .int .i64 a.node, .string a.key, .string a.to, .int .u64 a.ts, .int .i64 a.n, .slice Aq na cq, .int .u64 ts, .string key, .slice A n cap] → Calls Try.prog 91 #[.pointer (some ⟨r, 0, none⟩)] W fun e w' => e = .returned (.int .i64 sz) ∧ ∃ m, w' = W.drewN m from fun W h => by rw [hsz]; exact readingSize_any r W h (by omega) (by omega))
  clear hsz
  by_cases hle : (pn : Int) ≤ sz
  · obtain rfl : ln = pn := by omega
    clear hln
    go_enter Try.func93, Try.ntmps93
    go_wp2_with fail
    go_quiet ((go_at_call 91; exact Calls.quiet_of (HSZ.out _ (by exact hR.alloc _))))
    go_wp2_with (at_builtin; refine wpList_app _ ?_ (.tmp 22) (.tmp 23) eiPair ?_ (base := B) (A := A) (n := n) (c := cap) (xs := prs.flatMap PairD.enc) ?_ ?_ (S := (· < w.heap.size)) (A2 := pA) (m := ln) (c2 := pk) (news := (mps.take ln).flatMap PairD.enc) ?_ ?_ HLN.out (one_flat PairD.one _) (N := n + ln) rfl (by omega) ?_ ?_; rfl; rfl; rfl; exact (HO.out.alloc _).2; rfl; exact HRD.out.bel ((Bel.refl _ w).alloc (Nat.le_refl _) _); exact (by have := HBLE.out; simp; omega); intro A1 c1 w1 hown1 hgrow1 hat1; have hR1 : Blk w1 r 82 #[.int .i64 c, .int .i64 q, .slice Ao no co, .int .i64 a.k, .int .i64 a.node, .string a.key, .string a.to, .int .u64 a.ts, .int .i64 a.n, .slice Aq na cq, .int .u64 ts, .string key, .slice A n cap] := Blk.grown (by repeat (with_reducible first | exact hR | apply Blk.drew | apply Blk.drewN | apply Blk.alloc)) hgrow1 (Ne.symm NR.out); have hP1 : Blk w1 p 77 #[ph, .int .i64 q, .int .i64 waits, .bool false, .int .i64 0, .int .i64 0, .int .u64 0, .int .i64 0, .slice none 0 0] := Blk.grown (by repeat (with_reducible first | exact hP | apply Blk.drew | apply Blk.drewN | apply Blk.alloc)) hgrow1 (Ne.symm NP.out); have hM1 : Blk w1 w.heap.size 52 #[.int .i64 m.k, .int .i64 m.ep, .int .i64 m.req, .int .i64 m.ser, .bool false, .int .u64 m.ts, .int .u64 m.last, .int .i64 m.n, .int .i64 m.m, .int .i64 m.p, .int .i64 m.e, .string m.key, .string m.to, .int .i64 m.ce, .slice m.cA m.cn m.cc, .int .u64 m.cf, .int .i64 m.bc, .int .i64 m.bq, .slice m.bA m.bn m.bk, .slice m.eA m.en m.ek, .slice m.sA m.sn m.sk, .slice pA ln pk] := Blk.grown (by repeat (with_reducible first | exact Blk.new _ _ _ | apply Blk.drew | apply Blk.drewN | apply Blk.alloc)) hgrow1 (Ne.symm NM.out); have dR1 := fun i => hR1.cell i; have fR1 := fun i => hR1.frozen i; have dP1 := fun i => hP1.cell i; have fP1 := fun i => hP1.frozen i; have dM1 := fun i => hM1.cell i; replace hat1 := Lib.hid hat1)
    go_quiet (fail)
    go_wp2_with fail
    refine wp_quiet_tail 10 (by kernel_rfl) (by kernel_rfl) ?_
    simp only [List.take_succ_cons, List.take_zero, List.drop_succ_cons, List.drop_zero]
    repeat (any_goals (go_big_quiet_step (fail)))
    refine wpQuiet_nil ?_
    intro wq hwq
    obtain ⟨mq, rfl⟩ := hwq
    go_wp2_with fail
    refine (taskEnd_any p _ _ _ _ _ _ _ _ (ph := ph) (q := q) (waits := 0) (by apply Blk.conv; (repeat (first | (with_reducible first | exact hP1 | apply Blk.drew | apply Blk.drewN | apply Blk.alloc | apply Blk.set_) | (apply Blk.far (hp := HNP.out)))); rfl)).mono ?_
    rintro e w2 ⟨rfl, hP2, hc2⟩
    go_wp2_with fail
    go_ret
    have hC01 : Chg (fun b => A.map (·.block) = some b) w w1 := Chg.grown (by repeat (first | (with_reducible exact Chg.refl _ _) | (with_reducible apply Chg.drew) | (with_reducible apply Chg.drewN) | (with_reducible apply Chg.alloc) | (with_reducible apply Chg.setCell; rotate_left; (first | exact .inl rfl | exact .inr (Nat.le_refl _))))) hgrow1 (fun g hg => .inl hg)
    have hC12 : Chg (fun b => b = p ∨ b = r) w1 w2 := Chg.trans (by repeat (first | (with_reducible exact Chg.refl _ _) | (with_reducible apply Chg.drew) | (with_reducible apply Chg.drewN) | (with_reducible apply Chg.alloc) | (with_reducible apply Chg.setCell; rotate_left; (first | exact .inl (.inl rfl) | exact .inl (.inr rfl))))) hc2 (fun b e => .inl (.inl e))
    have hs1 : SlO PairD.enc B 27 2 w1 A1 (n + ln) c1 (prs ++ mps.take ln) := SlO.app (by rw [List.length_take, Nat.min_eq_left HL.out, HO.out.1]) hown1
    exact ⟨A1, c1, rfl, hP2, hs1.chg hC12 (fun b hb e => by rcases e with rfl | rfl; exact hs1.neBlk hP1 (by decide) hb; exact hs1.neBlk hR1 (by decide) hb), chg_two hC01 hC12⟩

  · obtain rfl : sz = (ln : Int) := by omega
    clear hln
    go_enter Try.func93, Try.ntmps93
    go_wp2_with fail
    go_quiet ((go_at_call 91; exact Calls.quiet_of (HSZ.out _ (by exact hR.alloc _))))
    go_wp2_with (at_builtin; refine wpList_app _ ?_ (.tmp 22) (.tmp 23) eiPair ?_ (base := B) (A := A) (n := n) (c := cap) (xs := prs.flatMap PairD.enc) ?_ ?_ (S := (· < w.heap.size)) (A2 := pA) (m := ln) (c2 := pk) (news := (mps.take ln).flatMap PairD.enc) ?_ ?_ HLN.out (one_flat PairD.one _) (N := n + ln) rfl (by omega) ?_ ?_; rfl; rfl; rfl; exact (HO.out.alloc _).2; rfl; exact HRD.out.bel ((Bel.refl _ w).alloc (Nat.le_refl _) _); exact (by have := HBLE.out; simp; omega); intro A1 c1 w1 hown1 hgrow1 hat1; have hR1 : Blk w1 r 82 #[.int .i64 c, .int .i64 q, .slice Ao no co, .int .i64 a.k, .int .i64 a.node, .string a.key, .string a.to, .int .u64 a.ts, .int .i64 a.n, .slice Aq na cq, .int .u64 ts, .string key, .slice A n cap] := Blk.grown (by repeat (with_reducible first | exact hR | apply Blk.drew | apply Blk.drewN | apply Blk.alloc)) hgrow1 (Ne.symm NR.out); have hP1 : Blk w1 p 77 #[ph, .int .i64 q, .int .i64 waits, .bool false, .int .i64 0, .int .i64 0, .int .u64 0, .int .i64 0, .slice none 0 0] := Blk.grown (by repeat (with_reducible first | exact hP | apply Blk.drew | apply Blk.drewN | apply Blk.alloc)) hgrow1 (Ne.symm NP.out); have hM1 : Blk w1 w.heap.size 52 #[.int .i64 m.k, .int .i64 m.ep, .int .i64 m.req, .int .i64 m.ser, .bool false, .int .u64 m.ts, .int .u64 m.last, .int .i64 m.n, .int .i64 m.m, .int .i64 m.p, .int .i64 m.e, .string m.key, .string m.to, .int .i64 m.ce, .slice m.cA m.cn m.cc, .int .u64 m.cf, .int .i64 m.bc, .int .i64 m.bq, .slice m.bA m.bn m.bk, .slice m.eA m.en m.ek, .slice m.sA m.sn m.sk, .slice pA pn pk] := Blk.grown (by repeat (with_reducible first | exact Blk.new _ _ _ | apply Blk.drew | apply Blk.drewN | apply Blk.alloc)) hgrow1 (Ne.symm NM.out); have dR1 := fun i => hR1.cell i; have fR1 := fun i => hR1.frozen i; have dP1 := fun i => hP1.cell i; have fP1 := fun i => hP1.frozen i; have dM1 := fun i => hM1.cell i; replace hat1 := Lib.hid hat1)
    go_quiet (fail)
    go_wp2_with fail
    refine wp_quiet_tail 10 (by kernel_rfl) (by kernel_rfl) ?_
    simp only [List.take_succ_cons, List.take_zero, List.drop_succ_cons, List.drop_zero]
    repeat (any_goals (go_big_quiet_step (fail)))
    refine wpQuiet_nil ?_
    intro wq hwq
    obtain ⟨mq, rfl⟩ := hwq
    go_wp2_with fail
    refine (taskEnd_any p _ _ _ _ _ _ _ _ (ph := ph) (q := q) (waits := 0) (by apply Blk.conv; (repeat (first | (with_reducible first | exact hP1 | apply Blk.drew | apply Blk.drewN | apply Blk.alloc | apply Blk.set_) | (apply Blk.far (hp := HNP.out)))); rfl)).mono ?_
    rintro e w2 ⟨rfl, hP2, hc2⟩
    go_wp2_with fail
    go_ret
    have hC01 : Chg (fun b => A.map (·.block) = some b) w w1 := Chg.grown (by repeat (first | (with_reducible exact Chg.refl _ _) | (with_reducible apply Chg.drew) | (with_reducible apply Chg.drewN) | (with_reducible apply Chg.alloc) | (with_reducible apply Chg.setCell; rotate_left; (first | exact .inl rfl | exact .inr (Nat.le_refl _))))) hgrow1 (fun g hg => .inl hg)
    have hC12 : Chg (fun b => b = p ∨ b = r) w1 w2 := Chg.trans (by repeat (first | (with_reducible exact Chg.refl _ _) | (with_reducible apply Chg.drew) | (with_reducible apply Chg.drewN) | (with_reducible apply Chg.alloc) | (with_reducible apply Chg.setCell; rotate_left; (first | exact .inl (.inl rfl) | exact .inl (.inr rfl))))) hc2 (fun b e => .inl (.inl e))
    have hs1 : SlO PairD.enc B 27 2 w1 A1 (n + ln) c1 (prs ++ mps.take ln) := SlO.app (by rw [List.length_take, Nat.min_eq_left HL.out, HO.out.1]) hown1
    exact ⟨A1, c1, rfl, hP2, hs1.chg hC12 (fun b hb e => by rcases e with rfl | rfl; exact hs1.neBlk hP1 (by decide) hb; exact hs1.neBlk hR1 (by decide) hb), chg_two hC01 hC12⟩


set_option maxHeartbeats 4000000 in
set_option maxRecDepth 100000 in
theorem page_end2 {c q : Int} {Ao : Option Addr} {no co : Nat} {a : AskD} {Aq : Option Addr} {na cq : Nat} {ts : Int} {key : ByteArray} {A : Option Addr} {n cap : Nat} {B : Nat} {ph : Value} {waits : Int} {S : Nat → Prop} {pA : Option Addr} {pn pk : Nat} (p r : Nat) (w : World) (m : MV) (mps prs : List PairD)
    (hP : Blk w p 77 #[ph, .int .i64 q, .int .i64 waits, .bool false, .int .i64 0, .int .i64 0, .int .u64 0, .int .i64 0, .slice none 0 0]) (hR : Blk w r 82 #[.int .i64 c, .int .i64 q, .slice Ao no co, .int .i64 a.k, .int .i64 a.node, .string a.key, .string a.to, .int .u64 a.ts, .int .i64 a.n, .slice Aq na cq, .int .u64 ts, .string key, .slice A n cap]) (ho : SlO PairD.enc B 27 2 w A n cap prs) (hm : SlR PairD.enc S w pA pn mps)
    (hS : ∀ b, S b → b < w.heap.size ∧ A.map (·.block) ≠ some b ∧ b ≠ p ∧ b ≠ r) (hmc : pn ≤ pk) (hmn : pn ≤ 1000000000) (ha : (n : Int) < a.n) (ha2 : a.n ≤ 32) (ln : Nat) (hln : (ln : Int) = min (pn : Int) (pageSize a.n n)) (h0 : ln = 0) (hB : B ≤ w.heap.size) :
    Calls Try.prog 93 #[.pointer (some ⟨r, 0, none⟩), .pointer (some ⟨p, 0, none⟩), .agg #[.int .i64 m.k, .int .i64 m.ep, .int .i64 m.req, .int .i64 m.ser, .bool true, .int .u64 m.ts, .int .u64 m.last, .int .i64 m.n, .int .i64 m.m, .int .i64 m.p, .int .i64 m.e, .string m.key, .string m.to, .int .i64 m.ce, .slice m.cA m.cn m.cc, .int .u64 m.cf, .int .i64 m.bc, .int .i64 m.bq, .slice m.bA m.bn m.bk, .slice m.eA m.en m.ek, .slice m.sA m.sn m.sk, .slice pA pn pk]] w fun e w' => ∃ A' c', e = .returned (.bool false) ∧
      Blk w' p 77 #[ph, .int .i64 q, .int .i64 0, .bool true, .int .i64 q, .int .i64 0, .int .u64 ts, .int .i64 0, .slice A' (n + ln) c'] ∧ SlO PairD.enc B 27 2 w' A' (n + ln) c' (prs ++ mps.take ln) ∧
      Chg (fun b => b = p ∨ b = r ∨ A.map (·.block) = some b) w w' := by
  obtain ⟨z1, z2⟩ := pageSize_bd ha
  have HO := Lib.hid ho
  have HBLE := Lib.hid hB
  have NR := Lib.hid (ho.neBlk hR (by decide))
  have NP := Lib.hid (ho.neBlk hP (by decide))
  have NM : Hid (A.map (·.block) ≠ some w.heap.size) := Lib.hid (fun e => Nat.lt_irrefl _ (ho.lt e).2)
  have HL : Hid (ln ≤ mps.length) := Lib.hid (by have := hm.1; omega)
  have HLN : Hid (((mps.take ln).flatMap PairD.enc).length = ln * 2) := Lib.hid (by rw [flat_len PairD.len, List.length_take, Nat.min_eq_left HL.out])
  have HRD : Hid (Rd (· < w.heap.size) w pA ((mps.take ln).flatMap PairD.enc)) := Lib.hid (by rw [← flat_take PairD.len]; exact (hm.2.take _).mono fun b hb => (hS b hb).1)
  have hcp := fun i => hP.cell i
  have hfp := fun i => hP.frozen i
  have hcr := fun i => hR.cell i
  have hfr := fun i => hR.frozen i
  have lp := hP.lt
  have lr := hR.lt
  have npr : p ≠ r := Blk.ne_ hP hR (by decide)
  have nrp : r ≠ p := npr.symm
  have HNP := Lib.hid npr
  have hn32 : n ≤ 32 := by omega
  have g0 : decide ((0 : Int) < (ln : Int)) = false := by simp [h0]
  have g0' : decide (0 < ln) = false := by simp [h0]
  have g1 : (ln : Int) ≤ 0 := by omega
  clear h0
  clear ho hm hB
  obtain ⟨sz, hsz⟩ : ∃ sz : Int, sz = pageSize a.n n := ⟨_, rfl⟩
  rw [← hsz] at z1 z2 hln
  have HSZ := Lib.hid (show ∀ W, Blk W r 82 #[.int .i64 c, .int .i64 q, .slice Ao no co, .int .i64 a.k, .int .i64 a.node, .string a.key, .string a.to, .int .u64 a.ts, .int .i64 a.n, .slice Aq na cq, .int .u64 ts, .string key, .slice A n cap] → Calls Try.prog 91 #[.pointer (some ⟨r, 0, none⟩)] W fun e w' => e = .returned (.int .i64 sz) ∧ ∃ m, w' = W.drewN m from fun W h => by rw [hsz]; exact readingSize_any r W h (by omega) (by omega))
  clear hsz
  by_cases hle : (pn : Int) ≤ sz
  · obtain rfl : ln = pn := by omega
    clear hln
    go_enter Try.func93, Try.ntmps93
    go_wp2_with fail
    go_quiet ((go_at_call 91; exact Calls.quiet_of (HSZ.out _ (by exact hR.alloc _))))
    go_wp2_with (at_builtin; refine wpList_app _ ?_ (.tmp 22) (.tmp 23) eiPair ?_ (base := B) (A := A) (n := n) (c := cap) (xs := prs.flatMap PairD.enc) ?_ ?_ (S := (· < w.heap.size)) (A2 := pA) (m := ln) (c2 := pk) (news := (mps.take ln).flatMap PairD.enc) ?_ ?_ HLN.out (one_flat PairD.one _) (N := n + ln) rfl (by omega) ?_ ?_; rfl; rfl; rfl; exact (HO.out.alloc _).2; rfl; exact HRD.out.bel ((Bel.refl _ w).alloc (Nat.le_refl _) _); exact (by have := HBLE.out; simp; omega); intro A1 c1 w1 hown1 hgrow1 hat1; have hR1 : Blk w1 r 82 #[.int .i64 c, .int .i64 q, .slice Ao no co, .int .i64 a.k, .int .i64 a.node, .string a.key, .string a.to, .int .u64 a.ts, .int .i64 a.n, .slice Aq na cq, .int .u64 ts, .string key, .slice A n cap] := Blk.grown (by repeat (with_reducible first | exact hR | apply Blk.drew | apply Blk.drewN | apply Blk.alloc)) hgrow1 (Ne.symm NR.out); have hP1 : Blk w1 p 77 #[ph, .int .i64 q, .int .i64 waits, .bool false, .int .i64 0, .int .i64 0, .int .u64 0, .int .i64 0, .slice none 0 0] := Blk.grown (by repeat (with_reducible first | exact hP | apply Blk.drew | apply Blk.drewN | apply Blk.alloc)) hgrow1 (Ne.symm NP.out); have hM1 : Blk w1 w.heap.size 52 #[.int .i64 m.k, .int .i64 m.ep, .int .i64 m.req, .int .i64 m.ser, .bool true, .int .u64 m.ts, .int .u64 m.last, .int .i64 m.n, .int .i64 m.m, .int .i64 m.p, .int .i64 m.e, .string m.key, .string m.to, .int .i64 m.ce, .slice m.cA m.cn m.cc, .int .u64 m.cf, .int .i64 m.bc, .int .i64 m.bq, .slice m.bA m.bn m.bk, .slice m.eA m.en m.ek, .slice m.sA m.sn m.sk, .slice pA ln pk] := Blk.grown (by repeat (with_reducible first | exact Blk.new _ _ _ | apply Blk.drew | apply Blk.drewN | apply Blk.alloc)) hgrow1 (Ne.symm NM.out); have dR1 := fun i => hR1.cell i; have fR1 := fun i => hR1.frozen i; have dP1 := fun i => hP1.cell i; have fP1 := fun i => hP1.frozen i; have dM1 := fun i => hM1.cell i; replace hat1 := Lib.hid hat1)
    go_quiet (fail)
    go_wp2_with fail
    refine wp_quiet_tail 10 (by kernel_rfl) (by kernel_rfl) ?_
    simp only [List.take_succ_cons, List.take_zero, List.drop_succ_cons, List.drop_zero]
    repeat (any_goals (go_big_quiet_step (fail)))
    refine wpQuiet_nil ?_
    intro wq hwq
    obtain ⟨mq, rfl⟩ := hwq
    go_wp2_with fail
    refine (taskEnd_any p _ _ _ _ _ _ _ _ (ph := ph) (q := q) (waits := 0) (by apply Blk.conv; (repeat (first | (with_reducible first | exact hP1 | apply Blk.drew | apply Blk.drewN | apply Blk.alloc | apply Blk.set_) | (apply Blk.far (hp := HNP.out)))); rfl)).mono ?_
    rintro e w2 ⟨rfl, hP2, hc2⟩
    go_wp2_with fail
    go_ret
    have hC01 : Chg (fun b => A.map (·.block) = some b) w w1 := Chg.grown (by repeat (first | (with_reducible exact Chg.refl _ _) | (with_reducible apply Chg.drew) | (with_reducible apply Chg.drewN) | (with_reducible apply Chg.alloc) | (with_reducible apply Chg.setCell; rotate_left; (first | exact .inl rfl | exact .inr (Nat.le_refl _))))) hgrow1 (fun g hg => .inl hg)
    have hC12 : Chg (fun b => b = p ∨ b = r) w1 w2 := Chg.trans (by repeat (first | (with_reducible exact Chg.refl _ _) | (with_reducible apply Chg.drew) | (with_reducible apply Chg.drewN) | (with_reducible apply Chg.alloc) | (with_reducible apply Chg.setCell; rotate_left; (first | exact .inl (.inl rfl) | exact .inl (.inr rfl))))) hc2 (fun b e => .inl (.inl e))
    have hs1 : SlO PairD.enc B 27 2 w1 A1 (n + ln) c1 (prs ++ mps.take ln) := SlO.app (by rw [List.length_take, Nat.min_eq_left HL.out, HO.out.1]) hown1
    exact ⟨A1, c1, rfl, hP2, hs1.chg hC12 (fun b hb e => by rcases e with rfl | rfl; exact hs1.neBlk hP1 (by decide) hb; exact hs1.neBlk hR1 (by decide) hb), chg_two hC01 hC12⟩

  · obtain rfl : sz = (ln : Int) := by omega
    clear hln
    omega


set_option maxHeartbeats 4000000 in
set_option maxRecDepth 100000 in
theorem page_end3 {c q : Int} {Ao : Option Addr} {no co : Nat} {a : AskD} {Aq : Option Addr} {na cq : Nat} {ts : Int} {key : ByteArray} {A : Option Addr} {n cap : Nat} {B : Nat} {ph : Value} {waits : Int} {S : Nat → Prop} {pA : Option Addr} {pn pk : Nat} (p r : Nat) (w : World) (m : MV) (mps prs : List PairD)
    (hP : Blk w p 77 #[ph, .int .i64 q, .int .i64 waits, .bool false, .int .i64 0, .int .i64 0, .int .u64 0, .int .i64 0, .slice none 0 0]) (hR : Blk w r 82 #[.int .i64 c, .int .i64 q, .slice Ao no co, .int .i64 a.k, .int .i64 a.node, .string a.key, .string a.to, .int .u64 a.ts, .int .i64 a.n, .slice Aq na cq, .int .u64 ts, .string key, .slice A n cap]) (ho : SlO PairD.enc B 27 2 w A n cap prs) (hm : SlR PairD.enc S w pA pn mps)
    (hS : ∀ b, S b → b < w.heap.size ∧ A.map (·.block) ≠ some b ∧ b ≠ p ∧ b ≠ r) (hmc : pn ≤ pk) (hmn : pn ≤ 1000000000) (ha : (n : Int) < a.n) (ha2 : a.n ≤ 32) (ln : Nat) (hln : (ln : Int) = min (pn : Int) (pageSize a.n n)) (h0 : 0 < ln) (h1 : a.n ≤ (n + ln : Nat)) (hB : B ≤ w.heap.size) :
    Calls Try.prog 93 #[.pointer (some ⟨r, 0, none⟩), .pointer (some ⟨p, 0, none⟩), .agg #[.int .i64 m.k, .int .i64 m.ep, .int .i64 m.req, .int .i64 m.ser, .bool true, .int .u64 m.ts, .int .u64 m.last, .int .i64 m.n, .int .i64 m.m, .int .i64 m.p, .int .i64 m.e, .string m.key, .string m.to, .int .i64 m.ce, .slice m.cA m.cn m.cc, .int .u64 m.cf, .int .i64 m.bc, .int .i64 m.bq, .slice m.bA m.bn m.bk, .slice m.eA m.en m.ek, .slice m.sA m.sn m.sk, .slice pA pn pk]] w fun e w' => ∃ A' c', e = .returned (.bool false) ∧
      Blk w' p 77 #[ph, .int .i64 q, .int .i64 0, .bool true, .int .i64 q, .int .i64 0, .int .u64 ts, .int .i64 0, .slice A' (n + ln) c'] ∧ SlO PairD.enc B 27 2 w' A' (n + ln) c' (prs ++ mps.take ln) ∧
      Chg (fun b => b = p ∨ b = r ∨ A.map (·.block) = some b) w w' := by
  obtain ⟨z1, z2⟩ := pageSize_bd ha
  have HO := Lib.hid ho
  have HBLE := Lib.hid hB
  have NR := Lib.hid (ho.neBlk hR (by decide))
  have NP := Lib.hid (ho.neBlk hP (by decide))
  have NM : Hid (A.map (·.block) ≠ some w.heap.size) := Lib.hid (fun e => Nat.lt_irrefl _ (ho.lt e).2)
  have HL : Hid (ln ≤ mps.length) := Lib.hid (by have := hm.1; omega)
  have HLN : Hid (((mps.take ln).flatMap PairD.enc).length = ln * 2) := Lib.hid (by rw [flat_len PairD.len, List.length_take, Nat.min_eq_left HL.out])
  have HRD : Hid (Rd (· < w.heap.size) w pA ((mps.take ln).flatMap PairD.enc)) := Lib.hid (by rw [← flat_take PairD.len]; exact (hm.2.take _).mono fun b hb => (hS b hb).1)
  have hcp := fun i => hP.cell i
  have hfp := fun i => hP.frozen i
  have hcr := fun i => hR.cell i
  have hfr := fun i => hR.frozen i
  have lp := hP.lt
  have lr := hR.lt
  have npr : p ≠ r := Blk.ne_ hP hR (by decide)
  have nrp : r ≠ p := npr.symm
  have HNP := Lib.hid npr
  have hn32 : n ≤ 32 := by omega
  have g0 : decide ((0 : Int) < (ln : Int)) = true := by simp; omega
  have g0' : decide (0 < ln) = true := by simp; omega
  have g1 : decide ((n : Int) + (ln : Int) < a.n) = false := by simp; omega
  have g2 : a.n ≤ (n : Int) + (ln : Int) := by omega
  clear h1
  clear ho hm hB
  obtain ⟨sz, hsz⟩ : ∃ sz : Int, sz = pageSize a.n n := ⟨_, rfl⟩
  rw [← hsz] at z1 z2 hln
  have HSZ := Lib.hid (show ∀ W, Blk W r 82 #[.int .i64 c, .int .i64 q, .slice Ao no co, .int .i64 a.k, .int .i64 a.node, .string a.key, .string a.to, .int .u64 a.ts, .int .i64 a.n, .slice Aq na cq, .int .u64 ts, .string key, .slice A n cap] → Calls Try.prog 91 #[.pointer (some ⟨r, 0, none⟩)] W fun e w' => e = .returned (.int .i64 sz) ∧ ∃ m, w' = W.drewN m from fun W h => by rw [hsz]; exact readingSize_any r W h (by omega) (by omega))
  clear hsz
  by_cases hle : (pn : Int) ≤ sz
  · obtain rfl : ln = pn := by omega
    clear hln
    go_enter Try.func93, Try.ntmps93
    go_wp2_with fail
    go_quiet ((go_at_call 91; exact Calls.quiet_of (HSZ.out _ (by exact hR.alloc _))))
    go_wp2_with (at_builtin; refine wpList_app _ ?_ (.tmp 22) (.tmp 23) eiPair ?_ (base := B) (A := A) (n := n) (c := cap) (xs := prs.flatMap PairD.enc) ?_ ?_ (S := (· < w.heap.size)) (A2 := pA) (m := ln) (c2 := pk) (news := (mps.take ln).flatMap PairD.enc) ?_ ?_ HLN.out (one_flat PairD.one _) (N := n + ln) rfl (by omega) ?_ ?_; rfl; rfl; rfl; exact (HO.out.alloc _).2; rfl; exact HRD.out.bel ((Bel.refl _ w).alloc (Nat.le_refl _) _); exact (by have := HBLE.out; simp; omega); intro A1 c1 w1 hown1 hgrow1 hat1; have hR1 : Blk w1 r 82 #[.int .i64 c, .int .i64 q, .slice Ao no co, .int .i64 a.k, .int .i64 a.node, .string a.key, .string a.to, .int .u64 a.ts, .int .i64 a.n, .slice Aq na cq, .int .u64 ts, .string key, .slice A n cap] := Blk.grown (by repeat (with_reducible first | exact hR | apply Blk.drew | apply Blk.drewN | apply Blk.alloc)) hgrow1 (Ne.symm NR.out); have hP1 : Blk w1 p 77 #[ph, .int .i64 q, .int .i64 waits, .bool false, .int .i64 0, .int .i64 0, .int .u64 0, .int .i64 0, .slice none 0 0] := Blk.grown (by repeat (with_reducible first | exact hP | apply Blk.drew | apply Blk.drewN | apply Blk.alloc)) hgrow1 (Ne.symm NP.out); have hM1 : Blk w1 w.heap.size 52 #[.int .i64 m.k, .int .i64 m.ep, .int .i64 m.req, .int .i64 m.ser, .bool true, .int .u64 m.ts, .int .u64 m.last, .int .i64 m.n, .int .i64 m.m, .int .i64 m.p, .int .i64 m.e, .string m.key, .string m.to, .int .i64 m.ce, .slice m.cA m.cn m.cc, .int .u64 m.cf, .int .i64 m.bc, .int .i64 m.bq, .slice m.bA m.bn m.bk, .slice m.eA m.en m.ek, .slice m.sA m.sn m.sk, .slice pA ln pk] := Blk.grown (by repeat (with_reducible first | exact Blk.new _ _ _ | apply Blk.drew | apply Blk.drewN | apply Blk.alloc)) hgrow1 (Ne.symm NM.out); have dR1 := fun i => hR1.cell i; have fR1 := fun i => hR1.frozen i; have dP1 := fun i => hP1.cell i; have fP1 := fun i => hP1.frozen i; have dM1 := fun i => hM1.cell i; replace hat1 := Lib.hid hat1)
    go_quiet (fail)
    go_wp2_with fail
    refine wp_quiet_tail 10 (by kernel_rfl) (by kernel_rfl) ?_
    simp only [List.take_succ_cons, List.take_zero, List.drop_succ_cons, List.drop_zero]
    repeat (any_goals (go_big_quiet_step (fail)))
    refine wpQuiet_nil ?_
    intro wq hwq
    obtain ⟨mq, rfl⟩ := hwq
    go_wp2_with fail
    refine (taskEnd_any p _ _ _ _ _ _ _ _ (ph := ph) (q := q) (waits := 0) (by apply Blk.conv; (repeat (first | (with_reducible first | exact hP1 | apply Blk.drew | apply Blk.drewN | apply Blk.alloc | apply Blk.set_) | (apply Blk.far (hp := HNP.out)))); rfl)).mono ?_
    rintro e w2 ⟨rfl, hP2, hc2⟩
    go_wp2_with fail
    go_ret
    have hC01 : Chg (fun b => A.map (·.block) = some b) w w1 := Chg.grown (by repeat (first | (with_reducible exact Chg.refl _ _) | (with_reducible apply Chg.drew) | (with_reducible apply Chg.drewN) | (with_reducible apply Chg.alloc) | (with_reducible apply Chg.setCell; rotate_left; (first | exact .inl rfl | exact .inr (Nat.le_refl _))))) hgrow1 (fun g hg => .inl hg)
    have hC12 : Chg (fun b => b = p ∨ b = r) w1 w2 := Chg.trans (by repeat (first | (with_reducible exact Chg.refl _ _) | (with_reducible apply Chg.drew) | (with_reducible apply Chg.drewN) | (with_reducible apply Chg.alloc) | (with_reducible apply Chg.setCell; rotate_left; (first | exact .inl (.inl rfl) | exact .inl (.inr rfl))))) hc2 (fun b e => .inl (.inl e))
    have hs1 : SlO PairD.enc B 27 2 w1 A1 (n + ln) c1 (prs ++ mps.take ln) := SlO.app (by rw [List.length_take, Nat.min_eq_left HL.out, HO.out.1]) hown1
    exact ⟨A1, c1, rfl, hP2, hs1.chg hC12 (fun b hb e => by rcases e with rfl | rfl; exact hs1.neBlk hP1 (by decide) hb; exact hs1.neBlk hR1 (by decide) hb), chg_two hC01 hC12⟩

  · obtain rfl : sz = (ln : Int) := by omega
    clear hln
    go_enter Try.func93, Try.ntmps93
    go_wp2_with fail
    go_quiet ((go_at_call 91; exact Calls.quiet_of (HSZ.out _ (by exact hR.alloc _))))
    go_wp2_with (at_builtin; refine wpList_app _ ?_ (.tmp 22) (.tmp 23) eiPair ?_ (base := B) (A := A) (n := n) (c := cap) (xs := prs.flatMap PairD.enc) ?_ ?_ (S := (· < w.heap.size)) (A2 := pA) (m := ln) (c2 := pk) (news := (mps.take ln).flatMap PairD.enc) ?_ ?_ HLN.out (one_flat PairD.one _) (N := n + ln) rfl (by omega) ?_ ?_; rfl; rfl; rfl; exact (HO.out.alloc _).2; rfl; exact HRD.out.bel ((Bel.refl _ w).alloc (Nat.le_refl _) _); exact (by have := HBLE.out; simp; omega); intro A1 c1 w1 hown1 hgrow1 hat1; have hR1 : Blk w1 r 82 #[.int .i64 c, .int .i64 q, .slice Ao no co, .int .i64 a.k, .int .i64 a.node, .string a.key, .string a.to, .int .u64 a.ts, .int .i64 a.n, .slice Aq na cq, .int .u64 ts, .string key, .slice A n cap] := Blk.grown (by repeat (with_reducible first | exact hR | apply Blk.drew | apply Blk.drewN | apply Blk.alloc)) hgrow1 (Ne.symm NR.out); have hP1 : Blk w1 p 77 #[ph, .int .i64 q, .int .i64 waits, .bool false, .int .i64 0, .int .i64 0, .int .u64 0, .int .i64 0, .slice none 0 0] := Blk.grown (by repeat (with_reducible first | exact hP | apply Blk.drew | apply Blk.drewN | apply Blk.alloc)) hgrow1 (Ne.symm NP.out); have hM1 : Blk w1 w.heap.size 52 #[.int .i64 m.k, .int .i64 m.ep, .int .i64 m.req, .int .i64 m.ser, .bool true, .int .u64 m.ts, .int .u64 m.last, .int .i64 m.n, .int .i64 m.m, .int .i64 m.p, .int .i64 m.e, .string m.key, .string m.to, .int .i64 m.ce, .slice m.cA m.cn m.cc, .int .u64 m.cf, .int .i64 m.bc, .int .i64 m.bq, .slice m.bA m.bn m.bk, .slice m.eA m.en m.ek, .slice m.sA m.sn m.sk, .slice pA pn pk] := Blk.grown (by repeat (with_reducible first | exact Blk.new _ _ _ | apply Blk.drew | apply Blk.drewN | apply Blk.alloc)) hgrow1 (Ne.symm NM.out); have dR1 := fun i => hR1.cell i; have fR1 := fun i => hR1.frozen i; have dP1 := fun i => hP1.cell i; have fP1 := fun i => hP1.frozen i; have dM1 := fun i => hM1.cell i; replace hat1 := Lib.hid hat1)
    go_quiet (fail)
    go_wp2_with fail
    refine wp_quiet_tail 10 (by kernel_rfl) (by kernel_rfl) ?_
    simp only [List.take_succ_cons, List.take_zero, List.drop_succ_cons, List.drop_zero]
    repeat (any_goals (go_big_quiet_step (fail)))
    refine wpQuiet_nil ?_
    intro wq hwq
    obtain ⟨mq, rfl⟩ := hwq
    go_wp2_with fail
    refine (taskEnd_any p _ _ _ _ _ _ _ _ (ph := ph) (q := q) (waits := 0) (by apply Blk.conv; (repeat (first | (with_reducible first | exact hP1 | apply Blk.drew | apply Blk.drewN | apply Blk.alloc | apply Blk.set_) | (apply Blk.far (hp := HNP.out)))); rfl)).mono ?_
    rintro e w2 ⟨rfl, hP2, hc2⟩
    go_wp2_with fail
    go_ret
    have hC01 : Chg (fun b => A.map (·.block) = some b) w w1 := Chg.grown (by repeat (first | (with_reducible exact Chg.refl _ _) | (with_reducible apply Chg.drew) | (with_reducible apply Chg.drewN) | (with_reducible apply Chg.alloc) | (with_reducible apply Chg.setCell; rotate_left; (first | exact .inl rfl | exact .inr (Nat.le_refl _))))) hgrow1 (fun g hg => .inl hg)
    have hC12 : Chg (fun b => b = p ∨ b = r) w1 w2 := Chg.trans (by repeat (first | (with_reducible exact Chg.refl _ _) | (with_reducible apply Chg.drew) | (with_reducible apply Chg.drewN) | (with_reducible apply Chg.alloc) | (with_reducible apply Chg.setCell; rotate_left; (first | exact .inl (.inl rfl) | exact .inl (.inr rfl))))) hc2 (fun b e => .inl (.inl e))
    have hs1 : SlO PairD.enc B 27 2 w1 A1 (n + ln) c1 (prs ++ mps.take ln) := SlO.app (by rw [List.length_take, Nat.min_eq_left HL.out, HO.out.1]) hown1
    exact ⟨A1, c1, rfl, hP2, hs1.chg hC12 (fun b hb e => by rcases e with rfl | rfl; exact hs1.neBlk hP1 (by decide) hb; exact hs1.neBlk hR1 (by decide) hb), chg_two hC01 hC12⟩


set_option maxHeartbeats 4000000 in
set_option maxRecDepth 100000 in
theorem page_more {c q : Int} {Ao : Option Addr} {no co : Nat} {a : AskD} {Aq : Option Addr} {na cq : Nat} {ts : Int} {key : ByteArray} {A : Option Addr} {n cap : Nat} {B : Nat} {ph : Value} {waits : Int} {S : Nat → Prop} {pA : Option Addr} {pn pk : Nat} (p r : Nat) (w : World) (m : MV) (mps prs : List PairD)
    (hP : Blk w p 77 #[ph, .int .i64 q, .int .i64 waits, .bool false, .int .i64 0, .int .i64 0, .int .u64 0, .int .i64 0, .slice none 0 0]) (hR : Blk w r 82 #[.int .i64 c, .int .i64 q, .slice Ao no co, .int .i64 a.k, .int .i64 a.node, .string a.key, .string a.to, .int .u64 a.ts, .int .i64 a.n, .slice Aq na cq, .int .u64 ts, .string key, .slice A n cap]) (ho : SlO PairD.enc B 27 2 w A n cap prs) (hm : SlR PairD.enc S w pA pn mps)
    (hS : ∀ b, S b → b < w.heap.size ∧ A.map (·.block) ≠ some b ∧ b ≠ p ∧ b ≠ r) (hmc : pn ≤ pk) (hmn : pn ≤ 1000000000) (ha : (n : Int) < a.n) (ha2 : a.n ≤ 32) (ln : Nat) (hln : (ln : Int) = min (pn : Int) (pageSize a.n n)) (h0 : 0 < ln) (h1 : (n + ln : Nat) < a.n) (x : PairD) (hx : mps[ln - 1]? = some x) (hne : (nextKey x.key).size ≠ 0) (hB : B ≤ w.heap.size) :
    Calls Try.prog 93 #[.pointer (some ⟨r, 0, none⟩), .pointer (some ⟨p, 0, none⟩), .agg #[.int .i64 m.k, .int .i64 m.ep, .int .i64 m.req, .int .i64 m.ser, .bool true, .int .u64 m.ts, .int .u64 m.last, .int .i64 m.n, .int .i64 m.m, .int .i64 m.p, .int .i64 m.e, .string m.key, .string m.to, .int .i64 m.ce, .slice m.cA m.cn m.cc, .int .u64 m.cf, .int .i64 m.bc, .int .i64 m.bq, .slice m.bA m.bn m.bk, .slice m.eA m.en m.ek, .slice m.sA m.sn m.sk, .slice pA pn pk]] w fun e w' => ∃ A' c', (e = .returned (.bool true) ∧
      Blk w' p 77 #[ph, .int .i64 q, .int .i64 0, .bool false, .int .i64 0, .int .i64 0, .int .u64 0, .int .i64 0, .slice none 0 0] ∧ Blk w' r 82 #[.int .i64 c, .int .i64 q, .slice Ao no co, .int .i64 a.k, .int .i64 a.node, .string a.key, .string a.to, .int .u64 a.ts, .int .i64 a.n, .slice Aq na cq, .int .u64 ts, .string (nextKey x.key), .slice A' (n + ln) c']) ∧ SlO PairD.enc B 27 2 w' A' (n + ln) c' (prs ++ mps.take ln) ∧
      Chg (fun b => b = p ∨ b = r ∨ A.map (·.block) = some b) w w' := by
  obtain ⟨z1, z2⟩ := pageSize_bd ha
  have HO := Lib.hid ho
  have HBLE := Lib.hid hB
  have NR := Lib.hid (ho.neBlk hR (by decide))
  have NP := Lib.hid (ho.neBlk hP (by decide))
  have NM : Hid (A.map (·.block) ≠ some w.heap.size) := Lib.hid (fun e => Nat.lt_irrefl _ (ho.lt e).2)
  have HL : Hid (ln ≤ mps.length) := Lib.hid (by have := hm.1; omega)
  have HLN : Hid (((mps.take ln).flatMap PairD.enc).length = ln * 2) := Lib.hid (by rw [flat_len PairD.len, List.length_take, Nat.min_eq_left HL.out])
  have HRD : Hid (Rd (· < w.heap.size) w pA ((mps.take ln).flatMap PairD.enc)) := Lib.hid (by rw [← flat_take PairD.len]; exact (hm.2.take _).mono fun b hb => (hS b hb).1)
  have hcp := fun i => hP.cell i
  have hfp := fun i => hP.frozen i
  have hcr := fun i => hR.cell i
  have hfr := fun i => hR.frozen i
  have lp := hP.lt
  have lr := hR.lt
  have npr : p ≠ r := Blk.ne_ hP hR (by decide)
  have nrp : r ≠ p := npr.symm
  have HNP := Lib.hid npr
  have hn32 : n ≤ 32 := by omega
  have g0 : decide ((0 : Int) < (ln : Int)) = true := by simp; omega
  have g0' : decide (0 < ln) = true := by simp; omega
  have g1 : decide ((n : Int) + (ln : Int) < a.n) = true := by simp; omega
  have g2 : (n : Int) + (ln : Int) < a.n := by omega
  have g3 : (0 : Int) ≤ (ln : Int) - 1 := by omega
  have g4 : (ln : Int) - 1 < (ln : Int) := by omega
  have g5 : ((ln : Int) - 1).toNat = ln - 1 := by omega
  obtain ⟨bb, oo, x', rfl, hbb, hx', k0, _⟩ := hm.pair (i := ln - 1) (by omega)
  obtain rfl : x = x' := Option.some.inj (hx.symm.trans hx')
  have hbS := hS _ hbb
  have HBB : Hid (some bb ≠ A.map (·.block)) := Lib.hid (Ne.symm hbS.2.1)
  have hbp : ¬ bb = p := hbS.2.2.1
  have hbr : ¬ bb = r := hbS.2.2.2
  have LBB := Lib.hid hbS.1
  clear hbS hx' h1
  have e1 : (nextKey x.key).toList.isEmpty = false := by rw [isEmpty_iff]; simpa using hne
  clear hne
  clear ho hm hB
  obtain ⟨sz, hsz⟩ : ∃ sz : Int, sz = pageSize a.n n := ⟨_, rfl⟩
  rw [← hsz] at z1 z2 hln
  have HSZ := Lib.hid (show ∀ W, Blk W r 82 #[.int .i64 c, .int .i64 q, .slice Ao no co, .int .i64 a.k, .int .i64 a.node, .string a.key, .string a.to, .int .u64 a.ts, .int .i64 a.n, .slice Aq na cq, .int .u64 ts, .string key, .slice A n cap] → Calls Try.prog 91 #[.pointer (some ⟨r, 0, none⟩)] W fun e w' => e = .returned (.int .i64 sz) ∧ ∃ m, w' = W.drewN m from fun W h => by rw [hsz]; exact readingSize_any r W h (by omega) (by omega))
  clear hsz
  by_cases hle : (pn : Int) ≤ sz
  · obtain rfl : ln = pn := by omega
    clear hln
    go_enter Try.func93, Try.ntmps93
    go_wp2_with fail
    go_quiet ((go_at_call 91; exact Calls.quiet_of (HSZ.out _ (by exact hR.alloc _))))
    go_wp2_with (at_builtin; refine wpList_app _ ?_ (.tmp 22) (.tmp 23) eiPair ?_ (base := B) (A := A) (n := n) (c := cap) (xs := prs.flatMap PairD.enc) ?_ ?_ (S := (· < w.heap.size)) (A2 := (some ⟨bb, oo, none⟩)) (m := ln) (c2 := pk) (news := (mps.take ln).flatMap PairD.enc) ?_ ?_ HLN.out (one_flat PairD.one _) (N := n + ln) rfl (by omega) ?_ ?_; rfl; rfl; rfl; exact (HO.out.alloc _).2; rfl; exact HRD.out.bel ((Bel.refl _ w).alloc (Nat.le_refl _) _); exact (by have := HBLE.out; simp; omega); intro A1 c1 w1 hown1 hgrow1 hat1; have hR1 : Blk w1 r 82 #[.int .i64 c, .int .i64 q, .slice Ao no co, .int .i64 a.k, .int .i64 a.node, .string a.key, .string a.to, .int .u64 a.ts, .int .i64 a.n, .slice Aq na cq, .int .u64 ts, .string key, .slice A n cap] := Blk.grown (by repeat (with_reducible first | exact hR | apply Blk.drew | apply Blk.drewN | apply Blk.alloc)) hgrow1 (Ne.symm NR.out); have hP1 : Blk w1 p 77 #[ph, .int .i64 q, .int .i64 waits, .bool false, .int .i64 0, .int .i64 0, .int .u64 0, .int .i64 0, .slice none 0 0] := Blk.grown (by repeat (with_reducible first | exact hP | apply Blk.drew | apply Blk.drewN | apply Blk.alloc)) hgrow1 (Ne.symm NP.out); have hM1 : Blk w1 w.heap.size 52 #[.int .i64 m.k, .int .i64 m.ep, .int .i64 m.req, .int .i64 m.ser, .bool true, .int .u64 m.ts, .int .u64 m.last, .int .i64 m.n, .int .i64 m.m, .int .i64 m.p, .int .i64 m.e, .string m.key, .string m.to, .int .i64 m.ce, .slice m.cA m.cn m.cc, .int .u64 m.cf, .int .i64 m.bc, .int .i64 m.bq, .slice m.bA m.bn m.bk, .slice m.eA m.en m.ek, .slice m.sA m.sn m.sk, .slice (some ⟨bb, oo, none⟩) ln pk] := Blk.grown (by repeat (with_reducible first | exact Blk.new _ _ _ | apply Blk.drew | apply Blk.drewN | apply Blk.alloc)) hgrow1 (Ne.symm NM.out); have dR1 := fun i => hR1.cell i; have fR1 := fun i => hR1.frozen i; have dP1 := fun i => hP1.cell i; have fP1 := fun i => hP1.frozen i; have dM1 := fun i => hM1.cell i; have dX1 : w1.cell? ⟨bb, oo + (ln - 1) * 2, none⟩ = some (.string x.key) := (World.cell?_of_block (a := ⟨bb, oo + (ln - 1) * 2, none⟩) ((hgrow1.block bb (by have := LBB.out; simp; omega) HBB.out).trans (Below.heap_alloc w _ bb LBB.out))).trans k0; replace hat1 := Lib.hid hat1)
    go_quiet (fail)
    go_wp2_with fail
    refine (keysNext_any _ _).mono ?_
    rintro e w2 ⟨rfl, hb2⟩
    have hR2 : Blk w2 r 82 #[.int .i64 c, .int .i64 q, .slice Ao no co, .int .i64 a.k, .int .i64 a.node, .string a.key, .string a.to, .int .u64 a.ts, .int .i64 a.n, .slice Aq na cq, .int .u64 ts, .string key, .slice A1 (n + ln) c1] := hb2.blk (by apply Blk.conv; (repeat (first | (with_reducible first | exact hR1 | apply Blk.drew | apply Blk.drewN | apply Blk.alloc | apply Blk.set_) | (apply Blk.far (hp := HNP.out.symm)))); rfl) (by have := hR1.lt; simpa [World.setCell] using this)
    have hP2 : Blk w2 p 77 #[ph, .int .i64 q, .int .i64 0, .bool false, .int .i64 0, .int .i64 0, .int .u64 0, .int .i64 0, .slice none 0 0] := hb2.blk (by apply Blk.conv; (repeat (first | (with_reducible first | exact hP1 | apply Blk.drew | apply Blk.drewN | apply Blk.alloc | apply Blk.set_) | (apply Blk.far (hp := HNP.out)))); rfl) (by have := hP1.lt; simpa [World.setCell] using this)
    have hC12' : Chg (fun b => b = p ∨ b = r) w1 w2 := Chg.call (by repeat (first | (with_reducible exact Chg.refl _ _) | (with_reducible apply Chg.drew) | (with_reducible apply Chg.drewN) | (with_reducible apply Chg.alloc) | (with_reducible apply Chg.setCell; rotate_left; (first | exact .inl (.inl rfl) | exact .inl (.inr rfl))))) hb2
    have hc12 := Lib.hid hC12'
    have dR2 := fun i => hR2.cell i
    have fR2 := fun i => hR2.frozen i
    have dP2 := fun i => hP2.cell i
    have fP2 := fun i => hP2.frozen i
    clear hb2 hC12'
    go_wp2_with fail
    go_ret
    have hC01 : Chg (fun b => A.map (·.block) = some b) w w1 := Chg.grown (by repeat (first | (with_reducible exact Chg.refl _ _) | (with_reducible apply Chg.drew) | (with_reducible apply Chg.drewN) | (with_reducible apply Chg.alloc) | (with_reducible apply Chg.setCell; rotate_left; (first | exact .inl rfl | exact .inr (Nat.le_refl _))))) hgrow1 (fun g hg => .inl hg)
    have hC12 : Chg (fun b => b = p ∨ b = r) w1 (w2.setCell ⟨r, 11, none⟩ (.string (nextKey x.key))) := Chg.trans hc12.out (S' := fun b => b = p ∨ b = r) (by repeat (first | (with_reducible exact Chg.refl _ _) | (with_reducible apply Chg.drew) | (with_reducible apply Chg.drewN) | (with_reducible apply Chg.alloc) | (with_reducible apply Chg.setCell; rotate_left; (first | exact .inl (.inl rfl) | exact .inl (.inr rfl))))) (fun b e => .inl e)
    have hs1 : SlO PairD.enc B 27 2 w1 A1 (n + ln) c1 (prs ++ mps.take ln) := SlO.app (by rw [List.length_take, Nat.min_eq_left HL.out, HO.out.1]) hown1
    exact ⟨A1, c1, ⟨rfl, (by apply Blk.conv; (repeat (first | (with_reducible first | exact hP2 | apply Blk.drew | apply Blk.drewN | apply Blk.alloc | apply Blk.set_) | (apply Blk.far (hp := HNP.out)))); rfl), (by apply Blk.conv; (repeat (first | (with_reducible first | exact hR2 | apply Blk.drew | apply Blk.drewN | apply Blk.alloc | apply Blk.set_) | (apply Blk.far (hp := HNP.out.symm)))); rfl)⟩, hs1.chg hC12 (fun b hb e => by rcases e with rfl | rfl; exact hs1.neBlk hP1 (by decide) hb; exact hs1.neBlk hR1 (by decide) hb), chg_two hC01 hC12⟩

  · obtain rfl : sz = (ln : Int) := by omega
    clear hln
    go_enter Try.func93, Try.ntmps93
    go_wp2_with fail
    go_quiet ((go_at_call 91; exact Calls.quiet_of (HSZ.out _ (by exact hR.alloc _))))
    go_wp2_with (at_builtin; refine wpList_app _ ?_ (.tmp 22) (.tmp 23) eiPair ?_ (base := B) (A := A) (n := n) (c := cap) (xs := prs.flatMap PairD.enc) ?_ ?_ (S := (· < w.heap.size)) (A2 := (some ⟨bb, oo, none⟩)) (m := ln) (c2 := pk) (news := (mps.take ln).flatMap PairD.enc) ?_ ?_ HLN.out (one_flat PairD.one _) (N := n + ln) rfl (by omega) ?_ ?_; rfl; rfl; rfl; exact (HO.out.alloc _).2; rfl; exact HRD.out.bel ((Bel.refl _ w).alloc (Nat.le_refl _) _); exact (by have := HBLE.out; simp; omega); intro A1 c1 w1 hown1 hgrow1 hat1; have hR1 : Blk w1 r 82 #[.int .i64 c, .int .i64 q, .slice Ao no co, .int .i64 a.k, .int .i64 a.node, .string a.key, .string a.to, .int .u64 a.ts, .int .i64 a.n, .slice Aq na cq, .int .u64 ts, .string key, .slice A n cap] := Blk.grown (by repeat (with_reducible first | exact hR | apply Blk.drew | apply Blk.drewN | apply Blk.alloc)) hgrow1 (Ne.symm NR.out); have hP1 : Blk w1 p 77 #[ph, .int .i64 q, .int .i64 waits, .bool false, .int .i64 0, .int .i64 0, .int .u64 0, .int .i64 0, .slice none 0 0] := Blk.grown (by repeat (with_reducible first | exact hP | apply Blk.drew | apply Blk.drewN | apply Blk.alloc)) hgrow1 (Ne.symm NP.out); have hM1 : Blk w1 w.heap.size 52 #[.int .i64 m.k, .int .i64 m.ep, .int .i64 m.req, .int .i64 m.ser, .bool true, .int .u64 m.ts, .int .u64 m.last, .int .i64 m.n, .int .i64 m.m, .int .i64 m.p, .int .i64 m.e, .string m.key, .string m.to, .int .i64 m.ce, .slice m.cA m.cn m.cc, .int .u64 m.cf, .int .i64 m.bc, .int .i64 m.bq, .slice m.bA m.bn m.bk, .slice m.eA m.en m.ek, .slice m.sA m.sn m.sk, .slice (some ⟨bb, oo, none⟩) pn pk] := Blk.grown (by repeat (with_reducible first | exact Blk.new _ _ _ | apply Blk.drew | apply Blk.drewN | apply Blk.alloc)) hgrow1 (Ne.symm NM.out); have dR1 := fun i => hR1.cell i; have fR1 := fun i => hR1.frozen i; have dP1 := fun i => hP1.cell i; have fP1 := fun i => hP1.frozen i; have dM1 := fun i => hM1.cell i; have dX1 : w1.cell? ⟨bb, oo + (ln - 1) * 2, none⟩ = some (.string x.key) := (World.cell?_of_block (a := ⟨bb, oo + (ln - 1) * 2, none⟩) ((hgrow1.block bb (by have := LBB.out; simp; omega) HBB.out).trans (Below.heap_alloc w _ bb LBB.out))).trans k0; replace hat1 := Lib.hid hat1)
    go_quiet (fail)
    go_wp2_with fail
    refine (keysNext_any _ _).mono ?_
    rintro e w2 ⟨rfl, hb2⟩
    have hR2 : Blk w2 r 82 #[.int .i64 c, .int .i64 q, .slice Ao no co, .int .i64 a.k, .int .i64 a.node, .string a.key, .string a.to, .int .u64 a.ts, .int .i64 a.n, .slice Aq na cq, .int .u64 ts, .string key, .slice A1 (n + ln) c1] := hb2.blk (by apply Blk.conv; (repeat (first | (with_reducible first | exact hR1 | apply Blk.drew | apply Blk.drewN | apply Blk.alloc | apply Blk.set_) | (apply Blk.far (hp := HNP.out.symm)))); rfl) (by have := hR1.lt; simpa [World.setCell] using this)
    have hP2 : Blk w2 p 77 #[ph, .int .i64 q, .int .i64 0, .bool false, .int .i64 0, .int .i64 0, .int .u64 0, .int .i64 0, .slice none 0 0] := hb2.blk (by apply Blk.conv; (repeat (first | (with_reducible first | exact hP1 | apply Blk.drew | apply Blk.drewN | apply Blk.alloc | apply Blk.set_) | (apply Blk.far (hp := HNP.out)))); rfl) (by have := hP1.lt; simpa [World.setCell] using this)
    have hC12' : Chg (fun b => b = p ∨ b = r) w1 w2 := Chg.call (by repeat (first | (with_reducible exact Chg.refl _ _) | (with_reducible apply Chg.drew) | (with_reducible apply Chg.drewN) | (with_reducible apply Chg.alloc) | (with_reducible apply Chg.setCell; rotate_left; (first | exact .inl (.inl rfl) | exact .inl (.inr rfl))))) hb2
    have hc12 := Lib.hid hC12'
    have dR2 := fun i => hR2.cell i
    have fR2 := fun i => hR2.frozen i
    have dP2 := fun i => hP2.cell i
    have fP2 := fun i => hP2.frozen i
    clear hb2 hC12'
    go_wp2_with fail
    go_ret
    have hC01 : Chg (fun b => A.map (·.block) = some b) w w1 := Chg.grown (by repeat (first | (with_reducible exact Chg.refl _ _) | (with_reducible apply Chg.drew) | (with_reducible apply Chg.drewN) | (with_reducible apply Chg.alloc) | (with_reducible apply Chg.setCell; rotate_left; (first | exact .inl rfl | exact .inr (Nat.le_refl _))))) hgrow1 (fun g hg => .inl hg)
    have hC12 : Chg (fun b => b = p ∨ b = r) w1 (w2.setCell ⟨r, 11, none⟩ (.string (nextKey x.key))) := Chg.trans hc12.out (S' := fun b => b = p ∨ b = r) (by repeat (first | (with_reducible exact Chg.refl _ _) | (with_reducible apply Chg.drew) | (with_reducible apply Chg.drewN) | (with_reducible apply Chg.alloc) | (with_reducible apply Chg.setCell; rotate_left; (first | exact .inl (.inl rfl) | exact .inl (.inr rfl))))) (fun b e => .inl e)
    have hs1 : SlO PairD.enc B 27 2 w1 A1 (n + ln) c1 (prs ++ mps.take ln) := SlO.app (by rw [List.length_take, Nat.min_eq_left HL.out, HO.out.1]) hown1
    exact ⟨A1, c1, ⟨rfl, (by apply Blk.conv; (repeat (first | (with_reducible first | exact hP2 | apply Blk.drew | apply Blk.drewN | apply Blk.alloc | apply Blk.set_) | (apply Blk.far (hp := HNP.out)))); rfl), (by apply Blk.conv; (repeat (first | (with_reducible first | exact hR2 | apply Blk.drew | apply Blk.drewN | apply Blk.alloc | apply Blk.set_) | (apply Blk.far (hp := HNP.out.symm)))); rfl)⟩, hs1.chg hC12 (fun b hb e => by rcases e with rfl | rfl; exact hs1.neBlk hP1 (by decide) hb; exact hs1.neBlk hR1 (by decide) hb), chg_two hC01 hC12⟩


set_option maxHeartbeats 4000000 in
set_option maxRecDepth 100000 in
theorem page_end4 {c q : Int} {Ao : Option Addr} {no co : Nat} {a : AskD} {Aq : Option Addr} {na cq : Nat} {ts : Int} {key : ByteArray} {A : Option Addr} {n cap : Nat} {B : Nat} {ph : Value} {waits : Int} {S : Nat → Prop} {pA : Option Addr} {pn pk : Nat} (p r : Nat) (w : World) (m : MV) (mps prs : List PairD)
    (hP : Blk w p 77 #[ph, .int .i64 q, .int .i64 waits, .bool false, .int .i64 0, .int .i64 0, .int .u64 0, .int .i64 0, .slice none 0 0]) (hR : Blk w r 82 #[.int .i64 c, .int .i64 q, .slice Ao no co, .int .i64 a.k, .int .i64 a.node, .string a.key, .string a.to, .int .u64 a.ts, .int .i64 a.n, .slice Aq na cq, .int .u64 ts, .string key, .slice A n cap]) (ho : SlO PairD.enc B 27 2 w A n cap prs) (hm : SlR PairD.enc S w pA pn mps)
    (hS : ∀ b, S b → b < w.heap.size ∧ A.map (·.block) ≠ some b ∧ b ≠ p ∧ b ≠ r) (hmc : pn ≤ pk) (hmn : pn ≤ 1000000000) (ha : (n : Int) < a.n) (ha2 : a.n ≤ 32) (ln : Nat) (hln : (ln : Int) = min (pn : Int) (pageSize a.n n)) (h0 : 0 < ln) (h1 : (n + ln : Nat) < a.n) (x : PairD) (hx : mps[ln - 1]? = some x) (hne : (nextKey x.key).size = 0) (hB : B ≤ w.heap.size) :
    Calls Try.prog 93 #[.pointer (some ⟨r, 0, none⟩), .pointer (some ⟨p, 0, none⟩), .agg #[.int .i64 m.k, .int .i64 m.ep, .int .i64 m.req, .int .i64 m.ser, .bool true, .int .u64 m.ts, .int .u64 m.last, .int .i64 m.n, .int .i64 m.m, .int .i64 m.p, .int .i64 m.e, .string m.key, .string m.to, .int .i64 m.ce, .slice m.cA m.cn m.cc, .int .u64 m.cf, .int .i64 m.bc, .int .i64 m.bq, .slice m.bA m.bn m.bk, .slice m.eA m.en m.ek, .slice m.sA m.sn m.sk, .slice pA pn pk]] w fun e w' => ∃ A' c', (e = .returned (.bool false) ∧
      Blk w' p 77 #[ph, .int .i64 q, .int .i64 0, .bool true, .int .i64 q, .int .i64 0, .int .u64 ts, .int .i64 0, .slice A' (n + ln) c']) ∧ SlO PairD.enc B 27 2 w' A' (n + ln) c' (prs ++ mps.take ln) ∧
      Chg (fun b => b = p ∨ b = r ∨ A.map (·.block) = some b) w w' := by
  obtain ⟨z1, z2⟩ := pageSize_bd ha
  have HO := Lib.hid ho
  have HBLE := Lib.hid hB
  have NR := Lib.hid (ho.neBlk hR (by decide))
  have NP := Lib.hid (ho.neBlk hP (by decide))
  have NM : Hid (A.map (·.block) ≠ some w.heap.size) := Lib.hid (fun e => Nat.lt_irrefl _ (ho.lt e).2)
  have HL : Hid (ln ≤ mps.length) := Lib.hid (by have := hm.1; omega)
  have HLN : Hid (((mps.take ln).flatMap PairD.enc).length = ln * 2) := Lib.hid (by rw [flat_len PairD.len, List.length_take, Nat.min_eq_left HL.out])
  have HRD : Hid (Rd (· < w.heap.size) w pA ((mps.take ln).flatMap PairD.enc)) := Lib.hid (by rw [← flat_take PairD.len]; exact (hm.2.take _).mono fun b hb => (hS b hb).1)
  have hcp := fun i => hP.cell i
  have hfp := fun i => hP.frozen i
  have hcr := fun i => hR.cell i
  have hfr := fun i => hR.frozen i
  have lp := hP.lt
  have lr := hR.lt
  have npr : p ≠ r := Blk.ne_ hP hR (by decide)
  have nrp : r ≠ p := npr.symm
  have HNP := Lib.hid npr
  have hn32 : n ≤ 32 := by omega
  have g0 : decide ((0 : Int) < (ln : Int)) = true := by simp; omega
  have g0' : decide (0 < ln) = true := by simp; omega
  have g1 : decide ((n : Int) + (ln : Int) < a.n) = true := by simp; omega
  have g2 : (n : Int) + (ln : Int) < a.n := by omega
  have g3 : (0 : Int) ≤ (ln : Int) - 1 := by omega
  have g4 : (ln : Int) - 1 < (ln : Int) := by omega
  have g5 : ((ln : Int) - 1).toNat = ln - 1 := by omega
  obtain ⟨bb, oo, x', rfl, hbb, hx', k0, _⟩ := hm.pair (i := ln - 1) (by omega)
  obtain rfl : x = x' := Option.some.inj (hx.symm.trans hx')
  have hbS := hS _ hbb
  have HBB : Hid (some bb ≠ A.map (·.block)) := Lib.hid (Ne.symm hbS.2.1)
  have hbp : ¬ bb = p := hbS.2.2.1
  have hbr : ¬ bb = r := hbS.2.2.2
  have LBB := Lib.hid hbS.1
  clear hbS hx' h1
  have e1 : (nextKey x.key).toList.isEmpty = true := by rw [isEmpty_iff]; simpa using hne
  have e2 : (nextKey x.key).toList = [] := by simpa using e1
  clear hne
  clear ho hm hB
  obtain ⟨sz, hsz⟩ : ∃ sz : Int, sz = pageSize a.n n := ⟨_, rfl⟩
  rw [← hsz] at z1 z2 hln
  have HSZ := Lib.hid (show ∀ W, Blk W r 82 #[.int .i64 c, .int .i64 q, .slice Ao no co, .int .i64 a.k, .int .i64 a.node, .string a.key, .string a.to, .int .u64 a.ts, .int .i64 a.n, .slice Aq na cq, .int .u64 ts, .string key, .slice A n cap] → Calls Try.prog 91 #[.pointer (some ⟨r, 0, none⟩)] W fun e w' => e = .returned (.int .i64 sz) ∧ ∃ m, w' = W.drewN m from fun W h => by rw [hsz]; exact readingSize_any r W h (by omega) (by omega))
  clear hsz
  by_cases hle : (pn : Int) ≤ sz
  · obtain rfl : ln = pn := by omega
    clear hln
    go_enter Try.func93, Try.ntmps93
    go_wp2_with fail
    go_quiet ((go_at_call 91; exact Calls.quiet_of (HSZ.out _ (by exact hR.alloc _))))
    go_wp2_with (at_builtin; refine wpList_app _ ?_ (.tmp 22) (.tmp 23) eiPair ?_ (base := B) (A := A) (n := n) (c := cap) (xs := prs.flatMap PairD.enc) ?_ ?_ (S := (· < w.heap.size)) (A2 := (some ⟨bb, oo, none⟩)) (m := ln) (c2 := pk) (news := (mps.take ln).flatMap PairD.enc) ?_ ?_ HLN.out (one_flat PairD.one _) (N := n + ln) rfl (by omega) ?_ ?_; rfl; rfl; rfl; exact (HO.out.alloc _).2; rfl; exact HRD.out.bel ((Bel.refl _ w).alloc (Nat.le_refl _) _); exact (by have := HBLE.out; simp; omega); intro A1 c1 w1 hown1 hgrow1 hat1; have hR1 : Blk w1 r 82 #[.int .i64 c, .int .i64 q, .slice Ao no co, .int .i64 a.k, .int .i64 a.node, .string a.key, .string a.to, .int .u64 a.ts, .int .i64 a.n, .slice Aq na cq, .int .u64 ts, .string key, .slice A n cap] := Blk.grown (by repeat (with_reducible first | exact hR | apply Blk.drew | apply Blk.drewN | apply Blk.alloc)) hgrow1 (Ne.symm NR.out); have hP1 : Blk w1 p 77 #[ph, .int .i64 q, .int .i64 waits, .bool false, .int .i64 0, .int .i64 0, .int .u64 0, .int .i64 0, .slice none 0 0] := Blk.grown (by repeat (with_reducible first | exact hP | apply Blk.drew | apply Blk.drewN | apply Blk.alloc)) hgrow1 (Ne.symm NP.out); have hM1 : Blk w1 w.heap.size 52 #[.int .i64 m.k, .int .i64 m.ep, .int .i64 m.req, .int .i64 m.ser, .bool true, .int .u64 m.ts, .int .u64 m.last, .int .i64 m.n, .int .i64 m.m, .int .i64 m.p, .int .i64 m.e, .string m.key, .string m.to, .int .i64 m.ce, .slice m.cA m.cn m.cc, .int .u64 m.cf, .int .i64 m.bc, .int .i64 m.bq, .slice m.bA m.bn m.bk, .slice m.eA m.en m.ek, .slice m.sA m.sn m.sk, .slice (some ⟨bb, oo, none⟩) ln pk] := Blk.grown (by repeat (with_reducible first | exact Blk.new _ _ _ | apply Blk.drew | apply Blk.drewN | apply Blk.alloc)) hgrow1 (Ne.symm NM.out); have dR1 := fun i => hR1.cell i; have fR1 := fun i => hR1.frozen i; have dP1 := fun i => hP1.cell i; have fP1 := fun i => hP1.frozen i; have dM1 := fun i => hM1.cell i; have dX1 : w1.cell? ⟨bb, oo + (ln - 1) * 2, none⟩ = some (.string x.key) := (World.cell?_of_block (a := ⟨bb, oo + (ln - 1) * 2, none⟩) ((hgrow1.block bb (by have := LBB.out; simp; omega) HBB.out).trans (Below.heap_alloc w _ bb LBB.out))).trans k0; replace hat1 := Lib.hid hat1)
    go_quiet (fail)
    go_wp2_with fail
    refine (keysNext_any _ _).mono ?_
    rintro e w2 ⟨rfl, hb2⟩
    have hR2 : Blk w2 r 82 #[.int .i64 c, .int .i64 q, .slice Ao no co, .int .i64 a.k, .int .i64 a.node, .string a.key, .string a.to, .int .u64 a.ts, .int .i64 a.n, .slice Aq na cq, .int .u64 ts, .string key, .slice A1 (n + ln) c1] := hb2.blk (by apply Blk.conv; (repeat (first | (with_reducible first | exact hR1 | apply Blk.drew | apply Blk.drewN | apply Blk.alloc | apply Blk.set_) | (apply Blk.far (hp := HNP.out.symm)))); rfl) (by have := hR1.lt; simpa [World.setCell] using this)
    have hP2 : Blk w2 p 77 #[ph, .int .i64 q, .int .i64 0, .bool false, .int .i64 0, .int .i64 0, .int .u64 0, .int .i64 0, .slice none 0 0] := hb2.blk (by apply Blk.conv; (repeat (first | (with_reducible first | exact hP1 | apply Blk.drew | apply Blk.drewN | apply Blk.alloc | apply Blk.set_) | (apply Blk.far (hp := HNP.out)))); rfl) (by have := hP1.lt; simpa [World.setCell] using this)
    have hC12' : Chg (fun b => b = p ∨ b = r) w1 w2 := Chg.call (by repeat (first | (with_reducible exact Chg.refl _ _) | (with_reducible apply Chg.drew) | (with_reducible apply Chg.drewN) | (with_reducible apply Chg.alloc) | (with_reducible apply Chg.setCell; rotate_left; (first | exact .inl (.inl rfl) | exact .inl (.inr rfl))))) hb2
    have hc12 := Lib.hid hC12'
    have dR2 := fun i => hR2.cell i
    have fR2 := fun i => hR2.frozen i
    have dP2 := fun i => hP2.cell i
    have fP2 := fun i => hP2.frozen i
    clear hb2 hC12'
    go_wp2_with fail
    refine wp_quiet_tail 10 (by kernel_rfl) (by kernel_rfl) ?_
    simp only [List.take_succ_cons, List.take_zero, List.drop_succ_cons, List.drop_zero]
    repeat (any_goals (go_big_quiet_step (fail)))
    refine wpQuiet_nil ?_
    intro wq hwq
    obtain ⟨mq, rfl⟩ := hwq
    go_wp2_with fail
    refine (taskEnd_any p _ _ _ _ _ _ _ _ (ph := ph) (q := q) (waits := 0) (by apply Blk.conv; (repeat (first | (with_reducible first | exact hP2 | apply Blk.drew | apply Blk.drewN | apply Blk.alloc | apply Blk.set_) | (apply Blk.far (hp := HNP.out)))); rfl)).mono ?_
    rintro e w3 ⟨rfl, hP3, hc3⟩
    go_wp2_with fail
    go_ret
    have hC01 : Chg (fun b => A.map (·.block) = some b) w w1 := Chg.grown (by repeat (first | (with_reducible exact Chg.refl _ _) | (with_reducible apply Chg.drew) | (with_reducible apply Chg.drewN) | (with_reducible apply Chg.alloc) | (with_reducible apply Chg.setCell; rotate_left; (first | exact .inl rfl | exact .inr (Nat.le_refl _))))) hgrow1 (fun g hg => .inl hg)
    have hC12 : Chg (fun b => b = p ∨ b = r) w1 w3 := Chg.trans hc12.out (Chg.trans (S := fun b => b = p ∨ b = r) (by repeat (first | (with_reducible exact Chg.refl _ _) | (with_reducible apply Chg.drew) | (with_reducible apply Chg.drewN) | (with_reducible apply Chg.alloc) | (with_reducible apply Chg.setCell; rotate_left; (first | exact .inl (.inl rfl) | exact .inl (.inr rfl))))) hc3 (fun b e => .inl (.inl e))) (fun b e => .inl e)
    have hs1 : SlO PairD.enc B 27 2 w1 A1 (n + ln) c1 (prs ++ mps.take ln) := SlO.app (by rw [List.length_take, Nat.min_eq_left HL.out, HO.out.1]) hown1
    exact ⟨A1, c1, ⟨rfl, hP3⟩, hs1.chg hC12 (fun b hb e => by rcases e with rfl | rfl; exact hs1.neBlk hP1 (by decide) hb; exact hs1.neBlk hR1 (by decide) hb), chg_two hC01 hC12⟩

  · obtain rfl : sz = (ln : Int) := by omega
    clear hln
    go_enter Try.func93, Try.ntmps93
    go_wp2_with fail
    go_quiet ((go_at_call 91; exact Calls.quiet_of (HSZ.out _ (by exact hR.alloc _))))
    go_wp2_with (at_builtin; refine wpList_app _ ?_ (.tmp 22) (.tmp 23) eiPair ?_ (base := B) (A := A) (n := n) (c := cap) (xs := prs.flatMap PairD.enc) ?_ ?_ (S := (· < w.heap.size)) (A2 := (some ⟨bb, oo, none⟩)) (m := ln) (c2 := pk) (news := (mps.take ln).flatMap PairD.enc) ?_ ?_ HLN.out (one_flat PairD.one _) (N := n + ln) rfl (by omega) ?_ ?_; rfl; rfl; rfl; exact (HO.out.alloc _).2; rfl; exact HRD.out.bel ((Bel.refl _ w).alloc (Nat.le_refl _) _); exact (by have := HBLE.out; simp; omega); intro A1 c1 w1 hown1 hgrow1 hat1; have hR1 : Blk w1 r 82 #[.int .i64 c, .int .i64 q, .slice Ao no co, .int .i64 a.k, .int .i64 a.node, .string a.key, .string a.to, .int .u64 a.ts, .int .i64 a.n, .slice Aq na cq, .int .u64 ts, .string key, .slice A n cap] := Blk.grown (by repeat (with_reducible first | exact hR | apply Blk.drew | apply Blk.drewN | apply Blk.alloc)) hgrow1 (Ne.symm NR.out); have hP1 : Blk w1 p 77 #[ph, .int .i64 q, .int .i64 waits, .bool false, .int .i64 0, .int .i64 0, .int .u64 0, .int .i64 0, .slice none 0 0] := Blk.grown (by repeat (with_reducible first | exact hP | apply Blk.drew | apply Blk.drewN | apply Blk.alloc)) hgrow1 (Ne.symm NP.out); have hM1 : Blk w1 w.heap.size 52 #[.int .i64 m.k, .int .i64 m.ep, .int .i64 m.req, .int .i64 m.ser, .bool true, .int .u64 m.ts, .int .u64 m.last, .int .i64 m.n, .int .i64 m.m, .int .i64 m.p, .int .i64 m.e, .string m.key, .string m.to, .int .i64 m.ce, .slice m.cA m.cn m.cc, .int .u64 m.cf, .int .i64 m.bc, .int .i64 m.bq, .slice m.bA m.bn m.bk, .slice m.eA m.en m.ek, .slice m.sA m.sn m.sk, .slice (some ⟨bb, oo, none⟩) pn pk] := Blk.grown (by repeat (with_reducible first | exact Blk.new _ _ _ | apply Blk.drew | apply Blk.drewN | apply Blk.alloc)) hgrow1 (Ne.symm NM.out); have dR1 := fun i => hR1.cell i; have fR1 := fun i => hR1.frozen i; have dP1 := fun i => hP1.cell i; have fP1 := fun i => hP1.frozen i; have dM1 := fun i => hM1.cell i; have dX1 : w1.cell? ⟨bb, oo + (ln - 1) * 2, none⟩ = some (.string x.key) := (World.cell?_of_block (a := ⟨bb, oo + (ln - 1) * 2, none⟩) ((hgrow1.block bb (by have := LBB.out; simp; omega) HBB.out).trans (Below.heap_alloc w _ bb LBB.out))).trans k0; replace hat1 := Lib.hid hat1)
    go_quiet (fail)
    go_wp2_with fail
    refine (keysNext_any _ _).mono ?_
    rintro e w2 ⟨rfl, hb2⟩
    have hR2 : Blk w2 r 82 #[.int .i64 c, .int .i64 q, .slice Ao no co, .int .i64 a.k, .int .i64 a.node, .string a.key, .string a.to, .int .u64 a.ts, .int .i64 a.n, .slice Aq na cq, .int .u64 ts, .string key, .slice A1 (n + ln) c1] := hb2.blk (by apply Blk.conv; (repeat (first | (with_reducible first | exact hR1 | apply Blk.drew | apply Blk.drewN | apply Blk.alloc | apply Blk.set_) | (apply Blk.far (hp := HNP.out.symm)))); rfl) (by have := hR1.lt; simpa [World.setCell] using this)
    have hP2 : Blk w2 p 77 #[ph, .int .i64 q, .int .i64 0, .bool false, .int .i64 0, .int .i64 0, .int .u64 0, .int .i64 0, .slice none 0 0] := hb2.blk (by apply Blk.conv; (repeat (first | (with_reducible first | exact hP1 | apply Blk.drew | apply Blk.drewN | apply Blk.alloc | apply Blk.set_) | (apply Blk.far (hp := HNP.out)))); rfl) (by have := hP1.lt; simpa [World.setCell] using this)
    have hC12' : Chg (fun b => b = p ∨ b = r) w1 w2 := Chg.call (by repeat (first | (with_reducible exact Chg.refl _ _) | (with_reducible apply Chg.drew) | (with_reducible apply Chg.drewN) | (with_reducible apply Chg.alloc) | (with_reducible apply Chg.setCell; rotate_left; (first | exact .inl (.inl rfl) | exact .inl (.inr rfl))))) hb2
    have hc12 := Lib.hid hC12'
    have dR2 := fun i => hR2.cell i
    have fR2 := fun i => hR2.frozen i
    have dP2 := fun i => hP2.cell i
    have fP2 := fun i => hP2.frozen i
    clear hb2 hC12'
    go_wp2_with fail
    refine wp_quiet_tail 10 (by kernel_rfl) (by kernel_rfl) ?_
    simp only [List.take_succ_cons, List.take_zero, List.drop_succ_cons, List.drop_zero]
    repeat (any_goals (go_big_quiet_step (fail)))
    refine wpQuiet_nil ?_
    intro wq hwq
    obtain ⟨mq, rfl⟩ := hwq
    go_wp2_with fail
    refine (taskEnd_any p _ _ _ _ _ _ _ _ (ph := ph) (q := q) (waits := 0) (by apply Blk.conv; (repeat (first | (with_reducible first | exact hP2 | apply Blk.drew | apply Blk.drewN | apply Blk.alloc | apply Blk.set_) | (apply Blk.far (hp := HNP.out)))); rfl)).mono ?_
    rintro e w3 ⟨rfl, hP3, hc3⟩
    go_wp2_with fail
    go_ret
    have hC01 : Chg (fun b => A.map (·.block) = some b) w w1 := Chg.grown (by repeat (first | (with_reducible exact Chg.refl _ _) | (with_reducible apply Chg.drew) | (with_reducible apply Chg.drewN) | (with_reducible apply Chg.alloc) | (with_reducible apply Chg.setCell; rotate_left; (first | exact .inl rfl | exact .inr (Nat.le_refl _))))) hgrow1 (fun g hg => .inl hg)
    have hC12 : Chg (fun b => b = p ∨ b = r) w1 w3 := Chg.trans hc12.out (Chg.trans (S := fun b => b = p ∨ b = r) (by repeat (first | (with_reducible exact Chg.refl _ _) | (with_reducible apply Chg.drew) | (with_reducible apply Chg.drewN) | (with_reducible apply Chg.alloc) | (with_reducible apply Chg.setCell; rotate_left; (first | exact .inl (.inl rfl) | exact .inl (.inr rfl))))) hc3 (fun b e => .inl (.inl e))) (fun b e => .inl e)
    have hs1 : SlO PairD.enc B 27 2 w1 A1 (n + ln) c1 (prs ++ mps.take ln) := SlO.app (by rw [List.length_take, Nat.min_eq_left HL.out, HO.out.1]) hown1
    exact ⟨A1, c1, ⟨rfl, hP3⟩, hs1.chg hC12 (fun b hb e => by rcases e with rfl | rfl; exact hs1.neBlk hP1 (by decide) hb; exact hs1.neBlk hR1 (by decide) hb), chg_two hC01 hC12⟩


end Go.Proofs.Ytmlnjeoibpffoaa
